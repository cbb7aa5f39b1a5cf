/- Plain: the parts of a set's text. -/
import Derived.Test.YtdhoedohchbagaaCo
namespace Go.Proofs.Ytdhoedohchbagaa
open Go.RowKit

/-- Where a run ends. -/
def runK (l : List Nat) : Nat → Nat → Nat
  | 0, k => k
  | f + 1, k => if k < l.length ∧ l.getD k 0 = (l.getD (k - 1) 0 + 1) % 256 then runK l f (k + 1) else k
theorem runK_ge (l : List Nat) (f k : Nat) : k ≤ runK l f k := by
  induction f generalizing k with
  | zero => exact Nat.le_refl _
  | succ f ih =>
    rw [runK]
    split
    · have := ih (k + 1); omega
    · exact Nat.le_refl _
theorem runK_le (l : List Nat) (f k : Nat) (h : k ≤ l.length) : runK l f k ≤ l.length := by
  induction f generalizing k with
  | zero => exact h
  | succ f ih =>
    rw [runK]
    split
    · rename_i hc; exact ih (k + 1) hc.1
    · exact h
theorem runK_fuel (l : List Nat) (f f' k : Nat) (h : l.length - k ≤ f) (h' : l.length - k ≤ f') : runK l f k = runK l f' k := by
  induction f generalizing f' k with
  | zero =>
    cases f' with
    | zero => rfl
    | succ f' => rw [runK, runK, if_neg (fun hc => by omega)]
  | succ f ih =>
    cases f' with
    | zero => rw [runK, runK, if_neg (fun hc => by omega)]
    | succ f' =>
      rw [runK, runK]
      split
      · exact ih f' (k + 1) (by omega) (by omega)
      · rfl

/-- A set's parts, from a place on. -/
def partsM (l : List Nat) : Nat → Nat → List Nat
  | 0, _ => []
  | f + 1, i =>
    if i < l.length then
      if 3 ≤ runK l l.length (i + 1) - i then signM (l.getD i 0) ++ ([45] ++ (signM (l.getD (runK l l.length (i + 1) - 1) 0) ++ partsM l f (runK l l.length (i + 1))))
      else signM (l.getD i 0) ++ partsM l f (i + 1)
    else []
theorem partsM_fuel (l : List Nat) (f f' i : Nat) (h : l.length - i ≤ f) (h' : l.length - i ≤ f') : partsM l f i = partsM l f' i := by
  induction f generalizing f' i with
  | zero =>
    cases f' with
    | zero => rfl
    | succ f' => rw [partsM, partsM, if_neg (by omega)]
  | succ f ih =>
    cases f' with
    | zero => rw [partsM, partsM, if_neg (by omega)]
    | succ f' =>
      have hk := runK_ge l l.length (i + 1)
      rw [partsM, partsM]
      split
      · split
        · rw [ih f' _ (by omega) (by omega)]
        · rw [ih f' _ (by omega) (by omega)]
      · rfl
/-- All parts from a place on. -/
def partsA (l : List Nat) (i : Nat) : List Nat := partsM l l.length i
theorem partsA_end (l : List Nat) (i : Nat) (h : l.length ≤ i) : partsA l i = [] := by
  unfold partsA
  rw [partsM_fuel l l.length 0 i (by omega) (by omega)]; rfl
theorem partsA_long (l : List Nat) (i : Nat) (h : i < l.length) (h3 : 3 ≤ runK l l.length (i + 1) - i) :
    partsA l i = signM (l.getD i 0) ++ ([45] ++ (signM (l.getD (runK l l.length (i + 1) - 1) 0) ++ partsA l (runK l l.length (i + 1)))) := by
  have hk := runK_ge l l.length (i + 1)
  unfold partsA
  rw [partsM_fuel l l.length (l.length - i - 1 + 1) i (by omega) (by omega), partsM, if_pos h, if_pos h3, partsM_fuel l (l.length - i - 1) l.length (runK l l.length (i + 1)) (by omega) (by omega)]
theorem partsA_short (l : List Nat) (i : Nat) (h : i < l.length) (h3 : ¬ 3 ≤ runK l l.length (i + 1) - i) :
    partsA l i = signM (l.getD i 0) ++ partsA l (i + 1) := by
  unfold partsA
  rw [partsM_fuel l l.length (l.length - i - 1 + 1) i (by omega) (by omega), partsM, if_pos h, if_neg h3, partsM_fuel l (l.length - i - 1) l.length (i + 1) (by omega) (by omega)]
theorem runK_step (l : List Nat) (k : Nat) (h : k < l.length) (he : l.getD k 0 = (l.getD (k - 1) 0 + 1) % 256) : runK l l.length k = runK l l.length (k + 1) := by
  rw [runK_fuel l l.length (l.length - k - 1 + 1) k (by omega) (by omega), runK, if_pos ⟨h, he⟩, runK_fuel l (l.length - k - 1) l.length (k + 1) (by omega) (by omega)]
theorem runK_stop (l : List Nat) (k : Nat) (h : ¬ (k < l.length ∧ l.getD k 0 = (l.getD (k - 1) 0 + 1) % 256)) : runK l l.length k = k := by
  cases hl : l.length with
  | zero => rfl
  | succ n => rw [runK, if_neg h]
end Go.Proofs.Ytdhoedohchbagaa
