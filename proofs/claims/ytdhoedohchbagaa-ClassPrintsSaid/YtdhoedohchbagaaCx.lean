/- Plain: a set's text, byte by byte, and that it is read back. -/
import Derived.Test.YtdhoedohchbagaaCu
namespace Go.Proofs.Ytdhoedohchbagaa
open Go.RowKit

def flagEnd (x : BSet) : Nat → Nat → Nat
  | 0, k => k
  | f + 1, k => if k < 256 ∧ x.has k = true then flagEnd x f (k + 1) else k
/-- Where the run of a set ends that begins at k. -/
def runEnd (x : BSet) (k : Nat) : Nat := flagEnd x (256 - k) k
theorem runEnd_step (x : BSet) (k : Nat) (h : k < 256) (hx : x.has k = true) : runEnd x k = runEnd x (k + 1) := by
  unfold runEnd
  rw [show 256 - k = (256 - (k + 1)) + 1 from by omega, flagEnd, if_pos ⟨h, hx⟩]
theorem runEnd_stop (x : BSet) (k : Nat) (h : ¬ (k < 256 ∧ x.has k = true)) : runEnd x k = k := by
  unfold runEnd
  cases 256 - k with
  | zero => rfl
  | succ f => rw [flagEnd, if_neg h]
theorem runEnd_facts (x : BSet) (n k : Nat) (hn : 256 - k = n) (hk : k ≤ 256) : k ≤ runEnd x k ∧ runEnd x k ≤ 256 ∧ (∀ c, k ≤ c → c < runEnd x k → x.has c = true) ∧ (runEnd x k < 256 → x.has (runEnd x k) = false) := by
  induction n generalizing k with
  | zero =>
    rw [runEnd_stop x k (by omega)]
    exact ⟨Nat.le_refl _, hk, fun c h1 h2 => by omega, fun h => by omega⟩
  | succ n ih =>
    by_cases h : x.has k = true
    · rw [runEnd_step x k (by omega) h]
      obtain ⟨h1, h2, h3, h4⟩ := ih (k + 1) (by omega) (by omega)
      refine ⟨by omega, h2, fun c hc1 hc2 => ?_, h4⟩
      by_cases he : c = k
      · rw [he]; exact h
      · exact h3 c (by omega) hc2
    · rw [runEnd_stop x k (fun hh => h hh.2)]
      exact ⟨Nat.le_refl _, hk, fun c h1 h2 => by omega, fun _ => by simpa using h⟩

def prM (x : BSet) : Nat → Nat → List Nat
  | 0, _ => []
  | f + 1, b =>
    if b < 256 then
      if 2 < runEnd x b - b then signM b ++ ([45] ++ (signM (runEnd x b - 1) ++ prM x f (runEnd x b)))
      else if b < runEnd x b then signM b ++ prM x f (b + 1) else prM x f (b + 1)
    else []
theorem prM_fuel (x : BSet) (f f' b : Nat) (h : 256 - b ≤ f) (h' : 256 - b ≤ f') : prM x f b = prM x f' b := by
  induction f generalizing f' b with
  | zero =>
    cases f' with
    | zero => rfl
    | succ f' => rw [prM, prM, if_neg (by omega)]
  | succ f ih =>
    cases f' with
    | zero => rw [prM, prM, if_neg (by omega)]
    | succ f' =>
      rw [prM, prM]
      split
      · split
        · rw [ih f' _ (by omega) (by omega)]
        · rw [ih f' _ (by omega) (by omega)]
      · rfl
/-- The text of a set's bytes from b on. -/
def prA (x : BSet) (b : Nat) : List Nat := prM x 256 b
theorem prA_end (x : BSet) (b : Nat) (h : 256 ≤ b) : prA x b = [] := by
  unfold prA; rw [prM_fuel x 256 0 b (by omega) (by omega)]; rfl
theorem prA_step (x : BSet) (b : Nat) (h : b < 256) : prA x b =
    if 2 < runEnd x b - b then signM b ++ ([45] ++ (signM (runEnd x b - 1) ++ prA x (runEnd x b)))
    else if b < runEnd x b then signM b ++ prA x (b + 1) else prA x (b + 1) := by
  unfold prA
  rw [prM_fuel x 256 (255 - b + 1) b (by omega) (by omega), prM, if_pos h]
  split
  · rw [prM_fuel x (255 - b) 256 (runEnd x b) (by omega) (by omega)]
  · rw [prM_fuel x (255 - b) 256 (b + 1) (by omega) (by omega)]

/-! The class package's own way: over the list of all bytes. -/
/-- The bytes of a set from b on. -/
def risen (x : BSet) (b : Nat) : List Nat := (List.range' b (256 - b)).filter x.has
theorem risen_end (x : BSet) (b : Nat) (h : 256 ≤ b) : risen x b = [] := by unfold risen; rw [show 256 - b = 0 from by omega]; rfl
theorem risen_step (x : BSet) (b : Nat) (h : b < 256) : risen x b = if x.has b = true then b :: risen x (b + 1) else risen x (b + 1) := by
  unfold risen
  rw [show 256 - b = (256 - (b + 1)) + 1 from by omega, List.range'_succ, List.filter_cons]
theorem risen_le (x : BSet) (b : Nat) : ∀ c ∈ risen x b, b ≤ c ∧ c < 256 := by
  intro c hc
  unfold risen at hc
  rw [List.mem_filter, List.mem_range'_1] at hc
  omega
theorem bytes_risen (x : BSet) : (bytesM x).map UInt8.toNat = risen x 0 := by
  unfold bytesM bytesTo risen
  rw [List.map_map, List.range_eq_range']
  have : ∀ l : List Nat, (∀ c ∈ l, c < 256) → l.map (UInt8.toNat ∘ UInt8.ofNat) = l := by
    intro l hl
    induction l with
    | nil => rfl
    | cons a l ih =>
      rw [List.map_cons, ih (fun c hc => hl c (List.mem_cons_of_mem _ hc))]
      congr 1
      exact UInt8.toNat_ofNat_of_lt' (hl a List.mem_cons_self)
  exact this _ (fun c hc => by rw [List.mem_filter, List.mem_range'_1] at hc; omega)
theorem drop_getD {l : List Nat} {i a : Nat} {r : List Nat} (h : l.drop i = a :: r) : i < l.length ∧ l.getD i 0 = a ∧ l.drop (i + 1) = r := by
  have hi : i < l.length := by
    rcases Nat.lt_or_ge i l.length with h1 | h1
    · exact h1
    · rw [List.drop_eq_nil_of_le h1] at h; cases h
  rw [List.drop_eq_getElem_cons hi] at h
  injection h with h1 h2
  exact ⟨hi, by simp [List.getD, hi, h1], h2⟩
/-- A run of the list is one of the set. -/
theorem runK_risen (x : BSet) (l : List Nat) (n b i : Nat) (hn : 256 - b = n) (hb : b ≤ 256) (hi : 0 < i) (hp : l.getD (i - 1) 0 + 1 = b) (hd : l.drop i = risen x b) :
    runK l l.length i - i = runEnd x b - b ∧ l.drop (runK l l.length i) = risen x (runEnd x b) ∧ l.getD (runK l l.length i - 1) 0 + 1 = runEnd x b := by
  induction n generalizing b i with
  | zero =>
    have h0 : l.drop i = [] := by rw [hd, risen_end x b (by omega)]
    have hl : l.length ≤ i := by rwa [List.drop_eq_nil_iff] at h0
    rw [runK_stop l i (by omega), runEnd_stop x b (by omega)]
    exact ⟨by omega, hd, hp⟩
  | succ n ih =>
    rw [risen_step x b (by omega)] at hd
    by_cases h : x.has b = true
    · rw [if_pos h] at hd
      obtain ⟨h1, h2, h3⟩ := drop_getD hd
      rw [runK_step l i h1 (by rw [h2, hp]; omega), runEnd_step x b (by omega) h]
      obtain ⟨j1, j2, j3⟩ := ih (b + 1) (i + 1) (by omega) (by omega) (by omega) (by rw [Nat.add_sub_cancel, h2]) h3
      have := (runEnd_facts x _ (b + 1) rfl (by omega)).1
      have := runK_ge l l.length (i + 1)
      exact ⟨by omega, j2, j3⟩
    · rw [if_neg h] at hd
      have hne : ¬ (i < l.length ∧ l.getD i 0 = (l.getD (i - 1) 0 + 1) % 256) := by
        rintro ⟨h1, h2⟩
        have hm : l.getD i 0 ∈ risen x (b + 1) := by
          rw [← hd, List.drop_eq_getElem_cons h1, List.getD, List.getElem?_eq_getElem h1]
          exact List.mem_cons_self
        have := risen_le x _ _ hm
        rw [hp] at h2
        omega
      rw [runK_stop l i hne, runEnd_stop x b (fun hh => h hh.2)]
      refine ⟨by omega, ?_, hp⟩
      rw [risen_step x b (by omega), if_neg h]; exact hd
/-- Both ways give one text. -/
theorem parts_prA (x : BSet) (l : List Nat) (n b i : Nat) (hn : 256 - b = n) (hb : b ≤ 256) (hd : l.drop i = risen x b) : partsA l i = prA x b := by
  induction n using Nat.strongRecOn generalizing b i with
  | _ n ih =>
    by_cases hb2 : 256 ≤ b
    · rw [prA_end x b hb2, partsA_end]
      rw [risen_end x b hb2] at hd
      rwa [List.drop_eq_nil_iff] at hd
    · rw [prA_step x b (by omega)]
      rw [risen_step x b (by omega)] at hd
      by_cases h : x.has b = true
      · rw [if_pos h] at hd
        obtain ⟨h1, h2, h3⟩ := drop_getD hd
        obtain ⟨j1, j2, j3⟩ := runK_risen x l _ (b + 1) (i + 1) rfl (by omega) (by omega) (by rw [Nat.add_sub_cancel, h2]) h3
        rw [← runEnd_step x b (by omega) h] at j1 j2 j3
        obtain ⟨f1, f2, -, -⟩ := runEnd_facts x _ (b + 1) rfl (by omega)
        rw [← runEnd_step x b (by omega) h] at f1 f2
        have hge := runK_ge l l.length (i + 1)
        by_cases h3' : 3 ≤ runK l l.length (i + 1) - i
        · rw [partsA_long l i h1 h3', if_pos (by omega), h2, ih (256 - runEnd x b) (by omega) (runEnd x b) _ rfl f2 j2, show l.getD (runK l l.length (i + 1) - 1) 0 = runEnd x b - 1 from by omega]
        · rw [partsA_short l i h1 h3', if_neg (by omega), if_pos (by omega), h2, ih (256 - (b + 1)) (by omega) (b + 1) _ rfl (by omega) h3]
      · rw [if_neg h] at hd
        rw [runEnd_stop x b (fun hh => h hh.2), if_neg (by omega), if_neg (by omega)]
        exact ih (256 - (b + 1)) (by omega) (b + 1) _ rfl (by omega) hd

/-- Whether a set is printed the other way round. -/
def prNot (x : BSet) : Bool := (bytesM x).length == 0 || decide (128 < (bytesM x).length) && decide ((bytesM x).length < 256)
/-- A set's text. -/
def textM (x : BSet) : List Nat := if prNot x = true then [91, 94] ++ prA (notM x) 0 ++ [93] else [91] ++ prA x 0 ++ [93]
theorem parts_bytes (x : BSet) : partsA ((bytesM x).map UInt8.toNat) 0 = prA x 0 := parts_prA x _ 256 0 0 rfl (by omega) (by rw [List.drop_zero, bytes_risen])
end Go.Proofs.Ytdhoedohchbagaa
