/- Plain: what a look finds is what is found in the bytes, as far as the window goes. -/
import Derived.Test.YtdbiodofofnpgaaPj
namespace Go.Proofs.Ytdbiodofofnpgaa
open Go.RowKit

theorem look_find (win : Nat) (ls : List (List Item)) (R : List UInt8) (S : List UInt8) (N rd : Nat) (hS : S.length ≤ win) (hN : R.length + 1 ≤ N) :
    (lookGo win ls N S S.length R rd).arm = (findGo ls ((S ++ R).take win) (min (S ++ R).length win - S.length) (S.length + 1)).1 ∧ (lookGo win ls N S S.length R rd).gone = (findGo ls ((S ++ R).take win) (min (S ++ R).length win - S.length) (S.length + 1)).2.1 ∧
    (lookGo win ls N S S.length R rd).mtch = (findGo ls ((S ++ R).take win) (min (S ++ R).length win - S.length) (S.length + 1)).2.2 ∧ (lookGo win ls N S S.length R rd).full = (!(findGo ls ((S ++ R).take win) (min (S ++ R).length win - S.length) (S.length + 1)).2.2 && decide (win < (S ++ R).length)) := by
  induction R generalizing S N rd with
  | nil =>
    obtain ⟨n, rfl⟩ : ∃ n, N = n + 1 := ⟨N - 1, by simp at hN; omega⟩
    rw [lookGo_none]
    have e : min (S ++ []).length win - S.length = 0 := by simp; omega
    rw [e]
    refine ⟨rfl, rfl, rfl, ?_⟩
    have : decide (win < (S ++ ([] : List UInt8)).length) = false := decide_eq_false (by simp; omega)
    rw [this]; rfl
  | cons c R ih =>
    obtain ⟨n, rfl⟩ : ∃ n, N = n + 1 := ⟨N - 1, by simp at hN; omega⟩
    by_cases hw : S.length = win
    · rw [lookGo_full _ _ _ _ _ _ (by simp) hw]
      have e : min (S ++ c :: R).length win - S.length = 0 := by simp; omega
      rw [e]
      refine ⟨rfl, rfl, rfl, ?_⟩
      have : decide (win < (S ++ c :: R).length) = true := decide_eq_true (by simp; omega)
      rw [this]; rfl
    · rw [lookGo_new _ _ _ _ _ _ _ hw]
      have hl : (S ++ [c]).length = S.length + 1 := by simp
      have happ : S ++ c :: R = (S ++ [c]) ++ R := by simp
      obtain ⟨f, hf⟩ : ∃ f, min (S ++ c :: R).length win - S.length = f + 1 := ⟨min (S ++ c :: R).length win - S.length - 1, by simp; omega⟩
      have hf2 : min ((S ++ [c]) ++ R).length win - (S ++ [c]).length = f := by rw [← happ, hl]; omega
      have hds : dsM ls ((S ++ c :: R).take win) (S.length + 1) = dsM ls (S ++ [c]) (S.length + 1) := by
        rw [happ, List.take_append, List.take_of_length_le (by rw [hl]; omega)]
        exact dsM_app ls (S ++ [c]) _ (S.length + 1) (by rw [hl]; exact Nat.le_refl _)
      rw [hf, findGo, hds]
      by_cases ha : (dsM ls (S ++ [c]) (S.length + 1)).any id = true
      · rw [if_pos ha, if_pos ha]
        exact ⟨rfl, rfl, rfl, rfl⟩
      · rw [if_neg ha, if_neg ha]
        have := ih (S ++ [c]) n (rd + 1) (by rw [hl]; omega) (by simp at hN; omega)
        rw [hf2, hl, ← happ] at this
        exact this
theorem look_finds (win : Nat) (ls : List (List Item)) (W : List UInt8) :
    (lookM win ls [] 0 W).arm = (findM ls (W.take win)).1 ∧ (lookM win ls [] 0 W).gone = (findM ls (W.take win)).2.1 ∧ (lookM win ls [] 0 W).mtch = (findM ls (W.take win)).2.2 ∧ (lookM win ls [] 0 W).full = (!(findM ls (W.take win)).2.2 && decide (win < W.length)) := by
  have := look_find win ls W [] (lookN [] 0 W) 0 (Nat.zero_le _) (by unfold lookN; simp)
  simp only [List.nil_append, List.length_nil, Nat.sub_zero, Nat.zero_add] at this
  rw [show findGo ls (W.take win) (min W.length win) 1 = findM ls (W.take win) from by rw [findM, List.length_take, Nat.min_comm]] at this
  exact this
theorem look_keeps (win : Nat) (ls : List (List Item)) (W : List UInt8) : W.take (lookM win ls [] 0 W).gone ++ (lookM win ls [] 0 W).S ++ (lookM win ls [] 0 W).R = W ∧ (lookM win ls [] 0 W).read = (lookM win ls [] 0 W).gone + (lookM win ls [] 0 W).S.length := by
  have := lookGo_keeps win ls (lookN [] 0 W) [] 0 W 0 (Nat.le_refl _)
  simp only [List.nil_append, List.length_nil, Nat.zero_add, Nat.sub_zero] at this
  obtain ⟨h1, h2, -⟩ := this
  refine ⟨?_, h2.symm⟩
  rw [List.append_assoc]
  show W.take (lookGo win ls (lookN [] 0 W) [] 0 W 0).gone ++ _ = W
  rw [show (lookM win ls [] 0 W).S ++ (lookM win ls [] 0 W).R = W.drop (lookGo win ls (lookN [] 0 W) [] 0 W 0).gone from h1.symm, List.take_append_drop]
theorem look_bounds (win : Nat) (ls : List (List Item)) (W : List UInt8) : (lookM win ls [] 0 W).S.length ≤ win ∧ (lookM win ls [] 0 W).R.length ≤ W.length := by
  have := lookGo_bounds win ls (lookN [] 0 W) [] 0 W 0 (Nat.le_refl _) (Nat.zero_le _)
  exact ⟨this.2.1, this.2.2⟩
theorem findGo_le (ls : List (List Item)) (w : List UInt8) (f n : Nat) (hn : 1 ≤ n) : (findGo ls w f n).2.1 ≤ n + f - 1 := by
  induction f generalizing n with
  | zero => exact Nat.zero_le _
  | succ f ih =>
    rw [findGo]
    split
    · show n ≤ _; omega
    · have := ih (n + 1) (by omega); omega
theorem findM_le (ls : List (List Item)) (w : List UInt8) : (findM ls w).2.1 ≤ w.length := by
  have := findGo_le ls w w.length 1 (Nat.le_refl _)
  unfold findM; omega
theorem peekT_all (R : List UInt8) (h : R.length ≤ 32) (k : Nat) (hk : 32 ≤ k) : peekT R 0 (k : Int) = R := by
  unfold peekT
  by_cases h0 : R.length = 0
  · rw [if_pos (by right; right; omega)]; exact (List.eq_nil_of_length_eq_zero h0).symm
  · rw [if_neg (by omega)]
    simp only [Int.toNat_zero, List.drop_zero, Nat.sub_zero, Int.toNat_natCast]
    exact List.take_of_length_le (by omega)
end Go.Proofs.Ytdbiodofofnpgaa
