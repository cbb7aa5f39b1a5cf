/- The reference's states, in plain Lean: flags, and their word. No program in sight. -/
import Derived.Test.YtmcacdegikgmnaaTab
namespace Go.Proofs.Ytmcacdegikgmnaa
open Go.RowKit

def numsW (l : List Item) (x : BitVec 64) : List Bool := (List.range (l.length + 1)).map (clo (runB l) x.getLsbD)
theorem numsW_length (l : List Item) (x : BitVec 64) : (numsW l x).length = l.length + 1 := by simp [numsW]
theorem numsW_get (l : List Item) (x : BitVec 64) (k : Nat) (h : k ≤ l.length) : (numsW l x).getD k false = clo (runB l) x.getLsbD k := by
  simp [numsW, List.getD, show k < l.length + 1 by omega]
/-- The word of flags. -/
def packW (fl : List Bool) : BitVec 64 := bv fun k => fl.getD k false
/-- The word of the highest m flags. -/
def packN (fl : List Bool) : Nat → Nat
  | 0 => 0
  | m + 1 => 2 * packN fl m + b2n (fl.getD (fl.length - 1 - m) false)
theorem packN_lt (fl : List Bool) (m : Nat) : packN fl m < 2 ^ m := by
  induction m with
  | zero => simp [packN]
  | succ m ih =>
    have : b2n (fl.getD (fl.length - 1 - m) false) ≤ 1 := by unfold b2n; split <;> omega
    simp only [packN, Nat.pow_succ]; omega
theorem packN_bit (fl : List Bool) (m k : Nat) (hk : k < m) (hm : m ≤ fl.length) : (packN fl m).testBit k = fl.getD (fl.length - m + k) false := by
  induction m generalizing k with
  | zero => omega
  | succ m ih =>
    have hb : (b2n (fl.getD (fl.length - 1 - m) false)) < 2 := by unfold b2n; split <;> omega
    cases k with
    | zero =>
      simp only [packN, Nat.testBit_zero, Nat.add_zero]
      rw [show fl.length - (m + 1) = fl.length - 1 - m from by omega]
      unfold b2n
      cases fl.getD (fl.length - 1 - m) false <;> simp <;> omega
    | succ k =>
      rw [Nat.testBit_succ, show packN fl (m + 1) / 2 = packN fl m from by simp only [packN]; omega, ih k (by omega) (by omega)]
      congr 1; omega
theorem packN_all (fl : List Bool) (h : fl.length ≤ 64) : packN fl fl.length = (packW fl).toNat := by
  have h1 := packN_lt fl fl.length
  have h2 : 2 ^ fl.length ≤ 2 ^ 64 := Nat.pow_le_pow_right (by omega) h
  have : packW fl = BitVec.ofNat 64 (packN fl fl.length) := by
    refine bv_ext fun k hk => ?_
    unfold packW
    rw [bv_bit _ _ hk, BitVec.getLsbD_ofNat]
    simp only [hk, decide_true, Bool.true_and]
    by_cases hl : k < fl.length
    · rw [packN_bit fl fl.length k hl (Nat.le_refl _), Nat.sub_self, Nat.zero_add]
    · rw [List.getD, List.getElem?_eq_none (by omega)]
      symm
      have h3 : packN fl fl.length < 2 ^ k := Nat.lt_of_lt_of_le h1 (Nat.pow_le_pow_right (by omega) (by omega))
      exact Nat.testBit_lt_two_pow h3
  rw [this, ofNat_toNat64 _ (by omega)]
theorem pack_nums (l : List Item) (x : BitVec 64) : packW (numsW l x) = closeW l x := by
  refine bv_ext fun k hk => ?_
  unfold packW
  rw [bv_bit _ _ hk, closeW_bit l x k hk]
  by_cases h : k ≤ l.length
  · rw [numsW_get l x k h]; simp [h]
  · rw [List.getD, List.getElem?_eq_none (by rw [numsW_length]; omega)]; simp [h]
theorem clo_congr (runs x y : Nat → Bool) (k : Nat) (h : ∀ j, j ≤ k → x j = y j) : clo runs x k = clo runs y k := by
  induction k with
  | zero => exact h 0 (Nat.le_refl _)
  | succ k ih => simp only [clo]; rw [h (k + 1) (Nat.le_refl _), ih fun j hj => h j (by omega)]
theorem close_congr (l : List Item) (x y : BitVec 64) (h : ∀ k, k < 64 → k ≤ l.length → x.getLsbD k = y.getLsbD k) : closeW l x = closeW l y := by
  refine bv_ext fun k hk => ?_
  rw [closeW_bit l x k hk, closeW_bit l y k hk]
  by_cases hkl : k ≤ l.length
  · rw [clo_congr _ _ _ _ fun j hj => h j (by omega) (by omega)]
  · simp [hkl]
theorem close_close (l : List Item) (x : BitVec 64) : closeW l (closeW l x) = closeW l x := by
  refine bv_ext fun k hk => ?_
  rw [closeW_bit l _ k hk, closeW_bit l x k hk]
  by_cases hkl : k ≤ l.length
  · rw [clo_closed]
    · rw [closeW_bit l x k hk]; simp [hkl]
    · intro j hj hx hr
      rw [closeW_bit l x j (by omega), Bool.and_eq_true] at hx
      rw [closeW_bit l x (j + 1) (by omega)]
      simp only [clo, hx.2, hr, Bool.and_self, Bool.or_true, Bool.and_true, decide_eq_true_eq]; omega
  · simp [hkl]

/-- What the reference marks, item by item, up to the item k. -/
def marks (l : List Item) (was : List Bool) (b : Nat) : Nat → List Bool
  | 0 => List.replicate (l.length + 1) false
  | k + 1 =>
    let m := if was.getD k false && runB l k then (marks l was b k).set k true else marks l was b k
    if was.getD k false && !runB l k && hasB l b k then m.set (k + 1) true else m
theorem marks_length (l : List Item) (was : List Bool) (b k : Nat) : (marks l was b k).length = l.length + 1 := by
  induction k with
  | zero => simp [marks]
  | succ k ih => simp only [marks]; split <;> split <;> simp [ih]
theorem getD_set (L : List Bool) (i j : Nat) (v : Bool) (h : i < L.length) : (L.set i v).getD j false = if j = i then v else L.getD j false := by
  by_cases e : j = i
  · subst e; simp [List.getD, h]
  · simp [List.getD, List.getElem?_set_ne (Ne.symm e), e]
theorem marks_get (l : List Item) (was : List Bool) (b k j : Nat) (hk : k ≤ l.length) (hj : j ≤ l.length) :
    (marks l was b k).getD j false = ((decide (j < k) && (was.getD j false && runB l j)) || (decide (0 < j) && decide (j - 1 < k) && (was.getD (j - 1) false && !runB l (j - 1) && hasB l b (j - 1)))) := by
  induction k with
  | zero => simp [marks, List.getD, show j < l.length + 1 by omega]
  | succ k ih =>
    have ih := ih (by omega)
    have hl := marks_length l was b k
    simp only [marks]
    generalize marks l was b k = M at *
    have e1 : (if was.getD k false && runB l k then M.set k true else M).getD j false = (M.getD j false || (decide (j = k) && (was.getD k false && runB l k))) := by
      split
      · rename_i h
        rw [getD_set _ _ _ _ (by omega), h]
        by_cases e : j = k <;> simp [e]
      · rename_i h
        have : (was.getD k false && runB l k) = false := by simpa using h
        rw [this]; simp
    have hl2 : (if was.getD k false && runB l k then M.set k true else M).length = l.length + 1 := by split <;> simp [hl]
    generalize (if was.getD k false && runB l k then M.set k true else M) = M2 at *
    have e2 : (if was.getD k false && !runB l k && hasB l b k then M2.set (k + 1) true else M2).getD j false = (M2.getD j false || (decide (j = k + 1) && (was.getD k false && !runB l k && hasB l b k))) := by
      split
      · rename_i h
        rw [getD_set _ _ _ _ (by omega), h]
        by_cases e : j = k + 1 <;> simp [e]
      · rename_i h
        have : (was.getD k false && !runB l k && hasB l b k) = false := by simpa using h
        rw [this]; simp
    rw [e2, e1, ih]
    by_cases h1 : j = k
    · subst h1
      simp only [Nat.lt_irrefl, decide_false, Bool.false_and, Bool.false_or, decide_true, Bool.true_and, Nat.lt_succ_self, show ¬ j = j + 1 by omega, Bool.or_false]
      rw [Bool.or_comm]
      rcases Nat.eq_zero_or_pos j with h0 | h0
      · subst h0; simp
      · simp [h0, show j - 1 < j by omega, show j - 1 < j + 1 by omega]
    · by_cases h2 : j = k + 1
      · subst h2
        simp [show ¬ k + 1 < k by omega]
      · simp [h1, h2, show (j < k + 1) ↔ (j < k) by omega]
        rcases Nat.eq_zero_or_pos j with h0 | h0
        · subst h0; simp
        · simp [show (j - 1 < k + 1) ↔ (j - 1 < k) by omega]
theorem step_eq (l : List Item) (x : BitVec 64) (b : Nat) (hg : ∀ k, runB l k = true → ∀ b, hasB l b k = false) : closeW l (packW (marks l (numsW l x) b l.length)) = stepW l x b := by
  unfold stepW
  refine close_congr l _ _ fun k hk hkl => ?_
  unfold packW
  rw [bv_bit _ _ hk, marks_get l _ b l.length k (Nat.le_refl _) hkl, BitVec.getLsbD_or, shl1_bit _ _ hk, BitVec.getLsbD_and, BitVec.getLsbD_and]
  unfold runsW hasW
  rw [bv_bit _ _ hk, bv_bit _ _ (by omega), closeW_bit l x k hk, closeW_bit l x (k - 1) (by omega), numsW_get l x k hkl, numsW_get l x (k - 1) (by omega)]
  have ha : (decide (k < l.length) && (clo (runB l) x.getLsbD k && runB l k)) = (clo (runB l) x.getLsbD k && runB l k) := by
    by_cases h : k < l.length
    · simp [h]
    · rw [runB_out l k (by omega)]; simp
  rw [ha]
  simp only [hkl, decide_true, Bool.true_and, show k - 1 ≤ l.length by omega]
  rcases Nat.eq_zero_or_pos k with h0 | h0
  · subst h0; simp
  · simp only [h0, decide_true, Bool.true_and, show k - 1 < l.length by omega]
    cases hr : runB l (k - 1) with
    | false => simp
    | true => rw [hg _ hr b]; simp
theorem done_nums (l : List Item) (x : BitVec 64) (hn : l.length ≤ 60) : (numsW l x).getD l.length false = doneW l x := by
  unfold doneW
  rw [numsW_get l x _ (Nat.le_refl _), closeW_bit l x _ (by omega)]; simp
/-- What the reference's 'Seek' packs. -/
def orTo (a c : List Bool) (k : Nat) : List Bool := (List.range a.length).map fun i => if i < k then a.getD i false || c.getD i false else a.getD i false
theorem orTo_length (a c : List Bool) (k : Nat) : (orTo a c k).length = a.length := by simp [orTo]
theorem orTo_zero (a c : List Bool) : orTo a c 0 = a := by
  refine List.ext_getElem (orTo_length a c 0) fun i h1 h2 => ?_
  simp [orTo, List.getD, h2]
theorem orTo_get (a c : List Bool) (k i : Nat) (h : i < a.length) : (orTo a c k).getD i false = if i < k then a.getD i false || c.getD i false else a.getD i false := by
  simp [orTo, List.getD, h]
theorem orTo_succ (a c : List Bool) (k : Nat) (h : k < a.length) : (orTo a c k).set k (a.getD k false || c.getD k false) = orTo a c (k + 1) := by
  refine List.ext_getElem (by simp [orTo_length]) fun i h1 h2 => ?_
  rw [List.length_set, orTo_length] at h1
  by_cases e : i = k
  · subst e; simp [orTo]
  · rw [List.getElem_set_ne (Ne.symm e)]
    simp only [orTo, List.getElem_map, List.getElem_range, show i < k + 1 ↔ i < k by omega]
theorem seek_eq (l : List Item) (x : BitVec 64) (b : Nat) : packW (orTo (numsW l (stepW l x b)) (numsW l 1) (l.length + 1)) = seekW l x b := by
  refine bv_ext fun k hk => ?_
  unfold packW seekW
  rw [bv_bit _ _ hk, BitVec.getLsbD_or]
  unfold startW
  have hs : stepW l x b = closeW l (stepW l x b) := by unfold stepW; rw [close_close]
  rw [show (stepW l x b).getLsbD k = (closeW l (stepW l x b)).getLsbD k from by rw [← hs], closeW_bit l _ k hk, closeW_bit l _ k hk]
  by_cases h : k ≤ l.length
  · rw [orTo_get _ _ _ _ (by rw [numsW_length]; omega), numsW_get _ _ _ h, numsW_get _ _ _ h]
    simp [h, show k < l.length + 1 by omega]
  · rw [List.getD, List.getElem?_eq_none (by rw [orTo_length, numsW_length]; omega)]; simp [h]
end Go.Proofs.Ytmcacdegikgmnaa
