/- Tables in plain Lean: states as words; what closing, stepping and seeking say of each bit. No program in sight. -/
import Derived.Test.YtmcacdegikgmnaaPlain
import Derived.Laws.BitsAllLaws
namespace Go.Proofs.Ytmcacdegikgmnaa
open Go.RowKit

def noItem : Item := ⟨false, BSet.zero⟩
def runB (l : List Item) (k : Nat) : Bool := (l.getD k noItem).run
def hasB (l : List Item) (b k : Nat) : Bool := (l.getD k noItem).set.has b
theorem zero_has (b : Nat) : BSet.zero.has b = false := by
  unfold BSet.has BSet.zero BSet.word; split <;> simp
theorem runB_out (l : List Item) (k : Nat) (h : l.length ≤ k) : runB l k = false := by
  unfold runB; rw [List.getD, List.getElem?_eq_none h]; rfl
theorem hasB_out (l : List Item) (b k : Nat) (h : l.length ≤ k) : hasB l b k = false := by
  unfold hasB; rw [List.getD, List.getElem?_eq_none h]; exact zero_has b
theorem runB_at (l : List Item) (k : Nat) (h : k < l.length) : runB l k = (l[k]).run := by
  unfold runB; rw [List.getD, List.getElem?_eq_getElem h]; rfl
theorem hasB_at (l : List Item) (b k : Nat) (h : k < l.length) : hasB l b k = (l[k]).set.has b := by
  unfold hasB; rw [List.getD, List.getElem?_eq_getElem h]; rfl

/-- A word by its bits. -/
def bv (f : Nat → Bool) : BitVec 64 := BitVec.ofNat 64 (accW ((List.range 64).map f) 0 64)
theorem bv_bit (f : Nat → Bool) (k : Nat) (h : k < 64) : (bv f).getLsbD k = f k := by
  unfold bv
  rw [BitVec.getLsbD, ofNat_toNat64 _ (accW_lt _ 0 64), accW_bit _ 0 64 k h (Nat.le_refl _)]
  simp [List.getD, h]
theorem bv_ext {x y : BitVec 64} (h : ∀ k, k < 64 → x.getLsbD k = y.getLsbD k) : x = y := BitVec.eq_of_getLsbD_eq fun k hk => h k hk

/-- What counts with a state: number by number. -/
def clo (runs x : Nat → Bool) : Nat → Bool
  | 0 => x 0
  | k + 1 => x (k + 1) || (clo runs x k && runs k)
def runsW (l : List Item) : BitVec 64 := bv (runB l)
def hasW (l : List Item) (b : Nat) : BitVec 64 := bv (hasB l b)
def closeW (l : List Item) (x : BitVec 64) : BitVec 64 := bv fun k => decide (k ≤ l.length) && clo (runB l) x.getLsbD k
def nextW (l : List Item) (x : BitVec 64) : BitVec 64 := x ||| ((x &&& runsW l) <<< 1)
def startW (l : List Item) : BitVec 64 := closeW l 1
def stepW (l : List Item) (x : BitVec 64) (b : Nat) : BitVec 64 := closeW l ((closeW l x &&& runsW l) ||| ((closeW l x &&& hasW l b) <<< 1))
def seekW (l : List Item) (x : BitVec 64) (b : Nat) : BitVec 64 := stepW l x b ||| startW l
def doneW (l : List Item) (x : BitVec 64) : Bool := (closeW l x).getLsbD l.length

theorem shl1_bit (x : BitVec 64) (k : Nat) (h : k < 64) : (x <<< 1).getLsbD k = (decide (0 < k) && x.getLsbD (k - 1)) := by
  rw [BitVec.getLsbD_shiftLeft]
  cases k with
  | zero => simp
  | succ k => simp [h]
theorem nextW_bit (l : List Item) (x : BitVec 64) (k : Nat) (h : k < 64) : (nextW l x).getLsbD k = (x.getLsbD k || (decide (0 < k) && (x.getLsbD (k - 1) && runB l (k - 1)))) := by
  unfold nextW
  rw [BitVec.getLsbD_or, shl1_bit _ _ h, BitVec.getLsbD_and]
  unfold runsW; rw [bv_bit _ _ (by omega)]
theorem closeW_bit (l : List Item) (x : BitVec 64) (k : Nat) (h : k < 64) : (closeW l x).getLsbD k = (decide (k ≤ l.length) && clo (runB l) x.getLsbD k) := bv_bit _ k h

/-- The loop of 'close': what it keeps, and what it comes to. -/
def CloseInv (l : List Item) (x y : BitVec 64) : Prop := (∀ k, k < 64 → y.getLsbD k = true → (closeW l x).getLsbD k = true) ∧ ∀ k, k < 64 → k ≤ l.length → x.getLsbD k = true → y.getLsbD k = true
theorem clo_base (runs x : Nat → Bool) (k : Nat) (h : x k = true) : clo runs x k = true := by
  cases k with
  | zero => exact h
  | succ k => simp [clo, h]
theorem close_start (l : List Item) (x y : BitVec 64) (hy : ∀ k, k < 64 → y.getLsbD k = (x.getLsbD k && decide (k ≤ l.length))) : CloseInv l x y := by
  constructor
  · intro k hk h
    rw [hy k hk, Bool.and_eq_true] at h
    rw [closeW_bit l x k hk, h.2, clo_base _ _ _ h.1]; rfl
  · intro k hk hl h
    rw [hy k hk, h]; simp [hl]
theorem close_next (l : List Item) (x y : BitVec 64) (h : CloseInv l x y) : CloseInv l x (nextW l y) := by
  constructor
  · intro k hk hb
    rw [nextW_bit l y k hk, Bool.or_eq_true] at hb
    rcases hb with hb | hb
    · exact h.1 k hk hb
    · simp only [Bool.and_eq_true, decide_eq_true_eq] at hb
      obtain ⟨h0, h1, h2⟩ := hb
      obtain ⟨j, rfl⟩ : ∃ j, k = j + 1 := ⟨k - 1, by omega⟩
      simp only [Nat.add_sub_cancel] at h1 h2
      have hc := h.1 j (by omega) h1
      rw [closeW_bit l x j (by omega), Bool.and_eq_true] at hc
      have hj : j < l.length := by
        rcases Nat.lt_or_ge j l.length with h | h
        · exact h
        · rw [runB_out l j h] at h2; cases h2
      rw [closeW_bit l x (j + 1) hk]
      simp only [clo, hc.2, h2, Bool.and_self, Bool.or_true, Bool.and_true, decide_eq_true_eq]; omega
  · intro k hk hl hx
    rw [nextW_bit l y k hk, h.2 k hk hl hx]; rfl
theorem close_done (l : List Item) (x y : BitVec 64) (h : CloseInv l x y) (he : nextW l y = y) : y = closeW l x := by
  refine bv_ext fun k hk => ?_
  rw [Bool.eq_iff_iff]
  refine ⟨h.1 k hk, fun hc => ?_⟩
  rw [closeW_bit l x k hk, Bool.and_eq_true, decide_eq_true_eq] at hc
  obtain ⟨hkl, hc⟩ := hc
  induction k with
  | zero => exact h.2 0 hk hkl hc
  | succ k ih =>
    simp only [clo, Bool.or_eq_true, Bool.and_eq_true] at hc
    rcases hc with hc | ⟨hc, hr⟩
    · exact h.2 _ hk hkl hc
    · have := ih (by omega) (by omega) hc
      rw [← he, nextW_bit l y (k + 1) hk, Nat.add_sub_cancel, this, hr]; simp
theorem next_grows (l : List Item) (y : BitVec 64) (h : nextW l y ≠ y) : y.toNat < (nextW l y).toNat := by
  have h1 : y.toNat ≤ (nextW l y).toNat := by
    unfold nextW; rw [BitVec.toNat_or]; exact Nat.left_le_or
  rcases Nat.lt_or_ge y.toNat (nextW l y).toNat with h2 | h2
  · exact h2
  · exact absurd (BitVec.eq_of_toNat_eq (by omega)) h

/-! ### What a state means -/
/-- Whether the first k items end at i, from any place on. -/
def atR (l : List Item) (w : List UInt8) (k i : Nat) : Bool := (endsAll (l.take k) w).getD i false
theorem atR_zero (l : List Item) (w : List UInt8) (i : Nat) (h : i ≤ w.length) : atR l w 0 i = true := by
  unfold atR endsAll
  rw [List.take_zero]
  show (placesM (w.length + 1) 0 true).getD i false = true
  exact (placesM_get _ _ _ _).2 ⟨by omega, .inl rfl⟩
theorem ends_take_succ (l : List Item) (w : List UInt8) (k : Nat) (h : k < l.length) : endsAll (l.take (k + 1)) w = stepM l[k] w (endsAll (l.take k) w) := endsM_succ l w _ k h
theorem atR_run (l : List Item) (w : List UInt8) (k i : Nat) (h : k < l.length) (hr : runB l k = true) (hi : i ≤ w.length) : atR l w (k + 1) i = (atR l w k i || (decide (0 < i) && atR l w (k + 1) (i - 1))) := by
  unfold atR
  have hl := endsAll_length (l.take k) w
  rw [ends_take_succ l w k h]
  have hr' : (l[k]).run = true := by rw [← runB_at l k h]; exact hr
  have := stepM_run (l[k]) w (endsAll (l.take k) w) hr' i (by omega)
  rw [List.getD, this]
  simp [List.getD, show i < (endsAll (l.take k) w).length by omega]
theorem atR_set0 (l : List Item) (w : List UInt8) (k : Nat) (h : k < l.length) (hr : runB l k = false) : atR l w (k + 1) 0 = false := by
  unfold atR
  rw [ends_take_succ l w k h]
  have hr' : (l[k]).run = false := by rw [← runB_at l k h]; exact hr
  rw [List.getD, stepM_set0 _ _ _ hr']; rfl
theorem atR_set (l : List Item) (w : List UInt8) (k i : Nat) (h : k < l.length) (hr : runB l k = false) (hi : i < w.length) : atR l w (k + 1) (i + 1) = (atR l w k i && hasB l (w[i]).toNat k) := by
  unfold atR
  have hl := endsAll_length (l.take k) w
  rw [ends_take_succ l w k h]
  have hr' : (l[k]).run = false := by rw [← runB_at l k h]; exact hr
  rw [List.getD, stepM_set _ _ _ hr' i hi hl, hasB_at l _ k h]
  simp [List.getD, show i < (endsAll (l.take k) w).length by omega]
/-- In a run the state stays. -/
def toK (l : List Item) (k : Nat) : Nat := if runB l k then k + 1 else k
def atS (l : List Item) (w : List UInt8) (i k : Nat) : Bool := atR l w (toK l k) i
theorem run_lt (l : List Item) (k : Nat) (h : runB l k = true) : k < l.length := by
  rcases Nat.lt_or_ge k l.length with h1 | h1
  · exact h1
  · rw [runB_out l k h1] at h; cases h
theorem atS_ge (l : List Item) (w : List UInt8) (i k : Nat) (hi : i ≤ w.length) (h : atR l w k i = true) : atS l w i k = true := by
  unfold atS toK
  cases hr : runB l k
  · exact h
  · rw [if_pos rfl, atR_run l w k i (run_lt l k hr) hr hi, h]; rfl
theorem atS_closed (l : List Item) (w : List UInt8) (i k : Nat) (hi : i ≤ w.length) (h : atS l w i k = true) (hr : runB l k = true) : atS l w i (k + 1) = true := by
  refine atS_ge l w i (k + 1) hi ?_
  unfold atS toK at h; rwa [if_pos hr] at h
theorem clo_closed (runs x : Nat → Bool) (k : Nat) (h : ∀ j, j < k → x j = true → runs j = true → x (j + 1) = true) : clo runs x k = x k := by
  induction k with
  | zero => rfl
  | succ k ih =>
    rw [clo, ih fun j hj => h j (by omega)]
    cases hx : x (k + 1) with
    | true => rfl
    | false =>
      cases hk : x k with
      | false => rfl
      | true =>
        cases hr : runs k with
        | false => rfl
        | true => rw [h k (by omega) hk hr] at hx; cases hx
/-- A state that means what it should, at place i. -/
def StateAt (l : List Item) (w : List UInt8) (i : Nat) (x : BitVec 64) : Prop := ∀ k, k < 64 → x.getLsbD k = (decide (k ≤ l.length) && atS l w i k)
theorem close_state (l : List Item) (w : List UInt8) (i : Nat) (x : BitVec 64) (hi : i ≤ w.length) (h : StateAt l w i x) : closeW l x = x := by
  refine bv_ext fun k hk => ?_
  rw [closeW_bit l x k hk]
  by_cases hkl : k ≤ l.length
  · rw [clo_closed]
    · simp [hkl]
    · intro j hj hx hr
      rw [h j (by omega), Bool.and_eq_true] at hx
      rw [h (j + 1) (by omega), atS_closed l w i j hi hx.2 hr]; simp; omega
  · rw [h k hk]; simp [hkl]
theorem start_bit (l : List Item) (k : Nat) (hk : k < 64) : (startW l).getLsbD k = (decide (k ≤ l.length) && clo (runB l) (fun j => decide (j = 0)) k) := by
  unfold startW
  rw [closeW_bit l _ k hk]
  congr 1
  have : ∀ j, (1 : BitVec 64).getLsbD j = decide (j = 0) := by
    intro j
    show (1#64).getLsbD j = _
    rw [BitVec.getLsbD_one]; simp
  rw [show (1 : BitVec 64).getLsbD = fun j => decide (j = 0) from funext this]
theorem start_clo (l : List Item) (w : List UInt8) (k : Nat) (hkl : k ≤ l.length) : clo (runB l) (fun j => decide (j = 0)) k = atR l w k 0 := by
  induction k with
  | zero => rw [atR_zero l w 0 (by omega)]; rfl
  | succ k ih =>
    rw [clo, ih (by omega)]
    cases hr : runB l k with
    | true => rw [atR_run l w k 0 (by omega) hr (by omega)]; simp
    | false => rw [atR_set0 l w k (by omega) hr]; simp
theorem start_state (l : List Item) (w : List UInt8) : StateAt l w 0 (startW l) := by
  intro k hk
  rw [start_bit l k hk]
  by_cases hkl : k ≤ l.length
  · rw [start_clo l w k hkl]
    congr 1
    unfold atS toK
    cases hr : runB l k with
    | false => rfl
    | true => rw [if_pos rfl, atR_run l w k 0 (run_lt l k hr) hr (by omega)]; simp
  · simp [hkl]
theorem clo_or (runs x y : Nat → Bool) (k : Nat) : (clo runs x k || clo runs y k) = clo runs (fun j => x j || y j) k := by
  induction k with
  | zero => rfl
  | succ k ih =>
    simp only [clo]; rw [← ih]
    cases x (k + 1) <;> cases y (k + 1) <;> cases clo runs x k <;> cases clo runs y k <;> cases runs k <;> rfl
theorem seek_state (l : List Item) (w : List UInt8) (i : Nat) (x : BitVec 64) (hn : l.length < 64) (hg : ∀ k, runB l k = true → ∀ b, hasB l b k = false) (hi : i < w.length) (h : StateAt l w i x) :
    StateAt l w (i + 1) (seekW l x (w[i]).toNat) := by
  intro k hk
  unfold seekW stepW
  rw [close_state l w i x (by omega) h, BitVec.getLsbD_or, closeW_bit l _ k hk, start_bit l k hk]
  by_cases hkl : k ≤ l.length
  · simp only [hkl, decide_true, Bool.true_and]
    rw [clo_or]
    have hraw : ∀ j, j ≤ l.length → (((x &&& runsW l) ||| ((x &&& hasW l (w[i]).toNat) <<< 1)).getLsbD j) =
        ((atS l w i j && runB l j) || (decide (0 < j) && (atS l w i (j - 1) && hasB l (w[i]).toNat (j - 1)))) := by
      intro j hj
      rw [BitVec.getLsbD_or, shl1_bit _ _ (by omega), BitVec.getLsbD_and, BitVec.getLsbD_and, h j (by omega), h (j - 1) (by omega)]
      unfold runsW hasW
      rw [bv_bit _ _ (by omega), bv_bit _ _ (by omega)]
      simp [hj, show j - 1 ≤ l.length by omega]
    generalize ((x &&& runsW l) ||| ((x &&& hasW l (w[i]).toNat) <<< 1)) = z at *
    clear hk
    induction k with
    | zero =>
      show (z.getLsbD 0 || decide (0 = 0)) = atS l w (i + 1) 0
      rw [atS_ge l w (i + 1) 0 (by omega) (atR_zero l w _ (by omega))]; simp
    | succ k ih =>
      rw [clo, ih (by omega), hraw (k + 1) hkl]
      simp only [Nat.add_sub_cancel, Nat.add_eq_zero_iff, Nat.succ_ne_self, and_false, decide_false, Bool.or_false, Nat.zero_lt_succ, decide_true, Bool.true_and]
      -- what comes at the item k
      have hkey : ((atS l w i k && hasB l (w[i]).toNat k) || (atS l w (i + 1) k && runB l k)) = atR l w (k + 1) (i + 1) := by
        cases hr : runB l k with
        | false =>
          rw [atR_set l w k i (by omega) hr hi]
          unfold atS toK; rw [hr]; simp
        | true =>
          rw [hg k hr]
          unfold atS toK; rw [hr]; simp
      have e1 : ∀ a b c : Bool, (a || b || c) = (a || (b || c)) := fun a b c => Bool.or_assoc a b c
      rw [e1, hkey]
      unfold atS toK
      cases hr : runB l (k + 1) with
      | false => simp
      | true =>
        simp only [if_true, Bool.and_true]
        rw [atR_run l w (k + 1) (i + 1) (run_lt l _ hr) hr (by omega)]
        simp [Bool.or_comm]
  · simp [hkl]
theorem done_state (l : List Item) (w : List UInt8) (i : Nat) (x : BitVec 64) (hn : l.length < 64) (hi : i ≤ w.length) (h : StateAt l w i x) : doneW l x = (endsAll l w).getD i false := by
  unfold doneW
  rw [close_state l w i x hi h, h l.length hn]
  unfold atS toK
  rw [runB_out l _ (Nat.le_refl _)]
  unfold atR
  simp
theorem good_has (l : List Item) (h : goodM l = true) : (∀ k, runB l k = true → ∀ b, hasB l b k = false) ∧ l.length < 61 := by
  unfold goodM at h
  rw [Bool.and_eq_true, decide_eq_true_eq, List.all_eq_true] at h
  refine ⟨fun k hr b => ?_, h.2⟩
  have hk := run_lt l k hr
  have := h.1 (l[k]) (List.getElem_mem _)
  rw [runB_at l k hk] at hr
  rw [hasB_at l b k hk]
  simp only [hr, Bool.true_and, bne, Bool.not_not, beq_iff_eq] at this
  rw [this]; exact zero_has b
end Go.Proofs.Ytmcacdegikgmnaa
