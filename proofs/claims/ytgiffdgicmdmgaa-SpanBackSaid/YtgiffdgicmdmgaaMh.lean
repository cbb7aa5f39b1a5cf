/- Walks: the reference's 'Same' of two like lists, its 'Least'; the tests 'Void', 'Empty' of package lang. Tables in plain Lean: states as words; what closing, stepping and seeking say of each bit. No program in sight. Walks: package glob's 'Good'; a table's methods. Walks: glob.Print. Walks: the reference's Same (of patterns). Walks: layer 7's lives. -/
import Derived.Test.YtgiffdgicmdmgaaMc
import Derived.Test.YtgiffdgicmdmgaaMa
import Derived.Shelf.Abstract
import Derived.Laws.BitsAllLaws
import Derived.Test.YtgiffdgicmdmgaaMg
import Derived.Test.YtgiffdgicmdmgaaMf
import Derived.Test.YtgiffdgicmdmgaaMb
import Derived.Laws.StructEq
namespace Go.Proofs.Ytgiffdgicmdmgaa
open Go.RowKit

set_option maxHeartbeats 400000 in
theorem leastR_any (A : Option Addr) (n c : Nat) (l : List Item) (w : World) (hl : l.length = n) (hn : n ≤ 1000000) (hr : Rd w A (itemCells l)) :
    Calls Try.prog 34 #[.slice A n c] w fun e w' => e = .returned (.int .i64 (leastM l : Int)) ∧ Below w.heap.size w w' := by
  have HL := hid hl; clear hl
  go_enter Try.func34, Try.ntmps34
  go_wp2
  go_loopw [3, 4] (fun v i wr => ∃ (k : Nat), k ≤ n ∧ i = .int .i64 k ∧ v = .int .i64 (leastM (l.take k) : Int) ∧ Below w.heap.size w wr) (fun _ i _ => n - (intOf i).toNat)
  case atStart => exact ⟨0, by omega, rfl, rfl, Below.refl _ _⟩
  case round =>
    obtain ⟨k, hk, rfl, rfl, hb⟩ := hrel
    by_cases hlt : k < n
    · obtain ⟨b, off, rfl, hbl, hc⟩ := (hr.below hb).at (by rw [itemCells_length, HL.out]; omega)
      have HK : Hid (k < l.length) := by rw [HL.out]; exact hlt
      obtain ⟨d0, d1, d2, d3, d4⟩ := item_at hc k HK.out
      have hle : leastM (l.take k) ≤ k := by unfold leastM; exact Nat.le_trans (List.length_filter_le _ _) (by simp; omega)
      have HS : Hid (leastM (l.take (k + 1)) = leastM (l.take k) + if (l[k]'HK.out).run then 0 else 1) := by
        rw [Hid, List.take_succ_eq_append_getElem HK.out]
        unfold leastM
        rw [List.filter_append]
        cases h : (l[k]'HK.out).run <;> simp [h]
      have HB := hid hb
      clear hc hr hb
      generalize l[k]'HK.out = x at *
      generalize leastM (l.take k) = q at *
      cases hrun : x.run
      · rw [hrun] at d0 HS
        clear hrun
        go_wp2
        go_roundw
        case rel => exact ⟨k + 1, by omega, by go_num, by rw [HS.out]; go_num, HB.out⟩
        case measure => simp [intOf]; omega
      · rw [hrun] at d0 HS
        clear hrun
        go_wp2
        go_roundw
        case rel => exact ⟨k + 1, by omega, by go_num, by rw [HS.out]; rfl, HB.out⟩
        case measure => simp [intOf]; omega
    · go_wp2
      go_ret
      have hkk : l.take k = l := List.take_of_length_le (by rw [HL.out]; omega)
      rw [hkk]
      exact ⟨rfl, hb⟩

/-! ### Tests handed over as function values -/
theorem emptyF_any (x : Item) (w : World) : Calls Try.prog 107 #[x.val] w fun e w' => e = .returned (.bool (!x.run)) ∧ Below w.heap.size w w' := by
  have hb : ∀ cs, Below w.heap.size w (w.alloc (.cells cs 52)) := fun cs => (Below.refl _ _).alloc (Nat.le_refl _) _
  have HB := hid hb
  clear hb
  unfold Item.val
  obtain ⟨r, x0, x1, x2, x3⟩ := x
  simp only at *
  go_enter Try.func107, Try.ntmps107
  go_wp2
  go_ret
  exact ⟨rfl, HB.out _⟩

set_option maxHeartbeats 400000 in
theorem indexFunc_any (F : Nat) (T : Item → Bool) (hE : ∀ args W, (callFunc F args).run Try.prog W = .ok (.enter F args) W) (hF : ∀ x W, Calls Try.prog F #[Item.val x] W fun e W' => e = .returned (.bool (T x)) ∧ Below W.heap.size W W')
    (A : Option Addr) (n c : Nat) (l : List Item) (w : World) (hl : l.length = n) (hn : n ≤ 1000000) (hr : Rd w A (itemCells l)) :
    Calls Try.prog 102 #[.slice A n c, .func (.func F) #[] #[]] w fun e w' => ∃ i : Int, e = .returned (.int .i64 i) ∧ Hid ((l.any T = true ∧ 0 ≤ i) ∨ (l.any T = false ∧ i = -1)) ∧ Below w.heap.size w w' := by
  have HL := hid hl; clear hl
  have HF := hid hF; clear hF
  go_enter Try.func102, Try.ntmps102
  go_wp2
  go_loopw [8] (fun i wr => ∃ (k : Nat), k ≤ n ∧ i = .int .i64 k ∧ Hid ((l.take k).any T = false) ∧ Below w.heap.size w wr) (fun i _ => n - (intOf i).toNat)
  case atStart => exact ⟨0, by omega, rfl, rfl, Below.refl _ _⟩
  case round =>
    obtain ⟨k, hk, rfl, HA, hb⟩ := hrel
    by_cases hlt : k < n
    · obtain ⟨b, off, rfl, hbl, hc⟩ := (hr.below hb).at (by rw [itemCells_length, HL.out]; omega)
      have HK : Hid (k < l.length) := by rw [HL.out]; exact hlt
      obtain ⟨d0, d1, d2, d3, d4⟩ := item_at hc k HK.out
      have HS : Hid ((l.take (k + 1)).any T = T (l[k]'HK.out)) := by
        rw [Hid, List.take_succ_eq_append_getElem HK.out, List.any_append, HA.out]; simp
      have HT : Hid (T (l[k]'HK.out) = true → l.any T = true) := fun h => List.any_eq_true.2 ⟨_, List.getElem_mem _, h⟩
      have HB := hid hb
      clear hc hr hb
      generalize l[k]'HK.out = x at *
      have HX : Hid (Item.val x = .agg #[.bool x.run, w64 x.set.w0, w64 x.set.w1, w64 x.set.w2, w64 x.set.w3]) := rfl
      go_wp2_with fail
      refine (HF.out x _).mono ?_
      rintro e w1 ⟨rfl, hb1⟩
      have HB1 := hid (HB.out.trans (hb1.mono HB.out.size))
      clear hb1 d0 d1 d2 d3 d4
      cases ht : T x
      · have HS2 : Hid ((l.take (k + 1)).any T = false) := by rw [Hid, HS.out, ht]
        clear ht
        go_wp2_with fail
        go_roundw
        case rel => exact ⟨k + 1, by omega, by go_num, HS2, HB1.out⟩
        case measure => simp [intOf]; omega
      · have HT2 := hid (HT.out ht)
        clear ht
        go_wp2_with fail
        go_ret
        exact ⟨k, rfl, .inl ⟨HT2.out, by omega⟩, HB1.out⟩
    · have hkk : l.take k = l := List.take_of_length_le (by rw [HL.out]; omega)
      rw [hkk] at HA
      go_wp2
      go_ret
      exact ⟨-1, rfl, .inr ⟨HA.out, rfl⟩, hb⟩

set_option maxHeartbeats 400000 in
theorem containsFunc_any (F : Nat) (T : Item → Bool) (hE : ∀ args W, (callFunc F args).run Try.prog W = .ok (.enter F args) W) (hF : ∀ x W, Calls Try.prog F #[Item.val x] W fun e W' => e = .returned (.bool (T x)) ∧ Below W.heap.size W W')
    (A : Option Addr) (n c : Nat) (l : List Item) (w : World) (hl : l.length = n) (hn : n ≤ 1000000) (hr : Rd w A (itemCells l)) :
    Calls Try.prog 89 #[.slice A n c, .func (.func F) #[] #[]] w fun e w' => e = .returned (.bool (l.any T)) ∧ Below w.heap.size w w' := by
  have HL := hid hl; clear hl
  have HF := hid hF; have HE := hid hE; clear hF hE
  go_enter Try.func89, Try.ntmps89
  go_wp2_with fail
  refine (indexFunc_any F T HE.out HF.out A n c l _ HL.out hn hr).mono ?_
  rintro e w1 ⟨i, rfl, HI, hb1⟩
  rcases HI.out with ⟨h1, h2⟩ | ⟨h1, rfl⟩
  · have H1 := hid h1
    clear h1 HI
    go_wp2
    go_ret
    exact ⟨by rw [H1.out]; rfl, hb1⟩
  · have H1 := hid h1
    clear h1 HI
    go_wp2
    go_ret
    exact ⟨by rw [H1.out]; rfl, hb1⟩

theorem bytes_empty (s : BSet) : (bytesM s).isEmpty = (s == BSet.zero) := by
  rw [Bool.eq_iff_iff, List.isEmpty_iff, beq_iff_eq]
  constructor
  · intro h
    refine BSet.ext_has fun b hb => ?_
    have h0 : BSet.zero.has b = false := by
      unfold BSet.has BSet.zero BSet.word; split <;> simp
    rw [h0]
    cases hh : s.has b with
    | false => rfl
    | true =>
      have hm := (mem_bytesM s (UInt8.ofNat b)).2 (by rwa [UInt8.toNat_ofNat_of_lt' hb])
      rw [h] at hm; cases hm
  · rintro rfl
    refine List.eq_nil_iff_forall_not_mem.2 fun c hc => ?_
    have := (mem_bytesM BSet.zero c).1 hc
    have h0 : BSet.zero.has c.toNat = false := by
      unfold BSet.has BSet.zero BSet.word; split <;> simp
    rw [h0] at this; cases this
theorem voidM_eq (l : List Item) : l.any (fun x => !x.run && x.set == BSet.zero) = voidM l := by
  unfold voidM; congr 1; funext x; rw [bytes_empty]
theorem matchR_nil (l : List Item) : matchR l [] = !(l.any fun x => !x.run) := by
  induction l with
  | nil => rfl
  | cons x l ih =>
    cases hr : x.run with
    | false => simp [matchR, hr]
    | true => simp [matchR, hr, ih]
theorem void_none (l : List Item) (s : List UInt8) (h : matchR l s = true) : voidM l = false := by
  induction l generalizing s with
  | nil => rfl
  | cons x l ih =>
    have e : voidM (x :: l) = ((!x.run && (bytesM x.set).isEmpty) || voidM l) := rfl
    rw [e]
    cases hr : x.run with
    | true =>
      simp only [matchR, hr, if_true, List.any_eq_true] at h
      obtain ⟨i, _, hm⟩ := h
      rw [ih _ hm]; rfl
    | false =>
      cases s with
      | nil => simp [matchR, hr] at h
      | cons c r =>
        simp only [matchR, hr, Bool.false_eq_true, if_false, Bool.and_eq_true] at h
        rw [ih _ h.2]
        have hm := (mem_bytesM x.set c).2 h.1
        cases hb : bytesM x.set with
        | nil => rw [hb] at hm; cases hm
        | cons _ _ => rfl
theorem least_le (l : List Item) (s : List UInt8) (h : matchR l s = true) : leastM l ≤ s.length := by
  induction l generalizing s with
  | nil => simp [leastM]
  | cons x l ih =>
    cases hr : x.run with
    | true =>
      simp only [matchR, hr, if_true, List.any_eq_true] at h
      obtain ⟨i, _, hm⟩ := h
      have := ih _ hm
      simp [leastM, hr] at this ⊢; omega
    | false =>
      cases s with
      | nil => simp [matchR, hr] at h
      | cons c r =>
        simp only [matchR, hr, Bool.false_eq_true, if_false, Bool.and_eq_true] at h
        have := ih _ h.2
        simp [leastM, hr] at this ⊢; omega

set_option maxHeartbeats 400000 in
theorem emptyC_any (A : Option Addr) (n c : Nat) (l : List Item) (w : World) (hl : l.length = n) (hn : n ≤ 1000000) (hr : Rd w A (itemCells l)) :
    Calls Try.prog 97 #[.slice A n c] w fun e w' => e = .returned (.bool (matchM l [])) ∧ Below w.heap.size w w' := by
  have HL := hid hl; clear hl
  have HM : Hid (matchM l [] = !(l.any fun x => !x.run)) := by rw [Hid, matchM_eq, matchR_nil]
  go_enter Try.func97, Try.ntmps97
  go_wp2_with fail
  refine (containsFunc_any 107 _ (enters_of Try.func107 (by kernel_rfl) rfl) emptyF_any A n c l _ HL.out hn hr).mono ?_
  rintro e w1 ⟨rfl, hb1⟩
  go_wp2
  go_ret
  exact ⟨by rw [HM.out]; rfl, hb1⟩
end Go.Proofs.Ytgiffdgicmdmgaa
namespace Go.Proofs.Ytgiffdgicmdmgaa
open Go.RowKit

def noItem : Item := ⟨false, BSet.zero⟩
def runB (l : List Item) (k : Nat) : Bool := (l.getD k noItem).run
def hasB (l : List Item) (b k : Nat) : Bool := (l.getD k noItem).set.has b
theorem zero_has (b : Nat) : BSet.zero.has b = false := by
  unfold BSet.has BSet.zero BSet.word; split <;> simp
theorem runB_out (l : List Item) (k : Nat) (h : l.length ≤ k) : runB l k = false := by
  unfold runB; rw [List.getD, List.getElem?_eq_none h]; rfl
theorem hasB_out (l : List Item) (b k : Nat) (h : l.length ≤ k) : hasB l b k = false := by
  unfold hasB; rw [List.getD, List.getElem?_eq_none h]; exact zero_has b
theorem runB_at (l : List Item) (k : Nat) (h : k < l.length) : runB l k = (l[k]).run := by
  unfold runB; rw [List.getD, List.getElem?_eq_getElem h]; rfl
theorem hasB_at (l : List Item) (b k : Nat) (h : k < l.length) : hasB l b k = (l[k]).set.has b := by
  unfold hasB; rw [List.getD, List.getElem?_eq_getElem h]; rfl

/-- A word by its bits. -/
def bv (f : Nat → Bool) : BitVec 64 := BitVec.ofNat 64 (accW ((List.range 64).map f) 0 64)
theorem bv_bit (f : Nat → Bool) (k : Nat) (h : k < 64) : (bv f).getLsbD k = f k := by
  unfold bv
  rw [BitVec.getLsbD, ofNat_toNat64 _ (accW_lt _ 0 64), accW_bit _ 0 64 k h (Nat.le_refl _)]
  simp [List.getD, h]
theorem bv_ext {x y : BitVec 64} (h : ∀ k, k < 64 → x.getLsbD k = y.getLsbD k) : x = y := BitVec.eq_of_getLsbD_eq fun k hk => h k hk

/-- What counts with a state: number by number. -/
def clo (runs x : Nat → Bool) : Nat → Bool
  | 0 => x 0
  | k + 1 => x (k + 1) || (clo runs x k && runs k)
def runsW (l : List Item) : BitVec 64 := bv (runB l)
def hasW (l : List Item) (b : Nat) : BitVec 64 := bv (hasB l b)
def closeW (l : List Item) (x : BitVec 64) : BitVec 64 := bv fun k => decide (k ≤ l.length) && clo (runB l) x.getLsbD k
def nextW (l : List Item) (x : BitVec 64) : BitVec 64 := x ||| ((x &&& runsW l) <<< 1)
def startW (l : List Item) : BitVec 64 := closeW l 1
def stepW (l : List Item) (x : BitVec 64) (b : Nat) : BitVec 64 := closeW l ((closeW l x &&& runsW l) ||| ((closeW l x &&& hasW l b) <<< 1))
def seekW (l : List Item) (x : BitVec 64) (b : Nat) : BitVec 64 := stepW l x b ||| startW l
def doneW (l : List Item) (x : BitVec 64) : Bool := (closeW l x).getLsbD l.length

theorem shl1_bit (x : BitVec 64) (k : Nat) (h : k < 64) : (x <<< 1).getLsbD k = (decide (0 < k) && x.getLsbD (k - 1)) := by
  rw [BitVec.getLsbD_shiftLeft]
  cases k with
  | zero => simp
  | succ k => simp [h]
theorem nextW_bit (l : List Item) (x : BitVec 64) (k : Nat) (h : k < 64) : (nextW l x).getLsbD k = (x.getLsbD k || (decide (0 < k) && (x.getLsbD (k - 1) && runB l (k - 1)))) := by
  unfold nextW
  rw [BitVec.getLsbD_or, shl1_bit _ _ h, BitVec.getLsbD_and]
  unfold runsW; rw [bv_bit _ _ (by omega)]
theorem closeW_bit (l : List Item) (x : BitVec 64) (k : Nat) (h : k < 64) : (closeW l x).getLsbD k = (decide (k ≤ l.length) && clo (runB l) x.getLsbD k) := bv_bit _ k h

/-- The loop of 'close': what it keeps, and what it comes to. -/
def CloseInv (l : List Item) (x y : BitVec 64) : Prop := (∀ k, k < 64 → y.getLsbD k = true → (closeW l x).getLsbD k = true) ∧ ∀ k, k < 64 → k ≤ l.length → x.getLsbD k = true → y.getLsbD k = true
theorem clo_base (runs x : Nat → Bool) (k : Nat) (h : x k = true) : clo runs x k = true := by
  cases k with
  | zero => exact h
  | succ k => simp [clo, h]
theorem close_start (l : List Item) (x y : BitVec 64) (hy : ∀ k, k < 64 → y.getLsbD k = (x.getLsbD k && decide (k ≤ l.length))) : CloseInv l x y := by
  constructor
  · intro k hk h
    rw [hy k hk, Bool.and_eq_true] at h
    rw [closeW_bit l x k hk, h.2, clo_base _ _ _ h.1]; rfl
  · intro k hk hl h
    rw [hy k hk, h]; simp [hl]
theorem close_next (l : List Item) (x y : BitVec 64) (h : CloseInv l x y) : CloseInv l x (nextW l y) := by
  constructor
  · intro k hk hb
    rw [nextW_bit l y k hk, Bool.or_eq_true] at hb
    rcases hb with hb | hb
    · exact h.1 k hk hb
    · simp only [Bool.and_eq_true, decide_eq_true_eq] at hb
      obtain ⟨h0, h1, h2⟩ := hb
      obtain ⟨j, rfl⟩ : ∃ j, k = j + 1 := ⟨k - 1, by omega⟩
      simp only [Nat.add_sub_cancel] at h1 h2
      have hc := h.1 j (by omega) h1
      rw [closeW_bit l x j (by omega), Bool.and_eq_true] at hc
      have hj : j < l.length := by
        rcases Nat.lt_or_ge j l.length with h | h
        · exact h
        · rw [runB_out l j h] at h2; cases h2
      rw [closeW_bit l x (j + 1) hk]
      simp only [clo, hc.2, h2, Bool.and_self, Bool.or_true, Bool.and_true, decide_eq_true_eq]; omega
  · intro k hk hl hx
    rw [nextW_bit l y k hk, h.2 k hk hl hx]; rfl
theorem close_done (l : List Item) (x y : BitVec 64) (h : CloseInv l x y) (he : nextW l y = y) : y = closeW l x := by
  refine bv_ext fun k hk => ?_
  rw [Bool.eq_iff_iff]
  refine ⟨h.1 k hk, fun hc => ?_⟩
  rw [closeW_bit l x k hk, Bool.and_eq_true, decide_eq_true_eq] at hc
  obtain ⟨hkl, hc⟩ := hc
  induction k with
  | zero => exact h.2 0 hk hkl hc
  | succ k ih =>
    simp only [clo, Bool.or_eq_true, Bool.and_eq_true] at hc
    rcases hc with hc | ⟨hc, hr⟩
    · exact h.2 _ hk hkl hc
    · have := ih (by omega) (by omega) hc
      rw [← he, nextW_bit l y (k + 1) hk, Nat.add_sub_cancel, this, hr]; simp
theorem next_grows (l : List Item) (y : BitVec 64) (h : nextW l y ≠ y) : y.toNat < (nextW l y).toNat := by
  have h1 : y.toNat ≤ (nextW l y).toNat := by
    unfold nextW; rw [BitVec.toNat_or]; exact Nat.left_le_or
  rcases Nat.lt_or_ge y.toNat (nextW l y).toNat with h2 | h2
  · exact h2
  · exact absurd (BitVec.eq_of_toNat_eq (by omega)) h

/-! ### What a state means -/
/-- Whether the first k items end at i, from any place on. -/
def atR (l : List Item) (w : List UInt8) (k i : Nat) : Bool := (endsAll (l.take k) w).getD i false
theorem atR_zero (l : List Item) (w : List UInt8) (i : Nat) (h : i ≤ w.length) : atR l w 0 i = true := by
  unfold atR endsAll
  rw [List.take_zero]
  show (placesM (w.length + 1) 0 true).getD i false = true
  exact (placesM_get _ _ _ _).2 ⟨by omega, .inl rfl⟩
theorem ends_take_succ (l : List Item) (w : List UInt8) (k : Nat) (h : k < l.length) : endsAll (l.take (k + 1)) w = stepM l[k] w (endsAll (l.take k) w) := endsM_succ l w _ k h
theorem atR_run (l : List Item) (w : List UInt8) (k i : Nat) (h : k < l.length) (hr : runB l k = true) (hi : i ≤ w.length) : atR l w (k + 1) i = (atR l w k i || (decide (0 < i) && atR l w (k + 1) (i - 1))) := by
  unfold atR
  have hl := endsAll_length (l.take k) w
  rw [ends_take_succ l w k h]
  have hr' : (l[k]).run = true := by rw [← runB_at l k h]; exact hr
  have := stepM_run (l[k]) w (endsAll (l.take k) w) hr' i (by omega)
  rw [List.getD, this]
  simp [List.getD, show i < (endsAll (l.take k) w).length by omega]
theorem atR_set0 (l : List Item) (w : List UInt8) (k : Nat) (h : k < l.length) (hr : runB l k = false) : atR l w (k + 1) 0 = false := by
  unfold atR
  rw [ends_take_succ l w k h]
  have hr' : (l[k]).run = false := by rw [← runB_at l k h]; exact hr
  rw [List.getD, stepM_set0 _ _ _ hr']; rfl
theorem atR_set (l : List Item) (w : List UInt8) (k i : Nat) (h : k < l.length) (hr : runB l k = false) (hi : i < w.length) : atR l w (k + 1) (i + 1) = (atR l w k i && hasB l (w[i]).toNat k) := by
  unfold atR
  have hl := endsAll_length (l.take k) w
  rw [ends_take_succ l w k h]
  have hr' : (l[k]).run = false := by rw [← runB_at l k h]; exact hr
  rw [List.getD, stepM_set _ _ _ hr' i hi hl, hasB_at l _ k h]
  simp [List.getD, show i < (endsAll (l.take k) w).length by omega]
/-- In a run the state stays. -/
def toK (l : List Item) (k : Nat) : Nat := if runB l k then k + 1 else k
def atS (l : List Item) (w : List UInt8) (i k : Nat) : Bool := atR l w (toK l k) i
theorem run_lt (l : List Item) (k : Nat) (h : runB l k = true) : k < l.length := by
  rcases Nat.lt_or_ge k l.length with h1 | h1
  · exact h1
  · rw [runB_out l k h1] at h; cases h
theorem atS_ge (l : List Item) (w : List UInt8) (i k : Nat) (hi : i ≤ w.length) (h : atR l w k i = true) : atS l w i k = true := by
  unfold atS toK
  cases hr : runB l k
  · exact h
  · rw [if_pos rfl, atR_run l w k i (run_lt l k hr) hr hi, h]; rfl
theorem atS_closed (l : List Item) (w : List UInt8) (i k : Nat) (hi : i ≤ w.length) (h : atS l w i k = true) (hr : runB l k = true) : atS l w i (k + 1) = true := by
  refine atS_ge l w i (k + 1) hi ?_
  unfold atS toK at h; rwa [if_pos hr] at h
theorem clo_closed (runs x : Nat → Bool) (k : Nat) (h : ∀ j, j < k → x j = true → runs j = true → x (j + 1) = true) : clo runs x k = x k := by
  induction k with
  | zero => rfl
  | succ k ih =>
    rw [clo, ih fun j hj => h j (by omega)]
    cases hx : x (k + 1) with
    | true => rfl
    | false =>
      cases hk : x k with
      | false => rfl
      | true =>
        cases hr : runs k with
        | false => rfl
        | true => rw [h k (by omega) hk hr] at hx; cases hx
/-- A state that means what it should, at place i. -/
def StateAt (l : List Item) (w : List UInt8) (i : Nat) (x : BitVec 64) : Prop := ∀ k, k < 64 → x.getLsbD k = (decide (k ≤ l.length) && atS l w i k)
theorem close_state (l : List Item) (w : List UInt8) (i : Nat) (x : BitVec 64) (hi : i ≤ w.length) (h : StateAt l w i x) : closeW l x = x := by
  refine bv_ext fun k hk => ?_
  rw [closeW_bit l x k hk]
  by_cases hkl : k ≤ l.length
  · rw [clo_closed]
    · simp [hkl]
    · intro j hj hx hr
      rw [h j (by omega), Bool.and_eq_true] at hx
      rw [h (j + 1) (by omega), atS_closed l w i j hi hx.2 hr]; simp; omega
  · rw [h k hk]; simp [hkl]
theorem start_bit (l : List Item) (k : Nat) (hk : k < 64) : (startW l).getLsbD k = (decide (k ≤ l.length) && clo (runB l) (fun j => decide (j = 0)) k) := by
  unfold startW
  rw [closeW_bit l _ k hk]
  congr 1
  have : ∀ j, (1 : BitVec 64).getLsbD j = decide (j = 0) := by
    intro j
    show (1#64).getLsbD j = _
    rw [BitVec.getLsbD_one]; simp
  rw [show (1 : BitVec 64).getLsbD = fun j => decide (j = 0) from funext this]
theorem start_clo (l : List Item) (w : List UInt8) (k : Nat) (hkl : k ≤ l.length) : clo (runB l) (fun j => decide (j = 0)) k = atR l w k 0 := by
  induction k with
  | zero => rw [atR_zero l w 0 (by omega)]; rfl
  | succ k ih =>
    rw [clo, ih (by omega)]
    cases hr : runB l k with
    | true => rw [atR_run l w k 0 (by omega) hr (by omega)]; simp
    | false => rw [atR_set0 l w k (by omega) hr]; simp
theorem start_state (l : List Item) (w : List UInt8) : StateAt l w 0 (startW l) := by
  intro k hk
  rw [start_bit l k hk]
  by_cases hkl : k ≤ l.length
  · rw [start_clo l w k hkl]
    congr 1
    unfold atS toK
    cases hr : runB l k with
    | false => rfl
    | true => rw [if_pos rfl, atR_run l w k 0 (run_lt l k hr) hr (by omega)]; simp
  · simp [hkl]
theorem clo_or (runs x y : Nat → Bool) (k : Nat) : (clo runs x k || clo runs y k) = clo runs (fun j => x j || y j) k := by
  induction k with
  | zero => rfl
  | succ k ih =>
    simp only [clo]; rw [← ih]
    cases x (k + 1) <;> cases y (k + 1) <;> cases clo runs x k <;> cases clo runs y k <;> cases runs k <;> rfl
theorem seek_state (l : List Item) (w : List UInt8) (i : Nat) (x : BitVec 64) (hn : l.length < 64) (hg : ∀ k, runB l k = true → ∀ b, hasB l b k = false) (hi : i < w.length) (h : StateAt l w i x) :
    StateAt l w (i + 1) (seekW l x (w[i]).toNat) := by
  intro k hk
  unfold seekW stepW
  rw [close_state l w i x (by omega) h, BitVec.getLsbD_or, closeW_bit l _ k hk, start_bit l k hk]
  by_cases hkl : k ≤ l.length
  · simp only [hkl, decide_true, Bool.true_and]
    rw [clo_or]
    have hraw : ∀ j, j ≤ l.length → (((x &&& runsW l) ||| ((x &&& hasW l (w[i]).toNat) <<< 1)).getLsbD j) =
        ((atS l w i j && runB l j) || (decide (0 < j) && (atS l w i (j - 1) && hasB l (w[i]).toNat (j - 1)))) := by
      intro j hj
      rw [BitVec.getLsbD_or, shl1_bit _ _ (by omega), BitVec.getLsbD_and, BitVec.getLsbD_and, h j (by omega), h (j - 1) (by omega)]
      unfold runsW hasW
      rw [bv_bit _ _ (by omega), bv_bit _ _ (by omega)]
      simp [hj, show j - 1 ≤ l.length by omega]
    generalize ((x &&& runsW l) ||| ((x &&& hasW l (w[i]).toNat) <<< 1)) = z at *
    clear hk
    induction k with
    | zero =>
      show (z.getLsbD 0 || decide (0 = 0)) = atS l w (i + 1) 0
      rw [atS_ge l w (i + 1) 0 (by omega) (atR_zero l w _ (by omega))]; simp
    | succ k ih =>
      rw [clo, ih (by omega), hraw (k + 1) hkl]
      simp only [Nat.add_sub_cancel, Nat.add_eq_zero_iff, Nat.succ_ne_self, and_false, decide_false, Bool.or_false, Nat.zero_lt_succ, decide_true, Bool.true_and]
      -- what comes at the item k
      have hkey : ((atS l w i k && hasB l (w[i]).toNat k) || (atS l w (i + 1) k && runB l k)) = atR l w (k + 1) (i + 1) := by
        cases hr : runB l k with
        | false =>
          rw [atR_set l w k i (by omega) hr hi]
          unfold atS toK; rw [hr]; simp
        | true =>
          rw [hg k hr]
          unfold atS toK; rw [hr]; simp
      have e1 : ∀ a b c : Bool, (a || b || c) = (a || (b || c)) := fun a b c => Bool.or_assoc a b c
      rw [e1, hkey]
      unfold atS toK
      cases hr : runB l (k + 1) with
      | false => simp
      | true =>
        simp only [if_true, Bool.and_true]
        rw [atR_run l w (k + 1) (i + 1) (run_lt l _ hr) hr (by omega)]
        simp [Bool.or_comm]
  · simp [hkl]
theorem done_state (l : List Item) (w : List UInt8) (i : Nat) (x : BitVec 64) (hn : l.length < 64) (hi : i ≤ w.length) (h : StateAt l w i x) : doneW l x = (endsAll l w).getD i false := by
  unfold doneW
  rw [close_state l w i x hi h, h l.length hn]
  unfold atS toK
  rw [runB_out l _ (Nat.le_refl _)]
  unfold atR
  simp
theorem good_has (l : List Item) (h : goodM l = true) : (∀ k, runB l k = true → ∀ b, hasB l b k = false) ∧ l.length < 61 := by
  unfold goodM at h
  rw [Bool.and_eq_true, decide_eq_true_eq, List.all_eq_true] at h
  refine ⟨fun k hr b => ?_, h.2⟩
  have hk := run_lt l k hr
  have := h.1 (l[k]) (List.getElem_mem _)
  rw [runB_at l k hk] at hr
  rw [hasB_at l b k hk]
  simp only [hr, Bool.true_and, bne, Bool.not_not, beq_iff_eq] at this
  rw [this]; exact zero_has b
end Go.Proofs.Ytgiffdgicmdmgaa
namespace Go.Proofs.Ytgiffdgicmdmgaa
open Go.RowKit

theorem goodF_any (x : Item) (w : World) : Calls Try.prog 88 #[x.val] w fun e w' => e = .returned (.bool (x.run && x.set != BSet.zero)) ∧ Below w.heap.size w w' := by
  have hb : ∀ cs, Below w.heap.size w (w.alloc (.cells cs 52)) := fun cs => (Below.refl _ _).alloc (Nat.le_refl _) _
  have HB := hid hb
  clear hb
  have heq : ∀ W, (Op.equalIn 10000 50 (.agg #[w64 x.set.w0, w64 x.set.w1, w64 x.set.w2, w64 x.set.w3]) (.agg #[.int .u64 0, .int .u64 0, .int .u64 0, .int .u64 0])).run Try.prog W = .ok (x.set == BSet.zero) W := fun W => Try.eqSet x.set BSet.zero W
  unfold Item.val
  rw [show (x.set != BSet.zero) = !(x.set == BSet.zero) from rfl]
  generalize (x.set == BSet.zero) = z at *
  obtain ⟨r, x0, x1, x2, x3⟩ := x
  simp only at *
  go_enter Try.func88, Try.ntmps88
  cases r
  · go_wp2
    go_ret
    exact ⟨rfl, HB.out _⟩
  · go_wp2
    go_ret
    exact ⟨rfl, HB.out _⟩

theorem goodM_eq (l : List Item) : goodM l = (decide (l.length ≤ 60) && !(l.any fun x => x.run && x.set != BSet.zero)) := by
  unfold goodM
  rw [Bool.and_comm, List.all_eq_not_any_not]
  congr 1
  · rw [Bool.eq_iff_iff]; simp; omega
  · congr 2; funext x; simp

set_option maxHeartbeats 400000 in
theorem goodD_any (A : Option Addr) (n c : Nat) (l : List Item) (w : World) (hl : l.length = n) (hn : n ≤ 1000000) (hr : Rd w A (itemCells l)) :
    Calls Try.prog 61 #[.slice A n c] w fun e w' => e = .returned (.bool (goodM l)) ∧ Below w.heap.size w w' := by
  have HG := hid (goodM_eq l)
  rw [hl] at HG
  have HL := hid hl; clear hl
  go_enter Try.func61, Try.ntmps61
  by_cases h60 : n ≤ 60
  · have HD : Hid (decide (n ≤ 60) = true) := by simp [Hid, h60]
    go_wp2_with fail
    refine (containsFunc_any 88 _ (enters_of Try.func88 (by kernel_rfl) rfl) goodF_any A n c l _ HL.out hn hr).mono ?_
    rintro e w1 ⟨rfl, hb1⟩
    go_wp2
    go_ret
    exact ⟨by rw [HG.out, HD.out]; rfl, hb1⟩
  · have HD : Hid (decide (n ≤ 60) = false) := by simp [Hid, h60]
    go_wp2_with fail
    go_ret
    exact ⟨by rw [HG.out, HD.out]; rfl, Below.refl _ _⟩

set_option maxHeartbeats 400000 in
theorem goodC_any (A : Option Addr) (n c : Nat) (l : List Item) (w : World) (hl : l.length = n) (hn : n ≤ 1000000) (hr : Rd w A (itemCells l)) :
    Calls Try.prog 42 #[.slice A n c] w fun e w' => e = .returned (.bool (goodM l)) ∧ Below w.heap.size w w' := by
  have HG := hid (goodM_eq l)
  have HL := hid hl; clear hl
  go_enter Try.func42, Try.ntmps42
  go_wp2_with fail
  refine (goodD_any A n c l _ HL.out hn hr).mono ?_
  rintro e w1 ⟨rfl, hb1⟩
  go_wp2
  go_ret
  exact ⟨rfl, hb1⟩

/-- A table in memory. -/
def Tb (w : World) (g : Nat) (l : List Item) : Prop := g < w.heap.size ∧ w.cell? ⟨g, 0, none⟩ = some (.int .i64 (l.length : Int)) ∧ w.cell? ⟨g, 1, none⟩ = some (w64 (runsW l)) ∧ ∀ b, b < 256 → w.cell? ⟨g, 2 + b, none⟩ = some (w64 (hasW l b))
theorem Tb.below {w w' : World} {g : Nat} {l : List Item} (h : Tb w g l) (hb : Below w.heap.size w w') : Tb w' g l :=
  ⟨Nat.lt_of_lt_of_le h.1 hb.size, (hb.cell (p := ⟨g, 0, none⟩) h.1).trans h.2.1, (hb.cell (p := ⟨g, 1, none⟩) h.1).trans h.2.2.1, fun b h1 => (hb.cell (p := ⟨g, 2 + b, none⟩) h.1).trans (h.2.2.2 b h1)⟩

/-! ### Words as the walk has them -/
theorem w_and (x y : BitVec 64) : bits .and .u64 (x.toNat : Int) (y.toNat : Int) = ((x &&& y).toNat : Int) := by
  rw [u64_and_nat _ _ x.isLt y.isLt, BitVec.toNat_and]
theorem w_or (x y : BitVec 64) : bits .or .u64 (x.toNat : Int) (y.toNat : Int) = ((x ||| y).toNat : Int) := by
  rw [u64_or_nat _ _ x.isLt y.isLt, BitVec.toNat_or]
theorem w_shl1 (x : BitVec 64) : IntKind.u64.wrap ((x.toNat : Int) * 2) = ((x <<< 1).toNat : Int) := by
  rw [BitVec.toNat_shiftLeft, IntKind.wrap_u64, Nat.shiftLeft_eq]
  show _ = ((x.toNat * 2 % 18446744073709551616 : Nat) : Int)
  omega
def maskW (n : Nat) : BitVec 64 := BitVec.ofNat 64 (2 ^ (n + 1) - 1)
theorem maskW_toNat (n : Nat) (h : n ≤ 60) : (maskW n).toNat = 2 ^ (n + 1) - 1 := by
  unfold maskW
  refine ofNat_toNat64 _ ?_
  have : 2 ^ (n + 1) ≤ 2 ^ 61 := Nat.pow_le_pow_right (by omega) (by omega)
  omega
theorem w_mask (n : Nat) (h : n ≤ 60) : IntKind.u64.wrap (IntKind.u64.wrap (2 * 2 ^ n) - 1) = ((maskW n).toNat : Int) := by
  have h1 : 2 ^ (n + 1) ≤ 2 ^ 61 := Nat.pow_le_pow_right (by omega) (by omega)
  have h2 : 0 < 2 ^ (n + 1) := Nat.pow_pos (by omega)
  have e : (2 * 2 ^ n : Int) = ((2 ^ (n + 1) : Nat) : Int) := by rw [Int.natCast_pow, Int.pow_succ, Int.mul_comm]; rfl
  rw [e, maskW_toNat n h, IntKind.wrap_u64, IntKind.wrap_u64]
  have h3 : (2 : Nat) ^ 61 = 2305843009213693952 := by decide +kernel
  rw [h3] at h1
  clear e
  generalize 2 ^ (n + 1) = q at *
  omega
theorem maskW_bit (n k : Nat) (h : n ≤ 60) : (maskW n).getLsbD k = decide (k ≤ n) := by
  rw [BitVec.getLsbD, maskW_toNat n h, Nat.testBit_two_pow_sub_one]
  simp; omega

set_option maxHeartbeats 400000 in
theorem close_any (g : Nat) (l : List Item) (x : BitVec 64) (w : World) (hn : l.length ≤ 60) (ht : Tb w g l) :
    Calls Try.prog 81 #[.pointer (some ⟨g, 0, none⟩), w64 x] w fun e w' => e = .returned (w64 (closeW l x)) ∧ w = w' := by
  obtain ⟨h0, h1, h2, _⟩ := ht
  have km := w_mask l.length hn
  obtain ⟨x0, hx0⟩ : ∃ x0, x0 = x &&& maskW l.length := ⟨_, rfl⟩
  have ka := w_and x (maskW l.length)
  rw [← hx0] at ka
  have HI : Hid (CloseInv l x x0) := by
    rw [hx0]
    refine close_start l x _ fun k hk => ?_
    rw [BitVec.getLsbD_and, maskW_bit _ _ hn]
  clear hx0
  have HN := hid hn
  go_enter Try.func81, Try.ntmps81
  go_wp2
  clear km ka hn
  go_loop [1, 5] (fun v u => ∃ y : BitVec 64, v = w64 y ∧ Hid (CloseInv l x y)) (fun v _ => 18446744073709551616 - (intOf v).toNat)
  case atStart => exact ⟨_, rfl, HI⟩
  case round =>
    obtain ⟨y, rfl, HY⟩ := hrel
    have HNX : Hid (nextW l y = y ||| ((y &&& runsW l) <<< 1)) := rfl
    obtain ⟨z, hz⟩ : ∃ z, z = y &&& runsW l := ⟨_, rfl⟩
    obtain ⟨t, ht⟩ : ∃ t, t = z <<< 1 := ⟨_, rfl⟩
    have ka := w_and y (runsW l)
    have ks := w_shl1 z
    have ko := w_or y t
    have HC := hid (close_next l x y HY.out)
    have HG := hid (next_grows l y)
    have HD := hid (close_done l x y HY.out)
    rw [← hz] at ka HNX
    rw [← ht] at ks HNX
    rw [← HNX.out] at ko
    generalize nextW l y = nx at *
    clear HI hz ht HNX HY
    by_cases he : nx = y
    · subst he
      have HD2 := hid (HD.out rfl)
      clear HG HD
      go_wp2
      go_ret
      exact ⟨by rw [← HD2.out]; rfl, rfl⟩
    · have hlt := HG.out he
      have hne : ((nx.toNat : Int) == (y.toNat : Int)) = false := by simp; omega
      have hub := nx.isLt
      clear HG HD he
      go_wp2
      go_round
      case rel => exact ⟨nx, rfl, HC⟩
      case measure => simp [intOf]; omega
end Go.Proofs.Ytgiffdgicmdmgaa
namespace Go.Proofs.Ytgiffdgicmdmgaa
open Go.RowKit PopT

theorem strOf_size' (a : List Nat) : (strOf a).size = a.length := by simp [strOf, ByteArray.size]
theorem isB_below {B b : Nat} {bs : List Value} {w w' : World} (h : Lib.IsBuilder 97 5 B b bs w) (hb : Below w.heap.size w w') : Lib.IsBuilder 97 5 B b bs w' := by
  have one : ∀ p, Lib.BuilderAt 97 5 B b p bs w → Lib.BuilderAt 97 5 B b p bs w' := by
    intro p h
    have hlt := h.lt
    obtain ⟨hB, v, hk, ho, hne⟩ := h
    exact ⟨hB, v, (hb.block b hlt).trans hk, own_below ho hb, hne⟩
  exact h.elim (fun h => .inl (one _ h)) (fun h => .inr (one _ h))
theorem isB_lt {B b : Nat} {bs : List Value} {w : World} (h : Lib.IsBuilder 97 5 B b bs w) : b < w.heap.size := h.elim (fun h => h.lt) (fun h => h.lt)
theorem textM_len2 (x : BSet) : (textM x).length ≤ 1290 := by
  have h1 := parts_len ((bytesM x).map UInt8.toNat) (by rw [List.length_map]; exact bytes_le x)
  have h2 := parts_len ((bytesM (notM x)).map UInt8.toNat) (by rw [List.length_map]; exact bytes_le (notM x))
  rw [parts_bytes] at h1 h2
  unfold textM
  split
  · simp only [List.length_append, List.length_cons, List.length_nil]; omega
  · simp only [List.length_append, List.length_cons, List.length_nil]; omega
theorem gsignM_le (c : Nat) : (gsignM c).length ≤ 2 := by unfold gsignM; split <;> simp
theorem printI_len (x : Item) : (printI x).length ≤ 1290 := by
  unfold printI
  split
  · simp
  · split
    · simp
    · split
      · have := gsignM_le ((bytesM x.set).getD 0 0).toNat; omega
      · exact textM_len2 x.set
theorem printI_byte (x : Item) : ∀ d ∈ printI x, d < 256 := by
  intro d hd
  unfold printI at hd
  split at hd
  · simp at hd; omega
  · split at hd
    · simp at hd; omega
    · split at hd
      · unfold gsignM at hd
        have := UInt8.toNat_lt ((bytesM x.set).getD 0 0)
        generalize ((bytesM x.set).getD 0 0).toNat = c at *
        split at hd
        · simp at hd; omega
        · simp at hd; omega
      · exact textM_byte x.set d hd
theorem texts_byte (l : List Item) : ∀ d ∈ l.flatMap printI, d < 256 := by
  intro d hd
  obtain ⟨x, _, hx⟩ := List.mem_flatMap.1 hd
  exact printI_byte x d hx
theorem strCells_of (l : List Nat) (h : ∀ d ∈ l, d < 256) : Lib.strCells (strOf l) = u8Cells l := by
  rw [u8Cells_of l h]; simp [Lib.strCells, strOf, Lib.byteCells]
theorem flat_len (l : List Item) : (l.flatMap printI).length ≤ 1290 * l.length := by
  induction l with
  | nil => simp
  | cons x l ih =>
    have := printI_len x
    rw [List.flatMap_cons, List.length_append, List.length_cons]; omega
theorem flat_succ (l : List Item) (k : Nat) (h : k < l.length) : (l.take (k + 1)).flatMap printI = (l.take k).flatMap printI ++ printI l[k] := by
  rw [List.take_succ_eq_append_getElem h, List.flatMap_append]; simp

set_option maxRecDepth 20000 in
set_option maxHeartbeats 2000000 in
theorem gprint_bad (A : Option Addr) (n c : Nat) (l : List Item) (w : World) (hl : l.length = n) (hn : n ≤ 1000000) (hr : Rd w A (itemCells l)) (hg : goodM l = false) :
    Calls Try.prog 47 #[.slice A n c] w fun e w' => e = .returned (.tuple #[.string ⟨#[]⟩, .int .i64 2]) ∧ Below w.heap.size w w' := by
  have HC := hid (goodD_any A n c l (w.alloc (.cells #[.pointer none, .slice none 0 0] 97)) hl hn (hr.below ((Below.refl _ _).alloc (Nat.le_refl _) _)))
  rw [hg] at HC
  clear hl hn hr hg
  go_enter Try.func47, Try.ntmps47
  go_wp2_with fail
  refine HC.out.mono ?_
  rintro e w1 ⟨rfl, hb1⟩
  have HB1 : Hid (Below w.heap.size w w1) := ((Below.refl w.heap.size w).alloc (Nat.le_refl _) _).trans (hb1.mono (by simp))
  clear hb1
  go_wp2_with fail
  go_ret2
  exact ⟨rfl, HB1.out⟩

set_option maxRecDepth 20000 in
set_option maxHeartbeats 4000000 in
theorem gprint_any (A : Option Addr) (n c : Nat) (l : List Item) (w : World) (hl : l.length = n) (hr : Rd w A (itemCells l)) (hg : goodM l = true) :
    Calls Try.prog 47 #[.slice A n c] w fun e w' => e = .returned (.tuple #[.string (strOf (l.flatMap printI)), .int .i64 0]) ∧ Below w.heap.size w w' := by
  have hn60 : n ≤ 60 := by
    have h := hg
    unfold goodM at h
    simp only [Bool.and_eq_true, decide_eq_true_eq] at h
    omega
  have hr0 := hr.below ((Below.refl w.heap.size w).alloc (Nat.le_refl _) (.cells #[.pointer none, .slice none 0 0] 97))
  have HC := hid (goodD_any A n c l (w.alloc (.cells #[.pointer none, .slice none 0 0] 97)) hl (by omega) hr0)
  have HR := hid hr
  rw [hg] at HC
  have HL := hid hl
  have HBY := hid (texts_byte l)
  clear hr hg hl hr0
  go_enter Try.func47, Try.ntmps47
  go_wp2_with fail
  refine HC.out.mono ?_
  rintro e w1 ⟨rfl, hb1⟩
  have HB1 : Hid (Below w.heap.size w w1) := ((Below.refl w.heap.size w).alloc (Nat.le_refl _) _).trans (hb1.mono (by simp))
  have HS1 : Hid (Lib.IsBuilder 97 5 w.heap.size w.heap.size (u8Cells []) w1) := isB_below (Lib.fresh_isBuilder 97 5 w) hb1
  clear hb1 HC
  go_wp2_with fail
  go_loopw [13] (fun iv wr => ∃ (k : Nat), k ≤ n ∧ iv = .int .i64 (k : Int) ∧ Lib.IsBuilder 97 5 w.heap.size w.heap.size (u8Cells ((l.take k).flatMap printI)) wr ∧ Below w.heap.size w wr) (fun iv _ => n - (intOf iv).toNat)
  case atStart => exact ⟨0, by omega, rfl, HS1.out, HB1.out⟩
  case round =>
    obtain ⟨k, hk, rfl, hs, hb⟩ := hrel
    have HS := hid hs; have HB := hid hb
    clear HS1 HB1
    by_cases hlt : k < n
    · have hkl : k < l.length := by rw [HL.out]; exact hlt
      obtain ⟨b, off, rfl, hbl, hc⟩ := (HR.out.below hb).at (by rw [itemCells_length, HL.out]; omega)
      obtain ⟨d0, d1, d2, d3, d4⟩ := item_at hc k hkl
      have HSU := hid (flat_succ l k hkl)
      have HDL : Hid (((l.take k).flatMap printI).length ≤ 77400) := by
        have h1 := flat_len (l.take k)
        rw [List.length_take] at h1
        rw [Hid]; omega
      obtain ⟨x, hx⟩ : ∃ x, l[k]'hkl = x := ⟨_, rfl⟩
      rw [hx] at d0 d1 d2 d3 d4 HSU
      obtain ⟨D, hD⟩ : ∃ D, (l.take k).flatMap printI = D := ⟨_, rfl⟩
      rw [hD] at HS HSU HDL
      clear hx hc hs hb hD hbl
      obtain ⟨run, set⟩ := x
      simp only at d0 d1 d2 d3 d4
      have C1 := hid (fun W => lenC_any set W)
      have hXn := Blk.new wr 52 #[.bool run, w64 set.w0, w64 set.w1, w64 set.w2, w64 set.w3]
      have HX0 := hid hXn
      obtain ⟨k0, k1, k2, k3, k4, -, -, -, -, -⟩ := blk5 hXn
      have HS0 : Hid (Lib.IsBuilder 97 5 w.heap.size w.heap.size (u8Cells D) (wr.alloc (.cells #[.bool run, w64 set.w0, w64 set.w1, w64 set.w2, w64 set.w3] 52))) := isB_below HS.out ((Below.refl wr.heap.size wr).alloc (Nat.le_refl _) _)
      have HB0 : Hid (Below w.heap.size w (wr.alloc (.cells #[.bool run, w64 set.w0, w64 set.w1, w64 set.w2, w64 set.w3] 52))) := HB.out.alloc HB.out.size _
      unfold BSet.val at C1
      clear hXn HS HB
      go_wp2_with fail
      refine (C1.out _).mono ?_
      rintro e w2 ⟨rfl, hb2⟩
      have HX2 : Hid (Blk w2 wr.heap.size 52 #[.bool run, w64 set.w0, w64 set.w1, w64 set.w2, w64 set.w3]) := HX0.out.below hb2 HX0.out.lt
      have HS2 : Hid (Lib.IsBuilder 97 5 w.heap.size w.heap.size (u8Cells D) w2) := isB_below HS0.out hb2
      have HB2 : Hid (Below w.heap.size w w2) := HB0.out.trans (hb2.mono HB0.out.size)
      clear hb2 C1 HX0 HS0 HB0 k0 k1 k2 k3 k4 d0 d1 d2 d3 d4
      obtain ⟨k0, k1, k2, k3, k4, -, -, -, -, -⟩ := blk5 HX2.out
      obtain ⟨X, hX⟩ : ∃ X, wr.heap.size = X := ⟨_, rfl⟩
      rw [hX] at HX2 k0 k1 k2 k3 k4 ⊢
      clear hX
      obtain ⟨q, hq⟩ : ∃ q, (bytesM set).length = q := ⟨_, rfl⟩
      rw [hq]
      cases run
      · by_cases h256 : q = 256
        · have e256 : ((q : Int) == 256) = true := by rw [beq_iff_eq]; omega
          have HPI : Hid (printI ⟨false, set⟩ = [63]) := by rw [Hid, printI, if_neg (show ¬ (false = true) by decide), if_pos (by rw [hq]; exact h256)]
          clear h256 hq
          go_wp2_with fail
          refine (writeByte_any w.heap.size w.heap.size (u8Cells D) 63 w2 HS2.out (by rw [u8Cells_length]; have := HDL.out; omega)).mono ?_
          rintro e w4 ⟨rfl, hs4, hb4⟩
          have HS4 : Hid (Lib.BuilderAt 97 5 w.heap.size w.heap.size (.pointer (some ⟨w.heap.size, 0, none⟩)) (u8Cells (D ++ [63])) w4) := by
            rw [Hid, u8Cells_append]; simpa [u8Cells] using hs4
          have HB4 : Hid (Below w.heap.size w w4) := HB2.out.trans hb4
          clear hs4 hb4 HS2 HB2
          go_wp2_with fail
          go_roundw
          case rel => exact ⟨k + 1, by omega, by go_num, by rw [HSU.out, HPI.out]; exact .inr HS4.out, HB4.out⟩
          case measure => simp [intOf]; omega
        · have e256 : ((q : Int) == 256) = false := by rw [beq_eq_false_iff_ne]; omega
          by_cases h1 : q = 1
          · have e1 : ((q : Int) == 1) = true := by rw [beq_iff_eq]; omega
            have HPI : Hid (printI ⟨false, set⟩ = gsignM ((bytesM set).getD 0 0).toNat) := by rw [Hid, printI, if_neg (show ¬ (false = true) by decide), if_neg (by rw [hq]; exact h256), if_pos (by rw [hq]; exact h1)]
            have C2 := hid (fun W => bytesC_any set W)
            obtain ⟨BS, hBS⟩ : ∃ B, (⟨(bytesM set).toArray⟩ : ByteArray) = B := ⟨_, rfl⟩
            have hbs : 0 < BS.size := by rw [← hBS]; show 0 < (bytesM set).toArray.size; simp; omega
            have hcc : (BS[0]'hbs).toNat = ((bytesM set).getD 0 0).toNat := by
              rw [← byteAt_get BS 0 hbs, byteAt, ← hBS]
            rw [hBS] at C2
            obtain ⟨cc, hcc2⟩ : ∃ c, ((bytesM set).getD 0 0).toNat = c := ⟨_, rfl⟩
            rw [hcc2] at hcc HPI
            unfold BSet.val at C2
            clear h1 h256 hq hBS hcc2
            go_wp2_with fail
            refine (C2.out _).mono ?_
            rintro e w3 ⟨rfl, hb3⟩
            have HS3 : Hid (Lib.IsBuilder 97 5 w.heap.size w.heap.size (u8Cells D) w3) := isB_below HS2.out hb3
            have HB3 : Hid (Below w.heap.size w w3) := HB2.out.trans (hb3.mono HB2.out.size)
            clear hb3 C2 HS2 HB2
            go_wp2_with fail
            refine (gsign_any w.heap.size w.heap.size D cc w3 HS3.out (by have := HDL.out; omega)).mono ?_
            rintro e w4 ⟨rfl, hs4, hb4⟩
            have HS4 := hid hs4
            have HB4 : Hid (Below w.heap.size w w4) := HB3.out.trans hb4
            clear hs4 hb4 HS3 HB3
            go_wp2_with fail
            go_roundw
            case rel => exact ⟨k + 1, by omega, by go_num, by rw [HSU.out, HPI.out]; exact .inr HS4.out, HB4.out⟩
            case measure => simp [intOf]; omega
          · have e1 : ((q : Int) == 1) = false := by rw [beq_eq_false_iff_ne]; omega
            have HPI : Hid (printI ⟨false, set⟩ = textM set) := by rw [Hid, printI, if_neg (show ¬ (false = true) by decide), if_neg (by rw [hq]; exact h256), if_neg (by rw [hq]; exact h1)]
            have C2 := hid (fun W => printC_any set W)
            have HTB := hid (strCells_of (textM set) (textM_byte set))
            have hTl : (strOf (textM set)).size ≤ 1290 := by rw [strOf_size']; exact textM_len2 set
            obtain ⟨TS, hTS⟩ : ∃ T, strOf (textM set) = T := ⟨_, rfl⟩
            rw [hTS] at C2 HTB hTl
            unfold BSet.val at C2
            clear h1 h256 hq hTS
            go_wp2_with fail
            refine (C2.out _).mono ?_
            rintro e w3 ⟨rfl, hb3⟩
            have HS3 : Hid (Lib.IsBuilder 97 5 w.heap.size w.heap.size (u8Cells D) w3) := isB_below HS2.out hb3
            have HB3 : Hid (Below w.heap.size w w3) := HB2.out.trans (hb3.mono HB2.out.size)
            clear hb3 C2 HS2 HB2
            go_wp2_with fail
            refine (writeString_any w.heap.size w.heap.size (u8Cells D) TS w3 HS3.out (by rw [u8Cells_length]; have := HDL.out; omega)).mono ?_
            rintro e w4 ⟨rfl, hs4, hb4⟩
            have HS4 : Hid (Lib.BuilderAt 97 5 w.heap.size w.heap.size (.pointer (some ⟨w.heap.size, 0, none⟩)) (u8Cells (D ++ printI ⟨false, set⟩)) w4) := by
              rw [Hid, HPI.out, u8Cells_append, ← HTB.out]; exact hs4
            have HB4 : Hid (Below w.heap.size w w4) := HB3.out.trans hb4
            clear hs4 hb4 HS3 HB3
            go_wp2_with fail
            go_roundw
            case rel => exact ⟨k + 1, by omega, by go_num, by rw [HSU.out]; exact .inr HS4.out, HB4.out⟩
            case measure => simp [intOf]; omega
      · have HPI : Hid (printI ⟨true, set⟩ = [42]) := by rw [Hid, printI, if_pos rfl]
        clear hq
        go_wp2_with fail
        refine (writeByte_any w.heap.size w.heap.size (u8Cells D) 42 w2 HS2.out (by rw [u8Cells_length]; have := HDL.out; omega)).mono ?_
        rintro e w4 ⟨rfl, hs4, hb4⟩
        have HS4 : Hid (Lib.BuilderAt 97 5 w.heap.size w.heap.size (.pointer (some ⟨w.heap.size, 0, none⟩)) (u8Cells (D ++ [42])) w4) := by
          rw [Hid, u8Cells_append]; simpa [u8Cells] using hs4
        have HB4 : Hid (Below w.heap.size w w4) := HB2.out.trans hb4
        clear hs4 hb4 HS2 HB2
        go_wp2_with fail
        go_roundw
        case rel => exact ⟨k + 1, by omega, by go_num, by rw [HSU.out, HPI.out]; exact .inr HS4.out, HB4.out⟩
        case measure => simp [intOf]; omega
    · obtain rfl : k = n := by omega
      have HS9 : Hid (Lib.IsBuilder 97 5 w.heap.size w.heap.size (Lib.byteCells ((l.flatMap printI).map UInt8.ofNat)) wr) := by
        rw [Hid, ← u8Cells_of _ HBY.out]
        have := HS.out
        rwa [List.take_of_length_le (by rw [HL.out]; exact Nat.le_refl _)] at this
      have hs9 : w.heap.size ≤ wr.heap.size := HB.out.size
      clear hs hb HS
      go_wp2_with fail
      refine (bstring_any _ _ _ _ HS9.out hs9).mono ?_
      rintro e w9 ⟨rfl, hb9⟩
      have HB9 := hid (HB.out.trans hb9)
      clear hb9
      go_wp2_with fail
      go_ret2
      exact ⟨rfl, HB9.out⟩
end Go.Proofs.Ytgiffdgicmdmgaa
namespace Go.Proofs.Ytgiffdgicmdmgaa
open Go.RowKit

theorem Try.eqSetD (d : Nat) (x y : BSet) (W : World) : (Op.equalIn (d + 2) 50 (.agg #[w64 x.w0, w64 x.w1, w64 x.w2, w64 x.w3]) (.agg #[w64 y.w0, w64 y.w1, w64 y.w2, w64 y.w3])).run Try.prog W = .ok (x == y) W := by
  obtain ⟨i0, hi, hz0, hz1, hz2⟩ := info_parts Try.infoU64
  obtain ⟨x0, x1, x2, x3⟩ := x
  obtain ⟨y0, y1, y2, y3⟩ := y
  have hp : ∀ (cs : Array Value) (k : Nat) (v : Value), cs[k]? = some v → (part 48 cs k).run Try.prog W = .ok v W := by
    intro cs k v h
    simp [part, h]
  have he : ∀ a b : BitVec 64, (Op.equalIn (d + 1) 48 (w64 a) (w64 b)).run Try.prog W = .ok (decide (a = b)) W := by
    intro a b
    rw [← w64_eq]
    exact run_equalIn_int W d 48 .u64 .u64 _ _ Try.underlying48
  rw [run_equalIn_array W (d + 1) _ _ Try.underlying50 hi]
  have a0 := hp #[w64 x0, w64 x1, w64 x2, w64 x3] (0 * 1) (w64 x0) rfl
  have a1 := hp #[w64 x0, w64 x1, w64 x2, w64 x3] (1 * 1) (w64 x1) rfl
  have a2 := hp #[w64 x0, w64 x1, w64 x2, w64 x3] (2 * 1) (w64 x2) rfl
  have a3 := hp #[w64 x0, w64 x1, w64 x2, w64 x3] (3 * 1) (w64 x3) rfl
  have b0 := hp #[w64 y0, w64 y1, w64 y2, w64 y3] (0 * 1) (w64 y0) rfl
  have b1 := hp #[w64 y0, w64 y1, w64 y2, w64 y3] (1 * 1) (w64 y1) rfl
  have b2 := hp #[w64 y0, w64 y1, w64 y2, w64 y3] (2 * 1) (w64 y2) rfl
  have b3 := hp #[w64 y0, w64 y1, w64 y2, w64 y3] (3 * 1) (w64 y3) rfl
  have hd : ((⟨x0, x1, x2, x3⟩ : BSet) == ⟨y0, y1, y2, y3⟩) = (decide (x0 = y0) && (decide (x1 = y1) && (decide (x2 = y2) && decide (x3 = y3)))) := by
    rw [Bool.eq_iff_iff]; simp
  rw [hd]
  have e0 := he x0 y0
  have e1 := he x1 y1
  have e2 := he x2 y2
  have e3 := he x3 y3
  clear hp he hd
  generalize decide (x0 = y0) = p0 at *
  generalize decide (x1 = y1) = p1 at *
  generalize decide (x2 = y2) = p2 at *
  generalize decide (x3 = y3) = p3 at *
  simp only [show List.range 4 = [0, 1, 2, 3] from rfl, Op.eqItems, Sem.run_bind, Try.cellsU64, a0, b0, e0, Result.andThen_ok]
  cases p0
  · rfl
  simp only [Bool.not_true, Bool.false_eq_true, if_false, Bool.true_and, Sem.run_bind, a1, b1, e1, Result.andThen_ok]
  cases p1
  · rfl
  simp only [Bool.not_true, Bool.false_eq_true, if_false, Bool.true_and, Sem.run_bind, a2, b2, e2, Result.andThen_ok]
  cases p2
  · rfl
  simp only [Bool.not_true, Bool.false_eq_true, if_false, Bool.true_and, Sem.run_bind, a3, b3, e3, Result.andThen_ok]
  cases p3 <;> rfl

/-- Two items are one. -/
def eqI (x y : Item) : Bool := (x.run == y.run) && (x.set == y.set)
theorem eqI_iff (x y : Item) : eqI x y = true ↔ x = y := by
  obtain ⟨a, b⟩ := x
  obtain ⟨c, d⟩ := y
  simp [eqI]

theorem Try.eqItem (x y : Item) (W : World) : (Op.equalIn 10000 52 (.agg #[.bool x.run, w64 x.set.w0, w64 x.set.w1, w64 x.set.w2, w64 x.set.w3]) (.agg #[.bool y.run, w64 y.set.w0, w64 y.set.w1, w64 y.set.w2, w64 y.set.w3])).run Try.prog W = .ok (eqI x y) W := by
  have u1 := Try.underlying4
  have a1 := Try.isAgg4
  have z1 := Try.sizeOf4
  have u2 := Try.underlying50
  have a2 := Try.isAgg50
  have z2 := Try.sizeOf50
  have hS : Try.prog.underlying 52 = some (.struct (Try.prog.fieldsOf 52)) := by kernel_rfl
  have hp : Try.prog.stoodInHeld 52 = false := by kernel_rfl
  have hs := Try.eqSetD 9997 x.set y.set W
  rw [show 9997 + 2 = 9999 from rfl] at hs
  rw [show (10000 : Nat) = 9999 + 1 from rfl, run_equalIn_struct W 9999 52 _ _ hS hp]
  simp only [Program.fieldsOf, Try.underlying52]
  have hb : ∀ a b : Bool, (Op.equalIn 9999 4 (.bool a) (.bool b)).run Try.prog W = .ok (a == b) W := by
    intro a b
    go_simp
  have pb : ∀ a b c d e : Value, (part 4 #[a, b, c, d, e] 0).run Try.prog W = .ok a W := by
    intro a b c d e
    simp [part, a1]
  have ps : ∀ a b c d e : Value, (part 50 #[a, b, c, d, e] 1).run Try.prog W = .ok (.agg #[b, c, d, e]) W := by
    intro a b c d e
    simp [part, a2, z2]
  simp only [Op.eqFields, Sem.run_bind, Sem.run_ite, pb, hb, ps, hs, Result.andThen_ok]
  unfold eqI
  cases (x.run == y.run) <;> cases (x.set == y.set) <;> simp

def sameI : List Item → List Item → Bool
  | [], [] => true
  | x :: l, y :: m => eqI x y && sameI l m
  | _, _ => false
theorem sameI_iff (l m : List Item) : sameI l m = true ↔ l = m := by
  induction l generalizing m with
  | nil => cases m <;> simp [sameI]
  | cons x l ih =>
    cases m with
    | nil => simp [sameI]
    | cons y m => simp [sameI, ih, eqI_iff]
theorem sameI_false (l m : List Item) (h : l ≠ m) : sameI l m = false := by
  rw [Bool.eq_false_iff, Ne, sameI_iff]; exact h

set_option maxRecDepth 20000 in
set_option maxHeartbeats 800000 in
theorem sameR7_any (A B : Option Addr) (n m c d : Nat) (a b : List Item) (w : World) (ha : a.length = n) (hb : b.length = m) (hn : n ≤ 1000000) (hm : m ≤ 1000000) (hra : Rd w A (itemCells a)) (hrb : Rd w B (itemCells b)) :
    Calls Try.prog 41 #[.slice A n c, .slice B m d] w fun e w' => e = .returned (.bool (sameI a b)) ∧ Below w.heap.size w w' := by
  by_cases hnm : n = m
  · subst hnm
    have HA := hid ha; have HB := hid hb
    clear ha hb
    go_enter Try.func41, Try.ntmps41
    go_wp2_with fail
    go_loopw [5] (fun i wr => ∃ k, k ≤ n ∧ i = .int .i64 k ∧ Hid (a.take k = b.take k) ∧ Below w.heap.size w wr) (fun i _ => n - (intOf i).toNat)
    case atStart => exact ⟨0, by omega, rfl, by simp [Hid], Below.refl _ _⟩
    case round =>
      obtain ⟨k, hk, rfl, HT, hbw⟩ := hrel
      have HBW := hid hbw
      by_cases hlt : k < n
      · obtain ⟨p, o1, rfl, hp, hc1⟩ := (hra.below hbw).at (by rw [itemCells_length, HA.out]; omega)
        obtain ⟨q, o2, rfl, hq, hc2⟩ := (hrb.below hbw).at (by rw [itemCells_length, HB.out]; omega)
        have hka : k < a.length := by rw [HA.out]; exact hlt
        have hkb : k < b.length := by rw [HB.out]; exact hlt
        obtain ⟨x0, x1, x2, x3, x4⟩ := item_at hc1 k hka
        obtain ⟨y0, y1, y2, y3, y4⟩ := item_at hc2 k hkb
        have HEa : Hid (a.take (k + 1) = a.take k ++ [a[k]'hka]) := by rw [Hid, List.take_succ_eq_append_getElem hka]
        have HEb : Hid (b.take (k + 1) = b.take k ++ [b[k]'hkb]) := by rw [Hid, List.take_succ_eq_append_getElem hkb]
        have HX : Hid (a = b → a[k]'hka = b[k]'hkb) := fun e => by subst e; rfl
        obtain ⟨x, hx⟩ : ∃ x, a[k]'hka = x := ⟨_, rfl⟩
        obtain ⟨y, hy⟩ : ∃ y, b[k]'hkb = y := ⟨_, rfl⟩
        rw [hx] at x0 x1 x2 x3 x4 HEa HX
        rw [hy] at y0 y1 y2 y3 y4 HEb HX
        clear hc1 hc2 hra hrb hbw hx hy
        by_cases hxy : x = y
        · have heq : ∀ W, (Op.equalIn 10000 52 (.agg #[.bool x.run, w64 x.set.w0, w64 x.set.w1, w64 x.set.w2, w64 x.set.w3]) (.agg #[.bool y.run, w64 y.set.w0, w64 y.set.w1, w64 y.set.w2, w64 y.set.w3])).run Try.prog W = .ok true W := by
            intro W; rw [Try.eqItem, (eqI_iff x y).2 hxy]
          have HXY := hid hxy
          clear hxy
          go_wp2_with fail
          go_quiet (fail)
          go_wp2_with fail
          go_roundw
          case rel => exact ⟨k + 1, by omega, by go_num, by rw [Hid, HEa.out, HEb.out, HT.out, HXY.out], HBW.out.trans ((drewN_below _ _).mono HBW.out.size)⟩
          case measure => simp [intOf]; omega
        · have heq : ∀ W, (Op.equalIn 10000 52 (.agg #[.bool x.run, w64 x.set.w0, w64 x.set.w1, w64 x.set.w2, w64 x.set.w3]) (.agg #[.bool y.run, w64 y.set.w0, w64 y.set.w1, w64 y.set.w2, w64 y.set.w3])).run Try.prog W = .ok false W := by
            intro W; rw [Try.eqItem, show eqI x y = false from by rw [Bool.eq_false_iff, Ne, eqI_iff]; exact hxy]
          have HS : Hid (sameI a b = false) := sameI_false a b (fun e => hxy (HX.out e))
          clear hxy
          go_wp2_with fail
          go_quiet (fail)
          go_wp2_with fail
          go_ret
          exact ⟨by rw [HS.out]; rfl, HBW.out.trans ((drewN_below _ _).mono HBW.out.size)⟩
      · have HS : Hid (sameI a b = true) := by
          have h1 := HT.out
          rw [List.take_of_length_le (by rw [HA.out]; omega), List.take_of_length_le (by rw [HB.out]; omega)] at h1
          rw [Hid, sameI_iff]; exact h1
        clear hra hrb
        go_wp2_with fail
        go_ret
        exact ⟨by rw [HS.out]; rfl, HBW.out⟩
  · have HS : Hid (sameI a b = false) := sameI_false a b (by rintro rfl; omega)
    have hne : ((n : Int) == (m : Int)) = false := by rw [beq_eq_false_iff_ne]; omega
    clear hra hrb
    go_enter Try.func41, Try.ntmps41
    go_wp2_with fail
    go_ret
    exact ⟨by rw [HS.out]; rfl, Below.refl _ _⟩
end Go.Proofs.Ytgiffdgicmdmgaa
namespace Go.Proofs.Ytgiffdgicmdmgaa
open Go.RowKit PopT

theorem live7_read0 : parseM ⟨#[97, 42, 91, 48, 45, 57, 93, 37, 42]⟩ = ([⟨false, spanTo 97 1⟩, ⟨true, BSet.zero⟩, ⟨false, spanTo 48 10⟩, ⟨false, spanTo 42 1⟩], 0, 0) := by kernel_rfl
theorem live7_read : ∃ x0 s1 x2 x3, parseM ⟨#[97, 42, 91, 48, 45, 57, 93, 37, 42]⟩ = ([x0, ⟨true, s1⟩, x2, x3], 0, 0) := ⟨_, _, _, _, live7_read0⟩
def live7S : BSet := ofM [42]
theorem live7_good : goodM [⟨false, live7S⟩, ⟨true, BSet.zero⟩] = true := by kernel_rfl
theorem live7_text : strOf (([⟨false, live7S⟩, ⟨true, BSet.zero⟩] : List Item).flatMap printI) = ⟨#[37, 42, 42]⟩ := by kernel_rfl

theorem Rd_block (w : World) (xs : List Value) (t : TypeId) : Rd (w.alloc (.cells xs.toArray t)) (some ⟨w.heap.size, 0, none⟩) xs :=
  .inr ⟨w.heap.size, 0, rfl, by simp, fun j u hj => by rw [Nat.zero_add]; exact (cell_of_row _ w.heap.size j _ _ (0, 0) (heap_alloc_new w _)).trans (by simpa using hj)⟩

set_option maxRecDepth 20000 in
set_option maxHeartbeats 800000 in
theorem lives07_any (w : World) : Calls Try.prog 43 #[] w fun e w' => e = .returned (.bool true) ∧ Below w.heap.size w w' := by
  have C1 := hid (fun W => parse_any ⟨#[97, 42, 91, 48, 45, 57, 93, 37, 42]⟩ (by decide) W)
  obtain ⟨x0, s1, x2, x3, hp⟩ := live7_read
  rw [hp] at C1
  have C2 := hid (fun W => ofR_any ⟨#[42]⟩ W (by decide))
  rw [show ofM (⟨#[42]⟩ : ByteArray).data.toList = live7S from rfl] at C2
  have C3 := hid (fun (W : World) hr => gprint_any (some ⟨W.heap.size, 0, none⟩) 2 2 [⟨false, live7S⟩, ⟨true, BSet.zero⟩] (W.alloc (.cells (itemCells [⟨false, live7S⟩, ⟨true, BSet.zero⟩]).toArray 52)) rfl hr live7_good)
  rw [live7_text] at C3
  obtain ⟨Y, hY⟩ : ∃ Y, live7S = Y := ⟨_, rfl⟩
  rw [hY] at C2 C3
  clear hY hp
  obtain ⟨y0, y1, y2, y3⟩ := Y
  unfold BSet.val at C2
  go_enter Try.func43, Try.ntmps43
  go_wp2_with fail
  refine (C1.out _).mono ?_
  rintro e w1 ⟨A, c, rfl, hown, hb1⟩
  have HB1 := hid hb1
  have HR1 : Hid (Rd w1 A (itemCells [x0, ⟨true, s1⟩, x2, x3])) := Rd_of_own hown
  clear hown hb1 C1
  go_wp2_with fail
  refine (C2.out _).mono ?_
  rintro e w2 ⟨rfl, hb2⟩
  have HR2 := hid (HR1.out.below hb2)
  have HB2 := hid (HB1.out.trans (hb2.mono HB1.out.size))
  clear hb2 HR1 HB1 C2
  have C4 := hid (C3.out w2 (Rd_block w2 _ _))
  clear C3
  go_wp2_with fail
  refine C4.out.mono ?_
  rintro e w3 ⟨rfl, hb3⟩
  have HR3 := hid ((HR2.out.below ((Below.refl w2.heap.size w2).alloc (Nat.le_refl _) _)).below hb3)
  have HB3 : Hid (Below w.heap.size w w3) := (HB2.out.alloc HB2.out.size _).trans (hb3.mono (Nat.le_trans HB2.out.size (by simp)))
  clear hb3 HR2 HB2 C4
  obtain ⟨b, off, rfl, hbl, hc⟩ := HR3.out.at (by rw [itemCells_length]; exact Nat.succ_pos _)
  have d0 : w3.cell? ⟨b, off + 5, none⟩ = some (.bool true) := hc 5 _ rfl
  clear hc HR3
  go_wp2_with fail
  go_ret
  exact ⟨rfl, HB3.out⟩
end Go.Proofs.Ytgiffdgicmdmgaa
