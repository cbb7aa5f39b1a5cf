/- Walks: the reference's 'Same' of two like lists, its 'Least'; the tests 'Void', 'Empty' of package lang. Tables in plain Lean: states as words; what closing, stepping and seeking say of each bit. No program in sight. Walks: package glob's 'Good'; a table's methods. Regions that draw their order and whose calls only make new blocks: one walk of the order of the text. No program in sight. -/
import Derived.Test.YtdbiodofofnpgaaMc
import Derived.Test.YtdbiodofofnpgaaMa
import Derived.Shelf.Abstract
import Derived.Laws.BitsAllLaws
import Derived.BigQuiet
namespace Go.Proofs.Ytdbiodofofnpgaa
open Go.RowKit

set_option maxHeartbeats 400000 in
theorem leastR_any (A : Option Addr) (n c : Nat) (l : List Item) (w : World) (hl : l.length = n) (hn : n ≤ 1000000) (hr : Rd w A (itemCells l)) :
    Calls Try.prog 136 #[.slice A n c] w fun e w' => e = .returned (.int .i64 (leastM l : Int)) ∧ Below w.heap.size w w' := by
  have HL := hid hl; clear hl
  go_enter Try.func136, Try.ntmps136
  go_wp2
  go_loopw [3, 4] (fun v i wr => ∃ (k : Nat), k ≤ n ∧ i = .int .i64 k ∧ v = .int .i64 (leastM (l.take k) : Int) ∧ Below w.heap.size w wr) (fun _ i _ => n - (intOf i).toNat)
  case atStart => exact ⟨0, by omega, rfl, rfl, Below.refl _ _⟩
  case round =>
    obtain ⟨k, hk, rfl, rfl, hb⟩ := hrel
    by_cases hlt : k < n
    · obtain ⟨b, off, rfl, hbl, hc⟩ := (hr.below hb).at (by rw [itemCells_length, HL.out]; omega)
      have HK : Hid (k < l.length) := by rw [HL.out]; exact hlt
      obtain ⟨d0, d1, d2, d3, d4⟩ := item_at hc k HK.out
      have hle : leastM (l.take k) ≤ k := by unfold leastM; exact Nat.le_trans (List.length_filter_le _ _) (by simp; omega)
      have HS : Hid (leastM (l.take (k + 1)) = leastM (l.take k) + if (l[k]'HK.out).run then 0 else 1) := by
        rw [Hid, List.take_succ_eq_append_getElem HK.out]
        unfold leastM
        rw [List.filter_append]
        cases h : (l[k]'HK.out).run <;> simp [h]
      have HB := hid hb
      clear hc hr hb
      generalize l[k]'HK.out = x at *
      generalize leastM (l.take k) = q at *
      cases hrun : x.run
      · rw [hrun] at d0 HS
        clear hrun
        go_wp2
        go_roundw
        case rel => exact ⟨k + 1, by omega, by go_num, by rw [HS.out]; go_num, HB.out⟩
        case measure => simp [intOf]; omega
      · rw [hrun] at d0 HS
        clear hrun
        go_wp2
        go_roundw
        case rel => exact ⟨k + 1, by omega, by go_num, by rw [HS.out]; rfl, HB.out⟩
        case measure => simp [intOf]; omega
    · go_wp2
      go_ret
      have hkk : l.take k = l := List.take_of_length_le (by rw [HL.out]; omega)
      rw [hkk]
      exact ⟨rfl, hb⟩

/-! ### Tests handed over as function values -/
theorem emptyF_any (x : Item) (w : World) : Calls Try.prog 196 #[x.val] w fun e w' => e = .returned (.bool (!x.run)) ∧ Below w.heap.size w w' := by
  have hb : ∀ cs, Below w.heap.size w (w.alloc (.cells cs 234)) := fun cs => (Below.refl _ _).alloc (Nat.le_refl _) _
  have HB := hid hb
  clear hb
  unfold Item.val
  obtain ⟨r, x0, x1, x2, x3⟩ := x
  simp only at *
  go_enter Try.func196, Try.ntmps196
  go_wp2
  go_ret
  exact ⟨rfl, HB.out _⟩

set_option maxHeartbeats 400000 in
theorem indexFunc_any (F : Nat) (T : Item → Bool) (hE : ∀ args W, (callFunc F args).run Try.prog W = .ok (.enter F args) W) (hF : ∀ x W, Calls Try.prog F #[Item.val x] W fun e W' => e = .returned (.bool (T x)) ∧ Below W.heap.size W W')
    (A : Option Addr) (n c : Nat) (l : List Item) (w : World) (hl : l.length = n) (hn : n ≤ 1000000) (hr : Rd w A (itemCells l)) :
    Calls Try.prog 214 #[.slice A n c, .func (.func F) #[] #[]] w fun e w' => ∃ i : Int, e = .returned (.int .i64 i) ∧ Hid ((l.any T = true ∧ 0 ≤ i) ∨ (l.any T = false ∧ i = -1)) ∧ Below w.heap.size w w' := by
  have HL := hid hl; clear hl
  have HF := hid hF; clear hF
  go_enter Try.func214, Try.ntmps214
  go_wp2
  go_loopw [8] (fun i wr => ∃ (k : Nat), k ≤ n ∧ i = .int .i64 k ∧ Hid ((l.take k).any T = false) ∧ Below w.heap.size w wr) (fun i _ => n - (intOf i).toNat)
  case atStart => exact ⟨0, by omega, rfl, rfl, Below.refl _ _⟩
  case round =>
    obtain ⟨k, hk, rfl, HA, hb⟩ := hrel
    by_cases hlt : k < n
    · obtain ⟨b, off, rfl, hbl, hc⟩ := (hr.below hb).at (by rw [itemCells_length, HL.out]; omega)
      have HK : Hid (k < l.length) := by rw [HL.out]; exact hlt
      obtain ⟨d0, d1, d2, d3, d4⟩ := item_at hc k HK.out
      have HS : Hid ((l.take (k + 1)).any T = T (l[k]'HK.out)) := by
        rw [Hid, List.take_succ_eq_append_getElem HK.out, List.any_append, HA.out]; simp
      have HT : Hid (T (l[k]'HK.out) = true → l.any T = true) := fun h => List.any_eq_true.2 ⟨_, List.getElem_mem _, h⟩
      have HB := hid hb
      clear hc hr hb
      generalize l[k]'HK.out = x at *
      have HX : Hid (Item.val x = .agg #[.bool x.run, w64 x.set.w0, w64 x.set.w1, w64 x.set.w2, w64 x.set.w3]) := rfl
      go_wp2_with fail
      refine (HF.out x _).mono ?_
      rintro e w1 ⟨rfl, hb1⟩
      have HB1 := hid (HB.out.trans (hb1.mono HB.out.size))
      clear hb1 d0 d1 d2 d3 d4
      cases ht : T x
      · have HS2 : Hid ((l.take (k + 1)).any T = false) := by rw [Hid, HS.out, ht]
        clear ht
        go_wp2_with fail
        go_roundw
        case rel => exact ⟨k + 1, by omega, by go_num, HS2, HB1.out⟩
        case measure => simp [intOf]; omega
      · have HT2 := hid (HT.out ht)
        clear ht
        go_wp2_with fail
        go_ret
        exact ⟨k, rfl, .inl ⟨HT2.out, by omega⟩, HB1.out⟩
    · have hkk : l.take k = l := List.take_of_length_le (by rw [HL.out]; omega)
      rw [hkk] at HA
      go_wp2
      go_ret
      exact ⟨-1, rfl, .inr ⟨HA.out, rfl⟩, hb⟩

set_option maxHeartbeats 400000 in
theorem containsFunc_any (F : Nat) (T : Item → Bool) (hE : ∀ args W, (callFunc F args).run Try.prog W = .ok (.enter F args) W) (hF : ∀ x W, Calls Try.prog F #[Item.val x] W fun e W' => e = .returned (.bool (T x)) ∧ Below W.heap.size W W')
    (A : Option Addr) (n c : Nat) (l : List Item) (w : World) (hl : l.length = n) (hn : n ≤ 1000000) (hr : Rd w A (itemCells l)) :
    Calls Try.prog 195 #[.slice A n c, .func (.func F) #[] #[]] w fun e w' => e = .returned (.bool (l.any T)) ∧ Below w.heap.size w w' := by
  have HL := hid hl; clear hl
  have HF := hid hF; have HE := hid hE; clear hF hE
  go_enter Try.func195, Try.ntmps195
  go_wp2_with fail
  refine (indexFunc_any F T HE.out HF.out A n c l _ HL.out hn hr).mono ?_
  rintro e w1 ⟨i, rfl, HI, hb1⟩
  rcases HI.out with ⟨h1, h2⟩ | ⟨h1, rfl⟩
  · have H1 := hid h1
    clear h1 HI
    go_wp2
    go_ret
    exact ⟨by rw [H1.out]; rfl, hb1⟩
  · have H1 := hid h1
    clear h1 HI
    go_wp2
    go_ret
    exact ⟨by rw [H1.out]; rfl, hb1⟩

theorem bytes_empty (s : BSet) : (bytesM s).isEmpty = (s == BSet.zero) := by
  rw [Bool.eq_iff_iff, List.isEmpty_iff, beq_iff_eq]
  constructor
  · intro h
    refine BSet.ext_has fun b hb => ?_
    have h0 : BSet.zero.has b = false := by
      unfold BSet.has BSet.zero BSet.word; split <;> simp
    rw [h0]
    cases hh : s.has b with
    | false => rfl
    | true =>
      have hm := (mem_bytesM s (UInt8.ofNat b)).2 (by rwa [UInt8.toNat_ofNat_of_lt' hb])
      rw [h] at hm; cases hm
  · rintro rfl
    refine List.eq_nil_iff_forall_not_mem.2 fun c hc => ?_
    have := (mem_bytesM BSet.zero c).1 hc
    have h0 : BSet.zero.has c.toNat = false := by
      unfold BSet.has BSet.zero BSet.word; split <;> simp
    rw [h0] at this; cases this
theorem voidM_eq (l : List Item) : l.any (fun x => !x.run && x.set == BSet.zero) = voidM l := by
  unfold voidM; congr 1; funext x; rw [bytes_empty]
theorem matchR_nil (l : List Item) : matchR l [] = !(l.any fun x => !x.run) := by
  induction l with
  | nil => rfl
  | cons x l ih =>
    cases hr : x.run with
    | false => simp [matchR, hr]
    | true => simp [matchR, hr, ih]
theorem void_none (l : List Item) (s : List UInt8) (h : matchR l s = true) : voidM l = false := by
  induction l generalizing s with
  | nil => rfl
  | cons x l ih =>
    have e : voidM (x :: l) = ((!x.run && (bytesM x.set).isEmpty) || voidM l) := rfl
    rw [e]
    cases hr : x.run with
    | true =>
      simp only [matchR, hr, if_true, List.any_eq_true] at h
      obtain ⟨i, _, hm⟩ := h
      rw [ih _ hm]; rfl
    | false =>
      cases s with
      | nil => simp [matchR, hr] at h
      | cons c r =>
        simp only [matchR, hr, Bool.false_eq_true, if_false, Bool.and_eq_true] at h
        rw [ih _ h.2]
        have hm := (mem_bytesM x.set c).2 h.1
        cases hb : bytesM x.set with
        | nil => rw [hb] at hm; cases hm
        | cons _ _ => rfl
theorem least_le (l : List Item) (s : List UInt8) (h : matchR l s = true) : leastM l ≤ s.length := by
  induction l generalizing s with
  | nil => simp [leastM]
  | cons x l ih =>
    cases hr : x.run with
    | true =>
      simp only [matchR, hr, if_true, List.any_eq_true] at h
      obtain ⟨i, _, hm⟩ := h
      have := ih _ hm
      simp [leastM, hr] at this ⊢; omega
    | false =>
      cases s with
      | nil => simp [matchR, hr] at h
      | cons c r =>
        simp only [matchR, hr, Bool.false_eq_true, if_false, Bool.and_eq_true] at h
        have := ih _ h.2
        simp [leastM, hr] at this ⊢; omega

set_option maxHeartbeats 400000 in
theorem emptyC_any (A : Option Addr) (n c : Nat) (l : List Item) (w : World) (hl : l.length = n) (hn : n ≤ 1000000) (hr : Rd w A (itemCells l)) :
    Calls Try.prog 160 #[.slice A n c] w fun e w' => e = .returned (.bool (matchM l [])) ∧ Below w.heap.size w w' := by
  have HL := hid hl; clear hl
  have HM : Hid (matchM l [] = !(l.any fun x => !x.run)) := by rw [Hid, matchM_eq, matchR_nil]
  go_enter Try.func160, Try.ntmps160
  go_wp2_with fail
  refine (containsFunc_any 196 _ (enters_of Try.func196 (by kernel_rfl) rfl) emptyF_any A n c l _ HL.out hn hr).mono ?_
  rintro e w1 ⟨rfl, hb1⟩
  go_wp2
  go_ret
  exact ⟨by rw [HM.out]; rfl, hb1⟩
end Go.Proofs.Ytdbiodofofnpgaa
namespace Go.Proofs.Ytdbiodofofnpgaa
open Go.RowKit

def noItem : Item := ⟨false, BSet.zero⟩
def runB (l : List Item) (k : Nat) : Bool := (l.getD k noItem).run
def hasB (l : List Item) (b k : Nat) : Bool := (l.getD k noItem).set.has b
theorem zero_has (b : Nat) : BSet.zero.has b = false := by
  unfold BSet.has BSet.zero BSet.word; split <;> simp
theorem runB_out (l : List Item) (k : Nat) (h : l.length ≤ k) : runB l k = false := by
  unfold runB; rw [List.getD, List.getElem?_eq_none h]; rfl
theorem hasB_out (l : List Item) (b k : Nat) (h : l.length ≤ k) : hasB l b k = false := by
  unfold hasB; rw [List.getD, List.getElem?_eq_none h]; exact zero_has b
theorem runB_at (l : List Item) (k : Nat) (h : k < l.length) : runB l k = (l[k]).run := by
  unfold runB; rw [List.getD, List.getElem?_eq_getElem h]; rfl
theorem hasB_at (l : List Item) (b k : Nat) (h : k < l.length) : hasB l b k = (l[k]).set.has b := by
  unfold hasB; rw [List.getD, List.getElem?_eq_getElem h]; rfl

/-- A word by its bits. -/
def bv (f : Nat → Bool) : BitVec 64 := BitVec.ofNat 64 (accW ((List.range 64).map f) 0 64)
theorem bv_bit (f : Nat → Bool) (k : Nat) (h : k < 64) : (bv f).getLsbD k = f k := by
  unfold bv
  rw [BitVec.getLsbD, ofNat_toNat64 _ (accW_lt _ 0 64), accW_bit _ 0 64 k h (Nat.le_refl _)]
  simp [List.getD, h]
theorem bv_ext {x y : BitVec 64} (h : ∀ k, k < 64 → x.getLsbD k = y.getLsbD k) : x = y := BitVec.eq_of_getLsbD_eq fun k hk => h k hk

/-- What counts with a state: number by number. -/
def clo (runs x : Nat → Bool) : Nat → Bool
  | 0 => x 0
  | k + 1 => x (k + 1) || (clo runs x k && runs k)
def runsW (l : List Item) : BitVec 64 := bv (runB l)
def hasW (l : List Item) (b : Nat) : BitVec 64 := bv (hasB l b)
def closeW (l : List Item) (x : BitVec 64) : BitVec 64 := bv fun k => decide (k ≤ l.length) && clo (runB l) x.getLsbD k
def nextW (l : List Item) (x : BitVec 64) : BitVec 64 := x ||| ((x &&& runsW l) <<< 1)
def startW (l : List Item) : BitVec 64 := closeW l 1
def stepW (l : List Item) (x : BitVec 64) (b : Nat) : BitVec 64 := closeW l ((closeW l x &&& runsW l) ||| ((closeW l x &&& hasW l b) <<< 1))
def seekW (l : List Item) (x : BitVec 64) (b : Nat) : BitVec 64 := stepW l x b ||| startW l
def doneW (l : List Item) (x : BitVec 64) : Bool := (closeW l x).getLsbD l.length

theorem shl1_bit (x : BitVec 64) (k : Nat) (h : k < 64) : (x <<< 1).getLsbD k = (decide (0 < k) && x.getLsbD (k - 1)) := by
  rw [BitVec.getLsbD_shiftLeft]
  cases k with
  | zero => simp
  | succ k => simp [h]
theorem nextW_bit (l : List Item) (x : BitVec 64) (k : Nat) (h : k < 64) : (nextW l x).getLsbD k = (x.getLsbD k || (decide (0 < k) && (x.getLsbD (k - 1) && runB l (k - 1)))) := by
  unfold nextW
  rw [BitVec.getLsbD_or, shl1_bit _ _ h, BitVec.getLsbD_and]
  unfold runsW; rw [bv_bit _ _ (by omega)]
theorem closeW_bit (l : List Item) (x : BitVec 64) (k : Nat) (h : k < 64) : (closeW l x).getLsbD k = (decide (k ≤ l.length) && clo (runB l) x.getLsbD k) := bv_bit _ k h

/-- The loop of 'close': what it keeps, and what it comes to. -/
def CloseInv (l : List Item) (x y : BitVec 64) : Prop := (∀ k, k < 64 → y.getLsbD k = true → (closeW l x).getLsbD k = true) ∧ ∀ k, k < 64 → k ≤ l.length → x.getLsbD k = true → y.getLsbD k = true
theorem clo_base (runs x : Nat → Bool) (k : Nat) (h : x k = true) : clo runs x k = true := by
  cases k with
  | zero => exact h
  | succ k => simp [clo, h]
theorem close_start (l : List Item) (x y : BitVec 64) (hy : ∀ k, k < 64 → y.getLsbD k = (x.getLsbD k && decide (k ≤ l.length))) : CloseInv l x y := by
  constructor
  · intro k hk h
    rw [hy k hk, Bool.and_eq_true] at h
    rw [closeW_bit l x k hk, h.2, clo_base _ _ _ h.1]; rfl
  · intro k hk hl h
    rw [hy k hk, h]; simp [hl]
theorem close_next (l : List Item) (x y : BitVec 64) (h : CloseInv l x y) : CloseInv l x (nextW l y) := by
  constructor
  · intro k hk hb
    rw [nextW_bit l y k hk, Bool.or_eq_true] at hb
    rcases hb with hb | hb
    · exact h.1 k hk hb
    · simp only [Bool.and_eq_true, decide_eq_true_eq] at hb
      obtain ⟨h0, h1, h2⟩ := hb
      obtain ⟨j, rfl⟩ : ∃ j, k = j + 1 := ⟨k - 1, by omega⟩
      simp only [Nat.add_sub_cancel] at h1 h2
      have hc := h.1 j (by omega) h1
      rw [closeW_bit l x j (by omega), Bool.and_eq_true] at hc
      have hj : j < l.length := by
        rcases Nat.lt_or_ge j l.length with h | h
        · exact h
        · rw [runB_out l j h] at h2; cases h2
      rw [closeW_bit l x (j + 1) hk]
      simp only [clo, hc.2, h2, Bool.and_self, Bool.or_true, Bool.and_true, decide_eq_true_eq]; omega
  · intro k hk hl hx
    rw [nextW_bit l y k hk, h.2 k hk hl hx]; rfl
theorem close_done (l : List Item) (x y : BitVec 64) (h : CloseInv l x y) (he : nextW l y = y) : y = closeW l x := by
  refine bv_ext fun k hk => ?_
  rw [Bool.eq_iff_iff]
  refine ⟨h.1 k hk, fun hc => ?_⟩
  rw [closeW_bit l x k hk, Bool.and_eq_true, decide_eq_true_eq] at hc
  obtain ⟨hkl, hc⟩ := hc
  induction k with
  | zero => exact h.2 0 hk hkl hc
  | succ k ih =>
    simp only [clo, Bool.or_eq_true, Bool.and_eq_true] at hc
    rcases hc with hc | ⟨hc, hr⟩
    · exact h.2 _ hk hkl hc
    · have := ih (by omega) (by omega) hc
      rw [← he, nextW_bit l y (k + 1) hk, Nat.add_sub_cancel, this, hr]; simp
theorem next_grows (l : List Item) (y : BitVec 64) (h : nextW l y ≠ y) : y.toNat < (nextW l y).toNat := by
  have h1 : y.toNat ≤ (nextW l y).toNat := by
    unfold nextW; rw [BitVec.toNat_or]; exact Nat.left_le_or
  rcases Nat.lt_or_ge y.toNat (nextW l y).toNat with h2 | h2
  · exact h2
  · exact absurd (BitVec.eq_of_toNat_eq (by omega)) h

/-! ### What a state means -/
/-- Whether the first k items end at i, from any place on. -/
def atR (l : List Item) (w : List UInt8) (k i : Nat) : Bool := (endsAll (l.take k) w).getD i false
theorem atR_zero (l : List Item) (w : List UInt8) (i : Nat) (h : i ≤ w.length) : atR l w 0 i = true := by
  unfold atR endsAll
  rw [List.take_zero]
  show (placesM (w.length + 1) 0 true).getD i false = true
  exact (placesM_get _ _ _ _).2 ⟨by omega, .inl rfl⟩
theorem ends_take_succ (l : List Item) (w : List UInt8) (k : Nat) (h : k < l.length) : endsAll (l.take (k + 1)) w = stepM l[k] w (endsAll (l.take k) w) := endsM_succ l w _ k h
theorem atR_run (l : List Item) (w : List UInt8) (k i : Nat) (h : k < l.length) (hr : runB l k = true) (hi : i ≤ w.length) : atR l w (k + 1) i = (atR l w k i || (decide (0 < i) && atR l w (k + 1) (i - 1))) := by
  unfold atR
  have hl := endsAll_length (l.take k) w
  rw [ends_take_succ l w k h]
  have hr' : (l[k]).run = true := by rw [← runB_at l k h]; exact hr
  have := stepM_run (l[k]) w (endsAll (l.take k) w) hr' i (by omega)
  rw [List.getD, this]
  simp [List.getD, show i < (endsAll (l.take k) w).length by omega]
theorem atR_set0 (l : List Item) (w : List UInt8) (k : Nat) (h : k < l.length) (hr : runB l k = false) : atR l w (k + 1) 0 = false := by
  unfold atR
  rw [ends_take_succ l w k h]
  have hr' : (l[k]).run = false := by rw [← runB_at l k h]; exact hr
  rw [List.getD, stepM_set0 _ _ _ hr']; rfl
theorem atR_set (l : List Item) (w : List UInt8) (k i : Nat) (h : k < l.length) (hr : runB l k = false) (hi : i < w.length) : atR l w (k + 1) (i + 1) = (atR l w k i && hasB l (w[i]).toNat k) := by
  unfold atR
  have hl := endsAll_length (l.take k) w
  rw [ends_take_succ l w k h]
  have hr' : (l[k]).run = false := by rw [← runB_at l k h]; exact hr
  rw [List.getD, stepM_set _ _ _ hr' i hi hl, hasB_at l _ k h]
  simp [List.getD, show i < (endsAll (l.take k) w).length by omega]
/-- In a run the state stays. -/
def toK (l : List Item) (k : Nat) : Nat := if runB l k then k + 1 else k
def atS (l : List Item) (w : List UInt8) (i k : Nat) : Bool := atR l w (toK l k) i
theorem run_lt (l : List Item) (k : Nat) (h : runB l k = true) : k < l.length := by
  rcases Nat.lt_or_ge k l.length with h1 | h1
  · exact h1
  · rw [runB_out l k h1] at h; cases h
theorem atS_ge (l : List Item) (w : List UInt8) (i k : Nat) (hi : i ≤ w.length) (h : atR l w k i = true) : atS l w i k = true := by
  unfold atS toK
  cases hr : runB l k
  · exact h
  · rw [if_pos rfl, atR_run l w k i (run_lt l k hr) hr hi, h]; rfl
theorem atS_closed (l : List Item) (w : List UInt8) (i k : Nat) (hi : i ≤ w.length) (h : atS l w i k = true) (hr : runB l k = true) : atS l w i (k + 1) = true := by
  refine atS_ge l w i (k + 1) hi ?_
  unfold atS toK at h; rwa [if_pos hr] at h
theorem clo_closed (runs x : Nat → Bool) (k : Nat) (h : ∀ j, j < k → x j = true → runs j = true → x (j + 1) = true) : clo runs x k = x k := by
  induction k with
  | zero => rfl
  | succ k ih =>
    rw [clo, ih fun j hj => h j (by omega)]
    cases hx : x (k + 1) with
    | true => rfl
    | false =>
      cases hk : x k with
      | false => rfl
      | true =>
        cases hr : runs k with
        | false => rfl
        | true => rw [h k (by omega) hk hr] at hx; cases hx
/-- A state that means what it should, at place i. -/
def StateAt (l : List Item) (w : List UInt8) (i : Nat) (x : BitVec 64) : Prop := ∀ k, k < 64 → x.getLsbD k = (decide (k ≤ l.length) && atS l w i k)
theorem close_state (l : List Item) (w : List UInt8) (i : Nat) (x : BitVec 64) (hi : i ≤ w.length) (h : StateAt l w i x) : closeW l x = x := by
  refine bv_ext fun k hk => ?_
  rw [closeW_bit l x k hk]
  by_cases hkl : k ≤ l.length
  · rw [clo_closed]
    · simp [hkl]
    · intro j hj hx hr
      rw [h j (by omega), Bool.and_eq_true] at hx
      rw [h (j + 1) (by omega), atS_closed l w i j hi hx.2 hr]; simp; omega
  · rw [h k hk]; simp [hkl]
theorem start_bit (l : List Item) (k : Nat) (hk : k < 64) : (startW l).getLsbD k = (decide (k ≤ l.length) && clo (runB l) (fun j => decide (j = 0)) k) := by
  unfold startW
  rw [closeW_bit l _ k hk]
  congr 1
  have : ∀ j, (1 : BitVec 64).getLsbD j = decide (j = 0) := by
    intro j
    show (1#64).getLsbD j = _
    rw [BitVec.getLsbD_one]; simp
  rw [show (1 : BitVec 64).getLsbD = fun j => decide (j = 0) from funext this]
theorem start_clo (l : List Item) (w : List UInt8) (k : Nat) (hkl : k ≤ l.length) : clo (runB l) (fun j => decide (j = 0)) k = atR l w k 0 := by
  induction k with
  | zero => rw [atR_zero l w 0 (by omega)]; rfl
  | succ k ih =>
    rw [clo, ih (by omega)]
    cases hr : runB l k with
    | true => rw [atR_run l w k 0 (by omega) hr (by omega)]; simp
    | false => rw [atR_set0 l w k (by omega) hr]; simp
theorem start_state (l : List Item) (w : List UInt8) : StateAt l w 0 (startW l) := by
  intro k hk
  rw [start_bit l k hk]
  by_cases hkl : k ≤ l.length
  · rw [start_clo l w k hkl]
    congr 1
    unfold atS toK
    cases hr : runB l k with
    | false => rfl
    | true => rw [if_pos rfl, atR_run l w k 0 (run_lt l k hr) hr (by omega)]; simp
  · simp [hkl]
theorem clo_or (runs x y : Nat → Bool) (k : Nat) : (clo runs x k || clo runs y k) = clo runs (fun j => x j || y j) k := by
  induction k with
  | zero => rfl
  | succ k ih =>
    simp only [clo]; rw [← ih]
    cases x (k + 1) <;> cases y (k + 1) <;> cases clo runs x k <;> cases clo runs y k <;> cases runs k <;> rfl
theorem seek_state (l : List Item) (w : List UInt8) (i : Nat) (x : BitVec 64) (hn : l.length < 64) (hg : ∀ k, runB l k = true → ∀ b, hasB l b k = false) (hi : i < w.length) (h : StateAt l w i x) :
    StateAt l w (i + 1) (seekW l x (w[i]).toNat) := by
  intro k hk
  unfold seekW stepW
  rw [close_state l w i x (by omega) h, BitVec.getLsbD_or, closeW_bit l _ k hk, start_bit l k hk]
  by_cases hkl : k ≤ l.length
  · simp only [hkl, decide_true, Bool.true_and]
    rw [clo_or]
    have hraw : ∀ j, j ≤ l.length → (((x &&& runsW l) ||| ((x &&& hasW l (w[i]).toNat) <<< 1)).getLsbD j) =
        ((atS l w i j && runB l j) || (decide (0 < j) && (atS l w i (j - 1) && hasB l (w[i]).toNat (j - 1)))) := by
      intro j hj
      rw [BitVec.getLsbD_or, shl1_bit _ _ (by omega), BitVec.getLsbD_and, BitVec.getLsbD_and, h j (by omega), h (j - 1) (by omega)]
      unfold runsW hasW
      rw [bv_bit _ _ (by omega), bv_bit _ _ (by omega)]
      simp [hj, show j - 1 ≤ l.length by omega]
    generalize ((x &&& runsW l) ||| ((x &&& hasW l (w[i]).toNat) <<< 1)) = z at *
    clear hk
    induction k with
    | zero =>
      show (z.getLsbD 0 || decide (0 = 0)) = atS l w (i + 1) 0
      rw [atS_ge l w (i + 1) 0 (by omega) (atR_zero l w _ (by omega))]; simp
    | succ k ih =>
      rw [clo, ih (by omega), hraw (k + 1) hkl]
      simp only [Nat.add_sub_cancel, Nat.add_eq_zero_iff, Nat.succ_ne_self, and_false, decide_false, Bool.or_false, Nat.zero_lt_succ, decide_true, Bool.true_and]
      -- what comes at the item k
      have hkey : ((atS l w i k && hasB l (w[i]).toNat k) || (atS l w (i + 1) k && runB l k)) = atR l w (k + 1) (i + 1) := by
        cases hr : runB l k with
        | false =>
          rw [atR_set l w k i (by omega) hr hi]
          unfold atS toK; rw [hr]; simp
        | true =>
          rw [hg k hr]
          unfold atS toK; rw [hr]; simp
      have e1 : ∀ a b c : Bool, (a || b || c) = (a || (b || c)) := fun a b c => Bool.or_assoc a b c
      rw [e1, hkey]
      unfold atS toK
      cases hr : runB l (k + 1) with
      | false => simp
      | true =>
        simp only [if_true, Bool.and_true]
        rw [atR_run l w (k + 1) (i + 1) (run_lt l _ hr) hr (by omega)]
        simp [Bool.or_comm]
  · simp [hkl]
theorem done_state (l : List Item) (w : List UInt8) (i : Nat) (x : BitVec 64) (hn : l.length < 64) (hi : i ≤ w.length) (h : StateAt l w i x) : doneW l x = (endsAll l w).getD i false := by
  unfold doneW
  rw [close_state l w i x hi h, h l.length hn]
  unfold atS toK
  rw [runB_out l _ (Nat.le_refl _)]
  unfold atR
  simp
theorem good_has (l : List Item) (h : goodM l = true) : (∀ k, runB l k = true → ∀ b, hasB l b k = false) ∧ l.length < 61 := by
  unfold goodM at h
  rw [Bool.and_eq_true, decide_eq_true_eq, List.all_eq_true] at h
  refine ⟨fun k hr b => ?_, h.2⟩
  have hk := run_lt l k hr
  have := h.1 (l[k]) (List.getElem_mem _)
  rw [runB_at l k hk] at hr
  rw [hasB_at l b k hk]
  simp only [hr, Bool.true_and, bne, Bool.not_not, beq_iff_eq] at this
  rw [this]; exact zero_has b
end Go.Proofs.Ytdbiodofofnpgaa
namespace Go.Proofs.Ytdbiodofofnpgaa
open Go.RowKit

theorem goodF_any (x : Item) (w : World) : Calls Try.prog 213 #[x.val] w fun e w' => e = .returned (.bool (x.run && x.set != BSet.zero)) ∧ Below w.heap.size w w' := by
  have hb : ∀ cs, Below w.heap.size w (w.alloc (.cells cs 234)) := fun cs => (Below.refl _ _).alloc (Nat.le_refl _) _
  have HB := hid hb
  clear hb
  have heq : ∀ W, (Op.equalIn 10000 232 (.agg #[w64 x.set.w0, w64 x.set.w1, w64 x.set.w2, w64 x.set.w3]) (.agg #[.int .u64 0, .int .u64 0, .int .u64 0, .int .u64 0])).run Try.prog W = .ok (x.set == BSet.zero) W := fun W => Try.eqSet x.set BSet.zero W
  unfold Item.val
  rw [show (x.set != BSet.zero) = !(x.set == BSet.zero) from rfl]
  generalize (x.set == BSet.zero) = z at *
  obtain ⟨r, x0, x1, x2, x3⟩ := x
  simp only at *
  go_enter Try.func213, Try.ntmps213
  cases r
  · go_wp2
    go_ret
    exact ⟨rfl, HB.out _⟩
  · go_wp2
    go_ret
    exact ⟨rfl, HB.out _⟩

theorem goodM_eq (l : List Item) : goodM l = (decide (l.length ≤ 60) && !(l.any fun x => x.run && x.set != BSet.zero)) := by
  unfold goodM
  rw [Bool.and_comm, List.all_eq_not_any_not]
  congr 1
  · rw [Bool.eq_iff_iff]; simp; omega
  · congr 2; funext x; simp

set_option maxHeartbeats 400000 in
theorem goodD_any (A : Option Addr) (n c : Nat) (l : List Item) (w : World) (hl : l.length = n) (hn : n ≤ 1000000) (hr : Rd w A (itemCells l)) :
    Calls Try.prog 194 #[.slice A n c] w fun e w' => e = .returned (.bool (goodM l)) ∧ Below w.heap.size w w' := by
  have HG := hid (goodM_eq l)
  rw [hl] at HG
  have HL := hid hl; clear hl
  go_enter Try.func194, Try.ntmps194
  by_cases h60 : n ≤ 60
  · have HD : Hid (decide (n ≤ 60) = true) := by simp [Hid, h60]
    go_wp2_with fail
    refine (containsFunc_any 213 _ (enters_of Try.func213 (by kernel_rfl) rfl) goodF_any A n c l _ HL.out hn hr).mono ?_
    rintro e w1 ⟨rfl, hb1⟩
    go_wp2
    go_ret
    exact ⟨by rw [HG.out, HD.out]; rfl, hb1⟩
  · have HD : Hid (decide (n ≤ 60) = false) := by simp [Hid, h60]
    go_wp2_with fail
    go_ret
    exact ⟨by rw [HG.out, HD.out]; rfl, Below.refl _ _⟩

set_option maxHeartbeats 400000 in
theorem goodC_any (A : Option Addr) (n c : Nat) (l : List Item) (w : World) (hl : l.length = n) (hn : n ≤ 1000000) (hr : Rd w A (itemCells l)) :
    Calls Try.prog 159 #[.slice A n c] w fun e w' => e = .returned (.bool (goodM l)) ∧ Below w.heap.size w w' := by
  have HG := hid (goodM_eq l)
  have HL := hid hl; clear hl
  go_enter Try.func159, Try.ntmps159
  go_wp2_with fail
  refine (goodD_any A n c l _ HL.out hn hr).mono ?_
  rintro e w1 ⟨rfl, hb1⟩
  go_wp2
  go_ret
  exact ⟨rfl, hb1⟩

/-- A table in memory. -/
def Tb (w : World) (g : Nat) (l : List Item) : Prop := g < w.heap.size ∧ w.cell? ⟨g, 0, none⟩ = some (.int .i64 (l.length : Int)) ∧ w.cell? ⟨g, 1, none⟩ = some (w64 (runsW l)) ∧ ∀ b, b < 256 → w.cell? ⟨g, 2 + b, none⟩ = some (w64 (hasW l b))
theorem Tb.below {w w' : World} {g : Nat} {l : List Item} (h : Tb w g l) (hb : Below w.heap.size w w') : Tb w' g l :=
  ⟨Nat.lt_of_lt_of_le h.1 hb.size, (hb.cell (p := ⟨g, 0, none⟩) h.1).trans h.2.1, (hb.cell (p := ⟨g, 1, none⟩) h.1).trans h.2.2.1, fun b h1 => (hb.cell (p := ⟨g, 2 + b, none⟩) h.1).trans (h.2.2.2 b h1)⟩

/-! ### Words as the walk has them -/
theorem w_and (x y : BitVec 64) : bits .and .u64 (x.toNat : Int) (y.toNat : Int) = ((x &&& y).toNat : Int) := by
  rw [u64_and_nat _ _ x.isLt y.isLt, BitVec.toNat_and]
theorem w_or (x y : BitVec 64) : bits .or .u64 (x.toNat : Int) (y.toNat : Int) = ((x ||| y).toNat : Int) := by
  rw [u64_or_nat _ _ x.isLt y.isLt, BitVec.toNat_or]
theorem w_shl1 (x : BitVec 64) : IntKind.u64.wrap ((x.toNat : Int) * 2) = ((x <<< 1).toNat : Int) := by
  rw [BitVec.toNat_shiftLeft, IntKind.wrap_u64, Nat.shiftLeft_eq]
  show _ = ((x.toNat * 2 % 18446744073709551616 : Nat) : Int)
  omega
def maskW (n : Nat) : BitVec 64 := BitVec.ofNat 64 (2 ^ (n + 1) - 1)
theorem maskW_toNat (n : Nat) (h : n ≤ 60) : (maskW n).toNat = 2 ^ (n + 1) - 1 := by
  unfold maskW
  refine ofNat_toNat64 _ ?_
  have : 2 ^ (n + 1) ≤ 2 ^ 61 := Nat.pow_le_pow_right (by omega) (by omega)
  omega
theorem w_mask (n : Nat) (h : n ≤ 60) : IntKind.u64.wrap (IntKind.u64.wrap (2 * 2 ^ n) - 1) = ((maskW n).toNat : Int) := by
  have h1 : 2 ^ (n + 1) ≤ 2 ^ 61 := Nat.pow_le_pow_right (by omega) (by omega)
  have h2 : 0 < 2 ^ (n + 1) := Nat.pow_pos (by omega)
  have e : (2 * 2 ^ n : Int) = ((2 ^ (n + 1) : Nat) : Int) := by rw [Int.natCast_pow, Int.pow_succ, Int.mul_comm]; rfl
  rw [e, maskW_toNat n h, IntKind.wrap_u64, IntKind.wrap_u64]
  have h3 : (2 : Nat) ^ 61 = 2305843009213693952 := by decide +kernel
  rw [h3] at h1
  clear e
  generalize 2 ^ (n + 1) = q at *
  omega
theorem maskW_bit (n k : Nat) (h : n ≤ 60) : (maskW n).getLsbD k = decide (k ≤ n) := by
  rw [BitVec.getLsbD, maskW_toNat n h, Nat.testBit_two_pow_sub_one]
  simp; omega

set_option maxHeartbeats 400000 in
theorem close_any (g : Nat) (l : List Item) (x : BitVec 64) (w : World) (hn : l.length ≤ 60) (ht : Tb w g l) :
    Calls Try.prog 141 #[.pointer (some ⟨g, 0, none⟩), w64 x] w fun e w' => e = .returned (w64 (closeW l x)) ∧ w = w' := by
  obtain ⟨h0, h1, h2, _⟩ := ht
  have km := w_mask l.length hn
  obtain ⟨x0, hx0⟩ : ∃ x0, x0 = x &&& maskW l.length := ⟨_, rfl⟩
  have ka := w_and x (maskW l.length)
  rw [← hx0] at ka
  have HI : Hid (CloseInv l x x0) := by
    rw [hx0]
    refine close_start l x _ fun k hk => ?_
    rw [BitVec.getLsbD_and, maskW_bit _ _ hn]
  clear hx0
  have HN := hid hn
  go_enter Try.func141, Try.ntmps141
  go_wp2
  clear km ka hn
  go_loop [1, 5] (fun v u => ∃ y : BitVec 64, v = w64 y ∧ Hid (CloseInv l x y)) (fun v _ => 18446744073709551616 - (intOf v).toNat)
  case atStart => exact ⟨_, rfl, HI⟩
  case round =>
    obtain ⟨y, rfl, HY⟩ := hrel
    have HNX : Hid (nextW l y = y ||| ((y &&& runsW l) <<< 1)) := rfl
    obtain ⟨z, hz⟩ : ∃ z, z = y &&& runsW l := ⟨_, rfl⟩
    obtain ⟨t, ht⟩ : ∃ t, t = z <<< 1 := ⟨_, rfl⟩
    have ka := w_and y (runsW l)
    have ks := w_shl1 z
    have ko := w_or y t
    have HC := hid (close_next l x y HY.out)
    have HG := hid (next_grows l y)
    have HD := hid (close_done l x y HY.out)
    rw [← hz] at ka HNX
    rw [← ht] at ks HNX
    rw [← HNX.out] at ko
    generalize nextW l y = nx at *
    clear HI hz ht HNX HY
    by_cases he : nx = y
    · subst he
      have HD2 := hid (HD.out rfl)
      clear HG HD
      go_wp2
      go_ret
      exact ⟨by rw [← HD2.out]; rfl, rfl⟩
    · have hlt := HG.out he
      have hne : ((nx.toNat : Int) == (y.toNat : Int)) = false := by simp; omega
      have hub := nx.isLt
      clear HG HD he
      go_wp2
      go_round
      case rel => exact ⟨nx, rfl, HC⟩
      case measure => simp [intOf]; omega
end Go.Proofs.Ytdbiodofofnpgaa
namespace Go.Proofs.Ytdbiodofofnpgaa
open Go.RowKit

/-- The worlds that are as w is below block B. -/
def BW (B : Nat) (w : World) : Type := {w' : World // Below B w w'}
instance BW.nonempty {B : Nat} {w : World} : Nonempty (BW B w) := ⟨⟨w, Below.refl B w⟩⟩
theorem BW.below {B : Nat} {w : World} (q : BW B w) : Below B w q.1 := q.2
theorem BW.cellAt {B : Nat} {w : World} {g i : Nat} {v : Value} (hg : g < B) (h : w.cell? ⟨g, i, none⟩ = some v) (q : BW B w) : q.1.cell? ⟨g, i, none⟩ = some v := (World.cell?_of_block (q.2.block g hg)).trans h

theorem wp_region_below {P : Program} {id : Nat} {Q : Exit → Act → World → Prop} {a : Act} {w : World} {l : List Oper} (B : Nat) (hm : P.follows .mixedOrders = true) (hB : Region.lexB .any l.toArray = true)
    (h : wpQuiet P l.toArray (fun w' => ∃ q : BW B w, w' = q.1) (fun a' => ∀ w', (∃ q : BW B w, w' = q.1) → Q .normal a' w') l a) : (Code.region id l.toArray true).wp P Q a w :=
  wp_region_quiet (C := fun w' => ∃ q : BW B w, w' = q.1) hm hB ⟨⟨w.drewN 1, ⟨rfl, rfl, rfl, Nat.le_refl _, fun _ _ => rfl⟩⟩, rfl⟩ (by simpa using h)
/-- A call that only makes new blocks, inside such a region. -/
theorem callBW {P : Program} {f : Nat} {args : Array Value} {v : Value} {B : Nat} {w : World} (hB : B ≤ w.heap.size) (h : ∀ W, Calls P f args W fun e w' => e = .returned v ∧ Below W.heap.size W w') (q : BW B w) :
    Calls P f args q.1 fun e w'' => e = .returned v ∧ ∃ q' : BW B w, w'' = q'.1 :=
  (h q.1).mono fun _ w'' ⟨he, hb⟩ => ⟨he, ⟨⟨w'', q.2.trans (hb.mono (Nat.le_trans hB q.2.size))⟩, rfl⟩⟩
end Go.Proofs.Ytdbiodofofnpgaa
