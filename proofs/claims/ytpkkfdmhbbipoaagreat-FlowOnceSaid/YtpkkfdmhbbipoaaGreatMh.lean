/- Walks: the reference's 'Same' of two like lists, its 'Least'; the tests 'Void', 'Empty' of package lang. Tables in plain Lean: states as words; what closing, stepping and seeking say of each bit. No program in sight. Walks: package glob's 'Good'; a table's methods. Regions that draw their order and whose calls only make new blocks: one walk of the order of the text. No program in sight. Regions that draw their order, walked along a tree of orders (part Mix2), where loads of cells that no early operation turns are taken first too: a condition on the world that every operation but the late ones keeps. No program in sight. -/
import Derived.Test.YtpkkfdmhbbipoaaGreatMc
import Derived.Test.YtpkkfdmhbbipoaaGreatMa
import Derived.Shelf.Abstract
import Derived.Laws.BitsAllLaws
import Derived.BigQuiet
import Derived.OrdersHeld
namespace Go.Proofs.YtpkkfdmhbbipoaaGreat
open Go.RowKit
/-! ### Tests handed over as function values -/
theorem emptyF_any (x : Item) (w : World) : Calls Tryz.prog 233 #[x.val] w fun e w' => e = .returned (.bool (!x.run)) ∧ Below w.heap.size w w' := by
 have hb : ∀ cs, Below w.heap.size w (w.alloc (.cells cs 251)) := fun cs => (Below.refl _ _).alloc (Nat.le_refl _) _
 have HB := hid hb
 clear hb
 unfold Item.val
 obtain ⟨r, x0, x1, x2, x3⟩ := x
 simp only at *
 go_enter Tryz.func233, Tryz.ntmps233
 go_wp2
 go_ret
 exact ⟨rfl, HB.out _⟩
set_option maxHeartbeats 400000 in
theorem indexFunc_any (F : Nat) (T : Item → Bool) (hE : ∀ args W, (callFunc F args).run Tryz.prog W = .ok (.enter F args) W) (hF : ∀ x W, Calls Tryz.prog F #[Item.val x] W fun e W' => e = .returned (.bool (T x)) ∧ Below W.heap.size W W')
  (A : Option Addr) (n c : Nat) (l : List Item) (w : World) (hl : l.length = n) (hn : n ≤ 1000000) (hr : Rd w A (itemCells l)) :
  Calls Tryz.prog 243 #[.slice A n c, .func (.func F) #[] #[]] w fun e w' => ∃ i : Int, e = .returned (.int .i64 i) ∧ Hid ((l.any T = true ∧ 0 ≤ i) ∨ (l.any T = false ∧ i = -1)) ∧ Below w.heap.size w w' := by
 have HL := hid hl; clear hl
 have HF := hid hF; clear hF
 go_enter Tryz.func243, Tryz.ntmps243
 go_wp2
 go_loopw [8] (fun i wr => ∃ (k : Nat), k ≤ n ∧ i = .int .i64 k ∧ Hid ((l.take k).any T = false) ∧ Below w.heap.size w wr) (fun i _ => n - (intOf i).toNat)
 case atStart => exact ⟨0, by omega, rfl, rfl, Below.refl _ _⟩
 case round =>
  obtain ⟨k, hk, rfl, HA, hb⟩ := hrel
  by_cases hlt : k < n
  ·obtain ⟨b, off, rfl, hbl, hc⟩ := (hr.below hb).at (by rw [itemCells_length, HL.out]; omega)
   have HK : Hid (k < l.length) := by rw [HL.out]; exact hlt
   obtain ⟨d0, d1, d2, d3, d4⟩ := item_at hc k HK.out
   have HS : Hid ((l.take (k + 1)).any T = T (l[k]'HK.out)) := by
    rw [Hid, List.take_succ_eq_append_getElem HK.out, List.any_append, HA.out]; simp
   have HT : Hid (T (l[k]'HK.out) = true → l.any T = true) := fun h => List.any_eq_true.2 ⟨_, List.getElem_mem _, h⟩
   have HB := hid hb
   clear hc hr hb
   generalize l[k]'HK.out = x at *
   have HX : Hid (Item.val x = .agg #[.bool x.run, w64 x.set.w0, w64 x.set.w1, w64 x.set.w2, w64 x.set.w3]) := rfl
   go_wp2_with fail
   refine (HF.out x _).mono ?_
   rintro e w1 ⟨rfl, hb1⟩
   have HB1 := hid (HB.out.trans (hb1.mono HB.out.size))
   clear hb1 d0 d1 d2 d3 d4
   cases ht : T x
   ·have HS2 : Hid ((l.take (k + 1)).any T = false) := by rw [Hid, HS.out, ht]
    clear ht
    go_wp2_with fail
    go_roundw
    case rel => exact ⟨k + 1, by omega, by go_num, HS2, HB1.out⟩
    case measure => simp [intOf]; omega
   ·have HT2 := hid (HT.out ht)
    clear ht
    go_wp2_with fail
    go_ret
    exact ⟨k, rfl, .inl ⟨HT2.out, by omega⟩, HB1.out⟩
  ·have hkk : l.take k = l := List.take_of_length_le (by rw [HL.out]; omega)
   rw [hkk] at HA
   go_wp2
   go_ret
   exact ⟨-1, rfl, .inr ⟨HA.out, rfl⟩, hb⟩
set_option maxHeartbeats 400000 in
theorem containsFunc_any (F : Nat) (T : Item → Bool) (hE : ∀ args W, (callFunc F args).run Tryz.prog W = .ok (.enter F args) W) (hF : ∀ x W, Calls Tryz.prog F #[Item.val x] W fun e W' => e = .returned (.bool (T x)) ∧ Below W.heap.size W W')
  (A : Option Addr) (n c : Nat) (l : List Item) (w : World) (hl : l.length = n) (hn : n ≤ 1000000) (hr : Rd w A (itemCells l)) :
  Calls Tryz.prog 232 #[.slice A n c, .func (.func F) #[] #[]] w fun e w' => e = .returned (.bool (l.any T)) ∧ Below w.heap.size w w' := by
 have HL := hid hl; clear hl
 have HF := hid hF; have HE := hid hE; clear hF hE
 go_enter Tryz.func232, Tryz.ntmps232
 go_wp2_with fail
 refine (indexFunc_any F T HE.out HF.out A n c l _ HL.out hn hr).mono ?_
 rintro e w1 ⟨i, rfl, HI, hb1⟩
 rcases HI.out with ⟨h1, h2⟩ | ⟨h1, rfl⟩
 ·have H1 := hid h1
  clear h1 HI
  go_wp2
  go_ret
  exact ⟨by rw [H1.out]; rfl, hb1⟩
 ·have H1 := hid h1
  clear h1 HI
  go_wp2
  go_ret
  exact ⟨by rw [H1.out]; rfl, hb1⟩
theorem matchR_nil (l : List Item) : matchR l [] = !(l.any fun x => !x.run) := by
 induction l with
 | nil => rfl
 | cons x l ih =>
  cases hr : x.run with
  | false => simp [matchR, hr]
  | true => simp [matchR, hr, ih]
set_option maxHeartbeats 400000 in
theorem emptyC_any (A : Option Addr) (n c : Nat) (l : List Item) (w : World) (hl : l.length = n) (hn : n ≤ 1000000) (hr : Rd w A (itemCells l)) :
  Calls Tryz.prog 221 #[.slice A n c] w fun e w' => e = .returned (.bool (matchM l [])) ∧ Below w.heap.size w w' := by
 have HL := hid hl; clear hl
 have HM : Hid (matchM l [] = !(l.any fun x => !x.run)) := by rw [Hid, matchM_eq, matchR_nil]
 go_enter Tryz.func221, Tryz.ntmps221
 go_wp2_with fail
 refine (containsFunc_any 233 _ (enters_of Tryz.func233 (by kernel_rfl) rfl) emptyF_any A n c l _ HL.out hn hr).mono ?_
 rintro e w1 ⟨rfl, hb1⟩
 go_wp2
 go_ret
 exact ⟨by rw [HM.out]; rfl, hb1⟩
def noItem : Item := ⟨false, BSet.zero⟩
def runB (l : List Item) (k : Nat) : Bool := (l.getD k noItem).run
def hasB (l : List Item) (b k : Nat) : Bool := (l.getD k noItem).set.has b
theorem zero_has (b : Nat) : BSet.zero.has b = false := by
 unfold BSet.has BSet.zero BSet.word; split <;> simp
theorem runB_out (l : List Item) (k : Nat) (h : l.length ≤ k) : runB l k = false := by
 unfold runB; rw [List.getD, List.getElem?_eq_none h]; rfl
theorem hasB_out (l : List Item) (b k : Nat) (h : l.length ≤ k) : hasB l b k = false := by
 unfold hasB; rw [List.getD, List.getElem?_eq_none h]; exact zero_has b
theorem runB_at (l : List Item) (k : Nat) (h : k < l.length) : runB l k = (l[k]).run := by
 unfold runB; rw [List.getD, List.getElem?_eq_getElem h]; rfl
theorem hasB_at (l : List Item) (b k : Nat) (h : k < l.length) : hasB l b k = (l[k]).set.has b := by
 unfold hasB; rw [List.getD, List.getElem?_eq_getElem h]; rfl
def bv (f : Nat → Bool) : BitVec 64 := BitVec.ofNat 64 (accW ((List.range 64).map f) 0 64)
theorem bv_bit (f : Nat → Bool) (k : Nat) (h : k < 64) : (bv f).getLsbD k = f k := by
 unfold bv
 rw [BitVec.getLsbD, ofNat_toNat64 _ (accW_lt _ 0 64), accW_bit _ 0 64 k h (Nat.le_refl _)]
 simp [List.getD, h]
theorem bv_ext {x y : BitVec 64} (h : ∀ k, k < 64 → x.getLsbD k = y.getLsbD k) : x = y := BitVec.eq_of_getLsbD_eq fun k hk => h k hk
def clo (runs x : Nat → Bool) : Nat → Bool
 | 0 => x 0
 | k + 1 => x (k + 1) || (clo runs x k && runs k)
def runsW (l : List Item) : BitVec 64 := bv (runB l)
def hasW (l : List Item) (b : Nat) : BitVec 64 := bv (hasB l b)
def closeW (l : List Item) (x : BitVec 64) : BitVec 64 := bv fun k => decide (k ≤ l.length) && clo (runB l) x.getLsbD k
def nextW (l : List Item) (x : BitVec 64) : BitVec 64 := x ||| ((x &&& runsW l) <<< 1)
def startW (l : List Item) : BitVec 64 := closeW l 1
def stepW (l : List Item) (x : BitVec 64) (b : Nat) : BitVec 64 := closeW l ((closeW l x &&& runsW l) ||| ((closeW l x &&& hasW l b) <<< 1))
def seekW (l : List Item) (x : BitVec 64) (b : Nat) : BitVec 64 := stepW l x b ||| startW l
def doneW (l : List Item) (x : BitVec 64) : Bool := (closeW l x).getLsbD l.length
theorem shl1_bit (x : BitVec 64) (k : Nat) (h : k < 64) : (x <<< 1).getLsbD k = (decide (0 < k) && x.getLsbD (k - 1)) := by
 rw [BitVec.getLsbD_shiftLeft]
 cases k with
 | zero => simp
 | succ k => simp [h]
theorem nextW_bit (l : List Item) (x : BitVec 64) (k : Nat) (h : k < 64) : (nextW l x).getLsbD k = (x.getLsbD k || (decide (0 < k) && (x.getLsbD (k - 1) && runB l (k - 1)))) := by
 unfold nextW
 rw [BitVec.getLsbD_or, shl1_bit _ _ h, BitVec.getLsbD_and]
 unfold runsW; rw [bv_bit _ _ (by omega)]
theorem closeW_bit (l : List Item) (x : BitVec 64) (k : Nat) (h : k < 64) : (closeW l x).getLsbD k = (decide (k ≤ l.length) && clo (runB l) x.getLsbD k) := bv_bit _ k h
def CloseInv (l : List Item) (x y : BitVec 64) : Prop := (∀ k, k < 64 → y.getLsbD k = true → (closeW l x).getLsbD k = true) ∧ ∀ k, k < 64 → k ≤ l.length → x.getLsbD k = true → y.getLsbD k = true
theorem clo_base (runs x : Nat → Bool) (k : Nat) (h : x k = true) : clo runs x k = true := by
 cases k with
 | zero => exact h
 | succ k => simp [clo, h]
theorem close_start (l : List Item) (x y : BitVec 64) (hy : ∀ k, k < 64 → y.getLsbD k = (x.getLsbD k && decide (k ≤ l.length))) : CloseInv l x y := by
 constructor
 ·intro k hk h
  rw [hy k hk, Bool.and_eq_true] at h
  rw [closeW_bit l x k hk, h.2, clo_base _ _ _ h.1]; rfl
 ·intro k hk hl h
  rw [hy k hk, h]; simp [hl]
theorem close_next (l : List Item) (x y : BitVec 64) (h : CloseInv l x y) : CloseInv l x (nextW l y) := by
 constructor
 ·intro k hk hb
  rw [nextW_bit l y k hk, Bool.or_eq_true] at hb
  rcases hb with hb | hb
  ·exact h.1 k hk hb
  ·simp only [Bool.and_eq_true, decide_eq_true_eq] at hb
   obtain ⟨h0, h1, h2⟩ := hb
   obtain ⟨j, rfl⟩ : ∃ j, k = j + 1 := ⟨k - 1, by omega⟩
   simp only [Nat.add_sub_cancel] at h1 h2
   have hc := h.1 j (by omega) h1
   rw [closeW_bit l x j (by omega), Bool.and_eq_true] at hc
   have hj : j < l.length := by
    rcases Nat.lt_or_ge j l.length with h | h
    ·exact h
    ·rw [runB_out l j h] at h2; cases h2
   rw [closeW_bit l x (j + 1) hk]
   simp only [clo, hc.2, h2, Bool.and_self, Bool.or_true, Bool.and_true, decide_eq_true_eq]; omega
 ·intro k hk hl hx
  rw [nextW_bit l y k hk, h.2 k hk hl hx]; rfl
theorem close_done (l : List Item) (x y : BitVec 64) (h : CloseInv l x y) (he : nextW l y = y) : y = closeW l x := by
 refine bv_ext fun k hk => ?_
 rw [Bool.eq_iff_iff]
 refine ⟨h.1 k hk, fun hc => ?_⟩
 rw [closeW_bit l x k hk, Bool.and_eq_true, decide_eq_true_eq] at hc
 obtain ⟨hkl, hc⟩ := hc
 induction k with
 | zero => exact h.2 0 hk hkl hc
 | succ k ih =>
  simp only [clo, Bool.or_eq_true, Bool.and_eq_true] at hc
  rcases hc with hc | ⟨hc, hr⟩
  ·exact h.2 _ hk hkl hc
  ·have := ih (by omega) (by omega) hc
   rw [← he, nextW_bit l y (k + 1) hk, Nat.add_sub_cancel, this, hr]; simp
theorem next_grows (l : List Item) (y : BitVec 64) (h : nextW l y ≠ y) : y.toNat < (nextW l y).toNat := by
 have h1 : y.toNat ≤ (nextW l y).toNat := by
  unfold nextW; rw [BitVec.toNat_or]; exact Nat.left_le_or
 rcases Nat.lt_or_ge y.toNat (nextW l y).toNat with h2 | h2
 ·exact h2
 ·exact absurd (BitVec.eq_of_toNat_eq (by omega)) h
/-! ### What a state means -/
def atR (l : List Item) (w : List UInt8) (k i : Nat) : Bool := (endsAll (l.take k) w).getD i false
theorem atR_zero (l : List Item) (w : List UInt8) (i : Nat) (h : i ≤ w.length) : atR l w 0 i = true := by
 unfold atR endsAll
 rw [List.take_zero]
 show (placesM (w.length + 1) 0 true).getD i false = true
 exact (placesM_get _ _ _ _).2 ⟨by omega, .inl rfl⟩
theorem ends_take_succ (l : List Item) (w : List UInt8) (k : Nat) (h : k < l.length) : endsAll (l.take (k + 1)) w = stepM l[k] w (endsAll (l.take k) w) := endsM_succ l w _ k h
theorem atR_run (l : List Item) (w : List UInt8) (k i : Nat) (h : k < l.length) (hr : runB l k = true) (hi : i ≤ w.length) : atR l w (k + 1) i = (atR l w k i || (decide (0 < i) && atR l w (k + 1) (i - 1))) := by
 unfold atR
 have hl := endsAll_length (l.take k) w
 rw [ends_take_succ l w k h]
 have hr' : (l[k]).run = true := by rw [← runB_at l k h]; exact hr
 have := stepM_run (l[k]) w (endsAll (l.take k) w) hr' i (by omega)
 rw [List.getD, this]
 simp [List.getD, show i < (endsAll (l.take k) w).length by omega]
theorem atR_set0 (l : List Item) (w : List UInt8) (k : Nat) (h : k < l.length) (hr : runB l k = false) : atR l w (k + 1) 0 = false := by
 unfold atR
 rw [ends_take_succ l w k h]
 have hr' : (l[k]).run = false := by rw [← runB_at l k h]; exact hr
 rw [List.getD, stepM_set0 _ _ _ hr']; rfl
theorem atR_set (l : List Item) (w : List UInt8) (k i : Nat) (h : k < l.length) (hr : runB l k = false) (hi : i < w.length) : atR l w (k + 1) (i + 1) = (atR l w k i && hasB l (w[i]).toNat k) := by
 unfold atR
 have hl := endsAll_length (l.take k) w
 rw [ends_take_succ l w k h]
 have hr' : (l[k]).run = false := by rw [← runB_at l k h]; exact hr
 rw [List.getD, stepM_set _ _ _ hr' i hi hl, hasB_at l _ k h]
 simp [List.getD, show i < (endsAll (l.take k) w).length by omega]
def toK (l : List Item) (k : Nat) : Nat := if runB l k then k + 1 else k
def atS (l : List Item) (w : List UInt8) (i k : Nat) : Bool := atR l w (toK l k) i
theorem run_lt (l : List Item) (k : Nat) (h : runB l k = true) : k < l.length := by
 rcases Nat.lt_or_ge k l.length with h1 | h1
 ·exact h1
 ·rw [runB_out l k h1] at h; cases h
theorem atS_ge (l : List Item) (w : List UInt8) (i k : Nat) (hi : i ≤ w.length) (h : atR l w k i = true) : atS l w i k = true := by
 unfold atS toK
 cases hr : runB l k
 ·exact h
 ·rw [if_pos rfl, atR_run l w k i (run_lt l k hr) hr hi, h]; rfl
theorem atS_closed (l : List Item) (w : List UInt8) (i k : Nat) (hi : i ≤ w.length) (h : atS l w i k = true) (hr : runB l k = true) : atS l w i (k + 1) = true := by
 refine atS_ge l w i (k + 1) hi ?_
 unfold atS toK at h; rwa [if_pos hr] at h
theorem clo_closed (runs x : Nat → Bool) (k : Nat) (h : ∀ j, j < k → x j = true → runs j = true → x (j + 1) = true) : clo runs x k = x k := by
 induction k with
 | zero => rfl
 | succ k ih =>
  rw [clo, ih fun j hj => h j (by omega)]
  cases hx : x (k + 1) with
  | true => rfl
  | false =>
   cases hk : x k with
   | false => rfl
   | true =>
    cases hr : runs k with
    | false => rfl
    | true => rw [h k (by omega) hk hr] at hx; cases hx
def StateAt (l : List Item) (w : List UInt8) (i : Nat) (x : BitVec 64) : Prop := ∀ k, k < 64 → x.getLsbD k = (decide (k ≤ l.length) && atS l w i k)
theorem close_state (l : List Item) (w : List UInt8) (i : Nat) (x : BitVec 64) (hi : i ≤ w.length) (h : StateAt l w i x) : closeW l x = x := by
 refine bv_ext fun k hk => ?_
 rw [closeW_bit l x k hk]
 by_cases hkl : k ≤ l.length
 ·rw [clo_closed]
  ·simp [hkl]
  ·intro j hj hx hr
   rw [h j (by omega), Bool.and_eq_true] at hx
   rw [h (j + 1) (by omega), atS_closed l w i j hi hx.2 hr]; simp; omega
 ·rw [h k hk]; simp [hkl]
theorem start_bit (l : List Item) (k : Nat) (hk : k < 64) : (startW l).getLsbD k = (decide (k ≤ l.length) && clo (runB l) (fun j => decide (j = 0)) k) := by
 unfold startW
 rw [closeW_bit l _ k hk]
 congr 1
 have : ∀ j, (1 : BitVec 64).getLsbD j = decide (j = 0) := by
  intro j
  show (1#64).getLsbD j = _
  rw [BitVec.getLsbD_one]; simp
 rw [show (1 : BitVec 64).getLsbD = fun j => decide (j = 0) from funext this]
theorem start_clo (l : List Item) (w : List UInt8) (k : Nat) (hkl : k ≤ l.length) : clo (runB l) (fun j => decide (j = 0)) k = atR l w k 0 := by
 induction k with
 | zero => rw [atR_zero l w 0 (by omega)]; rfl
 | succ k ih =>
  rw [clo, ih (by omega)]
  cases hr : runB l k with
  | true => rw [atR_run l w k 0 (by omega) hr (by omega)]; simp
  | false => rw [atR_set0 l w k (by omega) hr]; simp
theorem start_state (l : List Item) (w : List UInt8) : StateAt l w 0 (startW l) := by
 intro k hk
 rw [start_bit l k hk]
 by_cases hkl : k ≤ l.length
 ·rw [start_clo l w k hkl]
  congr 1
  unfold atS toK
  cases hr : runB l k with
  | false => rfl
  | true => rw [if_pos rfl, atR_run l w k 0 (run_lt l k hr) hr (by omega)]; simp
 ·simp [hkl]
theorem clo_or (runs x y : Nat → Bool) (k : Nat) : (clo runs x k || clo runs y k) = clo runs (fun j => x j || y j) k := by
 induction k with
 | zero => rfl
 | succ k ih =>
  simp only [clo]; rw [← ih]
  cases x (k + 1) <;> cases y (k + 1) <;> cases clo runs x k <;> cases clo runs y k <;> cases runs k <;> rfl
theorem seek_state (l : List Item) (w : List UInt8) (i : Nat) (x : BitVec 64) (hn : l.length < 64) (hg : ∀ k, runB l k = true → ∀ b, hasB l b k = false) (hi : i < w.length) (h : StateAt l w i x) :
  StateAt l w (i + 1) (seekW l x (w[i]).toNat) := by
 intro k hk
 unfold seekW stepW
 rw [close_state l w i x (by omega) h, BitVec.getLsbD_or, closeW_bit l _ k hk, start_bit l k hk]
 by_cases hkl : k ≤ l.length
 ·simp only [hkl, decide_true, Bool.true_and]
  rw [clo_or]
  have hraw : ∀ j, j ≤ l.length → (((x &&& runsW l) ||| ((x &&& hasW l (w[i]).toNat) <<< 1)).getLsbD j) =
    ((atS l w i j && runB l j) || (decide (0 < j) && (atS l w i (j - 1) && hasB l (w[i]).toNat (j - 1)))) := by
   intro j hj
   rw [BitVec.getLsbD_or, shl1_bit _ _ (by omega), BitVec.getLsbD_and, BitVec.getLsbD_and, h j (by omega), h (j - 1) (by omega)]
   unfold runsW hasW
   rw [bv_bit _ _ (by omega), bv_bit _ _ (by omega)]
   simp [hj, show j - 1 ≤ l.length by omega]
  generalize ((x &&& runsW l) ||| ((x &&& hasW l (w[i]).toNat) <<< 1)) = z at *
  clear hk
  induction k with
  | zero =>
   show (z.getLsbD 0 || decide (0 = 0)) = atS l w (i + 1) 0
   rw [atS_ge l w (i + 1) 0 (by omega) (atR_zero l w _ (by omega))]; simp
  | succ k ih =>
   rw [clo, ih (by omega), hraw (k + 1) hkl]
   simp only [Nat.add_sub_cancel, Nat.add_eq_zero_iff, Nat.succ_ne_self, and_false, decide_false, Bool.or_false, Nat.zero_lt_succ, decide_true, Bool.true_and]
   -- what comes at the item k
   have hkey : ((atS l w i k && hasB l (w[i]).toNat k) || (atS l w (i + 1) k && runB l k)) = atR l w (k + 1) (i + 1) := by
    cases hr : runB l k with
    | false =>
     rw [atR_set l w k i (by omega) hr hi]
     unfold atS toK; rw [hr]; simp
    | true =>
     rw [hg k hr]
     unfold atS toK; rw [hr]; simp
   have e1 : ∀ a b c : Bool, (a || b || c) = (a || (b || c)) := fun a b c => Bool.or_assoc a b c
   rw [e1, hkey]
   unfold atS toK
   cases hr : runB l (k + 1) with
   | false => simp
   | true =>
    simp only [if_true, Bool.and_true]
    rw [atR_run l w (k + 1) (i + 1) (run_lt l _ hr) hr (by omega)]
    simp [Bool.or_comm]
 ·simp [hkl]
theorem done_state (l : List Item) (w : List UInt8) (i : Nat) (x : BitVec 64) (hn : l.length < 64) (hi : i ≤ w.length) (h : StateAt l w i x) : doneW l x = (endsAll l w).getD i false := by
 unfold doneW
 rw [close_state l w i x hi h, h l.length hn]
 unfold atS toK
 rw [runB_out l _ (Nat.le_refl _)]
 unfold atR
 simp
theorem good_has (l : List Item) (h : goodM l = true) : (∀ k, runB l k = true → ∀ b, hasB l b k = false) ∧ l.length < 61 := by
 unfold goodM at h
 rw [Bool.and_eq_true, decide_eq_true_eq, List.all_eq_true] at h
 refine ⟨fun k hr b => ?_, h.2⟩
 have hk := run_lt l k hr
 have := h.1 (l[k]) (List.getElem_mem _)
 rw [runB_at l k hk] at hr
 rw [hasB_at l b k hk]
 simp only [hr, Bool.true_and, bne, Bool.not_not, beq_iff_eq] at this
 rw [this]; exact zero_has b
theorem goodF_any (x : Item) (w : World) : Calls Tryz.prog 242 #[x.val] w fun e w' => e = .returned (.bool (x.run && x.set != BSet.zero)) ∧ Below w.heap.size w w' := by
 have hb : ∀ cs, Below w.heap.size w (w.alloc (.cells cs 251)) := fun cs => (Below.refl _ _).alloc (Nat.le_refl _) _
 have HB := hid hb
 clear hb
 have heq : ∀ W, (Op.equalIn 10000 249 (.agg #[w64 x.set.w0, w64 x.set.w1, w64 x.set.w2, w64 x.set.w3]) (.agg #[.int .u64 0, .int .u64 0, .int .u64 0, .int .u64 0])).run Tryz.prog W = .ok (x.set == BSet.zero) W := fun W => Tryz.eqSet x.set BSet.zero W
 unfold Item.val
 rw [show (x.set != BSet.zero) = !(x.set == BSet.zero) from rfl]
 generalize (x.set == BSet.zero) = z at *
 obtain ⟨r, x0, x1, x2, x3⟩ := x
 simp only at *
 go_enter Tryz.func242, Tryz.ntmps242
 cases r
 ·go_wp2
  go_ret
  exact ⟨rfl, HB.out _⟩
 ·go_wp2
  go_ret
  exact ⟨rfl, HB.out _⟩
theorem goodM_eq (l : List Item) : goodM l = (decide (l.length ≤ 60) && !(l.any fun x => x.run && x.set != BSet.zero)) := by
 unfold goodM
 rw [Bool.and_comm, List.all_eq_not_any_not]
 congr 1
 ·rw [Bool.eq_iff_iff]; simp; omega
 ·congr 2; funext x; simp
set_option maxHeartbeats 400000 in
theorem goodD_any (A : Option Addr) (n c : Nat) (l : List Item) (w : World) (hl : l.length = n) (hn : n ≤ 1000000) (hr : Rd w A (itemCells l)) :
  Calls Tryz.prog 231 #[.slice A n c] w fun e w' => e = .returned (.bool (goodM l)) ∧ Below w.heap.size w w' := by
 have HG := hid (goodM_eq l)
 rw [hl] at HG
 have HL := hid hl; clear hl
 go_enter Tryz.func231, Tryz.ntmps231
 by_cases h60 : n ≤ 60
 ·have HD : Hid (decide (n ≤ 60) = true) := by simp [Hid, h60]
  go_wp2_with fail
  refine (containsFunc_any 242 _ (enters_of Tryz.func242 (by kernel_rfl) rfl) goodF_any A n c l _ HL.out hn hr).mono ?_
  rintro e w1 ⟨rfl, hb1⟩
  go_wp2
  go_ret
  exact ⟨by rw [HG.out, HD.out]; rfl, hb1⟩
 ·have HD : Hid (decide (n ≤ 60) = false) := by simp [Hid, h60]
  go_wp2_with fail
  go_ret
  exact ⟨by rw [HG.out, HD.out]; rfl, Below.refl _ _⟩
set_option maxHeartbeats 400000 in
theorem goodC_any (A : Option Addr) (n c : Nat) (l : List Item) (w : World) (hl : l.length = n) (hn : n ≤ 1000000) (hr : Rd w A (itemCells l)) :
  Calls Tryz.prog 220 #[.slice A n c] w fun e w' => e = .returned (.bool (goodM l)) ∧ Below w.heap.size w w' := by
 have HG := hid (goodM_eq l)
 have HL := hid hl; clear hl
 go_enter Tryz.func220, Tryz.ntmps220
 go_wp2_with fail
 refine (goodD_any A n c l _ HL.out hn hr).mono ?_
 rintro e w1 ⟨rfl, hb1⟩
 go_wp2
 go_ret
 exact ⟨rfl, hb1⟩
def Tb (w : World) (g : Nat) (l : List Item) : Prop := g < w.heap.size ∧ w.cell? ⟨g, 0, none⟩ = some (.int .i64 (l.length : Int)) ∧ w.cell? ⟨g, 1, none⟩ = some (w64 (runsW l)) ∧ ∀ b, b < 256 → w.cell? ⟨g, 2 + b, none⟩ = some (w64 (hasW l b))
theorem Tb.below {w w' : World} {g : Nat} {l : List Item} (h : Tb w g l) (hb : Below w.heap.size w w') : Tb w' g l :=
 ⟨Nat.lt_of_lt_of_le h.1 hb.size, (hb.cell (p := ⟨g, 0, none⟩) h.1).trans h.2.1, (hb.cell (p := ⟨g, 1, none⟩) h.1).trans h.2.2.1, fun b h1 => (hb.cell (p := ⟨g, 2 + b, none⟩) h.1).trans (h.2.2.2 b h1)⟩
/-! ### Words as the walk has them -/
theorem w_and (x y : BitVec 64) : bits .and .u64 (x.toNat : Int) (y.toNat : Int) = ((x &&& y).toNat : Int) := by
 rw [u64_and_nat _ _ x.isLt y.isLt, BitVec.toNat_and]
theorem w_or (x y : BitVec 64) : bits .or .u64 (x.toNat : Int) (y.toNat : Int) = ((x ||| y).toNat : Int) := by
 rw [u64_or_nat _ _ x.isLt y.isLt, BitVec.toNat_or]
theorem w_shl1 (x : BitVec 64) : IntKind.u64.wrap ((x.toNat : Int) * 2) = ((x <<< 1).toNat : Int) := by
 rw [BitVec.toNat_shiftLeft, IntKind.wrap_u64, Nat.shiftLeft_eq]
 show _ = ((x.toNat * 2 % 18446744073709551616 : Nat) : Int)
 omega
def maskW (n : Nat) : BitVec 64 := BitVec.ofNat 64 (2 ^ (n + 1) - 1)
theorem maskW_toNat (n : Nat) (h : n ≤ 60) : (maskW n).toNat = 2 ^ (n + 1) - 1 := by
 unfold maskW
 refine ofNat_toNat64 _ ?_
 have : 2 ^ (n + 1) ≤ 2 ^ 61 := Nat.pow_le_pow_right (by omega) (by omega)
 omega
theorem w_mask (n : Nat) (h : n ≤ 60) : IntKind.u64.wrap (IntKind.u64.wrap (2 * 2 ^ n) - 1) = ((maskW n).toNat : Int) := by
 have h1 : 2 ^ (n + 1) ≤ 2 ^ 61 := Nat.pow_le_pow_right (by omega) (by omega)
 have h2 : 0 < 2 ^ (n + 1) := Nat.pow_pos (by omega)
 have e : (2 * 2 ^ n : Int) = ((2 ^ (n + 1) : Nat) : Int) := by rw [Int.natCast_pow, Int.pow_succ, Int.mul_comm]; rfl
 rw [e, maskW_toNat n h, IntKind.wrap_u64, IntKind.wrap_u64]
 have h3 : (2 : Nat) ^ 61 = 2305843009213693952 := by decide +kernel
 rw [h3] at h1
 clear e
 generalize 2 ^ (n + 1) = q at *
 omega
theorem maskW_bit (n k : Nat) (h : n ≤ 60) : (maskW n).getLsbD k = decide (k ≤ n) := by
 rw [BitVec.getLsbD, maskW_toNat n h, Nat.testBit_two_pow_sub_one]
 simp; omega
set_option maxHeartbeats 400000 in
theorem close_any (g : Nat) (l : List Item) (x : BitVec 64) (w : World) (hn : l.length ≤ 60) (ht : Tb w g l) :
  Calls Tryz.prog 223 #[.pointer (some ⟨g, 0, none⟩), w64 x] w fun e w' => e = .returned (w64 (closeW l x)) ∧ w = w' := by
 obtain ⟨h0, h1, h2, _⟩ := ht
 have km := w_mask l.length hn
 obtain ⟨x0, hx0⟩ : ∃ x0, x0 = x &&& maskW l.length := ⟨_, rfl⟩
 have ka := w_and x (maskW l.length)
 rw [← hx0] at ka
 have HI : Hid (CloseInv l x x0) := by
  rw [hx0]
  refine close_start l x _ fun k hk => ?_
  rw [BitVec.getLsbD_and, maskW_bit _ _ hn]
 clear hx0
 have HN := hid hn
 go_enter Tryz.func223, Tryz.ntmps223
 go_wp2
 clear km ka hn
 go_loop [1, 5] (fun v u => ∃ y : BitVec 64, v = w64 y ∧ Hid (CloseInv l x y)) (fun v _ => 18446744073709551616 - (intOf v).toNat)
 case atStart => exact ⟨_, rfl, HI⟩
 case round =>
  obtain ⟨y, rfl, HY⟩ := hrel
  have HNX : Hid (nextW l y = y ||| ((y &&& runsW l) <<< 1)) := rfl
  obtain ⟨z, hz⟩ : ∃ z, z = y &&& runsW l := ⟨_, rfl⟩
  obtain ⟨t, ht⟩ : ∃ t, t = z <<< 1 := ⟨_, rfl⟩
  have ka := w_and y (runsW l)
  have ks := w_shl1 z
  have ko := w_or y t
  have HC := hid (close_next l x y HY.out)
  have HG := hid (next_grows l y)
  have HD := hid (close_done l x y HY.out)
  rw [← hz] at ka HNX
  rw [← ht] at ks HNX
  rw [← HNX.out] at ko
  generalize nextW l y = nx at *
  clear HI hz ht HNX HY
  by_cases he : nx = y
  ·subst he
   have HD2 := hid (HD.out rfl)
   clear HG HD
   go_wp2
   go_ret
   exact ⟨by rw [← HD2.out]; rfl, rfl⟩
  ·have hlt := HG.out he
   have hne : ((nx.toNat : Int) == (y.toNat : Int)) = false := by simp; omega
   have hub := nx.isLt
   clear HG HD he
   go_wp2
   go_round
   case rel => exact ⟨nx, rfl, HC⟩
   case measure => simp [intOf]; omega
def BW (B : Nat) (w : World) : Type := {w' : World // Below B w w'}
instance BW.nonempty {B : Nat} {w : World} : Nonempty (BW B w) := ⟨⟨w, Below.refl B w⟩⟩
theorem BW.cellAt {B : Nat} {w : World} {g i : Nat} {v : Value} (hg : g < B) (h : w.cell? ⟨g, i, none⟩ = some v) (q : BW B w) : q.1.cell? ⟨g, i, none⟩ = some v := (World.cell?_of_block (q.2.block g hg)).trans h
theorem wp_region_below {P : Program} {id : Nat} {Q : Exit → Act → World → Prop} {a : Act} {w : World} {l : List Oper} (B : Nat) (hm : P.follows .mixedOrders = true) (hB : Region.lexB .any l.toArray = true)
  (h : wpQuiet P l.toArray (fun w' => ∃ q : BW B w, w' = q.1) (fun a' => ∀ w', (∃ q : BW B w, w' = q.1) → Q .normal a' w') l a) : (Code.region id l.toArray true).wp P Q a w :=
 wp_region_quiet (C := fun w' => ∃ q : BW B w, w' = q.1) hm hB ⟨⟨w.drewN 1, ⟨rfl, rfl, rfl, Nat.le_refl _, fun _ _ => rfl⟩⟩, rfl⟩ (by simpa using h)
theorem callBW {P : Program} {f : Nat} {args : Array Value} {v : Value} {B : Nat} {w : World} (hB : B ≤ w.heap.size) (h : ∀ W, Calls P f args W fun e w' => e = .returned v ∧ Below W.heap.size W w') (q : BW B w) :
  Calls P f args q.1 fun e w'' => e = .returned v ∧ ∃ q' : BW B w, w'' = q'.1 :=
 (h q.1).mono fun _ w'' ⟨he, hb⟩ => ⟨he, ⟨⟨w'', q.2.trans (hb.mono (Nat.le_trans hB q.2.size))⟩, rfl⟩⟩
def valOnly3 : Op → Bool
 | .load .. => true
 | o => valOnly2 o
section
variable {P : Program} {w w' : World} {n : Next}
theorem valOnly3_spec {ρ : Operand → Value} {o : Oper} (ho : valOnly3 o.op = true) (h : (execOp ρ o).run P w = .ok n w') : ∃ u, n = .value u := by
 obtain ⟨dst, op, ty, pos, aft, grd⟩ := o
 cases op
 case load => exact run_val h
 all_goals exact valOnly2_spec (o := ⟨dst, _, ty, pos, aft, grd⟩) (by simpa only [valOnly3] using ho) h
end
section
variable {P : Program} {ops : Array Oper} {Q : Exit → Act → World → Prop} {md : Region.Mode} {S : World → Prop} {late : List Nat}
def KT (b : Bool) (S : World → Prop) (w w' : World) (p : Prop) : Prop := (b = false → S w → S w') ∧ p
theorem KT.keep {b : Bool} {w w' : World} {p : Prop} (h : S w') (hp : p) : KT b S w w' p := ⟨fun _ _ => h, hp⟩
theorem KT.past {b : Bool} {w w' : World} {p : Prop} (h : b = true) (hp : p) : KT b S w w' p := ⟨fun h2 => (by rw [h] at h2; cases h2), hp⟩
theorem KT.same {b : Bool} {w : World} {p : Prop} (hp : p) : KT b S w w p := ⟨fun _ h => h, hp⟩
def wpAnyT (P : Program) (md : Region.Mode) (ops : Array Oper) (Q : Exit → Act → World → Prop) (S : World → Prop) (late : List Nat) : Nat → Array Bool → Act → World → Prop
 | 0, listed, a, w => Region.ready md ops listed = [] ∧ Q .normal a w
 | n + 1, listed, a, w => (Region.ready md ops listed = [] → Q .normal a w) ∧
  ∀ i ∈ Region.ready md ops listed, wpOp P ops Q i (fun a' w' => KT (late.contains i) S w w' (wpAnyT P md ops Q S late n (listed.setIfInBounds i true) a' w')) a w
theorem wpAnyT_any : ∀ (n : Nat) (listed : Array Bool) (a : Act) (w : World), wpAnyT P md ops Q S late n listed a w → wpAny P md ops Q n listed a w
 | 0, _, _, _, h => h
 | n + 1, _, _, _, h => ⟨h.1, fun i hi => wpOp_mono (fun a' w' h' => wpAnyT_any n _ a' w' h'.2) (h.2 i hi)⟩
theorem wpAnyT_first {C : World → Prop} {i : Nat} {oi : Oper} {v : Value} (hi : ops[i]? = some oi) (hsel : ∀ (j : Nat) (o : Oper) cs b, ops[j]? = some o → o.op ≠ .select cs b)
  (hQ : ∀ c a w, Q (.panic c) (a.put oi.dst v) w → Q (.panic c) a w)
  (hC : (∀ w, C w) ∨ (C = S ∧ ∀ j, late.contains j = true → ∀ oj, ops[j]? = some oj → ∃ e ∈ oj.after, Region.binds md e = true ∧ e.on = i)) :
  ∀ (n : Nat) (listed : Array Bool) (a : Act) (w : World),
   (∀ j oj, ops[j]? = some oj → j ≠ i → listed.getD j true = false → (∀ e ∈ oj.after, Region.binds md e = true → e.on ≠ i) → oi.apart ops oj = true) →
   i ∈ Region.ready md ops listed → YieldsIf P ops C oi v a → C w →
   wpAnyT P md ops Q S late n (listed.setIfInBounds i true) (a.put oi.dst v) w → wpAnyT P md ops Q S late (n + 1) listed a w := by
 intro n
 induction n with
 | zero =>
  intro listed a w _ hr hy hw H
  refine ⟨fun h => (by rw [h] at hr; cases hr), fun j hj => ?_⟩
  by_cases hji : j = i
  ·subst hji; exact hy.wpOp hi hw (KT.same H)
  ·have := ready_mono hj hji
   rw [H.1] at this
   cases this
 | succ n ih =>
  intro listed a w hfree hr hy hw H
  refine ⟨fun h => (by rw [h] at hr; cases hr), fun j hj => ?_⟩
  by_cases hji : j = i
  ·subst hji; exact hy.wpOp hi hw (KT.same H)
  ·have hun : listed.getD i true = false := (mem_ready.1 hr).1
   have hunF : listed.getD i false = false := by
    rcases Nat.lt_or_ge i listed.size with h' | h'
    ·simp [h'] at hun ⊢; exact hun
    ·simp [Array.getElem?_eq_none h']
   obtain ⟨hjun, oj, hoj, hall⟩ := mem_ready.1 hj
   have hnot : ∀ e ∈ oj.after, Region.binds md e = true → e.on ≠ i := fun e he hb heq => by
    have h1 := hall e he hb
    rw [heq, hunF] at h1
    cases h1
   have hstep : ∀ w', (late.contains j = false → S w → S w') → C w' := fun w' h => by
    rcases hC with hC | ⟨rfl, hC⟩
    ·exact hC w'
    ·refine h ?_ hw
     cases hl : late.contains j with
     | false => rfl
     | true =>
      obtain ⟨e, he, hb, heq⟩ := hC j hl oj hoj
      exact absurd heq (hnot e he hb)
   have h2 := wpOp_putIf hoj (hfree j oj hoj hji hjun hnot) (fun cs b => hsel i oi cs b hi) (fun cs b => hsel j oj cs b hoj) hQ hy (H.2 j (ready_mono hj hji))
   have hfree' : ∀ k ok, ops[k]? = some ok → k ≠ i → (listed.setIfInBounds j true).getD k true = false → (∀ e ∈ ok.after, Region.binds md e = true → e.on ≠ i) → oi.apart ops ok = true := fun k ok hk hki hku hno => by
    refine hfree k ok hk hki ?_ hno
    by_cases hjk : j = k
    ·subst hjk; exact hjun
    ·rw [getD_set_ne true hjk] at hku; exact hku
   refine wpOp_mono (fun a' w' h3 => ⟨h3.2.1, ih (listed.setIfInBounds j true) a' w' hfree' (ready_mono hr (Ne.symm hji)) h3.1 (hstep w' h3.2.1) ?_⟩) h2
   rw [Array.setIfInBounds_comm _ _ hji]
   exact h3.2.2
def lateOk (md : Region.Mode) (ops : Array Oper) (late : List Nat) (i : Nat) : Bool :=
 late.all fun j => match ops[j]? with
  | some oj => oj.after.any fun e => Region.binds md e && e.on == i
  | none => true
theorem lateOk_spec {i : Nat} (h : lateOk md ops late i = true) (j : Nat) (hj : late.contains j = true) (oj : Oper) (ho : ops[j]? = some oj) : ∃ e ∈ oj.after, Region.binds md e = true ∧ e.on = i := by
 unfold lateOk at h
 rw [List.all_eq_true] at h
 have h1 := h j (by simpa using hj)
 rw [ho] at h1
 simp only [Array.any_eq_true] at h1
 obtain ⟨k, hk, h2⟩ := h1
 simp only [Bool.and_eq_true, beq_iff_eq] at h2
 exact ⟨oj.after[k], Array.getElem_mem hk, h2⟩
def ordT (md : Region.Mode) (ops : Array Oper) (late : List Nat) : Ord → Array Bool → Bool
 | .nil, listed => (Region.ready md ops listed).isEmpty
 | .val i r, listed => (Region.ready md ops listed).contains i && Region.free md ops listed i && (match ops[i]? with | some o => valOnly2 o.op || (valOnly3 o.op && lateOk md ops late i) | none => false) && ordT md ops late r (listed.setIfInBounds i true)
 | .op i r, listed => Region.ready md ops listed == [i] && ordT md ops late r (listed.setIfInBounds i true)
 | .two i r j s, listed => Region.ready md ops listed == [i, j] && ordT md ops late r (listed.setIfInBounds i true) && ordT md ops late s (listed.setIfInBounds j true)
 | .three i r j s k t, listed => Region.ready md ops listed == [i, j, k] && ordT md ops late r (listed.setIfInBounds i true) && ordT md ops late s (listed.setIfInBounds j true) && ordT md ops late t (listed.setIfInBounds k true)
def wpOrdT (P : Program) (ops : Array Oper) (Q : Exit → Act → World → Prop) (S : World → Prop) (late : List Nat) : Ord → Act → World → Prop
 | .nil, a, w => Q .normal a w
 | .val i r, a, w => ∃ o, ops[i]? = some o ∧ ((valOnly2 o.op = true ∧ wpQuiet P ops (fun _ => True) (fun a' => wpOrdT P ops Q S late r a' w) [o] a) ∨ (valOnly2 o.op = false ∧ S w ∧ wpQuiet P ops S (fun a' => wpOrdT P ops Q S late r a' w) [o] a))
 | .op i r, a, w => ∃ o, ops[i]? = some o ∧ wpList P ops (Exit.then (fun a' w' => KT (late.contains i) S w w' (wpOrdT P ops Q S late r a' w')) Q) [o] a w
 | .two i r j s, a, w => (∃ o, ops[i]? = some o ∧ wpList P ops (Exit.then (fun a' w' => KT (late.contains i) S w w' (wpOrdT P ops Q S late r a' w')) Q) [o] a w) ∧
   (∃ o, ops[j]? = some o ∧ wpList P ops (Exit.then (fun a' w' => KT (late.contains j) S w w' (wpOrdT P ops Q S late s a' w')) Q) [o] a w)
 | .three i r j s k t, a, w => (∃ o, ops[i]? = some o ∧ wpList P ops (Exit.then (fun a' w' => KT (late.contains i) S w w' (wpOrdT P ops Q S late r a' w')) Q) [o] a w) ∧
   (∃ o, ops[j]? = some o ∧ wpList P ops (Exit.then (fun a' w' => KT (late.contains j) S w w' (wpOrdT P ops Q S late s a' w')) Q) [o] a w) ∧
   (∃ o, ops[k]? = some o ∧ wpList P ops (Exit.then (fun a' w' => KT (late.contains k) S w w' (wpOrdT P ops Q S late t a' w')) Q) [o] a w)
theorem wpOrdT_list {i : Nat} {o : Oper} {next K : Act → World → Prop} {a : Act} {w : World} (ho : ops[i]? = some o) (h : wpList P ops (Exit.then next Q) [o] a w) (hn : ∀ a w, next a w → K a w) : wpOp P ops Q i K a w := wpOrd_list ho h hn
theorem wpOrdT_sound (hsel : Region.noSelect ops = true) (hQ : ∀ c a w, ¬ Q (.panic c) a w) : ∀ (π : Ord) (listed : Array Bool) (a : Act) (w : World), ordT md ops late π listed = true → π.even = true →
  wpOrdT P ops Q S late π a w → wpAnyT P md ops Q S late π.depth listed a w
 | .nil, listed, a, w, hB, _, h => ⟨by simpa [ordT] using hB, h⟩
 | .val i r, listed, a, w, hB, hE, ⟨o, ho, h⟩ => by
  simp only [ordT, Bool.and_eq_true, ho] at hB
  obtain ⟨⟨⟨hr, hf⟩, hv⟩, hB'⟩ := hB
  have key : ∀ C : World → Prop, valOnly3 o.op = true → wpQuiet P ops C (fun a' => wpOrdT P ops Q S late r a' w) [o] a → ∃ v, YieldsIf P ops C o v a ∧ wpOrdT P ops Q S late r (a.put o.dst v) w := fun C hv3 h => by
   simp only [wpQuiet] at h
   by_cases hw : Region.wanted o (yielded ops a.tmps) = true
   ·rw [if_pos hw] at h
    obtain ⟨v, h1, h2⟩ := h
    refine ⟨v, .inl ⟨hw, fun w' hw' => ?_⟩, h2⟩
    have h3 := h1 w' hw'
    unfold Oper.quietAt at h3
    cases hrun : (execOp a.eval o).run P w' with
    | ok n w1 =>
     obtain ⟨u, rfl⟩ := valOnly3_spec hv3 hrun
     rw [hrun] at h3
     simp only [Oper.quietUpon] at h3
     rw [h3.1, h3.2]
    | halt x w1 => rw [hrun] at h3; simp only [Oper.quietUpon] at h3
   ·rw [if_neg hw] at h
    exact ⟨undef, .inr ⟨by simpa using hw, rfl⟩, h⟩
  have hfree := fun j oj hj hne hun hno => Region.free_spec ho hf j oj hj hne hun hno
  rcases h with ⟨h2, h⟩ | ⟨h2, hS, h⟩
  ·have h3 : valOnly3 o.op = true := by
    obtain ⟨dst, op, ty, pos, aft, grd⟩ := o
    cases op <;> first | rfl | exact h2
   obtain ⟨v, hy, hn⟩ := key _ h3 h
   exact wpAnyT_first (C := fun _ => True) ho (fun j o cs b => Region.noSelect_spec hsel j o cs b) (fun c a w hq => absurd hq (hQ c _ _)) (.inl fun _ => trivial) r.depth listed a w
    hfree (by simpa using hr) hy trivial (wpOrdT_sound hsel hQ r _ _ _ hB' hE hn)
  ·rw [h2, Bool.false_or, Bool.and_eq_true] at hv
   obtain ⟨v, hy, hn⟩ := key _ hv.1 h
   exact wpAnyT_first (C := S) ho (fun j o cs b => Region.noSelect_spec hsel j o cs b) (fun c a w hq => absurd hq (hQ c _ _)) (.inr ⟨rfl, fun j hj oj hoj => lateOk_spec hv.2 j hj oj hoj⟩) r.depth listed a w
    hfree (by simpa using hr) hy hS (wpOrdT_sound hsel hQ r _ _ _ hB' hE hn)
 | .op i r, listed, a, w, hB, hE, ⟨o, ho, h⟩ => by
  simp only [ordT, Bool.and_eq_true, beq_iff_eq] at hB
  obtain ⟨hr, hB'⟩ := hB
  refine ⟨fun h0 => (by rw [hr] at h0; cases h0), fun j hj => ?_⟩
  rw [hr] at hj
  obtain rfl : j = i := by simpa using hj
  exact wpOrdT_list ho h (fun a' w' hk => ⟨hk.1, wpOrdT_sound hsel hQ r _ a' w' hB' hE hk.2⟩)
 | .two i r k s, listed, a, w, hB, hE, ⟨⟨o, ho, h⟩, ⟨o2, ho2, h2⟩⟩ => by
  simp only [ordT, Bool.and_eq_true, beq_iff_eq] at hB
  simp only [Ord.even, Bool.and_eq_true, beq_iff_eq] at hE
  obtain ⟨⟨hr, hB'⟩, hB2⟩ := hB
  obtain ⟨⟨hE1, hE2⟩, hd⟩ := hE
  refine ⟨fun h0 => (by rw [hr] at h0; cases h0), fun j hj => ?_⟩
  rw [hr] at hj
  rcases (by simpa using hj : j = i ∨ j = k) with rfl | rfl
  ·exact wpOrdT_list ho h (fun a' w' hk => ⟨hk.1, wpOrdT_sound hsel hQ r _ a' w' hB' hE1 hk.2⟩)
  ·exact wpOrdT_list ho2 h2 (fun a' w' hk => ⟨hk.1, by have := wpOrdT_sound hsel hQ s _ a' w' hB2 hE2 hk.2; rwa [← hd] at this⟩)
 | .three i r k s l t, listed, a, w, hB, hE, ⟨⟨o, ho, h⟩, ⟨o2, ho2, h2⟩, ⟨o3, ho3, h3⟩⟩ => by
  simp only [ordT, Bool.and_eq_true, beq_iff_eq] at hB
  simp only [Ord.even, Bool.and_eq_true, beq_iff_eq] at hE
  obtain ⟨⟨⟨hr, hB'⟩, hB2⟩, hB3⟩ := hB
  obtain ⟨⟨⟨⟨hE1, hE2⟩, hE3⟩, hd⟩, hd2⟩ := hE
  refine ⟨fun h0 => (by rw [hr] at h0; cases h0), fun j hj => ?_⟩
  rw [hr] at hj
  rcases (by simpa using hj : j = i ∨ j = k ∨ j = l) with rfl | rfl | rfl
  ·exact wpOrdT_list ho h (fun a' w' hk => ⟨hk.1, wpOrdT_sound hsel hQ r _ a' w' hB' hE1 hk.2⟩)
  ·exact wpOrdT_list ho2 h2 (fun a' w' hk => ⟨hk.1, by have := wpOrdT_sound hsel hQ s _ a' w' hB2 hE2 hk.2; rwa [← hd] at this⟩)
  ·exact wpOrdT_list ho3 h3 (fun a' w' hk => ⟨hk.1, by have := wpOrdT_sound hsel hQ t _ a' w' hB3 hE3 hk.2; rwa [← hd2] at this⟩)
theorem wp_region_ordT {id : Nat} {a : Act} {w : World} {l : List Oper} (B : Nat) (late : List Nat) (π : Ord) (hm : P.follows .mixedOrders = true)
  (hB : (Region.noSelect l.toArray && (π.depth == l.length && (π.even && ordT .any l.toArray late π (Array.replicate l.length false)))) = true)
  (h : wpOrdT P l.toArray (OnlyBack Q) (fun w' => ∃ q : BW B w, w' = q.1) late π a (w.drewN 1)) : (Code.region id l.toArray true).wp P Q a w := by
 simp only [Bool.and_eq_true, beq_iff_eq] at hB
 obtain ⟨h1, h2, hE, h3⟩ := hB
 refine Code.wp_mono (Q := OnlyBack Q) (fun e a w q => by cases e <;> first | exact q | exact q.elim) (wp_region_any hm ?_)
 have := wpAnyT_any _ _ _ _ (wpOrdT_sound (md := .any) h1 (fun c a w hq => hq) π (Array.replicate l.length false) a w.drew h3 hE h)
 rw [h2] at this
 simpa using this
theorem wpOrdT_nil {a : Act} {w : World} (h : Q .normal a w) : wpOrdT P ops (OnlyBack Q) S late .nil a w := h
theorem wpOrdT_val {l : List Oper} {i : Nat} {r : Ord} {a : Act} {w : World} {o : Oper} (ho : nth l i = some o) (hv : valOnly2 o.op = true)
  (h : wpQuiet P l.toArray (fun _ => True) (fun a' => wpOrdT P l.toArray Q S late r a' w) [o] a) : wpOrdT P l.toArray Q S late (.val i r) a w := ⟨o, by rw [← ho, nth_eq]; simp, .inl ⟨hv, h⟩⟩
theorem wpOrdT_load {l : List Oper} {i : Nat} {r : Ord} {a : Act} {w : World} {o : Oper} (ho : nth l i = some o) (hv : valOnly2 o.op = false) (hS : S w)
  (h : wpQuiet P l.toArray S (fun a' => wpOrdT P l.toArray Q S late r a' w) [o] a) : wpOrdT P l.toArray Q S late (.val i r) a w := ⟨o, by rw [← ho, nth_eq]; simp, .inr ⟨hv, hS, h⟩⟩
theorem wpOrdT_op {l : List Oper} {i : Nat} {r : Ord} {a : Act} {w : World} {o : Oper} (ho : nth l i = some o)
  (h : wpList P l.toArray (Exit.then (fun a' w' => KT (late.contains i) S w w' (wpOrdT P l.toArray Q S late r a' w')) Q) [o] a w) : wpOrdT P l.toArray Q S late (.op i r) a w := ⟨o, by rw [← ho, nth_eq]; simp, h⟩
theorem wpOrdT_two {l : List Oper} {i j : Nat} {r s : Ord} {a : Act} {w : World} {o o2 : Oper} (ho : nth l i = some o) (ho2 : nth l j = some o2)
  (h : wpList P l.toArray (Exit.then (fun a' w' => KT (late.contains i) S w w' (wpOrdT P l.toArray Q S late r a' w')) Q) [o] a w) (h2 : wpList P l.toArray (Exit.then (fun a' w' => KT (late.contains j) S w w' (wpOrdT P l.toArray Q S late s a' w')) Q) [o2] a w) : wpOrdT P l.toArray Q S late (.two i r j s) a w :=
 ⟨⟨o, by rw [← ho, nth_eq]; simp, h⟩, ⟨o2, by rw [← ho2, nth_eq]; simp, h2⟩⟩
theorem wpOrdT_three {l : List Oper} {i j k : Nat} {r s t : Ord} {a : Act} {w : World} {o o2 o3 : Oper} (ho : nth l i = some o) (ho2 : nth l j = some o2) (ho3 : nth l k = some o3)
  (h : wpList P l.toArray (Exit.then (fun a' w' => KT (late.contains i) S w w' (wpOrdT P l.toArray Q S late r a' w')) Q) [o] a w) (h2 : wpList P l.toArray (Exit.then (fun a' w' => KT (late.contains j) S w w' (wpOrdT P l.toArray Q S late s a' w')) Q) [o2] a w)
  (h3 : wpList P l.toArray (Exit.then (fun a' w' => KT (late.contains k) S w w' (wpOrdT P l.toArray Q S late t a' w')) Q) [o3] a w) : wpOrdT P l.toArray Q S late (.three i r j s k t) a w :=
 ⟨⟨o, by rw [← ho, nth_eq]; simp, h⟩, ⟨o2, by rw [← ho2, nth_eq]; simp, h2⟩, ⟨o3, by rw [← ho3, nth_eq]; simp, h3⟩⟩
theorem inBW {B : Nat} {w w' : World} (h : Below B w w') : ∃ q : BW B w, w' = q.1 := ⟨⟨w', h⟩, rfl⟩
end
theorem callSame {P : Program} {f : Nat} {args : Array Value} {v : Value} {B : Nat} {w : World} {q : BW B w} (h : Calls P f args q.1 fun e w' => e = .returned v ∧ q.1 = w') :
  Calls P f args q.1 fun e w'' => e = .returned v ∧ ∃ q' : BW B w, w'' = q'.1 :=
 h.mono fun _ _ ⟨he, hb⟩ => ⟨he, q, hb.symm⟩
def KW (F : Nat → Prop) (w : World) : Type := {w' : World // Keep F w w'}
instance KW.nonempty {F : Nat → Prop} {w : World} : Nonempty (KW F w) := ⟨⟨w, Keep.refl F w⟩⟩
theorem KW.cellAt {F : Nat → Prop} {w : World} {g i : Nat} {v : Value} (hg : g < w.heap.size) (hf : ¬ F g) (h : w.cell? ⟨g, i, none⟩ = some v) (q : KW F w) : q.1.cell? ⟨g, i, none⟩ = some v := (q.2.cell hg hf).trans h
theorem inKW {F : Nat → Prop} {w w' : World} (h : Keep F w w') : ∃ q : KW F w, w' = q.1 := ⟨⟨w', h⟩, rfl⟩
theorem wp_region_ordK {P : Program} {Q : Exit → Act → World → Prop} {id : Nat} {a : Act} {w : World} {l : List Oper} (F : Nat → Prop) (late : List Nat) (π : Ord) (hm : P.follows .mixedOrders = true)
  (hB : (Region.noSelect l.toArray && (π.depth == l.length && (π.even && ordT .any l.toArray late π (Array.replicate l.length false)))) = true)
  (h : wpOrdT P l.toArray (OnlyBack Q) (fun w' => ∃ q : KW F w, w' = q.1) late π a (w.drewN 1)) : (Code.region id l.toArray true).wp P Q a w := by
 simp only [Bool.and_eq_true, beq_iff_eq] at hB
 obtain ⟨h1, h2, hE, h3⟩ := hB
 refine Code.wp_mono (Q := OnlyBack Q) (fun e a w q => by cases e <;> first | exact q | exact q.elim) (wp_region_any hm ?_)
 have := wpAnyT_any _ _ _ _ (wpOrdT_sound (md := .any) h1 (fun c a w hq => hq) π (Array.replicate l.length false) a w.drew h3 hE h)
 rw [h2] at this
 simpa using this
end Go.Proofs.YtpkkfdmhbbipoaaGreat
