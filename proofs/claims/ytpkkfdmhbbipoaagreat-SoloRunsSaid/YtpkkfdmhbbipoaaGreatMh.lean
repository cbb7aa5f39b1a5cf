/- Walks: the reference's 'Same' of two like lists, its 'Least'; the tests 'Void', 'Empty' of package lang. Tables in plain Lean: states as words; what closing, stepping and seeking say of each bit. No program in sight. Walks: package glob's 'Good'; a table's methods. Regions that draw their order and whose calls only make new blocks: one walk of the order of the text. No program in sight. Regions that draw their order, walked along a tree of orders (part Mix2), where loads of cells that no early operation turns are taken first too: a condition on the world that every operation but the late ones keeps. No program in sight. -/
import Derived.Test.YtpkkfdmhbbipoaaGreatMc
import Derived.Test.YtpkkfdmhbbipoaaGreatMa
import Derived.Shelf.Abstract
import Derived.Laws.BitsAllLaws
import Derived.BigQuiet
import Derived.OrdersHeld
namespace Go.Proofs.YtpkkfdmhbbipoaaGreat
set_option maxHeartbeats 400000
open Go.RowKit
theorem Zlc (A : Option Addr) (n c : Nat) (l : List Zm) (w : World) (hl : l.length = n) (hn : n ≤ 1000000) (hr : Rd w A (Yb l)) :
  Calls Tryz.prog 212 #[.slice A n c] w fun e w' => e = .returned (Gd l : Int) ∧ Below w.heap.size w w' := by
 have HL := hid hl; clear hl;go_enter Tryz.func212, Tryz.ntmps212
 go_wp2
 go_loopw [3, 4] (fun v i wr => ∃ (k : Nat), k ≤ n ∧ i = .int .i64 k ∧ v = .int .i64 (Gd (l.take k) : Int) ∧ Below w.heap.size w wr) (fun _ i _ => n - (intOf i).toNat)
 case atStart => exact ⟨0, aa, rfl, rfl, Below.refl _ _⟩
 case round =>
  obtain ⟨k, hk, rfl, rfl, hb⟩ := hrel;by_cases hlt : k < n
  ·obtain ⟨b, off, rfl, hbl, hc⟩ := (hr.below hb).at jh
   have HK : Hid (k < l.length) := by rw [HL.out]; exact hlt
   obtain ⟨d0, d1, d2, d3, d4⟩ := Zem hc k HK.out;have hle : Gd (l.take k) ≤ k := by unfold Gd; exact Nat.le_trans (List.length_filter_le _ _) af
   have HS : Hid (Gd (l.take (k + 1)) = Gd (l.take k) + if (l[k]'HK.out).run then 0 else 1) := by
    rw [Hid, List.take_succ_eq_append_getElem HK.out];unfold Gd;rw [List.filter_append];cases h : (l[k]'HK.out).run <;> simp [h]
   have HB := hid hb;clear hc hr hb;generalize l[k]'HK.out = x at *;generalize Gd (l.take k) = q at *;cases hrun : x.run
   ·rw [hrun] at d0 HS
    clear hrun
    go_wp2
    go_roundw
    case rel => exact ⟨k + 1, aa, aw, by rw [HS.out]; go_num, HB.out⟩
    case measure => simp [intOf]; omega
   ·rw [hrun] at d0 HS
    clear hrun
    go_wp2
    go_roundw
    case rel => exact ⟨k + 1, aa, aw, by rw [HS.out]; rfl, HB.out⟩
    case measure => simp [intOf]; omega
  ·go_wp2
   go_ret;have hkk : l.take k = l := List.take_of_length_le bj;rw [hkk];exact ⟨rfl, hb⟩
/-! ### Tests handed over as function values -/
theorem Zln (x : Zm) (w : World) : Calls Tryz.prog 233 #[x.val] w fun e w' => e = .returned (.bool (!x.run)) ∧ Below w.heap.size w w' := by
 have hb : ∀ cs, Below w.heap.size w (w.alloc (.cells cs 251)) := fun cs => (Below.refl _ _).alloc (Nat.le_refl _) _;have HB := hid hb;clear hb;unfold Zm.val;obtain ⟨r, x0, x1, x2, x3⟩ := x;simp only at *;go_enter Tryz.func233, Tryz.ntmps233
 go_wp2
 go_ret;exact ⟨rfl, HB.out _⟩
theorem Zf5 (F : Nat) (T : Zm → Bool) (hE : ∀ args W, (callFunc F args).run Tryz.prog W = .ok (.enter F args) W) (hF : ∀ x W, Calls Tryz.prog F #[Zm.val x] W fun e W' => e = .returned (.bool (T x)) ∧ Below W.heap.size W W')
  (A : Option Addr) (n c : Nat) (l : List Zm) (w : World) (hl : l.length = n) (hn : n ≤ 1000000) (hr : Rd w A (Yb l)) :
  Calls Tryz.prog 243 #[.slice A n c, .func (.func F) #[] #[]] w fun e w' => ∃ i : Int, e = .returned i ∧ Hid ((l.any T = true ∧ 0 ≤ i) ∨ (l.any T = false ∧ i = -1)) ∧ Below w.heap.size w w' := by
 have HL := hid hl; clear hl;have HF := hid hF; clear hF;go_enter Tryz.func243, Tryz.ntmps243
 go_wp2
 go_loopw [8] (fun i wr => ∃ (k : Nat), k ≤ n ∧ i = .int .i64 k ∧ Hid ((l.take k).any T = false) ∧ Below w.heap.size w wr) (fun i _ => n - (intOf i).toNat)
 case atStart => exact ⟨0, aa, rfl, rfl, Below.refl _ _⟩
 case round =>
  obtain ⟨k, hk, rfl, HA, hb⟩ := hrel;by_cases hlt : k < n
  ·obtain ⟨b, off, rfl, hbl, hc⟩ := (hr.below hb).at jh
   have HK : Hid (k < l.length) := by rw [HL.out]; exact hlt
   obtain ⟨d0, d1, d2, d3, d4⟩ := Zem hc k HK.out
   have HS : Hid ((l.take (k + 1)).any T = T (l[k]'HK.out)) := by
    rw [Hid, List.take_succ_eq_append_getElem HK.out, List.any_append, HA.out]; simp
   have HT : Hid (T (l[k]'HK.out) = true → l.any T = true) := fun h => List.any_eq_true.2 ⟨_, List.getElem_mem _, h⟩;have HB := hid hb;clear hc hr hb;generalize l[k]'HK.out = x at *;have HX : Hid (Zm.val x = .agg #[x.run, w64 x.set.w0, w64 x.set.w1, w64 x.set.w2, w64 x.set.w3]) := rfl;go_wp2_with fail;refine (HF.out x _).mono ?_;rintro e w1 ⟨rfl, hb1⟩;have HB1 := bt HB hb1;clear hb1 d0 d1 d2 d3 d4;cases ht : T x
   ·have HS2 : Hid ((l.take (k + 1)).any T = false) := by rw [Hid, HS.out, ht]
    clear ht;go_wp2_with fail;go_roundw
    case rel => exact ⟨k + 1, aa, aw, HS2, HB1.out⟩
    case measure => simp [intOf]; omega
   ·have HT2 := hid (HT.out ht)
    clear ht;go_wp2_with fail;go_ret;exact ⟨k, rfl, .inl ⟨HT2.out, aa⟩, HB1.out⟩
  ·have hkk : l.take k = l := List.take_of_length_le bj
   rw [hkk] at HA
   go_wp2
   go_ret;exact ⟨-1, rfl, .inr ⟨HA.out, rfl⟩, hb⟩
theorem Nt (F : Nat) (T : Zm → Bool) (hE : ∀ args W, (callFunc F args).run Tryz.prog W = .ok (.enter F args) W) (hF : ∀ x W, Calls Tryz.prog F #[Zm.val x] W fun e W' => e = .returned (.bool (T x)) ∧ Below W.heap.size W W')
  (A : Option Addr) (n c : Nat) (l : List Zm) (w : World) (hl : l.length = n) (hn : n ≤ 1000000) (hr : Rd w A (Yb l)) :
  Calls Tryz.prog 232 #[.slice A n c, .func (.func F) #[] #[]] w fun e w' => e = .returned (.bool (l.any T)) ∧ Below w.heap.size w w' := by
 have HL := hid hl; clear hl;have HF := hid hF; have HE := hid hE; clear hF hE;go_enter Tryz.func232, Tryz.ntmps232;go_wp2_with fail;refine (Zf5 F T HE.out HF.out A n c l _ HL.out hn hr).mono ?_;rintro e w1 ⟨i, rfl, HI, hb1⟩;rcases HI.out with ⟨h1, h2⟩ | ⟨h1, rfl⟩
 ·have H1 := hid h1
  clear h1 HI
  go_wp2
  go_ret;exact ⟨by rw [H1.out]; rfl, hb1⟩
 ·have H1 := hid h1
  clear h1 HI
  go_wp2
  go_ret;exact ⟨by rw [H1.out]; rfl, hb1⟩
theorem Zff (l : List Zm) : Ja l [] = !(l.any fun x => !x.run) := by
 induction l with
 | nil => rfl
 | cons x l ih =>
  cases hr : x.run with
  | false => simp [Ja, hr]
  | true => simp [Ja, hr, ih]
theorem Zlo (A : Option Addr) (n c : Nat) (l : List Zm) (w : World) (hl : l.length = n) (hn : n ≤ 1000000) (hr : Rd w A (Yb l)) :
  Calls Tryz.prog 221 #[.slice A n c] w fun e w' => e = .returned (.bool (Wz l [])) ∧ Below w.heap.size w w' := by
 have HL := hid hl; clear hl;have HM : Hid (Wz l [] = !(l.any fun x => !x.run)) := by rw [Hid, Zda, Zff]
 go_enter Tryz.func221, Tryz.ntmps221;go_wp2_with fail;refine (Nt 233 _ (enters_of Tryz.func233 ab rfl) Zln A n c l _ HL.out hn hr).mono ?_;rintro e w1 ⟨rfl, hb1⟩
 go_wp2
 go_ret;exact ⟨by rw [HM.out]; rfl, hb1⟩
def Zoh : Zm := ⟨false, Zp.zero⟩
def Uf (l : List Zm) (k : Nat) : Bool := (l.getD k Zoh).run
def Ur (l : List Zm) (b k : Nat) : Bool := (l.getD k Zoh).set.has b
theorem Zie (b : Nat) : Zp.zero.has b = false := by
 unfold Zp.has Zp.zero Zp.word; split <;> simp
theorem Zcf (l : List Zm) (k : Nat) (h : l.length ≤ k) : Uf l k = false := by
 unfold Uf; rw [List.getD, List.getElem?_eq_none h]; rfl
theorem Zpp (l : List Zm) (b k : Nat) (h : l.length ≤ k) : Ur l b k = false := by
 unfold Ur; rw [List.getD, List.getElem?_eq_none h]; exact Zie b
theorem Zb9 (l : List Zm) (k : Nat) (h : k < l.length) : Uf l k = (l[k]).run := by
 unfold Uf; rw [List.getD, List.getElem?_eq_getElem h]; rfl
theorem Zg9 (l : List Zm) (b k : Nat) (h : k < l.length) : Ur l b k = (l[k]).set.has b := by
 unfold Ur; rw [List.getD, List.getElem?_eq_getElem h]; rfl
def bv (f : Nat → Bool) : BitVec 64 := BitVec.ofNat 64 (Kf ((List.range 64).map f) 0 64)
theorem Jq (f : Nat → Bool) (k : Nat) (h : k < 64) : (bv f).getLsbD k = f k := by
 unfold bv;rw [BitVec.getLsbD, Up _ (Zay _ 0 64), Zi2 _ 0 64 k h (Nat.le_refl _)];simp [List.getD, h]
theorem Zbt {x y : BitVec 64} (h : ∀ k, k < 64 → x.getLsbD k = y.getLsbD k) : x = y := BitVec.eq_of_getLsbD_eq fun k hk => h k hk
def clo (runs x : Nat → Bool) : Nat → Bool
 | 0 => x 0
 | k + 1 => x (k + 1) || (clo runs x k && runs k)
def Mh (l : List Zm) : BitVec 64 := bv (Uf l)
def Zj6 (l : List Zm) (b : Nat) : BitVec 64 := bv (Ur l b)
def Qp (l : List Zm) (x : BitVec 64) : BitVec 64 := bv fun k => decide (k ≤ l.length) && clo (Uf l) x.getLsbD k
def Mw (l : List Zm) (x : BitVec 64) : BitVec 64 := x ||| ((x &&& Mh l) <<< 1)
def Wy (l : List Zm) : BitVec 64 := Qp l 1
def Zbi (l : List Zm) (x : BitVec 64) (b : Nat) : BitVec 64 := Qp l ((Qp l x &&& Mh l) ||| ((Qp l x &&& Zj6 l b) <<< 1))
def Zdj (l : List Zm) (x : BitVec 64) (b : Nat) : BitVec 64 := Zbi l x b ||| Wy l
def Mj (l : List Zm) (x : BitVec 64) : Bool := (Qp l x).getLsbD l.length
theorem Zij (x : BitVec 64) (k : Nat) (h : k < 64) : (x <<< 1).getLsbD k = (decide (0 < k) && x.getLsbD (k - 1)) := by
 rw [BitVec.getLsbD_shiftLeft];cases k with
 | zero => simp
 | succ k => simp [h]
theorem Zc9 (l : List Zm) (x : BitVec 64) (k : Nat) (h : k < 64) : (Mw l x).getLsbD k = (x.getLsbD k || (decide (0 < k) && (x.getLsbD (k - 1) && Uf l (k - 1)))) := by
 unfold Mw;rw [BitVec.getLsbD_or, Zij _ _ h, BitVec.getLsbD_and];unfold Mh; rw [Jq _ _ aa]
theorem Jc (l : List Zm) (x : BitVec 64) (k : Nat) (h : k < 64) : (Qp l x).getLsbD k = (decide (k ≤ l.length) && clo (Uf l) x.getLsbD k) := Jq _ k h
def Nn (l : List Zm) (x y : BitVec 64) : Prop := (∀ k, k < 64 → y.getLsbD k = true → (Qp l x).getLsbD k = true) ∧ ∀ k, k < 64 → k ≤ l.length → x.getLsbD k = true → y.getLsbD k = true
theorem Zp7 (runs x : Nat → Bool) (k : Nat) (h : x k = true) : clo runs x k = true := by
 cases k with
 | zero => exact h
 | succ k => simp [clo, h]
theorem Zjx (l : List Zm) (x y : BitVec 64) (hy : ∀ k, k < 64 → y.getLsbD k = (x.getLsbD k && decide (k ≤ l.length))) : Nn l x y := by
 constructor
 ·intro k hk h
  rw [hy k hk, Bool.and_eq_true] at h;rw [Jc l x k hk, h.2, Zp7 _ _ _ h.1]; rfl
 ·intro k hk hl h
  rw [hy k hk, h]; simp [hl]
theorem Zls (l : List Zm) (x y : BitVec 64) (h : Nn l x y) : Nn l x (Mw l y) := by
 constructor
 ·intro k hk hb
  rw [Zc9 l y k hk, Bool.or_eq_true] at hb;rcases hb with hb | hb
  ·exact h.1 k hk hb
  ·simp only [Bool.and_eq_true, decide_eq_true_eq] at hb
   obtain ⟨h0, h1, h2⟩ := hb;obtain ⟨j, rfl⟩ : ∃ j, k = j + 1 := ⟨k - 1, aa⟩;simp only [Nat.add_sub_cancel] at h1 h2;have hc := h.1 j aa h1;rw [Jc l x j aa, Bool.and_eq_true] at hc
   have hj : j < l.length := by
    rcases Nat.lt_or_ge j l.length with h | h
    ·exact h
    ·rw [Zcf l j h] at h2; cases h2
   rw [Jc l x (j + 1) hk];simp only [clo, hc.2, h2, Bool.and_self, Bool.or_true, Bool.and_true, decide_eq_true_eq]; omega
 ·intro k hk hl hx
  rw [Zc9 l y k hk, h.2 k hk hl hx]; rfl
theorem Zlt (l : List Zm) (x y : BitVec 64) (h : Nn l x y) (he : Mw l y = y) : y = Qp l x := by
 refine Zbt fun k hk => ?_;rw [Bool.eq_iff_iff];refine ⟨h.1 k hk, fun hc => ?_⟩;rw [Jc l x k hk, Bool.and_eq_true, decide_eq_true_eq] at hc;obtain ⟨hkl, hc⟩ := hc
 induction k with
 | zero => exact h.2 0 hk hkl hc
 | succ k ih =>
  simp only [clo, Bool.or_eq_true, Bool.and_eq_true] at hc;rcases hc with hc | ⟨hc, hr⟩
  ·exact h.2 _ hk hkl hc
  ·have := ih aa aa hc
   rw [← he, Zc9 l y (k + 1) hk, Nat.add_sub_cancel, this, hr]; simp
theorem Zk6 (l : List Zm) (y : BitVec 64) (h : Mw l y ≠ y) : y.toNat < (Mw l y).toNat := by
 have h1 : y.toNat ≤ (Mw l y).toNat := by
  unfold Mw; rw [BitVec.toNat_or]; exact Nat.left_le_or
 rcases Nat.lt_or_ge y.toNat (Mw l y).toNat with h2 | h2
 ·exact h2
 ·exact absurd (BitVec.eq_of_toNat_eq aa) h
/-! ### What a state means -/
def atR (l : List Zm) (w : List UInt8) (k i : Nat) : Bool := (Vq (l.take k) w).getD i false
theorem Zi0 (l : List Zm) (w : List UInt8) (i : Nat) (h : i ≤ w.length) : atR l w 0 i = true := by
 unfold atR Vq;rw [List.take_zero];show (Wq (w.length + 1) 0 true).getD i false = true;exact (Gt _ _ _ _).2 ⟨aa, .inl rfl⟩
theorem Gm (l : List Zm) (w : List UInt8) (k : Nat) (h : k < l.length) : Vq (l.take (k + 1)) w = Uc l[k] w (Vq (l.take k) w) := Zfk l w _ k h
theorem Zeq (l : List Zm) (w : List UInt8) (k i : Nat) (h : k < l.length) (hr : Uf l k = true) (hi : i ≤ w.length) : atR l w (k + 1) i = (atR l w k i || (decide (0 < i) && atR l w (k + 1) (i - 1))) := by
 unfold atR;have hl := Zas (l.take k) w;rw [Gm l w k h];have hr' : (l[k]).run = true := by rw [← Zb9 l k h]; exact hr
 have := Zmr (l[k]) w (Vq (l.take k) w) hr' i aa;rw [List.getD, this];simp [List.getD, show i < (Vq (l.take k) w).length by omega]
theorem Zqd (l : List Zm) (w : List UInt8) (k : Nat) (h : k < l.length) (hr : Uf l k = false) : atR l w (k + 1) 0 = false := by
 unfold atR;rw [Gm l w k h];have hr' : (l[k]).run = false := by rw [← Zb9 l k h]; exact hr
 rw [List.getD, Zbx _ _ _ hr']; rfl
theorem Zrc (l : List Zm) (w : List UInt8) (k i : Nat) (h : k < l.length) (hr : Uf l k = false) (hi : i < w.length) : atR l w (k + 1) (i + 1) = (atR l w k i && Ur l (w[i]).toNat k) := by
 unfold atR;have hl := Zas (l.take k) w;rw [Gm l w k h];have hr' : (l[k]).run = false := by rw [← Zb9 l k h]; exact hr
 rw [List.getD, Za3 _ _ _ hr' i hi hl, Zg9 l _ k h];simp [List.getD, show i < (Vq (l.take k) w).length by omega]
def toK (l : List Zm) (k : Nat) : Nat := if Uf l k then k + 1 else k
def atS (l : List Zm) (w : List UInt8) (i k : Nat) : Bool := atR l w (toK l k) i
theorem Zg0 (l : List Zm) (k : Nat) (h : Uf l k = true) : k < l.length := by
 rcases Nat.lt_or_ge k l.length with h1 | h1
 ·exact h1
 ·rw [Zcf l k h1] at h; cases h
theorem Zok (l : List Zm) (w : List UInt8) (i k : Nat) (hi : i ≤ w.length) (h : atR l w k i = true) : atS l w i k = true := by
 unfold atS toK;cases hr : Uf l k
 ·exact h
 ·rw [if_pos rfl, Zeq l w k i (Zg0 l k hr) hr hi, h]; rfl
theorem Zlx (l : List Zm) (w : List UInt8) (i k : Nat) (hi : i ≤ w.length) (h : atS l w i k = true) (hr : Uf l k = true) : atS l w i (k + 1) = true := by
 refine Zok l w i (k + 1) hi ?_;unfold atS toK at h; rwa [if_pos hr] at h
theorem Zlv (runs x : Nat → Bool) (k : Nat) (h : ∀ j, j < k → x j = true → runs j = true → x (j + 1) = true) : clo runs x k = x k := by
 induction k with
 | zero => rfl
 | succ k ih =>
  rw [clo, ih fun j hj => h j aa];cases hx : x (k + 1) with
  | true => rfl
  | false =>
   cases hk : x k with
   | false => rfl
   | true =>
    cases hr : runs k with
    | false => rfl
    | true => rw [h k aa hk hr] at hx; cases hx
def Zaz (l : List Zm) (w : List UInt8) (i : Nat) (x : BitVec 64) : Prop := ∀ k, k < 64 → x.getLsbD k = (decide (k ≤ l.length) && atS l w i k)
theorem Zd5 (l : List Zm) (w : List UInt8) (i : Nat) (x : BitVec 64) (hi : i ≤ w.length) (h : Zaz l w i x) : Qp l x = x := by
 refine Zbt fun k hk => ?_;rw [Jc l x k hk];by_cases hkl : k ≤ l.length
 ·rw [Zlv]
  ·simp [hkl]
  ·intro j hj hx hr
   rw [h j aa, Bool.and_eq_true] at hx;rw [h (j + 1) aa, Zlx l w i j hi hx.2 hr]; simp; omega
 ·rw [h k hk]; simp [hkl]
theorem Zgf (l : List Zm) (k : Nat) (hk : k < 64) : (Wy l).getLsbD k = (decide (k ≤ l.length) && clo (Uf l) (fun j => decide (j = 0)) k) := by
 unfold Wy;rw [Jc l _ k hk]
 congr 1
 have : ∀ j, (1 : BitVec 64).getLsbD j = decide (j = 0) := by
  intro j;show (1#64).getLsbD j = _;rw [BitVec.getLsbD_one]; simp
 rw [show (1 : BitVec 64).getLsbD = fun j => decide (j = 0) from funext this]
theorem Zms (l : List Zm) (w : List UInt8) (k : Nat) (hkl : k ≤ l.length) : clo (Uf l) (fun j => decide (j = 0)) k = atR l w k 0 := by
 induction k with
 | zero => rw [Zi0 l w 0 aa]; rfl
 | succ k ih =>
  rw [clo, ih aa];cases hr : Uf l k with
  | true => rw [Zeq l w k 0 aa hr aa]; simp
  | false => rw [Zqd l w k aa hr]; simp
theorem Zi7 (l : List Zm) (w : List UInt8) : Zaz l w 0 (Wy l) := by
 intro k hk;rw [Zgf l k hk];by_cases hkl : k ≤ l.length
 ·rw [Zms l w k hkl]
  congr 1
  unfold atS toK;cases hr : Uf l k with
  | false => rfl
  | true => rw [if_pos rfl, Zeq l w k 0 (Zg0 l k hr) hr aa]; simp
 ·simp [hkl]
theorem Zr2 (runs x y : Nat → Bool) (k : Nat) : (clo runs x k || clo runs y k) = clo runs (fun j => x j || y j) k := by
 induction k with
 | zero => rfl
 | succ k ih =>
  simp only [clo]; rw [← ih];cases x (k + 1) <;> cases y (k + 1) <;> cases clo runs x k <;> cases clo runs y k <;> cases runs k <;> rfl
theorem Zkl (l : List Zm) (w : List UInt8) (i : Nat) (x : BitVec 64) (hn : l.length < 64) (hg : ∀ k, Uf l k = true → ∀ b, Ur l b k = false) (hi : i < w.length) (h : Zaz l w i x) :
  Zaz l w (i + 1) (Zdj l x (w[i]).toNat) := by
 intro k hk;unfold Zdj Zbi;rw [Zd5 l w i x aa h, BitVec.getLsbD_or, Jc l _ k hk, Zgf l k hk];by_cases hkl : k ≤ l.length
 ·simp only [hkl, decide_true, Bool.true_and]
  rw [Zr2]
  have hraw : ∀ j, j ≤ l.length → (((x &&& Mh l) ||| ((x &&& Zj6 l (w[i]).toNat) <<< 1)).getLsbD j) =
    ((atS l w i j && Uf l j) || (decide (0 < j) && (atS l w i (j - 1) && Ur l (w[i]).toNat (j - 1)))) := by
   intro j hj;rw [BitVec.getLsbD_or, Zij _ _ aa, BitVec.getLsbD_and, BitVec.getLsbD_and, h j aa, h (j - 1) aa];unfold Mh Zj6;rw [Jq _ _ aa, Jq _ _ aa];simp [hj, show j - 1 ≤ l.length by omega]
  generalize ((x &&& Mh l) ||| ((x &&& Zj6 l (w[i]).toNat) <<< 1)) = z at *;clear hk
  induction k with
  | zero =>
   show (z.getLsbD 0 || decide (0 = 0)) = atS l w (i + 1) 0;rw [Zok l w (i + 1) 0 aa (Zi0 l w _ aa)]; simp
  | succ k ih =>
   rw [clo, ih aa, hraw (k + 1) hkl];simp only [Nat.add_sub_cancel, Nat.add_eq_zero_iff, Nat.succ_ne_self, and_false, decide_false, Bool.or_false, Nat.zero_lt_succ, decide_true, Bool.true_and]
   -- what comes at the item k
   have hkey : ((atS l w i k && Ur l (w[i]).toNat k) || (atS l w (i + 1) k && Uf l k)) = atR l w (k + 1) (i + 1) := by
    cases hr : Uf l k with
    | false =>
     rw [Zrc l w k i aa hr hi];unfold atS toK; rw [hr]; simp
    | true =>
     rw [hg k hr];unfold atS toK; rw [hr]; simp
   have e1 : ∀ a b c : Bool, (a || b || c) = (a || (b || c)) := fun a b c => Bool.or_assoc a b c;rw [e1, hkey];unfold atS toK;cases hr : Uf l (k + 1) with
   | false => simp
   | true =>
    simp only [if_true, Bool.and_true];rw [Zeq l w (k + 1) (i + 1) (Zg0 l _ hr) hr aa];simp [Bool.or_comm]
 ·simp [hkl]
theorem Zlq (l : List Zm) (w : List UInt8) (i : Nat) (x : BitVec 64) (hn : l.length < 64) (hi : i ≤ w.length) (h : Zaz l w i x) : Mj l x = (Vq l w).getD i false := by
 unfold Mj;rw [Zd5 l w i x hi h, h l.length hn];unfold atS toK;rw [Zcf l _ (Nat.le_refl _)];unfold atR;simp
theorem Ze6 (l : List Zm) (h : Kp l = true) : (∀ k, Uf l k = true → ∀ b, Ur l b k = false) ∧ l.length < 61 := by
 unfold Kp at h;rw [Bool.and_eq_true, decide_eq_true_eq, List.all_eq_true] at h;refine ⟨fun k hr b => ?_, h.2⟩;have hk := Zg0 l k hr;have := h.1 (l[k]) (List.getElem_mem _);rw [Zb9 l k hk] at hr;rw [Zg9 l b k hk];simp only [hr, Bool.true_and, bne, Bool.not_not, beq_iff_eq] at this;rw [this]; exact Zie b
theorem Znq (x : Zm) (w : World) : Calls Tryz.prog 242 #[x.val] w fun e w' => e = .returned (.bool (x.run && x.set != Zp.zero)) ∧ Below w.heap.size w w' := by
 have hb : ∀ cs, Below w.heap.size w (w.alloc (.cells cs 251)) := fun cs => (Below.refl _ _).alloc (Nat.le_refl _) _;have HB := hid hb;clear hb;have heq : ∀ W, (Op.equalIn 10000 249 (.agg #[w64 x.set.w0, w64 x.set.w1, w64 x.set.w2, w64 x.set.w3]) (.agg zf)).run Tryz.prog W = .ok (x.set == Zp.zero) W := fun W => Zl0 x.set Zp.zero W;unfold Zm.val;rw [show (x.set != Zp.zero) = !(x.set == Zp.zero) from rfl];generalize (x.set == Zp.zero) = z at *;obtain ⟨r, x0, x1, x2, x3⟩ := x;simp only at *;go_enter Tryz.func242, Tryz.ntmps242;cases r
 ·go_wp2
  go_ret;exact ⟨rfl, HB.out _⟩
 ·go_wp2
  go_ret;exact ⟨rfl, HB.out _⟩
theorem Ziw (l : List Zm) : Kp l = (decide (l.length ≤ 60) && !(l.any fun x => x.run && x.set != Zp.zero)) := by
 unfold Kp;rw [Bool.and_comm, List.all_eq_not_any_not]
 congr 1
 ·rw [Bool.eq_iff_iff]; simp; omega
 ·congr 2; funext x; simp
theorem Znr (A : Option Addr) (n c : Nat) (l : List Zm) (w : World) (hl : l.length = n) (hn : n ≤ 1000000) (hr : Rd w A (Yb l)) :
  Calls Tryz.prog 231 #[.slice A n c] w fun e w' => e = .returned (.bool (Kp l)) ∧ Below w.heap.size w w' := by
 have HG := hid (Ziw l);rw [hl] at HG;have HL := hid hl; clear hl;go_enter Tryz.func231, Tryz.ntmps231;by_cases h60 : n ≤ 60
 ·have HD : Hid (decide (n ≤ 60) = true) := by simp [Hid, h60]
  go_wp2_with fail;refine (Nt 242 _ (enters_of Tryz.func242 ab rfl) Znq A n c l _ HL.out hn hr).mono ?_;rintro e w1 ⟨rfl, hb1⟩
  go_wp2
  go_ret;exact ⟨by rw [HG.out, HD.out]; rfl, hb1⟩
 ·have HD : Hid (decide (n ≤ 60) = false) := by simp [Hid, h60]
  go_wp2_with fail;go_ret;exact ⟨by rw [HG.out, HD.out]; rfl, Below.refl _ _⟩
theorem Zns (A : Option Addr) (n c : Nat) (l : List Zm) (w : World) (hl : l.length = n) (hn : n ≤ 1000000) (hr : Rd w A (Yb l)) :
  Calls Tryz.prog 220 #[.slice A n c] w fun e w' => e = .returned (.bool (Kp l)) ∧ Below w.heap.size w w' := by
 have HG := hid (Ziw l);have HL := hid hl; clear hl;go_enter Tryz.func220, Tryz.ntmps220;go_wp2_with fail;refine (Znr A n c l _ HL.out hn hr).mono ?_;rintro e w1 ⟨rfl, hb1⟩
 go_wp2
 go_ret;exact ⟨rfl, hb1⟩
def Tb (w : World) (g : Nat) (l : List Zm) : Prop := g < w.heap.size ∧ w.cell? ⟨g, 0, none⟩ = some (.int .i64 (l.length : Int)) ∧ w.cell? ⟨g, 1, none⟩ = some (w64 (Mh l)) ∧ ∀ b, b < 256 → w.cell? ⟨g, 2 + b, none⟩ = some (w64 (Zj6 l b))
theorem Tb.below {w w' : World} {g : Nat} {l : List Zm} (h : Tb w g l) (hb : Below w.heap.size w w') : Tb w' g l :=
 ⟨Nat.lt_of_lt_of_le h.1 hb.size, (hb.cell (p := ⟨g, 0, none⟩) h.1).trans h.2.1, (hb.cell (p := ⟨g, 1, none⟩) h.1).trans h.2.2.1, fun b h1 => (hb.cell (p := ⟨g, 2 + b, none⟩) h.1).trans (h.2.2.2 b h1)⟩
/-! ### Words as the walk has them -/
theorem Zl1 (x y : BitVec 64) : bits .and .u64 (x.toNat : Int) (y.toNat : Int) = ((x &&& y).toNat : Int) := by
 rw [u64_and_nat _ _ x.isLt y.isLt, BitVec.toNat_and]
theorem Zn7 (x y : BitVec 64) : bits .or .u64 (x.toNat : Int) (y.toNat : Int) = ((x ||| y).toNat : Int) := by
 rw [u64_or_nat _ _ x.isLt y.isLt, BitVec.toNat_or]
theorem Zoe (x : BitVec 64) : IntKind.u64.wrap ((x.toNat : Int) * 2) = ((x <<< 1).toNat : Int) := by
 rw [BitVec.toNat_shiftLeft, IntKind.wrap_u64, Nat.shiftLeft_eq];show _ = ((x.toNat * 2 % 18446744073709551616 : Nat) : Int);omega
def Zgc (n : Nat) : BitVec 64 := BitVec.ofNat 64 (2 ^ (n + 1) - 1)
theorem Zdx (n : Nat) (h : n ≤ 60) : (Zgc n).toNat = 2 ^ (n + 1) - 1 := by
 unfold Zgc;refine Up _ ?_;have : 2 ^ (n + 1) ≤ 2 ^ 61 := Nat.pow_le_pow_right aa aa;omega
theorem Zrp (n : Nat) (h : n ≤ 60) : IntKind.u64.wrap (IntKind.u64.wrap (2 * 2 ^ n) - 1) = ((Zgc n).toNat : Int) := by
 have h1 : 2 ^ (n + 1) ≤ 2 ^ 61 := Nat.pow_le_pow_right aa aa;have h2 : 0 < 2 ^ (n + 1) := Nat.pow_pos aa;have e : (2 * 2 ^ n : Int) = ((2 ^ (n + 1) : Nat) : Int) := by rw [Int.natCast_pow, Int.pow_succ, Int.mul_comm]; rfl
 rw [e, Zdx n h, IntKind.wrap_u64, IntKind.wrap_u64];have h3 : (2 : Nat) ^ 61 = 2305843009213693952 := by decide +kernel
 rw [h3] at h1;clear e;generalize 2 ^ (n + 1) = q at *;omega
theorem Znh (n k : Nat) (h : n ≤ 60) : (Zgc n).getLsbD k = decide (k ≤ n) := by
 rw [BitVec.getLsbD, Zdx n h, Nat.testBit_two_pow_sub_one];simp; omega
theorem Za9 (g : Nat) (l : List Zm) (x : BitVec 64) (w : World) (hn : l.length ≤ 60) (ht : Tb w g l) :
  Calls Tryz.prog 223 #[.pointer (some ⟨g, 0, none⟩), w64 x] w fun e w' => e = .returned (w64 (Qp l x)) ∧ w = w' := by
 obtain ⟨h0, h1, h2, _⟩ := ht;have km := Zrp l.length hn;obtain ⟨x0, hx0⟩ : ∃ x0, x0 = x &&& Zgc l.length := ⟨_, rfl⟩;have ka := Zl1 x (Zgc l.length);rw [← hx0] at ka
 have HI : Hid (Nn l x x0) := by
  rw [hx0];refine Zjx l x _ fun k hk => ?_;rw [BitVec.getLsbD_and, Znh _ _ hn]
 clear hx0;have HN := hid hn;go_enter Tryz.func223, Tryz.ntmps223
 go_wp2
 clear km ka hn
 go_loop [1, 5] (fun v u => ∃ y : BitVec 64, v = w64 y ∧ Hid (Nn l x y)) (fun v _ => 18446744073709551616 - (intOf v).toNat)
 case atStart => exact ⟨_, rfl, HI⟩
 case round =>
  obtain ⟨y, rfl, HY⟩ := hrel;have HNX : Hid (Mw l y = y ||| ((y &&& Mh l) <<< 1)) := rfl;obtain ⟨z, hz⟩ : ∃ z, z = y &&& Mh l := ⟨_, rfl⟩;obtain ⟨t, ht⟩ : ∃ t, t = z <<< 1 := ⟨_, rfl⟩;have ka := Zl1 y (Mh l);have ks := Zoe z;have ko := Zn7 y t;have HC := hid (Zls l x y HY.out);have HG := hid (Zk6 l y);have HD := hid (Zlt l x y HY.out);rw [← hz] at ka HNX;rw [← ht] at ks HNX;rw [← HNX.out] at ko;generalize Mw l y = nx at *;clear HI hz ht HNX HY;by_cases he : nx = y
  ·subst he
   have HD2 := hid (HD.out rfl);clear HG HD
   go_wp2
   go_ret;exact ⟨by rw [← HD2.out]; rfl, rfl⟩
  ·have hlt := HG.out he
   have hne : ((nx.toNat : Int) == (y.toNat : Int)) = false := af
   have hub := nx.isLt;clear HG HD he
   go_wp2
   go_round
   case rel => exact ⟨nx, rfl, HC⟩
   case measure => simp [intOf]; omega
def BW (B : Nat) (w : World) : Type := {w' : World // Below B w w'}
instance BW.nonempty {B : Nat} {w : World} : Nonempty (BW B w) := ⟨⟨w, Below.refl B w⟩⟩
theorem BW.cellAt {B : Nat} {w : World} {g i : Nat} {v : Value} (hg : g < B) (h : w.cell? ⟨g, i, none⟩ = some v) (q : BW B w) : q.1.cell? ⟨g, i, none⟩ = some v := (World.cell?_of_block (q.2.block g hg)).trans h
theorem Zh {P : Program} {id : Nat} {Q : Exit → Act → World → Prop} {a : Act} {w : World} {l : List Oper} (B : Nat) (hm : P.follows .mixedOrders = true) (hB : Region.lexB .any l.toArray = true)
  (h : wpQuiet P l.toArray (fun w' => ∃ q : BW B w, w' = q.1) (fun a' => ∀ w', (∃ q : BW B w, w' = q.1) → Q .normal a' w') l a) : (Code.region id l.toArray true).wp P Q a w :=
 wp_region_quiet (C := fun w' => ∃ q : BW B w, w' = q.1) hm hB ⟨⟨w.drewN 1, ⟨rfl, rfl, rfl, Nat.le_refl _, fun _ _ => rfl⟩⟩, rfl⟩ bw
theorem Zoi {P : Program} {f : Nat} {args : Array Value} {v : Value} {B : Nat} {w : World} (hB : B ≤ w.heap.size) (h : ∀ W, Calls P f args W fun e w' => e = .returned v ∧ Below W.heap.size W w') (q : BW B w) :
  Calls P f args q.1 fun e w'' => e = .returned v ∧ ∃ q' : BW B w, w'' = q'.1 :=
 (h q.1).mono fun _ w'' ⟨he, hb⟩ => ⟨he, ⟨⟨w'', q.2.trans (hb.mono (Nat.le_trans hB q.2.size))⟩, rfl⟩⟩
def Mz : Op → Bool
 | .load .. => true
 | o => Qs o
section
variable {P : Program} {w w' : World} {n : Next}
theorem Zf0 {ρ : Operand → Value} {o : Oper} (ho : Mz o.op = true) (h : (execOp ρ o).run P w = .ok n w') : ∃ u, n = .value u := by
 obtain ⟨dst, op, ty, pos, aft, grd⟩ := o;cases op
 case load => exact Vo h
 all_goals exact Zbk (o := ⟨dst, _, ty, pos, aft, grd⟩) (by simpa only [Mz] using ho) h
end
section
variable {P : Program} {ops : Array Oper} {Q : Exit → Act → World → Prop} {md : Region.Mode} {S : World → Prop} {late : List Nat}
def KT (b : Bool) (S : World → Prop) (w w' : World) (p : Prop) : Prop := (b = false → S w → S w') ∧ p
theorem KT.keep {b : Bool} {w w' : World} {p : Prop} (h : S w') (hp : p) : KT b S w w' p := ⟨fun _ _ => h, hp⟩
theorem KT.past {b : Bool} {w w' : World} {p : Prop} (h : b = true) (hp : p) : KT b S w w' p := ⟨fun h2 => (by rw [h] at h2; cases h2), hp⟩
theorem KT.same {b : Bool} {w : World} {p : Prop} (hp : p) : KT b S w w p := ⟨fun _ h => h, hp⟩
def Zev (P : Program) (md : Region.Mode) (ops : Array Oper) (Q : Exit → Act → World → Prop) (S : World → Prop) (late : List Nat) : Nat → Array Bool → Act → World → Prop
 | 0, listed, a, w => Region.ready md ops listed = [] ∧ Q .normal a w
 | n + 1, listed, a, w => (Region.ready md ops listed = [] → Q .normal a w) ∧
  ∀ i ∈ Region.ready md ops listed, wpOp P ops Q i (fun a' w' => KT (late.contains i) S w w' (Zev P md ops Q S late n (listed.setIfInBounds i true) a' w')) a w
theorem Ze8 : ∀ (n : Nat) (listed : Array Bool) (a : Act) (w : World), Zev P md ops Q S late n listed a w → wpAny P md ops Q n listed a w
 | 0, _, _, _, h => h
 | n + 1, _, _, _, h => ⟨h.1, fun i hi => wpOp_mono (fun a' w' h' => Ze8 n _ a' w' h'.2) (h.2 i hi)⟩
theorem Zco {C : World → Prop} {i : Nat} {oi : Oper} {v : Value} (hi : ops[i]? = some oi) (hsel : ∀ (j : Nat) (o : Oper) cs b, ops[j]? = some o → o.op ≠ .select cs b)
  (hQ : ∀ c a w, Q (.panic c) (a.put oi.dst v) w → Q (.panic c) a w)
  (hC : (∀ w, C w) ∨ (C = S ∧ ∀ j, late.contains j = true → ∀ oj, ops[j]? = some oj → ∃ e ∈ oj.after, Region.binds md e = true ∧ e.on = i)) :
  ∀ (n : Nat) (listed : Array Bool) (a : Act) (w : World),
   (∀ j oj, ops[j]? = some oj → j ≠ i → listed.getD j true = false → (∀ e ∈ oj.after, Region.binds md e = true → e.on ≠ i) → oi.apart ops oj = true) →
   i ∈ Region.ready md ops listed → YieldsIf P ops C oi v a → C w →
   Zev P md ops Q S late n (listed.setIfInBounds i true) (a.put oi.dst v) w → Zev P md ops Q S late (n + 1) listed a w := by
 intro n
 induction n with
 | zero =>
  intro listed a w _ hr hy hw H;refine ⟨fun h => (by rw [h] at hr; cases hr), fun j hj => ?_⟩;by_cases hji : j = i
  ·subst hji; exact hy.wpOp hi hw (KT.same H)
  ·have := ready_mono hj hji
   rw [H.1] at this;cases this
 | succ n ih =>
  intro listed a w hfree hr hy hw H;refine ⟨fun h => (by rw [h] at hr; cases hr), fun j hj => ?_⟩;by_cases hji : j = i
  ·subst hji; exact hy.wpOp hi hw (KT.same H)
  ·have hun : listed.getD i true = false := (mem_ready.1 hr).1
   have hunF : listed.getD i false = false := by
    rcases Nat.lt_or_ge i listed.size with h' | h'
    ·simp [h'] at hun ⊢; exact hun
    ·simp [Array.getElem?_eq_none h']
   obtain ⟨hjun, oj, hoj, hall⟩ := mem_ready.1 hj
   have hnot : ∀ e ∈ oj.after, Region.binds md e = true → e.on ≠ i := fun e he hb heq => by
    have h1 := hall e he hb;rw [heq, hunF] at h1;cases h1
   have hstep : ∀ w', (late.contains j = false → S w → S w') → C w' := fun w' h => by
    rcases hC with hC | ⟨rfl, hC⟩
    ·exact hC w'
    ·refine h ?_ hw
     cases hl : late.contains j with
     | false => rfl
     | true =>
      obtain ⟨e, he, hb, heq⟩ := hC j hl oj hoj;exact absurd heq (hnot e he hb)
   have h2 := wpOp_putIf hoj (hfree j oj hoj hji hjun hnot) (fun cs b => hsel i oi cs b hi) (fun cs b => hsel j oj cs b hoj) hQ hy (H.2 j (ready_mono hj hji))
   have hfree' : ∀ k ok, ops[k]? = some ok → k ≠ i → (listed.setIfInBounds j true).getD k true = false → (∀ e ∈ ok.after, Region.binds md e = true → e.on ≠ i) → oi.apart ops ok = true := fun k ok hk hki hku hno => by
    refine hfree k ok hk hki ?_ hno;by_cases hjk : j = k
    ·subst hjk; exact hjun
    ·rw [getD_set_ne true hjk] at hku; exact hku
   refine wpOp_mono (fun a' w' h3 => ⟨h3.2.1, ih (listed.setIfInBounds j true) a' w' hfree' (ready_mono hr (Ne.symm hji)) h3.1 (hstep w' h3.2.1) ?_⟩) h2;rw [Array.setIfInBounds_comm _ _ hji];exact h3.2.2
def Zka (md : Region.Mode) (ops : Array Oper) (late : List Nat) (i : Nat) : Bool :=
 late.all fun j => match ops[j]? with
  | some oj => oj.after.any fun e => Region.binds md e && e.on == i
  | none => true
theorem Zjm {i : Nat} (h : Zka md ops late i = true) (j : Nat) (hj : late.contains j = true) (oj : Oper) (ho : ops[j]? = some oj) : ∃ e ∈ oj.after, Region.binds md e = true ∧ e.on = i := by
 unfold Zka at h;rw [List.all_eq_true] at h;have h1 := h j lk;rw [ho] at h1;simp only [Array.any_eq_true] at h1;obtain ⟨k, hk, h2⟩ := h1;simp only [Bool.and_eq_true, beq_iff_eq] at h2;exact ⟨oj.after[k], Array.getElem_mem hk, h2⟩
def Zbr (md : Region.Mode) (ops : Array Oper) (late : List Nat) : Ord → Array Bool → Bool
 | .nil, listed => (Region.ready md ops listed).isEmpty
 | .val i r, listed => (Region.ready md ops listed).contains i && Region.free md ops listed i && (match ops[i]? with | some o => Qs o.op || (Mz o.op && Zka md ops late i) | none => false) && Zbr md ops late r (listed.setIfInBounds i true)
 | .op i r, listed => Region.ready md ops listed == [i] && Zbr md ops late r (listed.setIfInBounds i true)
 | .two i r j s, listed => Region.ready md ops listed == [i, j] && Zbr md ops late r (listed.setIfInBounds i true) && Zbr md ops late s (listed.setIfInBounds j true)
 | .three i r j s k t, listed => Region.ready md ops listed == [i, j, k] && Zbr md ops late r (listed.setIfInBounds i true) && Zbr md ops late s (listed.setIfInBounds j true) && Zbr md ops late t (listed.setIfInBounds k true)
def Xb (P : Program) (ops : Array Oper) (Q : Exit → Act → World → Prop) (S : World → Prop) (late : List Nat) : Ord → Act → World → Prop
 | .nil, a, w => Q .normal a w
 | .val i r, a, w => ∃ o, ops[i]? = some o ∧ ((Qs o.op = true ∧ wpQuiet P ops (fun _ => True) (fun a' => Xb P ops Q S late r a' w) [o] a) ∨ (Qs o.op = false ∧ S w ∧ wpQuiet P ops S (fun a' => Xb P ops Q S late r a' w) [o] a))
 | .op i r, a, w => ∃ o, ops[i]? = some o ∧ wpList P ops (Exit.then (fun a' w' => KT (late.contains i) S w w' (Xb P ops Q S late r a' w')) Q) [o] a w
 | .two i r j s, a, w => (∃ o, ops[i]? = some o ∧ wpList P ops (Exit.then (fun a' w' => KT (late.contains i) S w w' (Xb P ops Q S late r a' w')) Q) [o] a w) ∧
   (∃ o, ops[j]? = some o ∧ wpList P ops (Exit.then (fun a' w' => KT (late.contains j) S w w' (Xb P ops Q S late s a' w')) Q) [o] a w)
 | .three i r j s k t, a, w => (∃ o, ops[i]? = some o ∧ wpList P ops (Exit.then (fun a' w' => KT (late.contains i) S w w' (Xb P ops Q S late r a' w')) Q) [o] a w) ∧
   (∃ o, ops[j]? = some o ∧ wpList P ops (Exit.then (fun a' w' => KT (late.contains j) S w w' (Xb P ops Q S late s a' w')) Q) [o] a w) ∧
   (∃ o, ops[k]? = some o ∧ wpList P ops (Exit.then (fun a' w' => KT (late.contains k) S w w' (Xb P ops Q S late t a' w')) Q) [o] a w)
theorem Kj {i : Nat} {o : Oper} {next K : Act → World → Prop} {a : Act} {w : World} (ho : ops[i]? = some o) (h : wpList P ops (Exit.then next Q) [o] a w) (hn : ∀ a w, next a w → K a w) : wpOp P ops Q i K a w := Ju ho h hn
theorem N105{P:Prop}(h:P:=by
 exact Kj ho2 h2 (fun a' w' hk => ⟨hk.1, by have := Vx hsel hQ s _ a' w' hB2 hE2 hk.2; rwa [← hd] at this⟩)):P:=h
theorem Vx (hsel : Region.noSelect ops = true) (hQ : ∀ c a w, ¬ Q (.panic c) a w) : ∀ (π : Ord) (listed : Array Bool) (a : Act) (w : World), Zbr md ops late π listed = true → π.even = true →
  Xb P ops Q S late π a w → Zev P md ops Q S late π.depth listed a w
 | .nil, listed, a, w, hB, _, h => ⟨by simpa [Zbr] using hB, h⟩
 | .val i r, listed, a, w, hB, hE, ⟨o, ho, h⟩ => by
  simp only [Zbr, Bool.and_eq_true, ho] at hB;obtain ⟨⟨⟨hr, hf⟩, hv⟩, hB'⟩ := hB
  have key : ∀ C : World → Prop, Mz o.op = true → wpQuiet P ops C (fun a' => Xb P ops Q S late r a' w) [o] a → ∃ v, YieldsIf P ops C o v a ∧ Xb P ops Q S late r (a.put o.dst v) w := fun C hv3 h => by
   simp only [wpQuiet] at h;by_cases hw : Region.wanted o (yielded ops a.tmps) = true
   ·rw [if_pos hw] at h
    obtain ⟨v, h1, h2⟩ := h;refine ⟨v, .inl ⟨hw, fun w' hw' => ?_⟩, h2⟩;have h3 := h1 w' hw';unfold Oper.quietAt at h3;cases hrun : (execOp a.eval o).run P w' with
    | ok n w1 =>
     obtain ⟨u, rfl⟩ := Zf0 hv3 hrun;exact N98
    | halt x w1 => rw [hrun] at h3; simp only [Oper.quietUpon] at h3
   ·exact N102
  have hfree := fun j oj hj hne hun hno => Region.free_spec ho hf j oj hj hne hun hno;rcases h with ⟨h2, h⟩ | ⟨h2, hS, h⟩
  ·have h3 : Mz o.op = true := by
    obtain ⟨dst, op, ty, pos, aft, grd⟩ := o;cases op <;> first | rfl | exact h2
   obtain ⟨v, hy, hn⟩ := key _ h3 h
   exact Zco (C := fun _ => True) ho (fun j o cs b => Region.noSelect_spec hsel j o cs b) (fun c a w hq => absurd hq (hQ c _ _)) (.inl fun _ => trivial) r.depth listed a w
    hfree (by simpa using hr) hy trivial (Vx hsel hQ r _ _ _ hB' hE hn)
  ·rw [h2, Bool.false_or, Bool.and_eq_true] at hv
   obtain ⟨v, hy, hn⟩ := key _ hv.1 h
   exact Zco (C := S) ho (fun j o cs b => Region.noSelect_spec hsel j o cs b) (fun c a w hq => absurd hq (hQ c _ _)) (.inr ⟨rfl, fun j hj oj hoj => Zjm hv.2 j hj oj hoj⟩) r.depth listed a w
    hfree (by simpa using hr) hy hS (Vx hsel hQ r _ _ _ hB' hE hn)
 | .op i r, listed, a, w, hB, hE, ⟨o, ho, h⟩ => by
  simp only [Zbr, Bool.and_eq_true, beq_iff_eq] at hB;obtain ⟨hr, hB'⟩ := hB;refine ⟨fun h0 => dg, fun j hj => ?_⟩;rw [hr] at hj;obtain rfl : j = i := lk
  exact Kj ho h (fun a' w' hk => ⟨hk.1, Vx hsel hQ r _ a' w' hB' hE hk.2⟩)
 | .two i r k s, listed, a, w, hB, hE, ⟨⟨o, ho, h⟩, ⟨o2, ho2, h2⟩⟩ => by
  simp only [Zbr, Bool.and_eq_true, beq_iff_eq] at hB;simp only [Ord.even, Bool.and_eq_true, beq_iff_eq] at hE;obtain ⟨⟨hr, hB'⟩, hB2⟩ := hB;obtain ⟨⟨hE1, hE2⟩, hd⟩ := hE;refine ⟨fun h0 => dg, fun j hj => ?_⟩;rw [hr] at hj;rcases (by simpa using hj : j = i ∨ j = k) with rfl | rfl
  ·exact Kj ho h (fun a' w' hk => ⟨hk.1, Vx hsel hQ r _ a' w' hB' hE1 hk.2⟩)
  ·exact N105
 | .three i r k s l t, listed, a, w, hB, hE, ⟨⟨o, ho, h⟩, ⟨o2, ho2, h2⟩, ⟨o3, ho3, h3⟩⟩ => by
  simp only [Zbr, Bool.and_eq_true, beq_iff_eq] at hB;simp only [Ord.even, Bool.and_eq_true, beq_iff_eq] at hE;obtain ⟨⟨⟨hr, hB'⟩, hB2⟩, hB3⟩ := hB;obtain ⟨⟨⟨⟨hE1, hE2⟩, hE3⟩, hd⟩, hd2⟩ := hE;refine ⟨fun h0 => dg, fun j hj => ?_⟩;rw [hr] at hj;rcases (by simpa using hj : j = i ∨ j = k ∨ j = l) with rfl | rfl | rfl
  ·exact Kj ho h (fun a' w' hk => ⟨hk.1, Vx hsel hQ r _ a' w' hB' hE1 hk.2⟩)
  ·exact N105
  ·exact Kj ho3 h3 (fun a' w' hk => ⟨hk.1, by have := Vx hsel hQ t _ a' w' hB3 hE3 hk.2; rwa [← hd2] at this⟩)
theorem N45{P:Prop}(h:P:=by
 simp only [Bool.and_eq_true, beq_iff_eq] at hB;obtain ⟨h1, h2, hE, h3⟩ := hB;refine Code.wp_mono (Q := Qu Q) (fun e a w q => gw) (wp_region_any hm ?_);have := Ze8 _ _ _ _ (Vx (md := .any) h1 (fun c a w hq => hq) π (Array.replicate l.length false) a w.drew h3 hE h);rw [h2] at this;simpa using this):P:=h
theorem Zg {id : Nat} {a : Act} {w : World} {l : List Oper} (B : Nat) (late : List Nat) (π : Ord) (hm : P.follows .mixedOrders = true)
  (hB : (Region.noSelect l.toArray && (π.depth == l.length && (π.even && Zbr .any l.toArray late π (Array.replicate l.length false)))) = true)
  (h : Xb P l.toArray (Qu Q) (fun w' => ∃ q : BW B w, w' = q.1) late π a (w.drewN 1)) : (Code.region id l.toArray true).wp P Q a w := by
 exact N45
theorem Zi {a : Act} {w : World} (h : Q .normal a w) : Xb P ops (Qu Q) S late .nil a w := h
theorem Zd {l : List Oper} {i : Nat} {r : Ord} {a : Act} {w : World} {o : Oper} (ho : nth l i = some o) (hv : Qs o.op = true)
  (h : wpQuiet P l.toArray (fun _ => True) (fun a' => Xb P l.toArray Q S late r a' w) [o] a) : Xb P l.toArray Q S late (.val i r) a w := ⟨o, bp, .inl ⟨hv, h⟩⟩
theorem Zw {l : List Oper} {i : Nat} {r : Ord} {a : Act} {w : World} {o : Oper} (ho : nth l i = some o) (hv : Qs o.op = false) (hS : S w)
  (h : wpQuiet P l.toArray S (fun a' => Xb P l.toArray Q S late r a' w) [o] a) : Xb P l.toArray Q S late (.val i r) a w := ⟨o, bp, .inr ⟨hv, hS, h⟩⟩
theorem Ze {l : List Oper} {i : Nat} {r : Ord} {a : Act} {w : World} {o : Oper} (ho : nth l i = some o)
  (h : wpList P l.toArray (Exit.then (fun a' w' => KT (late.contains i) S w w' (Xb P l.toArray Q S late r a' w')) Q) [o] a w) : Xb P l.toArray Q S late (.op i r) a w := ⟨o, bp, h⟩
theorem Vg {l : List Oper} {i j : Nat} {r s : Ord} {a : Act} {w : World} {o o2 : Oper} (ho : nth l i = some o) (ho2 : nth l j = some o2)
  (h : wpList P l.toArray (Exit.then (fun a' w' => KT (late.contains i) S w w' (Xb P l.toArray Q S late r a' w')) Q) [o] a w) (h2 : wpList P l.toArray (Exit.then (fun a' w' => KT (late.contains j) S w w' (Xb P l.toArray Q S late s a' w')) Q) [o2] a w) : Xb P l.toArray Q S late (.two i r j s) a w :=
 ⟨⟨o, bp, h⟩, ⟨o2, kq, h2⟩⟩
theorem Zhd {l : List Oper} {i j k : Nat} {r s t : Ord} {a : Act} {w : World} {o o2 o3 : Oper} (ho : nth l i = some o) (ho2 : nth l j = some o2) (ho3 : nth l k = some o3)
  (h : wpList P l.toArray (Exit.then (fun a' w' => KT (late.contains i) S w w' (Xb P l.toArray Q S late r a' w')) Q) [o] a w) (h2 : wpList P l.toArray (Exit.then (fun a' w' => KT (late.contains j) S w w' (Xb P l.toArray Q S late s a' w')) Q) [o2] a w)
  (h3 : wpList P l.toArray (Exit.then (fun a' w' => KT (late.contains k) S w w' (Xb P l.toArray Q S late t a' w')) Q) [o3] a w) : Xb P l.toArray Q S late (.three i r j s k t) a w :=
 ⟨⟨o, bp, h⟩, ⟨o2, kq, h2⟩, ⟨o3, by rw [← ho3, Us]; simp, h3⟩⟩
theorem Xp {B : Nat} {w w' : World} (h : Below B w w') : ∃ q : BW B w, w' = q.1 := ⟨⟨w', h⟩, rfl⟩
end
theorem Gi {P : Program} {f : Nat} {args : Array Value} {v : Value} {B : Nat} {w : World} {q : BW B w} (h : Calls P f args q.1 fun e w' => e = .returned v ∧ q.1 = w') :
  Calls P f args q.1 fun e w'' => e = .returned v ∧ ∃ q' : BW B w, w'' = q'.1 :=
 h.mono fun _ _ ⟨he, hb⟩ => ⟨he, q, hb.symm⟩
def KW (F : Nat → Prop) (w : World) : Type := {w' : World // Za F w w'}
instance KW.nonempty {F : Nat → Prop} {w : World} : Nonempty (KW F w) := ⟨⟨w, Za.refl F w⟩⟩
theorem KW.cellAt {F : Nat → Prop} {w : World} {g i : Nat} {v : Value} (hg : g < w.heap.size) (hf : ¬ F g) (h : w.cell? ⟨g, i, none⟩ = some v) (q : KW F w) : q.1.cell? ⟨g, i, none⟩ = some v := (q.2.cell hg hf).trans h
theorem Ms {F : Nat → Prop} {w w' : World} (h : Za F w w') : ∃ q : KW F w, w' = q.1 := ⟨⟨w', h⟩, rfl⟩
theorem Jk {P : Program} {Q : Exit → Act → World → Prop} {id : Nat} {a : Act} {w : World} {l : List Oper} (F : Nat → Prop) (late : List Nat) (π : Ord) (hm : P.follows .mixedOrders = true)
  (hB : (Region.noSelect l.toArray && (π.depth == l.length && (π.even && Zbr .any l.toArray late π (Array.replicate l.length false)))) = true)
  (h : Xb P l.toArray (Qu Q) (fun w' => ∃ q : KW F w, w' = q.1) late π a (w.drewN 1)) : (Code.region id l.toArray true).wp P Q a w := by
 exact N45
theorem dw (w : World) : ∃ W, w.drewN 1 = W ∧ Hid (Below w.heap.size w W) := ⟨_, rfl, Zq w 1⟩
theorem tA {W : World} {g : Nat} {t : TypeId} {cs : Array Value} (h : Blk W g t cs) (i : Nat) (v : Value) (e : cs[i]? = some v) : ∀ q : BW W.heap.size W, q.1.cell? ⟨g, i, none⟩ = some v := fun q => q.cellAt h.lt (cA h i v e)
end Go.Proofs.YtpkkfdmhbbipoaaGreat
