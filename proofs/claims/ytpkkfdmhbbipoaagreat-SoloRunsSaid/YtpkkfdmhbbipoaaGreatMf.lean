/- Plain: a pattern's text, read. Walks: glob.single, item. Walks: glob.Parse. Walks: the reference's one and stop (of a set's text). Walks: the reference's Read (a set's text). -/
import Derived.Test.YtpkkfdmhbbipoaaGreatMe
import Derived.Test.YtpkkfdmhbbipoaaGreatMb
import Derived.Deep.CutRange
import Derived.OwnWalk
import Derived.Test.YtpkkfdmhbbipoaaGreatMc
namespace Go.Proofs.YtpkkfdmhbbipoaaGreat
set_option maxRecDepth 20000
set_option maxHeartbeats 8000000
open Go.RowKit
theorem Zqn (s : ByteArray) (n : Nat) (x : Zp) (i e : Nat) (hi : i ≤ s.size) : (Ux s n x i e).2.1 ≤ s.size := by
 induction n generalizing x i e with
 | zero => exact hi
 | succ n ih =>
  rw [Ux];split
  ·exact ih _ _ _ (Ky s i hi)
  ·exact hi
theorem Zqm (s : ByteArray) (n : Nat) (x : Zp) (i e : Nat) (hi : i ≤ s.size) (hf : e = 0 → s.size + 1 ≤ i + n) (h : (Ux s n x i e).2.2 = 0) : isM s (Ux s n x i e).2.1 93 = true := by
 induction n generalizing x i e with
 | zero => exact absurd (hf h) aa
 | succ n ih =>
  rw [Ux] at h ⊢;by_cases hc : e = 0 ∧ isM s i 93 = false
  ·rw [if_pos hc] at h ⊢
   refine ih _ _ _ (Ky s i hi) (fun h0 => ?_) h;have := Zgl s i h0;have := hf hc.1;omega
  ·rw [if_neg hc] at h ⊢
   simp only at h ⊢;subst h;simpa using hc
theorem Zmo (s : ByteArray) (i : Nat) : Ws s i ≤ s.size := by unfold Ws; split <;> omega
theorem Zin (s : ByteArray) : (Xk s).2.1 ≤ s.size ∧ ((Xk s).2.2 = 0 → 0 < (Xk s).2.1) := by
 have key : (Xu s).2.1 ≤ s.size ∧ ((Xu s).2.2 = 0 → 0 < (Xu s).2.1) := by
  unfold Xu;split
  ·rename_i h91
   have h1 : 1 ≤ s.size := Nu h91
   have hi0 : (if isM s 1 94 = true then 2 else 1) ≤ s.size := by
    split
    ·rename_i h; have := Nu h; omega
    ·exact h1
   generalize (if isM s 1 94 = true then 2 else 1) = i0 at *;have hp := Ky s i0 hi0;have hg := Zqn s (s.size + 1) (Zu s i0).1 _ (Zu s i0).2.2 hp;have ho := Zqm s (s.size + 1) (Zu s i0).1 _ (Zu s i0).2.2 hp (fun _ => aa);simp only;generalize Ux s (s.size + 1) (Zu s i0).1 (Zu s i0).2.1 (Zu s i0).2.2 = q at *;by_cases hq : q.2.2 = 0
   ·rw [if_pos hq]
    have := Nu (ho hq);exact ⟨ku, fun _ => ku⟩
   ·rw [if_neg hq]
    exact ⟨hg, fun h => absurd h hq⟩
  ·exact ⟨Zmo s 0, fun h => absurd h (Wu s 0)⟩
 unfold Xk;split
 ·rename_i h; exact ⟨key.1, fun _ => key.2 h⟩
 ·rename_i h; exact ⟨key.1, fun h' => absurd h' h⟩
def Yf (s : ByteArray) (i : Nat) : Nat := (s.data.toList.getD i 0).toNat
def Yp (s : ByteArray) (i : Nat) : ByteArray := s.extract i s.size
theorem Xd (s : ByteArray) (i : Nat) : (Yp s i).size = s.size - i := by unfold Yp; rw [ByteArray.size_extract]; omega
theorem Ga (s : ByteArray) (i : Nat) : Yf s i < 256 := UInt8.toNat_lt _
theorem Xo (s : ByteArray) (i : Nat) (h : i < s.size) : Yf s i = (s[i]).toNat := by
 unfold Yf;rw [List.getD, List.getElem?_eq_getElem bw]; rfl
def Wx (q : ByteArray) : Zm × Nat × Nat :=
 if Yf q 0 = 42 then (⟨true, Zp.zero⟩, 1, 0)
 else if Yf q 0 = 63 then (⟨false, Zt 0 256⟩, 1, 0)
 else if Yf q 0 = 91 then (⟨false, (Xk q).1⟩, (Xk q).2.1, (Xk q).2.2)
 else if Yf q 0 = 93 then (⟨false, Zp.zero⟩, 0, 2)
 else if Yf q 0 = 37 then (if q.size = 1 then (⟨false, Zp.zero⟩, 1, 3) else (⟨false, Zt (Yf q 1) 1⟩, 2, 0))
 else (⟨false, Zt (Yf q 0) 1⟩, 1, 0)
theorem Zpl (q : ByteArray) (h : 0 < q.size) : (Wx q).2.1 ≤ q.size ∧ ((Wx q).2.2 = 0 → 0 < (Wx q).2.1) := by
 unfold Wx;have hr := Zin q
 repeat' split
 ·exact ⟨h, fun _ => Nat.one_pos⟩
 ·exact ⟨h, fun _ => Nat.one_pos⟩
 ·exact hr
 ·exact ⟨Nat.zero_le _, fun h => kx⟩
 ·exact ⟨h, fun h => kx⟩
 ·exact ⟨ku, fun _ => Nat.succ_pos _⟩
 ·exact ⟨h, fun _ => Nat.one_pos⟩
theorem Zld (q : ByteArray) : (Wx q).1.run = true → (Wx q).1.set = Zp.zero := by
 unfold Wx;split
 ·intro _; rfl
 ·split
  ·intro h; exact absurd h ah
  ·split
   ·intro h; exact absurd h ah
   ·split
    ·intro _; rfl
    ·split
     ·split
      ·intro _; rfl
      ·intro h; exact absurd h ah
     ·intro h; exact absurd h ah
def Wk (p : ByteArray) : Nat → List Zm → Nat → List Zm × Nat × Nat
 | 0, out, _ => (out, 0, 0)
 | f + 1, out, a =>
  if a < p.size then
   if out.length = 60 then ([], a, 4)
   else if (Wx (Yp p a)).2.2 = 0 then Wk p f (out ++ [(Wx (Yp p a)).1]) (a + (Wx (Yp p a)).2.1)
   else ([], a + (Wx (Yp p a)).2.1, (Wx (Yp p a)).2.2)
  else (out, 0, 0)
def Xg (p : ByteArray) : List Zm × Nat × Nat := Wk p 61 [] 0
theorem Zk1 (p : ByteArray) (f : Nat) (out : List Zm) (a : Nat) (h : ¬ a < p.size) : Wk p f out a = (out, 0, 0) := by
 cases f with
 | zero => rfl
 | succ f => rw [Wk, if_neg h]
theorem N77{P:Prop}(h:P:=by
 intro x hx;rcases List.mem_append.1 hx with hx | hx
 ·exact hg x hx
 ·rw [List.mem_singleton] at hx
  subst hx; exact Zld _):P:=h
theorem Zdv (p : ByteArray) (f : Nat) (out : List Zm) (a : Nat) (hl : out.length + f ≤ 61) (hf : 1 ≤ f) (hg : ∀ x ∈ out, x.run = true → x.set = Zp.zero) :
  (Wk p f out a).1.length ≤ 60 ∧ ∀ x ∈ (Wk p f out a).1, x.run = true → x.set = Zp.zero := by
 induction f generalizing out a with
 | zero => omega
 | succ f ih =>
  rw [Wk];split
  ·split
   ·exact ⟨ah, ah⟩
   ·split
    ·by_cases h1 : 1 ≤ f
     ·refine ih _ _ af h1 ?_
      exact N77
     ·obtain rfl : f = 0 := by omega
      rename_i h60 _
      refine ⟨by simp only [Wk, List.length_append, List.length_cons, List.length_nil]; omega, ?_⟩;exact N77
    ·exact ⟨ah, ah⟩
  ·exact ⟨ku, hg⟩
open PopT
theorem Zj7 {W : World} {g : Nat} {t : TypeId} {a0 a1 a2 a3 a4 : Value} (h : Blk W g t #[a0, a1, a2, a3, a4]) : W.cell? ⟨g, 0, none⟩ = some a0 ∧ W.cell? ⟨g, 1, none⟩ = some a1 ∧ W.cell? ⟨g, 2, none⟩ = some a2 ∧ W.cell? ⟨g, 3, none⟩ = some a3 ∧ W.cell? ⟨g, 4, none⟩ = some a4 ∧
  W.frozen? ⟨g, 0, none⟩ = false ∧ W.frozen? ⟨g, 1, none⟩ = false ∧ W.frozen? ⟨g, 2, none⟩ = false ∧ W.frozen? ⟨g, 3, none⟩ = false ∧ W.frozen? ⟨g, 4, none⟩ = false :=
 ⟨h.cell 0, h.cell 1, h.cell 2, h.cell 3, h.cell 4, h.frozen 0, h.frozen 1, h.frozen 2, h.frozen 3, h.frozen 4⟩
theorem Ze7 {W : World} {g : Nat} {t : TypeId} {a0 a1 a2 a3 a4 b0 b1 b2 b3 b4 : Value} (h : Blk W g t #[a0, a1, a2, a3, a4]) : Blk (((((W.setCell ⟨g, 0, none⟩ b0).setCell ⟨g, 1, none⟩ b1).setCell ⟨g, 2, none⟩ b2).setCell ⟨g, 3, none⟩ b3).setCell ⟨g, 4, none⟩ b4) g t #[b0, b1, b2, b3, b4] :=
 ((((h.set 0 b0).set 1 b1).set 2 b2).set 3 b3).set 4 b4
theorem Zb4 {B : Nat} {w W : World} {g : Nat} (h : Below B w W) (hg : B ≤ g) (b0 b1 b2 b3 b4 : Value) : Below B w (((((W.setCell ⟨g, 0, none⟩ b0).setCell ⟨g, 1, none⟩ b1).setCell ⟨g, 2, none⟩ b2).setCell ⟨g, 3, none⟩ b3).setCell ⟨g, 4, none⟩ b4) :=
 ((((h.setCell hg _).setCell hg _).setCell hg _).setCell hg _).setCell hg _
theorem Zfa (b : Nat) (hb : b < 256) (w : World) :
  Calls Tryz.prog 230 #[.int .u8 (b : Int)] w fun e w' => e = .returned (Zt b 1).val ∧ Below w.heap.size w w' := by
 have HC := hid (fun W => Zgh b b hb hb W);rw [Nat.add_sub_cancel_left] at HC;obtain ⟨t, ht⟩ := nE (Zt b 1);rw [ht] at HC ⊢;clear ht;obtain ⟨r0, r1, r2, r3⟩ := t;unfold Zp.val at HC ⊢;go_enter Tryz.func230, Tryz.ntmps230;go_wp2_with fail;refine (HC.out _).mono ?_;rintro e w1 ⟨rfl, hb1⟩;have HX1 : Hid (Blk w1 w.heap.size 249 zf) := (Blk.new w _ _).below hb1 ah;have HB1 : Hid (Below w.heap.size w w1) := ((Below.refl w.heap.size w).alloc (Nat.le_refl _) _).trans (hb1.mono ah);clear hb1 HC;obtain ⟨c0, c1, c2, c3, g0, g1, g2, g3⟩ := Wi HX1.out;have HZ := hid (Xn (b0 := w64 r0) (b1 := w64 r1) (b2 := w64 r2) (b3 := w64 r3) HX1.out);have HR := hid (Xt (g := w.heap.size) HB1.out (Nat.le_refl _) (w64 r0) (w64 r1) (w64 r2) (w64 r3));go_wp2_with fail;obtain ⟨z0, z1, z2, z3, -, -, -, -⟩ := Wi HZ.out;exact bodyPost_ret (v := .agg #[w64 r0, w64 r1, w64 r2, w64 r3]) (by simp [results, Tryz.results230, go_sem, z0, z1, z2, z3]) rfl ⟨rfl, HR.out⟩
theorem Ziu (q : ByteArray) : Wx q = if Yf q 0 = 42 then (⟨true, Zp.zero⟩, 1, 0)
 else if Yf q 0 = 63 then (⟨false, Zt 0 256⟩, 1, 0)
 else if Yf q 0 = 91 then (⟨false, (Xk q).1⟩, (Xk q).2.1, (Xk q).2.2)
 else if Yf q 0 = 93 then (⟨false, Zp.zero⟩, 0, 2)
 else if Yf q 0 = 37 then (if q.size = 1 then (⟨false, Zp.zero⟩, 1, 3) else (⟨false, Zt (Yf q 1) 1⟩, 2, 0))
 else (⟨false, Zt (Yf q 0) 1⟩, 1, 0) := rfl
theorem N24{P:Prop}(h:P:=by
 rw [ht] at HC HE;clear ht HP;obtain ⟨r0, r1, r2, r3⟩ := t;unfold Zp.val at HC;go_enter Tryz.func219, Tryz.ntmps219;go_wp2_with fail;refine (HC.out _).mono ?_;rintro e w1 ⟨rfl, hb1⟩;have HX1 : Hid (Blk w1 w.heap.size 251 #[.bool false, .int .u64 0, .int .u64 0, .int .u64 0, .int .u64 0]) := HX0.below hb1 HX0.lt;have HB1 := bt HB0 hb1;clear hb1 HX0 HB0;obtain ⟨k0, k1, k2, k3, k4, g0, g1, g2, g3, g4⟩ := Zj7 HX1.out;have HZ := hid (Ze7 (b0 := .bool false) (b1 := w64 r0) (b2 := w64 r1) (b3 := w64 r2) (b4 := w64 r3) HX1.out);have HR := hid (Zb4 (g := w.heap.size) HB1.out (Nat.le_refl _) (.bool false) (w64 r0) (w64 r1) (w64 r2) (w64 r3));go_wp2_with fail;obtain ⟨z0, z1, z2, z3, z4, -, -, -, -, -⟩ := Zj7 HZ.out;exact bodyPost_ret (v := .tuple #[.agg #[.bool false, w64 r0, w64 r1, w64 r2, w64 r3], .int .i64 1, .int .i64 0]) ej rfl ⟨bh, HR.out⟩):P:=h
theorem Zpk (q : ByteArray) (hq : 0 < q.size) (hs : q.size ≤ 1000000) (w : World) :
  Calls Tryz.prog 219 #[q] w fun e w' => e = .returned (.tuple #[(Wx q).1.val, .int .i64 ((Wx q).2.1 : Nat), .int .i64 ((Wx q).2.2 : Nat)]) ∧ Below w.heap.size w w' := by
 have hc0 := (Xo q 0 hq).symm;have hc8 := Ga q 0;have HP := Ziu q;obtain ⟨c, hc⟩ := nE (Yf q 0);rw [hc] at hc0 hc8 HP;clear hc;have HP := hid HP;have HB0 : Hid (Below w.heap.size w (w.alloc (.cells #[.bool false, .int .u64 0, .int .u64 0, .int .u64 0, .int .u64 0] 251))) := (Below.refl w.heap.size w).alloc (Nat.le_refl _) _;have HX0 : Hid (Blk (w.alloc (.cells #[.bool false, .int .u64 0, .int .u64 0, .int .u64 0, .int .u64 0] 251)) w.heap.size 251 #[.bool false, .int .u64 0, .int .u64 0, .int .u64 0, .int .u64 0]) := Blk.new w _ _;by_cases h0 : c = 42
 ·have e0 : ((c : Int) == 42) = true := bT aa
  have HE : Hid (Wx q = (⟨true, Zp.zero⟩, 1, 0)) := by rw [Hid, HP.out, if_pos h0]
  clear HP;have HR : Hid (Below w.heap.size w (w.alloc (.cells #[.bool true, .int .u64 0, .int .u64 0, .int .u64 0, .int .u64 0] 251))) := (Below.refl w.heap.size w).alloc (Nat.le_refl _) _;go_enter Tryz.func219, Tryz.ntmps219;go_wp2_with fail;exact bodyPost_ret (v := .tuple #[.agg #[.bool true, .int .u64 0, .int .u64 0, .int .u64 0, .int .u64 0], .int .i64 1, .int .i64 0]) gt rfl ⟨bh, HR.out⟩
 ·have e0 : ((c : Int) == 42) = false := bF aa
  by_cases h1 : c = 63
  ·have e1 : ((c : Int) == 63) = true := bT aa
   have HE : Hid (Wx q = (⟨false, Zt 0 256⟩, 1, 0)) := by rw [Hid, HP.out, if_neg h0, if_pos h1]
   have HC := hid (fun W => Zgh 0 255 aa aa W);rw [show 255 + 1 - 0 = 256 from rfl] at HC;obtain ⟨t, ht⟩ := nE (Zt 0 256);exact N24
  ·have e1 : ((c : Int) == 63) = false := bF aa
   by_cases h2 : c = 91
   ·have e2 : ((c : Int) == 91) = true := bT aa
    have HE : Hid (Wx q = (⟨false, (Xk q).1⟩, (Xk q).2.1, (Xk q).2.2)) := by rw [Hid, HP.out, if_neg h0, if_neg h1, if_pos h2]
    have HC := hid (fun W => Zm0 q W hs);obtain ⟨⟨t, n, e⟩, ht⟩ : ∃ t, Xk q = t := ⟨_, rfl⟩;rw [ht] at HC HE;clear ht HP;obtain ⟨r0, r1, r2, r3⟩ := t;unfold Zp.val at HC;simp only at HC HE;go_enter Tryz.func219, Tryz.ntmps219;go_wp2_with fail;refine (HC.out _).mono ?_;rintro e w1 ⟨rfl, hb1⟩;have HX1 : Hid (Blk w1 w.heap.size 251 #[.bool false, .int .u64 0, .int .u64 0, .int .u64 0, .int .u64 0]) := HX0.below hb1 HX0.lt;have HB1 := bt HB0 hb1;clear hb1 HX0 HB0;have HX2 : Hid (Blk (w1.alloc (.cells #[w64 r0, w64 r1, w64 r2, w64 r3] 249)) w.heap.size 251 #[.bool false, .int .u64 0, .int .u64 0, .int .u64 0, .int .u64 0]) := HX1.alloc _;have HB2 : Hid (Below w.heap.size w (w1.alloc (.cells #[w64 r0, w64 r1, w64 r2, w64 r3] 249))) := HB1.alloc HB1.size _;have hlt1 := HX1.lt;have HY2 : Hid (Blk (w1.alloc (.cells #[w64 r0, w64 r1, w64 r2, w64 r3] 249)) w1.heap.size 249 #[w64 r0, w64 r1, w64 r2, w64 r3]) := Blk.new w1 _ _;go_upto_region 8 with fail;obtain ⟨w2, hw2⟩ := nE ((w1.alloc (.cells #[w64 r0, w64 r1, w64 r2, w64 r3] 249)));rw [hw2] at HX2 HB2 HY2 ⊢;clear hw2 HX1 HB1;obtain ⟨y0, y1, y2, y3, -, -, -, -⟩ := Wi HY2.out;obtain ⟨k0, k1, k2, k3, k4, g0, g1, g2, g3, g4⟩ := Zj7 HX2.out;have HZ := hid (Ze7 (b0 := .bool false) (b1 := w64 r0) (b2 := w64 r1) (b3 := w64 r2) (b4 := w64 r3) HX2.out);have HR := hid (Zb4 (g := w.heap.size) HB2.out (Nat.le_refl _) (.bool false) (w64 r0) (w64 r1) (w64 r2) (w64 r3));go_wp2_with fail;obtain ⟨z0, z1, z2, z3, z4, -, -, -, -, -⟩ := Zj7 HZ.out;exact bodyPost_ret (v := .tuple #[.agg #[.bool false, w64 r0, w64 r1, w64 r2, w64 r3], (n : Int), (e : Int)]) ej rfl ⟨bh, HR.out⟩
   ·have e2 : ((c : Int) == 91) = false := bF aa
    by_cases h3 : c = 93
    ·have e3 : ((c : Int) == 93) = true := bT aa
     have HE : Hid (Wx q = (⟨false, Zp.zero⟩, 0, 2)) := by rw [Hid, HP.out, if_neg h0, if_neg h1, if_neg h2, if_pos h3]
     clear HP;have HR : Hid (Below w.heap.size w (w.alloc (.cells #[.bool false, .int .u64 0, .int .u64 0, .int .u64 0, .int .u64 0] 251))) := (Below.refl w.heap.size w).alloc (Nat.le_refl _) _;go_enter Tryz.func219, Tryz.ntmps219;go_wp2_with fail;exact bodyPost_ret (v := .tuple #[.agg #[.bool false, .int .u64 0, .int .u64 0, .int .u64 0, .int .u64 0], .int .i64 0, .int .i64 2]) gt rfl ⟨bh, HR.out⟩
    ·have e3 : ((c : Int) == 93) = false := bF aa
     by_cases h4 : c = 37
     ·have e4 : ((c : Int) == 37) = true := bT aa
      by_cases h5 : q.size = 1
      ·skip
       have HE : Hid (Wx q = (⟨false, Zp.zero⟩, 1, 3)) := by rw [Hid, HP.out, if_neg h0, if_neg h1, if_neg h2, if_neg h3, if_pos h4, if_pos h5]
       clear HP;have HR : Hid (Below w.heap.size w (w.alloc (.cells #[.bool false, .int .u64 0, .int .u64 0, .int .u64 0, .int .u64 0] 251))) := (Below.refl w.heap.size w).alloc (Nat.le_refl _) _;go_enter Tryz.func219, Tryz.ntmps219;go_wp2_with fail;exact bodyPost_ret (v := .tuple #[.agg #[.bool false, .int .u64 0, .int .u64 0, .int .u64 0, .int .u64 0], .int .i64 1, .int .i64 3]) gt rfl ⟨bh, HR.out⟩
      ·skip
       have HE : Hid (Wx q = (⟨false, Zt (Yf q 1) 1⟩, 2, 0)) := by rw [Hid, HP.out, if_neg h0, if_neg h1, if_neg h2, if_neg h3, if_pos h4, if_neg h5]
       have hq1 : 1 < q.size := aa
       have hd0 := (Xo q 1 hq1).symm;have hd8 := Ga q 1;obtain ⟨d, hd⟩ := nE (Yf q 1);rw [hd] at hd0 hd8 HE;clear hd;have HC := hid (fun W => Zfa d hd8 W);obtain ⟨t, ht⟩ := nE (Zt d 1);rw [ht] at HC HE;clear ht HP;obtain ⟨r0, r1, r2, r3⟩ := t;unfold Zp.val at HC;go_enter Tryz.func219, Tryz.ntmps219;go_wp2_with fail;refine (HC.out _).mono ?_;rintro e w1 ⟨rfl, hb1⟩;have HX1 : Hid (Blk w1 w.heap.size 251 #[.bool false, .int .u64 0, .int .u64 0, .int .u64 0, .int .u64 0]) := HX0.below hb1 HX0.lt;have HB1 := bt HB0 hb1;clear hb1 HX0 HB0;obtain ⟨k0, k1, k2, k3, k4, g0, g1, g2, g3, g4⟩ := Zj7 HX1.out;have HZ := hid (Ze7 (b0 := .bool false) (b1 := w64 r0) (b2 := w64 r1) (b3 := w64 r2) (b4 := w64 r3) HX1.out);have HR := hid (Zb4 (g := w.heap.size) HB1.out (Nat.le_refl _) (.bool false) (w64 r0) (w64 r1) (w64 r2) (w64 r3));go_wp2_with fail;obtain ⟨z0, z1, z2, z3, z4, -, -, -, -, -⟩ := Zj7 HZ.out;exact bodyPost_ret (v := .tuple #[.agg #[.bool false, w64 r0, w64 r1, w64 r2, w64 r3], .int .i64 2, .int .i64 0]) ej rfl ⟨bh, HR.out⟩
     ·have e4 : ((c : Int) == 37) = false := bF aa
      have HE : Hid (Wx q = (⟨false, Zt c 1⟩, 1, 0)) := by rw [Hid, HP.out, if_neg h0, if_neg h1, if_neg h2, if_neg h3, if_neg h4]
      have HC := hid (fun W => Zfa c hc8 W);obtain ⟨t, ht⟩ := nE (Zt c 1);exact N24
def Uo (R : List Zm × Nat × Nat) (w : World) (e : Ending) (w' : World) : Prop :=
 ∃ A c, e = .returned (.tuple #[.slice A R.1.length c, .int .i64 (R.2.1 : Nat), .int .i64 (R.2.2 : Nat)]) ∧ w'.ownsRow w.heap.size 251 5 (.slice A R.1.length c) R.1.length (Yb R.1) ∧ Below w.heap.size w w'
theorem Qv (w w' : World) (a e : Nat) (h : Below w.heap.size w w') : Uo ([], a, e) w (.returned (.tuple #[.slice none 0 0, (a : Int), (e : Int)])) w' :=
 ⟨none, 0, rfl, ⟨rfl, .inl ⟨rfl, rfl⟩⟩, h⟩
theorem N101{P:Prop}(h:P:=by
 go_wp2_with fail
 go_ret3
 have h := Qv w _ j e HB2.out;rw [← HE.out, HQ.out] at h;exact h):P:=h
theorem N65{P:Prop}(h:P:=by
 have HE : Hid (R = (out, 0, 0)) := by rw [Hid, ← HPAR.out, Zk1 _ _ _ _ hlt]
 go_wp2_with fail
 go_ret3
 rw [← HQ.out, HE.out];exact ⟨A, c, by rw [HK.out]; rfl, by rw [HK.out]; exact HOWN.out, HB.out⟩):P:=h
theorem N53{P:Prop}(h:P:=by
 have HE : Hid (R = ([], a, 4)) := by rw [Hid, ← HPAR.out, h60, Wk, if_pos hlt, if_pos (by rw [HK.out]; exact h60)]
 subst h60;go_wp2_with fail
 go_ret3
 have h := Qv w wr a 4 HB.out;rw [← HE.out, HQ.out] at h;exact h):P:=h
theorem Zm7 (p : ByteArray) (hp : p.size ≤ 1000000) (w : World) :
  Calls Tryz.prog 208 #[p] w fun e w' => Uo (Xg p) w e w' := by
 have HR : Hid (Wk p 61 [] 0 = Xg p) := rfl;obtain ⟨R, hR⟩ := nE (Xg p);rw [hR] at HR ⊢;clear hR;obtain ⟨Q, hQ⟩ := nE (Uo R w);rw [show (fun e w' => Uo R w e w') = Q from hQ];have HQ := hid hQ;clear hQ;go_enter Tryz.func208, Tryz.ntmps208;go_wp2_with fail
 go_loopw [5, 6] (fun v i wr => ∃ (a c : Nat) (A : Option Addr) (out : List Zm), a ≤ p.size ∧ out.length ≤ 60 ∧ i = .int .i64 (a : Int) ∧ v = .slice A out.length c ∧ Wk p (61 - out.length) out a = R ∧
   wr.ownsRow w.heap.size 251 5 (.slice A out.length c) out.length (Yb out) ∧ Below w.heap.size w wr) (fun _ i _ => p.size - (intOf i).toNat)
 case atStart => exact ⟨0, 0, none, [], aa, ah, rfl, rfl, HR.out, ⟨rfl, .inl ⟨rfl, rfl⟩⟩, Below.refl _ _⟩
 case round =>
  obtain ⟨a, c, A, out, ha, hol, rfl, rfl, hpar, hown, hb⟩ := hrel;have HPAR := hid hpar; have HOWN := hid hown; have HB := hid hb;obtain ⟨k, hk⟩ := nE (out.length);have HK := hid hk;rw [hk] at hol HPAR HOWN ⊢;clear hpar hown hb hk HR;by_cases hlt : a < p.size
  ·by_cases h60 : k = 60
   ·exact N53
   ·have HI := hid (Zpk (Yp p a) bo bo)
    have HLE := Zpl (Yp p a) bo;rw [Xd] at HLE
    have HN : Hid (R = if (Wx (Yp p a)).2.2 = 0 then Wk p (60 - k) (out ++ [(Wx (Yp p a)).1]) (a + (Wx (Yp p a)).2.1) else ([], a + (Wx (Yp p a)).2.1, (Wx (Yp p a)).2.2)) := by
     rw [Hid, ← HPAR.out, show 61 - k = (60 - k) + 1 from aa, Wk, if_pos hlt, if_neg (by rw [HK.out]; exact h60)]
    obtain ⟨⟨x, n, e⟩, hx⟩ : ∃ t, Wx (Yp p a) = t := ⟨_, rfl⟩;rw [hx] at HI HLE HN;simp only at HLE HI HN;unfold Yp at HI;clear hx HPAR;obtain ⟨hle1, hle2⟩ := HLE;obtain ⟨j, hj⟩ := nE (a + n);have hj2 : ((a : Int) + (n : Int)) = (j : Int) := aa
    have hj3 : j ≤ p.size := aa
    rw [hj] at HN;by_cases he : e = 0
    ·subst he
     have HE : Hid (Wk p (60 - k) (out ++ [x]) j = R) := by rw [Hid, HN.out, if_pos rfl]
     have hn0 : 0 < n := hle2 rfl;have HJ : Hid (a < j) := ei
     clear HN hle2 hle1 hj;unfold Zm.val at HI;go_wp2_with fail;refine (HI.out _).mono ?_;rintro e w1 ⟨rfl, hb1⟩;have hs1 := HB.size;have HO1 : Hid (w1.ownsRow w.heap.size 251 5 (.slice A k c) k (Yb out)) := Yc HOWN.out hb1;have HB1 : Hid (Below w.heap.size w w1) := HB.trans (hb1.mono hs1);have hs2 := HB1.size;clear hb1 HOWN HB HI hs1;have hown2 : (w1.alloc (.cells #[x.run, w64 x.set.w0, w64 x.set.w1, w64 x.set.w2, w64 x.set.w3] 251)).ownsRow w.heap.size 251 5 (.slice A k c) k (Yb out) := Yc HO1.out ((Below.refl w1.heap.size w1).alloc (Nat.le_refl _) _);have HB2 : Hid (Below w.heap.size w (w1.alloc (.cells #[x.run, w64 x.set.w0, w64 x.set.w1, w64 x.set.w2, w64 x.set.w3] 251))) := HB1.alloc hs2 _;have HX2 := hid (Blk.new w1 251 #[x.run, w64 x.set.w0, w64 x.set.w1, w64 x.set.w2, w64 x.set.w3]);have hs3 : w.heap.size ≤ (w1.alloc (.cells #[x.run, w64 x.set.w0, w64 x.set.w1, w64 x.set.w2, w64 x.set.w3] 251)).heap.size := HB2.size;have HO2 := hid hown2;clear HO1 HB1 hown2;obtain ⟨k0, k1, k2, k3, k4, -, -, -, -, -⟩ := Zj7 HX2.out;go_upto_region 9 with fail;obtain ⟨w2, hw2⟩ := nE (w1.alloc (.cells #[x.run, w64 x.set.w0, w64 x.set.w1, w64 x.set.w2, w64 x.set.w3] 251));rw [hw2] at HB2 HX2 HO2 hs3 k0 k1 k2 k3 k4 ⊢;clear hw2 hs2;have hown2 := HO2.out;go_wp2_with (at_builtin; refine Qz _ rfl _ _ 223 rfl w.heap.size 251 _ 5 40 Tryz.underlying223 Kb rfl ac _ _ _ rfl hown2 1 (Zm.cells x) rfl rfl rfl ?_ ac hs3 ?_)
     ·omega
     intro A3 d3 w3 hown3 hg3;have HB3 := hid (Wo HB2.out hown2 hg3 (Nat.le_refl _) hs3);have HL : Hid ((out ++ [x]).length = k + 1) := ij
     have HO3 : Hid (w3.ownsRow w.heap.size 251 5 (.slice (some ⟨A3, 0, none⟩) (k + 1) d3) (k + 1) (Yb (out ++ [x]))) := by
      rw [Hid, Jx]; simpa [Yb] using hown3
     have HE2 : Hid (Wk p (61 - (k + 1)) (out ++ [x]) j = R) := by rw [Hid, show 61 - (k + 1) = 60 - k from aa]; exact HE.out
     have hk60 : k < 60 := aa
     clear hown2 hown3 hg3 HB2 HX2 HO2 hs3 k0 k1 k2 k3 k4 HE;go_wp2_with fail;go_roundw
     case rel => exact ⟨j, d3, some ⟨A3, 0, none⟩, out ++ [x], hj3, bj, rfl, by rw [HL.out], by rw [HL.out]; exact HE2.out, by rw [HL.out]; exact HO3.out, HB3.out⟩
     case measure => have := HJ.out; simp [intOf]; omega
    ·have HE : Hid (R = ([], j, e)) := by rw [Hid, HN.out, if_neg he]
     have he0 : ((e : Int) == 0) = false := bF aa;clear HN hle2 hle1 hj;unfold Zm.val at HI;go_wp2_with fail;refine (HI.out _).mono ?_;rintro en w1 ⟨rfl, hb1⟩;have HB2 : Hid (Below w.heap.size w (w1.alloc (.cells #[x.run, w64 x.set.w0, w64 x.set.w1, w64 x.set.w2, w64 x.set.w3] 251))) := (HB.trans (hb1.mono HB.size)).alloc (Nat.le_trans HB.size hb1.size) _;clear hb1 HI HOWN;exact N101
  ·exact N65
def Jn (q : ByteArray) : Nat × Nat × Bool :=
 if q.size = 0 then (0, 0, false)
 else if Yf q 0 = 93 then (0, 0, false)
 else if Yf q 0 = 45 then (0, 0, false)
 else if Yf q 0 ≠ 37 then (Yf q 0, 1, true)
 else if q.size = 1 then (0, 1, false)
 else (Yf q 1, 2, true)
theorem Gx (s : ByteArray) (i j : Nat) : Yf (Yp s i) j = Yf s (i + j) := by
 unfold Yf Yp;rw [ByteArray.data_extract, Array.toList_extract, List.extract_eq_take_drop];rw [List.take_of_length_le (by rw [List.length_drop]; exact Nat.le_of_eq ah), List.getD, List.getElem?_drop]; rfl
theorem Zaw (s : ByteArray) (i c : Nat) (h : i < s.size) : isM s i c = (Yf s i == c) := by
 rw [isM, decide_eq_true h, Bool.true_and]; rfl
theorem Zkb (s : ByteArray) (i c : Nat) (h : ¬ i < s.size) : isM s i c = false := by
 rw [isM, decide_eq_false h, Bool.false_and]
theorem N107{P:Prop}(h:P:=by
 rw [hr] at hle hgo ⊢;exact .inl ⟨rfl, by rw [ho]; simp only [Nat.add_sub_cancel_left], ku, hle⟩):P:=h
theorem N80{P:Prop}(h:P:=by
 rw [hr];exact .inr ⟨Wu _ _, 0, ho, aa, by rw [Nat.add_zero, stop_eq _ aa]⟩):P:=h
theorem Ze2 (s : ByteArray) (i : Nat) (hi : i ≤ s.size) :
  ((Ye s i 0).2.2 = 0 ∧ Jn (Yp s i) = ((Ye s i 0).1, (Ye s i 0).2.1 - i, true) ∧ i < (Ye s i 0).2.1 ∧ (Ye s i 0).2.1 ≤ s.size) ∨
  ((Ye s i 0).2.2 ≠ 0 ∧ ∃ n, Jn (Yp s i) = (0, n, false) ∧ i + n ≤ s.size ∧ Ye s i 0 = (0, i + n, Wh s (i + n))) := by
 have hle := Nq s i 0 hi;have hgo := Nr s i;have stop_eq : ∀ k, k ≤ s.size → Ws s k = k := fun k hk => by unfold Ws; split <;> omega
 by_cases h0 : i < s.size
 ·have b0 : Yf (Yp s i) 0 = Yf s i := Gx s i 0
  have b1 : Yf (Yp s i) 1 = Yf s (i + 1) := Gx s i 1;have hne : ¬ (Yp s i).size = 0 := bo
  have h37 := Zaw s i 37 h0; have h93 := Zaw s i 93 h0; have h45 := Zaw s i 45 h0;by_cases c37 : Yf s i = 37
  ·have t37 : isM s i 37 = true := by rw [h37, beq_iff_eq]; exact c37
   by_cases h1 : i + 1 < s.size
   ·have hr : Ye s i 0 = (Yf s (i + 1), i + 2, 0) := by rw [Ye, if_pos t37, if_pos h1]; rfl
    have ho : Jn (Yp s i) = (Yf s (i + 1), 2, true) := by
     rw [Jn, if_neg hne, b0, c37, if_neg ac, if_neg ac, if_neg ac, if_neg bo, b1]
    exact N107
   ·have hr : Ye s i 0 = (0, Ws s (i + 1), Wh s (i + 1)) := by rw [Ye, if_pos t37, if_neg h1]
    have ho : Jn (Yp s i) = (0, 1, false) := by
     rw [Jn, if_neg hne, b0, c37, if_neg ac, if_neg ac, if_neg ac, if_pos bo]
    rw [hr];exact .inr ⟨Wu _ _, 1, ho, aa, by rw [stop_eq _ aa]⟩
  ·have t37 : ¬ isM s i 37 = true := by rw [h37, beq_iff_eq]; exact c37
   by_cases c93 : Yf s i = 93
   ·have hr : Ye s i 0 = (0, Ws s i, Wh s i) := by rw [Ye, if_neg t37, if_neg (by rw [h93, c93]; simp)]
    have ho : Jn (Yp s i) = (0, 0, false) := by rw [Jn, if_neg hne, b0, if_pos c93]
    exact N80
   ·by_cases c45 : Yf s i = 45
    ·have hr : Ye s i 0 = (0, Ws s i, Wh s i) := by rw [Ye, if_neg t37, if_neg (by rw [h45, c45]; simp)]
     have ho : Jn (Yp s i) = (0, 0, false) := by rw [Jn, if_neg hne, b0, if_neg c93, if_pos c45]
     exact N80
    ·have hr : Ye s i 0 = (Yf s i, i + 1, 0) := by
      rw [Ye, if_neg t37, if_pos ⟨h0, by rw [h93, beq_eq_false_iff_ne]; exact c93, by rw [h45, beq_eq_false_iff_ne]; exact c45⟩]; rfl
     have ho : Jn (Yp s i) = (Yf s i, 1, true) := by rw [Jn, if_neg hne, b0, if_neg c93, if_neg c45, if_pos c37]
     exact N107
 ·have hr : Ye s i 0 = (0, Ws s i, Wh s i) := by rw [Ye, if_neg (by rw [Zkb s i 37 h0]; decide), if_neg aa]
  have ho : Jn (Yp s i) = (0, 0, false) := by rw [Jn, if_pos bo]
  exact N80
theorem Kv (q : ByteArray) : q.toList = q.data.toList := by
 obtain ⟨⟨l⟩⟩ := q;simp
theorem N36{P:Prop}(h:P:=by
 go_enter Tryz.func237, Tryz.ntmps237;go_wp2_with fail
 go_ret3
 exact ⟨bh, rfl⟩):P:=h
theorem Zce (q : ByteArray) (_hs : q.size ≤ 1000000) (w : World) :
  Calls Tryz.prog 237 #[q] w fun e w' => e = .returned (.tuple #[.int .i64 ((Jn q).1 : Nat), .int .i64 ((Jn q).2.1 : Nat), .bool (Jn q).2.2]) ∧ w = w' := by
 by_cases h0 : q.size = 0
 ·have HE : Hid (Jn q = (0, 0, false)) := by rw [Hid, Jn, if_pos h0]
  have z0 : q.toList = [] := by rw [Kv]; exact List.eq_nil_of_length_eq_zero (by simpa using h0)
  exact N36
 ·have hq : 0 < q.size := by omega
  have z0 : ¬ q.toList = [] := by rw [Kv]; intro h; apply h0; have := congrArg List.length h; simpa using this
  have z1 : q.toList.isEmpty = false := dc
  have hc0 := (Xo q 0 hq).symm;have hc8 := Ga q 0;have HO : Jn q = if Yf q 0 = 93 then (0, 0, false) else if Yf q 0 = 45 then (0, 0, false) else if Yf q 0 ≠ 37 then (Yf q 0, 1, true) else if q.size = 1 then (0, 1, false) else (Yf q 1, 2, true) := by rw [Jn, if_neg h0]
  obtain ⟨c, hc⟩ := nE (Yf q 0);rw [hc] at hc0 hc8 HO;have HO := hid HO;clear hc;by_cases h93 : c = 93
  ·have e93 : ((c : Int) == 93) = true := bT aa
   have HE : Hid (Jn q = (0, 0, false)) := by rw [Hid, HO.out, if_pos h93]
   clear HO;exact N36
  ·have e93 : ((c : Int) == 93) = false := bF aa
   by_cases h45 : c = 45
   ·have e45 : ((c : Int) == 45) = true := bT aa
    have HE : Hid (Jn q = (0, 0, false)) := by rw [Hid, HO.out, if_neg h93, if_pos h45]
    clear HO;exact N36
   ·have e45 : ((c : Int) == 45) = false := bF aa
    by_cases h37 : c = 37
    ·have e37 : ((c : Int) == 37) = true := bT aa
     by_cases h1 : q.size = 1
     ·have HE : Hid (Jn q = (0, 1, false)) := by rw [Hid, HO.out, if_neg h93, if_neg h45, if_neg aa, if_pos h1]
      clear HO;exact N36
     ·have HE : Hid (Jn q = (Yf q 1, 2, true)) := by rw [Hid, HO.out, if_neg h93, if_neg h45, if_neg aa, if_neg h1]
      have hq1 : 1 < q.size := aa
      have hd0 := (Xo q 1 hq1).symm;have hd8 := Ga q 1;obtain ⟨d, hd⟩ := nE (Yf q 1);rw [hd] at hd0 hd8 HE;clear HO hd;exact N36
    ·have e37 : ((c : Int) == 37) = false := bF aa
     have HE : Hid (Jn q = (c, 1, true)) := by rw [Hid, HO.out, if_neg h93, if_neg h45, if_pos h37]
     clear HO;exact N36
theorem Za2 (s : ByteArray) (i : Nat) (hi : i ≤ s.size) (_hs : s.size ≤ 1000000) (w : World) :
  Calls Tryz.prog 236 #[s, (i : Int)] w fun e w' => e = .returned (.tuple #[.agg zf, (i : Int), .int .i64 (Wh s i : Nat)]) ∧ Below w.heap.size w w' := by
 have HR : Hid (Below w.heap.size w (w.alloc (.cells zf 249))) := (Below.refl w.heap.size w).alloc (Nat.le_refl _) _;by_cases h : i = s.size
 ·have HE : Hid (Wh s i = 3) := by rw [Hid, Wh, if_neg aa]
  subst h;go_enter Tryz.func236, Tryz.ntmps236;go_wp2_with fail;exact bodyPost_ret (v := .tuple #[.agg zf, (s.size : Int), .int .i64 3]) (by simp [results, Tryz.results236, go_sem]) rfl ⟨bh, HR.out⟩
 ·have HE : Hid (Wh s i = 2) := by rw [Hid, Wh, if_pos aa]
  have e0 : ((i : Int) == (s.size : Int)) = false := bF aa;go_enter Tryz.func236, Tryz.ntmps236;go_wp2_with fail;exact bodyPost_ret (v := .tuple #[.agg zf, (i : Int), .int .i64 2]) (by simp [results, Tryz.results236, go_sem]) rfl ⟨bh, HR.out⟩
theorem Zli (x : Zp) (k : Nat) (hk : k < 256) : (Xm x).set k true = Xm (Zbh x k) := by
 apply List.ext_getElem
 ·rw [List.length_set, Xz, Xz]
 ·intro j h1 h2
  rw [Xz] at h2;rw [List.getElem_set];simp only [Xm, List.getElem_map, List.getElem_range];rw [Zcj _ _ _ hk h2];split
  ·rename_i h; subst h; simp
  ·rename_i h
   rw [show decide (j = k) = false from af, Bool.or_false]
theorem Zqv (x : Zp) (a k : Nat) (h : a + k < 256) : Zbh (orM x (Zt a k)) (a + k) = orM x (Zt a (k + 1)) := by
 refine Zp.ext_has fun c hc => ?_;rw [Zcj _ _ _ h hc, Zen _ _ _ hc, Zen _ _ _ hc, Zt, Zcj _ _ _ h hc, Bool.or_assoc]
theorem Ze1 (x : Zp) (a : Nat) : orM x (Zt a 0) = x := by
 refine Zp.ext_has fun c hc => ?_;rw [Zen _ _ _ hc, Zt, Ze5, Bool.or_false]
theorem Zdy (x : Zp) : Zdk (Xm x) = x := by
 refine Zp.ext_has fun c hc => ?_;rw [Zdd _ _ hc, Zlj x c hc]
theorem Zdc {s : ByteArray} {i c : Nat} (hi : i ≤ s.size) (h : isM s i c = false) : i = s.size ∨ (i < s.size ∧ Yf s i ≠ c) := by
 by_cases h1 : i < s.size
 ·rw [Zaw s i c h1, beq_eq_false_iff_ne] at h
  exact .inr ⟨h1, h⟩
 ·exact .inl aa
theorem Gg {s : ByteArray} {i c : Nat} (h : isM s i c = true) : i < s.size ∧ Yf s i = c := by
 have h1 := Nu h;rw [Zaw s i c h1, beq_iff_eq] at h;exact ⟨h1, h⟩
theorem N49{P:Prop}(h:P:=by
 rw [Kv]; intro h;have h' : s.size = 0 := by have := congrArg List.length h; simpa using this
 omega):P:=h
theorem N121{P:Prop}(h:P:=by
 skip
 obtain ⟨-, n1, ho1, hle1, hr1⟩ := h1
 have HE : Hid (Xk s = (Zp.zero, i + n1, Wh s (i + n1))) := by
  have hp : Zu s i = (Zt 0 1, i + n1, Wh s (i + n1)) := by
   simp only [Zu]; rw [hr1]; simp only; rw [if_neg iy]
  have hq : Q = (orM x (Zt 0 1), i + n1, Wh s (i + n1)) := by rw [← HPX.out, hp, Zac _ _ _ _ _ (Wu _ _)]
  rw [Hid, HR.out, hq, if_neg (Wu _ _)]
 have C1 := hid (fun W => Zce (Yp s i) bo W);rw [ho1] at C1;unfold Yp at C1;obtain ⟨j1, hj1⟩ := nE (i + n1);have hj1' : ((i : Int) + (n1 : Int)) = (j1 : Int) := aa
 rw [hj1] at HE hle1;clear hj1 HR HPX;go_wp2_with fail;refine (C1.out _).mono ?_;rintro e w7 ⟨rfl, rfl⟩;go_wp2_with fail;refine (Za2 s j1 hle1 hs _).mono ?_;rintro e w8 ⟨rfl, hb8⟩;have HZ8 : Hid (Blk w8 w.heap.size 249 zf) := HZ.below hb8 HZ.lt;have HB8 := bt HB hb8;clear hb8;obtain ⟨k0, k1, k2, k3, f0, f1, f2, f3⟩ := Wi HZ8.out;have HZ9 := hid (Xn (b0 := .int .u64 0) (b1 := .int .u64 0) (b2 := .int .u64 0) (b3 := .int .u64 0) HZ8.out);have HB9 := hid (Xt (g := w.heap.size) HB8.out (Nat.le_refl _) (.int .u64 0) (.int .u64 0) (.int .u64 0) (.int .u64 0));go_wp2_with fail;obtain ⟨z0, z1, z2, z3, -, -, -, -⟩ := Wi HZ9.out;exact bodyPost_ret (v := .tuple #[.agg zf, (j1 : Int), .int .i64 (Wh s j1 : Nat)]) ax rfl ⟨bh, HB9.out⟩):P:=h
theorem N3{P:Prop}(h:P:=by
 rcases Ze2 s i hi with h1 | h1
 ·obtain ⟨-, -, h, h'⟩ := h1
  omega
 ·exact N121):P:=h
theorem N137{P:Prop}(h:P:=by
 have hp : Zu s i = (Zt a 1, i1, 0) := by
  simp only [Zu]; rw [hr1]; simp only; rw [if_neg (by rw [h45]; simp)]
 rw [Hid, ← HNX.out, hp, Nat.add_sub_cancel_left]):P:=h
theorem N119{P:Prop}(h:P:=by
 have hby : a + k < 256 := aa
 obtain ⟨u, hu⟩ : ∃ u, (Zs (Xm (orM x (Zt a k))))[a + k]? = some u := ⟨_, List.getElem?_eq_getElem (by rw [hol]; exact hby)⟩;have hcl : wr.cell? ⟨g, a + k, none⟩ = some u := by rw [ho2.cellAt _ aa]; exact hu
 have hfr := ho2.frozenAt (a + k);have HST := hid (ho2.stored (a + k) (.bool true));have HPU : Hid ((Zs (Xm (orM x (Zt a k)))).set (a + k) (.bool true) = Zs (Xm (orM x (Zt a (k + 1))))) := by rw [Hid, ← Zqv x a k hby, ← Zli _ _ hby, Nd]
 obtain ⟨i9, hi9⟩ := nE (a + k);rw [hi9] at hcl hfr HST hlt HPU hby ⊢;have HI9 := hid hi9;clear ho2 hol hi9 hu;go_wp2_with fail;go_roundw
 case rel =>
  refine ⟨k + 1, by have := HI9.out; omega, by have := HI9.out; go_num, ?_, HZ2.set_far aa, HB2.setCell af _, by simpa using hsz2⟩;rw [← HPU.out]; exact HST.1
 case measure => simp [intOf]; omega):P:=h
theorem N1{P:Prop}(h:P:=by
 rcases Ze2 s i hi with h1 | h1
 ·obtain ⟨he1, ho1, hlt1, hi1s⟩ := h1
  obtain ⟨⟨a, i1, e1⟩, hr1⟩ : ∃ t, Ye s i 0 = t := ⟨_, rfl⟩;have ha256 : a < 256 := by have := Gs s i 0; rw [hr1] at this; exact this
  rw [hr1] at he1 ho1 hlt1 hi1s;simp only at he1 ho1 hlt1 hi1s;subst he1;obtain ⟨n', hn'⟩ : ∃ n', n = n' + 1 := ⟨n - 1, aa⟩;subst hn';have HNX := HPX;have C1 := hid (fun W => Zce (Yp s i) bo W);rw [ho1] at C1;unfold Yp at C1;obtain ⟨d1, hd1⟩ := nE (i1 - i);have hd1' : ((i : Int) + (d1 : Int)) = (i1 : Int) := aa
  rw [hd1] at C1;clear hd1 ho1;cases h45 : isM s i1 45
  ·rcases Zdc hi1s h45 with h46 | ⟨h46, h47⟩
   ·skip
    have HNX2 : Hid (Ux s (n' + 1) (orM x (Zt a (a + 1 - a))) i1 0 = Q) := by
     exact N137
    have HLE : Hid (i1 ≤ s.size) := hi1s;have HLT : Hid (i < i1 ∧ i < s.size ∧ s.size ≤ i + (n' + 1)) := ⟨aa, aa, aa⟩;clear HNX HR HPX h45 hr1;have HNX := HNX2;clear HNX2;subst h46;go_wp2_with fail;refine (C1.out _).mono ?_;rintro e w7 ⟨rfl, rfl⟩;obtain ⟨wo, hwo⟩ : ∃ wo : World, wo = wr := ⟨_, rfl⟩;rw [← hwo] at HO HZ HB ⊢;have hs2 : w.heap.size + 1 ≤ wo.heap.size := by rw [hwo]; exact hsz
    clear hwo hsz;go_wp2_with fail
    go_loopw [13] (fun jv wr2 => ∃ (k : Nat), a + k ≤ a + 1 ∧ jv = .int .i64 ((a + k : Nat) : Int) ∧ wr2.ownsRow (w.heap.size + 1) 4 1 (.slice (some ⟨g, 0, none⟩) 256 c1) 256 (Zs (Xm (orM x (Zt a k)))) ∧
      Blk wr2 w.heap.size 249 zf ∧ Below w.heap.size w wr2 ∧ w.heap.size + 1 ≤ wr2.heap.size) (fun jv _ => a + 1 - (intOf jv).toNat)
    case atStart => exact ⟨0, aa, rfl, by rw [Ze1]; exact HO.out, HZ.out, HB.out, hs2⟩
    case round =>
     obtain ⟨k, hk, rfl, ho2, hz2, hb2, hsz2⟩ := hrel;have HZ2 := hid hz2; have HB2 := hid hb2;clear hz2 hb2 HO HZ HB hs2;have hol : (Zs (Xm (orM x (Zt a k)))).length = 256 := by rw [Ue, Xz]
     by_cases hlt : a + k ≤ a
     ·exact N119
     ·have hkk : k = a + 1 - a := by omega
      have HO2 : Hid (wr.ownsRow (w.heap.size + 1) 4 1 (.slice (some ⟨g, 0, none⟩) 256 c1) 256 (Zs (Xm (orM x (Zt a (a + 1 - a)))))) := by rw [Hid, ← hkk]; exact ho2
      clear ho2 hol hkk;go_wp2_with fail;go_roundw
      case rel => exact ⟨s.size, n', orM x (Zt a (a + 1 - a)), false, HLE.out, by have := HLT.out; omega, rfl, rfl, HNX.out, HO2.out, HZ2.out, HB2.out, hsz2⟩
      case measure => have := HLT.out; simp [intOf]; omega
   ·skip
    have HNX2 : Hid (Ux s (n' + 1) (orM x (Zt a (a + 1 - a))) i1 0 = Q) := by
     exact N137
    have HLE : Hid (i1 ≤ s.size) := hi1s;have HLT : Hid (i < i1 ∧ i < s.size ∧ s.size ≤ i + (n' + 1)) := ⟨aa, aa, aa⟩;clear HNX HR HPX h45 hr1;have HNX := HNX2;clear HNX2;have hby1 := (Xo s i1 h46).symm;obtain ⟨cb, hcb⟩ := nE (Yf s i1);rw [hcb] at hby1 h47;have e45 : ((cb : Int) == 45) = false := bF aa;clear hcb;go_wp2_with fail;refine (C1.out _).mono ?_;rintro e w7 ⟨rfl, rfl⟩;obtain ⟨wo, hwo⟩ : ∃ wo : World, wo = wr := ⟨_, rfl⟩;rw [← hwo] at HO HZ HB ⊢;have hs2 : w.heap.size + 1 ≤ wo.heap.size := by rw [hwo]; exact hsz
    clear hwo hsz;go_wp2_with fail
    go_loopw [13] (fun jv wr2 => ∃ (k : Nat), a + k ≤ a + 1 ∧ jv = .int .i64 ((a + k : Nat) : Int) ∧ wr2.ownsRow (w.heap.size + 1) 4 1 (.slice (some ⟨g, 0, none⟩) 256 c1) 256 (Zs (Xm (orM x (Zt a k)))) ∧
      Blk wr2 w.heap.size 249 zf ∧ Below w.heap.size w wr2 ∧ w.heap.size + 1 ≤ wr2.heap.size) (fun jv _ => a + 1 - (intOf jv).toNat)
    case atStart => exact ⟨0, aa, rfl, by rw [Ze1]; exact HO.out, HZ.out, HB.out, hs2⟩
    case round =>
     obtain ⟨k, hk, rfl, ho2, hz2, hb2, hsz2⟩ := hrel;have HZ2 := hid hz2; have HB2 := hid hb2;clear hz2 hb2 HO HZ HB hs2;have hol : (Zs (Xm (orM x (Zt a k)))).length = 256 := by rw [Ue, Xz]
     by_cases hlt : a + k ≤ a
     ·exact N119
     ·have hkk : k = a + 1 - a := by omega
      have HO2 : Hid (wr.ownsRow (w.heap.size + 1) 4 1 (.slice (some ⟨g, 0, none⟩) 256 c1) 256 (Zs (Xm (orM x (Zt a (a + 1 - a)))))) := by rw [Hid, ← hkk]; exact ho2
      clear ho2 hol hkk;go_wp2_with fail;go_roundw
      case rel => exact ⟨i1, n', orM x (Zt a (a + 1 - a)), false, HLE.out, by have := HLT.out; omega, rfl, rfl, HNX.out, HO2.out, HZ2.out, HB2.out, hsz2⟩
      case measure => have := HLT.out; simp [intOf]; omega
  ·obtain ⟨h46, h47⟩ := Gg h45
   have hby1 := (Xo s i1 h46).symm;rw [h47] at hby1;go_wp2_with fail;refine (C1.out _).mono ?_;rintro e w7 ⟨rfl, rfl⟩;rcases Ze2 s (i1 + 1) aa with h2 | h2
   ·obtain ⟨he2, ho2, hlt2, hi2s⟩ := h2
    obtain ⟨⟨b, i2, e2⟩, hr2⟩ : ∃ t, Ye s (i1 + 1) 0 = t := ⟨_, rfl⟩;have hb256 : b < 256 := by have := Gs s (i1 + 1) 0; rw [hr2] at this; exact this
    rw [hr2] at he2 ho2 hlt2 hi2s;simp only at he2 ho2 hlt2 hi2s;subst he2;have C2 := hid (fun W => Zce (Yp s (i1 + 1)) bo W);rw [ho2] at C2;unfold Yp at C2;obtain ⟨j1, hj1⟩ := nE (i1 + 1);have hj1' : ((i1 : Int) + 1) = (j1 : Int) := aa
    have hj1s : j1 ≤ s.size := aa
    obtain ⟨d2, hd2⟩ := nE (i2 - j1);have hd2' : ((j1 : Int) + (d2 : Int)) = (i2 : Int) := aa
    rw [hj1, hd2] at C2;have HJ1 := hid hj1;clear hd2 hj1 ho2;by_cases hba : b < a
    ·skip
     have HE : Hid (Xk s = (Zp.zero, i2 - 1, 12)) := by
      have hp : Zu s i = (Zt a (b + 1 - a), i2 - 1, 12) := by
       simp only [Zu]; rw [hr1]; simp only; rw [if_pos ⟨trivial, h45⟩, hr2]; simp only; rw [if_pos ⟨trivial, hba⟩]
      have hq : Q = (orM x (Zt a (b + 1 - a)), i2 - 1, 12) := by rw [← HNX.out, hp, Zac _ _ _ _ _ (show (12 : Nat) ≠ 0 by decide)]
      rw [Hid, HR.out, hq, if_neg (show ¬ (12 : Nat) = 0 by decide)]
     obtain ⟨j3, hj3⟩ := nE (i2 - 1);have hj3' : ((i2 : Int) - 1) = (j3 : Int) := aa
     rw [hj3] at HE;clear hj3 HNX HR HPX;go_wp2_with fail;refine (C2.out _).mono ?_;rintro e w7 ⟨rfl, rfl⟩;obtain ⟨k0, k1, k2, k3, f0, f1, f2, f3⟩ := Wi HZ.out;have HZ9 := hid (Xn (b0 := .int .u64 0) (b1 := .int .u64 0) (b2 := .int .u64 0) (b3 := .int .u64 0) HZ.out);have HB9 := hid (Xt (g := w.heap.size) HB.out (Nat.le_refl _) (.int .u64 0) (.int .u64 0) (.int .u64 0) (.int .u64 0));go_wp2_with fail;obtain ⟨z0, z1, z2, z3, -, -, -, -⟩ := Wi HZ9.out;exact bodyPost_ret (v := .tuple #[.agg zf, (j3 : Int), .int .i64 12]) ax rfl ⟨bh, HB9.out⟩
    ·skip
     have HNX2 : Hid (Ux s (n' + 1) (orM x (Zt a (b + 1 - a))) i2 0 = Q) := by
      have hp : Zu s i = (Zt a (b + 1 - a), i2, 0) := by
       simp only [Zu]; rw [hr1]; simp only; rw [if_pos ⟨trivial, h45⟩, hr2]; simp only; rw [if_neg (by rintro ⟨-, h'⟩; exact hba h')]
      rw [Hid, ← HNX.out, hp]
     have HLE : Hid (i2 ≤ s.size) := hi2s;have HLT : Hid (i < i2 ∧ i < s.size ∧ s.size ≤ i + (n' + 1)) := ⟨aa, aa, aa⟩;clear HNX HR HPX;have HNX := HNX2;clear HNX2;go_wp2_with fail;refine (C2.out _).mono ?_;rintro e w7 ⟨rfl, rfl⟩;obtain ⟨wo, hwo⟩ : ∃ wo : World, wo = wr := ⟨_, rfl⟩;rw [← hwo] at HO HZ HB ⊢;have hs2 : w.heap.size + 1 ≤ wo.heap.size := by rw [hwo]; exact hsz
     clear hwo hsz;go_wp2_with fail
     go_loopw [13] (fun jv wr2 => ∃ (k : Nat), a + k ≤ b + 1 ∧ jv = .int .i64 ((a + k : Nat) : Int) ∧ wr2.ownsRow (w.heap.size + 1) 4 1 (.slice (some ⟨g, 0, none⟩) 256 c1) 256 (Zs (Xm (orM x (Zt a k)))) ∧
       Blk wr2 w.heap.size 249 zf ∧ Below w.heap.size w wr2 ∧ w.heap.size + 1 ≤ wr2.heap.size) (fun jv _ => b + 1 - (intOf jv).toNat)
     case atStart => exact ⟨0, aa, rfl, by rw [Ze1]; exact HO.out, HZ.out, HB.out, hs2⟩
     case round =>
      obtain ⟨k, hk, rfl, ho2, hz2, hb2, hsz2⟩ := hrel;have HZ2 := hid hz2; have HB2 := hid hb2;clear hz2 hb2 HO HZ HB hs2;have hol : (Zs (Xm (orM x (Zt a k)))).length = 256 := by rw [Ue, Xz]
      by_cases hlt : a + k ≤ b
      ·exact N119
      ·have hkk : k = b + 1 - a := by omega
       have HO2 : Hid (wr.ownsRow (w.heap.size + 1) 4 1 (.slice (some ⟨g, 0, none⟩) 256 c1) 256 (Zs (Xm (orM x (Zt a (b + 1 - a)))))) := by rw [Hid, ← hkk]; exact ho2
       clear ho2 hol hkk;go_wp2_with fail;go_roundw
       case rel => exact ⟨i2, n', orM x (Zt a (b + 1 - a)), false, HLE.out, by have := HLT.out; omega, rfl, rfl, HNX.out, HO2.out, HZ2.out, HB2.out, hsz2⟩
       case measure => have := HLT.out; simp [intOf]; omega
   ·skip
    obtain ⟨-, n2, ho2, hle2, hr2⟩ := h2
    have HE : Hid (Xk s = (Zp.zero, i1 + 1 + n2, Wh s (i1 + 1 + n2))) := by
     have hp : Zu s i = (Zt a (0 + 1 - a), i1 + 1 + n2, Wh s (i1 + 1 + n2)) := by
      simp only [Zu]; rw [hr1]; simp only; rw [if_pos ⟨trivial, h45⟩, hr2, if_neg iy]
     have hq : Q = (orM x (Zt a (0 + 1 - a)), i1 + 1 + n2, Wh s (i1 + 1 + n2)) := by rw [← HNX.out, hp, Zac _ _ _ _ _ (Wu _ _)]
     rw [Hid, HR.out, hq, if_neg (Wu _ _)]
    have C2 := hid (fun W => Zce (Yp s (i1 + 1)) bo W);rw [ho2] at C2;unfold Yp at C2;obtain ⟨j1, hj1⟩ := nE (i1 + 1);have hj1' : ((i1 : Int) + 1) = (j1 : Int) := aa
    obtain ⟨j2, hj2⟩ := nE (j1 + n2);have hj2' : ((j1 : Int) + (n2 : Int)) = (j2 : Int) := aa
    rw [hj1] at C2 HE hle2;rw [hj2] at HE hle2;have hj1s : j1 ≤ s.size := aa
    clear hj1 hj2 HNX HR HPX;go_wp2_with fail;refine (C2.out _).mono ?_;rintro e w7 ⟨rfl, rfl⟩;go_wp2_with fail;refine (Za2 s j2 hle2 hs _).mono ?_;rintro e w8 ⟨rfl, hb8⟩;have HZ8 : Hid (Blk w8 w.heap.size 249 zf) := HZ.below hb8 HZ.lt;have HB8 := bt HB hb8;clear hb8;obtain ⟨k0, k1, k2, k3, f0, f1, f2, f3⟩ := Wi HZ8.out;have HZ9 := hid (Xn (b0 := .int .u64 0) (b1 := .int .u64 0) (b2 := .int .u64 0) (b3 := .int .u64 0) HZ8.out);have HB9 := hid (Xt (g := w.heap.size) HB8.out (Nat.le_refl _) (.int .u64 0) (.int .u64 0) (.int .u64 0) (.int .u64 0));go_wp2_with fail;obtain ⟨z0, z1, z2, z3, -, -, -, -⟩ := Wi HZ9.out;exact bodyPost_ret (v := .tuple #[.agg zf, (j2 : Int), .int .i64 (Wh s j2 : Nat)]) ax rfl ⟨bh, HB9.out⟩
 ·exact N121):P:=h
theorem N132{P:Prop}(h:P:=by
 have HPX : Hid (Ux s n (orM x (Zu s i).1) (Zu s i).2.1 (Zu s i).2.2 = Q) := by have := HGO.out; rwa [if_pos rfl] at this
 clear HGO;by_cases hisz : i = s.size
 ·skip
  have hge : s.size ≤ i := aa
  clear hisz;exact N3
 ·have h94' : i < s.size := by omega
  exact N1):P:=h
theorem N125{P:Prop}(h:P:=by
 have HPX : Hid (Ux s n (orM x (Zu s i).1) (Zu s i).2.1 (Zu s i).2.2 = Q) := by rw [Hid, ← HGO2.out, Ux, if_pos ⟨rfl, h93⟩]
 clear HGO2;rcases Zdc hi h93 with h94' | ⟨h94', h95'⟩
 ·skip
  clear h93;have hge : s.size ≤ i := aa
  have e93' : ((i : Int) == (s.size : Int)) = true := bT aa;clear h94';exact N3
 ·have hby9 := (Xo s i h94').symm
  obtain ⟨cb0, hcb0⟩ := nE (Yf s i);rw [hcb0] at hby9 h95';have e93 : ((cb0 : Int) == 93) = false := bF aa;have e93' : ((i : Int) == (s.size : Int)) = false := bF aa;clear hcb0 h93;exact N1):P:=h
theorem Zmy (s : ByteArray) (w : World) (hs : s.size ≤ 1000000) (h91 : isM s 0 91 = true) (h94 : isM s 1 94 = true) (Q : Zp × Nat × Nat) (hq : Ux s (s.size + 1) (Zu s 2).1 (Zu s 2).2.1 (Zu s 2).2.2 = Q)
  (hr : Xk s = if Q.2.2 = 0 then (Zbd Q.1, Q.2.1 + 1, 0) else (Zp.zero, Q.2.1, Q.2.2)) :
  Calls Tryz.prog 224 #[s] w fun e w' => e = .returned (.tuple #[(Xk s).1.val, .int .i64 ((Xk s).2.1 : Nat), .int .i64 ((Xk s).2.2 : Nat)]) ∧ Below w.heap.size w w' := by
 have HR := hid hr;have HQ : Hid (Ux s (s.size + 1) (orM Zp.zero (Zu s 2).1) (Zu s 2).2.1 (Zu s 2).2.2 = Q) := by rw [Hid, Zis]; exact hq
 obtain ⟨h0, hb0⟩ := Gg h91;have hby0 := (Xo s 0 h0).symm;rw [hb0] at hby0;have hi0 : 2 ≤ s.size := by have := Nu h94; omega
 have z0 : ¬ s.toList = [] := by
  exact N49
 have z1 : s.toList.isEmpty = false := dc
 clear h91 hq hr hb0;obtain ⟨h1, hb1⟩ := Gg h94;have hby1 := (Xo s 1 h1).symm;rw [hb1] at hby1;clear h94 hb1;go_enter Tryz.func224, Tryz.ntmps224;go_wp2_with fail;refine (Zad _).mono ?_;rintro e w1 ⟨A1, c1, rfl, hown, hbl⟩;simp only [World.size_alloc] at hown hbl;have hz1 := (Blk.new w 249 #[.int .u64 0, .int .u64 0, .int .u64 0, .int .u64 0]).below hbl ah;have hb1 := ((Below.refl w.heap.size w).alloc (Nat.le_refl _) (.cells zf 249)).trans (hbl.mono ah);have hsz1 := hbl.size;simp only [World.size_alloc] at hsz1;have HZ1 := hid hz1
 obtain ⟨g, cap, hA1, hgb⟩ : ∃ g cap, Value.slice A1 256 c1 = .slice (some ⟨g, 0, none⟩) 256 cap ∧ w.heap.size + 1 ≤ g := by
  exact N62
 injection hA1 with hA1 _ hc1
 subst hA1 hc1;clear hbl hz1;have HO1 : Hid (w1.ownsRow (w.heap.size + 1) 4 1 (.slice (some ⟨g, 0, none⟩) 256 c1) 256 (Zs (Xm Zp.zero))) := by rw [Hid, Zan]; exact hown
 have HB1 := hid hb1;clear hown hb1;go_wp2_with fail
 go_loopw [6, 8] (fun iv fv wr => ∃ (i n : Nat) (x : Zp) (fst : Bool), i ≤ s.size ∧ s.size ≤ i + n ∧ iv = .int .i64 (i : Int) ∧ fv = .bool fst ∧
   (if fst = true then Ux s n (orM x (Zu s i).1) (Zu s i).2.1 (Zu s i).2.2 = Q else Ux s (n + 1) x i 0 = Q) ∧
   wr.ownsRow (w.heap.size + 1) 4 1 (.slice (some ⟨g, 0, none⟩) 256 c1) 256 (Zs (Xm x)) ∧ Blk wr w.heap.size 249 zf ∧ Below w.heap.size w wr ∧ w.heap.size + 1 ≤ wr.heap.size) (fun iv _ _ => s.size - (intOf iv).toNat)
 case atStart => exact ⟨2, s.size + 1, Zp.zero, true, hi0, aa, rfl, rfl, by rw [if_pos rfl]; exact HQ.out, HO1.out, HZ1.out, HB1.out, hsz1⟩
 case round =>
  obtain ⟨i, n, x, fst, hi, hn, rfl, rfl, hgo, hown, hz, hbl, hsz⟩ := hrel;have HO := hid hown; have HZ := hid hz; have HB := hid hbl; have HGO := hid hgo;clear hown hz hbl HQ HO1 HZ1 HB1 hsz1 hgo;cases fst
  ·have HGO2 : Hid (Ux s (n + 1) x i 0 = Q) := by have := HGO.out; rwa [if_neg ac] at this
   clear HGO;cases h93 : isM s i 93
   ·exact N125
   ·have HE : Hid (Q = (x, i, 0)) := by rw [Hid, ← HGO2.out, Za4 s (n + 1) x i 0 h93]
    obtain ⟨h94', h95'⟩ := Gg h93;have hby9 := (Xo s i h94').symm;rw [h95'] at hby9;have e93' : ((i : Int) == (s.size : Int)) = false := bF aa;have HRR : Hid (Xk s = (Zbd x, i + 1, 0)) := by rw [Hid, HR.out, HE.out]; rfl
    have HMK := hid (Zch (some ⟨g, 0, none⟩) c1 (Xm x) wr (Xz x) (Xw HO.out));rw [Zdy] at HMK;obtain ⟨j, hj⟩ := nE (i + 1);have hj' : ((i : Int) + 1) = (j : Int) := aa
    rw [hj] at HRR;clear HE HGO2 h93 hj HR HO;have HN := hid (fun W => Zpa x W);obtain ⟨y, hy⟩ := nE (Zbd x);rw [hy] at HN HRR;clear hy;unfold Zp.val at *;go_wp2_with fail;refine HMK.mono ?_;rintro e w4 ⟨rfl, hb4⟩;have HZ4 : Hid (Blk w4 w.heap.size 249 zf) := HZ.below hb4 HZ.lt;have HB4 := bt HB hb4;have hlt4 := HZ4.lt;clear hb4 HMK HZ HB;have HX5 := hid (Blk.new w4 249 #[w64 x.w0, w64 x.w1, w64 x.w2, w64 x.w3]);have HZ5 : Hid (Blk (w4.alloc (.cells #[w64 x.w0, w64 x.w1, w64 x.w2, w64 x.w3] 249)) w.heap.size 249 #[.int .u64 0, .int .u64 0, .int .u64 0, .int .u64 0]) := HZ4.alloc _;have HB5 : Hid (Below w.heap.size w (w4.alloc (.cells #[w64 x.w0, w64 x.w1, w64 x.w2, w64 x.w3] 249))) := HB4.alloc HB4.size _;obtain ⟨X, hX⟩ := nE (w4.heap.size);rw [hX] at HX5 hlt4;go_upto_region 26 with fail;obtain ⟨w5, hw5⟩ := nE (w4.alloc (.cells #[w64 x.w0, w64 x.w1, w64 x.w2, w64 x.w3] 249));rw [hw5] at HX5 HZ5 HB5 ⊢;clear hw5 HZ4 HB4;obtain ⟨x0, x1, x2, x3, p0, p1, p2, p3⟩ := Wi HX5.out;obtain ⟨k0, k1, k2, k3, f0, f1, f2, f3⟩ := Wi HZ5.out;go_wp2_with fail;refine (HN.out _).mono ?_;rintro e w6 ⟨rfl, hb6⟩;have HX6 : Hid (Blk w6 X 249 #[w64 x.w0, w64 x.w1, w64 x.w2, w64 x.w3]) := HX5.below hb6 HX5.lt;have HZ6 : Hid (Blk w6 w.heap.size 249 zf) := HZ5.below hb6 HZ5.lt;have HB6 := bt HB5 hb6;clear hb6 HN HX5 HZ5 HB5 x0 x1 x2 x3 p0 p1 p2 p3 k0 k1 k2 k3 f0 f1 f2 f3;obtain ⟨x0, x1, x2, x3, p0, p1, p2, p3⟩ := Wi HX6.out;have HX7 := hid (Xn (b0 := w64 y.w0) (b1 := w64 y.w1) (b2 := w64 y.w2) (b3 := w64 y.w3) HX6.out);have HZ7 := hid (Un (g' := X) (b0 := w64 y.w0) (b1 := w64 y.w1) (b2 := w64 y.w2) (b3 := w64 y.w3) HZ6.out aa);have HB7 := hid (Xt (g := X) HB6.out aa (w64 y.w0) (w64 y.w1) (w64 y.w2) (w64 y.w3));go_upto_region 28 with fail;obtain ⟨w7, hw7⟩ := nE ((((w6.setCell ⟨X, 0, none⟩ (w64 y.w0)).setCell ⟨X, 1, none⟩ (w64 y.w1)).setCell ⟨X, 2, none⟩ (w64 y.w2)).setCell ⟨X, 3, none⟩ (w64 y.w3));rw [hw7] at HX7 HZ7 HB7 ⊢;clear hw7 HX6 HZ6 HB6 x0 x1 x2 x3 p0 p1 p2 p3;obtain ⟨x0, x1, x2, x3, -, -, -, -⟩ := Wi HX7.out;obtain ⟨k0, k1, k2, k3, f0, f1, f2, f3⟩ := Wi HZ7.out;have HZ9 := hid (Xn (b0 := w64 y.w0) (b1 := w64 y.w1) (b2 := w64 y.w2) (b3 := w64 y.w3) HZ7.out);have HB9 := hid (Xt (g := w.heap.size) HB7.out (Nat.le_refl _) (w64 y.w0) (w64 y.w1) (w64 y.w2) (w64 y.w3));go_wp2_with fail;obtain ⟨z0, z1, z2, z3, -, -, -, -⟩ := Wi HZ9.out;exact bodyPost_ret (v := .tuple #[.agg #[w64 y.w0, w64 y.w1, w64 y.w2, w64 y.w3], (j : Int), .int .i64 0]) ax rfl ⟨by rw [HRR.out]; rfl, HB9.out⟩
  ·exact N132
end Go.Proofs.YtpkkfdmhbbipoaaGreat
