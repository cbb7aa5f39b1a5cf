/- Plain: a pattern's text, read. Walks: glob.single, item. Walks: glob.Parse. Walks: the reference's one and stop (of a set's text). Walks: the reference's Read (a set's text). -/
import Derived.Test.YtpkkfdmhbbipoaaGreatMe
import Derived.Test.YtpkkfdmhbbipoaaGreatMb
import Derived.Deep.CutRange
import Derived.OwnWalk
import Derived.Test.YtpkkfdmhbbipoaaGreatMc
namespace Go.Proofs.YtpkkfdmhbbipoaaGreat
set_option maxRecDepth 20000
set_option maxHeartbeats 8000000
open Go.RowKit
theorem Zq6 (s : ByteArray) (n : Nat) (x : Zs) (i e : Nat) (hi : i ≤ s.size) : (Uy s n x i e).2.1 ≤ s.size := by
 induction n generalizing x i e with
 | zero => exact hi
 | succ n ih =>
  rw [Uy];split
  ·exact ih _ _ _ (Kv s i hi)
  ·exact hi
theorem Zq5 (s : ByteArray) (n : Nat) (x : Zs) (i e : Nat) (hi : i ≤ s.size) (hf : e = 0 → s.size + 1 ≤ i + n) (h : (Uy s n x i e).2.2 = 0) : isM s (Uy s n x i e).2.1 93 = true := by
 induction n generalizing x i e with
 | zero => exact absurd (hf h) aa
 | succ n ih =>
  rw [Uy] at h ⊢;by_cases hc : e = 0 ∧ isM s i 93 = false
  ·rw [if_pos hc] at h ⊢
   refine ih _ _ _ (Kv s i hi) (fun h0 => ?_) h;have := Zgh s i h0;have := hf hc.1;omega
  ·rw [if_neg hc] at h ⊢
   simp only at h ⊢;subst h;simpa using hc
theorem Zm3 (s : ByteArray) (i : Nat) : Ws s i ≤ s.size := by unfold Ws; split <;> omega
theorem Zii (s : ByteArray) : (Xh s).2.1 ≤ s.size ∧ ((Xh s).2.2 = 0 → 0 < (Xh s).2.1) := by
 have key : (Xr s).2.1 ≤ s.size ∧ ((Xr s).2.2 = 0 → 0 < (Xr s).2.1) := by
  unfold Xr;split
  ·rename_i h91
   have h1 : 1 ≤ s.size := Nr h91
   have hi0 : (if isM s 1 94 = true then 2 else 1) ≤ s.size := by
    split
    ·rename_i h; have := Nr h; omega
    ·exact h1
   generalize (if isM s 1 94 = true then 2 else 1) = i0 at *;have hp := Kv s i0 hi0;have hg := Zq6 s (s.size + 1) (Zw s i0).1 _ (Zw s i0).2.2 hp;have ho := Zq5 s (s.size + 1) (Zw s i0).1 _ (Zw s i0).2.2 hp (fun _ => aa);simp only;generalize Uy s (s.size + 1) (Zw s i0).1 (Zw s i0).2.1 (Zw s i0).2.2 = q at *;by_cases hq : q.2.2 = 0
   ·rw [if_pos hq]
    have := Nr (ho hq);exact ⟨kx, fun _ => kx⟩
   ·rw [if_neg hq]
    exact ⟨hg, fun h => absurd h hq⟩
  ·exact ⟨Zm3 s 0, fun h => absurd h (Wu s 0)⟩
 unfold Xh;split
 ·rename_i h; exact ⟨key.1, fun _ => key.2 h⟩
 ·rename_i h; exact ⟨key.1, fun h' => absurd h' h⟩
def Ye (s : ByteArray) (i : Nat) : Nat := (s.data.toList.getD i 0).toNat
def Yn (s : ByteArray) (i : Nat) : ByteArray := s.extract i s.size
theorem Xb (s : ByteArray) (i : Nat) : (Yn s i).size = s.size - i := by unfold Yn; rw [ByteArray.size_extract]; omega
theorem Kx (s : ByteArray) (i : Nat) : Ye s i < 256 := UInt8.toNat_lt _
theorem Xk (s : ByteArray) (i : Nat) (h : i < s.size) : Ye s i = (s[i]).toNat := by
 unfold Ye;rw [List.getD, List.getElem?_eq_getElem bq]; rfl
def Wz (q : ByteArray) : Zn × Nat × Nat :=
 if Ye q 0 = 42 then (⟨true, Zs.zero⟩, 1, 0)
 else if Ye q 0 = 63 then (⟨false, Zv 0 256⟩, 1, 0)
 else if Ye q 0 = 91 then (⟨false, (Xh q).1⟩, (Xh q).2.1, (Xh q).2.2)
 else if Ye q 0 = 93 then (⟨false, Zs.zero⟩, 0, 2)
 else if Ye q 0 = 37 then (if q.size = 1 then (⟨false, Zs.zero⟩, 1, 3) else (⟨false, Zv (Ye q 1) 1⟩, 2, 0))
 else (⟨false, Zv (Ye q 0) 1⟩, 1, 0)
theorem Zp2 (q : ByteArray) (h : 0 < q.size) : (Wz q).2.1 ≤ q.size ∧ ((Wz q).2.2 = 0 → 0 < (Wz q).2.1) := by
 unfold Wz;have hr := Zii q
 repeat' split
 ·exact ⟨h, fun _ => Nat.one_pos⟩
 ·exact ⟨h, fun _ => Nat.one_pos⟩
 ·exact hr
 ·exact ⟨Nat.zero_le _, fun h => fg⟩
 ·exact ⟨h, fun h => fg⟩
 ·exact ⟨kx, fun _ => Nat.succ_pos _⟩
 ·exact ⟨h, fun _ => Nat.one_pos⟩
theorem Zlf (q : ByteArray) : (Wz q).1.run = true → (Wz q).1.set = Zs.zero := by
 unfold Wz;split
 ·intro _; rfl
 ·split
  ·intro h; exact absurd h af
  ·split
   ·intro h; exact absurd h af
   ·split
    ·intro _; rfl
    ·split
     ·split
      ·intro _; rfl
      ·intro h; exact absurd h af
     ·intro h; exact absurd h af
def Wg (p : ByteArray) : Nat → List Zn → Nat → List Zn × Nat × Nat
 | 0, out, _ => (out, 0, 0)
 | f + 1, out, a =>
  if a < p.size then
   if out.length = 60 then ([], a, 4)
   else if (Wz (Yn p a)).2.2 = 0 then Wg p f (out ++ [(Wz (Yn p a)).1]) (a + (Wz (Yn p a)).2.1)
   else ([], a + (Wz (Yn p a)).2.1, (Wz (Yn p a)).2.2)
  else (out, 0, 0)
def Xd (p : ByteArray) : List Zn × Nat × Nat := Wg p 61 [] 0
theorem Zk3 (p : ByteArray) (f : Nat) (out : List Zn) (a : Nat) (h : ¬ a < p.size) : Wg p f out a = (out, 0, 0) := by
 cases f with
 | zero => rfl
 | succ f => rw [Wg, if_neg h]
theorem N79{P:Prop}(h:P:=by
 intro x hx;rcases List.mem_append.1 hx with hx | hx
 ·exact hg x hx
 ·rw [List.mem_singleton] at hx
  subst hx; exact Zlf _):P:=h
theorem Zdq (p : ByteArray) (f : Nat) (out : List Zn) (a : Nat) (hl : out.length + f ≤ 61) (hf : 1 ≤ f) (hg : ∀ x ∈ out, x.run = true → x.set = Zs.zero) :
  (Wg p f out a).1.length ≤ 60 ∧ ∀ x ∈ (Wg p f out a).1, x.run = true → x.set = Zs.zero := by
 induction f generalizing out a with
 | zero => omega
 | succ f ih =>
  rw [Wg];split
  ·split
   ·exact ⟨af, af⟩
   ·split
    ·by_cases h1 : 1 ≤ f
     ·refine ih _ _ ah h1 ?_
      exact N79
     ·obtain rfl : f = 0 := by omega
      rename_i h60 _
      refine ⟨by simp only [Wg, List.length_append, List.length_cons, List.length_nil]; omega, ?_⟩;exact N79
    ·exact ⟨af, af⟩
  ·exact ⟨kx, hg⟩
open PopT
theorem Zj9 {W : World} {g : Nat} {t : TypeId} {a0 a1 a2 a3 a4 : Value} (h : Blk W g t #[a0, a1, a2, a3, a4]) : W.cell? ⟨g, 0, none⟩ = some a0 ∧ W.cell? ⟨g, 1, none⟩ = some a1 ∧ W.cell? ⟨g, 2, none⟩ = some a2 ∧ W.cell? ⟨g, 3, none⟩ = some a3 ∧ W.cell? ⟨g, 4, none⟩ = some a4 ∧
  W.frozen? ⟨g, 0, none⟩ = false ∧ W.frozen? ⟨g, 1, none⟩ = false ∧ W.frozen? ⟨g, 2, none⟩ = false ∧ W.frozen? ⟨g, 3, none⟩ = false ∧ W.frozen? ⟨g, 4, none⟩ = false :=
 ⟨h.cell 0, h.cell 1, h.cell 2, h.cell 3, h.cell 4, h.frozen 0, h.frozen 1, h.frozen 2, h.frozen 3, h.frozen 4⟩
theorem Ze3 {W : World} {g : Nat} {t : TypeId} {a0 a1 a2 a3 a4 b0 b1 b2 b3 b4 : Value} (h : Blk W g t #[a0, a1, a2, a3, a4]) : Blk (((((W.setCell ⟨g, 0, none⟩ b0).setCell ⟨g, 1, none⟩ b1).setCell ⟨g, 2, none⟩ b2).setCell ⟨g, 3, none⟩ b3).setCell ⟨g, 4, none⟩ b4) g t #[b0, b1, b2, b3, b4] :=
 ((((h.set 0 b0).set 1 b1).set 2 b2).set 3 b3).set 4 b4
theorem Zb8 {B : Nat} {w W : World} {g : Nat} (h : Below B w W) (hg : B ≤ g) (b0 b1 b2 b3 b4 : Value) : Below B w (((((W.setCell ⟨g, 0, none⟩ b0).setCell ⟨g, 1, none⟩ b1).setCell ⟨g, 2, none⟩ b2).setCell ⟨g, 3, none⟩ b3).setCell ⟨g, 4, none⟩ b4) :=
 ((((h.setCell hg _).setCell hg _).setCell hg _).setCell hg _).setCell hg _
theorem Ze6 (b : Nat) (hb : b < 256) (w : World) :
  Calls Tryz.prog 230 #[.int .u8 (b : Int)] w fun e w' => e = .returned (Zv b 1).val ∧ Below w.heap.size w w' := by
 have HC := hid (fun W => Zge b b hb hb W);rw [Nat.add_sub_cancel_left] at HC;obtain ⟨t, ht⟩ := nE (Zv b 1);rw [ht] at HC ⊢;clear ht;obtain ⟨r0, r1, r2, r3⟩ := t;unfold Zs.val at HC ⊢;go_enter Tryz.func230, Tryz.ntmps230;go_wp2_with fail;refine (HC.out _).mono ?_;rintro e w1 ⟨rfl, hb1⟩;have HX1 : Hid (Blk w1 w.heap.size 249 zf) := (Blk.new w _ _).below hb1 af;have HB1 : Hid (Below w.heap.size w w1) := ((Below.refl w.heap.size w).alloc (Nat.le_refl _) _).trans (hb1.mono af);clear hb1 HC;obtain ⟨c0, c1, c2, c3, g0, g1, g2, g3⟩ := We HX1.out;have HZ := hid (Xj (b0 := w64 r0) (b1 := w64 r1) (b2 := w64 r2) (b3 := w64 r3) HX1.out);have HR := hid (Xp (g := w.heap.size) HB1.out (Nat.le_refl _) (w64 r0) (w64 r1) (w64 r2) (w64 r3));go_wp2_with fail;obtain ⟨z0, z1, z2, z3, -, -, -, -⟩ := We HZ.out;exact bodyPost_ret (v := .agg #[w64 r0, w64 r1, w64 r2, w64 r3]) (by simp [results, Tryz.results230, go_sem, z0, z1, z2, z3]) rfl ⟨rfl, HR.out⟩
theorem Zip (q : ByteArray) : Wz q = if Ye q 0 = 42 then (⟨true, Zs.zero⟩, 1, 0)
 else if Ye q 0 = 63 then (⟨false, Zv 0 256⟩, 1, 0)
 else if Ye q 0 = 91 then (⟨false, (Xh q).1⟩, (Xh q).2.1, (Xh q).2.2)
 else if Ye q 0 = 93 then (⟨false, Zs.zero⟩, 0, 2)
 else if Ye q 0 = 37 then (if q.size = 1 then (⟨false, Zs.zero⟩, 1, 3) else (⟨false, Zv (Ye q 1) 1⟩, 2, 0))
 else (⟨false, Zv (Ye q 0) 1⟩, 1, 0) := rfl
theorem N27{P:Prop}(h:P:=by
 rw [ht] at HC HE;clear ht HP;obtain ⟨r0, r1, r2, r3⟩ := t;unfold Zs.val at HC;go_enter Tryz.func219, Tryz.ntmps219;go_wp2_with fail;refine (HC.out _).mono ?_;rintro e w1 ⟨rfl, hb1⟩;have HX1 : Hid (Blk w1 w.heap.size 251 #[.bool false, .int .u64 0, .int .u64 0, .int .u64 0, .int .u64 0]) := HX0.below hb1 HX0.lt;have HB1 := bt HB0 hb1;clear hb1 HX0 HB0;obtain ⟨k0, k1, k2, k3, k4, g0, g1, g2, g3, g4⟩ := Zj9 HX1.out;have HZ := hid (Ze3 (b0 := .bool false) (b1 := w64 r0) (b2 := w64 r1) (b3 := w64 r2) (b4 := w64 r3) HX1.out);have HR := hid (Zb8 (g := w.heap.size) HB1.out (Nat.le_refl _) (.bool false) (w64 r0) (w64 r1) (w64 r2) (w64 r3));go_wp2_with fail;obtain ⟨z0, z1, z2, z3, z4, -, -, -, -, -⟩ := Zj9 HZ.out;exact bodyPost_ret (v := .tuple #[.agg #[.bool false, w64 r0, w64 r1, w64 r2, w64 r3], .int .i64 1, .int .i64 0]) eh rfl ⟨bc, HR.out⟩):P:=h
theorem Zp1 (q : ByteArray) (hq : 0 < q.size) (hs : q.size ≤ 1000000) (w : World) :
  Calls Tryz.prog 219 #[q] w fun e w' => e = .returned (.tuple #[(Wz q).1.val, .int .i64 ((Wz q).2.1 : Nat), .int .i64 ((Wz q).2.2 : Nat)]) ∧ Below w.heap.size w w' := by
 have hc0 := (Xk q 0 hq).symm;have hc8 := Kx q 0;have HP := Zip q;obtain ⟨c, hc⟩ := nE (Ye q 0);rw [hc] at hc0 hc8 HP;clear hc;have HP := hid HP;have HB0 : Hid (Below w.heap.size w (w.alloc (.cells #[.bool false, .int .u64 0, .int .u64 0, .int .u64 0, .int .u64 0] 251))) := (Below.refl w.heap.size w).alloc (Nat.le_refl _) _;have HX0 : Hid (Blk (w.alloc (.cells #[.bool false, .int .u64 0, .int .u64 0, .int .u64 0, .int .u64 0] 251)) w.heap.size 251 #[.bool false, .int .u64 0, .int .u64 0, .int .u64 0, .int .u64 0]) := Blk.new w _ _;by_cases h0 : c = 42
 ·have e0 : ((c : Int) == 42) = true := bT aa
  have HE : Hid (Wz q = (⟨true, Zs.zero⟩, 1, 0)) := by rw [Hid, HP.out, if_pos h0]
  clear HP;have HR : Hid (Below w.heap.size w (w.alloc (.cells #[.bool true, .int .u64 0, .int .u64 0, .int .u64 0, .int .u64 0] 251))) := (Below.refl w.heap.size w).alloc (Nat.le_refl _) _;go_enter Tryz.func219, Tryz.ntmps219;go_wp2_with fail;exact bodyPost_ret (v := .tuple #[.agg #[.bool true, .int .u64 0, .int .u64 0, .int .u64 0, .int .u64 0], .int .i64 1, .int .i64 0]) ia rfl ⟨bc, HR.out⟩
 ·have e0 : ((c : Int) == 42) = false := bF aa
  by_cases h1 : c = 63
  ·have e1 : ((c : Int) == 63) = true := bT aa
   have HE : Hid (Wz q = (⟨false, Zv 0 256⟩, 1, 0)) := by rw [Hid, HP.out, if_neg h0, if_pos h1]
   have HC := hid (fun W => Zge 0 255 aa aa W);rw [show 255 + 1 - 0 = 256 from rfl] at HC;obtain ⟨t, ht⟩ := nE (Zv 0 256);exact N27
  ·have e1 : ((c : Int) == 63) = false := bF aa
   by_cases h2 : c = 91
   ·have e2 : ((c : Int) == 91) = true := bT aa
    have HE : Hid (Wz q = (⟨false, (Xh q).1⟩, (Xh q).2.1, (Xh q).2.2)) := by rw [Hid, HP.out, if_neg h0, if_neg h1, if_pos h2]
    have HC := hid (fun W => Zne q W hs);obtain ⟨⟨t, n, e⟩, ht⟩ : ∃ t, Xh q = t := ⟨_, rfl⟩;rw [ht] at HC HE;clear ht HP;obtain ⟨r0, r1, r2, r3⟩ := t;unfold Zs.val at HC;simp only at HC HE;go_enter Tryz.func219, Tryz.ntmps219;go_wp2_with fail;refine (HC.out _).mono ?_;rintro e w1 ⟨rfl, hb1⟩;have HX1 : Hid (Blk w1 w.heap.size 251 #[.bool false, .int .u64 0, .int .u64 0, .int .u64 0, .int .u64 0]) := HX0.below hb1 HX0.lt;have HB1 := bt HB0 hb1;clear hb1 HX0 HB0;have HX2 : Hid (Blk (w1.alloc (.cells #[w64 r0, w64 r1, w64 r2, w64 r3] 249)) w.heap.size 251 #[.bool false, .int .u64 0, .int .u64 0, .int .u64 0, .int .u64 0]) := HX1.alloc _;have HB2 : Hid (Below w.heap.size w (w1.alloc (.cells #[w64 r0, w64 r1, w64 r2, w64 r3] 249))) := HB1.alloc HB1.size _;have hlt1 := HX1.lt;have HY2 : Hid (Blk (w1.alloc (.cells #[w64 r0, w64 r1, w64 r2, w64 r3] 249)) w1.heap.size 249 #[w64 r0, w64 r1, w64 r2, w64 r3]) := Blk.new w1 _ _;go_upto_region 8 with fail;obtain ⟨w2, hw2⟩ := nE ((w1.alloc (.cells #[w64 r0, w64 r1, w64 r2, w64 r3] 249)));rw [hw2] at HX2 HB2 HY2 ⊢;clear hw2 HX1 HB1;obtain ⟨y0, y1, y2, y3, -, -, -, -⟩ := We HY2.out;obtain ⟨k0, k1, k2, k3, k4, g0, g1, g2, g3, g4⟩ := Zj9 HX2.out;have HZ := hid (Ze3 (b0 := .bool false) (b1 := w64 r0) (b2 := w64 r1) (b3 := w64 r2) (b4 := w64 r3) HX2.out);have HR := hid (Zb8 (g := w.heap.size) HB2.out (Nat.le_refl _) (.bool false) (w64 r0) (w64 r1) (w64 r2) (w64 r3));go_wp2_with fail;obtain ⟨z0, z1, z2, z3, z4, -, -, -, -, -⟩ := Zj9 HZ.out;exact bodyPost_ret (v := .tuple #[.agg #[.bool false, w64 r0, w64 r1, w64 r2, w64 r3], (n : Int), (e : Int)]) eh rfl ⟨bc, HR.out⟩
   ·have e2 : ((c : Int) == 91) = false := bF aa
    by_cases h3 : c = 93
    ·have e3 : ((c : Int) == 93) = true := bT aa
     have HE : Hid (Wz q = (⟨false, Zs.zero⟩, 0, 2)) := by rw [Hid, HP.out, if_neg h0, if_neg h1, if_neg h2, if_pos h3]
     clear HP;have HR : Hid (Below w.heap.size w (w.alloc (.cells #[.bool false, .int .u64 0, .int .u64 0, .int .u64 0, .int .u64 0] 251))) := (Below.refl w.heap.size w).alloc (Nat.le_refl _) _;go_enter Tryz.func219, Tryz.ntmps219;go_wp2_with fail;exact bodyPost_ret (v := .tuple #[.agg #[.bool false, .int .u64 0, .int .u64 0, .int .u64 0, .int .u64 0], .int .i64 0, .int .i64 2]) ia rfl ⟨bc, HR.out⟩
    ·have e3 : ((c : Int) == 93) = false := bF aa
     by_cases h4 : c = 37
     ·have e4 : ((c : Int) == 37) = true := bT aa
      by_cases h5 : q.size = 1
      ·skip
       have HE : Hid (Wz q = (⟨false, Zs.zero⟩, 1, 3)) := by rw [Hid, HP.out, if_neg h0, if_neg h1, if_neg h2, if_neg h3, if_pos h4, if_pos h5]
       clear HP;have HR : Hid (Below w.heap.size w (w.alloc (.cells #[.bool false, .int .u64 0, .int .u64 0, .int .u64 0, .int .u64 0] 251))) := (Below.refl w.heap.size w).alloc (Nat.le_refl _) _;go_enter Tryz.func219, Tryz.ntmps219;go_wp2_with fail;exact bodyPost_ret (v := .tuple #[.agg #[.bool false, .int .u64 0, .int .u64 0, .int .u64 0, .int .u64 0], .int .i64 1, .int .i64 3]) ia rfl ⟨bc, HR.out⟩
      ·skip
       have HE : Hid (Wz q = (⟨false, Zv (Ye q 1) 1⟩, 2, 0)) := by rw [Hid, HP.out, if_neg h0, if_neg h1, if_neg h2, if_neg h3, if_pos h4, if_neg h5]
       have hq1 : 1 < q.size := aa
       have hd0 := (Xk q 1 hq1).symm;have hd8 := Kx q 1;obtain ⟨d, hd⟩ := nE (Ye q 1);rw [hd] at hd0 hd8 HE;clear hd;have HC := hid (fun W => Ze6 d hd8 W);obtain ⟨t, ht⟩ := nE (Zv d 1);rw [ht] at HC HE;clear ht HP;obtain ⟨r0, r1, r2, r3⟩ := t;unfold Zs.val at HC;go_enter Tryz.func219, Tryz.ntmps219;go_wp2_with fail;refine (HC.out _).mono ?_;rintro e w1 ⟨rfl, hb1⟩;have HX1 : Hid (Blk w1 w.heap.size 251 #[.bool false, .int .u64 0, .int .u64 0, .int .u64 0, .int .u64 0]) := HX0.below hb1 HX0.lt;have HB1 := bt HB0 hb1;clear hb1 HX0 HB0;obtain ⟨k0, k1, k2, k3, k4, g0, g1, g2, g3, g4⟩ := Zj9 HX1.out;have HZ := hid (Ze3 (b0 := .bool false) (b1 := w64 r0) (b2 := w64 r1) (b3 := w64 r2) (b4 := w64 r3) HX1.out);have HR := hid (Zb8 (g := w.heap.size) HB1.out (Nat.le_refl _) (.bool false) (w64 r0) (w64 r1) (w64 r2) (w64 r3));go_wp2_with fail;obtain ⟨z0, z1, z2, z3, z4, -, -, -, -, -⟩ := Zj9 HZ.out;exact bodyPost_ret (v := .tuple #[.agg #[.bool false, w64 r0, w64 r1, w64 r2, w64 r3], .int .i64 2, .int .i64 0]) eh rfl ⟨bc, HR.out⟩
     ·have e4 : ((c : Int) == 37) = false := bF aa
      have HE : Hid (Wz q = (⟨false, Zv c 1⟩, 1, 0)) := by rw [Hid, HP.out, if_neg h0, if_neg h1, if_neg h2, if_neg h3, if_neg h4]
      have HC := hid (fun W => Ze6 c hc8 W);obtain ⟨t, ht⟩ := nE (Zv c 1);exact N27
def Uq (R : List Zn × Nat × Nat) (w : World) (e : Ending) (w' : World) : Prop :=
 ∃ A c, e = .returned (.tuple #[.slice A R.1.length c, .int .i64 (R.2.1 : Nat), .int .i64 (R.2.2 : Nat)]) ∧ w'.ownsRow w.heap.size 251 5 (.slice A R.1.length c) R.1.length (Ya R.1) ∧ Below w.heap.size w w'
theorem Qu (w w' : World) (a e : Nat) (h : Below w.heap.size w w') : Uq ([], a, e) w (.returned (.tuple #[.slice none 0 0, (a : Int), (e : Int)])) w' :=
 ⟨none, 0, rfl, ⟨rfl, .inl ⟨rfl, rfl⟩⟩, h⟩
theorem N101{P:Prop}(h:P:=by
 go_wp2_with fail
 go_ret3
 have h := Qu w _ j e HB2.out;rw [← HE.out, HQ.out] at h;exact h):P:=h
theorem N67{P:Prop}(h:P:=by
 have HE : Hid (R = (out, 0, 0)) := by rw [Hid, ← HPAR.out, Zk3 _ _ _ _ hlt]
 go_wp2_with fail
 go_ret3
 rw [← HQ.out, HE.out];exact ⟨A, c, by rw [HK.out]; rfl, by rw [HK.out]; exact HOWN.out, HB.out⟩):P:=h
theorem N55{P:Prop}(h:P:=by
 have HE : Hid (R = ([], a, 4)) := by rw [Hid, ← HPAR.out, h60, Wg, if_pos hlt, if_pos (by rw [HK.out]; exact h60)]
 subst h60;go_wp2_with fail
 go_ret3
 have h := Qu w wr a 4 HB.out;rw [← HE.out, HQ.out] at h;exact h):P:=h
theorem Znn (p : ByteArray) (hp : p.size ≤ 1000000) (w : World) :
  Calls Tryz.prog 208 #[p] w fun e w' => Uq (Xd p) w e w' := by
 have HR : Hid (Wg p 61 [] 0 = Xd p) := rfl;obtain ⟨R, hR⟩ := nE (Xd p);rw [hR] at HR ⊢;clear hR;obtain ⟨Q, hQ⟩ := nE (Uq R w);rw [show (fun e w' => Uq R w e w') = Q from hQ];have HQ := hid hQ;clear hQ;go_enter Tryz.func208, Tryz.ntmps208;go_wp2_with fail
 go_loopw [5, 6] (fun v i wr => ∃ (a c : Nat) (A : Option Addr) (out : List Zn), a ≤ p.size ∧ out.length ≤ 60 ∧ i = .int .i64 (a : Int) ∧ v = .slice A out.length c ∧ Wg p (61 - out.length) out a = R ∧
   wr.ownsRow w.heap.size 251 5 (.slice A out.length c) out.length (Ya out) ∧ Below w.heap.size w wr) (fun _ i _ => p.size - (intOf i).toNat)
 case atStart => exact ⟨0, 0, none, [], aa, af, rfl, rfl, HR.out, ⟨rfl, .inl ⟨rfl, rfl⟩⟩, Below.refl _ _⟩
 case round =>
  obtain ⟨a, c, A, out, ha, hol, rfl, rfl, hpar, hown, hb⟩ := hrel;have HPAR := hid hpar; have HOWN := hid hown; have HB := hid hb;obtain ⟨k, hk⟩ := nE (out.length);have HK := hid hk;rw [hk] at hol HPAR HOWN ⊢;clear hpar hown hb hk HR;by_cases hlt : a < p.size
  ·by_cases h60 : k = 60
   ·exact N55
   ·have HI := hid (Zp1 (Yn p a) bk bk)
    have HLE := Zp2 (Yn p a) bk;rw [Xb] at HLE
    have HN : Hid (R = if (Wz (Yn p a)).2.2 = 0 then Wg p (60 - k) (out ++ [(Wz (Yn p a)).1]) (a + (Wz (Yn p a)).2.1) else ([], a + (Wz (Yn p a)).2.1, (Wz (Yn p a)).2.2)) := by
     rw [Hid, ← HPAR.out, show 61 - k = (60 - k) + 1 from aa, Wg, if_pos hlt, if_neg (by rw [HK.out]; exact h60)]
    obtain ⟨⟨x, n, e⟩, hx⟩ : ∃ t, Wz (Yn p a) = t := ⟨_, rfl⟩;rw [hx] at HI HLE HN;simp only at HLE HI HN;unfold Yn at HI;clear hx HPAR;obtain ⟨hle1, hle2⟩ := HLE;obtain ⟨j, hj⟩ := nE (a + n);have hj2 : ((a : Int) + (n : Int)) = (j : Int) := aa
    have hj3 : j ≤ p.size := aa
    rw [hj] at HN;by_cases he : e = 0
    ·subst he
     have HE : Hid (Wg p (60 - k) (out ++ [x]) j = R) := by rw [Hid, HN.out, if_pos rfl]
     have hn0 : 0 < n := hle2 rfl;have HJ : Hid (a < j) := eg
     clear HN hle2 hle1 hj;unfold Zn.val at HI;go_wp2_with fail;refine (HI.out _).mono ?_;rintro e w1 ⟨rfl, hb1⟩;have hs1 := HB.size;have HO1 : Hid (w1.ownsRow w.heap.size 251 5 (.slice A k c) k (Ya out)) := Yk HOWN.out hb1;have HB1 : Hid (Below w.heap.size w w1) := HB.trans (hb1.mono hs1);have hs2 := HB1.size;clear hb1 HOWN HB HI hs1;have hown2 : (w1.alloc (.cells #[x.run, w64 x.set.w0, w64 x.set.w1, w64 x.set.w2, w64 x.set.w3] 251)).ownsRow w.heap.size 251 5 (.slice A k c) k (Ya out) := Yk HO1.out ((Below.refl w1.heap.size w1).alloc (Nat.le_refl _) _);have HB2 : Hid (Below w.heap.size w (w1.alloc (.cells #[x.run, w64 x.set.w0, w64 x.set.w1, w64 x.set.w2, w64 x.set.w3] 251))) := HB1.alloc hs2 _;have HX2 := hid (Blk.new w1 251 #[x.run, w64 x.set.w0, w64 x.set.w1, w64 x.set.w2, w64 x.set.w3]);have hs3 : w.heap.size ≤ (w1.alloc (.cells #[x.run, w64 x.set.w0, w64 x.set.w1, w64 x.set.w2, w64 x.set.w3] 251)).heap.size := HB2.size;have HO2 := hid hown2;clear HO1 HB1 hown2;obtain ⟨k0, k1, k2, k3, k4, -, -, -, -, -⟩ := Zj9 HX2.out;go_upto_region 9 with fail;obtain ⟨w2, hw2⟩ := nE (w1.alloc (.cells #[x.run, w64 x.set.w0, w64 x.set.w1, w64 x.set.w2, w64 x.set.w3] 251));rw [hw2] at HB2 HX2 HO2 hs3 k0 k1 k2 k3 k4 ⊢;clear hw2 hs2;have hown2 := HO2.out;go_wp2_with (at_builtin; refine Qy _ rfl _ _ 223 rfl w.heap.size 251 _ 5 40 Tryz.underlying223 Jz rfl ac _ _ _ rfl hown2 1 (Zn.cells x) rfl rfl rfl ?_ ac hs3 ?_)
     ·omega
     intro A3 d3 w3 hown3 hg3;have HB3 := hid (Wn HB2.out hown2 hg3 (Nat.le_refl _) hs3);have HL : Hid ((out ++ [x]).length = k + 1) := ir
     have HO3 : Hid (w3.ownsRow w.heap.size 251 5 (.slice (some ⟨A3, 0, none⟩) (k + 1) d3) (k + 1) (Ya (out ++ [x]))) := by
      rw [Hid, Jv]; simpa [Ya] using hown3
     have HE2 : Hid (Wg p (61 - (k + 1)) (out ++ [x]) j = R) := by rw [Hid, show 61 - (k + 1) = 60 - k from aa]; exact HE.out
     have hk60 : k < 60 := aa
     clear hown2 hown3 hg3 HB2 HX2 HO2 hs3 k0 k1 k2 k3 k4 HE;go_wp2_with fail;go_roundw
     case rel => exact ⟨j, d3, some ⟨A3, 0, none⟩, out ++ [x], hj3, ck, rfl, by rw [HL.out], by rw [HL.out]; exact HE2.out, by rw [HL.out]; exact HO3.out, HB3.out⟩
     case measure => have := HJ.out; simp [intOf]; omega
    ·have HE : Hid (R = ([], j, e)) := by rw [Hid, HN.out, if_neg he]
     have he0 : ((e : Int) == 0) = false := bF aa;clear HN hle2 hle1 hj;unfold Zn.val at HI;go_wp2_with fail;refine (HI.out _).mono ?_;rintro en w1 ⟨rfl, hb1⟩;have HB2 : Hid (Below w.heap.size w (w1.alloc (.cells #[x.run, w64 x.set.w0, w64 x.set.w1, w64 x.set.w2, w64 x.set.w3] 251))) := (HB.trans (hb1.mono HB.size)).alloc (Nat.le_trans HB.size hb1.size) _;clear hb1 HI HOWN;exact N101
  ·exact N67
def Jm (q : ByteArray) : Nat × Nat × Bool :=
 if q.size = 0 then (0, 0, false)
 else if Ye q 0 = 93 then (0, 0, false)
 else if Ye q 0 = 45 then (0, 0, false)
 else if Ye q 0 ≠ 37 then (Ye q 0, 1, true)
 else if q.size = 1 then (0, 1, false)
 else (Ye q 1, 2, true)
theorem Gw (s : ByteArray) (i j : Nat) : Ye (Yn s i) j = Ye s (i + j) := by
 unfold Ye Yn;rw [ByteArray.data_extract, Array.toList_extract, List.extract_eq_take_drop];rw [List.take_of_length_le (by rw [List.length_drop]; exact Nat.le_of_eq af), List.getD, List.getElem?_drop]; rfl
theorem Zau (s : ByteArray) (i c : Nat) (h : i < s.size) : isM s i c = (Ye s i == c) := by
 rw [isM, decide_eq_true h, Bool.true_and]; rfl
theorem Zke (s : ByteArray) (i c : Nat) (h : ¬ i < s.size) : isM s i c = false := by
 rw [isM, decide_eq_false h, Bool.false_and]
theorem N106{P:Prop}(h:P:=by
 rw [hr] at hle hgo ⊢;exact .inl ⟨rfl, by rw [ho]; simp only [Nat.add_sub_cancel_left], kx, hle⟩):P:=h
theorem N82{P:Prop}(h:P:=by
 rw [hr];exact .inr ⟨Wu _ _, 0, ho, aa, by rw [Nat.add_zero, stop_eq _ aa]⟩):P:=h
theorem Zex (s : ByteArray) (i : Nat) (hi : i ≤ s.size) :
  ((Yd s i 0).2.2 = 0 ∧ Jm (Yn s i) = ((Yd s i 0).1, (Yd s i 0).2.1 - i, true) ∧ i < (Yd s i 0).2.1 ∧ (Yd s i 0).2.1 ≤ s.size) ∨
  ((Yd s i 0).2.2 ≠ 0 ∧ ∃ n, Jm (Yn s i) = (0, n, false) ∧ i + n ≤ s.size ∧ Yd s i 0 = (0, i + n, Wd s (i + n))) := by
 have hle := Nn s i 0 hi;have hgo := Np s i;have stop_eq : ∀ k, k ≤ s.size → Ws s k = k := fun k hk => by unfold Ws; split <;> omega
 by_cases h0 : i < s.size
 ·have b0 : Ye (Yn s i) 0 = Ye s i := Gw s i 0
  have b1 : Ye (Yn s i) 1 = Ye s (i + 1) := Gw s i 1;have hne : ¬ (Yn s i).size = 0 := bk
  have h37 := Zau s i 37 h0; have h93 := Zau s i 93 h0; have h45 := Zau s i 45 h0;by_cases c37 : Ye s i = 37
  ·have t37 : isM s i 37 = true := by rw [h37, beq_iff_eq]; exact c37
   by_cases h1 : i + 1 < s.size
   ·have hr : Yd s i 0 = (Ye s (i + 1), i + 2, 0) := by rw [Yd, if_pos t37, if_pos h1]; rfl
    have ho : Jm (Yn s i) = (Ye s (i + 1), 2, true) := by
     rw [Jm, if_neg hne, b0, c37, if_neg ac, if_neg ac, if_neg ac, if_neg bk, b1]
    exact N106
   ·have hr : Yd s i 0 = (0, Ws s (i + 1), Wd s (i + 1)) := by rw [Yd, if_pos t37, if_neg h1]
    have ho : Jm (Yn s i) = (0, 1, false) := by
     rw [Jm, if_neg hne, b0, c37, if_neg ac, if_neg ac, if_neg ac, if_pos bk]
    rw [hr];exact .inr ⟨Wu _ _, 1, ho, aa, by rw [stop_eq _ aa]⟩
  ·have t37 : ¬ isM s i 37 = true := by rw [h37, beq_iff_eq]; exact c37
   by_cases c93 : Ye s i = 93
   ·have hr : Yd s i 0 = (0, Ws s i, Wd s i) := by rw [Yd, if_neg t37, if_neg (by rw [h93, c93]; simp)]
    have ho : Jm (Yn s i) = (0, 0, false) := by rw [Jm, if_neg hne, b0, if_pos c93]
    exact N82
   ·by_cases c45 : Ye s i = 45
    ·have hr : Yd s i 0 = (0, Ws s i, Wd s i) := by rw [Yd, if_neg t37, if_neg (by rw [h45, c45]; simp)]
     have ho : Jm (Yn s i) = (0, 0, false) := by rw [Jm, if_neg hne, b0, if_neg c93, if_pos c45]
     exact N82
    ·have hr : Yd s i 0 = (Ye s i, i + 1, 0) := by
      rw [Yd, if_neg t37, if_pos ⟨h0, by rw [h93, beq_eq_false_iff_ne]; exact c93, by rw [h45, beq_eq_false_iff_ne]; exact c45⟩]; rfl
     have ho : Jm (Yn s i) = (Ye s i, 1, true) := by rw [Jm, if_neg hne, b0, if_neg c93, if_neg c45, if_pos c37]
     exact N106
 ·have hr : Yd s i 0 = (0, Ws s i, Wd s i) := by rw [Yd, if_neg (by rw [Zke s i 37 h0]; decide), if_neg aa]
  have ho : Jm (Yn s i) = (0, 0, false) := by rw [Jm, if_pos bk]
  exact N82
theorem Ks (q : ByteArray) : q.toList = q.data.toList := by
 obtain ⟨⟨l⟩⟩ := q;simp
theorem N39{P:Prop}(h:P:=by
 go_enter Tryz.func237, Tryz.ntmps237;go_wp2_with fail
 go_ret3
 exact ⟨bc, rfl⟩):P:=h
theorem Zcg (q : ByteArray) (_hs : q.size ≤ 1000000) (w : World) :
  Calls Tryz.prog 237 #[q] w fun e w' => e = .returned (.tuple #[.int .i64 ((Jm q).1 : Nat), .int .i64 ((Jm q).2.1 : Nat), .bool (Jm q).2.2]) ∧ w = w' := by
 by_cases h0 : q.size = 0
 ·have HE : Hid (Jm q = (0, 0, false)) := by rw [Hid, Jm, if_pos h0]
  have z0 : q.toList = [] := by rw [Ks]; exact List.eq_nil_of_length_eq_zero (by simpa using h0)
  exact N39
 ·have hq : 0 < q.size := by omega
  have z0 : ¬ q.toList = [] := by rw [Ks]; intro h; apply h0; have := congrArg List.length h; simpa using this
  have z1 : q.toList.isEmpty = false := da
  have hc0 := (Xk q 0 hq).symm;have hc8 := Kx q 0;have HO : Jm q = if Ye q 0 = 93 then (0, 0, false) else if Ye q 0 = 45 then (0, 0, false) else if Ye q 0 ≠ 37 then (Ye q 0, 1, true) else if q.size = 1 then (0, 1, false) else (Ye q 1, 2, true) := by rw [Jm, if_neg h0]
  obtain ⟨c, hc⟩ := nE (Ye q 0);rw [hc] at hc0 hc8 HO;have HO := hid HO;clear hc;by_cases h93 : c = 93
  ·have e93 : ((c : Int) == 93) = true := bT aa
   have HE : Hid (Jm q = (0, 0, false)) := by rw [Hid, HO.out, if_pos h93]
   clear HO;exact N39
  ·have e93 : ((c : Int) == 93) = false := bF aa
   by_cases h45 : c = 45
   ·have e45 : ((c : Int) == 45) = true := bT aa
    have HE : Hid (Jm q = (0, 0, false)) := by rw [Hid, HO.out, if_neg h93, if_pos h45]
    clear HO;exact N39
   ·have e45 : ((c : Int) == 45) = false := bF aa
    by_cases h37 : c = 37
    ·have e37 : ((c : Int) == 37) = true := bT aa
     by_cases h1 : q.size = 1
     ·have HE : Hid (Jm q = (0, 1, false)) := by rw [Hid, HO.out, if_neg h93, if_neg h45, if_neg aa, if_pos h1]
      clear HO;exact N39
     ·have HE : Hid (Jm q = (Ye q 1, 2, true)) := by rw [Hid, HO.out, if_neg h93, if_neg h45, if_neg aa, if_neg h1]
      have hq1 : 1 < q.size := aa
      have hd0 := (Xk q 1 hq1).symm;have hd8 := Kx q 1;obtain ⟨d, hd⟩ := nE (Ye q 1);rw [hd] at hd0 hd8 HE;clear HO hd;exact N39
    ·have e37 : ((c : Int) == 37) = false := bF aa
     have HE : Hid (Jm q = (c, 1, true)) := by rw [Hid, HO.out, if_neg h93, if_neg h45, if_pos h37]
     clear HO;exact N39
theorem Za1 (s : ByteArray) (i : Nat) (hi : i ≤ s.size) (_hs : s.size ≤ 1000000) (w : World) :
  Calls Tryz.prog 236 #[s, (i : Int)] w fun e w' => e = .returned (.tuple #[.agg zf, (i : Int), .int .i64 (Wd s i : Nat)]) ∧ Below w.heap.size w w' := by
 have HR : Hid (Below w.heap.size w (w.alloc (.cells zf 249))) := (Below.refl w.heap.size w).alloc (Nat.le_refl _) _;by_cases h : i = s.size
 ·have HE : Hid (Wd s i = 3) := by rw [Hid, Wd, if_neg aa]
  subst h;go_enter Tryz.func236, Tryz.ntmps236;go_wp2_with fail;exact bodyPost_ret (v := .tuple #[.agg zf, (s.size : Int), .int .i64 3]) (by simp [results, Tryz.results236, go_sem]) rfl ⟨bc, HR.out⟩
 ·have HE : Hid (Wd s i = 2) := by rw [Hid, Wd, if_pos aa]
  have e0 : ((i : Int) == (s.size : Int)) = false := bF aa;go_enter Tryz.func236, Tryz.ntmps236;go_wp2_with fail;exact bodyPost_ret (v := .tuple #[.agg zf, (i : Int), .int .i64 2]) (by simp [results, Tryz.results236, go_sem]) rfl ⟨bc, HR.out⟩
theorem Zll (x : Zs) (k : Nat) (hk : k < 256) : (Xi x).set k true = Xi (Zbi x k) := by
 apply List.ext_getElem
 ·rw [List.length_set, Xw, Xw]
 ·intro j h1 h2
  rw [Xw] at h2;rw [List.getElem_set];simp only [Xi, List.getElem_map, List.getElem_range];rw [Zcm _ _ _ hk h2];split
  ·rename_i h; subst h; simp
  ·rename_i h
   rw [show decide (j = k) = false from ah, Bool.or_false]
theorem Zre (x : Zs) (a k : Nat) (h : a + k < 256) : Zbi (orM x (Zv a k)) (a + k) = orM x (Zv a (k + 1)) := by
 refine Zs.ext_has fun c hc => ?_;rw [Zcm _ _ _ h hc, Zei _ _ _ hc, Zei _ _ _ hc, Zv, Zcm _ _ _ h hc, Bool.or_assoc]
theorem Zew (x : Zs) (a : Nat) : orM x (Zv a 0) = x := by
 refine Zs.ext_has fun c hc => ?_;rw [Zei _ _ _ hc, Zv, Ze0, Bool.or_false]
theorem Zdt (x : Zs) : Zdm (Xi x) = x := by
 refine Zs.ext_has fun c hc => ?_;rw [Zdf _ _ hc, Zlm x c hc]
theorem Zde {s : ByteArray} {i c : Nat} (hi : i ≤ s.size) (h : isM s i c = false) : i = s.size ∨ (i < s.size ∧ Ye s i ≠ c) := by
 by_cases h1 : i < s.size
 ·rw [Zau s i c h1, beq_eq_false_iff_ne] at h
  exact .inr ⟨h1, h⟩
 ·exact .inl aa
theorem Gc {s : ByteArray} {i c : Nat} (h : isM s i c = true) : i < s.size ∧ Ye s i = c := by
 have h1 := Nr h;rw [Zau s i c h1, beq_iff_eq] at h;exact ⟨h1, h⟩
theorem N51{P:Prop}(h:P:=by
 rw [Ks]; intro h;have h' : s.size = 0 := by have := congrArg List.length h; simpa using this
 omega):P:=h
theorem N118{P:Prop}(h:P:=by
 skip
 obtain ⟨-, n1, ho1, hle1, hr1⟩ := h1
 have HE : Hid (Xh s = (Zs.zero, i + n1, Wd s (i + n1))) := by
  have hp : Zw s i = (Zv 0 1, i + n1, Wd s (i + n1)) := by
   simp only [Zw]; rw [hr1]; simp only; rw [if_neg ji]
  have hq : Q = (orM x (Zv 0 1), i + n1, Wd s (i + n1)) := by rw [← HPX.out, hp, Mx _ _ _ _ _ (Wu _ _)]
  rw [Hid, HR.out, hq, if_neg (Wu _ _)]
 have C1 := hid (fun W => Zcg (Yn s i) bk W);rw [ho1] at C1;unfold Yn at C1;obtain ⟨j1, hj1⟩ := nE (i + n1);have hj1' : ((i : Int) + (n1 : Int)) = (j1 : Int) := aa
 rw [hj1] at HE hle1;clear hj1 HR HPX;go_wp2_with fail;refine (C1.out _).mono ?_;rintro e w7 ⟨rfl, rfl⟩;go_wp2_with fail;refine (Za1 s j1 hle1 hs _).mono ?_;rintro e w8 ⟨rfl, hb8⟩;have HZ8 : Hid (Blk w8 w.heap.size 249 zf) := HZ.below hb8 HZ.lt;have HB8 := bt HB hb8;clear hb8;obtain ⟨k0, k1, k2, k3, f0, f1, f2, f3⟩ := We HZ8.out;have HZ9 := hid (Xj (b0 := .int .u64 0) (b1 := .int .u64 0) (b2 := .int .u64 0) (b3 := .int .u64 0) HZ8.out);have HB9 := hid (Xp (g := w.heap.size) HB8.out (Nat.le_refl _) (.int .u64 0) (.int .u64 0) (.int .u64 0) (.int .u64 0));go_wp2_with fail;obtain ⟨z0, z1, z2, z3, -, -, -, -⟩ := We HZ9.out;exact bodyPost_ret (v := .tuple #[.agg zf, (j1 : Int), .int .i64 (Wd s j1 : Nat)]) au rfl ⟨bc, HB9.out⟩):P:=h
theorem N3{P:Prop}(h:P:=by
 rcases Zex s i hi with h1 | h1
 ·obtain ⟨-, -, h, h'⟩ := h1
  omega
 ·exact N118):P:=h
theorem N134{P:Prop}(h:P:=by
 have hp : Zw s i = (Zv a 1, i1, 0) := by
  simp only [Zw]; rw [hr1]; simp only; rw [if_neg (by rw [h45]; simp)]
 rw [Hid, ← HNX.out, hp, Nat.add_sub_cancel_left]):P:=h
theorem N116{P:Prop}(h:P:=by
 have hby : a + k < 256 := aa
 obtain ⟨u, hu⟩ : ∃ u, (Zu (Xi (orM x (Zv a k))))[a + k]? = some u := ⟨_, List.getElem?_eq_getElem (by rw [hol]; exact hby)⟩;have hcl : wr.cell? ⟨g, a + k, none⟩ = some u := by rw [ho2.cellAt _ aa]; exact hu
 have hfr := ho2.frozenAt (a + k);have HST := hid (ho2.stored (a + k) (.bool true));have HPU : Hid ((Zu (Xi (orM x (Zv a k)))).set (a + k) (.bool true) = Zu (Xi (orM x (Zv a (k + 1))))) := by rw [Hid, ← Zre x a k hby, ← Zll _ _ hby, Nb]
 obtain ⟨i9, hi9⟩ := nE (a + k);rw [hi9] at hcl hfr HST hlt HPU hby ⊢;have HI9 := hid hi9;clear ho2 hol hi9 hu;go_wp2_with fail;go_roundw
 case rel =>
  refine ⟨k + 1, by have := HI9.out; omega, by have := HI9.out; go_num, ?_, HZ2.set_far aa, HB2.setCell ah _, by simpa using hsz2⟩;rw [← HPU.out]; exact HST.1
 case measure => simp [intOf]; omega):P:=h
theorem N1{P:Prop}(h:P:=by
 rcases Zex s i hi with h1 | h1
 ·obtain ⟨he1, ho1, hlt1, hi1s⟩ := h1
  obtain ⟨⟨a, i1, e1⟩, hr1⟩ : ∃ t, Yd s i 0 = t := ⟨_, rfl⟩;have ha256 : a < 256 := by have := Gr s i 0; rw [hr1] at this; exact this
  rw [hr1] at he1 ho1 hlt1 hi1s;simp only at he1 ho1 hlt1 hi1s;subst he1;obtain ⟨n', hn'⟩ : ∃ n', n = n' + 1 := ⟨n - 1, aa⟩;subst hn';have HNX := HPX;have C1 := hid (fun W => Zcg (Yn s i) bk W);rw [ho1] at C1;unfold Yn at C1;obtain ⟨d1, hd1⟩ := nE (i1 - i);have hd1' : ((i : Int) + (d1 : Int)) = (i1 : Int) := aa
  rw [hd1] at C1;clear hd1 ho1;cases h45 : isM s i1 45
  ·rcases Zde hi1s h45 with h46 | ⟨h46, h47⟩
   ·skip
    have HNX2 : Hid (Uy s (n' + 1) (orM x (Zv a (a + 1 - a))) i1 0 = Q) := by
     exact N134
    have HLE : Hid (i1 ≤ s.size) := hi1s;have HLT : Hid (i < i1 ∧ i < s.size ∧ s.size ≤ i + (n' + 1)) := ⟨aa, aa, aa⟩;clear HNX HR HPX h45 hr1;have HNX := HNX2;clear HNX2;subst h46;go_wp2_with fail;refine (C1.out _).mono ?_;rintro e w7 ⟨rfl, rfl⟩;obtain ⟨wo, hwo⟩ : ∃ wo : World, wo = wr := ⟨_, rfl⟩;rw [← hwo] at HO HZ HB ⊢;have hs2 : w.heap.size + 1 ≤ wo.heap.size := by rw [hwo]; exact hsz
    clear hwo hsz;go_wp2_with fail
    go_loopw [13] (fun jv wr2 => ∃ (k : Nat), a + k ≤ a + 1 ∧ jv = .int .i64 ((a + k : Nat) : Int) ∧ wr2.ownsRow (w.heap.size + 1) 4 1 (.slice (some ⟨g, 0, none⟩) 256 c1) 256 (Zu (Xi (orM x (Zv a k)))) ∧
      Blk wr2 w.heap.size 249 zf ∧ Below w.heap.size w wr2 ∧ w.heap.size + 1 ≤ wr2.heap.size) (fun jv _ => a + 1 - (intOf jv).toNat)
    case atStart => exact ⟨0, aa, rfl, by rw [Zew]; exact HO.out, HZ.out, HB.out, hs2⟩
    case round =>
     obtain ⟨k, hk, rfl, ho2, hz2, hb2, hsz2⟩ := hrel;have HZ2 := hid hz2; have HB2 := hid hb2;clear hz2 hb2 HO HZ HB hs2;have hol : (Zu (Xi (orM x (Zv a k)))).length = 256 := by rw [Uf, Xw]
     by_cases hlt : a + k ≤ a
     ·exact N116
     ·have hkk : k = a + 1 - a := by omega
      have HO2 : Hid (wr.ownsRow (w.heap.size + 1) 4 1 (.slice (some ⟨g, 0, none⟩) 256 c1) 256 (Zu (Xi (orM x (Zv a (a + 1 - a)))))) := by rw [Hid, ← hkk]; exact ho2
      clear ho2 hol hkk;go_wp2_with fail;go_roundw
      case rel => exact ⟨s.size, n', orM x (Zv a (a + 1 - a)), false, HLE.out, by have := HLT.out; omega, rfl, rfl, HNX.out, HO2.out, HZ2.out, HB2.out, hsz2⟩
      case measure => have := HLT.out; simp [intOf]; omega
   ·skip
    have HNX2 : Hid (Uy s (n' + 1) (orM x (Zv a (a + 1 - a))) i1 0 = Q) := by
     exact N134
    have HLE : Hid (i1 ≤ s.size) := hi1s;have HLT : Hid (i < i1 ∧ i < s.size ∧ s.size ≤ i + (n' + 1)) := ⟨aa, aa, aa⟩;clear HNX HR HPX h45 hr1;have HNX := HNX2;clear HNX2;have hby1 := (Xk s i1 h46).symm;obtain ⟨cb, hcb⟩ := nE (Ye s i1);rw [hcb] at hby1 h47;have e45 : ((cb : Int) == 45) = false := bF aa;clear hcb;go_wp2_with fail;refine (C1.out _).mono ?_;rintro e w7 ⟨rfl, rfl⟩;obtain ⟨wo, hwo⟩ : ∃ wo : World, wo = wr := ⟨_, rfl⟩;rw [← hwo] at HO HZ HB ⊢;have hs2 : w.heap.size + 1 ≤ wo.heap.size := by rw [hwo]; exact hsz
    clear hwo hsz;go_wp2_with fail
    go_loopw [13] (fun jv wr2 => ∃ (k : Nat), a + k ≤ a + 1 ∧ jv = .int .i64 ((a + k : Nat) : Int) ∧ wr2.ownsRow (w.heap.size + 1) 4 1 (.slice (some ⟨g, 0, none⟩) 256 c1) 256 (Zu (Xi (orM x (Zv a k)))) ∧
      Blk wr2 w.heap.size 249 zf ∧ Below w.heap.size w wr2 ∧ w.heap.size + 1 ≤ wr2.heap.size) (fun jv _ => a + 1 - (intOf jv).toNat)
    case atStart => exact ⟨0, aa, rfl, by rw [Zew]; exact HO.out, HZ.out, HB.out, hs2⟩
    case round =>
     obtain ⟨k, hk, rfl, ho2, hz2, hb2, hsz2⟩ := hrel;have HZ2 := hid hz2; have HB2 := hid hb2;clear hz2 hb2 HO HZ HB hs2;have hol : (Zu (Xi (orM x (Zv a k)))).length = 256 := by rw [Uf, Xw]
     by_cases hlt : a + k ≤ a
     ·exact N116
     ·have hkk : k = a + 1 - a := by omega
      have HO2 : Hid (wr.ownsRow (w.heap.size + 1) 4 1 (.slice (some ⟨g, 0, none⟩) 256 c1) 256 (Zu (Xi (orM x (Zv a (a + 1 - a)))))) := by rw [Hid, ← hkk]; exact ho2
      clear ho2 hol hkk;go_wp2_with fail;go_roundw
      case rel => exact ⟨i1, n', orM x (Zv a (a + 1 - a)), false, HLE.out, by have := HLT.out; omega, rfl, rfl, HNX.out, HO2.out, HZ2.out, HB2.out, hsz2⟩
      case measure => have := HLT.out; simp [intOf]; omega
  ·obtain ⟨h46, h47⟩ := Gc h45
   have hby1 := (Xk s i1 h46).symm;rw [h47] at hby1;go_wp2_with fail;refine (C1.out _).mono ?_;rintro e w7 ⟨rfl, rfl⟩;rcases Zex s (i1 + 1) aa with h2 | h2
   ·obtain ⟨he2, ho2, hlt2, hi2s⟩ := h2
    obtain ⟨⟨b, i2, e2⟩, hr2⟩ : ∃ t, Yd s (i1 + 1) 0 = t := ⟨_, rfl⟩;have hb256 : b < 256 := by have := Gr s (i1 + 1) 0; rw [hr2] at this; exact this
    rw [hr2] at he2 ho2 hlt2 hi2s;simp only at he2 ho2 hlt2 hi2s;subst he2;have C2 := hid (fun W => Zcg (Yn s (i1 + 1)) bk W);rw [ho2] at C2;unfold Yn at C2;obtain ⟨j1, hj1⟩ := nE (i1 + 1);have hj1' : ((i1 : Int) + 1) = (j1 : Int) := aa
    have hj1s : j1 ≤ s.size := aa
    obtain ⟨d2, hd2⟩ := nE (i2 - j1);have hd2' : ((j1 : Int) + (d2 : Int)) = (i2 : Int) := aa
    rw [hj1, hd2] at C2;have HJ1 := hid hj1;clear hd2 hj1 ho2;by_cases hba : b < a
    ·skip
     have HE : Hid (Xh s = (Zs.zero, i2 - 1, 12)) := by
      have hp : Zw s i = (Zv a (b + 1 - a), i2 - 1, 12) := by
       simp only [Zw]; rw [hr1]; simp only; rw [if_pos ⟨trivial, h45⟩, hr2]; simp only; rw [if_pos ⟨trivial, hba⟩]
      have hq : Q = (orM x (Zv a (b + 1 - a)), i2 - 1, 12) := by rw [← HNX.out, hp, Mx _ _ _ _ _ (show (12 : Nat) ≠ 0 by decide)]
      rw [Hid, HR.out, hq, if_neg (show ¬ (12 : Nat) = 0 by decide)]
     obtain ⟨j3, hj3⟩ := nE (i2 - 1);have hj3' : ((i2 : Int) - 1) = (j3 : Int) := aa
     rw [hj3] at HE;clear hj3 HNX HR HPX;go_wp2_with fail;refine (C2.out _).mono ?_;rintro e w7 ⟨rfl, rfl⟩;obtain ⟨k0, k1, k2, k3, f0, f1, f2, f3⟩ := We HZ.out;have HZ9 := hid (Xj (b0 := .int .u64 0) (b1 := .int .u64 0) (b2 := .int .u64 0) (b3 := .int .u64 0) HZ.out);have HB9 := hid (Xp (g := w.heap.size) HB.out (Nat.le_refl _) (.int .u64 0) (.int .u64 0) (.int .u64 0) (.int .u64 0));go_wp2_with fail;obtain ⟨z0, z1, z2, z3, -, -, -, -⟩ := We HZ9.out;exact bodyPost_ret (v := .tuple #[.agg zf, (j3 : Int), .int .i64 12]) au rfl ⟨bc, HB9.out⟩
    ·skip
     have HNX2 : Hid (Uy s (n' + 1) (orM x (Zv a (b + 1 - a))) i2 0 = Q) := by
      have hp : Zw s i = (Zv a (b + 1 - a), i2, 0) := by
       simp only [Zw]; rw [hr1]; simp only; rw [if_pos ⟨trivial, h45⟩, hr2]; simp only; rw [if_neg (by rintro ⟨-, h'⟩; exact hba h')]
      rw [Hid, ← HNX.out, hp]
     have HLE : Hid (i2 ≤ s.size) := hi2s;have HLT : Hid (i < i2 ∧ i < s.size ∧ s.size ≤ i + (n' + 1)) := ⟨aa, aa, aa⟩;clear HNX HR HPX;have HNX := HNX2;clear HNX2;go_wp2_with fail;refine (C2.out _).mono ?_;rintro e w7 ⟨rfl, rfl⟩;obtain ⟨wo, hwo⟩ : ∃ wo : World, wo = wr := ⟨_, rfl⟩;rw [← hwo] at HO HZ HB ⊢;have hs2 : w.heap.size + 1 ≤ wo.heap.size := by rw [hwo]; exact hsz
     clear hwo hsz;go_wp2_with fail
     go_loopw [13] (fun jv wr2 => ∃ (k : Nat), a + k ≤ b + 1 ∧ jv = .int .i64 ((a + k : Nat) : Int) ∧ wr2.ownsRow (w.heap.size + 1) 4 1 (.slice (some ⟨g, 0, none⟩) 256 c1) 256 (Zu (Xi (orM x (Zv a k)))) ∧
       Blk wr2 w.heap.size 249 zf ∧ Below w.heap.size w wr2 ∧ w.heap.size + 1 ≤ wr2.heap.size) (fun jv _ => b + 1 - (intOf jv).toNat)
     case atStart => exact ⟨0, aa, rfl, by rw [Zew]; exact HO.out, HZ.out, HB.out, hs2⟩
     case round =>
      obtain ⟨k, hk, rfl, ho2, hz2, hb2, hsz2⟩ := hrel;have HZ2 := hid hz2; have HB2 := hid hb2;clear hz2 hb2 HO HZ HB hs2;have hol : (Zu (Xi (orM x (Zv a k)))).length = 256 := by rw [Uf, Xw]
      by_cases hlt : a + k ≤ b
      ·exact N116
      ·have hkk : k = b + 1 - a := by omega
       have HO2 : Hid (wr.ownsRow (w.heap.size + 1) 4 1 (.slice (some ⟨g, 0, none⟩) 256 c1) 256 (Zu (Xi (orM x (Zv a (b + 1 - a)))))) := by rw [Hid, ← hkk]; exact ho2
       clear ho2 hol hkk;go_wp2_with fail;go_roundw
       case rel => exact ⟨i2, n', orM x (Zv a (b + 1 - a)), false, HLE.out, by have := HLT.out; omega, rfl, rfl, HNX.out, HO2.out, HZ2.out, HB2.out, hsz2⟩
       case measure => have := HLT.out; simp [intOf]; omega
   ·skip
    obtain ⟨-, n2, ho2, hle2, hr2⟩ := h2
    have HE : Hid (Xh s = (Zs.zero, i1 + 1 + n2, Wd s (i1 + 1 + n2))) := by
     have hp : Zw s i = (Zv a (0 + 1 - a), i1 + 1 + n2, Wd s (i1 + 1 + n2)) := by
      simp only [Zw]; rw [hr1]; simp only; rw [if_pos ⟨trivial, h45⟩, hr2, if_neg ji]
     have hq : Q = (orM x (Zv a (0 + 1 - a)), i1 + 1 + n2, Wd s (i1 + 1 + n2)) := by rw [← HNX.out, hp, Mx _ _ _ _ _ (Wu _ _)]
     rw [Hid, HR.out, hq, if_neg (Wu _ _)]
    have C2 := hid (fun W => Zcg (Yn s (i1 + 1)) bk W);rw [ho2] at C2;unfold Yn at C2;obtain ⟨j1, hj1⟩ := nE (i1 + 1);have hj1' : ((i1 : Int) + 1) = (j1 : Int) := aa
    obtain ⟨j2, hj2⟩ := nE (j1 + n2);have hj2' : ((j1 : Int) + (n2 : Int)) = (j2 : Int) := aa
    rw [hj1] at C2 HE hle2;rw [hj2] at HE hle2;have hj1s : j1 ≤ s.size := aa
    clear hj1 hj2 HNX HR HPX;go_wp2_with fail;refine (C2.out _).mono ?_;rintro e w7 ⟨rfl, rfl⟩;go_wp2_with fail;refine (Za1 s j2 hle2 hs _).mono ?_;rintro e w8 ⟨rfl, hb8⟩;have HZ8 : Hid (Blk w8 w.heap.size 249 zf) := HZ.below hb8 HZ.lt;have HB8 := bt HB hb8;clear hb8;obtain ⟨k0, k1, k2, k3, f0, f1, f2, f3⟩ := We HZ8.out;have HZ9 := hid (Xj (b0 := .int .u64 0) (b1 := .int .u64 0) (b2 := .int .u64 0) (b3 := .int .u64 0) HZ8.out);have HB9 := hid (Xp (g := w.heap.size) HB8.out (Nat.le_refl _) (.int .u64 0) (.int .u64 0) (.int .u64 0) (.int .u64 0));go_wp2_with fail;obtain ⟨z0, z1, z2, z3, -, -, -, -⟩ := We HZ9.out;exact bodyPost_ret (v := .tuple #[.agg zf, (j2 : Int), .int .i64 (Wd s j2 : Nat)]) au rfl ⟨bc, HB9.out⟩
 ·exact N118):P:=h
theorem N129{P:Prop}(h:P:=by
 have HPX : Hid (Uy s n (orM x (Zw s i).1) (Zw s i).2.1 (Zw s i).2.2 = Q) := by have := HGO.out; rwa [if_pos rfl] at this
 clear HGO;by_cases hisz : i = s.size
 ·skip
  have hge : s.size ≤ i := aa
  clear hisz;exact N3
 ·have h94' : i < s.size := by omega
  exact N1):P:=h
theorem N122{P:Prop}(h:P:=by
 have HPX : Hid (Uy s n (orM x (Zw s i).1) (Zw s i).2.1 (Zw s i).2.2 = Q) := by rw [Hid, ← HGO2.out, Uy, if_pos ⟨rfl, h93⟩]
 clear HGO2;rcases Zde hi h93 with h94' | ⟨h94', h95'⟩
 ·skip
  clear h93;have hge : s.size ≤ i := aa
  have e93' : ((i : Int) == (s.size : Int)) = true := bT aa;clear h94';exact N3
 ·have hby9 := (Xk s i h94').symm
  obtain ⟨cb0, hcb0⟩ := nE (Ye s i);rw [hcb0] at hby9 h95';have e93 : ((cb0 : Int) == 93) = false := bF aa;have e93' : ((i : Int) == (s.size : Int)) = false := bF aa;clear hcb0 h93;exact N1):P:=h
theorem Znc (s : ByteArray) (w : World) (hs : s.size ≤ 1000000) (h91 : isM s 0 91 = true) (h94 : isM s 1 94 = true) (Q : Zs × Nat × Nat) (hq : Uy s (s.size + 1) (Zw s 2).1 (Zw s 2).2.1 (Zw s 2).2.2 = Q)
  (hr : Xh s = if Q.2.2 = 0 then (Zbe Q.1, Q.2.1 + 1, 0) else (Zs.zero, Q.2.1, Q.2.2)) :
  Calls Tryz.prog 224 #[s] w fun e w' => e = .returned (.tuple #[(Xh s).1.val, .int .i64 ((Xh s).2.1 : Nat), .int .i64 ((Xh s).2.2 : Nat)]) ∧ Below w.heap.size w w' := by
 have HR := hid hr;have HQ : Hid (Uy s (s.size + 1) (orM Zs.zero (Zw s 2).1) (Zw s 2).2.1 (Zw s 2).2.2 = Q) := by rw [Hid, Zin]; exact hq
 obtain ⟨h0, hb0⟩ := Gc h91;have hby0 := (Xk s 0 h0).symm;rw [hb0] at hby0;have hi0 : 2 ≤ s.size := by have := Nr h94; omega
 have z0 : ¬ s.toList = [] := by
  exact N51
 have z1 : s.toList.isEmpty = false := da
 clear h91 hq hr hb0;obtain ⟨h1, hb1⟩ := Gc h94;have hby1 := (Xk s 1 h1).symm;rw [hb1] at hby1;clear h94 hb1;go_enter Tryz.func224, Tryz.ntmps224;go_wp2_with fail;refine (My _).mono ?_;rintro e w1 ⟨A1, c1, rfl, hown, hbl⟩;simp only [World.size_alloc] at hown hbl;have hz1 := (Blk.new w 249 #[.int .u64 0, .int .u64 0, .int .u64 0, .int .u64 0]).below hbl af;have hb1 := ((Below.refl w.heap.size w).alloc (Nat.le_refl _) (.cells zf 249)).trans (hbl.mono af);have hsz1 := hbl.size;simp only [World.size_alloc] at hsz1;have HZ1 := hid hz1
 obtain ⟨g, cap, hA1, hgb⟩ : ∃ g cap, Value.slice A1 256 c1 = .slice (some ⟨g, 0, none⟩) 256 cap ∧ w.heap.size + 1 ≤ g := by
  exact N64
 injection hA1 with hA1 _ hc1
 subst hA1 hc1;clear hbl hz1;have HO1 : Hid (w1.ownsRow (w.heap.size + 1) 4 1 (.slice (some ⟨g, 0, none⟩) 256 c1) 256 (Zu (Xi Zs.zero))) := by rw [Hid, Zal]; exact hown
 have HB1 := hid hb1;clear hown hb1;go_wp2_with fail
 go_loopw [6, 8] (fun iv fv wr => ∃ (i n : Nat) (x : Zs) (fst : Bool), i ≤ s.size ∧ s.size ≤ i + n ∧ iv = .int .i64 (i : Int) ∧ fv = .bool fst ∧
   (if fst = true then Uy s n (orM x (Zw s i).1) (Zw s i).2.1 (Zw s i).2.2 = Q else Uy s (n + 1) x i 0 = Q) ∧
   wr.ownsRow (w.heap.size + 1) 4 1 (.slice (some ⟨g, 0, none⟩) 256 c1) 256 (Zu (Xi x)) ∧ Blk wr w.heap.size 249 zf ∧ Below w.heap.size w wr ∧ w.heap.size + 1 ≤ wr.heap.size) (fun iv _ _ => s.size - (intOf iv).toNat)
 case atStart => exact ⟨2, s.size + 1, Zs.zero, true, hi0, aa, rfl, rfl, by rw [if_pos rfl]; exact HQ.out, HO1.out, HZ1.out, HB1.out, hsz1⟩
 case round =>
  obtain ⟨i, n, x, fst, hi, hn, rfl, rfl, hgo, hown, hz, hbl, hsz⟩ := hrel;have HO := hid hown; have HZ := hid hz; have HB := hid hbl; have HGO := hid hgo;clear hown hz hbl HQ HO1 HZ1 HB1 hsz1 hgo;cases fst
  ·have HGO2 : Hid (Uy s (n + 1) x i 0 = Q) := by have := HGO.out; rwa [if_neg ac] at this
   clear HGO;cases h93 : isM s i 93
   ·exact N122
   ·have HE : Hid (Q = (x, i, 0)) := by rw [Hid, ← HGO2.out, Za5 s (n + 1) x i 0 h93]
    obtain ⟨h94', h95'⟩ := Gc h93;have hby9 := (Xk s i h94').symm;rw [h95'] at hby9;have e93' : ((i : Int) == (s.size : Int)) = false := bF aa;have HRR : Hid (Xh s = (Zbe x, i + 1, 0)) := by rw [Hid, HR.out, HE.out]; rfl
    have HMK := hid (Zcj (some ⟨g, 0, none⟩) c1 (Xi x) wr (Xw x) (Wl HO.out));rw [Zdt] at HMK;obtain ⟨j, hj⟩ := nE (i + 1);have hj' : ((i : Int) + 1) = (j : Int) := aa
    rw [hj] at HRR;clear HE HGO2 h93 hj HR HO;have HN := hid (fun W => Zps x W);obtain ⟨y, hy⟩ := nE (Zbe x);rw [hy] at HN HRR;clear hy;unfold Zs.val at *;go_wp2_with fail;refine HMK.mono ?_;rintro e w4 ⟨rfl, hb4⟩;have HZ4 : Hid (Blk w4 w.heap.size 249 zf) := HZ.below hb4 HZ.lt;have HB4 := bt HB hb4;have hlt4 := HZ4.lt;clear hb4 HMK HZ HB;have HX5 := hid (Blk.new w4 249 #[w64 x.w0, w64 x.w1, w64 x.w2, w64 x.w3]);have HZ5 : Hid (Blk (w4.alloc (.cells #[w64 x.w0, w64 x.w1, w64 x.w2, w64 x.w3] 249)) w.heap.size 249 #[.int .u64 0, .int .u64 0, .int .u64 0, .int .u64 0]) := HZ4.alloc _;have HB5 : Hid (Below w.heap.size w (w4.alloc (.cells #[w64 x.w0, w64 x.w1, w64 x.w2, w64 x.w3] 249))) := HB4.alloc HB4.size _;obtain ⟨X, hX⟩ := nE (w4.heap.size);rw [hX] at HX5 hlt4;go_upto_region 26 with fail;obtain ⟨w5, hw5⟩ := nE (w4.alloc (.cells #[w64 x.w0, w64 x.w1, w64 x.w2, w64 x.w3] 249));rw [hw5] at HX5 HZ5 HB5 ⊢;clear hw5 HZ4 HB4;obtain ⟨x0, x1, x2, x3, p0, p1, p2, p3⟩ := We HX5.out;obtain ⟨k0, k1, k2, k3, f0, f1, f2, f3⟩ := We HZ5.out;go_wp2_with fail;refine (HN.out _).mono ?_;rintro e w6 ⟨rfl, hb6⟩;have HX6 : Hid (Blk w6 X 249 #[w64 x.w0, w64 x.w1, w64 x.w2, w64 x.w3]) := HX5.below hb6 HX5.lt;have HZ6 : Hid (Blk w6 w.heap.size 249 zf) := HZ5.below hb6 HZ5.lt;have HB6 := bt HB5 hb6;clear hb6 HN HX5 HZ5 HB5 x0 x1 x2 x3 p0 p1 p2 p3 k0 k1 k2 k3 f0 f1 f2 f3;obtain ⟨x0, x1, x2, x3, p0, p1, p2, p3⟩ := We HX6.out;have HX7 := hid (Xj (b0 := w64 y.w0) (b1 := w64 y.w1) (b2 := w64 y.w2) (b3 := w64 y.w3) HX6.out);have HZ7 := hid (Uo (g' := X) (b0 := w64 y.w0) (b1 := w64 y.w1) (b2 := w64 y.w2) (b3 := w64 y.w3) HZ6.out aa);have HB7 := hid (Xp (g := X) HB6.out aa (w64 y.w0) (w64 y.w1) (w64 y.w2) (w64 y.w3));go_upto_region 28 with fail;obtain ⟨w7, hw7⟩ := nE ((((w6.setCell ⟨X, 0, none⟩ (w64 y.w0)).setCell ⟨X, 1, none⟩ (w64 y.w1)).setCell ⟨X, 2, none⟩ (w64 y.w2)).setCell ⟨X, 3, none⟩ (w64 y.w3));rw [hw7] at HX7 HZ7 HB7 ⊢;clear hw7 HX6 HZ6 HB6 x0 x1 x2 x3 p0 p1 p2 p3;obtain ⟨x0, x1, x2, x3, -, -, -, -⟩ := We HX7.out;obtain ⟨k0, k1, k2, k3, f0, f1, f2, f3⟩ := We HZ7.out;have HZ9 := hid (Xj (b0 := w64 y.w0) (b1 := w64 y.w1) (b2 := w64 y.w2) (b3 := w64 y.w3) HZ7.out);have HB9 := hid (Xp (g := w.heap.size) HB7.out (Nat.le_refl _) (w64 y.w0) (w64 y.w1) (w64 y.w2) (w64 y.w3));go_wp2_with fail;obtain ⟨z0, z1, z2, z3, -, -, -, -⟩ := We HZ9.out;exact bodyPost_ret (v := .tuple #[.agg #[w64 y.w0, w64 y.w1, w64 y.w2, w64 y.w3], (j : Int), .int .i64 0]) au rfl ⟨by rw [HRR.out]; rfl, HB9.out⟩
  ·exact N129
end Go.Proofs.YtpkkfdmhbbipoaaGreat
