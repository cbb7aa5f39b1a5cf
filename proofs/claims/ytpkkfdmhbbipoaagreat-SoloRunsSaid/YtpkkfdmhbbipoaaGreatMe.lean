/- Walks: class.reader's whole. Plain: a set's text, byte by byte, and that it is read back. Plain: a set's text is read back, whatever stands behind it. Walks: class.Read. -/
import Derived.Test.YtpkkfdmhbbipoaaGreatMd
import Derived.Test.YtpkkfdmhbbipoaaGreatMa
import Derived.Deep.LoopGhost
import Derived.Deep.CutRange
namespace Go.Proofs.YtpkkfdmhbbipoaaGreat
set_option maxRecDepth 20000
set_option maxHeartbeats 4000000
open Go.RowKit
theorem Zaf {b g : Nat} {w w1 : World} (hg : w.heap.size ≤ g) (h : Za (fun k => k = b) w w1) (u0 u1 u2 u3 : Value) : Za (fun k => k = b) w ((((w1.setCell ⟨g, 0, none⟩ u0).setCell ⟨g, 1, none⟩ u1).setCell ⟨g, 2, none⟩ u2).setCell ⟨g, 3, none⟩ u3) :=
 h.trans (Zdb g w1 u0 u1 u2 u3) (fun k hk => .inr (by have hk' : k = g := hk; omega))
theorem Zkq (s : ByteArray) (b : Nat) (w : World) (h : Blk w b 276 #[s, .int .i64 0, .int .i64 0]) (h91 : isM s 0 91 = false) :
  Calls Tryz.prog 241 #[.pointer (some ⟨b, 0, none⟩)] w fun x w' => x = .returned Zp.zero.val ∧
   Blk w' b 276 #[s, .int .i64 (Ws s 0 : Nat), .int .i64 (Wh s 0 : Nat)] ∧ Za (fun k => k = b) w w' := by
 have H := hid h;have hbw := h.lt;have hne : b ≠ w.heap.size := aa
 clear h;have H1 : Hid (Blk (w.alloc (.cells zf 249)) b 276 #[s, ((0 : Nat) : Int), .int .i64 0]) := H.alloc _;have HI := hid (fun n => Wm H1.out 91 n);rw [h91] at HI;clear h91;go_enter Tryz.func241, Tryz.ntmps241;go_wp2_with fail;refine (HI.out 0).mono ?_;rintro x w0 ⟨rfl, m, rfl⟩;go_wp2_with fail;refine (Zex s 0 b _ ((w.alloc (.cells zf 249)).drewN m) H1.out).mono ?_;rintro x w2 ⟨rfl, hb2, hk2⟩;have HB2 := hid hb2;have HK2 : Hid (Za (fun k => k = b) w w2) := ((Za.alloc (fun k => k = b) w (.cells zf 249)).trans (Za.drewN (fun k => k = b) _ m) (fun _ => .inl)).trans hk2 (fun _ => .inl);have HC2 : Hid (Blk w2 w.heap.size 249 zf) := hk2.blk (show Blk ((w.alloc (.cells zf 249)).drewN m) w.heap.size 249 #[.int .u64 0, .int .u64 0, .int .u64 0, .int .u64 0] from Blk.new w _ _) (fun e => hne e.symm);clear hb2 hk2 HI H1;obtain ⟨c0, c1, c2, c3, g0, g1, g2, g3⟩ := Wi HC2.out;obtain ⟨z0, z1, z2, z3, -, -, -, -⟩ := Wi (Xn (b0 := .int .u64 0) (b1 := .int .u64 0) (b2 := .int .u64 0) (b3 := .int .u64 0) HC2.out);have HQ := hid (Un (g' := w.heap.size) (b0 := .int .u64 0) (b1 := .int .u64 0) (b2 := .int .u64 0) (b3 := .int .u64 0) HB2.out hne);have HKK := hid (Zaf (Nat.le_refl _) HK2.out (.int .u64 0) (.int .u64 0) (.int .u64 0) (.int .u64 0));go_wp2_with fail;exact bodyPost_ret (v := .agg zf) cu rfl ⟨rfl, HQ.out, HKK.out⟩
theorem N26{P:Prop}(h:P:=by
 have HE : Hid (q = (y, i, e)) := by rw [Hid, ← HGO.out, Zac s gk y i e he]
 have q2 := cA HB.out 2 (e : Int) rfl;have he0 : ((e : Int) == 0) = false := af
 have HZ := hid (Xn (b0 := .int .u64 0) (b1 := .int .u64 0) (b2 := .int .u64 0) (b3 := .int .u64 0) HC.out);have HQ := hid (Un (g' := w.heap.size) (b0 := .int .u64 0) (b1 := .int .u64 0) (b2 := .int .u64 0) (b3 := .int .u64 0) HB.out hne);have HKK := hid (Zaf (Nat.le_refl _) HK.out (.int .u64 0) (.int .u64 0) (.int .u64 0) (.int .u64 0));go_wp2_with fail;obtain ⟨z0, z1, z2, z3, -, -, -, -⟩ := Wi HZ.out
 exact bodyPost_ret (v := .agg zf) cu rfl
  ⟨by rw [← HV.out, HE.out]; simp only [if_neg he]; rfl, by rw [← HPP.out, HE.out]; simp only [if_neg he]; exact HQ.out, HKK.out⟩):P:=h
theorem N4{P:Prop}(h:P:=by
 rw [h93] at HI;have h93' := hid h93;clear h93;go_wp2_with fail;refine (HI.out 0).mono ?_;rintro x w0 ⟨rfl, m3, rfl⟩;obtain ⟨w7, hw7⟩ := nE (wr.drewN m3);have HX7 : Hid (Blk w7 X 249 #[w64 y.w0, w64 y.w1, w64 y.w2, w64 y.w3]) := hw7 ▸ HX.out;have HB7 : Hid (Blk w7 b 276 #[s, (i : Int), .int .i64 0]) := hw7 ▸ HB.out;have HC7 : Hid (Blk w7 w.heap.size 249 zf) := hw7 ▸ HC.out;have HK7 : Hid (Za (fun k => k = b) w w7) := hw7 ▸ HK.trans (Za.drewN (fun k => k = b) wr m3) (fun _ => .inl);rw [hw7];clear hw7 HI HX HB HC HK q1 q2 f1 x0 x1 x2 x3 c0 c1 c2 c3 g0 g1 g2 g3 hbr;go_wp2_with fail;obtain ⟨gk', hgk⟩ : ∃ gk', gk = gk' + 1 := ⟨gk - 1, by have := HFU.out fq; omega⟩;subst hgk;have HGO2 : Hid (Ux s gk' (orM y (Zu s i).1) (Zu s i).2.1 (Zu s i).2.2 = q) := by rw [Hid, ← HGO.out, Ux, if_pos ⟨rfl, h93'.out⟩]
 have HP := hid (fun (n : Nat) => Zb1 s i b (w7.drewN n) HB7.out hs hi);have HLE := hid (Ky s i hi);have HGT : Hid ((Zu s i).2.2 = 0 → s.size + 1 ≤ (Zu s i).2.1 + gk') := fun h => by have := Zgl s i h; have := HFU.out fq; omega
 obtain ⟨y1, hy1⟩ := nE ((Zu s i).1);obtain ⟨j1, hj1⟩ := nE ((Zu s i).2.1);obtain ⟨e1, he1⟩ := nE ((Zu s i).2.2);rw [hy1, hj1, he1] at HP HGO2;rw [hj1] at HLE;rw [hj1, he1] at HGT;clear hy1 hj1 he1 HGO h93' HFU;have HOR := hid (fun W => Zk3 y y1 W);obtain ⟨y2, hy2⟩ := nE (orM y y1);rw [hy2] at HOR HGO2;clear hy2;obtain ⟨r0, r1, r2, r3⟩ := y2;unfold Zp.val at HOR HP;obtain ⟨x0, x1, x2, x3, -, -, -, -⟩ := Wi HX7.out;refine Zx (.val 1 (.two 0 (.op 2 (.op 3 (.op 4 .nil))) 2 (.op 0 (.op 3 (.op 4 .nil))))) ab ab ?_;refine Zb rfl ?_
 go_big_quiet_step (fail)
 refine wpQuiet_nil ?_
 focus
  refine Zj rfl rfl ?_ ?_
  focus
   go_wp2_with fail;refine Zc rfl ?_;go_wp2_with fail;refine (HP.out _).mono ?_;rintro x w8 ⟨rfl, hb8, hk8⟩;have HB8 := hid hb8;have HX8 : Hid (Blk w8 X 249 #[w64 y.w0, w64 y.w1, w64 y.w2, w64 y.w3]) := hk8.blk HX7.out aa;have HC8 : Hid (Blk w8 w.heap.size 249 zf) := hk8.blk HC7.out (fun e => hne e.symm);have HK8 : Hid (Za (fun k => k = b) w w8) := (HK7.trans (Za.drewN (fun k => k = b) w7 _) (fun _ => .inl)).trans hk8 (fun _ => .inl);obtain ⟨v0, v1, v2, v3, -, -, -, -⟩ := Wi HX8.out;clear hb8 hk8 HP
  rotate_left 1
  focus
   go_wp2_with fail;refine (HP.out _).mono ?_;rintro x w8 ⟨rfl, hb8, hk8⟩;have HB8 := hid hb8;have HX8 : Hid (Blk w8 X 249 #[w64 y.w0, w64 y.w1, w64 y.w2, w64 y.w3]) := hk8.blk HX7.out aa;have HC8 : Hid (Blk w8 w.heap.size 249 zf) := hk8.blk HC7.out (fun e => hne e.symm);have HK8 : Hid (Za (fun k => k = b) w w8) := (HK7.trans (Za.drewN (fun k => k = b) w7 _) (fun _ => .inl)).trans hk8 (fun _ => .inl);obtain ⟨v0, v1, v2, v3, -, -, -, -⟩ := Wi HX8.out;clear hb8 hk8 HP;go_wp2_with fail;refine Zc rfl ?_
  all_goals
   go_wp2_with fail;refine Zc rfl ?_;go_wp2_with fail;refine (HOR.out _).mono ?_;rintro x w9 ⟨rfl, hbl⟩;have HB9 : Hid (Blk w9 b 276 #[s, (j1 : Int), (e1 : Int)]) := HB8.below hbl HB8.lt;have HX9 : Hid (Blk w9 X 249 #[w64 y.w0, w64 y.w1, w64 y.w2, w64 y.w3]) := HX8.below hbl HX8.lt;have HC9 : Hid (Blk w9 w.heap.size 249 zf) := HC8.below hbl HC8.lt;have HK9 : Hid (Za (fun k => k = b) w w9) := HK8.trans (Za.of_below (F := fun k => k = b) hbl) (fun _ => .inl);clear hbl HOR HB8 HX8 HC8 HK8;obtain ⟨u0, u1, u2, u3, t0, t1, t2, t3⟩ := Wi HX9.out;have HXA := hid (Xn (b0 := w64 r0) (b1 := w64 r1) (b2 := w64 r2) (b3 := w64 r3) HX9.out);have HBA := hid (Un (g' := X) (b0 := w64 r0) (b1 := w64 r1) (b2 := w64 r2) (b3 := w64 r3) HB9.out aa);have HCA := hid (Un (g' := X) (b0 := w64 r0) (b1 := w64 r1) (b2 := w64 r2) (b3 := w64 r3) HC9.out aa);have HKA := hid (Zaf (g := X) aa HK9.out (w64 r0) (w64 r1) (w64 r2) (w64 r3));go_wp2_with fail;refine Zc rfl ?_;go_wp2_with fail;refine Yi ?_;go_wp2_with fail
   go_roundg gk'
   case measure => omega
   case rel => exact ⟨⟨r0, r1, r2, r3⟩, j1, e1, HLE.out, HGO2.out, HGT.out, HXA.out, HBA.out, HCA.out, HKA.out⟩):P:=h
theorem Zjb (s : ByteArray) (b : Nat) (w : World) (h : Blk w b 276 #[s, .int .i64 0, .int .i64 0]) (hs : s.size ≤ 1000000) (h91 : isM s 0 91 = true) (h94 : isM s 1 94 = false) (q : Zp × Nat × Nat) (hq : Ux s (s.size + 1) (Zu s 1).1 (Zu s 1).2.1 (Zu s 1).2.2 = q) (v : Zp) (p : Nat) (hv : (if q.2.2 = 0 then (if isM s 1 94 = true then Zbd q.1 else q.1) else Zp.zero) = v) (hp : (if q.2.2 = 0 then q.2.1 + 1 else q.2.1) = p) :
  Calls Tryz.prog 241 #[.pointer (some ⟨b, 0, none⟩)] w fun x w' => x = .returned v.val ∧
   Blk w' b 276 #[s, (p : Int), .int .i64 (q.2.2 : Nat)] ∧ Za (fun k => k = b) w w' := by
 have H := hid h;have hbw := h.lt;have hne : b ≠ w.heap.size := aa
 have hi0 : 1 ≤ s.size := by have := Nu h91; omega
 clear h;have H1 : Hid (Blk (w.alloc (.cells zf 249)) b 276 #[s, ((0 : Nat) : Int), .int .i64 0]) := H.alloc _;have HI := hid (fun n => Wm H1.out 91 n);rw [h91] at HI;have H94 := hid h94; have HV := hid hv; have HPP := hid hp;clear h91 h94 hv hp;go_enter Tryz.func241, Tryz.ntmps241;go_wp2_with fail;refine (HI.out 0).mono ?_;rintro x w0 ⟨rfl, m, rfl⟩;obtain ⟨w1, hw1⟩ := nE ((w.alloc (.cells zf 249)).drewN m);have HB1 : Hid (Blk w1 b 276 #[s, .int .i64 0, .int .i64 0]) := hw1 ▸ H1.out;have HK1 : Hid (Za (fun k => k = b) w w1) := hw1 ▸ (Za.alloc (fun k => k = b) w (.cells zf 249)).trans (Za.drewN (fun k => k = b) _ m) (fun _ => .inl);have HC1 : Hid (Blk w1 w.heap.size 249 zf) := hw1 ▸ (show Blk ((w.alloc (.cells zf 249)).drewN m) w.heap.size 249 #[.int .u64 0, .int .u64 0, .int .u64 0, .int .u64 0] from Blk.new w _ _);rw [hw1];clear hw1 HI H1;have q1 := cA HB1.out 1 (.int .i64 0) rfl;have f1 := HB1.frozen 1;have hlt1 := HB1.lt;have HB2 : Hid (Blk (w1.setCell ⟨b, 1, none⟩ (.int .i64 1)) b 276 #[s, ((1 : Nat) : Int), .int .i64 0]) := HB1.set 1 (.int .i64 1);have HK2 : Hid (Za (fun k => k = b) w (w1.setCell ⟨b, 1, none⟩ (.int .i64 1))) := HK1.trans (Za.setCell (fun k => k = b) w1 ⟨b, 1, none⟩ (.int .i64 1) rfl) (fun _ => .inl);have HC2 : Hid (Blk (w1.setCell ⟨b, 1, none⟩ (.int .i64 1)) w.heap.size 249 #[.int .u64 0, .int .u64 0, .int .u64 0, .int .u64 0]) := HC1.set_far (Ne.symm hne);go_wp2_with fail;obtain ⟨w2, hw2⟩ := nE (w1.setCell ⟨b, 1, none⟩ (.int .i64 1));rw [hw2] at HB2 HK2 HC2 ⊢;clear hw2 HB1 HK1 HC1 q1 f1 hlt1;have HI := hid (fun n => Wm HB2.out 94 n);rw [H94.out] at HI;refine (HI.out 0).mono ?_;rintro x w0 ⟨rfl, m2, rfl⟩;obtain ⟨w3, hw3⟩ := nE (w2.drewN m2);have HB3 : Hid (Blk w3 b 276 #[s, .int .i64 1, .int .i64 0]) := hw3 ▸ HB2.out;have HK3 : Hid (Za (fun k => k = b) w w3) := hw3 ▸ HK2.trans (Za.drewN (fun k => k = b) w2 m2) (fun _ => .inl);have HC3 : Hid (Blk w3 w.heap.size 249 zf) := hw3 ▸ (show Blk (w2.drewN m2) w.heap.size 249 #[.int .u64 0, .int .u64 0, .int .u64 0, .int .u64 0] from HC2.out);rw [hw3];clear hw3 HI HB2 HK2 HC2;go_wp2_with fail;obtain ⟨w4, hw4⟩ := nE (w3);rw [hw4] at HB3 HK3 HC3 ⊢;have HB4 : Hid (Blk w4 b 276 #[s, ((1 : Nat) : Int), .int .i64 0]) := HB3.out;have HK4 := HK3;have HC4 := HC3;clear hw4 HB3 HK3 HC3;have HP := hid (Zb1 s 1 b w4 HB4.out hs hi0);have HLE := hid (Ky s 1 hi0);have HQ := hid hq;obtain ⟨y0, hy0⟩ := nE ((Zu s 1).1);obtain ⟨j0, hj0⟩ := nE ((Zu s 1).2.1);obtain ⟨e0, he0⟩ := nE ((Zu s 1).2.2);rw [hy0, hj0, he0] at HP HQ;rw [hj0] at HLE;clear hy0 hj0 he0 hq;refine HP.mono ?_;rintro x w5 ⟨rfl, hb5, hk5⟩;have HB5 := hid hb5;have HK5 : Hid (Za (fun k => k = b) w w5) := HK4.trans hk5 (fun _ => .inl);have HC5 : Hid (Blk w5 w.heap.size 249 zf) := hk5.blk HC4.out (fun e => hne e.symm);have hlt5 : b < w5.heap.size := HB5.lt;have hlt5' : w.heap.size < w5.heap.size := HC5.lt;clear hb5 hk5 HP HB4 HK4 HC4;have HX6 : Hid (Blk (w5.alloc (.cells #[.int .u64 (y0.w0.toNat : Int), .int .u64 (y0.w1.toNat : Int), .int .u64 (y0.w2.toNat : Int), .int .u64 (y0.w3.toNat : Int)] 249)) w5.heap.size 249 #[w64 y0.w0, w64 y0.w1, w64 y0.w2, w64 y0.w3]) := Blk.new w5 249 #[w64 y0.w0, w64 y0.w1, w64 y0.w2, w64 y0.w3];have HB6 : Hid (Blk (w5.alloc (.cells #[.int .u64 (y0.w0.toNat : Int), .int .u64 (y0.w1.toNat : Int), .int .u64 (y0.w2.toNat : Int), .int .u64 (y0.w3.toNat : Int)] 249)) b 276 #[s, (j0 : Int), (e0 : Int)]) := HB5.alloc _;have HC6 : Hid (Blk (w5.alloc (.cells #[.int .u64 (y0.w0.toNat : Int), .int .u64 (y0.w1.toNat : Int), .int .u64 (y0.w2.toNat : Int), .int .u64 (y0.w3.toNat : Int)] 249)) w.heap.size 249 #[.int .u64 0, .int .u64 0, .int .u64 0, .int .u64 0]) := HC5.alloc _;have HK6 : Hid (Za (fun k => k = b) w (w5.alloc (.cells #[.int .u64 (y0.w0.toNat : Int), .int .u64 (y0.w1.toNat : Int), .int .u64 (y0.w2.toNat : Int), .int .u64 (y0.w3.toNat : Int)] 249))) := HK5.trans (Za.alloc (fun k => k = b) w5 _) (fun _ => .inl);unfold Zp.val;go_wp2_with fail;obtain ⟨w6, hw6⟩ := nE (w5.alloc (.cells #[.int .u64 (y0.w0.toNat : Int), .int .u64 (y0.w1.toNat : Int), .int .u64 (y0.w2.toNat : Int), .int .u64 (y0.w3.toNat : Int)] 249));rw [hw6] at HX6 HB6 HC6 HK6 ⊢;obtain ⟨X, hX⟩ := nE (w5.heap.size);rw [hX] at HX6 hlt5 hlt5' ⊢;clear hw6 hX HB5 HK5 HC5
 go_loopg [] (s.size + 1) (fun n wr => ∃ (y : Zp) (i e : Nat), i ≤ s.size ∧ Ux s n y i e = q ∧ (e = 0 → s.size + 1 ≤ i + n) ∧ Blk wr X 249 #[w64 y.w0, w64 y.w1, w64 y.w2, w64 y.w3] ∧
  Blk wr b 276 #[s, (i : Int), (e : Int)] ∧ Blk wr w.heap.size 249 zf ∧ Za (fun k => k = b) w wr)
 case atStart => exact ⟨y0, j0, e0, HLE.out, HQ.out, fun _ => aa, HX6.out, HB6.out, HC6.out, HK6.out⟩
 case round =>
  obtain ⟨y, i, e, hi, hgo, hfu, hX, hB, hC, hK⟩ := hrel;have HGO := hid hgo; have HX := hid hX; have HB := hid hB; have HC := hid hC; have HK := hid hK; have HFU := hid hfu;clear hgo hX hB hC hK hfu HX6 HB6 HC6 HK6 HQ HLE;have q1 := cA HB.out 1 (i : Int) rfl;have f1 := HB.frozen 1;obtain ⟨x0, x1, x2, x3, -, -, -, -⟩ := Wi HX.out;obtain ⟨c0, c1, c2, c3, g0, g1, g2, g3⟩ := Wi HC.out;have hbr := HB.lt;by_cases he : e = 0
  ·subst he
   have q2 := cA HB.out 2 (.int .i64 0) rfl;have HI := hid (fun n => Wm HB.out 93 n);cases h93 : isM s i 93
   ·exact N4
   ·rw [h93] at HI
    have HE : Hid (q = (y, i, 0)) := by rw [Hid, ← HGO.out, Za4 s gk y i 0 h93]
    clear h93 HGO;go_wp2_with fail;refine (HI.out 0).mono ?_;rintro x w0 ⟨rfl, m3, rfl⟩;obtain ⟨w7, hw7⟩ := nE (wr.drewN m3);have HX7 : Hid (Blk w7 X 249 #[w64 y.w0, w64 y.w1, w64 y.w2, w64 y.w3]) := hw7 ▸ HX.out;have HB7 : Hid (Blk w7 b 276 #[s, (i : Int), .int .i64 0]) := hw7 ▸ HB.out;have HC7 : Hid (Blk w7 w.heap.size 249 zf) := hw7 ▸ HC.out;have HK7 : Hid (Za (fun k => k = b) w w7) := hw7 ▸ HK.trans (Za.drewN (fun k => k = b) wr m3) (fun _ => .inl);rw [hw7];clear hw7 HI HX HB HC HK q1 q2 f1 x0 x1 x2 x3 c0 c1 c2 c3 g0 g1 g2 g3 hbr;have q1 := cA HB7.out 1 (i : Int) rfl;have q2 := cA HB7.out 2 (.int .i64 0) rfl;have f1 := HB7.frozen 1;have hbr := HB7.lt;obtain ⟨j, hj⟩ := nE (i + 1);have hj2 : ((i : Int) + 1) = (j : Int) := aa
    have HJ := hid hj;clear hj;have HB8 : Hid (Blk (w7.setCell ⟨b, 1, none⟩ (.int .i64 (j : Int))) b 276 #[s, (j : Int), .int .i64 0]) := HB7.set 1 (.int .i64 (j : Int));have HX8 : Hid (Blk (w7.setCell ⟨b, 1, none⟩ (.int .i64 (j : Int))) X 249 #[w64 y.w0, w64 y.w1, w64 y.w2, w64 y.w3]) := HX7.set_far aa;have HC8 : Hid (Blk (w7.setCell ⟨b, 1, none⟩ (.int .i64 (j : Int))) w.heap.size 249 #[.int .u64 0, .int .u64 0, .int .u64 0, .int .u64 0]) := HC7.set_far (Ne.symm hne);have HK8 : Hid (Za (fun k => k = b) w (w7.setCell ⟨b, 1, none⟩ (.int .i64 (j : Int)))) := HK7.trans (Za.setCell (fun k => k = b) w7 ⟨b, 1, none⟩ (.int .i64 (j : Int)) rfl) (fun _ => .inl);obtain ⟨x0, x1, x2, x3, -, -, -, -⟩ := Wi HX8.out;obtain ⟨c0, c1, c2, c3, g0, g1, g2, g3⟩ := Wi HC8.out;go_upto_region 14 with fail;obtain ⟨w8, hw8⟩ := nE (w7.setCell ⟨b, 1, none⟩ (.int .i64 (j : Int)));rw [hw8] at HB8 HX8 HC8 HK8 x0 x1 x2 x3 c0 c1 c2 c3 g0 g1 g2 g3 ⊢;clear hw8 HX7 HB7 HC7 HK7 q1 q2 f1 hbr hj2;have HZ := hid (Xn (b0 := w64 y.w0) (b1 := w64 y.w1) (b2 := w64 y.w2) (b3 := w64 y.w3) HC8.out);have HQ := hid (Un (g' := w.heap.size) (b0 := w64 y.w0) (b1 := w64 y.w1) (b2 := w64 y.w2) (b3 := w64 y.w3) HB8.out hne);have HKK := hid (Zaf (Nat.le_refl _) HK8.out (w64 y.w0) (w64 y.w1) (w64 y.w2) (w64 y.w3));go_wp2_with fail;obtain ⟨z0, z1, z2, z3, -, -, -, -⟩ := Wi HZ.out
    exact bodyPost_ret (v := .agg #[w64 y.w0, w64 y.w1, w64 y.w2, w64 y.w3]) cu rfl
     ⟨by rw [← HV.out, HE.out, H94.out]; rfl, jy, HKK.out⟩
  ·exact N26
theorem Zjc (s : ByteArray) (b : Nat) (w : World) (h : Blk w b 276 #[s, .int .i64 0, .int .i64 0]) (hs : s.size ≤ 1000000) (h91 : isM s 0 91 = true) (h94 : isM s 1 94 = true) (q : Zp × Nat × Nat) (hq : Ux s (s.size + 1) (Zu s 2).1 (Zu s 2).2.1 (Zu s 2).2.2 = q) (v : Zp) (p : Nat) (hv : (if q.2.2 = 0 then (if isM s 1 94 = true then Zbd q.1 else q.1) else Zp.zero) = v) (hp : (if q.2.2 = 0 then q.2.1 + 1 else q.2.1) = p) :
  Calls Tryz.prog 241 #[.pointer (some ⟨b, 0, none⟩)] w fun x w' => x = .returned v.val ∧
   Blk w' b 276 #[s, (p : Int), .int .i64 (q.2.2 : Nat)] ∧ Za (fun k => k = b) w w' := by
 have H := hid h;have hbw := h.lt;have hne : b ≠ w.heap.size := aa
 have hi0 : 2 ≤ s.size := by have := Nu h94; omega
 clear h;have H1 : Hid (Blk (w.alloc (.cells zf 249)) b 276 #[s, ((0 : Nat) : Int), .int .i64 0]) := H.alloc _;have HI := hid (fun n => Wm H1.out 91 n);rw [h91] at HI;have H94 := hid h94; have HV := hid hv; have HPP := hid hp;clear h91 h94 hv hp;go_enter Tryz.func241, Tryz.ntmps241;go_wp2_with fail;refine (HI.out 0).mono ?_;rintro x w0 ⟨rfl, m, rfl⟩;obtain ⟨w1, hw1⟩ := nE ((w.alloc (.cells zf 249)).drewN m);have HB1 : Hid (Blk w1 b 276 #[s, .int .i64 0, .int .i64 0]) := hw1 ▸ H1.out;have HK1 : Hid (Za (fun k => k = b) w w1) := hw1 ▸ (Za.alloc (fun k => k = b) w (.cells zf 249)).trans (Za.drewN (fun k => k = b) _ m) (fun _ => .inl);have HC1 : Hid (Blk w1 w.heap.size 249 zf) := hw1 ▸ (show Blk ((w.alloc (.cells zf 249)).drewN m) w.heap.size 249 #[.int .u64 0, .int .u64 0, .int .u64 0, .int .u64 0] from Blk.new w _ _);rw [hw1];clear hw1 HI H1;have q1 := cA HB1.out 1 (.int .i64 0) rfl;have f1 := HB1.frozen 1;have hlt1 := HB1.lt;have HB2 : Hid (Blk (w1.setCell ⟨b, 1, none⟩ (.int .i64 1)) b 276 #[s, ((1 : Nat) : Int), .int .i64 0]) := HB1.set 1 (.int .i64 1);have HK2 : Hid (Za (fun k => k = b) w (w1.setCell ⟨b, 1, none⟩ (.int .i64 1))) := HK1.trans (Za.setCell (fun k => k = b) w1 ⟨b, 1, none⟩ (.int .i64 1) rfl) (fun _ => .inl);have HC2 : Hid (Blk (w1.setCell ⟨b, 1, none⟩ (.int .i64 1)) w.heap.size 249 #[.int .u64 0, .int .u64 0, .int .u64 0, .int .u64 0]) := HC1.set_far (Ne.symm hne);go_wp2_with fail;obtain ⟨w2, hw2⟩ := nE (w1.setCell ⟨b, 1, none⟩ (.int .i64 1));rw [hw2] at HB2 HK2 HC2 ⊢;clear hw2 HB1 HK1 HC1 q1 f1 hlt1;have HI := hid (fun n => Wm HB2.out 94 n);rw [H94.out] at HI;refine (HI.out 0).mono ?_;rintro x w0 ⟨rfl, m2, rfl⟩;obtain ⟨w3, hw3⟩ := nE (w2.drewN m2);have HB3 : Hid (Blk w3 b 276 #[s, .int .i64 1, .int .i64 0]) := hw3 ▸ HB2.out;have HK3 : Hid (Za (fun k => k = b) w w3) := hw3 ▸ HK2.trans (Za.drewN (fun k => k = b) w2 m2) (fun _ => .inl);have HC3 : Hid (Blk w3 w.heap.size 249 zf) := hw3 ▸ (show Blk (w2.drewN m2) w.heap.size 249 #[.int .u64 0, .int .u64 0, .int .u64 0, .int .u64 0] from HC2.out);rw [hw3];clear hw3 HI HB2 HK2 HC2;have q1 := cA HB3.out 1 (.int .i64 1) rfl;have f1 := HB3.frozen 1;have hlt1 := HB3.lt;have HB4 : Hid (Blk (w3.setCell ⟨b, 1, none⟩ (.int .i64 2)) b 276 #[s, ((2 : Nat) : Int), .int .i64 0]) := HB3.set 1 (.int .i64 2);have HK4 : Hid (Za (fun k => k = b) w (w3.setCell ⟨b, 1, none⟩ (.int .i64 2))) := HK3.trans (Za.setCell (fun k => k = b) w3 ⟨b, 1, none⟩ (.int .i64 2) rfl) (fun _ => .inl);have HC4 : Hid (Blk (w3.setCell ⟨b, 1, none⟩ (.int .i64 2)) w.heap.size 249 #[.int .u64 0, .int .u64 0, .int .u64 0, .int .u64 0]) := HC3.set_far (Ne.symm hne);go_wp2_with fail;obtain ⟨w4, hw4⟩ := nE (w3.setCell ⟨b, 1, none⟩ (.int .i64 2));rw [hw4] at HB4 HK4 HC4 ⊢;clear hw4 HB3 HK3 HC3 q1 f1 hlt1;have HP := hid (Zb1 s 2 b w4 HB4.out hs hi0);have HLE := hid (Ky s 2 hi0);have HQ := hid hq;obtain ⟨y0, hy0⟩ := nE ((Zu s 2).1);obtain ⟨j0, hj0⟩ := nE ((Zu s 2).2.1);obtain ⟨e0, he0⟩ := nE ((Zu s 2).2.2);rw [hy0, hj0, he0] at HP HQ;rw [hj0] at HLE;clear hy0 hj0 he0 hq;refine HP.mono ?_;rintro x w5 ⟨rfl, hb5, hk5⟩;have HB5 := hid hb5;have HK5 : Hid (Za (fun k => k = b) w w5) := HK4.trans hk5 (fun _ => .inl);have HC5 : Hid (Blk w5 w.heap.size 249 zf) := hk5.blk HC4.out (fun e => hne e.symm);have hlt5 : b < w5.heap.size := HB5.lt;have hlt5' : w.heap.size < w5.heap.size := HC5.lt;clear hb5 hk5 HP HB4 HK4 HC4;have HX6 : Hid (Blk (w5.alloc (.cells #[.int .u64 (y0.w0.toNat : Int), .int .u64 (y0.w1.toNat : Int), .int .u64 (y0.w2.toNat : Int), .int .u64 (y0.w3.toNat : Int)] 249)) w5.heap.size 249 #[w64 y0.w0, w64 y0.w1, w64 y0.w2, w64 y0.w3]) := Blk.new w5 249 #[w64 y0.w0, w64 y0.w1, w64 y0.w2, w64 y0.w3];have HB6 : Hid (Blk (w5.alloc (.cells #[.int .u64 (y0.w0.toNat : Int), .int .u64 (y0.w1.toNat : Int), .int .u64 (y0.w2.toNat : Int), .int .u64 (y0.w3.toNat : Int)] 249)) b 276 #[s, (j0 : Int), (e0 : Int)]) := HB5.alloc _;have HC6 : Hid (Blk (w5.alloc (.cells #[.int .u64 (y0.w0.toNat : Int), .int .u64 (y0.w1.toNat : Int), .int .u64 (y0.w2.toNat : Int), .int .u64 (y0.w3.toNat : Int)] 249)) w.heap.size 249 #[.int .u64 0, .int .u64 0, .int .u64 0, .int .u64 0]) := HC5.alloc _;have HK6 : Hid (Za (fun k => k = b) w (w5.alloc (.cells #[.int .u64 (y0.w0.toNat : Int), .int .u64 (y0.w1.toNat : Int), .int .u64 (y0.w2.toNat : Int), .int .u64 (y0.w3.toNat : Int)] 249))) := HK5.trans (Za.alloc (fun k => k = b) w5 _) (fun _ => .inl);unfold Zp.val;go_wp2_with fail;obtain ⟨w6, hw6⟩ := nE (w5.alloc (.cells #[.int .u64 (y0.w0.toNat : Int), .int .u64 (y0.w1.toNat : Int), .int .u64 (y0.w2.toNat : Int), .int .u64 (y0.w3.toNat : Int)] 249));rw [hw6] at HX6 HB6 HC6 HK6 ⊢;obtain ⟨X, hX⟩ := nE (w5.heap.size);rw [hX] at HX6 hlt5 hlt5' ⊢;clear hw6 hX HB5 HK5 HC5
 go_loopg [] (s.size + 1) (fun n wr => ∃ (y : Zp) (i e : Nat), i ≤ s.size ∧ Ux s n y i e = q ∧ (e = 0 → s.size + 1 ≤ i + n) ∧ Blk wr X 249 #[w64 y.w0, w64 y.w1, w64 y.w2, w64 y.w3] ∧
  Blk wr b 276 #[s, (i : Int), (e : Int)] ∧ Blk wr w.heap.size 249 zf ∧ Za (fun k => k = b) w wr)
 case atStart => exact ⟨y0, j0, e0, HLE.out, HQ.out, fun _ => aa, HX6.out, HB6.out, HC6.out, HK6.out⟩
 case round =>
  obtain ⟨y, i, e, hi, hgo, hfu, hX, hB, hC, hK⟩ := hrel;have HGO := hid hgo; have HX := hid hX; have HB := hid hB; have HC := hid hC; have HK := hid hK; have HFU := hid hfu;clear hgo hX hB hC hK hfu HX6 HB6 HC6 HK6 HQ HLE;have q1 := cA HB.out 1 (i : Int) rfl;have f1 := HB.frozen 1;obtain ⟨x0, x1, x2, x3, -, -, -, -⟩ := Wi HX.out;obtain ⟨c0, c1, c2, c3, g0, g1, g2, g3⟩ := Wi HC.out;have hbr := HB.lt;by_cases he : e = 0
  ·subst he
   have q2 := cA HB.out 2 (.int .i64 0) rfl;have HI := hid (fun n => Wm HB.out 93 n);cases h93 : isM s i 93
   ·exact N4
   ·rw [h93] at HI
    have HE : Hid (q = (y, i, 0)) := by rw [Hid, ← HGO.out, Za4 s gk y i 0 h93]
    clear h93 HGO;go_wp2_with fail;refine (HI.out 0).mono ?_;rintro x w0 ⟨rfl, m3, rfl⟩;obtain ⟨w7, hw7⟩ := nE (wr.drewN m3);have HX7 : Hid (Blk w7 X 249 #[w64 y.w0, w64 y.w1, w64 y.w2, w64 y.w3]) := hw7 ▸ HX.out;have HB7 : Hid (Blk w7 b 276 #[s, (i : Int), .int .i64 0]) := hw7 ▸ HB.out;have HC7 : Hid (Blk w7 w.heap.size 249 zf) := hw7 ▸ HC.out;have HK7 : Hid (Za (fun k => k = b) w w7) := hw7 ▸ HK.trans (Za.drewN (fun k => k = b) wr m3) (fun _ => .inl);rw [hw7];clear hw7 HI HX HB HC HK q1 q2 f1 x0 x1 x2 x3 c0 c1 c2 c3 g0 g1 g2 g3 hbr;have q1 := cA HB7.out 1 (i : Int) rfl;have q2 := cA HB7.out 2 (.int .i64 0) rfl;have f1 := HB7.frozen 1;have hbr := HB7.lt;obtain ⟨j, hj⟩ := nE (i + 1);have hj2 : ((i : Int) + 1) = (j : Int) := aa
    have HJ := hid hj;clear hj;have HB8 : Hid (Blk (w7.setCell ⟨b, 1, none⟩ (.int .i64 (j : Int))) b 276 #[s, (j : Int), .int .i64 0]) := HB7.set 1 (.int .i64 (j : Int));have HX8 : Hid (Blk (w7.setCell ⟨b, 1, none⟩ (.int .i64 (j : Int))) X 249 #[w64 y.w0, w64 y.w1, w64 y.w2, w64 y.w3]) := HX7.set_far aa;have HC8 : Hid (Blk (w7.setCell ⟨b, 1, none⟩ (.int .i64 (j : Int))) w.heap.size 249 #[.int .u64 0, .int .u64 0, .int .u64 0, .int .u64 0]) := HC7.set_far (Ne.symm hne);have HK8 : Hid (Za (fun k => k = b) w (w7.setCell ⟨b, 1, none⟩ (.int .i64 (j : Int)))) := HK7.trans (Za.setCell (fun k => k = b) w7 ⟨b, 1, none⟩ (.int .i64 (j : Int)) rfl) (fun _ => .inl);obtain ⟨x0, x1, x2, x3, -, -, -, -⟩ := Wi HX8.out;obtain ⟨c0, c1, c2, c3, g0, g1, g2, g3⟩ := Wi HC8.out;have HN := hid (fun W => Zk7 y W);obtain ⟨y2, hy2⟩ := nE (Zbd y);rw [hy2] at HN;have HY2 := hid hy2;clear hy2;obtain ⟨r0, r1, r2, r3⟩ := y2;unfold Zp.val at HN;go_wp2_with fail;obtain ⟨w8, hw8⟩ := nE (w7.setCell ⟨b, 1, none⟩ (.int .i64 (j : Int)));rw [hw8] at HB8 HX8 HC8 HK8 x0 x1 x2 x3 c0 c1 c2 c3 g0 g1 g2 g3 ⊢;clear hw8 HX7 HB7 HC7 HK7 q1 q2 f1 hbr hj2;refine (HN.out _).mono ?_;rintro x w9 ⟨rfl, hbl⟩;have HB9 : Hid (Blk w9 b 276 #[s, (j : Int), .int .i64 0]) := HB8.below hbl HB8.lt;have HC9 : Hid (Blk w9 w.heap.size 249 zf) := HC8.below hbl HC8.lt;have HK9 : Hid (Za (fun k => k = b) w w9) := HK8.trans (Za.of_below (F := fun k => k = b) hbl) (fun _ => .inl);clear hbl HN HB8 HC8 HK8 c0 c1 c2 c3 g0 g1 g2 g3;obtain ⟨c0, c1, c2, c3, g0, g1, g2, g3⟩ := Wi HC9.out;obtain ⟨z0, z1, z2, z3, -, -, -, -⟩ := Wi (Xn (b0 := w64 r0) (b1 := w64 r1) (b2 := w64 r2) (b3 := w64 r3) HC9.out);have HQ := hid (Un (g' := w.heap.size) (b0 := w64 r0) (b1 := w64 r1) (b2 := w64 r2) (b3 := w64 r3) HB9.out hne);have HKK := hid (Zaf (Nat.le_refl _) HK9.out (w64 r0) (w64 r1) (w64 r2) (w64 r3));go_wp2_with fail
    exact bodyPost_ret (v := .agg #[w64 r0, w64 r1, w64 r2, w64 r3]) cu rfl
     ⟨by rw [← HV.out, HE.out, H94.out]; simp only [if_true]; rw [HY2.out]; rfl, jy, HKK.out⟩
  ·exact N26
theorem N63{P:Prop}(h:P:=by
 split at hx
 ·rename_i h0
  rw [if_pos h0] at hb;rw [if_pos h0];rw [h0] at hb;exact ⟨hx, hb, hk⟩
 ·rename_i h0
  rw [if_neg h0] at hb;rw [if_neg h0];exact ⟨hx, hb, hk⟩):P:=h
theorem Zjd (s : ByteArray) (b : Nat) (w : World) (h : Blk w b 276 #[s, .int .i64 0, .int .i64 0]) (hs : s.size ≤ 1000000) :
  Calls Tryz.prog 241 #[.pointer (some ⟨b, 0, none⟩)] w fun x w' => x = .returned (Xu s).1.val ∧
   Blk w' b 276 #[s, .int .i64 ((Xu s).2.1 : Nat), .int .i64 ((Xu s).2.2 : Nat)] ∧ Za (fun k => k = b) w w' := by
 cases h91 : isM s 0 91
 ·refine (Zkq s b w h h91).mono fun x w' ⟨hx, hb, hk⟩ => ?_
  have HE : Xu s = (Zp.zero, Ws s 0, Wh s 0) := by rw [Xu, if_neg (by rw [h91]; decide)]
  rw [HE]; exact ⟨hx, hb, hk⟩
 ·cases h94 : isM s 1 94
  ·refine (Zjb s b w h hs h91 h94 _ rfl _ _ rfl rfl).mono fun x w' ⟨hx, hb, hk⟩ => ?_
   simp only [Xu, h91, h94, if_true, Bool.false_eq_true, if_false] at hx ⊢;exact N63
  ·refine (Zjc s b w h hs h91 h94 _ rfl _ _ rfl rfl).mono fun x w' ⟨hx, hb, hk⟩ => ?_
   simp only [Xu, h91, h94, if_true] at hx ⊢;exact N63
/-! The class package's own way: over the list of all bytes. -/
def At (s : ByteArray) (i : Nat) (l : List Nat) : Prop := (s.data.toList.drop i).map UInt8.toNat = l
theorem Zis (x : Zp) : orM Zp.zero x = x := by
 refine Zp.ext_has fun c hc => ?_;rw [Zen _ _ _ hc, Ze5, Bool.false_or]
def Xk (s : ByteArray) : Zp × Nat × Nat := if (Xu s).2.2 = 0 then ((Xu s).1, (Xu s).2.1, 0) else (Zp.zero, (Xu s).2.1, (Xu s).2.2)
theorem Zm0 (s : ByteArray) (w : World) (hs : s.size ≤ 1000000) :
  Calls Tryz.prog 229 #[s] w fun x w' => x = .returned (.tuple #[(Xk s).1.val, .int .i64 ((Xk s).2.1 : Nat), .int .i64 ((Xk s).2.2 : Nat)]) ∧ Below w.heap.size w w' := by
 have HP := hid (fun W hW => Zjd s (w.heap.size + 1) W hW hs);have HR : Hid (Xk s = if (Xu s).2.2 = 0 then ((Xu s).1, (Xu s).2.1, 0) else (Zp.zero, (Xu s).2.1, (Xu s).2.2)) := rfl;obtain ⟨⟨y, i, e⟩, hq⟩ : ∃ q, Xu s = q := ⟨_, rfl⟩;rw [hq] at HP HR;clear hq;simp only at HP HR
 have HW0 : Hid (Blk ((w.alloc (.cells zf 249)).alloc (.cells #[s, .int .i64 0, .int .i64 0] 276)) (w.heap.size + 1) 276 #[s, .int .i64 0, .int .i64 0]) := by
  have := Blk.new (w.alloc (.cells zf 249)) 276 #[s, .int .i64 0, .int .i64 0];rwa [World.size_alloc] at this
 go_enter Tryz.func229, Tryz.ntmps229;go_wp2_with fail;refine (HP.out _ HW0.out).mono ?_;rintro x w1 ⟨rfl, hb1, hk1⟩;have HB1 := hid hb1;have HC1 : Hid (Blk w1 w.heap.size 249 zf) := hk1.blk ((Blk.new w _ _).alloc _) aa;have HBL1 : Hid (Below w.heap.size w w1) := (((Below.refl w.heap.size w).alloc (Nat.le_refl _) _).alloc ah _).trans (hk1.below af (fun k hk => by have hk' : k = w.heap.size + 1 := hk; omega));have hlt1 : w.heap.size + 1 < w1.heap.size := HB1.lt;clear hb1 hk1 HP HW0;have HX2 : Hid (Blk (w1.alloc (.cells #[.int .u64 (y.w0.toNat : Int), .int .u64 (y.w1.toNat : Int), .int .u64 (y.w2.toNat : Int), .int .u64 (y.w3.toNat : Int)] 249)) w1.heap.size 249 #[w64 y.w0, w64 y.w1, w64 y.w2, w64 y.w3]) := Blk.new w1 249 #[w64 y.w0, w64 y.w1, w64 y.w2, w64 y.w3];have HB2 : Hid (Blk (w1.alloc (.cells #[.int .u64 (y.w0.toNat : Int), .int .u64 (y.w1.toNat : Int), .int .u64 (y.w2.toNat : Int), .int .u64 (y.w3.toNat : Int)] 249)) (w.heap.size + 1) 276 #[s, (i : Int), (e : Int)]) := HB1.alloc _;have HC2 : Hid (Blk (w1.alloc (.cells #[.int .u64 (y.w0.toNat : Int), .int .u64 (y.w1.toNat : Int), .int .u64 (y.w2.toNat : Int), .int .u64 (y.w3.toNat : Int)] 249)) w.heap.size 249 #[.int .u64 0, .int .u64 0, .int .u64 0, .int .u64 0]) := HC1.alloc _;have HBL2 : Hid (Below w.heap.size w (w1.alloc (.cells #[.int .u64 (y.w0.toNat : Int), .int .u64 (y.w1.toNat : Int), .int .u64 (y.w2.toNat : Int), .int .u64 (y.w3.toNat : Int)] 249))) := HBL1.alloc aa _;unfold Zp.val;obtain ⟨w2, hw2⟩ := nE (w1.alloc (.cells #[.int .u64 (y.w0.toNat : Int), .int .u64 (y.w1.toNat : Int), .int .u64 (y.w2.toNat : Int), .int .u64 (y.w3.toNat : Int)] 249));rw [hw2] at HX2 HB2 HC2 HBL2;obtain ⟨X, hX⟩ := nE (w1.heap.size);rw [hX] at HX2 hlt1;have q1 : w2.cell? ⟨w.heap.size + 1, 1, none⟩ = some (.int .i64 (i : Int)) := HB2.cell 1;obtain ⟨x0, x1, x2, x3, -, -, -, -⟩ := Wi HX2.out;obtain ⟨c0, c1, c2, c3, g0, g1, g2, g3⟩ := Wi HC2.out;by_cases he : e = 0
 ·subst he
  have HE : Hid (Xk s = (y, i, 0)) := by rw [Hid, HR.out]; rfl
  clear HR;have q2 : w2.cell? ⟨w.heap.size + 1, 2, none⟩ = some (.int .i64 0) := HB2.cell 2;have HZ := hid (fun (n : Nat) => Xn (b0 := w64 y.w0) (b1 := w64 y.w1) (b2 := w64 y.w2) (b3 := w64 y.w3) (show Blk (w2.drewN n) w.heap.size 249 #[.int .u64 0, .int .u64 0, .int .u64 0, .int .u64 0] from HC2.out));have HQ := hid (fun (n : Nat) => Xt (g := w.heap.size) (HBL2.trans ((Zq w2 n).mono HBL2.size)) (Nat.le_refl _) (w64 y.w0) (w64 y.w1) (w64 y.w2) (w64 y.w3));have HF := hid (fun (n : Nat) => Un (g' := w.heap.size) (b0 := w64 y.w0) (b1 := w64 y.w1) (b2 := w64 y.w2) (b3 := w64 y.w3) (show Blk (w2.drewN n) (w.heap.size + 1) 276 #[s, (i : Int), ((0 : Nat) : Int)] from HB2.out) aa);have r1 := (HF.out 1).cell 1;have r2 := (HF.out 1).cell 2;simp only [List.getElem?_toArray, List.getElem?_cons_succ, List.getElem?_cons_zero] at r1 r2;go_wp2_with fail;refine Zx (.val 1 (.val 2 (.val 3 (.two 0 (.two 4 (.op 5 (.val 6 (.val 7 (.nil)))) 5 (.op 4 (.val 6 (.val 7 (.nil))))) 4 (.op 0 (.op 5 (.val 6 (.val 7 (.nil))))))))) ab ab ?_
  iterate 3 (refine Zb rfl ?_; go_big_quiet_step (fail); refine wpQuiet_nil ?_)
  focus
   refine Zj rfl rfl ?_ ?_
   focus
    go_wp2_with fail;refine Zj rfl rfl ?_ ?_
    focus
     skip
    rotate_left 1
    focus
     skip
   rotate_left 2
   focus
    go_wp2_with fail;refine Zc rfl ?_
   all_goals
    go_wp2_with fail;refine Zc rfl ?_;go_wp2_with fail
    iterate 2 (refine Zb rfl ?_; go_big_quiet_step (fail); refine wpQuiet_nil ?_)
    refine Yi ?_;go_wp2_with fail;obtain ⟨z0, z1, z2, z3, -, -, -, -⟩ := Wi (HZ.out 1);exact bodyPost_ret (v := .tuple #[.agg #[w64 y.w0, w64 y.w1, w64 y.w2, w64 y.w3], (i : Int), .int .i64 0]) lq rfl ⟨bh, HQ.out 1⟩
 ·have HE : Hid (Xk s = (Zp.zero, i, e)) := by rw [Hid, HR.out, if_neg he]
  clear HR;have q2 : w2.cell? ⟨w.heap.size + 1, 2, none⟩ = some (.int .i64 (e : Int)) := HB2.cell 2;have he0 : ((e : Int) == 0) = false := af
  have HZ := hid (fun (n : Nat) => Xn (b0 := .int .u64 0) (b1 := .int .u64 0) (b2 := .int .u64 0) (b3 := .int .u64 0) (show Blk (w2.drewN n) w.heap.size 249 #[.int .u64 0, .int .u64 0, .int .u64 0, .int .u64 0] from HC2.out));have HQ := hid (fun (n : Nat) => Xt (g := w.heap.size) (HBL2.trans ((Zq w2 n).mono HBL2.size)) (Nat.le_refl _) (.int .u64 0) (.int .u64 0) (.int .u64 0) (.int .u64 0));have HF := hid (fun (n : Nat) => Un (g' := w.heap.size) (b0 := .int .u64 0) (b1 := .int .u64 0) (b2 := .int .u64 0) (b3 := .int .u64 0) (show Blk (w2.drewN n) (w.heap.size + 1) 276 #[s, (i : Int), (e : Int)] from HB2.out) aa);have r1 := (HF.out 1).cell 1;have r2 := (HF.out 1).cell 2;simp only [List.getElem?_toArray, List.getElem?_cons_succ, List.getElem?_cons_zero] at r1 r2;go_wp2_with fail;refine Zx (.val 0 (.val 1 (.val 2 (.val 3 (.val 5 (.val 6 (.val 7 (.three 4 (.two 8 (.op 9 (.val 10 (.val 11 (.nil)))) 9 (.val 10 (.op 8 (.val 11 (.nil))))) 8 (.two 4 (.op 9 (.val 10 (.val 11 (.nil)))) 9 (.op 4 (.val 10 (.val 11 (.nil))))) 9 (.two 4 (.val 10 (.op 8 (.val 11 (.nil)))) 8 (.op 4 (.val 10 (.val 11 (.nil))))))))))))) ab ab ?_
  iterate 7 (refine Zb rfl ?_; go_big_quiet_step (fail); refine wpQuiet_nil ?_)
  focus
   refine Jd rfl rfl rfl ?_ ?_ ?_
   focus
    go_wp2_with fail;refine Zj rfl rfl ?_ ?_
    focus
     go_wp2_with fail;refine Zc rfl ?_;go_wp2_with fail;refine Zb rfl ?_
     go_big_quiet_step (fail)
     refine wpQuiet_nil ?_
    rotate_left 1
    focus
     go_wp2_with fail;refine Zb rfl ?_
     go_big_quiet_step (fail)
     refine wpQuiet_nil ?_;refine Zc rfl ?_;go_wp2_with fail
   rotate_left 2
   focus
    go_wp2_with fail;refine Zj rfl rfl ?_ ?_
    focus
     go_wp2_with fail;refine Zc rfl ?_;go_wp2_with fail;refine Zb rfl ?_
     go_big_quiet_step (fail)
     refine wpQuiet_nil ?_
    rotate_left 1
    focus
     go_wp2_with fail;refine Zc rfl ?_;go_wp2_with fail;refine Zb rfl ?_
     go_big_quiet_step (fail)
     refine wpQuiet_nil ?_
   rotate_left 2
   focus
    go_wp2_with fail;refine Zj rfl rfl ?_ ?_
    focus
     go_wp2_with fail;refine Zb rfl ?_
     go_big_quiet_step (fail)
     refine wpQuiet_nil ?_;refine Zc rfl ?_;go_wp2_with fail
    rotate_left 1
    focus
     go_wp2_with fail;refine Zc rfl ?_;go_wp2_with fail;refine Zb rfl ?_
     go_big_quiet_step (fail)
     refine wpQuiet_nil ?_
   all_goals
    refine Zb rfl ?_
    go_big_quiet_step (fail)
    refine wpQuiet_nil ?_;refine Yi ?_;go_wp2_with fail;obtain ⟨z0, z1, z2, z3, -, -, -, -⟩ := Wi (HZ.out 1);exact bodyPost_ret (v := .tuple #[.agg zf, (i : Int), (e : Int)]) lq rfl ⟨bh, HQ.out 1⟩
end Go.Proofs.YtpkkfdmhbbipoaaGreat
