/- Walks: the reference's Read (a set's text), where it is not the other way round. Walks: the reference's Parse (a pattern's text). -/
import Derived.Test.YtpkkfdmhbbipoaaGreatMf
namespace Go.Proofs.YtpkkfdmhbbipoaaGreat
set_option maxRecDepth 20000
set_option maxHeartbeats 8000000
open Go.RowKit PopT
theorem Zmx (s : ByteArray) (w : World) (hs : s.size ≤ 1000000) (h91 : isM s 0 91 = true) (h94 : isM s 1 94 = false) (h1 : 1 < s.size) (Q : Zp × Nat × Nat) (hq : Ux s (s.size + 1) (Zu s 1).1 (Zu s 1).2.1 (Zu s 1).2.2 = Q)
  (hr : Xk s = if Q.2.2 = 0 then (Q.1, Q.2.1 + 1, 0) else (Zp.zero, Q.2.1, Q.2.2)) :
  Calls Tryz.prog 224 #[s] w fun e w' => e = .returned (.tuple #[(Xk s).1.val, .int .i64 ((Xk s).2.1 : Nat), .int .i64 ((Xk s).2.2 : Nat)]) ∧ Below w.heap.size w w' := by
 have HR := hid hr;have HQ : Hid (Ux s (s.size + 1) (orM Zp.zero (Zu s 1).1) (Zu s 1).2.1 (Zu s 1).2.2 = Q) := by rw [Hid, Zis]; exact hq
 obtain ⟨h0, hb0⟩ := Gg h91;have hby0 := (Xo s 0 h0).symm;rw [hb0] at hby0;have hi0 : 1 ≤ s.size := aa
 have z0 : ¬ s.toList = [] := by
  exact N49
 have z1 : s.toList.isEmpty = false := dc
 clear h91 hq hr hb0;have hby1 := (Xo s 1 h1).symm;have hb1 : Yf s 1 ≠ 94 := by rw [Zaw s 1 94 h1, beq_eq_false_iff_ne] at h94; exact h94
 obtain ⟨cc, hcc⟩ := nE (Yf s 1);rw [hcc] at hby1 hb1;have e94 : ((cc : Int) == 94) = false := bF aa;clear h94 hcc;go_enter Tryz.func224, Tryz.ntmps224;go_wp2_with fail;refine (Zad _).mono ?_;rintro e w1 ⟨A1, c1, rfl, hown, hbl⟩;simp only [World.size_alloc] at hown hbl;have hz1 := (Blk.new w 249 #[.int .u64 0, .int .u64 0, .int .u64 0, .int .u64 0]).below hbl ah;have hb1 := ((Below.refl w.heap.size w).alloc (Nat.le_refl _) (.cells zf 249)).trans (hbl.mono ah);have hsz1 := hbl.size;simp only [World.size_alloc] at hsz1;have HZ1 := hid hz1
 obtain ⟨g, cap, hA1, hgb⟩ : ∃ g cap, Value.slice A1 256 c1 = .slice (some ⟨g, 0, none⟩) 256 cap ∧ w.heap.size + 1 ≤ g := by
  exact N62
 injection hA1 with hA1 _ hc1
 subst hA1 hc1;clear hbl hz1;have HO1 : Hid (w1.ownsRow (w.heap.size + 1) 4 1 (.slice (some ⟨g, 0, none⟩) 256 c1) 256 (Zs (Xm Zp.zero))) := by rw [Hid, Zan]; exact hown
 have HB1 := hid hb1;clear hown hb1;go_wp2_with fail
 go_loopw [6, 8] (fun iv fv wr => ∃ (i n : Nat) (x : Zp) (fst : Bool), i ≤ s.size ∧ s.size ≤ i + n ∧ iv = .int .i64 (i : Int) ∧ fv = .bool fst ∧
   (if fst = true then Ux s n (orM x (Zu s i).1) (Zu s i).2.1 (Zu s i).2.2 = Q else Ux s (n + 1) x i 0 = Q) ∧
   wr.ownsRow (w.heap.size + 1) 4 1 (.slice (some ⟨g, 0, none⟩) 256 c1) 256 (Zs (Xm x)) ∧ Blk wr w.heap.size 249 zf ∧ Below w.heap.size w wr ∧ w.heap.size + 1 ≤ wr.heap.size) (fun iv _ _ => s.size - (intOf iv).toNat)
 case atStart => exact ⟨1, s.size + 1, Zp.zero, true, hi0, aa, rfl, rfl, by rw [if_pos rfl]; exact HQ.out, HO1.out, HZ1.out, HB1.out, hsz1⟩
 case round =>
  obtain ⟨i, n, x, fst, hi, hn, rfl, rfl, hgo, hown, hz, hbl, hsz⟩ := hrel;have HO := hid hown; have HZ := hid hz; have HB := hid hbl; have HGO := hid hgo;clear hown hz hbl HQ HO1 HZ1 HB1 hsz1 hgo;cases fst
  ·have HGO2 : Hid (Ux s (n + 1) x i 0 = Q) := by have := HGO.out; rwa [if_neg ac] at this
   clear HGO;cases h93 : isM s i 93
   ·exact N125
   ·have HE : Hid (Q = (x, i, 0)) := by rw [Hid, ← HGO2.out, Za4 s (n + 1) x i 0 h93]
    obtain ⟨h94', h95'⟩ := Gg h93;have hby9 := (Xo s i h94').symm;rw [h95'] at hby9;have e93' : ((i : Int) == (s.size : Int)) = false := bF aa;have HRR : Hid (Xk s = (x, i + 1, 0)) := by rw [Hid, HR.out, HE.out]; rfl
    have HMK := hid (Zch (some ⟨g, 0, none⟩) c1 (Xm x) wr (Xz x) (Xw HO.out));rw [Zdy] at HMK;obtain ⟨j, hj⟩ := nE (i + 1);have hj' : ((i : Int) + 1) = (j : Int) := aa
    rw [hj] at HRR;clear HE HGO2 h93 hj HR HO;unfold Zp.val at *;go_wp2_with fail;refine HMK.mono ?_;rintro e w4 ⟨rfl, hb4⟩;have HZ4 : Hid (Blk w4 w.heap.size 249 zf) := HZ.below hb4 HZ.lt;have HB4 := bt HB hb4;have hlt4 := HZ4.lt;clear hb4 HMK HZ HB;have HX5 := hid (Blk.new w4 249 #[w64 x.w0, w64 x.w1, w64 x.w2, w64 x.w3]);have HZ5 : Hid (Blk (w4.alloc (.cells #[w64 x.w0, w64 x.w1, w64 x.w2, w64 x.w3] 249)) w.heap.size 249 #[.int .u64 0, .int .u64 0, .int .u64 0, .int .u64 0]) := HZ4.alloc _;have HB5 : Hid (Below w.heap.size w (w4.alloc (.cells #[w64 x.w0, w64 x.w1, w64 x.w2, w64 x.w3] 249))) := HB4.alloc HB4.size _;obtain ⟨X, hX⟩ := nE (w4.heap.size);rw [hX] at HX5 hlt4;go_upto_region 26 with fail;obtain ⟨w5, hw5⟩ := nE (w4.alloc (.cells #[w64 x.w0, w64 x.w1, w64 x.w2, w64 x.w3] 249));rw [hw5] at HX5 HZ5 HB5 ⊢;clear hw5 HZ4 HB4;obtain ⟨x0, x1, x2, x3, p0, p1, p2, p3⟩ := Wi HX5.out;obtain ⟨k0, k1, k2, k3, f0, f1, f2, f3⟩ := Wi HZ5.out;have HZ9 := hid (Xn (b0 := w64 x.w0) (b1 := w64 x.w1) (b2 := w64 x.w2) (b3 := w64 x.w3) HZ5.out);have HB9 := hid (Xt (g := w.heap.size) HB5.out (Nat.le_refl _) (w64 x.w0) (w64 x.w1) (w64 x.w2) (w64 x.w3));go_wp2_with fail;obtain ⟨z0, z1, z2, z3, -, -, -, -⟩ := Wi HZ9.out;exact bodyPost_ret (v := .tuple #[.agg #[w64 x.w0, w64 x.w1, w64 x.w2, w64 x.w3], (j : Int), .int .i64 0]) ax rfl ⟨by rw [HRR.out]; rfl, HB9.out⟩
  ·exact N132
theorem Zb0 (s : ByteArray) (b : Bool) (i0 : Nat) (h91 : isM s 0 91 = true) (h94 : isM s 1 94 = b) (hi : i0 = if b = true then 2 else 1) (Q : Zp × Nat × Nat) (hq : Ux s (s.size + 1) (Zu s i0).1 (Zu s i0).2.1 (Zu s i0).2.2 = Q) :
  Xk s = if Q.2.2 = 0 then (if b = true then Zbd Q.1 else Q.1, Q.2.1 + 1, 0) else (Zp.zero, Q.2.1, Q.2.2) := by
 have hW : Xu s = if Q.2.2 = 0 then (if b = true then Zbd Q.1 else Q.1, Q.2.1 + 1, 0) else (Zp.zero, Q.2.1, Q.2.2) := by
  simp only [Xu];rw [if_pos h91, h94, ← hi, hq]
 unfold Xk;rw [hW];by_cases h : Q.2.2 = 0
 ·rw [if_pos h, if_pos rfl]
 ·rw [if_neg h, if_neg h]
theorem N18{P:Prop}(h:P:=by
 go_enter Tryz.func224, Tryz.ntmps224;go_wp2_with fail;refine (Zad _).mono ?_;rintro e w1 ⟨A1, c1, rfl, hown, hbl⟩;simp only [World.size_alloc] at hown hbl;have HZ1 := hid ((Blk.new w 249 #[.int .u64 0, .int .u64 0, .int .u64 0, .int .u64 0]).below hbl ah);have HB1 := hid (((Below.refl w.heap.size w).alloc (Nat.le_refl _) (.cells zf 249)).trans (hbl.mono ah));clear hown hbl;go_wp2_with fail;refine (Za2 s 0 (Nat.zero_le _) hs _).mono ?_;rintro e w8 ⟨rfl, hb8⟩;have HZ8 : Hid (Blk w8 w.heap.size 249 zf) := HZ1.below hb8 HZ1.lt;have HB8 := bt HB1 hb8;clear hb8;obtain ⟨k0, k1, k2, k3, f0, f1, f2, f3⟩ := Wi HZ8.out;have HZ9 := hid (Xn (b0 := .int .u64 0) (b1 := .int .u64 0) (b2 := .int .u64 0) (b3 := .int .u64 0) HZ8.out);have HB9 := hid (Xt (g := w.heap.size) HB8.out (Nat.le_refl _) (.int .u64 0) (.int .u64 0) (.int .u64 0) (.int .u64 0));go_wp2_with fail;obtain ⟨z0, z1, z2, z3, -, -, -, -⟩ := Wi HZ9.out;exact bodyPost_ret (v := .tuple #[.agg zf, .int .i64 0, .int .i64 (Wh s 0 : Nat)]) ax rfl ⟨bh, HB9.out⟩):P:=h
theorem Zow (s : ByteArray) (w : World) (hs : s.size ≤ 1000000) (h91 : isM s 0 91 = false) :
  Calls Tryz.prog 224 #[s] w fun e w' => e = .returned (.tuple #[(Xk s).1.val, .int .i64 ((Xk s).2.1 : Nat), .int .i64 ((Xk s).2.2 : Nat)]) ∧ Below w.heap.size w w' := by
 have HE : Hid (Xk s = (Zp.zero, 0, Wh s 0)) := by
  have hW : Xu s = (Zp.zero, Ws s 0, Wh s 0) := by rw [Xu, if_neg (by rw [h91]; decide)]
  have h0 : Ws s 0 = 0 := by unfold Ws; split <;> omega
  rw [Hid, Xk, hW, if_neg (Wu _ _), h0]
 rcases Zdc (Nat.zero_le _) h91 with h0 | ⟨h0, h1⟩
 ·have z0 : s.toList = [] := by rw [Kv]; exact List.eq_nil_of_length_eq_zero (by simpa using h0.symm)
  clear h0 h91;exact N18
 ·have z0 : ¬ s.toList = [] := by
   exact N49
  have z1 : s.toList.isEmpty = false := dc
  have hby0 := (Xo s 0 h0).symm;obtain ⟨cb, hcb⟩ := nE (Yf s 0);rw [hcb] at hby0 h1;have e91 : ((cb : Int) == 91) = false := bF aa;clear hcb h91;exact N18
theorem Zhk (s : ByteArray) (w : World) (hs : s.size ≤ 1000000) (h91 : isM s 0 91 = true) (h1 : ¬ 1 < s.size) :
  Calls Tryz.prog 224 #[s] w fun e w' => e = .returned (.tuple #[(Xk s).1.val, .int .i64 ((Xk s).2.1 : Nat), .int .i64 ((Xk s).2.2 : Nat)]) ∧ Below w.heap.size w w' := by
 obtain ⟨h0, hb0⟩ := Gg h91;have hby0 := (Xo s 0 h0).symm;rw [hb0] at hby0
 have z0 : ¬ s.toList = [] := by
  exact N49
 have z1 : s.toList.isEmpty = false := dc
 have ho1 : Jn (Yp s 1) = (0, 0, false) := by rw [Jn, if_pos bo]
 have HE : Hid (Xk s = (Zp.zero, 1, Wh s 1)) := by
  have h94 : isM s 1 94 = false := Zkb s 1 94 h1;have hs1 : Ye s 1 0 = (0, Ws s 1, Wh s 1) := by rw [Ye, if_neg (by rw [Zkb s 1 37 h1]; decide), if_neg aa]
  have hst : Ws s 1 = 1 := by unfold Ws; split <;> omega
  have hp : Zu s 1 = (Zt 0 1, 1, Wh s 1) := by
   simp only [Zu]; rw [hs1, hst]; simp only; rw [if_neg iy]
  have hq : Ux s (s.size + 1) (Zu s 1).1 (Zu s 1).2.1 (Zu s 1).2.2 = (Zt 0 1, 1, Wh s 1) := by rw [hp, Zac _ _ _ _ _ (Wu _ _)]
  rw [Hid, Zb0 s false 1 h91 h94 rfl _ hq, if_neg (Wu _ _)]
 have C1 := hid (fun W => Zce (Yp s 1) bo W);rw [ho1] at C1;unfold Yp at C1;have hle1 : 1 ≤ s.size := h0;clear h91 hb0 ho1;go_enter Tryz.func224, Tryz.ntmps224;go_wp2_with fail;refine (Zad _).mono ?_;rintro e w1 ⟨A1, c1, rfl, hown, hbl⟩;simp only [World.size_alloc] at hown hbl;have HZ1 := hid ((Blk.new w 249 #[.int .u64 0, .int .u64 0, .int .u64 0, .int .u64 0]).below hbl ah);have HB1 := hid (((Below.refl w.heap.size w).alloc (Nat.le_refl _) (.cells zf 249)).trans (hbl.mono ah));clear hown hbl;go_wp2_with fail
 go_loopw [6, 8] (fun iv fv wr => iv = .int .i64 1 ∧ fv = .bool true ∧ Blk wr w.heap.size 249 zf ∧ Below w.heap.size w wr) (fun _ _ _ => 0)
 case atStart => exact ⟨rfl, rfl, HZ1.out, HB1.out⟩
 case round =>
  obtain ⟨rfl, rfl, hz, hbl⟩ := hrel;have HZ := hid hz; have HB := hid hbl;clear hz hbl HZ1 HB1;go_wp2_with fail;refine (C1.out _).mono ?_;rintro e w7 ⟨rfl, rfl⟩;go_wp2_with fail;refine (Za2 s 1 hle1 hs _).mono ?_;rintro e w8 ⟨rfl, hb8⟩;have HZ8 : Hid (Blk w8 w.heap.size 249 zf) := HZ.below hb8 HZ.lt;have HB8 := bt HB hb8;clear hb8;obtain ⟨k0, k1, k2, k3, f0, f1, f2, f3⟩ := Wi HZ8.out;have HZ9 := hid (Xn (b0 := .int .u64 0) (b1 := .int .u64 0) (b2 := .int .u64 0) (b3 := .int .u64 0) HZ8.out);have HB9 := hid (Xt (g := w.heap.size) HB8.out (Nat.le_refl _) (.int .u64 0) (.int .u64 0) (.int .u64 0) (.int .u64 0));go_wp2_with fail;obtain ⟨z0, z1, z2, z3, -, -, -, -⟩ := Wi HZ9.out;exact bodyPost_ret (v := .tuple #[.agg zf, (1 : Int), .int .i64 (Wh s 1 : Nat)]) ax rfl ⟨bh, HB9.out⟩
theorem Zmz (s : ByteArray) (w : World) (hs : s.size ≤ 1000000) :
  Calls Tryz.prog 224 #[s] w fun e w' => e = .returned (.tuple #[(Xk s).1.val, .int .i64 ((Xk s).2.1 : Nat), .int .i64 ((Xk s).2.2 : Nat)]) ∧ Below w.heap.size w w' := by
 cases h91 : isM s 0 91
 ·exact Zow s w hs h91
 ·cases h94 : isM s 1 94
  ·by_cases h1 : 1 < s.size
   ·exact Zmx s w hs h91 h94 h1 _ rfl (Zb0 s false 1 h91 h94 rfl _ rfl)
   ·exact Zhk s w hs h91 h1
  ·exact Zmy s w hs h91 h94 _ rfl (Zb0 s true 2 h91 h94 rfl _ rfl)
theorem Zji (p : ByteArray) (k a : Nat) (out : List Zm) (hk : out.length = k) (h60 : ¬ k = 60) (hlt : a < p.size) (h : k ≤ 60) : Wk p (61 - k) out a =
  if (Wx (Yp p a)).2.2 = 0 then Wk p (61 - (k + 1)) (out ++ [(Wx (Yp p a)).1]) (a + (Wx (Yp p a)).2.1) else ([], a + (Wx (Yp p a)).2.1, (Wx (Yp p a)).2.2) := by
 rw [show 61 - k = (61 - (k + 1)) + 1 from aa, Wk, if_pos hlt, if_neg (by rw [hk]; exact h60)]
theorem N126{P:Prop}(h:P:=by
 have HL : Hid ((out ++ [(⟨false, t⟩ : Zm)]).length = k + 1) := ij
 have HO3 : Hid (w3.ownsRow w.heap.size 251 5 (.slice (some ⟨A3, 0, none⟩) (k + 1) d3) (k + 1) (Yb (out ++ [(⟨false, t⟩ : Zm)]))) := by
  rw [Hid, Jx]; simpa [Yb] using hown3
 have hk60 : k < 60 := aa
 clear hown2 hown3 hg3;go_wp2_with fail;go_roundw
 case rel => exact ⟨j, d3, some ⟨A3, 0, none⟩, out ++ [(⟨false, t⟩ : Zm)], hj3, bj, rfl, by rw [HL.out], by rw [HL.out]; exact HE.out, by rw [HL.out]; exact HO3.out, HB3.out⟩
 case measure => have := HJ.out; simp [intOf]; omega):P:=h
theorem N9{P:Prop}(h:P:=by
 unfold Zp.val at HC;go_wp2_with fail;refine (HC.out _).mono ?_;rintro e w1 ⟨rfl, hb1⟩;have HO1 : Hid (w1.ownsRow w.heap.size 251 5 (.slice A k c) k (Yb out)) := Yc HOWN.out hb1;have HB1 := bt HB hb1;clear hb1 HOWN HB HC;have hown2 := HO1.out;have hs3 : w.heap.size ≤ _ := HB1.size;go_wp2_with (at_builtin; refine Qz _ rfl _ _ 223 rfl w.heap.size 251 _ 5 40 Tryz.underlying223 Kb rfl ac _ _ _ rfl hown2 1 (Zm.cells (⟨false, t⟩ : Zm)) rfl rfl rfl ?_ ac hs3 ?_)
 ·omega
 intro A3 d3 w3 hown3 hg3;have HB3 := hid (Wo HB1.out hown2 hg3 (Nat.le_refl _) hs3);exact N126):P:=h
theorem Zk0 (p : ByteArray) (hp : p.size ≤ 1000000) (w : World) :
  Calls Tryz.prog 211 #[p] w fun e w' => Uo (Xg p) w e w' := by
 have HR : Hid (Wk p 61 [] 0 = Xg p) := rfl;obtain ⟨R, hR⟩ := nE (Xg p);rw [hR] at HR ⊢;clear hR;obtain ⟨Q, hQ⟩ := nE (Uo R w);rw [show (fun e w' => Uo R w e w') = Q from hQ];have HQ := hid hQ;clear hQ;go_enter Tryz.func211, Tryz.ntmps211;go_wp2_with fail
 go_loopw [5, 6] (fun v i wr => ∃ (a c : Nat) (A : Option Addr) (out : List Zm), a ≤ p.size ∧ out.length ≤ 60 ∧ i = .int .i64 (a : Int) ∧ v = .slice A out.length c ∧ Wk p (61 - out.length) out a = R ∧
   wr.ownsRow w.heap.size 251 5 (.slice A out.length c) out.length (Yb out) ∧ Below w.heap.size w wr) (fun _ i _ => p.size - (intOf i).toNat)
 case atStart => exact ⟨0, _, _, [], aa, ah, rfl, rfl, HR.out, World.ownsRow_made _ _ _ (Nat.le_refl _) cd ah, (Below.refl _ _).alloc (Nat.le_refl _) _⟩
 case round =>
  obtain ⟨a, c, A, out, ha, hol, rfl, rfl, hpar, hown, hb⟩ := hrel;have HPAR := hid hpar; have HOWN := hid hown; have HB := hid hb;obtain ⟨k, hk⟩ := nE (out.length);have HK := hid hk;rw [hk] at hol HPAR HOWN ⊢;clear hpar hown hb hk HR;by_cases hlt : a < p.size
  ·by_cases h60 : k = 60
   ·exact N53
   ·have HN := hid (Zji p k a out HK.out h60 hlt hol)
    have e60 : ((k : Int) == 60) = false := bF aa;have hby := (Xo p a hlt).symm;have hc8 := Ga p a;have HIT := Ziu (Yp p a);rw [Gx, Gx, Nat.add_zero, Xd] at HIT;obtain ⟨b, hbb⟩ := nE (Yf p a);rw [hbb] at hby hc8 HIT;have HIT := hid HIT;clear hbb;by_cases h93 : b = 93
    ·have e93 : ((b : Int) == 93) = true := bT aa
     have h42 : ¬ b = 42 := aa
     have h63 : ¬ b = 63 := aa
     have h91 : ¬ b = 91 := aa
     have HE : Hid (R = ([], a, 2)) := by rw [Hid, ← HPAR.out, HN.out, HIT.out, if_neg h42, if_neg h63, if_neg h91, if_pos h93, if_neg (show ¬ (2 : Nat) = 0 by decide)]; simp only [Nat.add_zero]
     clear HN HIT HPAR HOWN;go_wp2_with fail
     go_ret3
     have h := Qv w wr a 2 HB.out;rw [← HE.out, HQ.out] at h;exact h
    ·have e93 : ((b : Int) == 93) = false := bF aa
     by_cases h91 : b = 91
     ·have e91 : ((b : Int) == 91) = true := bT aa
      have h42 : ¬ b = 42 := aa
      have h63 : ¬ b = 63 := aa
      have HC := hid (fun W => Zmz (Yp p a) W bo);have HLE := Zin (Yp p a);rw [Xd] at HLE;obtain ⟨⟨t, n, e⟩, ht⟩ : ∃ t, Xk (Yp p a) = t := ⟨_, rfl⟩;rw [ht] at HC HLE HIT;simp only at HC HLE HIT;unfold Yp at HC;unfold Zp.val at HC;obtain ⟨hle1, hle2⟩ := HLE;obtain ⟨j, hj⟩ := nE (a + n);have hj2 : ((a : Int) + (n : Int)) = (j : Int) := aa
      have hj3 : j ≤ p.size := aa
      clear ht;by_cases he : e = 0
      ·subst he
       have HE : Hid (Wk p (61 - (k + 1)) (out ++ [⟨false, t⟩]) j = R) := by rw [Hid, ← HPAR.out, HN.out, HIT.out, if_neg h42, if_neg h63, if_pos h91, if_pos rfl]; simp only [hj]
       have hn0 : 0 < n := hle2 rfl;have HJ : Hid (a < j) := ei
       clear HN HIT HPAR hj hle1 hle2;go_wp2_with fail;refine (HC.out _).mono ?_;rintro e w1 ⟨rfl, hb1⟩;have HO1 : Hid (w1.ownsRow w.heap.size 251 5 (.slice A k c) k (Yb out)) := Yc HOWN.out hb1;have HB1 := bt HB hb1;clear hb1 HOWN HB HC;have HO2 : Hid ((w1.alloc (.cells #[w64 t.w0, w64 t.w1, w64 t.w2, w64 t.w3] 249)).ownsRow w.heap.size 251 5 (.slice A k c) k (Yb out)) := Yc HO1.out ((Below.refl w1.heap.size w1).alloc (Nat.le_refl _) _);have HB2 : Hid (Below w.heap.size w (w1.alloc (.cells #[w64 t.w0, w64 t.w1, w64 t.w2, w64 t.w3] 249))) := HB1.alloc HB1.size _;have HX2 := hid (Blk.new w1 249 #[w64 t.w0, w64 t.w1, w64 t.w2, w64 t.w3]);obtain ⟨X, hX⟩ := nE (w1.heap.size);rw [hX] at HX2;go_upto_region 13 with fail;obtain ⟨w2, hw2⟩ := nE (w1.alloc (.cells #[w64 t.w0, w64 t.w1, w64 t.w2, w64 t.w3] 249));rw [hw2] at HO2 HB2 HX2 ⊢;clear hw2 HO1 HB1;obtain ⟨x0, x1, x2, x3, -, -, -, -⟩ := Wi HX2.out;have hown2 := HO2.out;have hs3 : w.heap.size ≤ _ := HB2.size;go_wp2_with (at_builtin; refine Qz _ rfl _ _ 223 rfl w.heap.size 251 _ 5 40 Tryz.underlying223 Kb rfl ac _ _ _ rfl hown2 1 (Zm.cells (⟨false, t⟩ : Zm)) rfl rfl rfl ?_ ac hs3 ?_)
       ·omega
       intro A3 d3 w3 hown3 hg3;have HB3 := hid (Wo HB2.out hown2 hg3 (Nat.le_refl _) hs3);exact N126
      ·have HE : Hid (R = ([], j, e)) := by rw [Hid, ← HPAR.out, HN.out, HIT.out, if_neg h42, if_neg h63, if_pos h91, if_neg he]; simp only [hj]
       have he0 : ((e : Int) == 0) = false := bF aa;clear HN HIT HPAR hj hle1 hle2 HOWN;go_wp2_with fail;refine (HC.out _).mono ?_;rintro en w1 ⟨rfl, hb1⟩;have HB2 : Hid (Below w.heap.size w (w1.alloc (.cells #[w64 t.w0, w64 t.w1, w64 t.w2, w64 t.w3] 249))) := (HB.trans (hb1.mono HB.size)).alloc (Nat.le_trans HB.size hb1.size) _;clear hb1 HC;exact N101
     ·have e91 : ((b : Int) == 91) = false := bF aa
      by_cases h42 : b = 42
      ·have e42 : ((b : Int) == 42) = true := bT aa
       obtain ⟨j, hj⟩ := nE (a + 1);have hj2 : ((a : Int) + 1) = (j : Int) := aa
       have hj3 : j ≤ p.size := aa
       have HE : Hid (Wk p (61 - (k + 1)) (out ++ [⟨true, Zp.zero⟩]) j = R) := by rw [Hid, ← HPAR.out, HN.out, HIT.out, if_pos h42, if_pos rfl]; simp only [hj]
       have HJ : Hid (a < j) := ei
       clear HN HIT HPAR hj;have hown2 := HOWN.out;have hs3 : w.heap.size ≤ _ := HB.size;go_wp2_with (at_builtin; refine Qz _ rfl _ _ 223 rfl w.heap.size 251 _ 5 40 Tryz.underlying223 Kb rfl ac _ _ _ rfl hown2 1 (Zm.cells (⟨true, Zp.zero⟩ : Zm)) rfl rfl rfl ?_ ac hs3 ?_)
       ·omega
       intro A3 d3 w3 hown3 hg3;have HB3 := hid (Wo HB.out hown2 hg3 (Nat.le_refl _) hs3);have HL : Hid ((out ++ [(⟨true, Zp.zero⟩ : Zm)]).length = k + 1) := ij
       have HO3 : Hid (w3.ownsRow w.heap.size 251 5 (.slice (some ⟨A3, 0, none⟩) (k + 1) d3) (k + 1) (Yb (out ++ [(⟨true, Zp.zero⟩ : Zm)]))) := by
        rw [Hid, Jx]; simpa [Yb] using hown3
       have hk60 : k < 60 := aa
       clear hown2 hown3 hg3;go_wp2_with fail;go_roundw
       case rel => exact ⟨j, d3, some ⟨A3, 0, none⟩, out ++ [(⟨true, Zp.zero⟩ : Zm)], hj3, bj, rfl, by rw [HL.out], by rw [HL.out]; exact HE.out, by rw [HL.out]; exact HO3.out, HB3.out⟩
       case measure => have := HJ.out; simp [intOf]; omega
      ·have e42 : ((b : Int) == 42) = false := bF aa
       by_cases h63 : b = 63
       ·have e63 : ((b : Int) == 63) = true := bT aa
        obtain ⟨j, hj⟩ := nE (a + 1);have hj2 : ((a : Int) + 1) = (j : Int) := aa
        have hj3 : j ≤ p.size := aa
        have HE : Hid (Wk p (61 - (k + 1)) (out ++ [⟨false, Zt 0 256⟩]) j = R) := by rw [Hid, ← HPAR.out, HN.out, HIT.out, if_neg h42, if_pos h63, if_pos rfl]; simp only [hj]
        have HJ : Hid (a < j) := ei
        have HC := hid (fun W => Zc5 0 255 aa aa W);rw [show 255 + 1 - 0 = 256 from rfl] at HC;obtain ⟨t, ht⟩ := nE (Zt 0 256);rw [ht] at HC HE;clear ht HN HIT HPAR hj;exact N9
       ·have e63 : ((b : Int) == 63) = false := bF aa
        by_cases h37 : b = 37
        ·have e37 : ((b : Int) == 37) = true := bT aa
         by_cases hend : a + 1 = p.size
         ·skip
          obtain ⟨j, hj⟩ := nE (a + 1);have hj2 : ((a : Int) + 1) = (j : Int) := aa
          have hjl : ((j : Int) == (p.size : Int)) = true := bT aa;have hj3 : j ≤ p.size := aa
          have HE : Hid (R = ([], j, 3)) := by rw [Hid, ← HPAR.out, HN.out, HIT.out, if_neg h42, if_neg h63, if_neg h91, if_neg h93, if_pos h37, if_pos (show p.size - a = 1 by omega), if_neg (show ¬ (3 : Nat) = 0 by decide)]; simp only [hj]
          clear HN HIT HPAR HOWN hj;go_wp2_with fail
          go_ret3
          have h := Qv w wr j 3 HB.out;rw [← HE.out, HQ.out] at h;exact h
         ·skip
          obtain ⟨j1, hj1⟩ := nE (a + 1);have hj12 : ((a : Int) + 1) = (j1 : Int) := aa
          have hj1l : j1 < p.size := aa
          have hjl : ((j1 : Int) == (p.size : Int)) = false := bF aa;obtain ⟨j, hj0⟩ := nE (j1 + 1);have hj2 : ((j1 : Int) + 1) = (j : Int) := aa
          have hj3 : j ≤ p.size := aa
          have hj : a + 2 = j := aa
          have hby1 := (Xo p j1 hj1l).symm;have hd8 := Ga p j1;obtain ⟨d, hd⟩ := nE (Yf p j1);rw [hd] at hby1 hd8;rw [hj1, hd] at HIT;have HE : Hid (Wk p (61 - (k + 1)) (out ++ [⟨false, Zt d 1⟩]) j = R) := by rw [Hid, ← HPAR.out, HN.out, HIT.out, if_neg h42, if_neg h63, if_neg h91, if_neg h93, if_pos h37, if_neg (show ¬ p.size - a = 1 by omega), if_pos rfl]; simp only [hj]
          have HJ : Hid (a < j) := ei
          have HC := hid (fun W => Zc5 d d hd8 hd8 W);rw [Nat.add_sub_cancel_left] at HC;obtain ⟨t, ht⟩ := nE (Zt d 1);rw [ht] at HC HE;clear ht HN HIT HPAR hj hd hj0 hj1 hend;exact N9
        ·have e37 : ((b : Int) == 37) = false := bF aa
         obtain ⟨j, hj⟩ := nE (a + 1);have hj2 : ((a : Int) + 1) = (j : Int) := aa
         have hj3 : j ≤ p.size := aa
         have HE : Hid (Wk p (61 - (k + 1)) (out ++ [⟨false, Zt b 1⟩]) j = R) := by rw [Hid, ← HPAR.out, HN.out, HIT.out, if_neg h42, if_neg h63, if_neg h91, if_neg h93, if_neg h37, if_pos rfl]; simp only [hj]
         have HJ : Hid (a < j) := ei
         have HC := hid (fun W => Zc5 b b hc8 hc8 W);rw [Nat.add_sub_cancel_left] at HC;obtain ⟨t, ht⟩ := nE (Zt b 1);rw [ht] at HC HE;clear ht HN HIT HPAR hj;exact N9
  ·exact N65
end Go.Proofs.YtpkkfdmhbbipoaaGreat
