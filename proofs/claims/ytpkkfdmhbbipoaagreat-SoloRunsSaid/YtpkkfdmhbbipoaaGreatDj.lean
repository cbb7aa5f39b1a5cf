/- Walks: package dial: does. Walks: package dial: Step. -/
import Derived.Test.YtpkkfdmhbbipoaaGreatDh
namespace Go.Proofs.YtpkkfdmhbbipoaaGreat
set_option maxRecDepth 20000
set_option maxHeartbeats 16000000
open Go.RowKit PopT
section
variable {B d gi gb gh gp c : Nat} {F F2 : Nat → Prop} {w0 w w' : World} {A : Option Addr} {x : Zf}
theorem Zqu (d : Vs) (now : Int) : d.over now ≤ 5 := by
 unfold Vs.over
 repeat' split
 all_goals omega
theorem Zos (x : Zf) : x.send.2.2.1 = 0 := by unfold Zf.send; split <;> rfl
theorem Zmc (x : Zf) (h : Ys x) (hk : x.op.kind = 3) : x.op.tt ≤ (x.p.ops.length : Int) := by
 have hg := (Nx x h (Mv x aa)).1;unfold opE at hg;rw [if_neg aa] at hg;split at hg
 ·omega
 ·rw [if_neg aa, if_neg aa] at hg
  try rw [if_pos hk] at hg
  split at hg
  ·rename_i hc; exact Zgw _ _ hc
  ·omega
theorem Zn1 (h : Zr B F w0 w d gi gb gh gp F2 A c x) (vt : Int) (vl vs : Nat) (hP : x.op.kind = 2 → x.P.length = x.op.arms.length) : Calls Tryz.prog 67 #[.pointer (some ⟨d, 0, none⟩), .agg #[vt, (vl : Int), .int .i64 0, .int .i64 0, .int .i64 0, (vs : Int)]] w fun e w' => e = .returned (Qa.val ⟨vt, vl, x.does.2.1, x.does.2.2.1, x.does.2.2.2, vs⟩) ∧ Zl B (Fup F w w') w0 w' d x.does.1 ∧ Za F w w' := by
 unfold Qa.val;have HD := hid h;have HP := hid hP;have HF : Hid (∀ k, F k → B ≤ k ∧ k < w.heap.size) := h.fin;have HB : Hid (B ≤ w.heap.size) := h.base.2
 have HSE : Hid (x.does = if x.due.over x.now ≠ 0 then (x.stop (x.due.over x.now), (if x.due.over x.now = 3 then 12 else 14), 0, 0)
  else if x.op.kind = 1 then x.send
  else if x.op.kind = 2 then x.look
  else if x.op.kind = 3 then ((x.jump 7 x.op.tt).1, (x.jump 7 x.op.tt).2, 0, 0)
  else if x.op.kind = 4 then (x.come (x.loc + 1), 8, 0, 0)
  else if x.op.kind = 6 then (x.stop 2, 10, 0, 0)
  else (x.stop 1, 9, 0, 0)) := rfl
 obtain ⟨R, hR⟩ := nE (x.does);rw [hR] at HSE ⊢;clear hR hP;obtain ⟨wa, hwa⟩ := nE ((w.alloc (.cells #[vt, (vl : Int), .int .i64 0, .int .i64 0, .int .i64 0, (vs : Int)] 51)).alloc (.cells zs 51));have HBA : Hid (Below w.heap.size w wa) := hwa ▸ Uu _ _ _;have HXA : Hid (Blk wa w.heap.size 51 #[vt, (vl : Int), .int .i64 0, .int .i64 0, .int .i64 0, (vs : Int)]) := hwa ▸ (Blk.new w _ _).alloc _;have HRA : Hid (Blk wa (w.heap.size + 1) 51 zs) := hwa ▸ Gz _ _ _ _;have HWA := hid hwa;have HDA := hid (h.below HBA.out);clear hwa h;obtain ⟨gx, hgx⟩ := nE (w.heap.size);have HGX := hid hgx;rw [hgx] at HXA HRA;clear hgx;obtain ⟨ov, hov⟩ := nE (x.due.over x.now);have HOV0 : Hid (ov ≤ 5) := by rw [Hid, ← hov]; exact Zqu _ _
 obtain ⟨t1, ht1⟩ := nE (x.due.til);obtain ⟨t2, ht2⟩ := nE (x.due.lim);obtain ⟨t3, ht3⟩ := nE (x.due.cut);obtain ⟨nw, hnw⟩ := nE (x.now)
 have CV : Hid (∀ W, Calls Tryz.prog 111 #[.agg #[t1, t2, t3], nw] W fun e w' => e = .returned (.tuple #[(ov : Int), .bool (decide (ov ≠ 0))]) ∧ Below W.heap.size W w') := by
  rw [← ht1, ← ht2, ← ht3, ← hnw, ← hov]; exact fun W => Zd4 x.due x.now W
 have hdl := HDA.lt;have T13 : ∀ q : BW wa.heap.size wa, q.1.cell? ⟨d, 13, none⟩ = some (.int .i64 t1) := fun q => q.cellAt hdl (by rw [← ht1]; exact HDA.cell 13);have T14 : ∀ q : BW wa.heap.size wa, q.1.cell? ⟨d, 14, none⟩ = some (.int .i64 t2) := fun q => q.cellAt hdl (by rw [← ht2]; exact HDA.cell 14);have T15 : ∀ q : BW wa.heap.size wa, q.1.cell? ⟨d, 15, none⟩ = some (.int .i64 t3) := fun q => q.cellAt hdl (by rw [← ht3]; exact HDA.cell 15);have T20 : ∀ q : BW wa.heap.size wa, q.1.cell? ⟨d, 20, none⟩ = some (.int .i64 nw) := fun q => q.cellAt hdl (by rw [← hnw]; exact HDA.cell 20);rw [hov] at HSE;clear ht1 ht2 ht3 hnw hov;obtain ⟨od, hod⟩ := nE (decide (ov ≠ 0));rw [hod] at CV;have HOD := hid hod;clear hod;go_enter Tryz.func67, Tryz.ntmps67;go_upto_region 1 with fail;rw [HWA.out, HGX.out];obtain ⟨gr, hgr⟩ := nE (gx + 1);rw [hgr] at HRA ⊢;have HG : Hid (w.heap.size = gx ∧ gx + 1 = gr ∧ gr < wa.heap.size) := ⟨HGX.out, hgr, HRA.lt⟩;have HNF : Hid (¬ F gx ∧ ¬ F gr) := ⟨fun hf => al, fun hf => al⟩;clear hgr HGX HWA;refine Zh wa.heap.size ab ab ?_
 repeat (go_big_quiet_step (first | (go_at_call 111; exact Zoi (Nat.le_refl _) CV.out _)))
 refine wpQuiet_nil ?_;intro wv hqu;have HBU : Hid (Below wa.heap.size wa wv) := ak
 clear hqu T13 T14 T15 T20 CV hdl;have HXV := bb HXA HBU;have HRW := bb HRA HBU;have HDV := hid (HDA.below HBU.out);have HKV : Hid (Za F w wv) := Za.of_below (HBA.trans (HBU.mono HBA.size));have HSV : Hid (gr < wv.heap.size) := HRW.lt;cases od
 ·have hov0 : ov = 0 := by have := HOD.out; simpa using this
  subst hov0;have HSE := hid (HSE.trans (if_neg ac));clear HOD HOV0;have CO := hid (Zmd HDV.out);go_wp2_with fail;refine CO.mono ?_;rintro en wb ⟨v, rfl, harm, hb⟩;have HBB := hid hb;obtain ⟨Av, cv, rfl, harm⟩ := harm;obtain ⟨na, hna⟩ := nE (x.op.arms.length);have HARM : Hid (Xj w0 x.op (.slice Av x.op.arms.length cv)) := ⟨Av, cv, rfl, harm⟩;rw [hna];have HNA := hid hna;clear harm hb CO hna;obtain ⟨o, ho⟩ := nE (x.op);have HO := hid ho;rw [ho] at HSE ⊢;clear ho;obtain ⟨k, tx, nn, tj, arms, oT, oE⟩ := o;unfold OpV.val;simp only at HSE ⊢;have HXB := bb HXV HBB;have HRB := bb HRW HBB;have HDB := hid (HDV.below HBB.out);have HKB : Hid (Za F w wb) := HKV.trans (Za.of_below (F := F) HBB.out) (fun _ h => .inl h);go_upto_region 9 with fail;obtain ⟨wv, hwv⟩ := nE (wb.alloc (.cells #[k, tx, nn, tj, .slice Av na cv, oT, oE] 56));rw [hwv];have HOV := bn hwv;have HBN := ba hwv;clear hwv HXV HRW HDV HKV HSV;have HXV := bb HXB HBN;have HRW := bb HRB HBN;have HDV := hid (HDB.below HBN.out);have HKV : Hid (Za F w wv) := HKB.trans (Za.of_below (F := F) HBN.out) (fun _ h => .inl h);have HSV : Hid (gr < wv.heap.size) := HRW.lt;have HGO : Hid (gr < wb.heap.size) := HRB.lt;obtain ⟨go, hgo⟩ := nE (wb.heap.size);rw [hgo] at HOV HGO ⊢;clear hgo HXB HRB HDB HKB HBN HBB;by_cases k1 : k = 1
  ·subst k1
   have HR := hid (HSE.trans (if_pos rfl));clear HSE HP;have CC := Znz HDV.out ⟨vt, vl, 0, 0, 0, vs⟩ (.slice Av na cv) (by rw [HO.out]) ⟨Av, cv, by rw [HNA.out]⟩;rw [HO.out] at CC;unfold Qa.val OpV.val at CC;simp only at CC;obtain ⟨J, hJ⟩ := nE (x.send);have HJ0 : Hid (J.2.2.1 = 0) := by rw [Hid, ← hJ]; exact Zos x
   rw [hJ] at CC HR;clear hJ;have CC := hid CC;obtain ⟨x0, x1, x2, x3, x4, x5⟩ := Yk HXV.out;have hlx := HXV.lt;obtain ⟨o0, o1, o2, o3, o4, o5, o6⟩ := Qo HOV.out;have hlo := HOV.lt;go_wp2_with fail;refine CC.mono ?_;rintro en w1 ⟨rfl, hd1, hk1⟩;have HD1 := hid hd1; have HK1 := hid hk1;have HRV := hid (hk1.blk HRW.out HNF.2);clear hd1 hk1 CC;obtain ⟨r0, r1, r2, r3, r4, r5⟩ := Yk HRV.out;have z0 := HRV.frozen 0; have z1 := HRV.frozen 1; have z2 := HRV.frozen 2; have z3 := HRV.frozen 3; have z4 := HRV.frozen 4; have z5 := HRV.frozen 5;have hlr := HRV.lt;go_wp2_with fail;obtain ⟨wz, hwz⟩ := nE (Yw w1 gr (.int .i64 vt) (.int .i64 (vl : Int)) (.int .i64 (J.2.1 : Int)) (.int .i64 0) (.int .i64 (J.2.2.2 : Int)) (.int .i64 (vs : Int)));have KZ : Hid (Za (fun k => k = gr) w1 wz) := hwz ▸ Yg _ _ _ _ _ _ _ _;have BZ := Yr HRV.out (.int .i64 vt) (.int .i64 (vl : Int)) (.int .i64 (J.2.1 : Int)) (.int .i64 0) (.int .i64 (J.2.2.2 : Int)) (.int .i64 (vs : Int));rw [hwz] at BZ;unfold Yw at hwz;rw [hwz];clear hwz;obtain ⟨t0, t1, t2, t3, t4, t5⟩ := Yk BZ;have hf := Qr (G := fun k => k = gr) HF.out HB.out (fun k hk => .inl hk) HKV.out HD1.out HK1.out KZ.out (fun k (e : k = gr) => au);refine bodyPost_ret (v := .agg #[vt, (vl : Int), (J.2.1 : Int), .int .i64 0, (J.2.2.2 : Int), (vs : Int)]) aq rfl ⟨?_, ?_, hf.2⟩
   ·rw [HR.out, HJ0.out]; rfl
   ·rw [HR.out]; exact hf.1
  have HSE := hid (HSE.trans (if_neg k1));have k1f := bF k1;clear k1;by_cases k2 : k = 2
  ·subst k2
   have HR := hid (HSE.trans (if_pos rfl));clear HSE;have CC := Zn0 HDV.out ⟨vt, vl, 0, 0, 0, vs⟩ (.slice Av na cv) (by rw [HO.out]) (HP.out (by rw [HO.out])) (by rw [← HNA.out]; exact HARM.out) rfl;rw [HO.out] at CC;unfold Qa.val OpV.val at CC;simp only at CC;obtain ⟨J, hJ⟩ := nE (x.look);rw [hJ] at CC HR;clear hJ;have CC := hid CC;obtain ⟨x0, x1, x2, x3, x4, x5⟩ := Yk HXV.out;have hlx := HXV.lt;obtain ⟨o0, o1, o2, o3, o4, o5, o6⟩ := Qo HOV.out;have hlo := HOV.lt;go_wp2_with fail;refine CC.mono ?_;rintro en w1 ⟨rfl, hd1, hk1⟩;have HD1 := hid hd1; have HK1 := hid hk1;have HRV := hid (hk1.blk HRW.out HNF.2);clear hd1 hk1 CC;obtain ⟨r0, r1, r2, r3, r4, r5⟩ := Yk HRV.out;have z0 := HRV.frozen 0; have z1 := HRV.frozen 1; have z2 := HRV.frozen 2; have z3 := HRV.frozen 3; have z4 := HRV.frozen 4; have z5 := HRV.frozen 5;have hlr := HRV.lt;go_wp2_with fail;obtain ⟨wz, hwz⟩ := nE (Yw w1 gr (.int .i64 vt) (.int .i64 (vl : Int)) (.int .i64 (J.2.1 : Int)) (.int .i64 (J.2.2.1 : Int)) (.int .i64 (J.2.2.2 : Int)) (.int .i64 (vs : Int)));have KZ : Hid (Za (fun k => k = gr) w1 wz) := hwz ▸ Yg _ _ _ _ _ _ _ _;have BZ := Yr HRV.out (.int .i64 vt) (.int .i64 (vl : Int)) (.int .i64 (J.2.1 : Int)) (.int .i64 (J.2.2.1 : Int)) (.int .i64 (J.2.2.2 : Int)) (.int .i64 (vs : Int));rw [hwz] at BZ;unfold Yw at hwz;rw [hwz];clear hwz;obtain ⟨t0, t1, t2, t3, t4, t5⟩ := Yk BZ;have hf := Qr (G := fun k => k = gr) HF.out HB.out (fun k hk => .inl hk) HKV.out HD1.out HK1.out KZ.out (fun k (e : k = gr) => au);refine bodyPost_ret (v := .agg #[vt, (vl : Int), (J.2.1 : Int), (J.2.2.1 : Int), (J.2.2.2 : Int), (vs : Int)]) aq rfl ⟨?_, ?_, hf.2⟩
   ·rw [HR.out]; try rfl
   ·rw [HR.out]; exact hf.1
  have HSE := hid (HSE.trans (if_neg k2));have k2f := bF k2;clear k2;by_cases k3 : k = 3
  ·subst k3
   have HR := hid (HSE.trans (if_pos rfl));clear HSE HP;have o0 := cA HOV.out 0 (.int .i64 3) rfl;have hlo := HOV.lt;have e2 := cA HXV.out 2 (.int .i64 0) rfl;have ef2 := HXV.frozen 2;have hxl := HXV.lt;go_upto_region 18 with fail;clear o0 hlo;obtain ⟨wv, hwv, hxv, HKP⟩ := Blk.put HXV.out 2 (.int .i64 7);rw [hwv];have HXV : Hid (Blk wv gx 51 #[vt, (vl : Int), .int .i64 7, .int .i64 0, .int .i64 0, (vs : Int)]) := hxv;have HDV : Hid (Zr B F w0 wv d gi gb gh gp F2 A c x) := HDV.keep HKP.out (fun k hk (e : k = gx) => HNF.1 ay) (fun k (e : k = gx) => bg);have HRW := hid (HKP.blk HRW.out (fun (e : gr = gx) => ai));have HOV := hid (HKP.blk HOV.out (fun (e : go = gx) => eu));have HKV : Hid (Za F w wv) := HKV.trans HKP.out (fun k (e : k = gx) => .inr df);have HSV : Hid (gr < wv.heap.size) := HRW.lt;clear hwv hxv HKP e2 ef2 hxl;have htj : tj ≤ (x.p.ops.length : Int) := by have := Zmc x HD.ok (by rw [HO.out]); rw [HO.out] at this; exact this
   have CC := Za6 HDV.out ⟨vt, vl, 7, 0, 0, vs⟩ tj htj;unfold Qa.val at CC;simp only at CC;obtain ⟨J, hJ⟩ := nE (x.jump 7 tj);rw [hJ] at CC HR;clear hJ htj;have CC := hid CC;obtain ⟨x0, x1, x2, x3, x4, x5⟩ := Yk HXV.out;have hlx := HXV.lt;have o3 := cA HOV.out 3 tj rfl;have hlo := HOV.lt;go_wp2_with fail;refine CC.mono ?_;rintro en w1 ⟨rfl, hd1, hk1⟩;have HD1 := hid hd1; have HK1 := hid hk1;have HRV := hid (hk1.blk HRW.out HNF.2);clear hd1 hk1 CC;obtain ⟨r0, r1, r2, r3, r4, r5⟩ := Yk HRV.out;have z0 := HRV.frozen 0; have z1 := HRV.frozen 1; have z2 := HRV.frozen 2; have z3 := HRV.frozen 3; have z4 := HRV.frozen 4; have z5 := HRV.frozen 5;have hlr := HRV.lt;go_wp2_with fail;obtain ⟨wz, hwz⟩ := nE (Yw w1 gr (.int .i64 vt) (.int .i64 (vl : Int)) (.int .i64 (J.2 : Int)) (.int .i64 0) (.int .i64 0) (.int .i64 (vs : Int)));have KZ : Hid (Za (fun k => k = gr) w1 wz) := hwz ▸ Yg _ _ _ _ _ _ _ _;have BZ := Yr HRV.out (.int .i64 vt) (.int .i64 (vl : Int)) (.int .i64 (J.2 : Int)) (.int .i64 0) (.int .i64 0) (.int .i64 (vs : Int));rw [hwz] at BZ;unfold Yw at hwz;rw [hwz];clear hwz;obtain ⟨t0, t1, t2, t3, t4, t5⟩ := Yk BZ;have hf := Qr (G := fun k => k = gr) HF.out HB.out (fun k hk => .inl hk) HKV.out HD1.out HK1.out KZ.out (fun k (e : k = gr) => au);refine bodyPost_ret (v := .agg #[vt, (vl : Int), (J.2 : Int), .int .i64 0, .int .i64 0, (vs : Int)]) aq rfl ⟨?_, ?_, hf.2⟩
   ·rw [HR.out]; try rfl
   ·rw [HR.out]; exact hf.1
  have HSE := hid (HSE.trans (if_neg k3));have k3f := bF k3;clear k3;by_cases k4 : k = 4
  ·subst k4
   have HR := hid (HSE.trans (if_pos rfl));clear HSE HP;have o0 := cA HOV.out 0 (.int .i64 4) rfl;have hlo := HOV.lt;have e2 := cA HXV.out 2 (.int .i64 0) rfl;have ef2 := HXV.frozen 2;have hxl := HXV.lt;go_upto_region 21 with fail;clear o0 hlo;obtain ⟨wv, hwv, hxv, HKP⟩ := Blk.put HXV.out 2 (.int .i64 8);rw [hwv];have HXV : Hid (Blk wv gx 51 #[vt, (vl : Int), .int .i64 8, .int .i64 0, .int .i64 0, (vs : Int)]) := hxv;have HDV : Hid (Zr B F w0 wv d gi gb gh gp F2 A c x) := HDV.keep HKP.out (fun k hk (e : k = gx) => HNF.1 ay) (fun k (e : k = gx) => bg);have HRW := hid (HKP.blk HRW.out (fun (e : gr = gx) => ai));have HOV := hid (HKP.blk HOV.out (fun (e : go = gx) => eu));have HKV : Hid (Za F w wv) := HKV.trans HKP.out (fun k (e : k = gx) => .inr df);have HSV : Hid (gr < wv.heap.size) := HRW.lt;clear hwv hxv HKP e2 ef2 hxl;obtain ⟨lo, hlo⟩ := nE (x.loc);have hlt : x.loc < x.p.ops.length := Mv x (by rw [HO.out]; simp);have hlo2 : (lo : Int) ≤ 1000 := by have := (Vc _ HD.ok.pgood).1; omega
   have CC := Za7 HDV.out (x.loc + 1) hlt;have c10 : wv.cell? ⟨d, 10, none⟩ = some (.int .i64 (lo : Int)) := hlo ▸ HDV.cell 10;have hdv := HDV.lt;have ecc : ((x.loc + 1 : Nat) : Int) = (lo : Int) + 1 := by rw [hlo]; simp
   rw [ecc] at CC;have CC := hid CC;clear hlo hlt ecc;go_wp2_with fail;refine CC.mono ?_;rintro en w1 ⟨rfl, hd1, hk1⟩;have HD1 := hid hd1; have HK1 := hid hk1;have HRV := hid (hk1.blk HRW.out HNF.2);have HX1 := hid (hk1.blk HXV.out HNF.1);clear hd1 hk1 CC;obtain ⟨x0, x1, x2, x3, x4, x5⟩ := Yk HX1.out;have hlx := HX1.lt;obtain ⟨r0, r1, r2, r3, r4, r5⟩ := Yk HRV.out;have z0 := HRV.frozen 0; have z1 := HRV.frozen 1; have z2 := HRV.frozen 2; have z3 := HRV.frozen 3; have z4 := HRV.frozen 4; have z5 := HRV.frozen 5;have hlr := HRV.lt;go_wp2_with fail;obtain ⟨wz, hwz⟩ := nE (Yw w1 gr (.int .i64 vt) (.int .i64 (vl : Int)) (.int .i64 8) (.int .i64 0) (.int .i64 0) (.int .i64 (vs : Int)));have KZ : Hid (Za (fun k => k = gr) w1 wz) := hwz ▸ Yg _ _ _ _ _ _ _ _;have BZ := Yr HRV.out (.int .i64 vt) (.int .i64 (vl : Int)) (.int .i64 8) (.int .i64 0) (.int .i64 0) (.int .i64 (vs : Int));rw [hwz] at BZ;unfold Yw at hwz;rw [hwz];clear hwz;obtain ⟨t0, t1, t2, t3, t4, t5⟩ := Yk BZ;have hf := Qr (G := fun k => k = gr) HF.out HB.out (fun k hk => .inl hk) HKV.out HD1.out HK1.out KZ.out (fun k (e : k = gr) => au);refine bodyPost_ret (v := .agg #[vt, (vl : Int), .int .i64 8, .int .i64 0, .int .i64 0, (vs : Int)]) aq rfl ⟨?_, ?_, hf.2⟩
   ·rw [HR.out]; try rfl
   ·rw [HR.out]; exact hf.1
  have HSE := hid (HSE.trans (if_neg k4));have k4f := bF k4;clear k4;by_cases k6 : k = 6
  ·subst k6
   have HR := hid (HSE.trans (if_pos rfl));clear HSE HP;have o0 := cA HOV.out 0 (.int .i64 6) rfl;have hlo := HOV.lt;have e2 := cA HXV.out 2 (.int .i64 0) rfl;have ef2 := HXV.frozen 2;have hxl := HXV.lt;go_upto_region 24 with fail;clear o0 hlo;obtain ⟨wv, hwv, hxv, HKP⟩ := Blk.put HXV.out 2 (.int .i64 10);rw [hwv];have HXV : Hid (Blk wv gx 51 #[vt, (vl : Int), .int .i64 10, .int .i64 0, .int .i64 0, (vs : Int)]) := hxv;have HDV : Hid (Zr B F w0 wv d gi gb gh gp F2 A c x) := HDV.keep HKP.out (fun k hk (e : k = gx) => HNF.1 ay) (fun k (e : k = gx) => bg);have HRW := hid (HKP.blk HRW.out (fun (e : gr = gx) => ai));have HOV := hid (HKP.blk HOV.out (fun (e : go = gx) => eu));have HKV : Hid (Za F w wv) := HKV.trans HKP.out (fun k (e : k = gx) => .inr df);have HSV : Hid (gr < wv.heap.size) := HRW.lt;clear hwv hxv HKP e2 ef2 hxl;have CS := hid (Jt HDV.out 2 aa);go_wp2_with fail;refine CS.mono ?_;rintro en w1 ⟨rfl, hd1, hk1⟩;have HD1 := hid hd1; have HK1 := hid hk1;have HRV := hid (hk1.blk HRW.out HNF.2);have HX1 := hid (hk1.blk HXV.out HNF.1);clear hd1 hk1 CS;obtain ⟨x0, x1, x2, x3, x4, x5⟩ := Yk HX1.out;have hlx := HX1.lt;obtain ⟨r0, r1, r2, r3, r4, r5⟩ := Yk HRV.out;have z0 := HRV.frozen 0; have z1 := HRV.frozen 1; have z2 := HRV.frozen 2; have z3 := HRV.frozen 3; have z4 := HRV.frozen 4; have z5 := HRV.frozen 5;have hlr := HRV.lt;go_wp2_with fail;obtain ⟨wz, hwz⟩ := nE (Yw w1 gr (.int .i64 vt) (.int .i64 (vl : Int)) (.int .i64 10) (.int .i64 0) (.int .i64 0) (.int .i64 (vs : Int)));have KZ : Hid (Za (fun k => k = gr) w1 wz) := hwz ▸ Yg _ _ _ _ _ _ _ _;have BZ := Yr HRV.out (.int .i64 vt) (.int .i64 (vl : Int)) (.int .i64 10) (.int .i64 0) (.int .i64 0) (.int .i64 (vs : Int));rw [hwz] at BZ;unfold Yw at hwz;rw [hwz];clear hwz;obtain ⟨t0, t1, t2, t3, t4, t5⟩ := Yk BZ;have hf := Qr (G := fun k => k = gr) HF.out HB.out (fun k hk => .inl hk) HKV.out HD1.out HK1.out KZ.out (fun k (e : k = gr) => au);refine bodyPost_ret (v := .agg #[vt, (vl : Int), .int .i64 10, .int .i64 0, .int .i64 0, (vs : Int)]) aq rfl ⟨?_, ?_, hf.2⟩
   ·rw [HR.out]; try rfl
   ·rw [HR.out]; exact hf.1
  have HSE := hid (HSE.trans (if_neg k6));have k6f := bF k6;clear k6;have HR := hid HSE.out;clear HSE HP;have o0 := cA HOV.out 0 k rfl;have hlo := HOV.lt;have e2 := cA HXV.out 2 (.int .i64 0) rfl;have ef2 := HXV.frozen 2;have hxl := HXV.lt;go_upto_region 11 with fail;clear o0 hlo;obtain ⟨wv, hwv, hxv, HKP⟩ := Blk.put HXV.out 2 (.int .i64 9);rw [hwv];have HXV : Hid (Blk wv gx 51 #[vt, (vl : Int), .int .i64 9, .int .i64 0, .int .i64 0, (vs : Int)]) := hxv;have HDV : Hid (Zr B F w0 wv d gi gb gh gp F2 A c x) := HDV.keep HKP.out (fun k hk (e : k = gx) => HNF.1 ay) (fun k (e : k = gx) => bg);have HRW := hid (HKP.blk HRW.out (fun (e : gr = gx) => ai));have HOV := hid (HKP.blk HOV.out (fun (e : go = gx) => eu));have HKV : Hid (Za F w wv) := HKV.trans HKP.out (fun k (e : k = gx) => .inr df);have HSV : Hid (gr < wv.heap.size) := HRW.lt;clear hwv hxv HKP e2 ef2 hxl;have CS := hid (Jt HDV.out 1 aa);go_wp2_with fail;refine CS.mono ?_;rintro en w1 ⟨rfl, hd1, hk1⟩;have HD1 := hid hd1; have HK1 := hid hk1;have HRV := hid (hk1.blk HRW.out HNF.2);have HX1 := hid (hk1.blk HXV.out HNF.1);clear hd1 hk1 CS;obtain ⟨x0, x1, x2, x3, x4, x5⟩ := Yk HX1.out;have hlx := HX1.lt;obtain ⟨r0, r1, r2, r3, r4, r5⟩ := Yk HRV.out;have z0 := HRV.frozen 0; have z1 := HRV.frozen 1; have z2 := HRV.frozen 2; have z3 := HRV.frozen 3; have z4 := HRV.frozen 4; have z5 := HRV.frozen 5;have hlr := HRV.lt;go_wp2_with fail;obtain ⟨wz, hwz⟩ := nE (Yw w1 gr (.int .i64 vt) (.int .i64 (vl : Int)) (.int .i64 9) (.int .i64 0) (.int .i64 0) (.int .i64 (vs : Int)));have KZ : Hid (Za (fun k => k = gr) w1 wz) := hwz ▸ Yg _ _ _ _ _ _ _ _;have BZ := Yr HRV.out (.int .i64 vt) (.int .i64 (vl : Int)) (.int .i64 9) (.int .i64 0) (.int .i64 0) (.int .i64 (vs : Int));rw [hwz] at BZ;unfold Yw at hwz;rw [hwz];clear hwz;obtain ⟨t0, t1, t2, t3, t4, t5⟩ := Yk BZ;have hf := Qr (G := fun k => k = gr) HF.out HB.out (fun k hk => .inl hk) HKV.out HD1.out HK1.out KZ.out (fun k (e : k = gr) => au);refine bodyPost_ret (v := .agg #[vt, (vl : Int), .int .i64 9, .int .i64 0, .int .i64 0, (vs : Int)]) aq rfl ⟨?_, ?_, hf.2⟩
  ·rw [HR.out]; try rfl
  ·rw [HR.out]; exact hf.1
 ·have hov0 : ov ≠ 0 := by have := HOD.out; simpa using this
  have HS2 : Hid (R = (x.stop ov, (if ov = 3 then 12 else 14), 0, 0)) := by rw [Hid, HSE.out, if_pos hov0]
  clear HSE hov0 HOD;have e2 := cA HXV.out 2 (.int .i64 0) rfl;have ef2 := HXV.frozen 2;have hxl := HXV.lt;go_upto_region 4 with fail;obtain ⟨wv, hwv, hxv, HKP⟩ := Blk.put HXV.out 2 (.int .i64 14);rw [hwv];have HXV : Hid (Blk wv gx 51 #[vt, (vl : Int), .int .i64 14, .int .i64 0, .int .i64 0, (vs : Int)]) := hxv;have HDV : Hid (Zr B F w0 wv d gi gb gh gp F2 A c x) := HDV.keep HKP.out (fun k hk (e : k = gx) => HNF.1 ay) (fun k (e : k = gx) => bg);have HRW := hid (HKP.blk HRW.out (fun (e : gr = gx) => ai));have HKV : Hid (Za F w wv) := HKV.trans HKP.out (fun k (e : k = gx) => .inr df);have HSV : Hid (gr < wv.heap.size) := HRW.lt;clear hwv hxv HKP e2 ef2 hxl;by_cases h3 : ov = 3
  ·have HR : Hid (R = (x.stop ov, 12, 0, 0)) := by rw [Hid, HS2.out, if_pos h3]
   have h3' : ((ov : Int) == 3) = true := bT aa;clear HS2 h3;have e2 := cA HXV.out 2 (.int .i64 14) rfl;have ef2 := HXV.frozen 2;have hxl := HXV.lt;go_upto_region 6 with fail;obtain ⟨wv, hwv, hxv, HKP⟩ := Blk.put HXV.out 2 (.int .i64 12);rw [hwv];have HXV : Hid (Blk wv gx 51 #[vt, (vl : Int), .int .i64 12, .int .i64 0, .int .i64 0, (vs : Int)]) := hxv;have HDV : Hid (Zr B F w0 wv d gi gb gh gp F2 A c x) := HDV.keep HKP.out (fun k hk (e : k = gx) => HNF.1 ay) (fun k (e : k = gx) => bg);have HRW := hid (HKP.blk HRW.out (fun (e : gr = gx) => ai));have HKV : Hid (Za F w wv) := HKV.trans HKP.out (fun k (e : k = gx) => .inr df);have HSV : Hid (gr < wv.heap.size) := HRW.lt;clear hwv hxv HKP e2 ef2 hxl;have CS := hid (Jt HDV.out ov (by have := HOV0.out; omega));go_wp2_with fail;refine CS.mono ?_;rintro en w1 ⟨rfl, hd1, hk1⟩;have HD1 := hid hd1; have HK1 := hid hk1;have HRV := hid (hk1.blk HRW.out HNF.2);have HX1 := hid (hk1.blk HXV.out HNF.1);clear hd1 hk1 CS;obtain ⟨x0, x1, x2, x3, x4, x5⟩ := Yk HX1.out;have hlx := HX1.lt;obtain ⟨r0, r1, r2, r3, r4, r5⟩ := Yk HRV.out;have z0 := HRV.frozen 0; have z1 := HRV.frozen 1; have z2 := HRV.frozen 2; have z3 := HRV.frozen 3; have z4 := HRV.frozen 4; have z5 := HRV.frozen 5;have hlr := HRV.lt;go_wp2_with fail;obtain ⟨wz, hwz⟩ := nE (Yw w1 gr (.int .i64 vt) (.int .i64 (vl : Int)) (.int .i64 12) (.int .i64 0) (.int .i64 0) (.int .i64 (vs : Int)));have KZ : Hid (Za (fun k => k = gr) w1 wz) := hwz ▸ Yg _ _ _ _ _ _ _ _;have BZ := Yr HRV.out (.int .i64 vt) (.int .i64 (vl : Int)) (.int .i64 12) (.int .i64 0) (.int .i64 0) (.int .i64 (vs : Int));rw [hwz] at BZ;unfold Yw at hwz;rw [hwz];clear hwz;obtain ⟨t0, t1, t2, t3, t4, t5⟩ := Yk BZ;have hf := Qr (G := fun k => k = gr) HF.out HB.out (fun k hk => .inl hk) HKV.out HD1.out HK1.out KZ.out (fun k (e : k = gr) => au);refine bodyPost_ret (v := .agg #[vt, (vl : Int), .int .i64 12, .int .i64 0, .int .i64 0, (vs : Int)]) aq rfl ⟨?_, ?_, hf.2⟩
   ·rw [HR.out]; try rfl
   ·rw [HR.out]; exact hf.1
  ·have HR : Hid (R = (x.stop ov, 14, 0, 0)) := by rw [Hid, HS2.out, if_neg h3]
   have h3' : ((ov : Int) == 3) = false := bF aa;clear HS2 h3;have CS := hid (Jt HDV.out ov (by have := HOV0.out; omega));go_wp2_with fail;refine CS.mono ?_;rintro en w1 ⟨rfl, hd1, hk1⟩;have HD1 := hid hd1; have HK1 := hid hk1;have HRV := hid (hk1.blk HRW.out HNF.2);have HX1 := hid (hk1.blk HXV.out HNF.1);clear hd1 hk1 CS;obtain ⟨x0, x1, x2, x3, x4, x5⟩ := Yk HX1.out;have hlx := HX1.lt;obtain ⟨r0, r1, r2, r3, r4, r5⟩ := Yk HRV.out;have z0 := HRV.frozen 0; have z1 := HRV.frozen 1; have z2 := HRV.frozen 2; have z3 := HRV.frozen 3; have z4 := HRV.frozen 4; have z5 := HRV.frozen 5;have hlr := HRV.lt;go_wp2_with fail;obtain ⟨wz, hwz⟩ := nE (Yw w1 gr (.int .i64 vt) (.int .i64 (vl : Int)) (.int .i64 14) (.int .i64 0) (.int .i64 0) (.int .i64 (vs : Int)));have KZ : Hid (Za (fun k => k = gr) w1 wz) := hwz ▸ Yg _ _ _ _ _ _ _ _;have BZ := Yr HRV.out (.int .i64 vt) (.int .i64 (vl : Int)) (.int .i64 14) (.int .i64 0) (.int .i64 0) (.int .i64 (vs : Int));rw [hwz] at BZ;unfold Yw at hwz;rw [hwz];clear hwz;obtain ⟨t0, t1, t2, t3, t4, t5⟩ := Yk BZ;have hf := Qr (G := fun k => k = gr) HF.out HB.out (fun k hk => .inl hk) HKV.out HD1.out HK1.out KZ.out (fun k (e : k = gr) => au);refine bodyPost_ret (v := .agg #[vt, (vl : Int), .int .i64 14, .int .i64 0, .int .i64 0, (vs : Int)]) aq rfl ⟨?_, ?_, hf.2⟩
   ·rw [HR.out]; try rfl
   ·rw [HR.out]; exact hf.1
end
section
variable {B d gi gb gh gp c : Nat} {F F2 : Nat → Prop} {w0 w w' : World} {A : Option Addr} {x : Zf}
theorem Ys.clock (h : Ys x) {now : Int} (hn : now ≤ 9223372036854775807) : Ys (x.clock now) := by
 obtain ⟨o1, o2, o3, o4, o5, o6, o7, o8, o9, o10⟩ := h;exact ⟨o1, o2, o3, o4, o5, o6, o7, o8, o9, by show 0 ≤ max x.now now; omega, by show max x.now now ≤ _; omega⟩
theorem Zl.st (h : Zl B F w0 w d x) : w.cell? ⟨d, 11, none⟩ = some (.int .i64 (x.st : Int)) := by
 obtain ⟨gi, gb, gh, gp, F2, A, c, h⟩ := h;exact h.cell 11
theorem N48{P:Prop}(h:P:=by
 rw [e]; exact ⟨ld, HRN.lt, HNF.out⟩):P:=h
theorem Zny (h : Zr B F w0 w d gi gb gh gp F2 A c x) (now : Int) (hnow : now ≤ 9223372036854775807) (hP : x.st = 0 → x.op.kind = 2 → x.P.length = x.op.arms.length) : Calls Tryz.prog 20 #[.pointer (some ⟨d, 0, none⟩), now] w fun e w' => e = .returned (.tuple #[(x.step now).2.1.val, .bool (x.step now).2.2]) ∧ Zl B (Fup F w w') w0 w' d (x.step now).1 ∧ Za F w w' := by
 have HD := hid h;have HF : Hid (∀ k, F k → B ≤ k ∧ k < w.heap.size) := h.fin;have HB : Hid (B ≤ w.heap.size) := h.base.2
 have HSE : Hid (x.step now = if x.ready now = false then (x, ⟨0, 0, 0, 0, 0, 0⟩, false) else
  ((x.clock now).does.1, ⟨max x.now now, x.loc, (x.clock now).does.2.1, (x.clock now).does.2.2.1, (x.clock now).does.2.2.2, (x.clock now).does.1.st⟩, true)) := rfl
 obtain ⟨R, hR⟩ := nE (x.step now);rw [hR] at HSE ⊢;clear hR;have HOKC := hid (h.ok.clock hnow)
 have HPC : Hid (x.ready now = true → (x.clock now).op.kind = 2 → (x.clock now).P.length = (x.clock now).op.arms.length) := fun hr => hP (by
  unfold Zf.ready at hr;simp only [Bool.and_eq_true, decide_eq_true_eq] at hr;exact hr.1)
 clear hnow hP;obtain ⟨wa, hwa⟩ := nE (w.alloc (.cells zs 51));have HBA := ba hwa;have HRA := bn hwa;have HWA := hid hwa;have HDA := hid (h.below HBA.out);clear hwa h;obtain ⟨gr, hgr⟩ := nE (w.heap.size);have HG := hid hgr;rw [hgr] at HRA;clear hgr;have HNF : Hid (¬ F gr) := fun hf => al
 have CR := hid (Zlr HDA.out now);obtain ⟨rb, hrb⟩ := nE (x.ready now);rw [hrb] at HSE CR HPC;clear hrb;go_enter Tryz.func20, Tryz.ntmps20;go_upto_region 1 with fail;rw [HWA.out, HG.out];cases rb
 ·have HR := hid (HSE.trans (if_pos rfl))
  clear HSE HWA;go_wp2_with fail;refine CR.mono ?_;rintro en w1 ⟨rfl, hb⟩;have HD1 := hid (HDA.below hb);have HRV := bb HRA hb;have HK1 : Hid (Za F w w1) := Za.of_below (HBA.trans (hb.mono HBA.size));clear hb CR;obtain ⟨r0, r1, r2, r3, r4, r5⟩ := Yk HRV.out;have z0 := HRV.frozen 0; have z1 := HRV.frozen 1; have z2 := HRV.frozen 2; have z3 := HRV.frozen 3; have z4 := HRV.frozen 4; have z5 := HRV.frozen 5;have hlr := HRV.lt;go_wp2_with fail;obtain ⟨wz, hwz⟩ := nE (Yw w1 gr (.int .i64 0) (.int .i64 0) (.int .i64 0) (.int .i64 0) (.int .i64 0) (.int .i64 0));have KZ : Hid (Za (fun k => k = gr) w1 wz) := hwz ▸ Yg _ _ _ _ _ _ _ _;have BZ := Yr HRV.out (.int .i64 0) (.int .i64 0) (.int .i64 0) (.int .i64 0) (.int .i64 0) (.int .i64 0);rw [hwz] at BZ;unfold Yw at hwz;rw [hwz];clear hwz;obtain ⟨t0, t1, t2, t3, t4, t5⟩ := Yk BZ;refine bodyPost_ret (v := .tuple #[.agg zs, .bool false]) ky rfl ⟨?_, ?_, ?_⟩
  ·rw [HR.out]; rfl
  ·rw [HR.out]
   have h1 : Zr B F w0 wz d gi gb gh gp F2 A c x := HD1.keep KZ.out (fun k hk (e : k = gr) => HNF.out ay) (fun k (e : k = gr) => bg);exact Zl.up h1.at HF.out HB.out (HK1.trans KZ.out (fun k (e : k = gr) => .inr jk)).size
  ·exact HK1.trans KZ.out (fun k (e : k = gr) => .inr jk)
 ·have HS2 := hid (HSE.trans (if_neg ac))
  have HPD : Hid ((x.clock now).op.kind = 2 → (x.clock now).P.length = (x.clock now).op.arms.length) := HPC.out fq;clear HPC;clear HSE HWA;obtain ⟨nw, hnw⟩ := nE (x.now);obtain ⟨lo, hlo⟩ := nE (x.loc);have HNW := hid hnw;have HLO := hid hlo;rw [hnw, hlo] at HS2;clear hnw hlo;have HC20 : Hid (∀ W, Below wa.heap.size wa W → W.cell? ⟨d, 20, none⟩ = some (.int .i64 nw)) := fun W hb => by rw [← HNW.out]; exact (HDA.below hb).cell 20
  go_wp2_with fail;refine CR.mono ?_;rintro en w1 ⟨rfl, hb⟩;have HB1 := hid hb;have HD1 := hid (HDA.below hb);have HR1 := bb HRA hb;have HK1 : Hid (Za F w w1) := Za.of_below (HBA.trans (hb.mono HBA.size));have c20 := HC20.out w1 hb;have y20 := HD1.blk.frozen 20;have hdl := HD1.lt;clear hb CR HC20;go_upto_region 4 with fail;obtain ⟨mx, hmx⟩ := nE (max nw now);rw [hmx] at HS2;have HMX := hid hmx;obtain ⟨wv, hwv, hbv, HKP⟩ := Blk.put HD1.blk 20 (.int .i64 mx)
  have HBV : Hid (Blk wv d 107 ((x.clock now).cells A c gi gh gp)) := by
   have e : (x.clock now).now = mx := by rw [← HMX.out, ← HNW.out]; rfl
   have e2 : (x.clock now).cells A c gi gh gp = (x.cells A c gi gh gp).setIfInBounds 20 (.int .i64 mx) := by rw [← e]; rfl
   rw [Hid, e2]; exact hbv
  try rw [hmx]
  rw [hwv];clear hwv hbv c20 y20 hdl hmx;have HDV : Hid (Zr B F w0 wv d gi gb gh gp F2 A c (x.clock now)) := HD1.turn HKP.out HBV.out rfl rfl rfl rfl rfl rfl rfl HOKC.out;have hFd := HD.fd.1;have HRV := hid (HKP.blk HR1.out (fun (e : gr = d) => HNF.out (by rw [e]; exact hFd)));have HKV : Hid (Za F w wv) := HK1.trans HKP.out (fun k (e : k = d) => .inl (by rw [e]; exact hFd));obtain ⟨y, hy⟩ := nE (x.clock now);have HY : Hid (y.now = mx ∧ y.loc = lo) := by rw [← hy, ← HMX.out, ← HNW.out, ← HLO.out]; exact ⟨rfl, rfl⟩
  rw [hy] at HDV HS2 HPD;obtain ⟨J, hJ⟩ := nE (y.does);have HJ := hid hJ;rw [hJ] at HS2
  have CD : Hid (∀ W, Below wv.heap.size wv W → Calls Tryz.prog 67 #[.pointer (some ⟨d, 0, none⟩), .agg #[mx, (lo : Int), .int .i64 0, .int .i64 0, .int .i64 0, .int .i64 0]] W fun e w' => e = .returned (.agg #[mx, (lo : Int), (J.2.1 : Int), (J.2.2.1 : Int), (J.2.2.2 : Int), .int .i64 0]) ∧ Zl B (Fup F W w') w0 w' d J.1 ∧ Za F W w') := fun W hb => by
   have := Zn1 (HDV.below hb) mx lo 0 HPD.out;rw [HJ.out] at this;exact this
  clear hy hJ hFd;refine Zg wv.heap.size [10] (.val 0 (.val 1 (.val 2 (.val 3 (.val 5 (.val 6 (.val 7 (.three 4 (.two 8 (.val 9 (.two 10 (.op 11 (.op 12 (.nil))) 11 (.op 10 (.op 12 (.nil))))) 11 (.op 8 (.val 9 (.op 10 (.op 12 (.nil)))))) 8 (.two 4 (.val 9 (.two 10 (.op 11 (.op 12 (.nil))) 11 (.op 10 (.op 12 (.nil))))) 11 (.op 4 (.val 9 (.op 10 (.op 12 (.nil)))))) 11 (.two 4 (.op 8 (.val 9 (.op 10 (.op 12 (.nil))))) 8 (.op 4 (.val 9 (.op 10 (.op 12 (.nil)))))))))))))) ab ab ?_;obtain ⟨wx, hwx, HBW⟩ := dw wv;rw [hwx];clear hwx;have HRX := bb HRV HBW;have HDX := hid (HDV.below HBW.out);have c20 : wx.cell? ⟨d, 20, none⟩ = some (.int .i64 mx) := by rw [← HY.1]; exact HDX.cell 20
  have c10 : wx.cell? ⟨d, 10, none⟩ = some (.int .i64 (lo : Int)) := by rw [← HY.2]; exact HDX.cell 10
  have hdl := HDX.lt
  iterate 7 (refine Zd rfl rfl ?_; go_big_quiet_step (fail); refine wpQuiet_nil ?_)
  refine Zhd rfl rfl rfl ?_ ?_ ?_
  focus
   go_wp2_with fail;refine KT.same ?_;refine Vg rfl rfl ?_ ?_
   focus
    go_wp2_with fail;refine KT.same ?_;refine Zd rfl rfl ?_
    go_big_quiet_step (fail)
    refine wpQuiet_nil ?_;refine Vg rfl rfl ?_ ?_
    focus
     have CL := hid (CD.out wx HBW.out);go_wp2_with fail;refine CL.mono ?_;rintro en w1 ⟨rfl, hd1, hk1⟩;have HE1 := hid hd1; have HKE := hid hk1;have HRE := hid (hk1.blk HRX.out HNF.out);have HS1 : Hid (wv.heap.size ≤ w1.heap.size) := Nat.le_trans HBW.size hk1.size;clear hd1 hk1 CL CD c20 c10 hdl;go_wp2_with fail;refine KT.past rfl ?_;refine Ze rfl ?_;go_wp2_with fail;obtain ⟨wn, hwn⟩ := nE (w1.alloc (.cells zs 51));have HSN := bn hwn;have HBN := ba hwn;rw [hwn];clear hwn;refine KT.step (HBN.mono HS1.out) ?_;have HGR : Hid (gr < w1.heap.size) := HRE.lt;obtain ⟨gs, hgs⟩ := nE (w1.heap.size);have HGS := hid hgs;rw [hgs] at HSN ⊢;clear hgs;refine Ze rfl ?_;obtain ⟨f0, f1, f2, f3, f4, f5⟩ := Yk HSN.out;have y0 := HSN.frozen 0; have y1 := HSN.frozen 1; have y2 := HSN.frozen 2; have y3 := HSN.frozen 3; have y4 := HSN.frozen 4; have y5 := HSN.frozen 5;have hls := HSN.lt;go_wp2_with fail;obtain ⟨wf, hwf⟩ := nE (Yw wn gs (.int .i64 mx) (.int .i64 (lo : Int)) (.int .i64 (J.2.1 : Int)) (.int .i64 (J.2.2.1 : Int)) (.int .i64 (J.2.2.2 : Int)) (.int .i64 0));have HSF : Hid (Blk wf gs 51 #[mx, (lo : Int), (J.2.1 : Int), (J.2.2.1 : Int), (J.2.2.2 : Int), .int .i64 0]) := hwf ▸ Yr HSN.out _ _ _ _ _ _;have HKS : Hid (Za (fun k => k = gs) wn wf) := hwf ▸ Yg _ _ _ _ _ _ _ _;unfold Yw at hwf;rw [hwf];clear hwf f0 f1 f2 f3 f4 f5 y0 y1 y2 y3 y4 y5 hls;refine KT.step (HKS.below (Nat.le_trans HS1.out HBN.size) (fun k (e : k = gs) => by rw [e, ← HGS.out]; exact HS1.out)) ?_;refine Zi ?_;have HKX : Hid (Za F w wx) := HKV.trans (Za.of_below (F := F) HBW.out) (fun _ h => .inl h);have HKQ : Hid (Za (fun k => k = gr) w1 wf) := (Za.of_below (F := fun k => k = gr) HBN.out).trans HKS.out (fun k (e : k = gs) => .inr ew)
     have TAIL : Hid (∀ w2, Za (fun k => k = gr ∨ k = gs) wf w2 → Zl B (Fup F w w2) w0 w2 d J.1 ∧ Za F w w2) := fun w2 hk2 =>
      Qr (G := fun k => k = gr) HF.out HB.out (fun k hk => .inl hk) HKX.out HE1.out HKE.out (HKQ.trans hk2 (fun k h => h.imp id (fun e => ew))) (fun k (e : k = gr) => jz)
     have HDF : Hid (Zl B (Fup F wx w1) w0 wf d J.1) := (HE1.below HBN.out).keep HKS.out (by
      obtain ⟨gi, gb, gh, gp, F2, A, c, h⟩ := HE1.out;intro k hk (e : k = gs);have := (h.fin k hk).2; have := HGS.out; omega) (fun k (e : k = gs) => iw)
     have HRF := hid (HKQ.out);have HRV := hid (HKS.blk (HRE.below HBN.out HRE.lt) (fun (e : gr = gs) => am));have HGN : Hid (gr ≠ gs) := fun e => am
     clear HKX HKQ HE1 HKE HRE HS1 HBN HGR HGS HSN HKS HRF
    rotate_left 1
    focus
     go_wp2_with fail;obtain ⟨wn, hwn⟩ := nE (wx.alloc (.cells zs 51));have HSN := bn hwn;have HBN := ba hwn;rw [hwn];clear hwn;refine KT.step (HBN.mono HBW.size) ?_;have HGR : Hid (gr < wx.heap.size) := HRX.lt;obtain ⟨gs, hgs⟩ := nE (wx.heap.size);have HGS := hid hgs;rw [hgs] at HSN ⊢;clear hgs;have HNS : Hid (¬ F gs) := fun hf => az
     have HDN := HDX.below HBN.out;have c20 : wn.cell? ⟨d, 20, none⟩ = some (.int .i64 mx) := ed
     have c10 : wn.cell? ⟨d, 10, none⟩ = some (.int .i64 (lo : Int)) := dz
     have hdl := HDN.lt;clear HDN;refine Ze rfl ?_;have HBX : Hid (Below wv.heap.size wv wn) := HBW.trans (HBN.mono HBW.size);have HRN := bb HRX HBN;have CL := hid (CD.out wn HBX.out);go_wp2_with fail;refine CL.mono ?_;rintro en w1 ⟨rfl, hd1, hk1⟩;have HE1 := hid hd1; have HKE := hid hk1;have HRE := hid (hk1.blk HRN.out HNF.out);have HSE2 := hid (hk1.blk HSN.out HNS.out);have HS1 : Hid (wv.heap.size ≤ w1.heap.size) := Nat.le_trans HBX.size hk1.size;clear hd1 hk1 CL CD c20 c10 hdl;go_wp2_with fail;refine KT.past rfl ?_;refine Ze rfl ?_;obtain ⟨f0, f1, f2, f3, f4, f5⟩ := Yk HSE2.out;have y0 := HSE2.frozen 0; have y1 := HSE2.frozen 1; have y2 := HSE2.frozen 2; have y3 := HSE2.frozen 3; have y4 := HSE2.frozen 4; have y5 := HSE2.frozen 5;have hls := HSE2.lt;go_wp2_with fail;obtain ⟨wf, hwf⟩ := nE (Yw w1 gs (.int .i64 mx) (.int .i64 (lo : Int)) (.int .i64 (J.2.1 : Int)) (.int .i64 (J.2.2.1 : Int)) (.int .i64 (J.2.2.2 : Int)) (.int .i64 0));have HSF : Hid (Blk wf gs 51 #[mx, (lo : Int), (J.2.1 : Int), (J.2.2.1 : Int), (J.2.2.2 : Int), .int .i64 0]) := hwf ▸ Yr HSE2.out _ _ _ _ _ _;have HKS : Hid (Za (fun k => k = gs) w1 wf) := hwf ▸ Yg _ _ _ _ _ _ _ _;unfold Yw at hwf;rw [hwf];clear hwf f0 f1 f2 f3 f4 f5 y0 y1 y2 y3 y4 y5 hls;have HVG : Hid (wv.heap.size ≤ gs) := cq
     refine KT.step (HKS.below HS1.out (fun k (e : k = gs) => fc)) ?_;refine Zi ?_;have HKX : Hid (Za F w wn) := HKV.trans (Za.of_below (F := F) HBX.out) (fun _ h => .inl h);have HWG : Hid (w.heap.size ≤ gs) := Nat.le_trans HKV.size HVG.out
     have TAIL : Hid (∀ w2, Za (fun k => k = gr ∨ k = gs) wf w2 → Zl B (Fup F w w2) w0 w2 d J.1 ∧ Za F w w2) := fun w2 hk2 =>
      Qr (G := fun k => k = gr ∨ k = gs) HF.out HB.out (fun k hk => .inl hk) HKX.out HE1.out HKE.out ((HKS.mono (fun k _ e => .inr e) : Za (fun k => k = gr ∨ k = gs) w1 wf).trans hk2 (fun k h => .inl h)) (fun k h => by
       rcases h with e | e
       ·exact N48
       ·rw [e]; exact ⟨HWG.out, HSN.lt, HNS.out⟩)
     have HDF : Hid (Zl B (Fup F wn w1) w0 wf d J.1) := HE1.keep HKS.out (by
      rintro k (hk | hk) (e : k = gs)
      ·exact HNS.out ay
      ·have := HSN.lt; have := hk.1; omega) (fun k (e : k = gs) => cf)
     have HRV := hid (HKS.blk HRE.out (fun (e : gr = gs) => am));have HGN : Hid (gr ≠ gs) := fun e => am
     clear HKX HE1 HKE HRE HS1 HBN HGR HGS HSN HKS HBX HRN HSE2 HNS HVG HWG
   rotate_left 2
   focus
    go_wp2_with fail;obtain ⟨wn, hwn⟩ := nE (wx.alloc (.cells zs 51));have HSN := bn hwn;have HBN := ba hwn;rw [hwn];clear hwn;refine KT.step (HBN.mono HBW.size) ?_;have HGR : Hid (gr < wx.heap.size) := HRX.lt;obtain ⟨gs, hgs⟩ := nE (wx.heap.size);have HGS := hid hgs;rw [hgs] at HSN ⊢;clear hgs;have HNS : Hid (¬ F gs) := fun hf => az
    have HDN := HDX.below HBN.out;have c20 : wn.cell? ⟨d, 20, none⟩ = some (.int .i64 mx) := ed
    have c10 : wn.cell? ⟨d, 10, none⟩ = some (.int .i64 (lo : Int)) := dz
    have hdl := HDN.lt;clear HDN;refine Ze rfl ?_;go_wp2_with fail;refine KT.same ?_;refine Zd rfl rfl ?_
    go_big_quiet_step (fail)
    refine wpQuiet_nil ?_;refine Ze rfl ?_;have HBX : Hid (Below wv.heap.size wv wn) := HBW.trans (HBN.mono HBW.size);have HRN := bb HRX HBN;have CL := hid (CD.out wn HBX.out);go_wp2_with fail;refine CL.mono ?_;rintro en w1 ⟨rfl, hd1, hk1⟩;have HE1 := hid hd1; have HKE := hid hk1;have HRE := hid (hk1.blk HRN.out HNF.out);have HSE2 := hid (hk1.blk HSN.out HNS.out);have HS1 : Hid (wv.heap.size ≤ w1.heap.size) := Nat.le_trans HBX.size hk1.size;clear hd1 hk1 CL CD c20 c10 hdl;go_wp2_with fail;refine KT.past rfl ?_;refine Ze rfl ?_;obtain ⟨f0, f1, f2, f3, f4, f5⟩ := Yk HSE2.out;have y0 := HSE2.frozen 0; have y1 := HSE2.frozen 1; have y2 := HSE2.frozen 2; have y3 := HSE2.frozen 3; have y4 := HSE2.frozen 4; have y5 := HSE2.frozen 5;have hls := HSE2.lt;go_wp2_with fail;obtain ⟨wf, hwf⟩ := nE (Yw w1 gs (.int .i64 mx) (.int .i64 (lo : Int)) (.int .i64 (J.2.1 : Int)) (.int .i64 (J.2.2.1 : Int)) (.int .i64 (J.2.2.2 : Int)) (.int .i64 0));have HSF : Hid (Blk wf gs 51 #[mx, (lo : Int), (J.2.1 : Int), (J.2.2.1 : Int), (J.2.2.2 : Int), .int .i64 0]) := hwf ▸ Yr HSE2.out _ _ _ _ _ _;have HKS : Hid (Za (fun k => k = gs) w1 wf) := hwf ▸ Yg _ _ _ _ _ _ _ _;unfold Yw at hwf;rw [hwf];clear hwf f0 f1 f2 f3 f4 f5 y0 y1 y2 y3 y4 y5 hls;have HVG : Hid (wv.heap.size ≤ gs) := cq
    refine KT.step (HKS.below HS1.out (fun k (e : k = gs) => fc)) ?_;refine Zi ?_;have HKX : Hid (Za F w wn) := HKV.trans (Za.of_below (F := F) HBX.out) (fun _ h => .inl h);have HWG : Hid (w.heap.size ≤ gs) := Nat.le_trans HKV.size HVG.out
    have TAIL : Hid (∀ w2, Za (fun k => k = gr ∨ k = gs) wf w2 → Zl B (Fup F w w2) w0 w2 d J.1 ∧ Za F w w2) := fun w2 hk2 =>
     Qr (G := fun k => k = gr ∨ k = gs) HF.out HB.out (fun k hk => .inl hk) HKX.out HE1.out HKE.out ((HKS.mono (fun k _ e => .inr e) : Za (fun k => k = gr ∨ k = gs) w1 wf).trans hk2 (fun k h => .inl h)) (fun k h => by
      rcases h with e | e
      ·exact N48
      ·rw [e]; exact ⟨HWG.out, HSN.lt, HNS.out⟩)
    have HDF : Hid (Zl B (Fup F wn w1) w0 wf d J.1) := HE1.keep HKS.out (by
     rintro k (hk | hk) (e : k = gs)
     ·exact HNS.out ay
     ·have := HSN.lt; have := hk.1; omega) (fun k (e : k = gs) => cf)
    have HRV := hid (HKS.blk HRE.out (fun (e : gr = gs) => am));have HGN : Hid (gr ≠ gs) := fun e => am
    clear HKX HE1 HKE HRE HS1 HBN HGR HGS HSN HKS HBX HRN HSE2 HNS HVG HWG
  rotate_left 3
  focus
   go_wp2_with fail;refine KT.same ?_;refine Vg rfl rfl ?_ ?_
   focus
    go_wp2_with fail;refine KT.same ?_;refine Zd rfl rfl ?_
    go_big_quiet_step (fail)
    refine wpQuiet_nil ?_;refine Vg rfl rfl ?_ ?_
    focus
     have CL := hid (CD.out wx HBW.out);go_wp2_with fail;refine CL.mono ?_;rintro en w1 ⟨rfl, hd1, hk1⟩;have HE1 := hid hd1; have HKE := hid hk1;have HRE := hid (hk1.blk HRX.out HNF.out);have HS1 : Hid (wv.heap.size ≤ w1.heap.size) := Nat.le_trans HBW.size hk1.size;clear hd1 hk1 CL CD c20 c10 hdl;go_wp2_with fail;refine KT.past rfl ?_;refine Ze rfl ?_;go_wp2_with fail;obtain ⟨wn, hwn⟩ := nE (w1.alloc (.cells zs 51));have HSN := bn hwn;have HBN := ba hwn;rw [hwn];clear hwn;refine KT.step (HBN.mono HS1.out) ?_;have HGR : Hid (gr < w1.heap.size) := HRE.lt;obtain ⟨gs, hgs⟩ := nE (w1.heap.size);have HGS := hid hgs;rw [hgs] at HSN ⊢;clear hgs;refine Ze rfl ?_;obtain ⟨f0, f1, f2, f3, f4, f5⟩ := Yk HSN.out;have y0 := HSN.frozen 0; have y1 := HSN.frozen 1; have y2 := HSN.frozen 2; have y3 := HSN.frozen 3; have y4 := HSN.frozen 4; have y5 := HSN.frozen 5;have hls := HSN.lt;go_wp2_with fail;obtain ⟨wf, hwf⟩ := nE (Yw wn gs (.int .i64 mx) (.int .i64 (lo : Int)) (.int .i64 (J.2.1 : Int)) (.int .i64 (J.2.2.1 : Int)) (.int .i64 (J.2.2.2 : Int)) (.int .i64 0));have HSF : Hid (Blk wf gs 51 #[mx, (lo : Int), (J.2.1 : Int), (J.2.2.1 : Int), (J.2.2.2 : Int), .int .i64 0]) := hwf ▸ Yr HSN.out _ _ _ _ _ _;have HKS : Hid (Za (fun k => k = gs) wn wf) := hwf ▸ Yg _ _ _ _ _ _ _ _;unfold Yw at hwf;rw [hwf];clear hwf f0 f1 f2 f3 f4 f5 y0 y1 y2 y3 y4 y5 hls;refine KT.step (HKS.below (Nat.le_trans HS1.out HBN.size) (fun k (e : k = gs) => by rw [e, ← HGS.out]; exact HS1.out)) ?_;refine Zi ?_;have HKX : Hid (Za F w wx) := HKV.trans (Za.of_below (F := F) HBW.out) (fun _ h => .inl h);have HKQ : Hid (Za (fun k => k = gr) w1 wf) := (Za.of_below (F := fun k => k = gr) HBN.out).trans HKS.out (fun k (e : k = gs) => .inr ew)
     have TAIL : Hid (∀ w2, Za (fun k => k = gr ∨ k = gs) wf w2 → Zl B (Fup F w w2) w0 w2 d J.1 ∧ Za F w w2) := fun w2 hk2 =>
      Qr (G := fun k => k = gr) HF.out HB.out (fun k hk => .inl hk) HKX.out HE1.out HKE.out (HKQ.trans hk2 (fun k h => h.imp id (fun e => ew))) (fun k (e : k = gr) => jz)
     have HDF : Hid (Zl B (Fup F wx w1) w0 wf d J.1) := (HE1.below HBN.out).keep HKS.out (by
      obtain ⟨gi, gb, gh, gp, F2, A, c, h⟩ := HE1.out;intro k hk (e : k = gs);have := (h.fin k hk).2; have := HGS.out; omega) (fun k (e : k = gs) => iw)
     have HRF := hid (HKQ.out);have HRV := hid (HKS.blk (HRE.below HBN.out HRE.lt) (fun (e : gr = gs) => am));have HGN : Hid (gr ≠ gs) := fun e => am
     clear HKX HKQ HE1 HKE HRE HS1 HBN HGR HGS HSN HKS HRF
    rotate_left 1
    focus
     go_wp2_with fail;obtain ⟨wn, hwn⟩ := nE (wx.alloc (.cells zs 51));have HSN := bn hwn;have HBN := ba hwn;rw [hwn];clear hwn;refine KT.step (HBN.mono HBW.size) ?_;have HGR : Hid (gr < wx.heap.size) := HRX.lt;obtain ⟨gs, hgs⟩ := nE (wx.heap.size);have HGS := hid hgs;rw [hgs] at HSN ⊢;clear hgs;have HNS : Hid (¬ F gs) := fun hf => az
     have HDN := HDX.below HBN.out;have c20 : wn.cell? ⟨d, 20, none⟩ = some (.int .i64 mx) := ed
     have c10 : wn.cell? ⟨d, 10, none⟩ = some (.int .i64 (lo : Int)) := dz
     have hdl := HDN.lt;clear HDN;refine Ze rfl ?_;have HBX : Hid (Below wv.heap.size wv wn) := HBW.trans (HBN.mono HBW.size);have HRN := bb HRX HBN;have CL := hid (CD.out wn HBX.out);go_wp2_with fail;refine CL.mono ?_;rintro en w1 ⟨rfl, hd1, hk1⟩;have HE1 := hid hd1; have HKE := hid hk1;have HRE := hid (hk1.blk HRN.out HNF.out);have HSE2 := hid (hk1.blk HSN.out HNS.out);have HS1 : Hid (wv.heap.size ≤ w1.heap.size) := Nat.le_trans HBX.size hk1.size;clear hd1 hk1 CL CD c20 c10 hdl;go_wp2_with fail;refine KT.past rfl ?_;refine Ze rfl ?_;obtain ⟨f0, f1, f2, f3, f4, f5⟩ := Yk HSE2.out;have y0 := HSE2.frozen 0; have y1 := HSE2.frozen 1; have y2 := HSE2.frozen 2; have y3 := HSE2.frozen 3; have y4 := HSE2.frozen 4; have y5 := HSE2.frozen 5;have hls := HSE2.lt;go_wp2_with fail;obtain ⟨wf, hwf⟩ := nE (Yw w1 gs (.int .i64 mx) (.int .i64 (lo : Int)) (.int .i64 (J.2.1 : Int)) (.int .i64 (J.2.2.1 : Int)) (.int .i64 (J.2.2.2 : Int)) (.int .i64 0));have HSF : Hid (Blk wf gs 51 #[mx, (lo : Int), (J.2.1 : Int), (J.2.2.1 : Int), (J.2.2.2 : Int), .int .i64 0]) := hwf ▸ Yr HSE2.out _ _ _ _ _ _;have HKS : Hid (Za (fun k => k = gs) w1 wf) := hwf ▸ Yg _ _ _ _ _ _ _ _;unfold Yw at hwf;rw [hwf];clear hwf f0 f1 f2 f3 f4 f5 y0 y1 y2 y3 y4 y5 hls;have HVG : Hid (wv.heap.size ≤ gs) := cq
     refine KT.step (HKS.below HS1.out (fun k (e : k = gs) => fc)) ?_;refine Zi ?_;have HKX : Hid (Za F w wn) := HKV.trans (Za.of_below (F := F) HBX.out) (fun _ h => .inl h);have HWG : Hid (w.heap.size ≤ gs) := Nat.le_trans HKV.size HVG.out
     have TAIL : Hid (∀ w2, Za (fun k => k = gr ∨ k = gs) wf w2 → Zl B (Fup F w w2) w0 w2 d J.1 ∧ Za F w w2) := fun w2 hk2 =>
      Qr (G := fun k => k = gr ∨ k = gs) HF.out HB.out (fun k hk => .inl hk) HKX.out HE1.out HKE.out ((HKS.mono (fun k _ e => .inr e) : Za (fun k => k = gr ∨ k = gs) w1 wf).trans hk2 (fun k h => .inl h)) (fun k h => by
       rcases h with e | e
       ·exact N48
       ·rw [e]; exact ⟨HWG.out, HSN.lt, HNS.out⟩)
     have HDF : Hid (Zl B (Fup F wn w1) w0 wf d J.1) := HE1.keep HKS.out (by
      rintro k (hk | hk) (e : k = gs)
      ·exact HNS.out ay
      ·have := HSN.lt; have := hk.1; omega) (fun k (e : k = gs) => cf)
     have HRV := hid (HKS.blk HRE.out (fun (e : gr = gs) => am));have HGN : Hid (gr ≠ gs) := fun e => am
     clear HKX HE1 HKE HRE HS1 HBN HGR HGS HSN HKS HBX HRN HSE2 HNS HVG HWG
   rotate_left 2
   focus
    go_wp2_with fail;obtain ⟨wn, hwn⟩ := nE (wx.alloc (.cells zs 51));have HSN := bn hwn;have HBN := ba hwn;rw [hwn];clear hwn;refine KT.step (HBN.mono HBW.size) ?_;have HGR : Hid (gr < wx.heap.size) := HRX.lt;obtain ⟨gs, hgs⟩ := nE (wx.heap.size);have HGS := hid hgs;rw [hgs] at HSN ⊢;clear hgs;have HNS : Hid (¬ F gs) := fun hf => az
    have HDN := HDX.below HBN.out;have c20 : wn.cell? ⟨d, 20, none⟩ = some (.int .i64 mx) := ed
    have c10 : wn.cell? ⟨d, 10, none⟩ = some (.int .i64 (lo : Int)) := dz
    have hdl := HDN.lt;clear HDN;refine Ze rfl ?_;go_wp2_with fail;refine KT.same ?_;refine Zd rfl rfl ?_
    go_big_quiet_step (fail)
    refine wpQuiet_nil ?_;refine Ze rfl ?_;have HBX : Hid (Below wv.heap.size wv wn) := HBW.trans (HBN.mono HBW.size);have HRN := bb HRX HBN;have CL := hid (CD.out wn HBX.out);go_wp2_with fail;refine CL.mono ?_;rintro en w1 ⟨rfl, hd1, hk1⟩;have HE1 := hid hd1; have HKE := hid hk1;have HRE := hid (hk1.blk HRN.out HNF.out);have HSE2 := hid (hk1.blk HSN.out HNS.out);have HS1 : Hid (wv.heap.size ≤ w1.heap.size) := Nat.le_trans HBX.size hk1.size;clear hd1 hk1 CL CD c20 c10 hdl;go_wp2_with fail;refine KT.past rfl ?_;refine Ze rfl ?_;obtain ⟨f0, f1, f2, f3, f4, f5⟩ := Yk HSE2.out;have y0 := HSE2.frozen 0; have y1 := HSE2.frozen 1; have y2 := HSE2.frozen 2; have y3 := HSE2.frozen 3; have y4 := HSE2.frozen 4; have y5 := HSE2.frozen 5;have hls := HSE2.lt;go_wp2_with fail;obtain ⟨wf, hwf⟩ := nE (Yw w1 gs (.int .i64 mx) (.int .i64 (lo : Int)) (.int .i64 (J.2.1 : Int)) (.int .i64 (J.2.2.1 : Int)) (.int .i64 (J.2.2.2 : Int)) (.int .i64 0));have HSF : Hid (Blk wf gs 51 #[mx, (lo : Int), (J.2.1 : Int), (J.2.2.1 : Int), (J.2.2.2 : Int), .int .i64 0]) := hwf ▸ Yr HSE2.out _ _ _ _ _ _;have HKS : Hid (Za (fun k => k = gs) w1 wf) := hwf ▸ Yg _ _ _ _ _ _ _ _;unfold Yw at hwf;rw [hwf];clear hwf f0 f1 f2 f3 f4 f5 y0 y1 y2 y3 y4 y5 hls;have HVG : Hid (wv.heap.size ≤ gs) := cq
    refine KT.step (HKS.below HS1.out (fun k (e : k = gs) => fc)) ?_;refine Zi ?_;have HKX : Hid (Za F w wn) := HKV.trans (Za.of_below (F := F) HBX.out) (fun _ h => .inl h);have HWG : Hid (w.heap.size ≤ gs) := Nat.le_trans HKV.size HVG.out
    have TAIL : Hid (∀ w2, Za (fun k => k = gr ∨ k = gs) wf w2 → Zl B (Fup F w w2) w0 w2 d J.1 ∧ Za F w w2) := fun w2 hk2 =>
     Qr (G := fun k => k = gr ∨ k = gs) HF.out HB.out (fun k hk => .inl hk) HKX.out HE1.out HKE.out ((HKS.mono (fun k _ e => .inr e) : Za (fun k => k = gr ∨ k = gs) w1 wf).trans hk2 (fun k h => .inl h)) (fun k h => by
      rcases h with e | e
      ·exact N48
      ·rw [e]; exact ⟨HWG.out, HSN.lt, HNS.out⟩)
    have HDF : Hid (Zl B (Fup F wn w1) w0 wf d J.1) := HE1.keep HKS.out (by
     rintro k (hk | hk) (e : k = gs)
     ·exact HNS.out ay
     ·have := HSN.lt; have := hk.1; omega) (fun k (e : k = gs) => cf)
    have HRV := hid (HKS.blk HRE.out (fun (e : gr = gs) => am));have HGN : Hid (gr ≠ gs) := fun e => am
    clear HKX HE1 HKE HRE HS1 HBN HGR HGS HSN HKS HBX HRN HSE2 HNS HVG HWG
  rotate_left 3
  focus
   go_wp2_with fail;obtain ⟨wn, hwn⟩ := nE (wx.alloc (.cells zs 51));have HSN := bn hwn;have HBN := ba hwn;rw [hwn];clear hwn;refine KT.step (HBN.mono HBW.size) ?_;have HGR : Hid (gr < wx.heap.size) := HRX.lt;obtain ⟨gs, hgs⟩ := nE (wx.heap.size);have HGS := hid hgs;rw [hgs] at HSN ⊢;clear hgs;have HNS : Hid (¬ F gs) := fun hf => az
   have HDN := HDX.below HBN.out;have c20 : wn.cell? ⟨d, 20, none⟩ = some (.int .i64 mx) := ed
   have c10 : wn.cell? ⟨d, 10, none⟩ = some (.int .i64 (lo : Int)) := dz
   have hdl := HDN.lt;clear HDN;refine Vg rfl rfl ?_ ?_
   focus
    go_wp2_with fail;refine KT.same ?_;refine Ze rfl ?_;go_wp2_with fail;refine KT.same ?_;refine Zd rfl rfl ?_
    go_big_quiet_step (fail)
    refine wpQuiet_nil ?_;refine Ze rfl ?_;have HBX : Hid (Below wv.heap.size wv wn) := HBW.trans (HBN.mono HBW.size);have HRN := bb HRX HBN;have CL := hid (CD.out wn HBX.out);go_wp2_with fail;refine CL.mono ?_;rintro en w1 ⟨rfl, hd1, hk1⟩;have HE1 := hid hd1; have HKE := hid hk1;have HRE := hid (hk1.blk HRN.out HNF.out);have HSE2 := hid (hk1.blk HSN.out HNS.out);have HS1 : Hid (wv.heap.size ≤ w1.heap.size) := Nat.le_trans HBX.size hk1.size;clear hd1 hk1 CL CD c20 c10 hdl;go_wp2_with fail;refine KT.past rfl ?_;refine Ze rfl ?_;obtain ⟨f0, f1, f2, f3, f4, f5⟩ := Yk HSE2.out;have y0 := HSE2.frozen 0; have y1 := HSE2.frozen 1; have y2 := HSE2.frozen 2; have y3 := HSE2.frozen 3; have y4 := HSE2.frozen 4; have y5 := HSE2.frozen 5;have hls := HSE2.lt;go_wp2_with fail;obtain ⟨wf, hwf⟩ := nE (Yw w1 gs (.int .i64 mx) (.int .i64 (lo : Int)) (.int .i64 (J.2.1 : Int)) (.int .i64 (J.2.2.1 : Int)) (.int .i64 (J.2.2.2 : Int)) (.int .i64 0));have HSF : Hid (Blk wf gs 51 #[mx, (lo : Int), (J.2.1 : Int), (J.2.2.1 : Int), (J.2.2.2 : Int), .int .i64 0]) := hwf ▸ Yr HSE2.out _ _ _ _ _ _;have HKS : Hid (Za (fun k => k = gs) w1 wf) := hwf ▸ Yg _ _ _ _ _ _ _ _;unfold Yw at hwf;rw [hwf];clear hwf f0 f1 f2 f3 f4 f5 y0 y1 y2 y3 y4 y5 hls;have HVG : Hid (wv.heap.size ≤ gs) := cq
    refine KT.step (HKS.below HS1.out (fun k (e : k = gs) => fc)) ?_;refine Zi ?_;have HKX : Hid (Za F w wn) := HKV.trans (Za.of_below (F := F) HBX.out) (fun _ h => .inl h);have HWG : Hid (w.heap.size ≤ gs) := Nat.le_trans HKV.size HVG.out
    have TAIL : Hid (∀ w2, Za (fun k => k = gr ∨ k = gs) wf w2 → Zl B (Fup F w w2) w0 w2 d J.1 ∧ Za F w w2) := fun w2 hk2 =>
     Qr (G := fun k => k = gr ∨ k = gs) HF.out HB.out (fun k hk => .inl hk) HKX.out HE1.out HKE.out ((HKS.mono (fun k _ e => .inr e) : Za (fun k => k = gr ∨ k = gs) w1 wf).trans hk2 (fun k h => .inl h)) (fun k h => by
      rcases h with e | e
      ·exact N48
      ·rw [e]; exact ⟨HWG.out, HSN.lt, HNS.out⟩)
    have HDF : Hid (Zl B (Fup F wn w1) w0 wf d J.1) := HE1.keep HKS.out (by
     rintro k (hk | hk) (e : k = gs)
     ·exact HNS.out ay
     ·have := HSN.lt; have := hk.1; omega) (fun k (e : k = gs) => cf)
    have HRV := hid (HKS.blk HRE.out (fun (e : gr = gs) => am));have HGN : Hid (gr ≠ gs) := fun e => am
    clear HKX HE1 HKE HRE HS1 HBN HGR HGS HSN HKS HBX HRN HSE2 HNS HVG HWG
   rotate_left 1
   focus
    go_wp2_with fail;refine KT.same ?_;refine Ze rfl ?_;go_wp2_with fail;refine KT.same ?_;refine Zd rfl rfl ?_
    go_big_quiet_step (fail)
    refine wpQuiet_nil ?_;refine Ze rfl ?_;have HBX : Hid (Below wv.heap.size wv wn) := HBW.trans (HBN.mono HBW.size);have HRN := bb HRX HBN;have CL := hid (CD.out wn HBX.out);go_wp2_with fail;refine CL.mono ?_;rintro en w1 ⟨rfl, hd1, hk1⟩;have HE1 := hid hd1; have HKE := hid hk1;have HRE := hid (hk1.blk HRN.out HNF.out);have HSE2 := hid (hk1.blk HSN.out HNS.out);have HS1 : Hid (wv.heap.size ≤ w1.heap.size) := Nat.le_trans HBX.size hk1.size;clear hd1 hk1 CL CD c20 c10 hdl;go_wp2_with fail;refine KT.past rfl ?_;refine Ze rfl ?_;obtain ⟨f0, f1, f2, f3, f4, f5⟩ := Yk HSE2.out;have y0 := HSE2.frozen 0; have y1 := HSE2.frozen 1; have y2 := HSE2.frozen 2; have y3 := HSE2.frozen 3; have y4 := HSE2.frozen 4; have y5 := HSE2.frozen 5;have hls := HSE2.lt;go_wp2_with fail;obtain ⟨wf, hwf⟩ := nE (Yw w1 gs (.int .i64 mx) (.int .i64 (lo : Int)) (.int .i64 (J.2.1 : Int)) (.int .i64 (J.2.2.1 : Int)) (.int .i64 (J.2.2.2 : Int)) (.int .i64 0));have HSF : Hid (Blk wf gs 51 #[mx, (lo : Int), (J.2.1 : Int), (J.2.2.1 : Int), (J.2.2.2 : Int), .int .i64 0]) := hwf ▸ Yr HSE2.out _ _ _ _ _ _;have HKS : Hid (Za (fun k => k = gs) w1 wf) := hwf ▸ Yg _ _ _ _ _ _ _ _;unfold Yw at hwf;rw [hwf];clear hwf f0 f1 f2 f3 f4 f5 y0 y1 y2 y3 y4 y5 hls;have HVG : Hid (wv.heap.size ≤ gs) := cq
    refine KT.step (HKS.below HS1.out (fun k (e : k = gs) => fc)) ?_;refine Zi ?_;have HKX : Hid (Za F w wn) := HKV.trans (Za.of_below (F := F) HBX.out) (fun _ h => .inl h);have HWG : Hid (w.heap.size ≤ gs) := Nat.le_trans HKV.size HVG.out
    have TAIL : Hid (∀ w2, Za (fun k => k = gr ∨ k = gs) wf w2 → Zl B (Fup F w w2) w0 w2 d J.1 ∧ Za F w w2) := fun w2 hk2 =>
     Qr (G := fun k => k = gr ∨ k = gs) HF.out HB.out (fun k hk => .inl hk) HKX.out HE1.out HKE.out ((HKS.mono (fun k _ e => .inr e) : Za (fun k => k = gr ∨ k = gs) w1 wf).trans hk2 (fun k h => .inl h)) (fun k h => by
      rcases h with e | e
      ·exact N48
      ·rw [e]; exact ⟨HWG.out, HSN.lt, HNS.out⟩)
    have HDF : Hid (Zl B (Fup F wn w1) w0 wf d J.1) := HE1.keep HKS.out (by
     rintro k (hk | hk) (e : k = gs)
     ·exact HNS.out ay
     ·have := HSN.lt; have := hk.1; omega) (fun k (e : k = gs) => cf)
    have HRV := hid (HKS.blk HRE.out (fun (e : gr = gs) => am));have HGN : Hid (gr ≠ gs) := fun e => am
    clear HKX HE1 HKE HRE HS1 HBN HGR HGS HSN HKS HBX HRN HSE2 HNS HVG HWG
  all_goals
   obtain ⟨st, hst⟩ := nE (J.1.st);have HST := hid hst;have c11 : wf.cell? ⟨d, 11, none⟩ = some (.int .i64 (st : Int)) := hst ▸ HDF.st;clear hst;have hdl := HDF.lt;have e5 := cA HSF.out 5 (.int .i64 0) rfl;have ef5 := HSF.frozen 5;have hls := HSF.lt;go_upto_region 6 with fail;obtain ⟨wg, hwg, hbg, HKG⟩ := Blk.put HSF.out 5 (.int .i64 (st : Int));rw [hwg];have HSG : Hid (Blk wg gs 51 #[mx, (lo : Int), (J.2.1 : Int), (J.2.2.1 : Int), (J.2.2.2 : Int), (st : Int)]) := hbg;have HRG := hid (HKG.blk HRV.out HGN.out);clear hwg hbg c11 hdl e5 ef5 hls HRV;obtain ⟨x0, x1, x2, x3, x4, x5⟩ := Yk HSG.out;have hlx := HSG.lt;obtain ⟨r0, r1, r2, r3, r4, r5⟩ := Yk HRG.out;have z0 := HRG.frozen 0; have z1 := HRG.frozen 1; have z2 := HRG.frozen 2; have z3 := HRG.frozen 3; have z4 := HRG.frozen 4; have z5 := HRG.frozen 5;have hlr := HRG.lt;go_wp2_with fail;obtain ⟨wz, hwz⟩ := nE (Yw wg gr (.int .i64 mx) (.int .i64 (lo : Int)) (.int .i64 (J.2.1 : Int)) (.int .i64 (J.2.2.1 : Int)) (.int .i64 (J.2.2.2 : Int)) (.int .i64 (st : Int)));have KZ : Hid (Za (fun k => k = gr) wg wz) := hwz ▸ Yg _ _ _ _ _ _ _ _;have BZ := Yr HRG.out (.int .i64 mx) (.int .i64 (lo : Int)) (.int .i64 (J.2.1 : Int)) (.int .i64 (J.2.2.1 : Int)) (.int .i64 (J.2.2.2 : Int)) (.int .i64 (st : Int));rw [hwz] at BZ;unfold Yw at hwz;rw [hwz];clear hwz;obtain ⟨t0, t1, t2, t3, t4, t5⟩ := Yk BZ;have hf := TAIL.out wz ((HKG.mono (fun k _ e => .inr e) : Za (fun k => k = gr ∨ k = gs) wf wg).trans KZ.out (fun k e => .inl (.inl e)));refine bodyPost_ret (v := .tuple #[.agg #[mx, (lo : Int), (J.2.1 : Int), (J.2.2.1 : Int), (J.2.2.2 : Int), (st : Int)], .bool true]) ky rfl ⟨?_, ?_, hf.2⟩
   ·rw [HS2.out, HST.out]; rfl
   ·rw [HS2.out]; exact hf.1
end
end Go.Proofs.YtpkkfdmhbbipoaaGreat
