/- Walks: package dial: send. Walks: ring.Room; package dial: Room, and a dialogue that is none. Walks: package dial: Price. Walks: package dial: a step of a dialogue that is none. A dialogue whose window looked. Plain: the arm that a look tells is one of those there are. -/
import Derived.Test.YtpkkfdmhbbipoaaGreatDf
namespace Go.Proofs.YtpkkfdmhbbipoaaGreat
set_option maxRecDepth 20000
set_option maxHeartbeats 4000000
open Go.RowKit PopT
theorem Zmx (w : World) (a b : Obj) (t : TypeId) (cs : Array Value) : Blk (((w.alloc a).alloc b).alloc (.cells cs t)) (w.heap.size + 2) t cs := by
 have := Blk.new ((w.alloc a).alloc b) t cs;simpa using this
section
variable {B d gi gb gh gp c : Nat} {F F2 : Nat → Prop} {w0 w w' : World} {A : Option Addr} {x : Zd}
theorem Zrz {G : Nat → Prop} {wa wv w1 w2 : World} (hF : ∀ k, F k → B ≤ k ∧ k < w.heap.size) (hB : B ≤ w.heap.size) (hba : Below w.heap.size w wa) (hka : Za (fun k => F k ∨ w.heap.size ≤ k) wa wv) (h1 : Zj B (Fup F wv w1) w0 w1 d x) (hk1 : Za F wv w1) (hk2 : Za G w1 w2)
  (hG : ∀ k, G k → w.heap.size ≤ k ∧ k < wa.heap.size) : Zj B (Fup F w w2) w0 w2 d x ∧ Za F w w2 := by
 have s1 := hba.size;have s2 := hka.size;refine ⟨h1.wrap hF hB (Nat.le_trans s1 s2) hk2 (fun k hk => ⟨(hG k hk).1, Nat.lt_of_lt_of_le (hG k hk).2 s2⟩), ?_⟩;exact ((((Za.of_below (F := F) hba).trans hka (fun k h => h)).trans hk1 (fun _ h => .inl h)).trans hk2 (fun k hk => .inr (hG k hk).1))
theorem Zr.at (h : Zr B F w0 w d gi gb gh gp F2 A c x) : Zj B F w0 w d x := ⟨gi, gb, gh, gp, F2, A, c, h⟩
theorem Zj.up {w1 : World} (h : Zj B F w0 w1 d x) (hF : ∀ k, F k → B ≤ k ∧ k < w.heap.size) (hB : B ≤ w.heap.size) (hs : w.heap.size ≤ w1.heap.size) : Zj B (Fup F w w1) w0 w1 d x :=
 h.mono (fun k hk => .inl hk) (by rintro k (hk | hk); exact ⟨(hF k hk).1, by have := (hF k hk).2; omega⟩; exact ⟨aa, hk.2⟩)
theorem Zoe (h : Zr B F w0 w d gi gb gh gp F2 A c x) (v : Ul) (ov : Value) (hk : x.op.kind = 1) (hov : ∃ Av cv, ov = .slice Av x.op.arms.length cv) : Calls Tryz.prog 113 #[.pointer (some ⟨d, 0, none⟩), v.val, x.op.val ov] w fun e w' => e = .returned (Ul.val ⟨v.tick, v.loc, x.send.2.1, v.arm, x.send.2.2.2, v.st⟩) ∧ Zj B (Fup F w w') w0 w' d x.send.1 ∧ Za F w w' := by
 obtain ⟨vt, vl, vw, va, vn, vs⟩ := v;unfold Ul.val;have HD := hid h;have HF : Hid (∀ k, F k → B ≤ k ∧ k < w.heap.size) := h.fin;have HB : Hid (B ≤ w.heap.size) := h.base.2;have HLT : Hid (x.loc < x.p.ops.length) := Mq x aa;have HTX : Hid (x.op.text.size ≤ 9223372036854775807) := Zmm x h.ok;have HSE : Hid (x.send = if x.pd.laid < x.pd.text.size then (x.lays, 5, 0, x.pd.loadN) else (x.come (x.loc + 1), 6, 0, x.op.text.size)) := rfl;obtain ⟨R, hR⟩ := nE (x.send);rw [hR] at HSE ⊢;obtain ⟨Av, cv, rfl⟩ := hov;obtain ⟨na, hna⟩ := nE (x.op.arms.length);rw [hna];obtain ⟨o, ho⟩ := nE (x.op);rw [ho] at HTX HSE ⊢;obtain ⟨k, tx, nn, tj, arms, oT, oE⟩ := o;unfold OpV.val;simp only at HTX HSE ⊢;obtain ⟨ov, hov⟩ := nE (Value.slice Av na cv);have HOV := hid hov;obtain ⟨wa, hwa⟩ := nE (((w.alloc (.cells #[vt, (vl : Int), (vw : Int), (va : Int), (vn : Int), (vs : Int)] 51)).alloc (.cells #[k, tx, nn, tj, .slice Av na cv, oT, oE] 56)).alloc (.cells zs 51));have HBA : Hid (Below w.heap.size w wa) := hwa ▸ Jf _ _ _ _;have HXA : Hid (Blk wa w.heap.size 51 #[vt, (vl : Int), (vw : Int), (va : Int), (vn : Int), (vs : Int)]) := hwa ▸ ((Blk.new w _ _).alloc _).alloc _;have HOA : Hid (Blk wa (w.heap.size + 1) 56 #[k, tx, nn, tj, .slice Av na cv, oT, oE]) := hwa ▸ (Ml _ _ _ _).alloc _;have HRA : Hid (Blk wa (w.heap.size + 2) 51 zs) := hwa ▸ Zmx _ _ _ _ _;have HWA := hid hwa;have HDA := hid (h.below HBA.out);clear hwa h hk hR ho hna hov;obtain ⟨gx, hgx⟩ := nE (w.heap.size);have HGX := hid hgx;rw [hgx] at HXA HOA HRA;clear hgx;go_enter Tryz.func113, Tryz.ntmps113;go_upto_region 1 with fail;rw [HWA.out, HGX.out];obtain ⟨go, hgo⟩ := nE (gx + 1);rw [hgo];obtain ⟨gr, hgr⟩ := nE (go + 1);rw [hgr];have hgr2 : gx + 2 = gr := aa
 rw [hgo] at HOA;rw [hgr2] at HRA;have HG : Hid (w.heap.size = gx ∧ gx + 1 = go ∧ go + 1 = gr ∧ gr < wa.heap.size) := ⟨HGX.out, hgo, hgr, HRA.lt⟩;have HFX : Hid (∀ k, F k → k < gx) := fun k hk => by have := HF.out k hk; have := HG.1; omega
 clear hgo hgr hgr2 HGX HWA;have d18 : wa.cell? ⟨d, 18, none⟩ = some (.pointer (some ⟨gp, 0, none⟩)) := HDA.cell 18;have hdl := HDA.lt;have CR := hid (Zfa gp x.pd wa HDA.pend);obtain ⟨rt, hrt⟩ := nE ((x.pd.text.size : Int) - (x.pd.laid : Int));rw [hrt] at CR;go_wp2_with fail;refine CR.mono ?_;rintro en wb ⟨rfl, hb⟩;have HB1 := hid hb;have HDB := hid (HDA.below hb);have HXB := bb HXA hb;have HOB := bb HOA hb;have HRB := bb HRA hb;clear hb CR d18 hdl;have d18 : wb.cell? ⟨d, 18, none⟩ = some (.pointer (some ⟨gp, 0, none⟩)) := HDB.cell 18;have hdl := HDB.lt;by_cases h0 : 0 < rt
 ·have HR : Hid (R = (x.lays, 5, 0, x.pd.loadN)) := by rw [Hid, HSE.out, if_pos aa]
  have CL := hid (Zk0 gp x.pd wb HDB.pend);obtain ⟨ln, hln⟩ := nE (x.pd.loadN);rw [hln] at HR CL;clear hrt hln HSE;go_wp2_with fail;refine CL.mono ?_;rintro en wc ⟨rfl, hp1, hk1⟩;have HDC : Hid (Zr B F w0 wc d gi gb gh gp F2 A c x.lays) := HDB.turnP hk1 hp1 rfl;have hgp := HFX.out _ HD.fd.2.2.2.1;have HXC := hid (hk1.blk HXB.out (fun (e : gx = gp) => aa));have HRC := hid (hk1.blk HRB.out (fun (e : gr = gp) => ai));have HKC : Hid (Za F wa wc) := (Za.of_below (F := F) HB1.out).trans (hk1.mono (fun k _ (e : k = gp) => by rw [e]; exact HD.fd.2.2.2.1) : Za F wb wc) (fun _ h => .inl h);clear hp1 hk1 CL d18 hdl hgp HXB HOB HRB;have c2 := HXC.cell 2;have c4 := HXC.cell 4;have y2 := HXC.frozen 2; have y4 := HXC.frozen 4;have hxl := HXC.lt;simp only [List.getElem?_toArray, List.getElem?_cons_zero, List.getElem?_cons_succ] at c2 c4;go_upto_region 3 with fail;obtain ⟨wv, hwv⟩ := nE ((wc.setCell ⟨gx, 2, none⟩ (.int .i64 5)).setCell ⟨gx, 4, none⟩ (.int .i64 (ln : Int)));have HXV : Hid (Blk wv gx 51 #[vt, (vl : Int), .int .i64 5, (va : Int), (ln : Int), (vs : Int)]) := hwv ▸ (HXC.set 2 _).set 4 _;have HKV : Hid (Za (fun k => k = gx) wc wv) := hwv ▸ (Yr _ _ _ _).trans (Yr _ _ _ _) (fun _ h => .inl h);rw [hwv];clear hwv c2 c4 y2 y4 hxl;have HRV := hid (HKV.blk HRC.out (fun (e : gr = gx) => ai));obtain ⟨x0, x1, x2, x3, x4, x5⟩ := Yg HXV.out;obtain ⟨r0, r1, r2, r3, r4, r5⟩ := Yg HRV.out;have f0 := HRV.frozen 0; have f1 := HRV.frozen 1; have f2 := HRV.frozen 2; have f3 := HRV.frozen 3; have f4 := HRV.frozen 4; have f5 := HRV.frozen 5;have hlx := HXV.lt; have hlr := HRV.lt;go_wp2_with fail;obtain ⟨wz, hwz⟩ := nE (Yu wv gr (.int .i64 vt) (.int .i64 (vl : Int)) (.int .i64 5) (.int .i64 (va : Int)) (.int .i64 (ln : Int)) (.int .i64 (vs : Int)));have KZ : Za (fun k => k = gr) wv wz := hwz ▸ Yf _ _ _ _ _ _ _ _;have BZ := Yp HRV.out (.int .i64 vt) (.int .i64 (vl : Int)) (.int .i64 5) (.int .i64 (va : Int)) (.int .i64 (ln : Int)) (.int .i64 (vs : Int));rw [hwz] at BZ;unfold Yu at hwz;rw [hwz];clear hwz;obtain ⟨t0, t1, t2, t3, t4, t5⟩ := Yg BZ
  have hf := Zrz (G := fun k => k = gx ∨ k = gr) HF.out HB.out HBA.out (HKC.mono (fun k _ h => .inl h)) (Zj.up (w := wc) HDC.at HDC.fin HDC.base.2 (Nat.le_refl _)) (Za.refl F wc)
   ((HKV.mono (fun k _ h => .inl h) : Za (fun k => k = gx ∨ k = gr) wc wv).trans KZ (fun k h => .inl (.inr h))) (fun k hk => by have := HG.out; rcases hk with hk | hk <;> omega)
  refine bodyPost_ret (v := .agg #[vt, (vl : Int), .int .i64 5, (va : Int), (ln : Int), (vs : Int)]) kz rfl ⟨?_, ?_, hf.2⟩
  ·rw [HR.out]; try rfl
  ·rw [HR.out]; exact hf.1
 have HR : Hid (R = (x.come (x.loc + 1), 6, 0, tx.size)) := by rw [Hid, HSE.out, if_neg aa]
 obtain ⟨lo, hlo⟩ := nE (x.loc);obtain ⟨ts, hts⟩ := nE (tx.size);have HLO := hid hlo;have HTS := hid hts;have hlo2 : (lo : Int) ≤ 1000 := by have := (Wm _ HD.ok.pgood).1; have := HLT.out; omega
 rw [hts] at HR;clear hrt HSE d18 hdl hlo hts;go_upto_region 4 with fail;refine Zg wb.heap.size [4, 6] (.val 0 (.val 3 (.two 1 (.val 2 (.op 4 (.val 5 (.op 6 (.nil))))) 4 (.op 1 (.val 2 (.val 5 (.op 6 (.nil)))))))) ab ab ?_;obtain ⟨wx, hwx, HBW⟩ := dw wb;rw [hwx];clear hwx;have HDX := hid (HDB.below HBW.out);have HXX := bb HXB HBW;have HOX := bb HOB HBW;have HRX := bb HRB HBW;have o1 := cA HOX.out 1 tx rfl;have e2 := cA HXX.out 2 (vw : Int) rfl;have ef2 := HXX.frozen 2;have hxl := HXX.lt; have hol := HOX.lt
 iterate 2 (refine Zc rfl rfl ?_; go_big_quiet_step (fail); refine wpQuiet_nil ?_)
 focus
  refine Wj rfl rfl ?_ ?_
  focus
   skip
   go_wp2_with fail;refine KT.same ?_;refine Zc rfl rfl ?_
   go_big_quiet_step (fail)
   refine wpQuiet_nil ?_;refine Ze rfl ?_;go_wp2_with fail;obtain ⟨wA, hwA⟩ := nE (wx.setCell ⟨gx, 2, none⟩ (.int .i64 6));have HXY : Hid (Blk wA gx 51 #[vt, (vl : Int), .int .i64 6, (va : Int), (vn : Int), (vs : Int)]) := hwA ▸ HXX.set 2 _;have HKY : Hid (Za (fun k => k = gx) wx wA) := hwA ▸ Yr _ _ _ _;rw [hwA];clear hwA;have HOY := hid (HKY.blk HOX.out (fun (e : go = gx) => ai));have a1 := cA HOY.out 1 tx rfl;have e4 := cA HXY.out 4 (vn : Int) rfl;have ef4 := HXY.frozen 4;have hyl := HXY.lt; have hoyl := HOY.lt;refine KT.past rfl ?_
  rotate_left 1
  focus
   skip
   go_wp2_with fail;obtain ⟨wA, hwA⟩ := nE (wx.setCell ⟨gx, 2, none⟩ (.int .i64 6));have HXY : Hid (Blk wA gx 51 #[vt, (vl : Int), .int .i64 6, (va : Int), (vn : Int), (vs : Int)]) := hwA ▸ HXX.set 2 _;have HKY : Hid (Za (fun k => k = gx) wx wA) := hwA ▸ Yr _ _ _ _;rw [hwA];clear hwA;have HOY := hid (HKY.blk HOX.out (fun (e : go = gx) => ai));have a1 := cA HOY.out 1 tx rfl;have e4 := cA HXY.out 4 (vn : Int) rfl;have ef4 := HXY.frozen 4;have hyl := HXY.lt; have hoyl := HOY.lt;refine KT.past rfl ?_;refine Ze rfl ?_;go_wp2_with fail;refine KT.same ?_;refine Zc rfl rfl ?_
   go_big_quiet_step (fail)
   refine wpQuiet_nil ?_
  all_goals
   refine Zc rfl rfl ?_
   go_big_quiet_step (fail)
   refine wpQuiet_nil ?_;refine Ze rfl ?_;go_wp2_with fail
   try rw [HTS.out]
   obtain ⟨wv, hwv⟩ := nE (wA.setCell ⟨gx, 4, none⟩ (.int .i64 (ts : Int)));have HXV : Hid (Blk wv gx 51 #[vt, (vl : Int), .int .i64 6, (va : Int), (ts : Int), (vs : Int)]) := hwv ▸ HXY.set 4 _;have HKV : Hid (Za (fun k => k = gx) wx wv) := hwv ▸ HKY.trans (Yr _ _ _ _) (fun _ h => .inl h);rw [hwv];clear hwv o1 e2 ef2 hxl hol a1 e4 ef4 hyl hoyl;refine KT.past rfl ?_;refine Zi ?_;have HDV : Hid (Zr B F w0 wv d gi gb gh gp F2 A c x) := HDX.keep HKV.out (fun k hk (e : k = gx) => by have := HFX.out k hk; omega) (fun k (e : k = gx) => by have := HB.out; have := HG.out; omega);have HRW := hid (HKV.blk HRX.out (fun (e : gr = gx) => ai));have c10 : wv.cell? ⟨d, 10, none⟩ = some (.int .i64 (lo : Int)) := by rw [← HLO.out]; exact HDV.cell 10
   have hdv := HDV.lt;have cc := Za9 HDV.out (x.loc + 1) HLT.out;have ecc : ((x.loc + 1 : Nat) : Int) = (lo : Int) + 1 := by rw [HLO.out]; simp
   rw [ecc] at cc;have CC := hid cc;clear cc ecc;go_wp2_with fail;refine CC.mono ?_;rintro en w1 ⟨rfl, hd1, hk1⟩;have HD1 := hid hd1; have HK1 := hid hk1;have HX1 := hid (hk1.blk HXV.out (fun hf => by have := HFX.out _ hf; omega));have HRV := hid (hk1.blk HRW.out (fun hf => cu));clear hd1 hk1 CC c10 hdv;obtain ⟨x0, x1, x2, x3, x4, x5⟩ := Yg HX1.out;obtain ⟨r0, r1, r2, r3, r4, r5⟩ := Yg HRV.out;have f0 := HRV.frozen 0; have f1 := HRV.frozen 1; have f2 := HRV.frozen 2; have f3 := HRV.frozen 3; have f4 := HRV.frozen 4; have f5 := HRV.frozen 5;have hlx := HX1.lt; have hlr := HRV.lt;go_wp2_with fail;obtain ⟨wz, hwz⟩ := nE (Yu w1 gr (.int .i64 vt) (.int .i64 (vl : Int)) (.int .i64 6) (.int .i64 (va : Int)) (.int .i64 (ts : Int)) (.int .i64 (vs : Int)));have KZ : Za (fun k => k = gr) w1 wz := hwz ▸ Yf _ _ _ _ _ _ _ _;have BZ := Yp HRV.out (.int .i64 vt) (.int .i64 (vl : Int)) (.int .i64 6) (.int .i64 (va : Int)) (.int .i64 (ts : Int)) (.int .i64 (vs : Int));rw [hwz] at BZ;unfold Yu at hwz;rw [hwz];clear hwz;obtain ⟨t0, t1, t2, t3, t4, t5⟩ := Yg BZ;have hf := Zrz (G := fun k => k = gr) HF.out HB.out HBA.out ((Za.of_below (F := fun k => F k ∨ w.heap.size ≤ k) (HB1.trans (HBW.mono HB1.size))).trans HKV.out (fun k (e : k = gx) => .inl (.inr bp))) HD1.out HK1.out KZ (fun k (hk : k = gr) => ai);refine bodyPost_ret (v := .agg #[vt, (vl : Int), .int .i64 6, (va : Int), (ts : Int), (vs : Int)]) kz rfl ⟨?_, ?_, hf.2⟩
   ·rw [HR.out]; try rfl
   ·rw [HR.out]; exact hf.1
end
theorem Zkr (w : World) (g gb m : Nat) (S : List UInt8) (h : Rg w g gb m S) :
  Calls Tryz.prog 91 #[.pointer (some ⟨g, 0, none⟩)] w fun e w' => e = .returned ((m : Int) - (S.length : Int)) ∧ Below w.heap.size w w' := by
 obtain ⟨first, buf, h1, h2⟩ := h;have hm : m ≤ 4096 := h1.2.2.2.2.1;have hS : S.length ≤ m := h1.2.2.2.2.2.2;have d0 := h1.1.cell 0;have d2 := h1.1.cell 2;have hl := h1.1.lt;simp only [List.getElem?_toArray, List.getElem?_cons_zero, List.getElem?_cons_succ] at d0 d2;obtain ⟨n, hn⟩ := nE (S.length);rw [hn] at d2 hS ⊢;have T0 := fun q : BW w.heap.size w => q.cellAt hl d0;have T2 := fun q : BW w.heap.size w => q.cellAt hl d2;clear h1 h2 d0 d2 hn;go_enter Tryz.func91, Tryz.ntmps91;go_upto_region 3 with fail;refine Zk w.heap.size ab ab ?_
 repeat (go_big_quiet_step (fail))
 refine wpQuiet_nil ?_;intro wu hqu;have HBU : Hid (Below w.heap.size w wu) := al
 clear hqu T0 T2;go_wp2_with fail;go_ret;exact ⟨rfl, HBU.out⟩
section
variable {B d gi gb gh gp c : Nat} {F F2 : Nat → Prop} {w0 w w' : World} {A : Option Addr} {x : Zd}
theorem Zof (h : Zr B F w0 w d gi gb gh gp F2 A c x) : Calls Tryz.prog 54 #[.pointer (some ⟨d, 0, none⟩)] w fun e w' => e = .returned (.int .i64 (if x.st = 0 ∧ x.eof = false then (x.s.ring.toNat : Int) - (x.R.length : Int) else 0)) ∧ Below w.heap.size w w' := by
 have c19 : w.cell? ⟨d, 19, none⟩ = some (.bool x.eof) := h.cell 19;have c16 : w.cell? ⟨d, 16, none⟩ = some (.pointer (some ⟨gi, 0, none⟩)) := h.cell 16;have hl := h.lt;by_cases hs : x.st = 0
 ·have CR := hid (Ke h hs)
  cases he : x.eof
  ·rw [he] at c19
   rw [if_pos ⟨hs, rfl⟩];have CP := hid (Zkr w gi gb x.s.ring.toNat x.R h.ring);obtain ⟨n, hn⟩ : ∃ y : Int, (x.s.ring.toNat : Int) - (x.R.length : Int) = y := ⟨_, rfl⟩;rw [hn] at CP ⊢;clear he hs h hn;go_enter Tryz.func54, Tryz.ntmps54;go_wp2_with fail;refine CR.mono ?_;rintro en w1 ⟨rfl, rfl⟩;go_wp2_with fail;refine CP.mono ?_;rintro en w1 ⟨rfl, hb⟩;have HB := hid hb;clear hb;go_wp2_with fail;go_ret;exact ⟨rfl, HB.out⟩
  ·rw [he] at c19
   rw [if_neg (fun h => by cases h.2)];clear he hs h;go_enter Tryz.func54, Tryz.ntmps54;exact N59
 ·have CR := hid (Gn h hs)
  rw [if_neg (fun h => hs h.1)];clear hs h;go_enter Tryz.func54, Tryz.ntmps54;exact N59
end
def Zd.price (x : Zd) : Nat := if x.st = 0 then Mu x.s.win.toNat x.s.out.toNat x.op.kind (x.S.length - x.seen) (if x.op.kind = 1 then x.pd.text.size - x.pd.laid else x.R.length) else 0
section
variable {B d gi gb gh gp c : Nat} {F F2 : Nat → Prop} {w0 w w' : World} {A : Option Addr} {x : Zd}
theorem N29{P:Prop}(h:P:=by
 rw [hwx];clear hwx
 iterate 11 ((first | refine Zc rfl rfl ?_ | refine Zq rfl rfl (Yz HBW.out) ?_); go_big_quiet_step (fail); refine wpQuiet_nil ?_)
 refine Ze rfl ?_;go_wp2_with fail;refine (CF.out _ HBW.out).mono ?_;rintro en wg ⟨rfl, hbg⟩;replace HBW := hid (HBW.trans (hbg.mono HBW.size));clear hbg CF;go_wp2_with fail;refine KT.keep (Yz HBW.out) ?_;refine Ze rfl ?_;go_wp2_with fail;refine (CQ2.out _).mono ?_;rintro en wq ⟨rfl, hbq⟩;replace HBW := hid (HBW.trans (hbq.mono HBW.size));clear hbq CQ2;go_wp2_with fail;refine KT.keep (Yz HBW.out) ?_;refine Zc rfl rfl ?_
 go_big_quiet_step (fail)
 refine wpQuiet_nil ?_;refine Zi ?_;go_wp2_with fail;go_ret;exact ⟨rfl, HBE.trans ((HBF.trans (HBW.mono HBF.size)).mono HBE.size)⟩):P:=h
theorem Zlw (h : Zr B F w0 w d gi gb gh gp F2 A c x) (hpt : x.pd.text.size ≤ 100000) : Calls Tryz.prog 48 #[.pointer (some ⟨d, 0, none⟩)] w fun e w' => e = .returned ((x.price : Nat) : Int) ∧ Below w.heap.size w w' := by
 have HD := hid h;have HPT := hid hpt;by_cases hs : x.st = 0
 ·have CR := hid (Ke h hs)
  have hl := h.lt;have c16 : w.cell? ⟨d, 16, none⟩ = some (.pointer (some ⟨gi, 0, none⟩)) := h.cell 16;have HR4 : Hid (x.R.length ≤ 4096) := by obtain ⟨first, buf, h1, h2⟩ := h.ring; have a : x.s.ring.toNat ≤ 4096 := h1.2.2.2.2.1; have b : x.R.length ≤ x.s.ring.toNat := h1.2.2.2.2.2.2; rw [Hid]; omega
  have HP := hid (show x.price = if x.st = 0 then Mu x.s.win.toNat x.s.out.toNat x.op.kind (x.S.length - x.seen) (if x.op.kind = 1 then x.pd.text.size - x.pd.laid else x.R.length) else 0 from rfl);rw [if_pos hs] at HP;obtain ⟨P, hP⟩ := nE (x.price);rw [hP] at HP ⊢;have CL := hid (Za3 w gi gb x.s.ring.toNat x.R h.ring);have co := Zg3 h;have hbd := Vw h.ok.good;have HBD := hid hbd;have CQ := hid (fun kd fr wt W (h1 : fr ≤ 100000) (h2 : wt ≤ 100000) => Zf2 x.s x.s.win.toNat x.s.out.toNat kd fr wt W HD.ok.good (by have := HBD.out; omega) (by have := HBD.out; omega) h1 h2);obtain ⟨rl, hrl⟩ := nE (x.R.length);rw [hrl] at HR4 HP CL;obtain ⟨o, ho⟩ := nE (x.op);rw [ho] at co HP;obtain ⟨k, tx, nn, tj, arms, oT, oE⟩ := o;simp only at HP;have CO : Hid (Calls Tryz.prog 82 #[.pointer (some ⟨d, 0, none⟩)] w fun e w' => ∃ v, e = .returned (.agg #[k, tx, nn, tj, v, oT, oE]) ∧ Xf w' ⟨k, tx, nn, tj, arms, oT, oE⟩ v ∧ Below w.heap.size w w') := co;clear co h hs hP hrl ho hbd hpt;go_enter Tryz.func48, Tryz.ntmps48;go_wp2_with fail;refine CR.mono ?_;rintro en w1 ⟨rfl, rfl⟩;go_wp2_with fail;refine CL.mono ?_;rintro en w1 ⟨rfl, rfl⟩;clear CL CR c16 hl;go_wp2_with fail;refine CO.mono ?_;rintro en wd ⟨v, rfl, ⟨Av, cv, rfl, -⟩, hbd⟩;obtain ⟨na, hna⟩ := nE ((OpV.mk k tx nn tj arms oT oE).arms.length);rw [hna];clear CO hna;go_upto_region 5 with fail;obtain ⟨we, hwe⟩ := nE (wd.alloc (.cells #[k, tx, nn, tj, .slice Av na cv, oT, oE] 56));have HBE : Hid (Below w.heap.size w we) := hwe ▸ hbd.alloc hbd.size _;have HOB := bn hwe;rw [hwe];clear hwe;obtain ⟨g4, hg4⟩ := nE (wd.heap.size);rw [hg4] at HOB ⊢;clear hg4 hbd;have HDE := hid (HD.below HBE.out);have q0 := cA HOB.out 0 k rfl;have hle := HOB.lt;have d18 : we.cell? ⟨d, 18, none⟩ = some (.pointer (some ⟨gp, 0, none⟩)) := HDE.cell 18;have hdl := HDE.lt;by_cases hk1 : k = 1
  ·subst hk1
   rw [if_pos rfl] at HP;have CP := hid (Zfa gp x.pd we HDE.pend);have hpl : x.pd.laid ≤ x.pd.text.size := by obtain ⟨-, h1, h2, -⟩ := HDE.pend; exact h2
   have hcast : (x.pd.text.size : Int) - (x.pd.laid : Int) = ((x.pd.text.size - x.pd.laid : Nat) : Int) := aa
   rw [hcast] at CP;have HWT : Hid (x.pd.text.size - x.pd.laid ≤ 100000) := by have := HPT.out; rw [Hid]; omega
   obtain ⟨wt, hwt⟩ := nE (x.pd.text.size - x.pd.laid);rw [hwt] at CP HWT HP;clear hcast hpl hwt;go_wp2_with fail;refine CP.mono ?_;rintro en wf ⟨rfl, hbf⟩;have HBF := hid hbf;clear hbf CP d18 hdl q0 hle;go_upto_region 7 with fail;have HDF := hid (HDE.below HBF.out);have HOF := bb HOB HBF;have hdf := HDF.lt;have hof := HOF.lt;have T0 : ∀ q : BW wf.heap.size wf, q.1.cell? ⟨d, 0, none⟩ = some (.int .i64 x.s.live) := fun q => q.cellAt hdf (HDF.cell 0);have T1 : ∀ q : BW wf.heap.size wf, q.1.cell? ⟨d, 1, none⟩ = some (.int .i64 x.s.ring) := fun q => q.cellAt hdf (HDF.cell 1);have T2 : ∀ q : BW wf.heap.size wf, q.1.cell? ⟨d, 2, none⟩ = some (.int .i64 x.s.win) := fun q => q.cellAt hdf (HDF.cell 2);have T3 : ∀ q : BW wf.heap.size wf, q.1.cell? ⟨d, 3, none⟩ = some (.int .i64 x.s.out) := fun q => q.cellAt hdf (HDF.cell 3);have T4 : ∀ q : BW wf.heap.size wf, q.1.cell? ⟨d, 4, none⟩ = some (.int .i64 x.s.quan) := fun q => q.cellAt hdf (HDF.cell 4);have T5 : ∀ q : BW wf.heap.size wf, q.1.cell? ⟨d, 5, none⟩ = some (.int .i64 x.s.vis) := fun q => q.cellAt hdf (HDF.cell 5);have T17 : ∀ q : BW wf.heap.size wf, q.1.cell? ⟨d, 17, none⟩ = some (.pointer (some ⟨gh, 0, none⟩)) := fun q => q.cellAt hdf (HDF.cell 17);have TK : ∀ q : BW wf.heap.size wf, q.1.cell? ⟨g4, 0, none⟩ = some (.int .i64 1) := fun q => q.cellAt hof (HOF.cell 0);obtain ⟨bs, ps, PP, -, hh, -⟩ := HDF.hold;have hsn : x.seen ≤ x.S.length := fm
   have hsw : x.S.length ≤ x.s.win.toNat := by obtain ⟨h0, h1, h2, h3, h4, h5, -⟩ := hh; exact h5
   have CF := hid (fun W (hb : Below wf.heap.size wf W) => Zak bs gh x.s.win.toNat x.seen F2 x.S ps PP W (hh.below hb));have hcf : (x.S.length : Int) - (x.seen : Int) = ((x.S.length - x.seen : Nat) : Int) := aa
   rw [hcf] at CF;have HFR : Hid (x.S.length - x.seen ≤ 100000) := by have := HBD.out; rw [Hid]; omega
   obtain ⟨fr, hfr⟩ := nE (x.S.length - x.seen);rw [hfr] at CF HFR HP;have CQ2 : Hid (∀ W, Calls Tryz.prog 84 #[.agg #[x.s.live, x.s.ring, x.s.win, x.s.out, x.s.quan, x.s.vis], .int .i64 1, (fr : Int), (wt : Int)] W fun e w' => e = .returned ((Mu x.s.win.toNat x.s.out.toNat 1 fr wt : Nat) : Int) ∧ Below W.heap.size W w') := fun W => CQ.out 1 fr wt W HFR.out HWT.out;rw [← HP.out] at CQ2;clear hh hsn hsw hcf hfr hdf hof HP CQ;refine Zg wf.heap.size [] (.val 0 (.val 1 (.val 2 (.val 3 (.val 4 (.val 5 (.val 6 (.val 7 (.val 8 (.val 9 (.val 11 (.op 10 (.op 12 (.val 13 (.nil))))))))))))))) ab ab ?_;obtain ⟨wx, hwx, HBW⟩ := dw wf;exact N29
  ·rw [if_neg hk1] at HP
   have hk1f := bF hk1;have HWT : Hid (rl ≤ 100000) := by have := HR4.out; rw [Hid]; omega
   have HBF : Hid (Below we.heap.size we we) := Below.refl _ _;clear hk1;go_upto_region 7 with fail;clear d18 hdl q0 hle;have HDF := hid (HDE.below HBF.out);have HOF := bb HOB HBF;have hdf := HDF.lt;have hof := HOF.lt;have T0 : ∀ q : BW we.heap.size we, q.1.cell? ⟨d, 0, none⟩ = some (.int .i64 x.s.live) := fun q => q.cellAt hdf (HDF.cell 0);have T1 : ∀ q : BW we.heap.size we, q.1.cell? ⟨d, 1, none⟩ = some (.int .i64 x.s.ring) := fun q => q.cellAt hdf (HDF.cell 1);have T2 : ∀ q : BW we.heap.size we, q.1.cell? ⟨d, 2, none⟩ = some (.int .i64 x.s.win) := fun q => q.cellAt hdf (HDF.cell 2);have T3 : ∀ q : BW we.heap.size we, q.1.cell? ⟨d, 3, none⟩ = some (.int .i64 x.s.out) := fun q => q.cellAt hdf (HDF.cell 3);have T4 : ∀ q : BW we.heap.size we, q.1.cell? ⟨d, 4, none⟩ = some (.int .i64 x.s.quan) := fun q => q.cellAt hdf (HDF.cell 4);have T5 : ∀ q : BW we.heap.size we, q.1.cell? ⟨d, 5, none⟩ = some (.int .i64 x.s.vis) := fun q => q.cellAt hdf (HDF.cell 5);have T17 : ∀ q : BW we.heap.size we, q.1.cell? ⟨d, 17, none⟩ = some (.pointer (some ⟨gh, 0, none⟩)) := fun q => q.cellAt hdf (HDF.cell 17);have TK : ∀ q : BW we.heap.size we, q.1.cell? ⟨g4, 0, none⟩ = some (.int .i64 k) := fun q => q.cellAt hof (HOF.cell 0);obtain ⟨bs, ps, PP, -, hh, -⟩ := HDF.hold;have hsn : x.seen ≤ x.S.length := fm
   have hsw : x.S.length ≤ x.s.win.toNat := by obtain ⟨h0, h1, h2, h3, h4, h5, -⟩ := hh; exact h5
   have CF := hid (fun W (hb : Below we.heap.size we W) => Zak bs gh x.s.win.toNat x.seen F2 x.S ps PP W (hh.below hb));have hcf : (x.S.length : Int) - (x.seen : Int) = ((x.S.length - x.seen : Nat) : Int) := aa
   rw [hcf] at CF;have HFR : Hid (x.S.length - x.seen ≤ 100000) := by have := HBD.out; rw [Hid]; omega
   obtain ⟨fr, hfr⟩ := nE (x.S.length - x.seen);rw [hfr] at CF HFR HP;have CQ2 : Hid (∀ W, Calls Tryz.prog 84 #[.agg #[x.s.live, x.s.ring, x.s.win, x.s.out, x.s.quan, x.s.vis], k, (fr : Int), (rl : Int)] W fun e w' => e = .returned ((Mu x.s.win.toNat x.s.out.toNat k fr rl : Nat) : Int) ∧ Below W.heap.size W w') := fun W => CQ.out k fr rl W HFR.out HWT.out;rw [← HP.out] at CQ2;clear hh hsn hsw hcf hfr hdf hof HP CQ;refine Zg we.heap.size [] (.val 0 (.val 1 (.val 2 (.val 3 (.val 4 (.val 5 (.val 6 (.val 7 (.val 8 (.val 9 (.val 11 (.op 10 (.op 12 (.val 13 (.nil))))))))))))))) ab ab ?_;obtain ⟨wx, hwx, HBW⟩ := dw we;exact N29
 ·have CR := hid (Gn h hs)
  have HP : Hid (x.price = 0) := by unfold Zd.price; exact if_neg hs
  obtain ⟨P, hP⟩ := nE (x.price);rw [hP] at HP ⊢;clear hs h hP hpt;go_enter Tryz.func48, Tryz.ntmps48;go_wp2_with fail;refine CR.mono ?_;rintro en w1 ⟨rfl, rfl⟩;go_wp2_with fail;go_ret;rw [HP.out];exact ⟨rfl, Below.refl _ _⟩
end
section
variable {B d gi gb gh gp c : Nat} {F F2 : Nat → Prop} {w0 w w' : World} {A : Option Addr} {x : Zd}
theorem Zr.turnL {bs : Nat} {L : Zh6} {ps : List ByteArray} {P : Option (List (List Zn))} (h : Zr B F w0 w d gi gb gh gp F2 A c x) (hk : Za (fun k => F2 k ∨ RgF gi gb k) w w') (hbs : bs ≤ w'.heap.size)
  (hh : Yo bs (Fup F2 w w') w' gh x.s.win.toNat L.S L.seen ps P) (hP : P.getD [] = x.P) (hr : Rg w' gi gb x.s.ring.toNat L.R) :
  Zr B (Fup F w w') w0 w' d gi gb gh gp (Fup F2 w w') A c (x.looked L) := by
 have hdl := h.lt;have hil := (h.fin _ h.fd.2.1).2;have hbl := (h.fin _ h.fd.2.2.1).2;have hpl := (h.fin _ h.fd.2.2.2.1).2;have hf2 := h.f2;obtain ⟨h1, h2, h3, h4, h5, h6, h7, h8, h9, h10, h11, h12⟩ := h;obtain ⟨n1, n2, n3, n4, n5, n6, n7, n8, n9, n10⟩ := h9;obtain ⟨o1, o2, o3, o4, o5, o6, o7, o8, o9, o10⟩ := h12
 have nf : ∀ k, k < w.heap.size → ¬ F2 k → ¬ Fup F2 w w' k := by
  rintro k hk1 hk2 (hk3 | hk3)
  ·exact hk2 hk3
  ·omega
 refine ⟨hk.blk h1 (fun e => e.elim n7 (fun e => e.elim n1 n2)), hr, ⟨bs, ps, P, hbs, hh, hP⟩, h4.keep hk (fun e => e.elim n10 (fun e => e.elim (fun e => n4 e.symm) (fun e => n5 e.symm))), h5, ?_, ⟨h7.1, Nat.le_trans h7.2 hk.size⟩, ⟨.inl h8.1, .inl h8.2.1, .inl h8.2.2.1, .inl h8.2.2.2.1, ?_⟩, ⟨n1, n2, n3, n4, n5, n6, nf _ hdl n7, nf _ hil n8, nf _ hbl n9, nf _ hpl n10⟩, ?_, h11, ⟨o1, o2, o3, o4, o5, o6, o7, o8, o9, o10⟩⟩
 ·refine h6.trans (hk.below h6.size ?_)
  rintro k (hf | e | e)
  ·exact Nat.le_trans h7.1 (hf2 k hf).1
  ·rw [e]; exact Nat.le_trans h7.1 (h10 gi h8.2.1).1
  ·rw [e]; exact Nat.le_trans h7.1 (h10 gb h8.2.2.1).1
 ·rintro k (hf | hf)
  ·exact .inl (h8.2.2.2.2 k hf)
  ·exact .inr hf
 ·exact N105
theorem Zr.looks (h : Zr B F w0 w d gi gb gh gp F2 A c x) : Calls Tryz.prog 152 #[.pointer (some ⟨gh, 0, none⟩), .pointer (some ⟨gi, 0, none⟩)] w fun e w' =>
  e = .returned (Jn (Vt x.s.win.toNat x.P x.S x.seen x.R).mtch (Vt x.s.win.toNat x.P x.S x.seen x.R).full (Vt x.s.win.toNat x.P x.S x.seen x.R).arm (Vt x.s.win.toNat x.P x.S x.seen x.R).gone (Vt x.s.win.toNat x.P x.S x.seen x.R).read) ∧
   Zr B (Fup F w w') w0 w' d gi gb gh gp (Fup F2 w w') A c (x.looked (Vt x.s.win.toNat x.P x.S x.seen x.R)) ∧ Za F w w' := by
 obtain ⟨bs, ps, P, hbs, hh, hP⟩ := h.hold;have hl := Zlh bs gh x.s.win.toNat x.seen gi gb x.s.ring.toNat F2 x.S x.R ps P w hh h.ring (fun k hf e => e.elim (fun e => h.ne.2.2.2.2.2.2.2.1 (e ▸ hf)) (fun e => h.ne.2.2.2.2.2.2.2.2.1 (e ▸ hf))) (fun k hf => (h.f2 k hf).2) hbs;rw [hP] at hl;refine hl.mono (fun e w' hc => ⟨hc.1, h.turnL hc.2.2.2 (Nat.le_trans hbs hc.2.2.2.size) hc.2.1 hP hc.2.2.1, hc.2.2.2.mono ?_⟩);rintro k - (hf | e | e)
 ·exact h.fd.2.2.2.2 k hf
 ·rw [e]; exact h.fd.2.1
 ·rw [e]; exact h.fd.2.2.1
end
theorem Zo5 (ds : List Bool) (h : ds.any id = true) : Wq ds < ds.length := by
 rw [Wq, if_pos h];obtain ⟨b, hb, hb2⟩ := List.any_eq_true.1 h;exact List.findIdx_lt_length_of_exists ⟨b, hb, hb2⟩
theorem Zlc (win : Nat) (ls : List (List Zn)) (hd : ∀ S n, (dsM ls S n).length = ls.length) : ∀ n S seen R rd, (Wh win ls n S seen R rd).mtch = true → (Wh win ls n S seen R rd).arm < ls.length := by
 intro n
 induction n with
 | zero => intro S seen R rd h; cases h
 | succ n ih =>
  intro S seen R rd;rw [Wh];split
  ·intro h; cases h
  ·split
   ·intro h; cases h
   ·by_cases h1 : (dsM ls (if seen = S.length then S ++ R.take 1 else S) (seen + 1)).any id = true
    ·rw [if_pos h1]; intro _
     have := Zo5 _ h1;rw [hd] at this;exact this
    ·rw [if_neg h1]; exact ih _ _ _ _
theorem Zlt (ls : List (List Zn)) (S : List UInt8) (n : Nat) : (dsM ls S n).length = ls.length := by
 unfold dsM; simp
theorem Zio (win : Nat) (ls : List (List Zn)) (S : List UInt8) (seen : Nat) (R : List UInt8) (h : (Vt win ls S seen R).mtch = true) : (Vt win ls S seen R).arm < ls.length :=
 Zlc win ls (Zlt ls) _ _ _ _ _ h
end Go.Proofs.YtpkkfdmhbbipoaaGreat
