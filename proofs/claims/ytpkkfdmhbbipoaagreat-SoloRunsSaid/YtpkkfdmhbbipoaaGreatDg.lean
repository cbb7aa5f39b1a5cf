/- Walks: package dial: send. Walks: ring.Room; package dial: Room, and a dialogue that is none. Walks: package dial: Price. Walks: package dial: a step of a dialogue that is none. A dialogue whose window looked. Plain: the arm that a look tells is one of those there are. -/
import Derived.Test.YtpkkfdmhbbipoaaGreatDf
namespace Go.Proofs.YtpkkfdmhbbipoaaGreat
set_option maxRecDepth 20000
set_option maxHeartbeats 4000000
open Go.RowKit PopT
theorem Zj4 (w : World) (a b : Obj) (t : TypeId) (cs : Array Value) : Blk (((w.alloc a).alloc b).alloc (.cells cs t)) (w.heap.size + 2) t cs := by
 have := Blk.new ((w.alloc a).alloc b) t cs;simpa using this
section
variable {B d gi gb gh gp c : Nat} {F F2 : Nat → Prop} {w0 w w' : World} {A : Option Addr} {x : Zf}
theorem Zrg {G : Nat → Prop} {wa wv w1 w2 : World} (hF : ∀ k, F k → B ≤ k ∧ k < w.heap.size) (hB : B ≤ w.heap.size) (hba : Below w.heap.size w wa) (hka : Za (fun k => F k ∨ w.heap.size ≤ k) wa wv) (h1 : Zl B (Fup F wv w1) w0 w1 d x) (hk1 : Za F wv w1) (hk2 : Za G w1 w2)
  (hG : ∀ k, G k → w.heap.size ≤ k ∧ k < wa.heap.size) : Zl B (Fup F w w2) w0 w2 d x ∧ Za F w w2 := by
 have s1 := hba.size;have s2 := hka.size;refine ⟨h1.wrap hF hB (Nat.le_trans s1 s2) hk2 (fun k hk => ⟨(hG k hk).1, Nat.lt_of_lt_of_le (hG k hk).2 s2⟩), ?_⟩;exact ((((Za.of_below (F := F) hba).trans hka (fun k h => h)).trans hk1 (fun _ h => .inl h)).trans hk2 (fun k hk => .inr (hG k hk).1))
theorem Zr.at (h : Zr B F w0 w d gi gb gh gp F2 A c x) : Zl B F w0 w d x := ⟨gi, gb, gh, gp, F2, A, c, h⟩
theorem Zl.up {w1 : World} (h : Zl B F w0 w1 d x) (hF : ∀ k, F k → B ≤ k ∧ k < w.heap.size) (hB : B ≤ w.heap.size) (hs : w.heap.size ≤ w1.heap.size) : Zl B (Fup F w w1) w0 w1 d x :=
 h.mono (fun k hk => .inl hk) (by rintro k (hk | hk); exact ⟨(hF k hk).1, by have := (hF k hk).2; omega⟩; exact ⟨aa, hk.2⟩)
theorem Znz (h : Zr B F w0 w d gi gb gh gp F2 A c x) (v : Qa) (ov : Value) (hk : x.op.kind = 1) (hov : ∃ Av cv, ov = .slice Av x.op.arms.length cv) : Calls Tryz.prog 113 #[.pointer (some ⟨d, 0, none⟩), v.val, x.op.val ov] w fun e w' => e = .returned (Qa.val ⟨v.tick, v.loc, x.send.2.1, v.arm, x.send.2.2.2, v.st⟩) ∧ Zl B (Fup F w w') w0 w' d x.send.1 ∧ Za F w w' := by
 obtain ⟨vt, vl, vw, va, vn, vs⟩ := v;unfold Qa.val;have HD := hid h;have HF : Hid (∀ k, F k → B ≤ k ∧ k < w.heap.size) := h.fin;have HB : Hid (B ≤ w.heap.size) := h.base.2;have HLT : Hid (x.loc < x.p.ops.length) := Mv x aa;have HTX : Hid (x.op.text.size ≤ 9223372036854775807) := Zmb x h.ok;have HSE : Hid (x.send = if x.pd.laid < x.pd.text.size then (x.lays, 5, 0, x.pd.loadN) else (x.come (x.loc + 1), 6, 0, x.op.text.size)) := rfl;obtain ⟨R, hR⟩ := nE (x.send);rw [hR] at HSE ⊢;obtain ⟨Av, cv, rfl⟩ := hov;obtain ⟨na, hna⟩ := nE (x.op.arms.length);rw [hna];obtain ⟨o, ho⟩ := nE (x.op);rw [ho] at HTX HSE ⊢;obtain ⟨k, tx, nn, tj, arms, oT, oE⟩ := o;unfold OpV.val;simp only at HTX HSE ⊢;obtain ⟨ov, hov⟩ := nE (Value.slice Av na cv);have HOV := hid hov;obtain ⟨wa, hwa⟩ := nE (((w.alloc (.cells #[vt, (vl : Int), (vw : Int), (va : Int), (vn : Int), (vs : Int)] 51)).alloc (.cells #[k, tx, nn, tj, .slice Av na cv, oT, oE] 56)).alloc (.cells zs 51));have HBA : Hid (Below w.heap.size w wa) := hwa ▸ Qq _ _ _ _;have HXA : Hid (Blk wa w.heap.size 51 #[vt, (vl : Int), (vw : Int), (va : Int), (vn : Int), (vs : Int)]) := hwa ▸ ((Blk.new w _ _).alloc _).alloc _;have HOA : Hid (Blk wa (w.heap.size + 1) 56 #[k, tx, nn, tj, .slice Av na cv, oT, oE]) := hwa ▸ (Gz _ _ _ _).alloc _;have HRA : Hid (Blk wa (w.heap.size + 2) 51 zs) := hwa ▸ Zj4 _ _ _ _ _;have HWA := hid hwa;have HDA := hid (h.below HBA.out);clear hwa h hk hR ho hna hov;obtain ⟨gx, hgx⟩ := nE (w.heap.size);have HGX := hid hgx;rw [hgx] at HXA HOA HRA;clear hgx;go_enter Tryz.func113, Tryz.ntmps113;go_upto_region 1 with fail;rw [HWA.out, HGX.out];obtain ⟨go, hgo⟩ := nE (gx + 1);rw [hgo];obtain ⟨gr, hgr⟩ := nE (go + 1);rw [hgr];have hgr2 : gx + 2 = gr := aa
 rw [hgo] at HOA;rw [hgr2] at HRA;have HG : Hid (w.heap.size = gx ∧ gx + 1 = go ∧ go + 1 = gr ∧ gr < wa.heap.size) := ⟨HGX.out, hgo, hgr, HRA.lt⟩;have HFX : Hid (∀ k, F k → k < gx) := fun k hk => by have := HF.out k hk; have := HG.1; omega
 clear hgo hgr hgr2 HGX HWA;have d18 : wa.cell? ⟨d, 18, none⟩ = some (.pointer (some ⟨gp, 0, none⟩)) := HDA.cell 18;have hdl := HDA.lt;have CR := hid (Zkx gp x.pd wa HDA.pend);obtain ⟨rt, hrt⟩ := nE ((x.pd.text.size : Int) - (x.pd.laid : Int));rw [hrt] at CR;go_wp2_with fail;refine CR.mono ?_;rintro en wb ⟨rfl, hb⟩;have HB1 := hid hb;have HDB := hid (HDA.below hb);have HXB := bb HXA hb;have HOB := bb HOA hb;have HRB := bb HRA hb;clear hb CR d18 hdl;have d18 : wb.cell? ⟨d, 18, none⟩ = some (.pointer (some ⟨gp, 0, none⟩)) := HDB.cell 18;have hdl := HDB.lt;by_cases h0 : 0 < rt
 ·have HR : Hid (R = (x.lays, 5, 0, x.pd.loadN)) := by rw [Hid, HSE.out, if_pos aa]
  have CL := hid (Zky gp x.pd wb HDB.pend);obtain ⟨ln, hln⟩ := nE (x.pd.loadN);rw [hln] at HR CL;clear hrt hln HSE;go_wp2_with fail;refine CL.mono ?_;rintro en wc ⟨rfl, hp1, hk1⟩;have HDC : Hid (Zr B F w0 wc d gi gb gh gp F2 A c x.lays) := HDB.turnP hk1 hp1 rfl;have hgp := HFX.out _ HD.fd.2.2.2.1;have HXC := hid (hk1.blk HXB.out (fun (e : gx = gp) => aa));have HRC := hid (hk1.blk HRB.out (fun (e : gr = gp) => ai));have HKC : Hid (Za F wa wc) := (Za.of_below (F := F) HB1.out).trans (hk1.mono (fun k _ (e : k = gp) => by rw [e]; exact HD.fd.2.2.2.1) : Za F wb wc) (fun _ h => .inl h);clear hp1 hk1 CL d18 hdl hgp HXB HOB HRB;have c2 := HXC.cell 2;have c4 := HXC.cell 4;have y2 := HXC.frozen 2; have y4 := HXC.frozen 4;have hxl := HXC.lt;simp only [List.getElem?_toArray, List.getElem?_cons_zero, List.getElem?_cons_succ] at c2 c4;go_upto_region 3 with fail;obtain ⟨wv, hwv⟩ := nE ((wc.setCell ⟨gx, 2, none⟩ (.int .i64 5)).setCell ⟨gx, 4, none⟩ (.int .i64 (ln : Int)));have HXV : Hid (Blk wv gx 51 #[vt, (vl : Int), .int .i64 5, (va : Int), (ln : Int), (vs : Int)]) := hwv ▸ (HXC.set 2 _).set 4 _;have HKV : Hid (Za (fun k => k = gx) wc wv) := hwv ▸ (Zy _ _ _ _).trans (Zy _ _ _ _) (fun _ h => .inl h);rw [hwv];clear hwv c2 c4 y2 y4 hxl;have HRV := hid (HKV.blk HRC.out (fun (e : gr = gx) => ai));obtain ⟨x0, x1, x2, x3, x4, x5⟩ := Yk HXV.out;obtain ⟨r0, r1, r2, r3, r4, r5⟩ := Yk HRV.out;have f0 := HRV.frozen 0; have f1 := HRV.frozen 1; have f2 := HRV.frozen 2; have f3 := HRV.frozen 3; have f4 := HRV.frozen 4; have f5 := HRV.frozen 5;have hlx := HXV.lt; have hlr := HRV.lt;go_wp2_with fail;obtain ⟨wz, hwz⟩ := nE (Yw wv gr (.int .i64 vt) (.int .i64 (vl : Int)) (.int .i64 5) (.int .i64 (va : Int)) (.int .i64 (ln : Int)) (.int .i64 (vs : Int)));have KZ : Za (fun k => k = gr) wv wz := hwz ▸ Yg _ _ _ _ _ _ _ _;have BZ := Yr HRV.out (.int .i64 vt) (.int .i64 (vl : Int)) (.int .i64 5) (.int .i64 (va : Int)) (.int .i64 (ln : Int)) (.int .i64 (vs : Int));rw [hwz] at BZ;unfold Yw at hwz;rw [hwz];clear hwz;obtain ⟨t0, t1, t2, t3, t4, t5⟩ := Yk BZ
  have hf := Zrg (G := fun k => k = gx ∨ k = gr) HF.out HB.out HBA.out (HKC.mono (fun k _ h => .inl h)) (Zl.up (w := wc) HDC.at HDC.fin HDC.base.2 (Nat.le_refl _)) (Za.refl F wc)
   ((HKV.mono (fun k _ h => .inl h) : Za (fun k => k = gx ∨ k = gr) wc wv).trans KZ (fun k h => .inl (.inr h))) (fun k hk => by have := HG.out; rcases hk with hk | hk <;> omega)
  refine bodyPost_ret (v := .agg #[vt, (vl : Int), .int .i64 5, (va : Int), (ln : Int), (vs : Int)]) kw rfl ⟨?_, ?_, hf.2⟩
  ·rw [HR.out]; try rfl
  ·rw [HR.out]; exact hf.1
 have HR : Hid (R = (x.come (x.loc + 1), 6, 0, tx.size)) := by rw [Hid, HSE.out, if_neg aa]
 obtain ⟨lo, hlo⟩ := nE (x.loc);obtain ⟨ts, hts⟩ := nE (tx.size);have HLO := hid hlo;have HTS := hid hts;have hlo2 : (lo : Int) ≤ 1000 := by have := (Vc _ HD.ok.pgood).1; have := HLT.out; omega
 rw [hts] at HR;clear hrt HSE d18 hdl hlo hts;go_upto_region 4 with fail;refine Zg wb.heap.size [4, 6] (.val 0 (.val 3 (.two 1 (.val 2 (.op 4 (.val 5 (.op 6 (.nil))))) 4 (.op 1 (.val 2 (.val 5 (.op 6 (.nil)))))))) ab ab ?_;obtain ⟨wx, hwx, HBW⟩ := dw wb;rw [hwx];clear hwx;have HDX := hid (HDB.below HBW.out);have HXX := bb HXB HBW;have HOX := bb HOB HBW;have HRX := bb HRB HBW;have o1 := cA HOX.out 1 tx rfl;have e2 := cA HXX.out 2 (vw : Int) rfl;have ef2 := HXX.frozen 2;have hxl := HXX.lt; have hol := HOX.lt
 iterate 2 (refine Zd rfl rfl ?_; go_big_quiet_step (fail); refine wpQuiet_nil ?_)
 focus
  refine Vg rfl rfl ?_ ?_
  focus
   skip
   go_wp2_with fail;refine KT.same ?_;refine Zd rfl rfl ?_
   go_big_quiet_step (fail)
   refine wpQuiet_nil ?_;refine Ze rfl ?_;go_wp2_with fail;obtain ⟨wA, hwA⟩ := nE (wx.setCell ⟨gx, 2, none⟩ (.int .i64 6));have HXY : Hid (Blk wA gx 51 #[vt, (vl : Int), .int .i64 6, (va : Int), (vn : Int), (vs : Int)]) := hwA ▸ HXX.set 2 _;have HKY : Hid (Za (fun k => k = gx) wx wA) := hwA ▸ Zy _ _ _ _;rw [hwA];clear hwA;have HOY := hid (HKY.blk HOX.out (fun (e : go = gx) => ai));have a1 := cA HOY.out 1 tx rfl;have e4 := cA HXY.out 4 (vn : Int) rfl;have ef4 := HXY.frozen 4;have hyl := HXY.lt; have hoyl := HOY.lt;refine KT.past rfl ?_
  rotate_left 1
  focus
   skip
   go_wp2_with fail;obtain ⟨wA, hwA⟩ := nE (wx.setCell ⟨gx, 2, none⟩ (.int .i64 6));have HXY : Hid (Blk wA gx 51 #[vt, (vl : Int), .int .i64 6, (va : Int), (vn : Int), (vs : Int)]) := hwA ▸ HXX.set 2 _;have HKY : Hid (Za (fun k => k = gx) wx wA) := hwA ▸ Zy _ _ _ _;rw [hwA];clear hwA;have HOY := hid (HKY.blk HOX.out (fun (e : go = gx) => ai));have a1 := cA HOY.out 1 tx rfl;have e4 := cA HXY.out 4 (vn : Int) rfl;have ef4 := HXY.frozen 4;have hyl := HXY.lt; have hoyl := HOY.lt;refine KT.past rfl ?_;refine Ze rfl ?_;go_wp2_with fail;refine KT.same ?_;refine Zd rfl rfl ?_
   go_big_quiet_step (fail)
   refine wpQuiet_nil ?_
  all_goals
   refine Zd rfl rfl ?_
   go_big_quiet_step (fail)
   refine wpQuiet_nil ?_;refine Ze rfl ?_;go_wp2_with fail
   try rw [HTS.out]
   obtain ⟨wv, hwv⟩ := nE (wA.setCell ⟨gx, 4, none⟩ (.int .i64 (ts : Int)));have HXV : Hid (Blk wv gx 51 #[vt, (vl : Int), .int .i64 6, (va : Int), (ts : Int), (vs : Int)]) := hwv ▸ HXY.set 4 _;have HKV : Hid (Za (fun k => k = gx) wx wv) := hwv ▸ HKY.trans (Zy _ _ _ _) (fun _ h => .inl h);rw [hwv];clear hwv o1 e2 ef2 hxl hol a1 e4 ef4 hyl hoyl;refine KT.past rfl ?_;refine Zi ?_;have HDV : Hid (Zr B F w0 wv d gi gb gh gp F2 A c x) := HDX.keep HKV.out (fun k hk (e : k = gx) => by have := HFX.out k hk; omega) (fun k (e : k = gx) => by have := HB.out; have := HG.out; omega);have HRW := hid (HKV.blk HRX.out (fun (e : gr = gx) => ai));have c10 : wv.cell? ⟨d, 10, none⟩ = some (.int .i64 (lo : Int)) := by rw [← HLO.out]; exact HDV.cell 10
   have hdv := HDV.lt;have cc := Za7 HDV.out (x.loc + 1) HLT.out;have ecc : ((x.loc + 1 : Nat) : Int) = (lo : Int) + 1 := by rw [HLO.out]; simp
   rw [ecc] at cc;have CC := hid cc;clear cc ecc;go_wp2_with fail;refine CC.mono ?_;rintro en w1 ⟨rfl, hd1, hk1⟩;have HD1 := hid hd1; have HK1 := hid hk1;have HX1 := hid (hk1.blk HXV.out (fun hf => by have := HFX.out _ hf; omega));have HRV := hid (hk1.blk HRW.out (fun hf => cx));clear hd1 hk1 CC c10 hdv;obtain ⟨x0, x1, x2, x3, x4, x5⟩ := Yk HX1.out;obtain ⟨r0, r1, r2, r3, r4, r5⟩ := Yk HRV.out;have f0 := HRV.frozen 0; have f1 := HRV.frozen 1; have f2 := HRV.frozen 2; have f3 := HRV.frozen 3; have f4 := HRV.frozen 4; have f5 := HRV.frozen 5;have hlx := HX1.lt; have hlr := HRV.lt;go_wp2_with fail;obtain ⟨wz, hwz⟩ := nE (Yw w1 gr (.int .i64 vt) (.int .i64 (vl : Int)) (.int .i64 6) (.int .i64 (va : Int)) (.int .i64 (ts : Int)) (.int .i64 (vs : Int)));have KZ : Za (fun k => k = gr) w1 wz := hwz ▸ Yg _ _ _ _ _ _ _ _;have BZ := Yr HRV.out (.int .i64 vt) (.int .i64 (vl : Int)) (.int .i64 6) (.int .i64 (va : Int)) (.int .i64 (ts : Int)) (.int .i64 (vs : Int));rw [hwz] at BZ;unfold Yw at hwz;rw [hwz];clear hwz;obtain ⟨t0, t1, t2, t3, t4, t5⟩ := Yk BZ;have hf := Zrg (G := fun k => k = gr) HF.out HB.out HBA.out ((Za.of_below (F := fun k => F k ∨ w.heap.size ≤ k) (HB1.trans (HBW.mono HB1.size))).trans HKV.out (fun k (e : k = gx) => .inl (.inr bu))) HD1.out HK1.out KZ (fun k (hk : k = gr) => ai);refine bodyPost_ret (v := .agg #[vt, (vl : Int), .int .i64 6, (va : Int), (ts : Int), (vs : Int)]) kw rfl ⟨?_, ?_, hf.2⟩
   ·rw [HR.out]; try rfl
   ·rw [HR.out]; exact hf.1
end
section
variable {B d gi gb gh gp c : Nat} {F F2 : Nat → Prop} {w0 w w' : World} {A : Option Addr} {x : Zf}
end
section
variable {B d gi gb gh gp c : Nat} {F F2 : Nat → Prop} {w0 w w' : World} {A : Option Addr} {x : Zf}
end
section
variable {B d gi gb gh gp c : Nat} {F F2 : Nat → Prop} {w0 w w' : World} {A : Option Addr} {x : Zf}
theorem Zr.turnL {bs : Nat} {L : Zic} {ps : List ByteArray} {P : Option (List (List Zm))} (h : Zr B F w0 w d gi gb gh gp F2 A c x) (hk : Za (fun k => F2 k ∨ RgF gi gb k) w w') (hbs : bs ≤ w'.heap.size)
  (hh : Yq bs (Fup F2 w w') w' gh x.s.win.toNat L.S L.seen ps P) (hP : P.getD [] = x.P) (hr : Rg w' gi gb x.s.ring.toNat L.R) :
  Zr B (Fup F w w') w0 w' d gi gb gh gp (Fup F2 w w') A c (x.looked L) := by
 have hdl := h.lt;have hil := (h.fin _ h.fd.2.1).2;have hbl := (h.fin _ h.fd.2.2.1).2;have hpl := (h.fin _ h.fd.2.2.2.1).2;have hf2 := h.f2;obtain ⟨h1, h2, h3, h4, h5, h6, h7, h8, h9, h10, h11, h12⟩ := h;obtain ⟨n1, n2, n3, n4, n5, n6, n7, n8, n9, n10⟩ := h9;obtain ⟨o1, o2, o3, o4, o5, o6, o7, o8, o9, o10⟩ := h12
 have nf : ∀ k, k < w.heap.size → ¬ F2 k → ¬ Fup F2 w w' k := by
  rintro k hk1 hk2 (hk3 | hk3)
  ·exact hk2 hk3
  ·omega
 refine ⟨hk.blk h1 (fun e => e.elim n7 (fun e => e.elim n1 n2)), hr, ⟨bs, ps, P, hbs, hh, hP⟩, h4.keep hk (fun e => e.elim n10 (fun e => e.elim (fun e => n4 e.symm) (fun e => n5 e.symm))), h5, ?_, ⟨h7.1, Nat.le_trans h7.2 hk.size⟩, ⟨.inl h8.1, .inl h8.2.1, .inl h8.2.2.1, .inl h8.2.2.2.1, ?_⟩, ⟨n1, n2, n3, n4, n5, n6, nf _ hdl n7, nf _ hil n8, nf _ hbl n9, nf _ hpl n10⟩, ?_, h11, ⟨o1, o2, o3, o4, o5, o6, o7, o8, o9, o10⟩⟩
 ·refine h6.trans (hk.below h6.size ?_)
  rintro k (hf | e | e)
  ·exact Nat.le_trans h7.1 (hf2 k hf).1
  ·rw [e]; exact Nat.le_trans h7.1 (h10 gi h8.2.1).1
  ·rw [e]; exact Nat.le_trans h7.1 (h10 gb h8.2.2.1).1
 ·rintro k (hf | hf)
  ·exact .inl (h8.2.2.2.2 k hf)
  ·exact .inr hf
 ·exact N106
theorem Zr.looks (h : Zr B F w0 w d gi gb gh gp F2 A c x) : Calls Tryz.prog 152 #[.pointer (some ⟨gh, 0, none⟩), .pointer (some ⟨gi, 0, none⟩)] w fun e w' =>
  e = .returned (Jp (Vu x.s.win.toNat x.P x.S x.seen x.R).mtch (Vu x.s.win.toNat x.P x.S x.seen x.R).full (Vu x.s.win.toNat x.P x.S x.seen x.R).arm (Vu x.s.win.toNat x.P x.S x.seen x.R).gone (Vu x.s.win.toNat x.P x.S x.seen x.R).read) ∧
   Zr B (Fup F w w') w0 w' d gi gb gh gp (Fup F2 w w') A c (x.looked (Vu x.s.win.toNat x.P x.S x.seen x.R)) ∧ Za F w w' := by
 obtain ⟨bs, ps, P, hbs, hh, hP⟩ := h.hold;have hl := Zle bs gh x.s.win.toNat x.seen gi gb x.s.ring.toNat F2 x.S x.R ps P w hh h.ring (fun k hf e => e.elim (fun e => h.ne.2.2.2.2.2.2.2.1 (e ▸ hf)) (fun e => h.ne.2.2.2.2.2.2.2.2.1 (e ▸ hf))) (fun k hf => (h.f2 k hf).2) hbs;rw [hP] at hl;refine hl.mono (fun e w' hc => ⟨hc.1, h.turnL hc.2.2.2 (Nat.le_trans hbs hc.2.2.2.size) hc.2.1 hP hc.2.2.1, hc.2.2.2.mono ?_⟩);rintro k - (hf | e | e)
 ·exact h.fd.2.2.2.2 k hf
 ·rw [e]; exact h.fd.2.1
 ·rw [e]; exact h.fd.2.2.1
end
theorem Zoo (ds : List Bool) (h : ds.any id = true) : Wr ds < ds.length := by
 rw [Wr, if_pos h];obtain ⟨b, hb, hb2⟩ := List.any_eq_true.1 h;exact List.findIdx_lt_length_of_exists ⟨b, hb, hb2⟩
theorem Zk9 (win : Nat) (ls : List (List Zm)) (hd : ∀ S n, (dsM ls S n).length = ls.length) : ∀ n S seen R rd, (Wl win ls n S seen R rd).mtch = true → (Wl win ls n S seen R rd).arm < ls.length := by
 intro n
 induction n with
 | zero => intro S seen R rd h; cases h
 | succ n ih =>
  intro S seen R rd;rw [Wl];split
  ·intro h; cases h
  ·split
   ·intro h; cases h
   ·by_cases h1 : (dsM ls (if seen = S.length then S ++ R.take 1 else S) (seen + 1)).any id = true
    ·rw [if_pos h1]; intro _
     have := Zoo _ h1;rw [hd] at this;exact this
    ·rw [if_neg h1]; exact ih _ _ _ _
theorem Zlp (ls : List (List Zm)) (S : List UInt8) (n : Nat) : (dsM ls S n).length = ls.length := by
 unfold dsM; simp
theorem Zit (win : Nat) (ls : List (List Zm)) (S : List UInt8) (seen : Nat) (R : List UInt8) (h : (Vu win ls S seen R).mtch = true) : (Vu win ls S seen R).arm < ls.length :=
 Zk9 win ls (Zlp ls) _ _ _ _ _ h
end Go.Proofs.YtpkkfdmhbbipoaaGreat
