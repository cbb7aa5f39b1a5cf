/- Walks: package dial: send. Walks: ring.Room; package dial: Room, and a dialogue that is none. Walks: package dial: Price. Walks: package dial: a step of a dialogue that is none. A dialogue whose window looked. Plain: the arm that a look tells is one of those there are. -/
import Derived.Test.YtpkkfdmhbbipoaaGreatDf
namespace Go.Proofs.YtpkkfdmhbbipoaaGreat
open Go.RowKit PopT
theorem new3 (w : World) (a b : Obj) (t : TypeId) (cs : Array Value) : Blk (((w.alloc a).alloc b).alloc (.cells cs t)) (w.heap.size + 2) t cs := by
 have := Blk.new ((w.alloc a).alloc b) t cs
 simpa using this
section
variable {B d gi gb gh gp c : Nat} {F F2 : Nat → Prop} {w0 w w' : World} {A : Option Addr} {x : DialV}
theorem tailD {G : Nat → Prop} {wa wv w1 w2 : World} (hF : ∀ k, F k → B ≤ k ∧ k < w.heap.size) (hB : B ≤ w.heap.size) (hba : Below w.heap.size w wa) (hka : Keep (fun k => F k ∨ w.heap.size ≤ k) wa wv) (h1 : DialAt B (Fup F wv w1) w0 w1 d x) (hk1 : Keep F wv w1) (hk2 : Keep G w1 w2)
  (hG : ∀ k, G k → w.heap.size ≤ k ∧ k < wa.heap.size) : DialAt B (Fup F w w2) w0 w2 d x ∧ Keep F w w2 := by
 have s1 := hba.size
 have s2 := hka.size
 refine ⟨h1.wrap hF hB (Nat.le_trans s1 s2) hk2 (fun k hk => ⟨(hG k hk).1, Nat.lt_of_lt_of_le (hG k hk).2 s2⟩), ?_⟩
 exact ((((Keep.of_below (F := F) hba).trans hka (fun k h => h)).trans hk1 (fun _ h => .inl h)).trans hk2 (fun k hk => .inr (hG k hk).1))
theorem DialIn.at (h : DialIn B F w0 w d gi gb gh gp F2 A c x) : DialAt B F w0 w d x := ⟨gi, gb, gh, gp, F2, A, c, h⟩
theorem DialAt.up {w1 : World} (h : DialAt B F w0 w1 d x) (hF : ∀ k, F k → B ≤ k ∧ k < w.heap.size) (hB : B ≤ w.heap.size) (hs : w.heap.size ≤ w1.heap.size) : DialAt B (Fup F w w1) w0 w1 d x :=
 h.mono (fun k hk => .inl hk) (by rintro k (hk | hk); exact ⟨(hF k hk).1, by have := (hF k hk).2; omega⟩; exact ⟨by omega, hk.2⟩)
set_option maxRecDepth 20000 in
set_option maxHeartbeats 4000000 in
theorem dSend_any (h : DialIn B F w0 w d gi gb gh gp F2 A c x) (v : StepV) (ov : Value) (hk : x.op.kind = 1) (hov : ∃ Av cv, ov = .slice Av x.op.arms.length cv) : Calls Tryz.prog 113 #[.pointer (some ⟨d, 0, none⟩), v.val, x.op.val ov] w fun e w' => e = .returned (StepV.val ⟨v.tick, v.loc, x.send.2.1, v.arm, x.send.2.2.2, v.st⟩) ∧ DialAt B (Fup F w w') w0 w' d x.send.1 ∧ Keep F w w' := by
 obtain ⟨vt, vl, vw, va, vn, vs⟩ := v
 unfold StepV.val
 have HD := hid h
 have HF : Hid (∀ k, F k → B ≤ k ∧ k < w.heap.size) := h.fin
 have HB : Hid (B ≤ w.heap.size) := h.base.2
 have HLT : Hid (x.loc < x.p.ops.length) := op_lt x (by omega)
 have HTX : Hid (x.op.text.size ≤ 9223372036854775807) := op_text x h.ok
 have HSE : Hid (x.send = if x.pd.laid < x.pd.text.size then (x.lays, 5, 0, x.pd.loadN) else (x.come (x.loc + 1), 6, 0, x.op.text.size)) := rfl
 obtain ⟨R, hR⟩ : ∃ y, x.send = y := ⟨_, rfl⟩
 rw [hR] at HSE ⊢
 obtain ⟨Av, cv, rfl⟩ := hov
 obtain ⟨na, hna⟩ : ∃ y, x.op.arms.length = y := ⟨_, rfl⟩
 rw [hna]
 obtain ⟨o, ho⟩ : ∃ y, x.op = y := ⟨_, rfl⟩
 rw [ho] at HTX HSE ⊢
 obtain ⟨k, tx, nn, tj, arms, oT, oE⟩ := o
 unfold OpV.val
 simp only at HTX HSE ⊢
 obtain ⟨ov, hov⟩ : ∃ y, Value.slice Av na cv = y := ⟨_, rfl⟩
 have HOV := hid hov
 obtain ⟨wa, hwa⟩ : ∃ W, ((w.alloc (.cells #[.int .i64 vt, .int .i64 (vl : Int), .int .i64 (vw : Int), .int .i64 (va : Int), .int .i64 (vn : Int), .int .i64 (vs : Int)] 51)).alloc (.cells #[.int .i64 k, .string tx, .int .i64 nn, .int .i64 tj, .slice Av na cv, .int .i64 oT, .int .i64 oE] 56)).alloc (.cells #[.int .i64 0, .int .i64 0, .int .i64 0, .int .i64 0, .int .i64 0, .int .i64 0] 51) = W := ⟨_, rfl⟩
 have HBA : Hid (Below w.heap.size w wa) := by rw [← hwa]; exact below3 _ _ _ _
 have HXA : Hid (Blk wa w.heap.size 51 #[.int .i64 vt, .int .i64 (vl : Int), .int .i64 (vw : Int), .int .i64 (va : Int), .int .i64 (vn : Int), .int .i64 (vs : Int)]) := by rw [← hwa]; exact ((Blk.new w _ _).alloc _).alloc _
 have HOA : Hid (Blk wa (w.heap.size + 1) 56 #[.int .i64 k, .string tx, .int .i64 nn, .int .i64 tj, .slice Av na cv, .int .i64 oT, .int .i64 oE]) := by rw [← hwa]; exact (new2 _ _ _ _).alloc _
 have HRA : Hid (Blk wa (w.heap.size + 2) 51 #[.int .i64 0, .int .i64 0, .int .i64 0, .int .i64 0, .int .i64 0, .int .i64 0]) := by rw [← hwa]; exact new3 _ _ _ _ _
 have HWA := hid hwa
 have HDA := hid (h.below HBA.out)
 clear hwa h hk hR ho hna hov
 obtain ⟨gx, hgx⟩ : ∃ y, w.heap.size = y := ⟨_, rfl⟩
 have HGX := hid hgx
 rw [hgx] at HXA HOA HRA
 clear hgx
 go_enter Tryz.func113, Tryz.ntmps113
 go_upto_region 1 with fail
 rw [HWA.out, HGX.out]
 obtain ⟨go, hgo⟩ : ∃ y, gx + 1 = y := ⟨_, rfl⟩
 rw [hgo]
 obtain ⟨gr, hgr⟩ : ∃ y, go + 1 = y := ⟨_, rfl⟩
 rw [hgr]
 have hgr2 : gx + 2 = gr := by omega
 rw [hgo] at HOA
 rw [hgr2] at HRA
 have HG : Hid (w.heap.size = gx ∧ gx + 1 = go ∧ go + 1 = gr ∧ gr < wa.heap.size) := ⟨HGX.out, hgo, hgr, HRA.out.lt⟩
 have HFX : Hid (∀ k, F k → k < gx) := fun k hk => by have := HF.out k hk; have := HG.out.1; omega
 clear hgo hgr hgr2 HGX HWA
 have d18 : wa.cell? ⟨d, 18, none⟩ = some (.pointer (some ⟨gp, 0, none⟩)) := HDA.out.cell 18
 have hdl := HDA.out.lt
 have CR := hid (pnRest_any gp x.pd wa HDA.out.pend)
 obtain ⟨rt, hrt⟩ : ∃ y, (x.pd.text.size : Int) - (x.pd.laid : Int) = y := ⟨_, rfl⟩
 rw [hrt] at CR
 go_wp2_with fail
 refine CR.out.mono ?_
 rintro en wb ⟨rfl, hb⟩
 have HB1 := hid hb
 have HDB := hid (HDA.out.below hb)
 have HXB := hid (HXA.out.below hb HXA.out.lt)
 have HOB := hid (HOA.out.below hb HOA.out.lt)
 have HRB := hid (HRA.out.below hb HRA.out.lt)
 clear hb CR d18 hdl
 have d18 : wb.cell? ⟨d, 18, none⟩ = some (.pointer (some ⟨gp, 0, none⟩)) := HDB.out.cell 18
 have hdl := HDB.out.lt
 by_cases h0 : 0 < rt
 ·have HR : Hid (R = (x.lays, 5, 0, x.pd.loadN)) := by rw [Hid, HSE.out, if_pos (by omega)]
  have CL := hid (pnLoad_any gp x.pd wb HDB.out.pend)
  obtain ⟨ln, hln⟩ : ∃ y, x.pd.loadN = y := ⟨_, rfl⟩
  rw [hln] at HR CL
  clear hrt hln HSE
  go_wp2_with fail
  refine CL.out.mono ?_
  rintro en wc ⟨rfl, hp1, hk1⟩
  have HDC : Hid (DialIn B F w0 wc d gi gb gh gp F2 A c x.lays) := HDB.out.turnP hk1 hp1 rfl
  have hgp := HFX.out _ HD.out.fd.2.2.2.1
  have HXC := hid (hk1.blk HXB.out (fun (e : gx = gp) => by omega))
  have HRC := hid (hk1.blk HRB.out (fun (e : gr = gp) => by have := HG.out; omega))
  have HKC : Hid (Keep F wa wc) := (Keep.of_below (F := F) HB1.out).trans (hk1.mono (fun k _ (e : k = gp) => by rw [e]; exact HD.out.fd.2.2.2.1) : Keep F wb wc) (fun _ h => .inl h)
  clear hp1 hk1 CL d18 hdl hgp HXB HOB HRB
  have c2 := HXC.out.cell 2
  have c4 := HXC.out.cell 4
  have y2 := HXC.out.frozen 2; have y4 := HXC.out.frozen 4
  have hxl := HXC.out.lt
  simp only [List.getElem?_toArray, List.getElem?_cons_zero, List.getElem?_cons_succ] at c2 c4
  go_upto_region 3 with fail
  obtain ⟨wv, hwv⟩ : ∃ W, (wc.setCell ⟨gx, 2, none⟩ (.int .i64 5)).setCell ⟨gx, 4, none⟩ (.int .i64 (ln : Int)) = W := ⟨_, rfl⟩
  have HXV : Hid (Blk wv gx 51 #[.int .i64 vt, .int .i64 (vl : Int), .int .i64 5, .int .i64 (va : Int), .int .i64 (ln : Int), .int .i64 (vs : Int)]) := by rw [← hwv]; exact (HXC.out.set 2 _).set 4 _
  have HKV : Hid (Keep (fun k => k = gx) wc wv) := by rw [← hwv]; exact (set1_keep _ _ _ _).trans (set1_keep _ _ _ _) (fun _ h => .inl h)
  rw [hwv]
  clear hwv c2 c4 y2 y4 hxl
  have HRV := hid (HKV.out.blk HRC.out (fun (e : gr = gx) => by have := HG.out; omega))
  obtain ⟨x0, x1, x2, x3, x4, x5⟩ := fact6 HXV.out
  obtain ⟨r0, r1, r2, r3, r4, r5⟩ := fact6 HRV.out
  have f0 := HRV.out.frozen 0; have f1 := HRV.out.frozen 1; have f2 := HRV.out.frozen 2; have f3 := HRV.out.frozen 3; have f4 := HRV.out.frozen 4; have f5 := HRV.out.frozen 5
  have hlx := HXV.out.lt; have hlr := HRV.out.lt
  go_wp2_with fail
  obtain ⟨wz, hwz⟩ : ∃ W, setS6 wv gr (.int .i64 vt) (.int .i64 (vl : Int)) (.int .i64 5) (.int .i64 (va : Int)) (.int .i64 (ln : Int)) (.int .i64 (vs : Int)) = W := ⟨_, rfl⟩
  have KZ : Keep (fun k => k = gr) wv wz := by rw [← hwz]; exact setS6_keep _ _ _ _ _ _ _ _
  have BZ := setS6_blk HRV.out (.int .i64 vt) (.int .i64 (vl : Int)) (.int .i64 5) (.int .i64 (va : Int)) (.int .i64 (ln : Int)) (.int .i64 (vs : Int))
  rw [hwz] at BZ
  unfold setS6 at hwz
  rw [hwz]
  clear hwz
  obtain ⟨t0, t1, t2, t3, t4, t5⟩ := fact6 BZ
  have hf := tailD (G := fun k => k = gx ∨ k = gr) HF.out HB.out HBA.out (HKC.out.mono (fun k _ h => .inl h)) (DialAt.up (w := wc) HDC.out.at HDC.out.fin HDC.out.base.2 (Nat.le_refl _)) (Keep.refl F wc)
   ((HKV.out.mono (fun k _ h => .inl h) : Keep (fun k => k = gx ∨ k = gr) wc wv).trans KZ (fun k h => .inl (.inr h))) (fun k hk => by have := HG.out; rcases hk with hk | hk <;> omega)
  refine bodyPost_ret (v := .agg #[.int .i64 vt, .int .i64 (vl : Int), .int .i64 5, .int .i64 (va : Int), .int .i64 (ln : Int), .int .i64 (vs : Int)]) (by simp [results, Tryz.results113, go_sem, t0, t1, t2, t3, t4, t5]) rfl ⟨?_, ?_, hf.2⟩
  ·rw [HR.out]; try rfl
  ·rw [HR.out]; exact hf.1
 have HR : Hid (R = (x.come (x.loc + 1), 6, 0, tx.size)) := by rw [Hid, HSE.out, if_neg (by omega)]
 obtain ⟨lo, hlo⟩ : ∃ y, x.loc = y := ⟨_, rfl⟩
 obtain ⟨ts, hts⟩ : ∃ y, tx.size = y := ⟨_, rfl⟩
 have HLO := hid hlo
 have HTS := hid hts
 have hlo2 : (lo : Int) ≤ 1000 := by have := (wrongM_zero _ HD.out.ok.pgood).1; have := HLT.out; omega
 rw [hts] at HR
 clear hrt HSE d18 hdl hlo hts
 go_upto_region 4 with fail
 refine wp_region_ordT wb.heap.size [4, 6] (.val 0 (.val 3 (.two 1 (.val 2 (.op 4 (.val 5 (.op 6 (.nil))))) 4 (.op 1 (.val 2 (.val 5 (.op 6 (.nil)))))))) (by kernel_rfl) (by kernel_rfl) ?_
 obtain ⟨wx, hwx⟩ : ∃ W, wb.drewN 1 = W := ⟨_, rfl⟩
 have HBW : Hid (Below wb.heap.size wb wx) := by rw [← hwx]; exact drewN_below wb 1
 rw [hwx]
 clear hwx
 have HDX := hid (HDB.out.below HBW.out)
 have HXX := hid (HXB.out.below HBW.out HXB.out.lt)
 have HOX := hid (HOB.out.below HBW.out HOB.out.lt)
 have HRX := hid (HRB.out.below HBW.out HRB.out.lt)
 have o1 : wx.cell? ⟨go, 1, none⟩ = some (.string tx) := HOX.out.cell 1
 have e2 : wx.cell? ⟨gx, 2, none⟩ = some (.int .i64 (vw : Int)) := HXX.out.cell 2
 have ef2 := HXX.out.frozen 2
 have hxl := HXX.out.lt; have hol := HOX.out.lt
 iterate 2 (refine wpOrdT_val rfl rfl ?_; go_big_quiet_step (fail); refine wpQuiet_nil ?_)
 focus
  refine wpOrdT_two rfl rfl ?_ ?_
  focus
   skip
   go_wp2_with fail
   refine KT.same ?_
   refine wpOrdT_val rfl rfl ?_
   go_big_quiet_step (fail)
   refine wpQuiet_nil ?_
   refine wpOrdT_op rfl ?_
   go_wp2_with fail
   obtain ⟨wA, hwA⟩ : ∃ W, wx.setCell ⟨gx, 2, none⟩ (.int .i64 6) = W := ⟨_, rfl⟩
   have HXY : Hid (Blk wA gx 51 #[.int .i64 vt, .int .i64 (vl : Int), .int .i64 6, .int .i64 (va : Int), .int .i64 (vn : Int), .int .i64 (vs : Int)]) := by rw [← hwA]; exact HXX.out.set 2 _
   have HKY : Hid (Keep (fun k => k = gx) wx wA) := by rw [← hwA]; exact set1_keep _ _ _ _
   rw [hwA]
   clear hwA
   have HOY := hid (HKY.out.blk HOX.out (fun (e : go = gx) => by have := HG.out; omega))
   have a1 : wA.cell? ⟨go, 1, none⟩ = some (.string tx) := HOY.out.cell 1
   have e4 : wA.cell? ⟨gx, 4, none⟩ = some (.int .i64 (vn : Int)) := HXY.out.cell 4
   have ef4 := HXY.out.frozen 4
   have hyl := HXY.out.lt; have hoyl := HOY.out.lt
   refine KT.past rfl ?_
  rotate_left 1
  focus
   skip
   go_wp2_with fail
   obtain ⟨wA, hwA⟩ : ∃ W, wx.setCell ⟨gx, 2, none⟩ (.int .i64 6) = W := ⟨_, rfl⟩
   have HXY : Hid (Blk wA gx 51 #[.int .i64 vt, .int .i64 (vl : Int), .int .i64 6, .int .i64 (va : Int), .int .i64 (vn : Int), .int .i64 (vs : Int)]) := by rw [← hwA]; exact HXX.out.set 2 _
   have HKY : Hid (Keep (fun k => k = gx) wx wA) := by rw [← hwA]; exact set1_keep _ _ _ _
   rw [hwA]
   clear hwA
   have HOY := hid (HKY.out.blk HOX.out (fun (e : go = gx) => by have := HG.out; omega))
   have a1 : wA.cell? ⟨go, 1, none⟩ = some (.string tx) := HOY.out.cell 1
   have e4 : wA.cell? ⟨gx, 4, none⟩ = some (.int .i64 (vn : Int)) := HXY.out.cell 4
   have ef4 := HXY.out.frozen 4
   have hyl := HXY.out.lt; have hoyl := HOY.out.lt
   refine KT.past rfl ?_
   refine wpOrdT_op rfl ?_
   go_wp2_with fail
   refine KT.same ?_
   refine wpOrdT_val rfl rfl ?_
   go_big_quiet_step (fail)
   refine wpQuiet_nil ?_
  all_goals
   refine wpOrdT_val rfl rfl ?_
   go_big_quiet_step (fail)
   refine wpQuiet_nil ?_
   refine wpOrdT_op rfl ?_
   go_wp2_with fail
   try rw [HTS.out]
   obtain ⟨wv, hwv⟩ : ∃ W, wA.setCell ⟨gx, 4, none⟩ (.int .i64 (ts : Int)) = W := ⟨_, rfl⟩
   have HXV : Hid (Blk wv gx 51 #[.int .i64 vt, .int .i64 (vl : Int), .int .i64 6, .int .i64 (va : Int), .int .i64 (ts : Int), .int .i64 (vs : Int)]) := by rw [← hwv]; exact HXY.out.set 4 _
   have HKV : Hid (Keep (fun k => k = gx) wx wv) := by rw [← hwv]; exact HKY.out.trans (set1_keep _ _ _ _) (fun _ h => .inl h)
   rw [hwv]
   clear hwv o1 e2 ef2 hxl hol a1 e4 ef4 hyl hoyl
   refine KT.past rfl ?_
   refine wpOrdT_nil ?_
   have HDV : Hid (DialIn B F w0 wv d gi gb gh gp F2 A c x) := HDX.out.keep HKV.out (fun k hk (e : k = gx) => by have := HFX.out k hk; omega) (fun k (e : k = gx) => by have := HB.out; have := HG.out; omega)
   have HRW := hid (HKV.out.blk HRX.out (fun (e : gr = gx) => by have := HG.out; omega))
   have c10 : wv.cell? ⟨d, 10, none⟩ = some (.int .i64 (lo : Int)) := by rw [← HLO.out]; exact HDV.out.cell 10
   have hdv := HDV.out.lt
   have cc := dCome_any HDV.out (x.loc + 1) HLT.out
   have ecc : ((x.loc + 1 : Nat) : Int) = (lo : Int) + 1 := by rw [HLO.out]; simp
   rw [ecc] at cc
   have CC := hid cc
   clear cc ecc
   go_wp2_with fail
   refine CC.out.mono ?_
   rintro en w1 ⟨rfl, hd1, hk1⟩
   have HD1 := hid hd1; have HK1 := hid hk1
   have HX1 := hid (hk1.blk HXV.out (fun hf => by have := HFX.out _ hf; omega))
   have HRV := hid (hk1.blk HRW.out (fun hf => by have := HFX.out _ hf; have := HG.out; omega))
   clear hd1 hk1 CC c10 hdv
   obtain ⟨x0, x1, x2, x3, x4, x5⟩ := fact6 HX1.out
   obtain ⟨r0, r1, r2, r3, r4, r5⟩ := fact6 HRV.out
   have f0 := HRV.out.frozen 0; have f1 := HRV.out.frozen 1; have f2 := HRV.out.frozen 2; have f3 := HRV.out.frozen 3; have f4 := HRV.out.frozen 4; have f5 := HRV.out.frozen 5
   have hlx := HX1.out.lt; have hlr := HRV.out.lt
   go_wp2_with fail
   obtain ⟨wz, hwz⟩ : ∃ W, setS6 w1 gr (.int .i64 vt) (.int .i64 (vl : Int)) (.int .i64 6) (.int .i64 (va : Int)) (.int .i64 (ts : Int)) (.int .i64 (vs : Int)) = W := ⟨_, rfl⟩
   have KZ : Keep (fun k => k = gr) w1 wz := by rw [← hwz]; exact setS6_keep _ _ _ _ _ _ _ _
   have BZ := setS6_blk HRV.out (.int .i64 vt) (.int .i64 (vl : Int)) (.int .i64 6) (.int .i64 (va : Int)) (.int .i64 (ts : Int)) (.int .i64 (vs : Int))
   rw [hwz] at BZ
   unfold setS6 at hwz
   rw [hwz]
   clear hwz
   obtain ⟨t0, t1, t2, t3, t4, t5⟩ := fact6 BZ
   have hf := tailD (G := fun k => k = gr) HF.out HB.out HBA.out ((Keep.of_below (F := fun k => F k ∨ w.heap.size ≤ k) (HB1.out.trans (HBW.out.mono HB1.out.size))).trans HKV.out (fun k (e : k = gx) => .inl (.inr (by rw [e, HG.out.1]; exact Nat.le_refl _)))) HD1.out HK1.out KZ (fun k (hk : k = gr) => by have := HG.out; omega)
   refine bodyPost_ret (v := .agg #[.int .i64 vt, .int .i64 (vl : Int), .int .i64 6, .int .i64 (va : Int), .int .i64 (ts : Int), .int .i64 (vs : Int)]) (by simp [results, Tryz.results113, go_sem, t0, t1, t2, t3, t4, t5]) rfl ⟨?_, ?_, hf.2⟩
   ·rw [HR.out]; try rfl
   ·rw [HR.out]; exact hf.1
end
section
variable {B d gi gb gh gp c : Nat} {F F2 : Nat → Prop} {w0 w w' : World} {A : Option Addr} {x : DialV}
end
section
variable {B d gi gb gh gp c : Nat} {F F2 : Nat → Prop} {w0 w w' : World} {A : Option Addr} {x : DialV}
end
section
variable {B d gi gb gh gp c : Nat} {F F2 : Nat → Prop} {w0 w w' : World} {A : Option Addr} {x : DialV}
theorem DialIn.turnL {bs : Nat} {L : LookR} {ps : List ByteArray} {P : Option (List (List Item))} (h : DialIn B F w0 w d gi gb gh gp F2 A c x) (hk : Keep (fun k => F2 k ∨ RgF gi gb k) w w') (hbs : bs ≤ w'.heap.size)
  (hh : HoldAt bs (Fup F2 w w') w' gh x.s.win.toNat L.S L.seen ps P) (hP : P.getD [] = x.P) (hr : Rg w' gi gb x.s.ring.toNat L.R) :
  DialIn B (Fup F w w') w0 w' d gi gb gh gp (Fup F2 w w') A c (x.looked L) := by
 have hdl := h.lt
 have hil := (h.fin _ h.fd.2.1).2
 have hbl := (h.fin _ h.fd.2.2.1).2
 have hpl := (h.fin _ h.fd.2.2.2.1).2
 have hf2 := h.f2
 obtain ⟨h1, h2, h3, h4, h5, h6, h7, h8, h9, h10, h11, h12⟩ := h
 obtain ⟨n1, n2, n3, n4, n5, n6, n7, n8, n9, n10⟩ := h9
 obtain ⟨o1, o2, o3, o4, o5, o6, o7, o8, o9, o10⟩ := h12
 have nf : ∀ k, k < w.heap.size → ¬ F2 k → ¬ Fup F2 w w' k := by
  rintro k hk1 hk2 (hk3 | hk3)
  ·exact hk2 hk3
  ·omega
 refine ⟨hk.blk h1 (fun e => e.elim n7 (fun e => e.elim n1 n2)), hr, ⟨bs, ps, P, hbs, hh, hP⟩, h4.keep hk (fun e => e.elim n10 (fun e => e.elim (fun e => n4 e.symm) (fun e => n5 e.symm))), h5, ?_, ⟨h7.1, Nat.le_trans h7.2 hk.size⟩, ⟨.inl h8.1, .inl h8.2.1, .inl h8.2.2.1, .inl h8.2.2.2.1, ?_⟩, ⟨n1, n2, n3, n4, n5, n6, nf _ hdl n7, nf _ hil n8, nf _ hbl n9, nf _ hpl n10⟩, ?_, h11, ⟨o1, o2, o3, o4, o5, o6, o7, o8, o9, o10⟩⟩
 ·refine h6.trans (hk.below h6.size ?_)
  rintro k (hf | e | e)
  ·exact Nat.le_trans h7.1 (hf2 k hf).1
  ·rw [e]; exact Nat.le_trans h7.1 (h10 gi h8.2.1).1
  ·rw [e]; exact Nat.le_trans h7.1 (h10 gb h8.2.2.1).1
 ·rintro k (hf | hf)
  ·exact .inl (h8.2.2.2.2 k hf)
  ·exact .inr hf
 ·have hs := hk.size
  rintro k (hf | hf)
  ·have := h10 k hf; exact ⟨this.1, by omega⟩
  ·exact ⟨by omega, hf.2⟩
theorem DialIn.looks (h : DialIn B F w0 w d gi gb gh gp F2 A c x) : Calls Tryz.prog 152 #[.pointer (some ⟨gh, 0, none⟩), .pointer (some ⟨gi, 0, none⟩)] w fun e w' =>
  e = .returned (foundV (lookM x.s.win.toNat x.P x.S x.seen x.R).mtch (lookM x.s.win.toNat x.P x.S x.seen x.R).full (lookM x.s.win.toNat x.P x.S x.seen x.R).arm (lookM x.s.win.toNat x.P x.S x.seen x.R).gone (lookM x.s.win.toNat x.P x.S x.seen x.R).read) ∧
   DialIn B (Fup F w w') w0 w' d gi gb gh gp (Fup F2 w w') A c (x.looked (lookM x.s.win.toNat x.P x.S x.seen x.R)) ∧ Keep F w w' := by
 obtain ⟨bs, ps, P, hbs, hh, hP⟩ := h.hold
 have hl := hoLook_any bs gh x.s.win.toNat x.seen gi gb x.s.ring.toNat F2 x.S x.R ps P w hh h.ring (fun k hf e => e.elim (fun e => h.ne.2.2.2.2.2.2.2.1 (e ▸ hf)) (fun e => h.ne.2.2.2.2.2.2.2.2.1 (e ▸ hf))) (fun k hf => (h.f2 k hf).2) hbs
 rw [hP] at hl
 refine hl.mono (fun e w' hc => ⟨hc.1, h.turnL hc.2.2.2 (Nat.le_trans hbs hc.2.2.2.size) hc.2.1 hP hc.2.2.1, hc.2.2.2.mono ?_⟩)
 rintro k - (hf | e | e)
 ·exact h.fd.2.2.2.2 k hf
 ·rw [e]; exact h.fd.2.1
 ·rw [e]; exact h.fd.2.2.1
end
theorem toldA_lt (ds : List Bool) (h : ds.any id = true) : toldA ds < ds.length := by
 rw [toldA, if_pos h]
 obtain ⟨b, hb, hb2⟩ := List.any_eq_true.1 h
 exact List.findIdx_lt_length_of_exists ⟨b, hb, hb2⟩
theorem lookGo_arm (win : Nat) (ls : List (List Item)) (hd : ∀ S n, (dsM ls S n).length = ls.length) : ∀ n S seen R rd, (lookGo win ls n S seen R rd).mtch = true → (lookGo win ls n S seen R rd).arm < ls.length := by
 intro n
 induction n with
 | zero => intro S seen R rd h; cases h
 | succ n ih =>
  intro S seen R rd
  rw [lookGo]
  split
  ·intro h; cases h
  ·split
   ·intro h; cases h
   ·by_cases h1 : (dsM ls (if seen = S.length then S ++ R.take 1 else S) (seen + 1)).any id = true
    ·rw [if_pos h1]; intro _
     have := toldA_lt _ h1
     rw [hd] at this
     exact this
    ·rw [if_neg h1]; exact ih _ _ _ _
theorem dsM_length (ls : List (List Item)) (S : List UInt8) (n : Nat) : (dsM ls S n).length = ls.length := by
 unfold dsM; simp
theorem look_arm (win : Nat) (ls : List (List Item)) (S : List UInt8) (seen : Nat) (R : List UInt8) (h : (lookM win ls S seen R).mtch = true) : (lookM win ls S seen R).arm < ls.length :=
 lookGo_arm win ls (dsM_length ls) _ _ _ _ _ h
end Go.Proofs.YtpkkfdmhbbipoaaGreat
