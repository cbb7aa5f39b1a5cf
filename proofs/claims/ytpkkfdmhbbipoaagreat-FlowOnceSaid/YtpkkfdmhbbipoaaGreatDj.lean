/- Walks: package dial: does. Walks: package dial: Step. -/
import Derived.Test.YtpkkfdmhbbipoaaGreatDh
namespace Go.Proofs.YtpkkfdmhbbipoaaGreat
open Go.RowKit PopT
section
variable {B d gi gb gh gp c : Nat} {F F2 : Nat → Prop} {w0 w w' : World} {A : Option Addr} {x : DialV}
theorem over_lt (d : DueV) (now : Int) : d.over now ≤ 5 := by
 unfold DueV.over
 repeat' split
 all_goals omega
theorem send_arm (x : DialV) : x.send.2.2.1 = 0 := by unfold DialV.send; split <;> rfl
theorem op_goto (x : DialV) (h : DialOk x) (hk : x.op.kind = 3) : x.op.tt ≤ (x.p.ops.length : Int) := by
 have hg := (op_good x h (op_lt x (by omega))).1
 unfold opE at hg
 rw [if_neg (by omega)] at hg
 split at hg
 ·omega
 ·rw [if_neg (by omega), if_neg (by omega)] at hg
  try rw [if_pos hk] at hg
  split at hg
  ·rename_i hc; exact comesM_le _ _ hc
  ·omega
set_option maxRecDepth 20000 in
set_option maxHeartbeats 16000000 in
theorem dDoes_any (h : DialIn B F w0 w d gi gb gh gp F2 A c x) (vt : Int) (vl vs : Nat) (hP : x.op.kind = 2 → x.P.length = x.op.arms.length) : Calls Tryz.prog 67 #[.pointer (some ⟨d, 0, none⟩), .agg #[.int .i64 vt, .int .i64 (vl : Int), .int .i64 0, .int .i64 0, .int .i64 0, .int .i64 (vs : Int)]] w fun e w' => e = .returned (StepV.val ⟨vt, vl, x.does.2.1, x.does.2.2.1, x.does.2.2.2, vs⟩) ∧ DialAt B (Fup F w w') w0 w' d x.does.1 ∧ Keep F w w' := by
 unfold StepV.val
 have HD := hid h
 have HP := hid hP
 have HF : Hid (∀ k, F k → B ≤ k ∧ k < w.heap.size) := h.fin
 have HB : Hid (B ≤ w.heap.size) := h.base.2
 have HSE : Hid (x.does = if x.due.over x.now ≠ 0 then (x.stop (x.due.over x.now), (if x.due.over x.now = 3 then 12 else 14), 0, 0)
  else if x.op.kind = 1 then x.send
  else if x.op.kind = 2 then x.look
  else if x.op.kind = 3 then ((x.jump 7 x.op.tt).1, (x.jump 7 x.op.tt).2, 0, 0)
  else if x.op.kind = 4 then (x.come (x.loc + 1), 8, 0, 0)
  else if x.op.kind = 6 then (x.stop 2, 10, 0, 0)
  else (x.stop 1, 9, 0, 0)) := rfl
 obtain ⟨R, hR⟩ : ∃ y, x.does = y := ⟨_, rfl⟩
 rw [hR] at HSE ⊢
 clear hR hP
 obtain ⟨wa, hwa⟩ : ∃ W, (w.alloc (.cells #[.int .i64 vt, .int .i64 (vl : Int), .int .i64 0, .int .i64 0, .int .i64 0, .int .i64 (vs : Int)] 51)).alloc (.cells #[.int .i64 0, .int .i64 0, .int .i64 0, .int .i64 0, .int .i64 0, .int .i64 0] 51) = W := ⟨_, rfl⟩
 have HBA : Hid (Below w.heap.size w wa) := by rw [← hwa]; exact below2 _ _ _
 have HXA : Hid (Blk wa w.heap.size 51 #[.int .i64 vt, .int .i64 (vl : Int), .int .i64 0, .int .i64 0, .int .i64 0, .int .i64 (vs : Int)]) := by rw [← hwa]; exact (Blk.new w _ _).alloc _
 have HRA : Hid (Blk wa (w.heap.size + 1) 51 #[.int .i64 0, .int .i64 0, .int .i64 0, .int .i64 0, .int .i64 0, .int .i64 0]) := by rw [← hwa]; exact new2 _ _ _ _
 have HWA := hid hwa
 have HDA := hid (h.below HBA.out)
 clear hwa h
 obtain ⟨gx, hgx⟩ : ∃ y, w.heap.size = y := ⟨_, rfl⟩
 have HGX := hid hgx
 rw [hgx] at HXA HRA
 clear hgx
 obtain ⟨ov, hov⟩ : ∃ y, x.due.over x.now = y := ⟨_, rfl⟩
 have HOV0 : Hid (ov ≤ 5) := by rw [Hid, ← hov]; exact over_lt _ _
 obtain ⟨t1, ht1⟩ : ∃ y, x.due.til = y := ⟨_, rfl⟩
 obtain ⟨t2, ht2⟩ : ∃ y, x.due.lim = y := ⟨_, rfl⟩
 obtain ⟨t3, ht3⟩ : ∃ y, x.due.cut = y := ⟨_, rfl⟩
 obtain ⟨nw, hnw⟩ : ∃ y, x.now = y := ⟨_, rfl⟩
 have CV : Hid (∀ W, Calls Tryz.prog 111 #[.agg #[.int .i64 t1, .int .i64 t2, .int .i64 t3], .int .i64 nw] W fun e w' => e = .returned (.tuple #[.int .i64 (ov : Int), .bool (decide (ov ≠ 0))]) ∧ Below W.heap.size W w') := by
  rw [← ht1, ← ht2, ← ht3, ← hnw, ← hov]; exact fun W => dueOver_any x.due x.now W
 have hdl := HDA.out.lt
 have T13 : ∀ q : BW wa.heap.size wa, q.1.cell? ⟨d, 13, none⟩ = some (.int .i64 t1) := fun q => q.cellAt hdl (by rw [← ht1]; exact HDA.out.cell 13)
 have T14 : ∀ q : BW wa.heap.size wa, q.1.cell? ⟨d, 14, none⟩ = some (.int .i64 t2) := fun q => q.cellAt hdl (by rw [← ht2]; exact HDA.out.cell 14)
 have T15 : ∀ q : BW wa.heap.size wa, q.1.cell? ⟨d, 15, none⟩ = some (.int .i64 t3) := fun q => q.cellAt hdl (by rw [← ht3]; exact HDA.out.cell 15)
 have T20 : ∀ q : BW wa.heap.size wa, q.1.cell? ⟨d, 20, none⟩ = some (.int .i64 nw) := fun q => q.cellAt hdl (by rw [← hnw]; exact HDA.out.cell 20)
 rw [hov] at HSE
 clear ht1 ht2 ht3 hnw hov
 obtain ⟨od, hod⟩ : ∃ y, decide (ov ≠ 0) = y := ⟨_, rfl⟩
 rw [hod] at CV
 have HOD := hid hod
 clear hod
 go_enter Tryz.func67, Tryz.ntmps67
 go_upto_region 1 with fail
 rw [HWA.out, HGX.out]
 obtain ⟨gr, hgr⟩ : ∃ y, gx + 1 = y := ⟨_, rfl⟩
 rw [hgr] at HRA ⊢
 have HG : Hid (w.heap.size = gx ∧ gx + 1 = gr ∧ gr < wa.heap.size) := ⟨HGX.out, hgr, HRA.out.lt⟩
 have HNF : Hid (¬ F gx ∧ ¬ F gr) := ⟨fun hf => by have := HF.out _ hf; have := HG.out; omega, fun hf => by have := HF.out _ hf; have := HG.out; omega⟩
 clear hgr HGX HWA
 refine wp_region_below wa.heap.size (by kernel_rfl) (by kernel_rfl) ?_
 repeat (go_big_quiet_step (first | (go_at_call 111; exact callBW (Nat.le_refl _) CV.out _)))
 refine wpQuiet_nil ?_
 intro wv hqu
 have HBU : Hid (Below wa.heap.size wa wv) := by obtain ⟨q, rfl⟩ := hqu; exact q.2
 clear hqu T13 T14 T15 T20 CV hdl
 have HXV := hid (HXA.out.below HBU.out HXA.out.lt)
 have HRW := hid (HRA.out.below HBU.out HRA.out.lt)
 have HDV := hid (HDA.out.below HBU.out)
 have HKV : Hid (Keep F w wv) := Keep.of_below (HBA.out.trans (HBU.out.mono HBA.out.size))
 have HSV : Hid (gr < wv.heap.size) := HRW.out.lt
 cases od
 ·have hov0 : ov = 0 := by have := HOD.out; simpa using this
  subst hov0
  have HSE := hid (HSE.out.trans (if_neg (by decide)))
  clear HOD HOV0
  have CO := hid (op_any0 HDV.out)
  go_wp2_with fail
  refine CO.out.mono ?_
  rintro en wb ⟨v, rfl, harm, hb⟩
  have HBB := hid hb
  obtain ⟨Av, cv, rfl, harm⟩ := harm
  obtain ⟨na, hna⟩ : ∃ y, x.op.arms.length = y := ⟨_, rfl⟩
  have HARM : Hid (ArmsIn w0 x.op (.slice Av x.op.arms.length cv)) := ⟨Av, cv, rfl, harm⟩
  rw [hna]
  have HNA := hid hna
  clear harm hb CO hna
  obtain ⟨o, ho⟩ : ∃ y, x.op = y := ⟨_, rfl⟩
  have HO := hid ho
  rw [ho] at HSE ⊢
  clear ho
  obtain ⟨k, tx, nn, tj, arms, oT, oE⟩ := o
  unfold OpV.val
  simp only at HSE ⊢
  have HXB := hid (HXV.out.below HBB.out HXV.out.lt)
  have HRB := hid (HRW.out.below HBB.out HRW.out.lt)
  have HDB := hid (HDV.out.below HBB.out)
  have HKB : Hid (Keep F w wb) := HKV.out.trans (Keep.of_below (F := F) HBB.out) (fun _ h => .inl h)
  go_upto_region 9 with fail
  obtain ⟨wv, hwv⟩ : ∃ W, wb.alloc (.cells #[.int .i64 k, .string tx, .int .i64 nn, .int .i64 tj, .slice Av na cv, .int .i64 oT, .int .i64 oE] 56) = W := ⟨_, rfl⟩
  rw [hwv]
  have HOV : Hid (Blk wv wb.heap.size 56 #[.int .i64 k, .string tx, .int .i64 nn, .int .i64 tj, .slice Av na cv, .int .i64 oT, .int .i64 oE]) := by rw [← hwv]; exact Blk.new _ _ _
  have HBN : Hid (Below wb.heap.size wb wv) := by rw [← hwv]; exact (Below.refl _ _).alloc (Nat.le_refl _) _
  clear hwv HXV HRW HDV HKV HSV
  have HXV := hid (HXB.out.below HBN.out HXB.out.lt)
  have HRW := hid (HRB.out.below HBN.out HRB.out.lt)
  have HDV := hid (HDB.out.below HBN.out)
  have HKV : Hid (Keep F w wv) := HKB.out.trans (Keep.of_below (F := F) HBN.out) (fun _ h => .inl h)
  have HSV : Hid (gr < wv.heap.size) := HRW.out.lt
  have HGO : Hid (gr < wb.heap.size) := HRB.out.lt
  obtain ⟨go, hgo⟩ : ∃ y, wb.heap.size = y := ⟨_, rfl⟩
  rw [hgo] at HOV HGO ⊢
  clear hgo HXB HRB HDB HKB HBN HBB
  by_cases k1 : k = 1
  ·subst k1
   have HR := hid (HSE.out.trans (if_pos rfl))
   clear HSE HP
   have CC := dSend_any HDV.out ⟨vt, vl, 0, 0, 0, vs⟩ (.slice Av na cv) (by rw [HO.out]) ⟨Av, cv, by rw [HNA.out]⟩
   rw [HO.out] at CC
   unfold StepV.val OpV.val at CC
   simp only at CC
   obtain ⟨J, hJ⟩ : ∃ y, x.send = y := ⟨_, rfl⟩
   have HJ0 : Hid (J.2.2.1 = 0) := by rw [Hid, ← hJ]; exact send_arm x
   rw [hJ] at CC HR
   clear hJ
   have CC := hid CC
   obtain ⟨x0, x1, x2, x3, x4, x5⟩ := fact6 HXV.out
   have hlx := HXV.out.lt
   obtain ⟨o0, o1, o2, o3, o4, o5, o6⟩ := fact7 HOV.out
   have hlo := HOV.out.lt
   go_wp2_with fail
   refine CC.out.mono ?_
   rintro en w1 ⟨rfl, hd1, hk1⟩
   have HD1 := hid hd1; have HK1 := hid hk1
   have HRV := hid (hk1.blk HRW.out HNF.out.2)
   clear hd1 hk1 CC
   obtain ⟨r0, r1, r2, r3, r4, r5⟩ := fact6 HRV.out
   have z0 := HRV.out.frozen 0; have z1 := HRV.out.frozen 1; have z2 := HRV.out.frozen 2; have z3 := HRV.out.frozen 3; have z4 := HRV.out.frozen 4; have z5 := HRV.out.frozen 5
   have hlr := HRV.out.lt
   go_wp2_with fail
   obtain ⟨wz, hwz⟩ : ∃ W, setS6 w1 gr (.int .i64 vt) (.int .i64 (vl : Int)) (.int .i64 (J.2.1 : Int)) (.int .i64 0) (.int .i64 (J.2.2.2 : Int)) (.int .i64 (vs : Int)) = W := ⟨_, rfl⟩
   have KZ : Hid (Keep (fun k => k = gr) w1 wz) := by rw [← hwz]; exact setS6_keep _ _ _ _ _ _ _ _
   have BZ := setS6_blk HRV.out (.int .i64 vt) (.int .i64 (vl : Int)) (.int .i64 (J.2.1 : Int)) (.int .i64 0) (.int .i64 (J.2.2.2 : Int)) (.int .i64 (vs : Int))
   rw [hwz] at BZ
   unfold setS6 at hwz
   rw [hwz]
   clear hwz
   obtain ⟨t0, t1, t2, t3, t4, t5⟩ := fact6 BZ
   have hf := tailL (G := fun k => k = gr) HF.out HB.out (fun k hk => .inl hk) HKV.out HD1.out HK1.out KZ.out (fun k (e : k = gr) => by rw [e]; exact ⟨by have := HG.out; omega, HSV.out, HNF.out.2⟩)
   refine bodyPost_ret (v := .agg #[.int .i64 vt, .int .i64 (vl : Int), .int .i64 (J.2.1 : Int), .int .i64 0, .int .i64 (J.2.2.2 : Int), .int .i64 (vs : Int)]) (by simp [results, Tryz.results67, go_sem, t0, t1, t2, t3, t4, t5]) rfl ⟨?_, ?_, hf.2⟩
   ·rw [HR.out, HJ0.out]; rfl
   ·rw [HR.out]; exact hf.1
  have HSE := hid (HSE.out.trans (if_neg k1))
  have k1f : (k == 1) = false := by rw [beq_eq_false_iff_ne]; exact k1
  clear k1
  by_cases k2 : k = 2
  ·subst k2
   have HR := hid (HSE.out.trans (if_pos rfl))
   clear HSE
   have CC := dLook_any HDV.out ⟨vt, vl, 0, 0, 0, vs⟩ (.slice Av na cv) (by rw [HO.out]) (HP.out (by rw [HO.out])) (by rw [← HNA.out]; exact HARM.out) rfl
   rw [HO.out] at CC
   unfold StepV.val OpV.val at CC
   simp only at CC
   obtain ⟨J, hJ⟩ : ∃ y, x.look = y := ⟨_, rfl⟩
   rw [hJ] at CC HR
   clear hJ
   have CC := hid CC
   obtain ⟨x0, x1, x2, x3, x4, x5⟩ := fact6 HXV.out
   have hlx := HXV.out.lt
   obtain ⟨o0, o1, o2, o3, o4, o5, o6⟩ := fact7 HOV.out
   have hlo := HOV.out.lt
   go_wp2_with fail
   refine CC.out.mono ?_
   rintro en w1 ⟨rfl, hd1, hk1⟩
   have HD1 := hid hd1; have HK1 := hid hk1
   have HRV := hid (hk1.blk HRW.out HNF.out.2)
   clear hd1 hk1 CC
   obtain ⟨r0, r1, r2, r3, r4, r5⟩ := fact6 HRV.out
   have z0 := HRV.out.frozen 0; have z1 := HRV.out.frozen 1; have z2 := HRV.out.frozen 2; have z3 := HRV.out.frozen 3; have z4 := HRV.out.frozen 4; have z5 := HRV.out.frozen 5
   have hlr := HRV.out.lt
   go_wp2_with fail
   obtain ⟨wz, hwz⟩ : ∃ W, setS6 w1 gr (.int .i64 vt) (.int .i64 (vl : Int)) (.int .i64 (J.2.1 : Int)) (.int .i64 (J.2.2.1 : Int)) (.int .i64 (J.2.2.2 : Int)) (.int .i64 (vs : Int)) = W := ⟨_, rfl⟩
   have KZ : Hid (Keep (fun k => k = gr) w1 wz) := by rw [← hwz]; exact setS6_keep _ _ _ _ _ _ _ _
   have BZ := setS6_blk HRV.out (.int .i64 vt) (.int .i64 (vl : Int)) (.int .i64 (J.2.1 : Int)) (.int .i64 (J.2.2.1 : Int)) (.int .i64 (J.2.2.2 : Int)) (.int .i64 (vs : Int))
   rw [hwz] at BZ
   unfold setS6 at hwz
   rw [hwz]
   clear hwz
   obtain ⟨t0, t1, t2, t3, t4, t5⟩ := fact6 BZ
   have hf := tailL (G := fun k => k = gr) HF.out HB.out (fun k hk => .inl hk) HKV.out HD1.out HK1.out KZ.out (fun k (e : k = gr) => by rw [e]; exact ⟨by have := HG.out; omega, HSV.out, HNF.out.2⟩)
   refine bodyPost_ret (v := .agg #[.int .i64 vt, .int .i64 (vl : Int), .int .i64 (J.2.1 : Int), .int .i64 (J.2.2.1 : Int), .int .i64 (J.2.2.2 : Int), .int .i64 (vs : Int)]) (by simp [results, Tryz.results67, go_sem, t0, t1, t2, t3, t4, t5]) rfl ⟨?_, ?_, hf.2⟩
   ·rw [HR.out]; try rfl
   ·rw [HR.out]; exact hf.1
  have HSE := hid (HSE.out.trans (if_neg k2))
  have k2f : (k == 2) = false := by rw [beq_eq_false_iff_ne]; exact k2
  clear k2
  by_cases k3 : k = 3
  ·subst k3
   have HR := hid (HSE.out.trans (if_pos rfl))
   clear HSE HP
   have o0 : wv.cell? ⟨go, 0, none⟩ = some (.int .i64 3) := HOV.out.cell 0
   have hlo := HOV.out.lt
   have e2 : wv.cell? ⟨gx, 2, none⟩ = some (.int .i64 0) := HXV.out.cell 2
   have ef2 := HXV.out.frozen 2
   have hxl := HXV.out.lt
   go_upto_region 18 with fail
   clear o0 hlo
   obtain ⟨wv, hwv, hxv, HKP⟩ := Blk.put HXV.out 2 (.int .i64 7)
   rw [hwv]
   have HXV : Hid (Blk wv gx 51 #[.int .i64 vt, .int .i64 (vl : Int), .int .i64 7, .int .i64 0, .int .i64 0, .int .i64 (vs : Int)]) := hxv
   have HDV : Hid (DialIn B F w0 wv d gi gb gh gp F2 A c x) := HDV.out.keep HKP.out (fun k hk (e : k = gx) => HNF.out.1 (by rw [← e]; exact hk)) (fun k (e : k = gx) => by rw [e]; have := HG.out; have := HB.out; omega)
   have HRW := hid (HKP.out.blk HRW.out (fun (e : gr = gx) => by have := HG.out; omega))
   have HOV := hid (HKP.out.blk HOV.out (fun (e : go = gx) => by have := HGO.out; have := HG.out; omega))
   have HKV : Hid (Keep F w wv) := HKV.out.trans HKP.out (fun k (e : k = gx) => .inr (by rw [e]; have := HG.out; omega))
   have HSV : Hid (gr < wv.heap.size) := HRW.out.lt
   clear hwv hxv HKP e2 ef2 hxl
   have htj : tj ≤ (x.p.ops.length : Int) := by have := op_goto x HD.out.ok (by rw [HO.out]); rw [HO.out] at this; exact this
   have CC := dJump_any HDV.out ⟨vt, vl, 7, 0, 0, vs⟩ tj htj
   unfold StepV.val at CC
   simp only at CC
   obtain ⟨J, hJ⟩ : ∃ y, x.jump 7 tj = y := ⟨_, rfl⟩
   rw [hJ] at CC HR
   clear hJ htj
   have CC := hid CC
   obtain ⟨x0, x1, x2, x3, x4, x5⟩ := fact6 HXV.out
   have hlx := HXV.out.lt
   have o3 : wv.cell? ⟨go, 3, none⟩ = some (.int .i64 tj) := HOV.out.cell 3
   have hlo := HOV.out.lt
   go_wp2_with fail
   refine CC.out.mono ?_
   rintro en w1 ⟨rfl, hd1, hk1⟩
   have HD1 := hid hd1; have HK1 := hid hk1
   have HRV := hid (hk1.blk HRW.out HNF.out.2)
   clear hd1 hk1 CC
   obtain ⟨r0, r1, r2, r3, r4, r5⟩ := fact6 HRV.out
   have z0 := HRV.out.frozen 0; have z1 := HRV.out.frozen 1; have z2 := HRV.out.frozen 2; have z3 := HRV.out.frozen 3; have z4 := HRV.out.frozen 4; have z5 := HRV.out.frozen 5
   have hlr := HRV.out.lt
   go_wp2_with fail
   obtain ⟨wz, hwz⟩ : ∃ W, setS6 w1 gr (.int .i64 vt) (.int .i64 (vl : Int)) (.int .i64 (J.2 : Int)) (.int .i64 0) (.int .i64 0) (.int .i64 (vs : Int)) = W := ⟨_, rfl⟩
   have KZ : Hid (Keep (fun k => k = gr) w1 wz) := by rw [← hwz]; exact setS6_keep _ _ _ _ _ _ _ _
   have BZ := setS6_blk HRV.out (.int .i64 vt) (.int .i64 (vl : Int)) (.int .i64 (J.2 : Int)) (.int .i64 0) (.int .i64 0) (.int .i64 (vs : Int))
   rw [hwz] at BZ
   unfold setS6 at hwz
   rw [hwz]
   clear hwz
   obtain ⟨t0, t1, t2, t3, t4, t5⟩ := fact6 BZ
   have hf := tailL (G := fun k => k = gr) HF.out HB.out (fun k hk => .inl hk) HKV.out HD1.out HK1.out KZ.out (fun k (e : k = gr) => by rw [e]; exact ⟨by have := HG.out; omega, HSV.out, HNF.out.2⟩)
   refine bodyPost_ret (v := .agg #[.int .i64 vt, .int .i64 (vl : Int), .int .i64 (J.2 : Int), .int .i64 0, .int .i64 0, .int .i64 (vs : Int)]) (by simp [results, Tryz.results67, go_sem, t0, t1, t2, t3, t4, t5]) rfl ⟨?_, ?_, hf.2⟩
   ·rw [HR.out]; try rfl
   ·rw [HR.out]; exact hf.1
  have HSE := hid (HSE.out.trans (if_neg k3))
  have k3f : (k == 3) = false := by rw [beq_eq_false_iff_ne]; exact k3
  clear k3
  by_cases k4 : k = 4
  ·subst k4
   have HR := hid (HSE.out.trans (if_pos rfl))
   clear HSE HP
   have o0 : wv.cell? ⟨go, 0, none⟩ = some (.int .i64 4) := HOV.out.cell 0
   have hlo := HOV.out.lt
   have e2 : wv.cell? ⟨gx, 2, none⟩ = some (.int .i64 0) := HXV.out.cell 2
   have ef2 := HXV.out.frozen 2
   have hxl := HXV.out.lt
   go_upto_region 21 with fail
   clear o0 hlo
   obtain ⟨wv, hwv, hxv, HKP⟩ := Blk.put HXV.out 2 (.int .i64 8)
   rw [hwv]
   have HXV : Hid (Blk wv gx 51 #[.int .i64 vt, .int .i64 (vl : Int), .int .i64 8, .int .i64 0, .int .i64 0, .int .i64 (vs : Int)]) := hxv
   have HDV : Hid (DialIn B F w0 wv d gi gb gh gp F2 A c x) := HDV.out.keep HKP.out (fun k hk (e : k = gx) => HNF.out.1 (by rw [← e]; exact hk)) (fun k (e : k = gx) => by rw [e]; have := HG.out; have := HB.out; omega)
   have HRW := hid (HKP.out.blk HRW.out (fun (e : gr = gx) => by have := HG.out; omega))
   have HOV := hid (HKP.out.blk HOV.out (fun (e : go = gx) => by have := HGO.out; have := HG.out; omega))
   have HKV : Hid (Keep F w wv) := HKV.out.trans HKP.out (fun k (e : k = gx) => .inr (by rw [e]; have := HG.out; omega))
   have HSV : Hid (gr < wv.heap.size) := HRW.out.lt
   clear hwv hxv HKP e2 ef2 hxl
   obtain ⟨lo, hlo⟩ : ∃ y, x.loc = y := ⟨_, rfl⟩
   have hlt : x.loc < x.p.ops.length := op_lt x (by rw [HO.out]; simp)
   have hlo2 : (lo : Int) ≤ 1000 := by have := (wrongM_zero _ HD.out.ok.pgood).1; omega
   have CC := dCome_any HDV.out (x.loc + 1) hlt
   have c10 : wv.cell? ⟨d, 10, none⟩ = some (.int .i64 (lo : Int)) := by rw [← hlo]; exact HDV.out.cell 10
   have hdv := HDV.out.lt
   have ecc : ((x.loc + 1 : Nat) : Int) = (lo : Int) + 1 := by rw [hlo]; simp
   rw [ecc] at CC
   have CC := hid CC
   clear hlo hlt ecc
   go_wp2_with fail
   refine CC.out.mono ?_
   rintro en w1 ⟨rfl, hd1, hk1⟩
   have HD1 := hid hd1; have HK1 := hid hk1
   have HRV := hid (hk1.blk HRW.out HNF.out.2)
   have HX1 := hid (hk1.blk HXV.out HNF.out.1)
   clear hd1 hk1 CC
   obtain ⟨x0, x1, x2, x3, x4, x5⟩ := fact6 HX1.out
   have hlx := HX1.out.lt
   obtain ⟨r0, r1, r2, r3, r4, r5⟩ := fact6 HRV.out
   have z0 := HRV.out.frozen 0; have z1 := HRV.out.frozen 1; have z2 := HRV.out.frozen 2; have z3 := HRV.out.frozen 3; have z4 := HRV.out.frozen 4; have z5 := HRV.out.frozen 5
   have hlr := HRV.out.lt
   go_wp2_with fail
   obtain ⟨wz, hwz⟩ : ∃ W, setS6 w1 gr (.int .i64 vt) (.int .i64 (vl : Int)) (.int .i64 8) (.int .i64 0) (.int .i64 0) (.int .i64 (vs : Int)) = W := ⟨_, rfl⟩
   have KZ : Hid (Keep (fun k => k = gr) w1 wz) := by rw [← hwz]; exact setS6_keep _ _ _ _ _ _ _ _
   have BZ := setS6_blk HRV.out (.int .i64 vt) (.int .i64 (vl : Int)) (.int .i64 8) (.int .i64 0) (.int .i64 0) (.int .i64 (vs : Int))
   rw [hwz] at BZ
   unfold setS6 at hwz
   rw [hwz]
   clear hwz
   obtain ⟨t0, t1, t2, t3, t4, t5⟩ := fact6 BZ
   have hf := tailL (G := fun k => k = gr) HF.out HB.out (fun k hk => .inl hk) HKV.out HD1.out HK1.out KZ.out (fun k (e : k = gr) => by rw [e]; exact ⟨by have := HG.out; omega, HSV.out, HNF.out.2⟩)
   refine bodyPost_ret (v := .agg #[.int .i64 vt, .int .i64 (vl : Int), .int .i64 8, .int .i64 0, .int .i64 0, .int .i64 (vs : Int)]) (by simp [results, Tryz.results67, go_sem, t0, t1, t2, t3, t4, t5]) rfl ⟨?_, ?_, hf.2⟩
   ·rw [HR.out]; try rfl
   ·rw [HR.out]; exact hf.1
  have HSE := hid (HSE.out.trans (if_neg k4))
  have k4f : (k == 4) = false := by rw [beq_eq_false_iff_ne]; exact k4
  clear k4
  by_cases k6 : k = 6
  ·subst k6
   have HR := hid (HSE.out.trans (if_pos rfl))
   clear HSE HP
   have o0 : wv.cell? ⟨go, 0, none⟩ = some (.int .i64 6) := HOV.out.cell 0
   have hlo := HOV.out.lt
   have e2 : wv.cell? ⟨gx, 2, none⟩ = some (.int .i64 0) := HXV.out.cell 2
   have ef2 := HXV.out.frozen 2
   have hxl := HXV.out.lt
   go_upto_region 24 with fail
   clear o0 hlo
   obtain ⟨wv, hwv, hxv, HKP⟩ := Blk.put HXV.out 2 (.int .i64 10)
   rw [hwv]
   have HXV : Hid (Blk wv gx 51 #[.int .i64 vt, .int .i64 (vl : Int), .int .i64 10, .int .i64 0, .int .i64 0, .int .i64 (vs : Int)]) := hxv
   have HDV : Hid (DialIn B F w0 wv d gi gb gh gp F2 A c x) := HDV.out.keep HKP.out (fun k hk (e : k = gx) => HNF.out.1 (by rw [← e]; exact hk)) (fun k (e : k = gx) => by rw [e]; have := HG.out; have := HB.out; omega)
   have HRW := hid (HKP.out.blk HRW.out (fun (e : gr = gx) => by have := HG.out; omega))
   have HOV := hid (HKP.out.blk HOV.out (fun (e : go = gx) => by have := HGO.out; have := HG.out; omega))
   have HKV : Hid (Keep F w wv) := HKV.out.trans HKP.out (fun k (e : k = gx) => .inr (by rw [e]; have := HG.out; omega))
   have HSV : Hid (gr < wv.heap.size) := HRW.out.lt
   clear hwv hxv HKP e2 ef2 hxl
   have CS := hid (dStop_any HDV.out 2 (by omega))
   go_wp2_with fail
   refine CS.out.mono ?_
   rintro en w1 ⟨rfl, hd1, hk1⟩
   have HD1 := hid hd1; have HK1 := hid hk1
   have HRV := hid (hk1.blk HRW.out HNF.out.2)
   have HX1 := hid (hk1.blk HXV.out HNF.out.1)
   clear hd1 hk1 CS
   obtain ⟨x0, x1, x2, x3, x4, x5⟩ := fact6 HX1.out
   have hlx := HX1.out.lt
   obtain ⟨r0, r1, r2, r3, r4, r5⟩ := fact6 HRV.out
   have z0 := HRV.out.frozen 0; have z1 := HRV.out.frozen 1; have z2 := HRV.out.frozen 2; have z3 := HRV.out.frozen 3; have z4 := HRV.out.frozen 4; have z5 := HRV.out.frozen 5
   have hlr := HRV.out.lt
   go_wp2_with fail
   obtain ⟨wz, hwz⟩ : ∃ W, setS6 w1 gr (.int .i64 vt) (.int .i64 (vl : Int)) (.int .i64 10) (.int .i64 0) (.int .i64 0) (.int .i64 (vs : Int)) = W := ⟨_, rfl⟩
   have KZ : Hid (Keep (fun k => k = gr) w1 wz) := by rw [← hwz]; exact setS6_keep _ _ _ _ _ _ _ _
   have BZ := setS6_blk HRV.out (.int .i64 vt) (.int .i64 (vl : Int)) (.int .i64 10) (.int .i64 0) (.int .i64 0) (.int .i64 (vs : Int))
   rw [hwz] at BZ
   unfold setS6 at hwz
   rw [hwz]
   clear hwz
   obtain ⟨t0, t1, t2, t3, t4, t5⟩ := fact6 BZ
   have hf := tailL (G := fun k => k = gr) HF.out HB.out (fun k hk => .inl hk) HKV.out HD1.out HK1.out KZ.out (fun k (e : k = gr) => by rw [e]; exact ⟨by have := HG.out; omega, HSV.out, HNF.out.2⟩)
   refine bodyPost_ret (v := .agg #[.int .i64 vt, .int .i64 (vl : Int), .int .i64 10, .int .i64 0, .int .i64 0, .int .i64 (vs : Int)]) (by simp [results, Tryz.results67, go_sem, t0, t1, t2, t3, t4, t5]) rfl ⟨?_, ?_, hf.2⟩
   ·rw [HR.out]; try rfl
   ·rw [HR.out]; exact hf.1
  have HSE := hid (HSE.out.trans (if_neg k6))
  have k6f : (k == 6) = false := by rw [beq_eq_false_iff_ne]; exact k6
  clear k6
  have HR := hid HSE.out
  clear HSE HP
  have o0 : wv.cell? ⟨go, 0, none⟩ = some (.int .i64 k) := HOV.out.cell 0
  have hlo := HOV.out.lt
  have e2 : wv.cell? ⟨gx, 2, none⟩ = some (.int .i64 0) := HXV.out.cell 2
  have ef2 := HXV.out.frozen 2
  have hxl := HXV.out.lt
  go_upto_region 11 with fail
  clear o0 hlo
  obtain ⟨wv, hwv, hxv, HKP⟩ := Blk.put HXV.out 2 (.int .i64 9)
  rw [hwv]
  have HXV : Hid (Blk wv gx 51 #[.int .i64 vt, .int .i64 (vl : Int), .int .i64 9, .int .i64 0, .int .i64 0, .int .i64 (vs : Int)]) := hxv
  have HDV : Hid (DialIn B F w0 wv d gi gb gh gp F2 A c x) := HDV.out.keep HKP.out (fun k hk (e : k = gx) => HNF.out.1 (by rw [← e]; exact hk)) (fun k (e : k = gx) => by rw [e]; have := HG.out; have := HB.out; omega)
  have HRW := hid (HKP.out.blk HRW.out (fun (e : gr = gx) => by have := HG.out; omega))
  have HOV := hid (HKP.out.blk HOV.out (fun (e : go = gx) => by have := HGO.out; have := HG.out; omega))
  have HKV : Hid (Keep F w wv) := HKV.out.trans HKP.out (fun k (e : k = gx) => .inr (by rw [e]; have := HG.out; omega))
  have HSV : Hid (gr < wv.heap.size) := HRW.out.lt
  clear hwv hxv HKP e2 ef2 hxl
  have CS := hid (dStop_any HDV.out 1 (by omega))
  go_wp2_with fail
  refine CS.out.mono ?_
  rintro en w1 ⟨rfl, hd1, hk1⟩
  have HD1 := hid hd1; have HK1 := hid hk1
  have HRV := hid (hk1.blk HRW.out HNF.out.2)
  have HX1 := hid (hk1.blk HXV.out HNF.out.1)
  clear hd1 hk1 CS
  obtain ⟨x0, x1, x2, x3, x4, x5⟩ := fact6 HX1.out
  have hlx := HX1.out.lt
  obtain ⟨r0, r1, r2, r3, r4, r5⟩ := fact6 HRV.out
  have z0 := HRV.out.frozen 0; have z1 := HRV.out.frozen 1; have z2 := HRV.out.frozen 2; have z3 := HRV.out.frozen 3; have z4 := HRV.out.frozen 4; have z5 := HRV.out.frozen 5
  have hlr := HRV.out.lt
  go_wp2_with fail
  obtain ⟨wz, hwz⟩ : ∃ W, setS6 w1 gr (.int .i64 vt) (.int .i64 (vl : Int)) (.int .i64 9) (.int .i64 0) (.int .i64 0) (.int .i64 (vs : Int)) = W := ⟨_, rfl⟩
  have KZ : Hid (Keep (fun k => k = gr) w1 wz) := by rw [← hwz]; exact setS6_keep _ _ _ _ _ _ _ _
  have BZ := setS6_blk HRV.out (.int .i64 vt) (.int .i64 (vl : Int)) (.int .i64 9) (.int .i64 0) (.int .i64 0) (.int .i64 (vs : Int))
  rw [hwz] at BZ
  unfold setS6 at hwz
  rw [hwz]
  clear hwz
  obtain ⟨t0, t1, t2, t3, t4, t5⟩ := fact6 BZ
  have hf := tailL (G := fun k => k = gr) HF.out HB.out (fun k hk => .inl hk) HKV.out HD1.out HK1.out KZ.out (fun k (e : k = gr) => by rw [e]; exact ⟨by have := HG.out; omega, HSV.out, HNF.out.2⟩)
  refine bodyPost_ret (v := .agg #[.int .i64 vt, .int .i64 (vl : Int), .int .i64 9, .int .i64 0, .int .i64 0, .int .i64 (vs : Int)]) (by simp [results, Tryz.results67, go_sem, t0, t1, t2, t3, t4, t5]) rfl ⟨?_, ?_, hf.2⟩
  ·rw [HR.out]; try rfl
  ·rw [HR.out]; exact hf.1
 ·have hov0 : ov ≠ 0 := by have := HOD.out; simpa using this
  have HS2 : Hid (R = (x.stop ov, (if ov = 3 then 12 else 14), 0, 0)) := by rw [Hid, HSE.out, if_pos hov0]
  clear HSE hov0 HOD
  have e2 : wv.cell? ⟨gx, 2, none⟩ = some (.int .i64 0) := HXV.out.cell 2
  have ef2 := HXV.out.frozen 2
  have hxl := HXV.out.lt
  go_upto_region 4 with fail
  obtain ⟨wv, hwv, hxv, HKP⟩ := Blk.put HXV.out 2 (.int .i64 14)
  rw [hwv]
  have HXV : Hid (Blk wv gx 51 #[.int .i64 vt, .int .i64 (vl : Int), .int .i64 14, .int .i64 0, .int .i64 0, .int .i64 (vs : Int)]) := hxv
  have HDV : Hid (DialIn B F w0 wv d gi gb gh gp F2 A c x) := HDV.out.keep HKP.out (fun k hk (e : k = gx) => HNF.out.1 (by rw [← e]; exact hk)) (fun k (e : k = gx) => by rw [e]; have := HG.out; have := HB.out; omega)
  have HRW := hid (HKP.out.blk HRW.out (fun (e : gr = gx) => by have := HG.out; omega))
  have HKV : Hid (Keep F w wv) := HKV.out.trans HKP.out (fun k (e : k = gx) => .inr (by rw [e]; have := HG.out; omega))
  have HSV : Hid (gr < wv.heap.size) := HRW.out.lt
  clear hwv hxv HKP e2 ef2 hxl
  by_cases h3 : ov = 3
  ·have HR : Hid (R = (x.stop ov, 12, 0, 0)) := by rw [Hid, HS2.out, if_pos h3]
   have h3' : ((ov : Int) == 3) = true := by rw [beq_iff_eq]; omega
   clear HS2 h3
   have e2 : wv.cell? ⟨gx, 2, none⟩ = some (.int .i64 14) := HXV.out.cell 2
   have ef2 := HXV.out.frozen 2
   have hxl := HXV.out.lt
   go_upto_region 6 with fail
   obtain ⟨wv, hwv, hxv, HKP⟩ := Blk.put HXV.out 2 (.int .i64 12)
   rw [hwv]
   have HXV : Hid (Blk wv gx 51 #[.int .i64 vt, .int .i64 (vl : Int), .int .i64 12, .int .i64 0, .int .i64 0, .int .i64 (vs : Int)]) := hxv
   have HDV : Hid (DialIn B F w0 wv d gi gb gh gp F2 A c x) := HDV.out.keep HKP.out (fun k hk (e : k = gx) => HNF.out.1 (by rw [← e]; exact hk)) (fun k (e : k = gx) => by rw [e]; have := HG.out; have := HB.out; omega)
   have HRW := hid (HKP.out.blk HRW.out (fun (e : gr = gx) => by have := HG.out; omega))
   have HKV : Hid (Keep F w wv) := HKV.out.trans HKP.out (fun k (e : k = gx) => .inr (by rw [e]; have := HG.out; omega))
   have HSV : Hid (gr < wv.heap.size) := HRW.out.lt
   clear hwv hxv HKP e2 ef2 hxl
   have CS := hid (dStop_any HDV.out ov (by have := HOV0.out; omega))
   go_wp2_with fail
   refine CS.out.mono ?_
   rintro en w1 ⟨rfl, hd1, hk1⟩
   have HD1 := hid hd1; have HK1 := hid hk1
   have HRV := hid (hk1.blk HRW.out HNF.out.2)
   have HX1 := hid (hk1.blk HXV.out HNF.out.1)
   clear hd1 hk1 CS
   obtain ⟨x0, x1, x2, x3, x4, x5⟩ := fact6 HX1.out
   have hlx := HX1.out.lt
   obtain ⟨r0, r1, r2, r3, r4, r5⟩ := fact6 HRV.out
   have z0 := HRV.out.frozen 0; have z1 := HRV.out.frozen 1; have z2 := HRV.out.frozen 2; have z3 := HRV.out.frozen 3; have z4 := HRV.out.frozen 4; have z5 := HRV.out.frozen 5
   have hlr := HRV.out.lt
   go_wp2_with fail
   obtain ⟨wz, hwz⟩ : ∃ W, setS6 w1 gr (.int .i64 vt) (.int .i64 (vl : Int)) (.int .i64 12) (.int .i64 0) (.int .i64 0) (.int .i64 (vs : Int)) = W := ⟨_, rfl⟩
   have KZ : Hid (Keep (fun k => k = gr) w1 wz) := by rw [← hwz]; exact setS6_keep _ _ _ _ _ _ _ _
   have BZ := setS6_blk HRV.out (.int .i64 vt) (.int .i64 (vl : Int)) (.int .i64 12) (.int .i64 0) (.int .i64 0) (.int .i64 (vs : Int))
   rw [hwz] at BZ
   unfold setS6 at hwz
   rw [hwz]
   clear hwz
   obtain ⟨t0, t1, t2, t3, t4, t5⟩ := fact6 BZ
   have hf := tailL (G := fun k => k = gr) HF.out HB.out (fun k hk => .inl hk) HKV.out HD1.out HK1.out KZ.out (fun k (e : k = gr) => by rw [e]; exact ⟨by have := HG.out; omega, HSV.out, HNF.out.2⟩)
   refine bodyPost_ret (v := .agg #[.int .i64 vt, .int .i64 (vl : Int), .int .i64 12, .int .i64 0, .int .i64 0, .int .i64 (vs : Int)]) (by simp [results, Tryz.results67, go_sem, t0, t1, t2, t3, t4, t5]) rfl ⟨?_, ?_, hf.2⟩
   ·rw [HR.out]; try rfl
   ·rw [HR.out]; exact hf.1
  ·have HR : Hid (R = (x.stop ov, 14, 0, 0)) := by rw [Hid, HS2.out, if_neg h3]
   have h3' : ((ov : Int) == 3) = false := by rw [beq_eq_false_iff_ne]; omega
   clear HS2 h3
   have CS := hid (dStop_any HDV.out ov (by have := HOV0.out; omega))
   go_wp2_with fail
   refine CS.out.mono ?_
   rintro en w1 ⟨rfl, hd1, hk1⟩
   have HD1 := hid hd1; have HK1 := hid hk1
   have HRV := hid (hk1.blk HRW.out HNF.out.2)
   have HX1 := hid (hk1.blk HXV.out HNF.out.1)
   clear hd1 hk1 CS
   obtain ⟨x0, x1, x2, x3, x4, x5⟩ := fact6 HX1.out
   have hlx := HX1.out.lt
   obtain ⟨r0, r1, r2, r3, r4, r5⟩ := fact6 HRV.out
   have z0 := HRV.out.frozen 0; have z1 := HRV.out.frozen 1; have z2 := HRV.out.frozen 2; have z3 := HRV.out.frozen 3; have z4 := HRV.out.frozen 4; have z5 := HRV.out.frozen 5
   have hlr := HRV.out.lt
   go_wp2_with fail
   obtain ⟨wz, hwz⟩ : ∃ W, setS6 w1 gr (.int .i64 vt) (.int .i64 (vl : Int)) (.int .i64 14) (.int .i64 0) (.int .i64 0) (.int .i64 (vs : Int)) = W := ⟨_, rfl⟩
   have KZ : Hid (Keep (fun k => k = gr) w1 wz) := by rw [← hwz]; exact setS6_keep _ _ _ _ _ _ _ _
   have BZ := setS6_blk HRV.out (.int .i64 vt) (.int .i64 (vl : Int)) (.int .i64 14) (.int .i64 0) (.int .i64 0) (.int .i64 (vs : Int))
   rw [hwz] at BZ
   unfold setS6 at hwz
   rw [hwz]
   clear hwz
   obtain ⟨t0, t1, t2, t3, t4, t5⟩ := fact6 BZ
   have hf := tailL (G := fun k => k = gr) HF.out HB.out (fun k hk => .inl hk) HKV.out HD1.out HK1.out KZ.out (fun k (e : k = gr) => by rw [e]; exact ⟨by have := HG.out; omega, HSV.out, HNF.out.2⟩)
   refine bodyPost_ret (v := .agg #[.int .i64 vt, .int .i64 (vl : Int), .int .i64 14, .int .i64 0, .int .i64 0, .int .i64 (vs : Int)]) (by simp [results, Tryz.results67, go_sem, t0, t1, t2, t3, t4, t5]) rfl ⟨?_, ?_, hf.2⟩
   ·rw [HR.out]; try rfl
   ·rw [HR.out]; exact hf.1
end
section
variable {B d gi gb gh gp c : Nat} {F F2 : Nat → Prop} {w0 w w' : World} {A : Option Addr} {x : DialV}
theorem DialOk.clock (h : DialOk x) {now : Int} (hn : now ≤ 9223372036854775807) : DialOk (x.clock now) := by
 obtain ⟨o1, o2, o3, o4, o5, o6, o7, o8, o9, o10⟩ := h
 exact ⟨o1, o2, o3, o4, o5, o6, o7, o8, o9, by show 0 ≤ max x.now now; omega, by show max x.now now ≤ _; omega⟩
theorem DialAt.st (h : DialAt B F w0 w d x) : w.cell? ⟨d, 11, none⟩ = some (.int .i64 (x.st : Int)) := by
 obtain ⟨gi, gb, gh, gp, F2, A, c, h⟩ := h
 exact h.cell 11
set_option maxRecDepth 20000 in
set_option maxHeartbeats 16000000 in
theorem dStep_any (h : DialIn B F w0 w d gi gb gh gp F2 A c x) (now : Int) (hnow : now ≤ 9223372036854775807) (hP : x.st = 0 → x.op.kind = 2 → x.P.length = x.op.arms.length) : Calls Tryz.prog 20 #[.pointer (some ⟨d, 0, none⟩), .int .i64 now] w fun e w' => e = .returned (.tuple #[(x.step now).2.1.val, .bool (x.step now).2.2]) ∧ DialAt B (Fup F w w') w0 w' d (x.step now).1 ∧ Keep F w w' := by
 have HD := hid h
 have HF : Hid (∀ k, F k → B ≤ k ∧ k < w.heap.size) := h.fin
 have HB : Hid (B ≤ w.heap.size) := h.base.2
 have HSE : Hid (x.step now = if x.ready now = false then (x, ⟨0, 0, 0, 0, 0, 0⟩, false) else
  ((x.clock now).does.1, ⟨max x.now now, x.loc, (x.clock now).does.2.1, (x.clock now).does.2.2.1, (x.clock now).does.2.2.2, (x.clock now).does.1.st⟩, true)) := rfl
 obtain ⟨R, hR⟩ : ∃ y, x.step now = y := ⟨_, rfl⟩
 rw [hR] at HSE ⊢
 clear hR
 have HOKC := hid (h.ok.clock hnow)
 have HPC : Hid (x.ready now = true → (x.clock now).op.kind = 2 → (x.clock now).P.length = (x.clock now).op.arms.length) := fun hr => hP (by
  unfold DialV.ready at hr
  simp only [Bool.and_eq_true, decide_eq_true_eq] at hr
  exact hr.1)
 clear hnow hP
 obtain ⟨wa, hwa⟩ : ∃ W, w.alloc (.cells #[.int .i64 0, .int .i64 0, .int .i64 0, .int .i64 0, .int .i64 0, .int .i64 0] 51) = W := ⟨_, rfl⟩
 have HBA : Hid (Below w.heap.size w wa) := by rw [← hwa]; exact (Below.refl _ _).alloc (Nat.le_refl _) _
 have HRA : Hid (Blk wa w.heap.size 51 #[.int .i64 0, .int .i64 0, .int .i64 0, .int .i64 0, .int .i64 0, .int .i64 0]) := by rw [← hwa]; exact Blk.new w _ _
 have HWA := hid hwa
 have HDA := hid (h.below HBA.out)
 clear hwa h
 obtain ⟨gr, hgr⟩ : ∃ y, w.heap.size = y := ⟨_, rfl⟩
 have HG := hid hgr
 rw [hgr] at HRA
 clear hgr
 have HNF : Hid (¬ F gr) := fun hf => by have := HF.out _ hf; have := HG.out; omega
 have CR := hid (dReady_any HDA.out now)
 obtain ⟨rb, hrb⟩ : ∃ y, x.ready now = y := ⟨_, rfl⟩
 rw [hrb] at HSE CR HPC
 clear hrb
 go_enter Tryz.func20, Tryz.ntmps20
 go_upto_region 1 with fail
 rw [HWA.out, HG.out]
 cases rb
 ·have HR := hid (HSE.out.trans (if_pos rfl))
  clear HSE HWA
  go_wp2_with fail
  refine CR.out.mono ?_
  rintro en w1 ⟨rfl, hb⟩
  have HD1 := hid (HDA.out.below hb)
  have HRV := hid (HRA.out.below hb HRA.out.lt)
  have HK1 : Hid (Keep F w w1) := Keep.of_below (HBA.out.trans (hb.mono HBA.out.size))
  clear hb CR
  obtain ⟨r0, r1, r2, r3, r4, r5⟩ := fact6 HRV.out
  have z0 := HRV.out.frozen 0; have z1 := HRV.out.frozen 1; have z2 := HRV.out.frozen 2; have z3 := HRV.out.frozen 3; have z4 := HRV.out.frozen 4; have z5 := HRV.out.frozen 5
  have hlr := HRV.out.lt
  go_wp2_with fail
  obtain ⟨wz, hwz⟩ : ∃ W, setS6 w1 gr (.int .i64 0) (.int .i64 0) (.int .i64 0) (.int .i64 0) (.int .i64 0) (.int .i64 0) = W := ⟨_, rfl⟩
  have KZ : Hid (Keep (fun k => k = gr) w1 wz) := by rw [← hwz]; exact setS6_keep _ _ _ _ _ _ _ _
  have BZ := setS6_blk HRV.out (.int .i64 0) (.int .i64 0) (.int .i64 0) (.int .i64 0) (.int .i64 0) (.int .i64 0)
  rw [hwz] at BZ
  unfold setS6 at hwz
  rw [hwz]
  clear hwz
  obtain ⟨t0, t1, t2, t3, t4, t5⟩ := fact6 BZ
  refine bodyPost_ret (v := .tuple #[.agg #[.int .i64 0, .int .i64 0, .int .i64 0, .int .i64 0, .int .i64 0, .int .i64 0], .bool false]) (by simp [results, Tryz.results20, go_sem, t0, t1, t2, t3, t4, t5]) rfl ⟨?_, ?_, ?_⟩
  ·rw [HR.out]; rfl
  ·rw [HR.out]
   have h1 : DialIn B F w0 wz d gi gb gh gp F2 A c x := HD1.out.keep KZ.out (fun k hk (e : k = gr) => HNF.out (by rw [← e]; exact hk)) (fun k (e : k = gr) => by rw [e]; have := HG.out; have := HB.out; omega)
   exact DialAt.up h1.at HF.out HB.out (HK1.out.trans KZ.out (fun k (e : k = gr) => .inr (by rw [e, HG.out]; exact Nat.le_refl _))).size
  ·exact HK1.out.trans KZ.out (fun k (e : k = gr) => .inr (by rw [e, HG.out]; exact Nat.le_refl _))
 ·have HS2 := hid (HSE.out.trans (if_neg (by decide)))
  have HPD : Hid ((x.clock now).op.kind = 2 → (x.clock now).P.length = (x.clock now).op.arms.length) := HPC.out (by trivial)
  clear HPC
  clear HSE HWA
  obtain ⟨nw, hnw⟩ : ∃ y, x.now = y := ⟨_, rfl⟩
  obtain ⟨lo, hlo⟩ : ∃ y, x.loc = y := ⟨_, rfl⟩
  have HNW := hid hnw
  have HLO := hid hlo
  rw [hnw, hlo] at HS2
  clear hnw hlo
  have HC20 : Hid (∀ W, Below wa.heap.size wa W → W.cell? ⟨d, 20, none⟩ = some (.int .i64 nw)) := fun W hb => by rw [← HNW.out]; exact (HDA.out.below hb).cell 20
  go_wp2_with fail
  refine CR.out.mono ?_
  rintro en w1 ⟨rfl, hb⟩
  have HB1 := hid hb
  have HD1 := hid (HDA.out.below hb)
  have HR1 := hid (HRA.out.below hb HRA.out.lt)
  have HK1 : Hid (Keep F w w1) := Keep.of_below (HBA.out.trans (hb.mono HBA.out.size))
  have c20 := HC20.out w1 hb
  have y20 := HD1.out.blk.frozen 20
  have hdl := HD1.out.lt
  clear hb CR HC20
  go_upto_region 4 with fail
  obtain ⟨mx, hmx⟩ : ∃ y, max nw now = y := ⟨_, rfl⟩
  rw [hmx] at HS2
  have HMX := hid hmx
  obtain ⟨wv, hwv, hbv, HKP⟩ := Blk.put HD1.out.blk 20 (.int .i64 mx)
  have HBV : Hid (Blk wv d 107 ((x.clock now).cells A c gi gh gp)) := by
   have e : (x.clock now).now = mx := by rw [← HMX.out, ← HNW.out]; rfl
   have e2 : (x.clock now).cells A c gi gh gp = (x.cells A c gi gh gp).setIfInBounds 20 (.int .i64 mx) := by rw [← e]; rfl
   rw [Hid, e2]; exact hbv
  try rw [hmx]
  rw [hwv]
  clear hwv hbv c20 y20 hdl hmx
  have HDV : Hid (DialIn B F w0 wv d gi gb gh gp F2 A c (x.clock now)) := HD1.out.turn HKP.out HBV.out rfl rfl rfl rfl rfl rfl rfl HOKC.out
  have hFd := HD.out.fd.1
  have HRV := hid (HKP.out.blk HR1.out (fun (e : gr = d) => HNF.out (by rw [e]; exact hFd)))
  have HKV : Hid (Keep F w wv) := HK1.out.trans HKP.out (fun k (e : k = d) => .inl (by rw [e]; exact hFd))
  obtain ⟨y, hy⟩ : ∃ y, x.clock now = y := ⟨_, rfl⟩
  have HY : Hid (y.now = mx ∧ y.loc = lo) := by rw [← hy, ← HMX.out, ← HNW.out, ← HLO.out]; exact ⟨rfl, rfl⟩
  rw [hy] at HDV HS2 HPD
  obtain ⟨J, hJ⟩ : ∃ z, y.does = z := ⟨_, rfl⟩
  have HJ := hid hJ
  rw [hJ] at HS2
  have CD : Hid (∀ W, Below wv.heap.size wv W → Calls Tryz.prog 67 #[.pointer (some ⟨d, 0, none⟩), .agg #[.int .i64 mx, .int .i64 (lo : Int), .int .i64 0, .int .i64 0, .int .i64 0, .int .i64 0]] W fun e w' => e = .returned (.agg #[.int .i64 mx, .int .i64 (lo : Int), .int .i64 (J.2.1 : Int), .int .i64 (J.2.2.1 : Int), .int .i64 (J.2.2.2 : Int), .int .i64 0]) ∧ DialAt B (Fup F W w') w0 w' d J.1 ∧ Keep F W w') := fun W hb => by
   have := dDoes_any (HDV.out.below hb) mx lo 0 HPD.out
   rw [HJ.out] at this
   exact this
  clear hy hJ hFd
  refine wp_region_ordT wv.heap.size [10] (.val 0 (.val 1 (.val 2 (.val 3 (.val 5 (.val 6 (.val 7 (.three 4 (.two 8 (.val 9 (.two 10 (.op 11 (.op 12 (.nil))) 11 (.op 10 (.op 12 (.nil))))) 11 (.op 8 (.val 9 (.op 10 (.op 12 (.nil)))))) 8 (.two 4 (.val 9 (.two 10 (.op 11 (.op 12 (.nil))) 11 (.op 10 (.op 12 (.nil))))) 11 (.op 4 (.val 9 (.op 10 (.op 12 (.nil)))))) 11 (.two 4 (.op 8 (.val 9 (.op 10 (.op 12 (.nil))))) 8 (.op 4 (.val 9 (.op 10 (.op 12 (.nil)))))))))))))) (by kernel_rfl) (by kernel_rfl) ?_
  obtain ⟨wx, hwx⟩ : ∃ W, wv.drewN 1 = W := ⟨_, rfl⟩
  have HBW : Hid (Below wv.heap.size wv wx) := by rw [← hwx]; exact drewN_below wv 1
  rw [hwx]
  clear hwx
  have HRX := hid (HRV.out.below HBW.out HRV.out.lt)
  have HDX := hid (HDV.out.below HBW.out)
  have c20 : wx.cell? ⟨d, 20, none⟩ = some (.int .i64 mx) := by rw [← HY.out.1]; exact HDX.out.cell 20
  have c10 : wx.cell? ⟨d, 10, none⟩ = some (.int .i64 (lo : Int)) := by rw [← HY.out.2]; exact HDX.out.cell 10
  have hdl := HDX.out.lt
  iterate 7 (refine wpOrdT_val rfl rfl ?_; go_big_quiet_step (fail); refine wpQuiet_nil ?_)
  refine wpOrdT_three rfl rfl rfl ?_ ?_ ?_
  focus
   go_wp2_with fail
   refine KT.same ?_
   refine wpOrdT_two rfl rfl ?_ ?_
   focus
    go_wp2_with fail
    refine KT.same ?_
    refine wpOrdT_val rfl rfl ?_
    go_big_quiet_step (fail)
    refine wpQuiet_nil ?_
    refine wpOrdT_two rfl rfl ?_ ?_
    focus
     have CL := hid (CD.out wx HBW.out)
     go_wp2_with fail
     refine CL.out.mono ?_
     rintro en w1 ⟨rfl, hd1, hk1⟩
     have HE1 := hid hd1; have HKE := hid hk1
     have HRE := hid (hk1.blk HRX.out HNF.out)
     have HS1 : Hid (wv.heap.size ≤ w1.heap.size) := Nat.le_trans HBW.out.size hk1.size
     clear hd1 hk1 CL CD c20 c10 hdl
     go_wp2_with fail
     refine KT.past rfl ?_
     refine wpOrdT_op rfl ?_
     go_wp2_with fail
     obtain ⟨wn, hwn⟩ : ∃ W, w1.alloc (.cells #[.int .i64 0, .int .i64 0, .int .i64 0, .int .i64 0, .int .i64 0, .int .i64 0] 51) = W := ⟨_, rfl⟩
     have HSN : Hid (Blk wn w1.heap.size 51 #[.int .i64 0, .int .i64 0, .int .i64 0, .int .i64 0, .int .i64 0, .int .i64 0]) := by rw [← hwn]; exact Blk.new _ _ _
     have HBN : Hid (Below w1.heap.size w1 wn) := by rw [← hwn]; exact (Below.refl _ _).alloc (Nat.le_refl _) _
     rw [hwn]
     clear hwn
     refine KT.step (HBN.out.mono HS1.out) ?_
     have HGR : Hid (gr < w1.heap.size) := HRE.out.lt
     obtain ⟨gs, hgs⟩ : ∃ y, w1.heap.size = y := ⟨_, rfl⟩
     have HGS := hid hgs
     rw [hgs] at HSN ⊢
     clear hgs
     refine wpOrdT_op rfl ?_
     obtain ⟨f0, f1, f2, f3, f4, f5⟩ := fact6 HSN.out
     have y0 := HSN.out.frozen 0; have y1 := HSN.out.frozen 1; have y2 := HSN.out.frozen 2; have y3 := HSN.out.frozen 3; have y4 := HSN.out.frozen 4; have y5 := HSN.out.frozen 5
     have hls := HSN.out.lt
     go_wp2_with fail
     obtain ⟨wf, hwf⟩ : ∃ W, setS6 wn gs (.int .i64 mx) (.int .i64 (lo : Int)) (.int .i64 (J.2.1 : Int)) (.int .i64 (J.2.2.1 : Int)) (.int .i64 (J.2.2.2 : Int)) (.int .i64 0) = W := ⟨_, rfl⟩
     have HSF : Hid (Blk wf gs 51 #[.int .i64 mx, .int .i64 (lo : Int), .int .i64 (J.2.1 : Int), .int .i64 (J.2.2.1 : Int), .int .i64 (J.2.2.2 : Int), .int .i64 0]) := by rw [← hwf]; exact setS6_blk HSN.out _ _ _ _ _ _
     have HKS : Hid (Keep (fun k => k = gs) wn wf) := by rw [← hwf]; exact setS6_keep _ _ _ _ _ _ _ _
     unfold setS6 at hwf
     rw [hwf]
     clear hwf f0 f1 f2 f3 f4 f5 y0 y1 y2 y3 y4 y5 hls
     refine KT.step (HKS.out.below (Nat.le_trans HS1.out HBN.out.size) (fun k (e : k = gs) => by rw [e, ← HGS.out]; exact HS1.out)) ?_
     refine wpOrdT_nil ?_
     have HKX : Hid (Keep F w wx) := HKV.out.trans (Keep.of_below (F := F) HBW.out) (fun _ h => .inl h)
     have HKQ : Hid (Keep (fun k => k = gr) w1 wf) := (Keep.of_below (F := fun k => k = gr) HBN.out).trans HKS.out (fun k (e : k = gs) => .inr (by rw [e, HGS.out]; exact Nat.le_refl _))
     have TAIL : Hid (∀ w2, Keep (fun k => k = gr ∨ k = gs) wf w2 → DialAt B (Fup F w w2) w0 w2 d J.1 ∧ Keep F w w2) := fun w2 hk2 =>
      tailL (G := fun k => k = gr) HF.out HB.out (fun k hk => .inl hk) HKX.out HE1.out HKE.out (HKQ.out.trans hk2 (fun k h => h.imp id (fun e => by rw [e, HGS.out]; exact Nat.le_refl _))) (fun k (e : k = gr) => by rw [e]; exact ⟨by rw [HG.out]; exact Nat.le_refl _, HRX.out.lt, HNF.out⟩)
     have HDF : Hid (DialAt B (Fup F wx w1) w0 wf d J.1) := (HE1.out.below HBN.out).keep HKS.out (by
      obtain ⟨gi, gb, gh, gp, F2, A, c, h⟩ := HE1.out
      intro k hk (e : k = gs)
      have := (h.fin k hk).2; have := HGS.out; omega) (fun k (e : k = gs) => by rw [e, ← HGS.out]; exact Nat.le_trans HB.out (Nat.le_trans HKV.out.size HS1.out))
     have HRF := hid (HKQ.out)
     have HRV := hid (HKS.out.blk (HRE.out.below HBN.out HRE.out.lt) (fun (e : gr = gs) => by have := HGR.out; have := HGS.out; omega))
     have HGN : Hid (gr ≠ gs) := fun e => by have := HGR.out; have := HGS.out; omega
     clear HKX HKQ HE1 HKE HRE HS1 HBN HGR HGS HSN HKS HRF
    rotate_left 1
    focus
     go_wp2_with fail
     obtain ⟨wn, hwn⟩ : ∃ W, wx.alloc (.cells #[.int .i64 0, .int .i64 0, .int .i64 0, .int .i64 0, .int .i64 0, .int .i64 0] 51) = W := ⟨_, rfl⟩
     have HSN : Hid (Blk wn wx.heap.size 51 #[.int .i64 0, .int .i64 0, .int .i64 0, .int .i64 0, .int .i64 0, .int .i64 0]) := by rw [← hwn]; exact Blk.new _ _ _
     have HBN : Hid (Below wx.heap.size wx wn) := by rw [← hwn]; exact (Below.refl _ _).alloc (Nat.le_refl _) _
     rw [hwn]
     clear hwn
     refine KT.step (HBN.out.mono HBW.out.size) ?_
     have HGR : Hid (gr < wx.heap.size) := HRX.out.lt
     obtain ⟨gs, hgs⟩ : ∃ y, wx.heap.size = y := ⟨_, rfl⟩
     have HGS := hid hgs
     rw [hgs] at HSN ⊢
     clear hgs
     have HNS : Hid (¬ F gs) := fun hf => by have := HF.out _ hf; have := HKV.out.size; have := HBW.out.size; have := HGS.out; omega
     have HDN := HDX.out.below HBN.out
     have c20 : wn.cell? ⟨d, 20, none⟩ = some (.int .i64 mx) := by rw [← HY.out.1]; exact HDN.cell 20
     have c10 : wn.cell? ⟨d, 10, none⟩ = some (.int .i64 (lo : Int)) := by rw [← HY.out.2]; exact HDN.cell 10
     have hdl := HDN.lt
     clear HDN
     refine wpOrdT_op rfl ?_
     have HBX : Hid (Below wv.heap.size wv wn) := HBW.out.trans (HBN.out.mono HBW.out.size)
     have HRN := hid (HRX.out.below HBN.out HRX.out.lt)
     have CL := hid (CD.out wn HBX.out)
     go_wp2_with fail
     refine CL.out.mono ?_
     rintro en w1 ⟨rfl, hd1, hk1⟩
     have HE1 := hid hd1; have HKE := hid hk1
     have HRE := hid (hk1.blk HRN.out HNF.out)
     have HSE2 := hid (hk1.blk HSN.out HNS.out)
     have HS1 : Hid (wv.heap.size ≤ w1.heap.size) := Nat.le_trans HBX.out.size hk1.size
     clear hd1 hk1 CL CD c20 c10 hdl
     go_wp2_with fail
     refine KT.past rfl ?_
     refine wpOrdT_op rfl ?_
     obtain ⟨f0, f1, f2, f3, f4, f5⟩ := fact6 HSE2.out
     have y0 := HSE2.out.frozen 0; have y1 := HSE2.out.frozen 1; have y2 := HSE2.out.frozen 2; have y3 := HSE2.out.frozen 3; have y4 := HSE2.out.frozen 4; have y5 := HSE2.out.frozen 5
     have hls := HSE2.out.lt
     go_wp2_with fail
     obtain ⟨wf, hwf⟩ : ∃ W, setS6 w1 gs (.int .i64 mx) (.int .i64 (lo : Int)) (.int .i64 (J.2.1 : Int)) (.int .i64 (J.2.2.1 : Int)) (.int .i64 (J.2.2.2 : Int)) (.int .i64 0) = W := ⟨_, rfl⟩
     have HSF : Hid (Blk wf gs 51 #[.int .i64 mx, .int .i64 (lo : Int), .int .i64 (J.2.1 : Int), .int .i64 (J.2.2.1 : Int), .int .i64 (J.2.2.2 : Int), .int .i64 0]) := by rw [← hwf]; exact setS6_blk HSE2.out _ _ _ _ _ _
     have HKS : Hid (Keep (fun k => k = gs) w1 wf) := by rw [← hwf]; exact setS6_keep _ _ _ _ _ _ _ _
     unfold setS6 at hwf
     rw [hwf]
     clear hwf f0 f1 f2 f3 f4 f5 y0 y1 y2 y3 y4 y5 hls
     have HVG : Hid (wv.heap.size ≤ gs) := by rw [Hid, ← HGS.out]; exact HBW.out.size
     refine KT.step (HKS.out.below HS1.out (fun k (e : k = gs) => by rw [e]; exact HVG.out)) ?_
     refine wpOrdT_nil ?_
     have HKX : Hid (Keep F w wn) := HKV.out.trans (Keep.of_below (F := F) HBX.out) (fun _ h => .inl h)
     have HWG : Hid (w.heap.size ≤ gs) := Nat.le_trans HKV.out.size HVG.out
     have TAIL : Hid (∀ w2, Keep (fun k => k = gr ∨ k = gs) wf w2 → DialAt B (Fup F w w2) w0 w2 d J.1 ∧ Keep F w w2) := fun w2 hk2 =>
      tailL (G := fun k => k = gr ∨ k = gs) HF.out HB.out (fun k hk => .inl hk) HKX.out HE1.out HKE.out ((HKS.out.mono (fun k _ e => .inr e) : Keep (fun k => k = gr ∨ k = gs) w1 wf).trans hk2 (fun k h => .inl h)) (fun k h => by
       rcases h with e | e
       ·rw [e]; exact ⟨by rw [HG.out]; exact Nat.le_refl _, HRN.out.lt, HNF.out⟩
       ·rw [e]; exact ⟨HWG.out, HSN.out.lt, HNS.out⟩)
     have HDF : Hid (DialAt B (Fup F wn w1) w0 wf d J.1) := HE1.out.keep HKS.out (by
      rintro k (hk | hk) (e : k = gs)
      ·exact HNS.out (by rw [← e]; exact hk)
      ·have := HSN.out.lt; have := hk.1; omega) (fun k (e : k = gs) => by rw [e]; exact Nat.le_trans HB.out HWG.out)
     have HRV := hid (HKS.out.blk HRE.out (fun (e : gr = gs) => by have := HGR.out; have := HGS.out; omega))
     have HGN : Hid (gr ≠ gs) := fun e => by have := HGR.out; have := HGS.out; omega
     clear HKX HE1 HKE HRE HS1 HBN HGR HGS HSN HKS HBX HRN HSE2 HNS HVG HWG
   rotate_left 2
   focus
    go_wp2_with fail
    obtain ⟨wn, hwn⟩ : ∃ W, wx.alloc (.cells #[.int .i64 0, .int .i64 0, .int .i64 0, .int .i64 0, .int .i64 0, .int .i64 0] 51) = W := ⟨_, rfl⟩
    have HSN : Hid (Blk wn wx.heap.size 51 #[.int .i64 0, .int .i64 0, .int .i64 0, .int .i64 0, .int .i64 0, .int .i64 0]) := by rw [← hwn]; exact Blk.new _ _ _
    have HBN : Hid (Below wx.heap.size wx wn) := by rw [← hwn]; exact (Below.refl _ _).alloc (Nat.le_refl _) _
    rw [hwn]
    clear hwn
    refine KT.step (HBN.out.mono HBW.out.size) ?_
    have HGR : Hid (gr < wx.heap.size) := HRX.out.lt
    obtain ⟨gs, hgs⟩ : ∃ y, wx.heap.size = y := ⟨_, rfl⟩
    have HGS := hid hgs
    rw [hgs] at HSN ⊢
    clear hgs
    have HNS : Hid (¬ F gs) := fun hf => by have := HF.out _ hf; have := HKV.out.size; have := HBW.out.size; have := HGS.out; omega
    have HDN := HDX.out.below HBN.out
    have c20 : wn.cell? ⟨d, 20, none⟩ = some (.int .i64 mx) := by rw [← HY.out.1]; exact HDN.cell 20
    have c10 : wn.cell? ⟨d, 10, none⟩ = some (.int .i64 (lo : Int)) := by rw [← HY.out.2]; exact HDN.cell 10
    have hdl := HDN.lt
    clear HDN
    refine wpOrdT_op rfl ?_
    go_wp2_with fail
    refine KT.same ?_
    refine wpOrdT_val rfl rfl ?_
    go_big_quiet_step (fail)
    refine wpQuiet_nil ?_
    refine wpOrdT_op rfl ?_
    have HBX : Hid (Below wv.heap.size wv wn) := HBW.out.trans (HBN.out.mono HBW.out.size)
    have HRN := hid (HRX.out.below HBN.out HRX.out.lt)
    have CL := hid (CD.out wn HBX.out)
    go_wp2_with fail
    refine CL.out.mono ?_
    rintro en w1 ⟨rfl, hd1, hk1⟩
    have HE1 := hid hd1; have HKE := hid hk1
    have HRE := hid (hk1.blk HRN.out HNF.out)
    have HSE2 := hid (hk1.blk HSN.out HNS.out)
    have HS1 : Hid (wv.heap.size ≤ w1.heap.size) := Nat.le_trans HBX.out.size hk1.size
    clear hd1 hk1 CL CD c20 c10 hdl
    go_wp2_with fail
    refine KT.past rfl ?_
    refine wpOrdT_op rfl ?_
    obtain ⟨f0, f1, f2, f3, f4, f5⟩ := fact6 HSE2.out
    have y0 := HSE2.out.frozen 0; have y1 := HSE2.out.frozen 1; have y2 := HSE2.out.frozen 2; have y3 := HSE2.out.frozen 3; have y4 := HSE2.out.frozen 4; have y5 := HSE2.out.frozen 5
    have hls := HSE2.out.lt
    go_wp2_with fail
    obtain ⟨wf, hwf⟩ : ∃ W, setS6 w1 gs (.int .i64 mx) (.int .i64 (lo : Int)) (.int .i64 (J.2.1 : Int)) (.int .i64 (J.2.2.1 : Int)) (.int .i64 (J.2.2.2 : Int)) (.int .i64 0) = W := ⟨_, rfl⟩
    have HSF : Hid (Blk wf gs 51 #[.int .i64 mx, .int .i64 (lo : Int), .int .i64 (J.2.1 : Int), .int .i64 (J.2.2.1 : Int), .int .i64 (J.2.2.2 : Int), .int .i64 0]) := by rw [← hwf]; exact setS6_blk HSE2.out _ _ _ _ _ _
    have HKS : Hid (Keep (fun k => k = gs) w1 wf) := by rw [← hwf]; exact setS6_keep _ _ _ _ _ _ _ _
    unfold setS6 at hwf
    rw [hwf]
    clear hwf f0 f1 f2 f3 f4 f5 y0 y1 y2 y3 y4 y5 hls
    have HVG : Hid (wv.heap.size ≤ gs) := by rw [Hid, ← HGS.out]; exact HBW.out.size
    refine KT.step (HKS.out.below HS1.out (fun k (e : k = gs) => by rw [e]; exact HVG.out)) ?_
    refine wpOrdT_nil ?_
    have HKX : Hid (Keep F w wn) := HKV.out.trans (Keep.of_below (F := F) HBX.out) (fun _ h => .inl h)
    have HWG : Hid (w.heap.size ≤ gs) := Nat.le_trans HKV.out.size HVG.out
    have TAIL : Hid (∀ w2, Keep (fun k => k = gr ∨ k = gs) wf w2 → DialAt B (Fup F w w2) w0 w2 d J.1 ∧ Keep F w w2) := fun w2 hk2 =>
     tailL (G := fun k => k = gr ∨ k = gs) HF.out HB.out (fun k hk => .inl hk) HKX.out HE1.out HKE.out ((HKS.out.mono (fun k _ e => .inr e) : Keep (fun k => k = gr ∨ k = gs) w1 wf).trans hk2 (fun k h => .inl h)) (fun k h => by
      rcases h with e | e
      ·rw [e]; exact ⟨by rw [HG.out]; exact Nat.le_refl _, HRN.out.lt, HNF.out⟩
      ·rw [e]; exact ⟨HWG.out, HSN.out.lt, HNS.out⟩)
    have HDF : Hid (DialAt B (Fup F wn w1) w0 wf d J.1) := HE1.out.keep HKS.out (by
     rintro k (hk | hk) (e : k = gs)
     ·exact HNS.out (by rw [← e]; exact hk)
     ·have := HSN.out.lt; have := hk.1; omega) (fun k (e : k = gs) => by rw [e]; exact Nat.le_trans HB.out HWG.out)
    have HRV := hid (HKS.out.blk HRE.out (fun (e : gr = gs) => by have := HGR.out; have := HGS.out; omega))
    have HGN : Hid (gr ≠ gs) := fun e => by have := HGR.out; have := HGS.out; omega
    clear HKX HE1 HKE HRE HS1 HBN HGR HGS HSN HKS HBX HRN HSE2 HNS HVG HWG
  rotate_left 3
  focus
   go_wp2_with fail
   refine KT.same ?_
   refine wpOrdT_two rfl rfl ?_ ?_
   focus
    go_wp2_with fail
    refine KT.same ?_
    refine wpOrdT_val rfl rfl ?_
    go_big_quiet_step (fail)
    refine wpQuiet_nil ?_
    refine wpOrdT_two rfl rfl ?_ ?_
    focus
     have CL := hid (CD.out wx HBW.out)
     go_wp2_with fail
     refine CL.out.mono ?_
     rintro en w1 ⟨rfl, hd1, hk1⟩
     have HE1 := hid hd1; have HKE := hid hk1
     have HRE := hid (hk1.blk HRX.out HNF.out)
     have HS1 : Hid (wv.heap.size ≤ w1.heap.size) := Nat.le_trans HBW.out.size hk1.size
     clear hd1 hk1 CL CD c20 c10 hdl
     go_wp2_with fail
     refine KT.past rfl ?_
     refine wpOrdT_op rfl ?_
     go_wp2_with fail
     obtain ⟨wn, hwn⟩ : ∃ W, w1.alloc (.cells #[.int .i64 0, .int .i64 0, .int .i64 0, .int .i64 0, .int .i64 0, .int .i64 0] 51) = W := ⟨_, rfl⟩
     have HSN : Hid (Blk wn w1.heap.size 51 #[.int .i64 0, .int .i64 0, .int .i64 0, .int .i64 0, .int .i64 0, .int .i64 0]) := by rw [← hwn]; exact Blk.new _ _ _
     have HBN : Hid (Below w1.heap.size w1 wn) := by rw [← hwn]; exact (Below.refl _ _).alloc (Nat.le_refl _) _
     rw [hwn]
     clear hwn
     refine KT.step (HBN.out.mono HS1.out) ?_
     have HGR : Hid (gr < w1.heap.size) := HRE.out.lt
     obtain ⟨gs, hgs⟩ : ∃ y, w1.heap.size = y := ⟨_, rfl⟩
     have HGS := hid hgs
     rw [hgs] at HSN ⊢
     clear hgs
     refine wpOrdT_op rfl ?_
     obtain ⟨f0, f1, f2, f3, f4, f5⟩ := fact6 HSN.out
     have y0 := HSN.out.frozen 0; have y1 := HSN.out.frozen 1; have y2 := HSN.out.frozen 2; have y3 := HSN.out.frozen 3; have y4 := HSN.out.frozen 4; have y5 := HSN.out.frozen 5
     have hls := HSN.out.lt
     go_wp2_with fail
     obtain ⟨wf, hwf⟩ : ∃ W, setS6 wn gs (.int .i64 mx) (.int .i64 (lo : Int)) (.int .i64 (J.2.1 : Int)) (.int .i64 (J.2.2.1 : Int)) (.int .i64 (J.2.2.2 : Int)) (.int .i64 0) = W := ⟨_, rfl⟩
     have HSF : Hid (Blk wf gs 51 #[.int .i64 mx, .int .i64 (lo : Int), .int .i64 (J.2.1 : Int), .int .i64 (J.2.2.1 : Int), .int .i64 (J.2.2.2 : Int), .int .i64 0]) := by rw [← hwf]; exact setS6_blk HSN.out _ _ _ _ _ _
     have HKS : Hid (Keep (fun k => k = gs) wn wf) := by rw [← hwf]; exact setS6_keep _ _ _ _ _ _ _ _
     unfold setS6 at hwf
     rw [hwf]
     clear hwf f0 f1 f2 f3 f4 f5 y0 y1 y2 y3 y4 y5 hls
     refine KT.step (HKS.out.below (Nat.le_trans HS1.out HBN.out.size) (fun k (e : k = gs) => by rw [e, ← HGS.out]; exact HS1.out)) ?_
     refine wpOrdT_nil ?_
     have HKX : Hid (Keep F w wx) := HKV.out.trans (Keep.of_below (F := F) HBW.out) (fun _ h => .inl h)
     have HKQ : Hid (Keep (fun k => k = gr) w1 wf) := (Keep.of_below (F := fun k => k = gr) HBN.out).trans HKS.out (fun k (e : k = gs) => .inr (by rw [e, HGS.out]; exact Nat.le_refl _))
     have TAIL : Hid (∀ w2, Keep (fun k => k = gr ∨ k = gs) wf w2 → DialAt B (Fup F w w2) w0 w2 d J.1 ∧ Keep F w w2) := fun w2 hk2 =>
      tailL (G := fun k => k = gr) HF.out HB.out (fun k hk => .inl hk) HKX.out HE1.out HKE.out (HKQ.out.trans hk2 (fun k h => h.imp id (fun e => by rw [e, HGS.out]; exact Nat.le_refl _))) (fun k (e : k = gr) => by rw [e]; exact ⟨by rw [HG.out]; exact Nat.le_refl _, HRX.out.lt, HNF.out⟩)
     have HDF : Hid (DialAt B (Fup F wx w1) w0 wf d J.1) := (HE1.out.below HBN.out).keep HKS.out (by
      obtain ⟨gi, gb, gh, gp, F2, A, c, h⟩ := HE1.out
      intro k hk (e : k = gs)
      have := (h.fin k hk).2; have := HGS.out; omega) (fun k (e : k = gs) => by rw [e, ← HGS.out]; exact Nat.le_trans HB.out (Nat.le_trans HKV.out.size HS1.out))
     have HRF := hid (HKQ.out)
     have HRV := hid (HKS.out.blk (HRE.out.below HBN.out HRE.out.lt) (fun (e : gr = gs) => by have := HGR.out; have := HGS.out; omega))
     have HGN : Hid (gr ≠ gs) := fun e => by have := HGR.out; have := HGS.out; omega
     clear HKX HKQ HE1 HKE HRE HS1 HBN HGR HGS HSN HKS HRF
    rotate_left 1
    focus
     go_wp2_with fail
     obtain ⟨wn, hwn⟩ : ∃ W, wx.alloc (.cells #[.int .i64 0, .int .i64 0, .int .i64 0, .int .i64 0, .int .i64 0, .int .i64 0] 51) = W := ⟨_, rfl⟩
     have HSN : Hid (Blk wn wx.heap.size 51 #[.int .i64 0, .int .i64 0, .int .i64 0, .int .i64 0, .int .i64 0, .int .i64 0]) := by rw [← hwn]; exact Blk.new _ _ _
     have HBN : Hid (Below wx.heap.size wx wn) := by rw [← hwn]; exact (Below.refl _ _).alloc (Nat.le_refl _) _
     rw [hwn]
     clear hwn
     refine KT.step (HBN.out.mono HBW.out.size) ?_
     have HGR : Hid (gr < wx.heap.size) := HRX.out.lt
     obtain ⟨gs, hgs⟩ : ∃ y, wx.heap.size = y := ⟨_, rfl⟩
     have HGS := hid hgs
     rw [hgs] at HSN ⊢
     clear hgs
     have HNS : Hid (¬ F gs) := fun hf => by have := HF.out _ hf; have := HKV.out.size; have := HBW.out.size; have := HGS.out; omega
     have HDN := HDX.out.below HBN.out
     have c20 : wn.cell? ⟨d, 20, none⟩ = some (.int .i64 mx) := by rw [← HY.out.1]; exact HDN.cell 20
     have c10 : wn.cell? ⟨d, 10, none⟩ = some (.int .i64 (lo : Int)) := by rw [← HY.out.2]; exact HDN.cell 10
     have hdl := HDN.lt
     clear HDN
     refine wpOrdT_op rfl ?_
     have HBX : Hid (Below wv.heap.size wv wn) := HBW.out.trans (HBN.out.mono HBW.out.size)
     have HRN := hid (HRX.out.below HBN.out HRX.out.lt)
     have CL := hid (CD.out wn HBX.out)
     go_wp2_with fail
     refine CL.out.mono ?_
     rintro en w1 ⟨rfl, hd1, hk1⟩
     have HE1 := hid hd1; have HKE := hid hk1
     have HRE := hid (hk1.blk HRN.out HNF.out)
     have HSE2 := hid (hk1.blk HSN.out HNS.out)
     have HS1 : Hid (wv.heap.size ≤ w1.heap.size) := Nat.le_trans HBX.out.size hk1.size
     clear hd1 hk1 CL CD c20 c10 hdl
     go_wp2_with fail
     refine KT.past rfl ?_
     refine wpOrdT_op rfl ?_
     obtain ⟨f0, f1, f2, f3, f4, f5⟩ := fact6 HSE2.out
     have y0 := HSE2.out.frozen 0; have y1 := HSE2.out.frozen 1; have y2 := HSE2.out.frozen 2; have y3 := HSE2.out.frozen 3; have y4 := HSE2.out.frozen 4; have y5 := HSE2.out.frozen 5
     have hls := HSE2.out.lt
     go_wp2_with fail
     obtain ⟨wf, hwf⟩ : ∃ W, setS6 w1 gs (.int .i64 mx) (.int .i64 (lo : Int)) (.int .i64 (J.2.1 : Int)) (.int .i64 (J.2.2.1 : Int)) (.int .i64 (J.2.2.2 : Int)) (.int .i64 0) = W := ⟨_, rfl⟩
     have HSF : Hid (Blk wf gs 51 #[.int .i64 mx, .int .i64 (lo : Int), .int .i64 (J.2.1 : Int), .int .i64 (J.2.2.1 : Int), .int .i64 (J.2.2.2 : Int), .int .i64 0]) := by rw [← hwf]; exact setS6_blk HSE2.out _ _ _ _ _ _
     have HKS : Hid (Keep (fun k => k = gs) w1 wf) := by rw [← hwf]; exact setS6_keep _ _ _ _ _ _ _ _
     unfold setS6 at hwf
     rw [hwf]
     clear hwf f0 f1 f2 f3 f4 f5 y0 y1 y2 y3 y4 y5 hls
     have HVG : Hid (wv.heap.size ≤ gs) := by rw [Hid, ← HGS.out]; exact HBW.out.size
     refine KT.step (HKS.out.below HS1.out (fun k (e : k = gs) => by rw [e]; exact HVG.out)) ?_
     refine wpOrdT_nil ?_
     have HKX : Hid (Keep F w wn) := HKV.out.trans (Keep.of_below (F := F) HBX.out) (fun _ h => .inl h)
     have HWG : Hid (w.heap.size ≤ gs) := Nat.le_trans HKV.out.size HVG.out
     have TAIL : Hid (∀ w2, Keep (fun k => k = gr ∨ k = gs) wf w2 → DialAt B (Fup F w w2) w0 w2 d J.1 ∧ Keep F w w2) := fun w2 hk2 =>
      tailL (G := fun k => k = gr ∨ k = gs) HF.out HB.out (fun k hk => .inl hk) HKX.out HE1.out HKE.out ((HKS.out.mono (fun k _ e => .inr e) : Keep (fun k => k = gr ∨ k = gs) w1 wf).trans hk2 (fun k h => .inl h)) (fun k h => by
       rcases h with e | e
       ·rw [e]; exact ⟨by rw [HG.out]; exact Nat.le_refl _, HRN.out.lt, HNF.out⟩
       ·rw [e]; exact ⟨HWG.out, HSN.out.lt, HNS.out⟩)
     have HDF : Hid (DialAt B (Fup F wn w1) w0 wf d J.1) := HE1.out.keep HKS.out (by
      rintro k (hk | hk) (e : k = gs)
      ·exact HNS.out (by rw [← e]; exact hk)
      ·have := HSN.out.lt; have := hk.1; omega) (fun k (e : k = gs) => by rw [e]; exact Nat.le_trans HB.out HWG.out)
     have HRV := hid (HKS.out.blk HRE.out (fun (e : gr = gs) => by have := HGR.out; have := HGS.out; omega))
     have HGN : Hid (gr ≠ gs) := fun e => by have := HGR.out; have := HGS.out; omega
     clear HKX HE1 HKE HRE HS1 HBN HGR HGS HSN HKS HBX HRN HSE2 HNS HVG HWG
   rotate_left 2
   focus
    go_wp2_with fail
    obtain ⟨wn, hwn⟩ : ∃ W, wx.alloc (.cells #[.int .i64 0, .int .i64 0, .int .i64 0, .int .i64 0, .int .i64 0, .int .i64 0] 51) = W := ⟨_, rfl⟩
    have HSN : Hid (Blk wn wx.heap.size 51 #[.int .i64 0, .int .i64 0, .int .i64 0, .int .i64 0, .int .i64 0, .int .i64 0]) := by rw [← hwn]; exact Blk.new _ _ _
    have HBN : Hid (Below wx.heap.size wx wn) := by rw [← hwn]; exact (Below.refl _ _).alloc (Nat.le_refl _) _
    rw [hwn]
    clear hwn
    refine KT.step (HBN.out.mono HBW.out.size) ?_
    have HGR : Hid (gr < wx.heap.size) := HRX.out.lt
    obtain ⟨gs, hgs⟩ : ∃ y, wx.heap.size = y := ⟨_, rfl⟩
    have HGS := hid hgs
    rw [hgs] at HSN ⊢
    clear hgs
    have HNS : Hid (¬ F gs) := fun hf => by have := HF.out _ hf; have := HKV.out.size; have := HBW.out.size; have := HGS.out; omega
    have HDN := HDX.out.below HBN.out
    have c20 : wn.cell? ⟨d, 20, none⟩ = some (.int .i64 mx) := by rw [← HY.out.1]; exact HDN.cell 20
    have c10 : wn.cell? ⟨d, 10, none⟩ = some (.int .i64 (lo : Int)) := by rw [← HY.out.2]; exact HDN.cell 10
    have hdl := HDN.lt
    clear HDN
    refine wpOrdT_op rfl ?_
    go_wp2_with fail
    refine KT.same ?_
    refine wpOrdT_val rfl rfl ?_
    go_big_quiet_step (fail)
    refine wpQuiet_nil ?_
    refine wpOrdT_op rfl ?_
    have HBX : Hid (Below wv.heap.size wv wn) := HBW.out.trans (HBN.out.mono HBW.out.size)
    have HRN := hid (HRX.out.below HBN.out HRX.out.lt)
    have CL := hid (CD.out wn HBX.out)
    go_wp2_with fail
    refine CL.out.mono ?_
    rintro en w1 ⟨rfl, hd1, hk1⟩
    have HE1 := hid hd1; have HKE := hid hk1
    have HRE := hid (hk1.blk HRN.out HNF.out)
    have HSE2 := hid (hk1.blk HSN.out HNS.out)
    have HS1 : Hid (wv.heap.size ≤ w1.heap.size) := Nat.le_trans HBX.out.size hk1.size
    clear hd1 hk1 CL CD c20 c10 hdl
    go_wp2_with fail
    refine KT.past rfl ?_
    refine wpOrdT_op rfl ?_
    obtain ⟨f0, f1, f2, f3, f4, f5⟩ := fact6 HSE2.out
    have y0 := HSE2.out.frozen 0; have y1 := HSE2.out.frozen 1; have y2 := HSE2.out.frozen 2; have y3 := HSE2.out.frozen 3; have y4 := HSE2.out.frozen 4; have y5 := HSE2.out.frozen 5
    have hls := HSE2.out.lt
    go_wp2_with fail
    obtain ⟨wf, hwf⟩ : ∃ W, setS6 w1 gs (.int .i64 mx) (.int .i64 (lo : Int)) (.int .i64 (J.2.1 : Int)) (.int .i64 (J.2.2.1 : Int)) (.int .i64 (J.2.2.2 : Int)) (.int .i64 0) = W := ⟨_, rfl⟩
    have HSF : Hid (Blk wf gs 51 #[.int .i64 mx, .int .i64 (lo : Int), .int .i64 (J.2.1 : Int), .int .i64 (J.2.2.1 : Int), .int .i64 (J.2.2.2 : Int), .int .i64 0]) := by rw [← hwf]; exact setS6_blk HSE2.out _ _ _ _ _ _
    have HKS : Hid (Keep (fun k => k = gs) w1 wf) := by rw [← hwf]; exact setS6_keep _ _ _ _ _ _ _ _
    unfold setS6 at hwf
    rw [hwf]
    clear hwf f0 f1 f2 f3 f4 f5 y0 y1 y2 y3 y4 y5 hls
    have HVG : Hid (wv.heap.size ≤ gs) := by rw [Hid, ← HGS.out]; exact HBW.out.size
    refine KT.step (HKS.out.below HS1.out (fun k (e : k = gs) => by rw [e]; exact HVG.out)) ?_
    refine wpOrdT_nil ?_
    have HKX : Hid (Keep F w wn) := HKV.out.trans (Keep.of_below (F := F) HBX.out) (fun _ h => .inl h)
    have HWG : Hid (w.heap.size ≤ gs) := Nat.le_trans HKV.out.size HVG.out
    have TAIL : Hid (∀ w2, Keep (fun k => k = gr ∨ k = gs) wf w2 → DialAt B (Fup F w w2) w0 w2 d J.1 ∧ Keep F w w2) := fun w2 hk2 =>
     tailL (G := fun k => k = gr ∨ k = gs) HF.out HB.out (fun k hk => .inl hk) HKX.out HE1.out HKE.out ((HKS.out.mono (fun k _ e => .inr e) : Keep (fun k => k = gr ∨ k = gs) w1 wf).trans hk2 (fun k h => .inl h)) (fun k h => by
      rcases h with e | e
      ·rw [e]; exact ⟨by rw [HG.out]; exact Nat.le_refl _, HRN.out.lt, HNF.out⟩
      ·rw [e]; exact ⟨HWG.out, HSN.out.lt, HNS.out⟩)
    have HDF : Hid (DialAt B (Fup F wn w1) w0 wf d J.1) := HE1.out.keep HKS.out (by
     rintro k (hk | hk) (e : k = gs)
     ·exact HNS.out (by rw [← e]; exact hk)
     ·have := HSN.out.lt; have := hk.1; omega) (fun k (e : k = gs) => by rw [e]; exact Nat.le_trans HB.out HWG.out)
    have HRV := hid (HKS.out.blk HRE.out (fun (e : gr = gs) => by have := HGR.out; have := HGS.out; omega))
    have HGN : Hid (gr ≠ gs) := fun e => by have := HGR.out; have := HGS.out; omega
    clear HKX HE1 HKE HRE HS1 HBN HGR HGS HSN HKS HBX HRN HSE2 HNS HVG HWG
  rotate_left 3
  focus
   go_wp2_with fail
   obtain ⟨wn, hwn⟩ : ∃ W, wx.alloc (.cells #[.int .i64 0, .int .i64 0, .int .i64 0, .int .i64 0, .int .i64 0, .int .i64 0] 51) = W := ⟨_, rfl⟩
   have HSN : Hid (Blk wn wx.heap.size 51 #[.int .i64 0, .int .i64 0, .int .i64 0, .int .i64 0, .int .i64 0, .int .i64 0]) := by rw [← hwn]; exact Blk.new _ _ _
   have HBN : Hid (Below wx.heap.size wx wn) := by rw [← hwn]; exact (Below.refl _ _).alloc (Nat.le_refl _) _
   rw [hwn]
   clear hwn
   refine KT.step (HBN.out.mono HBW.out.size) ?_
   have HGR : Hid (gr < wx.heap.size) := HRX.out.lt
   obtain ⟨gs, hgs⟩ : ∃ y, wx.heap.size = y := ⟨_, rfl⟩
   have HGS := hid hgs
   rw [hgs] at HSN ⊢
   clear hgs
   have HNS : Hid (¬ F gs) := fun hf => by have := HF.out _ hf; have := HKV.out.size; have := HBW.out.size; have := HGS.out; omega
   have HDN := HDX.out.below HBN.out
   have c20 : wn.cell? ⟨d, 20, none⟩ = some (.int .i64 mx) := by rw [← HY.out.1]; exact HDN.cell 20
   have c10 : wn.cell? ⟨d, 10, none⟩ = some (.int .i64 (lo : Int)) := by rw [← HY.out.2]; exact HDN.cell 10
   have hdl := HDN.lt
   clear HDN
   refine wpOrdT_two rfl rfl ?_ ?_
   focus
    go_wp2_with fail
    refine KT.same ?_
    refine wpOrdT_op rfl ?_
    go_wp2_with fail
    refine KT.same ?_
    refine wpOrdT_val rfl rfl ?_
    go_big_quiet_step (fail)
    refine wpQuiet_nil ?_
    refine wpOrdT_op rfl ?_
    have HBX : Hid (Below wv.heap.size wv wn) := HBW.out.trans (HBN.out.mono HBW.out.size)
    have HRN := hid (HRX.out.below HBN.out HRX.out.lt)
    have CL := hid (CD.out wn HBX.out)
    go_wp2_with fail
    refine CL.out.mono ?_
    rintro en w1 ⟨rfl, hd1, hk1⟩
    have HE1 := hid hd1; have HKE := hid hk1
    have HRE := hid (hk1.blk HRN.out HNF.out)
    have HSE2 := hid (hk1.blk HSN.out HNS.out)
    have HS1 : Hid (wv.heap.size ≤ w1.heap.size) := Nat.le_trans HBX.out.size hk1.size
    clear hd1 hk1 CL CD c20 c10 hdl
    go_wp2_with fail
    refine KT.past rfl ?_
    refine wpOrdT_op rfl ?_
    obtain ⟨f0, f1, f2, f3, f4, f5⟩ := fact6 HSE2.out
    have y0 := HSE2.out.frozen 0; have y1 := HSE2.out.frozen 1; have y2 := HSE2.out.frozen 2; have y3 := HSE2.out.frozen 3; have y4 := HSE2.out.frozen 4; have y5 := HSE2.out.frozen 5
    have hls := HSE2.out.lt
    go_wp2_with fail
    obtain ⟨wf, hwf⟩ : ∃ W, setS6 w1 gs (.int .i64 mx) (.int .i64 (lo : Int)) (.int .i64 (J.2.1 : Int)) (.int .i64 (J.2.2.1 : Int)) (.int .i64 (J.2.2.2 : Int)) (.int .i64 0) = W := ⟨_, rfl⟩
    have HSF : Hid (Blk wf gs 51 #[.int .i64 mx, .int .i64 (lo : Int), .int .i64 (J.2.1 : Int), .int .i64 (J.2.2.1 : Int), .int .i64 (J.2.2.2 : Int), .int .i64 0]) := by rw [← hwf]; exact setS6_blk HSE2.out _ _ _ _ _ _
    have HKS : Hid (Keep (fun k => k = gs) w1 wf) := by rw [← hwf]; exact setS6_keep _ _ _ _ _ _ _ _
    unfold setS6 at hwf
    rw [hwf]
    clear hwf f0 f1 f2 f3 f4 f5 y0 y1 y2 y3 y4 y5 hls
    have HVG : Hid (wv.heap.size ≤ gs) := by rw [Hid, ← HGS.out]; exact HBW.out.size
    refine KT.step (HKS.out.below HS1.out (fun k (e : k = gs) => by rw [e]; exact HVG.out)) ?_
    refine wpOrdT_nil ?_
    have HKX : Hid (Keep F w wn) := HKV.out.trans (Keep.of_below (F := F) HBX.out) (fun _ h => .inl h)
    have HWG : Hid (w.heap.size ≤ gs) := Nat.le_trans HKV.out.size HVG.out
    have TAIL : Hid (∀ w2, Keep (fun k => k = gr ∨ k = gs) wf w2 → DialAt B (Fup F w w2) w0 w2 d J.1 ∧ Keep F w w2) := fun w2 hk2 =>
     tailL (G := fun k => k = gr ∨ k = gs) HF.out HB.out (fun k hk => .inl hk) HKX.out HE1.out HKE.out ((HKS.out.mono (fun k _ e => .inr e) : Keep (fun k => k = gr ∨ k = gs) w1 wf).trans hk2 (fun k h => .inl h)) (fun k h => by
      rcases h with e | e
      ·rw [e]; exact ⟨by rw [HG.out]; exact Nat.le_refl _, HRN.out.lt, HNF.out⟩
      ·rw [e]; exact ⟨HWG.out, HSN.out.lt, HNS.out⟩)
    have HDF : Hid (DialAt B (Fup F wn w1) w0 wf d J.1) := HE1.out.keep HKS.out (by
     rintro k (hk | hk) (e : k = gs)
     ·exact HNS.out (by rw [← e]; exact hk)
     ·have := HSN.out.lt; have := hk.1; omega) (fun k (e : k = gs) => by rw [e]; exact Nat.le_trans HB.out HWG.out)
    have HRV := hid (HKS.out.blk HRE.out (fun (e : gr = gs) => by have := HGR.out; have := HGS.out; omega))
    have HGN : Hid (gr ≠ gs) := fun e => by have := HGR.out; have := HGS.out; omega
    clear HKX HE1 HKE HRE HS1 HBN HGR HGS HSN HKS HBX HRN HSE2 HNS HVG HWG
   rotate_left 1
   focus
    go_wp2_with fail
    refine KT.same ?_
    refine wpOrdT_op rfl ?_
    go_wp2_with fail
    refine KT.same ?_
    refine wpOrdT_val rfl rfl ?_
    go_big_quiet_step (fail)
    refine wpQuiet_nil ?_
    refine wpOrdT_op rfl ?_
    have HBX : Hid (Below wv.heap.size wv wn) := HBW.out.trans (HBN.out.mono HBW.out.size)
    have HRN := hid (HRX.out.below HBN.out HRX.out.lt)
    have CL := hid (CD.out wn HBX.out)
    go_wp2_with fail
    refine CL.out.mono ?_
    rintro en w1 ⟨rfl, hd1, hk1⟩
    have HE1 := hid hd1; have HKE := hid hk1
    have HRE := hid (hk1.blk HRN.out HNF.out)
    have HSE2 := hid (hk1.blk HSN.out HNS.out)
    have HS1 : Hid (wv.heap.size ≤ w1.heap.size) := Nat.le_trans HBX.out.size hk1.size
    clear hd1 hk1 CL CD c20 c10 hdl
    go_wp2_with fail
    refine KT.past rfl ?_
    refine wpOrdT_op rfl ?_
    obtain ⟨f0, f1, f2, f3, f4, f5⟩ := fact6 HSE2.out
    have y0 := HSE2.out.frozen 0; have y1 := HSE2.out.frozen 1; have y2 := HSE2.out.frozen 2; have y3 := HSE2.out.frozen 3; have y4 := HSE2.out.frozen 4; have y5 := HSE2.out.frozen 5
    have hls := HSE2.out.lt
    go_wp2_with fail
    obtain ⟨wf, hwf⟩ : ∃ W, setS6 w1 gs (.int .i64 mx) (.int .i64 (lo : Int)) (.int .i64 (J.2.1 : Int)) (.int .i64 (J.2.2.1 : Int)) (.int .i64 (J.2.2.2 : Int)) (.int .i64 0) = W := ⟨_, rfl⟩
    have HSF : Hid (Blk wf gs 51 #[.int .i64 mx, .int .i64 (lo : Int), .int .i64 (J.2.1 : Int), .int .i64 (J.2.2.1 : Int), .int .i64 (J.2.2.2 : Int), .int .i64 0]) := by rw [← hwf]; exact setS6_blk HSE2.out _ _ _ _ _ _
    have HKS : Hid (Keep (fun k => k = gs) w1 wf) := by rw [← hwf]; exact setS6_keep _ _ _ _ _ _ _ _
    unfold setS6 at hwf
    rw [hwf]
    clear hwf f0 f1 f2 f3 f4 f5 y0 y1 y2 y3 y4 y5 hls
    have HVG : Hid (wv.heap.size ≤ gs) := by rw [Hid, ← HGS.out]; exact HBW.out.size
    refine KT.step (HKS.out.below HS1.out (fun k (e : k = gs) => by rw [e]; exact HVG.out)) ?_
    refine wpOrdT_nil ?_
    have HKX : Hid (Keep F w wn) := HKV.out.trans (Keep.of_below (F := F) HBX.out) (fun _ h => .inl h)
    have HWG : Hid (w.heap.size ≤ gs) := Nat.le_trans HKV.out.size HVG.out
    have TAIL : Hid (∀ w2, Keep (fun k => k = gr ∨ k = gs) wf w2 → DialAt B (Fup F w w2) w0 w2 d J.1 ∧ Keep F w w2) := fun w2 hk2 =>
     tailL (G := fun k => k = gr ∨ k = gs) HF.out HB.out (fun k hk => .inl hk) HKX.out HE1.out HKE.out ((HKS.out.mono (fun k _ e => .inr e) : Keep (fun k => k = gr ∨ k = gs) w1 wf).trans hk2 (fun k h => .inl h)) (fun k h => by
      rcases h with e | e
      ·rw [e]; exact ⟨by rw [HG.out]; exact Nat.le_refl _, HRN.out.lt, HNF.out⟩
      ·rw [e]; exact ⟨HWG.out, HSN.out.lt, HNS.out⟩)
    have HDF : Hid (DialAt B (Fup F wn w1) w0 wf d J.1) := HE1.out.keep HKS.out (by
     rintro k (hk | hk) (e : k = gs)
     ·exact HNS.out (by rw [← e]; exact hk)
     ·have := HSN.out.lt; have := hk.1; omega) (fun k (e : k = gs) => by rw [e]; exact Nat.le_trans HB.out HWG.out)
    have HRV := hid (HKS.out.blk HRE.out (fun (e : gr = gs) => by have := HGR.out; have := HGS.out; omega))
    have HGN : Hid (gr ≠ gs) := fun e => by have := HGR.out; have := HGS.out; omega
    clear HKX HE1 HKE HRE HS1 HBN HGR HGS HSN HKS HBX HRN HSE2 HNS HVG HWG
  all_goals
   obtain ⟨st, hst⟩ : ∃ z, J.1.st = z := ⟨_, rfl⟩
   have HST := hid hst
   have c11 : wf.cell? ⟨d, 11, none⟩ = some (.int .i64 (st : Int)) := by rw [← hst]; exact HDF.out.st
   clear hst
   have hdl := HDF.out.lt
   have e5 : wf.cell? ⟨gs, 5, none⟩ = some (.int .i64 0) := HSF.out.cell 5
   have ef5 := HSF.out.frozen 5
   have hls := HSF.out.lt
   go_upto_region 6 with fail
   obtain ⟨wg, hwg, hbg, HKG⟩ := Blk.put HSF.out 5 (.int .i64 (st : Int))
   rw [hwg]
   have HSG : Hid (Blk wg gs 51 #[.int .i64 mx, .int .i64 (lo : Int), .int .i64 (J.2.1 : Int), .int .i64 (J.2.2.1 : Int), .int .i64 (J.2.2.2 : Int), .int .i64 (st : Int)]) := hbg
   have HRG := hid (HKG.out.blk HRV.out HGN.out)
   clear hwg hbg c11 hdl e5 ef5 hls HRV
   obtain ⟨x0, x1, x2, x3, x4, x5⟩ := fact6 HSG.out
   have hlx := HSG.out.lt
   obtain ⟨r0, r1, r2, r3, r4, r5⟩ := fact6 HRG.out
   have z0 := HRG.out.frozen 0; have z1 := HRG.out.frozen 1; have z2 := HRG.out.frozen 2; have z3 := HRG.out.frozen 3; have z4 := HRG.out.frozen 4; have z5 := HRG.out.frozen 5
   have hlr := HRG.out.lt
   go_wp2_with fail
   obtain ⟨wz, hwz⟩ : ∃ W, setS6 wg gr (.int .i64 mx) (.int .i64 (lo : Int)) (.int .i64 (J.2.1 : Int)) (.int .i64 (J.2.2.1 : Int)) (.int .i64 (J.2.2.2 : Int)) (.int .i64 (st : Int)) = W := ⟨_, rfl⟩
   have KZ : Hid (Keep (fun k => k = gr) wg wz) := by rw [← hwz]; exact setS6_keep _ _ _ _ _ _ _ _
   have BZ := setS6_blk HRG.out (.int .i64 mx) (.int .i64 (lo : Int)) (.int .i64 (J.2.1 : Int)) (.int .i64 (J.2.2.1 : Int)) (.int .i64 (J.2.2.2 : Int)) (.int .i64 (st : Int))
   rw [hwz] at BZ
   unfold setS6 at hwz
   rw [hwz]
   clear hwz
   obtain ⟨t0, t1, t2, t3, t4, t5⟩ := fact6 BZ
   have hf := TAIL.out wz ((HKG.out.mono (fun k _ e => .inr e) : Keep (fun k => k = gr ∨ k = gs) wf wg).trans KZ.out (fun k e => .inl (.inl e)))
   refine bodyPost_ret (v := .tuple #[.agg #[.int .i64 mx, .int .i64 (lo : Int), .int .i64 (J.2.1 : Int), .int .i64 (J.2.2.1 : Int), .int .i64 (J.2.2.2 : Int), .int .i64 (st : Int)], .bool true]) (by simp [results, Tryz.results20, go_sem, t0, t1, t2, t3, t4, t5]) rfl ⟨?_, ?_, hf.2⟩
   ·rw [HS2.out, HST.out]; rfl
   ·rw [HS2.out]; exact hf.1
end
end Go.Proofs.YtpkkfdmhbbipoaaGreat
