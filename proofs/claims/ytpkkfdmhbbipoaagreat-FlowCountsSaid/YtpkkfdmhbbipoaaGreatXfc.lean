/- FlowCounts: for every setup and every script the law answers true. No condition. -/
import Derived.Test.YtpkkfdmhbbipoaaGreatFh
import Derived.Test.YtpkkfdmhbbipoaaGreatMi
import Derived.Test.YtpkkfdmhbbipoaaGreatPa
import Derived.Test.YtpkkfdmhbbipoaaGreatEb
namespace Go.Proofs.YtpkkfdmhbbipoaaGreat
open Go.RowKit PopT
theorem most_is (s : SetV) (p : ProgV) (h : stepsM s p ≠ 0) : 0 < stepsM s p ∧ mostM s p = 2 * stepsM s p * (p.jumps + 1) ∧ 0 ≤ p.jumps ∧ p.jumps ≤ 1000 ∧ stepsM s p ≤ 60000 := by
 have h1 := steps_bd s p
 have h2 := h1.2.2 h
 refine ⟨by omega, ?_, h2.1, h2.2, h1.2.1⟩
 unfold mostM; rw [if_neg h]
set_option maxRecDepth 20000 in
set_option maxHeartbeats 8000000 in
theorem flowCounts_any (A : Option Addr) (c : Nat) (s : SetV) (p : ProgV) (w : World) (hin : OpsIn w A p.ops) (hok : ProgOk p) :
  Calls Tryz.prog 5 #[s.val, p.val (.slice A p.ops.length c)] w fun e w' => e = .returned (.bool true) ∧ Below w.heap.size w w' := by
 have CF0 : Hid (∀ W, Below w.heap.size w W → Calls Tryz.prog 26 #[p.val (.slice A p.ops.length c), .int .i64 10] W fun e w' => ∃ A' c', e = .returned ((fewP p 10).val (.slice A' (fewP p 10).ops.length c')) ∧ OpsOwn W.heap.size w' (.slice A' (fewP p 10).ops.length c') (fewP p 10).ops ∧ Below W.heap.size W w') := fun W hb => fewP_any p A c 10 W (hin.below hb) hok (by omega)
 have CFW : Hid (∀ W A c, OpsIn W A (fewP p 10).ops → Calls Tryz.prog 26 #[(fewP p 10).val (.slice A (fewP p 10).ops.length c), .int .i64 10] W fun e w' => ∃ A' c', e = .returned ((fewP p 10).val (.slice A' (fewP p 10).ops.length c')) ∧ OpsIn w' A' (fewP p 10).ops ∧ Below W.heap.size W w') := fun W A c h => few_again p hok c h
 have CS : Hid (∀ W A c, OpsIn W A (fewP p 10).ops → Calls Tryz.prog 28 #[s.val, (fewP p 10).val (.slice A (fewP p 10).ops.length c)] W fun e w' => e = .returned (.int .i64 (stepsM s (fewP p 10))) ∧ Below W.heap.size W w') := fun W A c h => fSteps_any s (few_script p hok h)
 have CM : Hid (∀ W A c, OpsIn W A (fewP p 10).ops → Calls Tryz.prog 29 #[s.val, (fewP p 10).val (.slice A (fewP p 10).ops.length c)] W fun e w' => e = .returned (.int .i64 (mostM s (fewP p 10))) ∧ Below W.heap.size W w') := fun W A c h => fMost_any s (few_script p hok h)
 have CRS : Hid (∀ W A c, OpsIn W A (fewP p 10).ops → Calls Tryz.prog 27 #[s.val, (fewP p 10).val (.slice A (fewP p 10).ops.length c)] W fun e w' => e = .returned (.int .i64 (stepsM s (fewP p 10))) ∧ Below W.heap.size W w') := fun W A c h => rSteps24_any s (few_ref p hok h)
 have HMO := hid (most_is s (fewP p 10))
 have HM0 : Hid (stepsM s (fewP p 10) = 0 → mostM s (fewP p 10) = 0) := fun h => by unfold mostM; rw [if_pos h]
 have CV := hid (fun W => lives24_any W)
 have C1N := hid (fun n W => one24_any n W)
 obtain ⟨p1, hp1⟩ : ∃ q, fewP p 10 = q := ⟨_, rfl⟩
 rw [hp1] at CF0 CFW CS CM CRS HMO HM0
 obtain ⟨N, hN⟩ : ∃ q, stepsM s p1 = q := ⟨_, rfl⟩
 obtain ⟨M, hM⟩ : ∃ q, mostM s p1 = q := ⟨_, rfl⟩
 rw [hN] at CS CRS HMO HM0
 rw [hM] at CM HMO HM0
 clear hp1 hN hM hin hok
 obtain ⟨nm0, dl0, jp0, ops0⟩ := p
 obtain ⟨nm, dl, jp, ops⟩ := p1
 obtain ⟨lv, rg, wn, ou, qu, vi⟩ := s
 unfold ProgV.val at CF0 CFW CS CM CRS ⊢
 unfold SetV.val at CS CM CRS ⊢
 simp only at CF0 CFW CS CM CRS HMO ⊢
 obtain ⟨n0, hn0⟩ : ∃ q, ops0.length = q := ⟨_, rfl⟩
 obtain ⟨n, hn⟩ : ∃ q, ops.length = q := ⟨_, rfl⟩
 rw [hn0] at CF0 ⊢
 rw [hn] at CF0 CFW CS CM CRS
 have HN := hid hn
 clear hn0 hn
 go_enter Tryz.func5, Tryz.ntmps5
 go_upto_region 1 with fail
 obtain ⟨w0, hw0⟩ : ∃ W, (w.alloc (.cells #[.int .i64 lv, .int .i64 rg, .int .i64 wn, .int .i64 ou, .int .i64 qu, .int .i64 vi] 23)).alloc (.cells #[.string nm0, .int .i64 dl0, .int .i64 jp0, .slice A n0 c] 26) = W := ⟨_, rfl⟩
 have HB : Hid (Below w.heap.size w w0) := by rw [← hw0]; exact below2 _ _ _
 have HP : Hid (Blk w0 (w.heap.size + 1) 26 #[.string nm0, .int .i64 dl0, .int .i64 jp0, .slice A n0 c]) := by rw [← hw0]; exact new2 _ _ _ _
 have HS : Hid (Blk w0 w.heap.size 23 #[.int .i64 lv, .int .i64 rg, .int .i64 wn, .int .i64 ou, .int .i64 qu, .int .i64 vi]) := by rw [← hw0]; exact (Blk.new _ _ _).alloc _
 rw [hw0]
 obtain ⟨ga, hga⟩ : ∃ y, w.heap.size = y := ⟨_, rfl⟩
 have HGA := hid hga
 rw [hga] at HP HS ⊢
 obtain ⟨gp, hgp⟩ : ∃ y, ga + 1 = y := ⟨_, rfl⟩
 have HGP := hid hgp
 rw [hgp] at HP ⊢
 clear hw0 hga hgp
 have C1 := hid (CF0.out w0 HB.out)
 obtain ⟨q0, q1, q2, q3⟩ := fact4 HP.out
 have ql := HP.out.lt
 go_wp2_with fail
 refine C1.out.mono ?_
 rintro en w1 ⟨A1, c1, rfl, ho, hb⟩
 have HB1 : Hid (Below w.heap.size w w1) := HB.out.trans (hb.mono HB.out.size)
 have HP1 := hid (HP.out.below hb HP.out.lt)
 have HS1 := hid (HS.out.below hb HS.out.lt)
 have HO1 := hid ho
 clear hb ho C1 q0 q1 q2 q3 ql HP HS HB CF0
 obtain ⟨q0, q1, q2, q3⟩ := fact4 HP1.out
 have ql := HP1.out.lt
 have z0 := HP1.out.frozen 0; have z1 := HP1.out.frozen 1; have z2 := HP1.out.frozen 2; have z3 := HP1.out.frozen 3
 have HK : Hid (Keep (fun k => k = gp) w1 (set4 w1 gp (.string nm) (.int .i64 dl) (.int .i64 jp) (.slice A1 n c1))) := set4_keepF _ _ _ _ _ _
 have HP2 := hid (set4_blk HP1.out (.string nm) (.int .i64 dl) (.int .i64 jp) (.slice A1 n c1))
 have HS2 := hid (HK.out.blk HS1.out (fun (e : ga = gp) => by have := HGP.out; omega))
 have HO2 : Hid (OpsIn (set4 w1 gp (.string nm) (.int .i64 dl) (.int .i64 jp) (.slice A1 n c1)) A1 ops) := (set4_ops HO1.out HP1.out _ _ _ _).inn HN.out
 go_upto_region 2 with fail
 obtain ⟨w2, hw2⟩ : ∃ W, set4 w1 gp (.string nm) (.int .i64 dl) (.int .i64 jp) (.slice A1 n c1) = W := ⟨_, rfl⟩
 rw [hw2] at HK HP2 HO2 HS2
 unfold set4 at hw2
 rw [hw2]
 clear hw2 q0 q1 q2 q3 ql z0 z1 z2 z3
 have HB2 : Hid (Below w.heap.size w w2) := HB1.out.trans (HK.out.below HB1.out.size (fun k e => by rw [e, ← HGP.out, ← HGA.out]; omega))
 have C2 := hid (CRS.out w2 A1 c1 HO2.out)
 obtain ⟨q0, q1, q2, q3⟩ := fact4 HP2.out
 have ql := HP2.out.lt
 have s0 := HS2.out.cell 0; have s1 := HS2.out.cell 1; have s2 := HS2.out.cell 2; have s3 := HS2.out.cell 3; have s4 := HS2.out.cell 4; have s5 := HS2.out.cell 5
 have sl := HS2.out.lt
 go_wp2_with fail
 refine C2.out.mono ?_
 rintro en w3 ⟨rfl, hb⟩
 have HB3 : Hid (Below w.heap.size w w3) := HB2.out.trans (hb.mono HB2.out.size)
 have HP3 := hid (HP2.out.below hb HP2.out.lt)
 have HS3 := hid (HS2.out.below hb HS2.out.lt)
 have HO3 := hid (HO2.out.below hb)
 clear hb C2 q0 q1 q2 q3 ql s0 s1 s2 s3 s4 s5 sl HP2 HS2 HO2 HB2 HK
 obtain ⟨w2, hw2⟩ : ∃ W, W = w3 := ⟨_, rfl⟩
 subst hw2
 have HP2 := HP3; have HS2 := HS3; have HO2 := HO3; have HB2 := HB3
 clear HP3 HS3 HO3 HB3
 have hpl := HP2.out.lt
 have hsl := HS2.out.lt
 have hnn : (N == N) = true := by simp
 have hmm : (M == M) = true := by simp
 have T0 : ∀ q : BW w2.heap.size w2, q.1.cell? ⟨gp, 0, none⟩ = some (.string nm) := fun q => q.cellAt hpl (HP2.out.cell 0)
 have T1 : ∀ q : BW w2.heap.size w2, q.1.cell? ⟨gp, 1, none⟩ = some (.int .i64 dl) := fun q => q.cellAt hpl (HP2.out.cell 1)
 have T2 : ∀ q : BW w2.heap.size w2, q.1.cell? ⟨gp, 2, none⟩ = some (.int .i64 jp) := fun q => q.cellAt hpl (HP2.out.cell 2)
 have T3 : ∀ q : BW w2.heap.size w2, q.1.cell? ⟨gp, 3, none⟩ = some (.slice A1 n c1) := fun q => q.cellAt hpl (HP2.out.cell 3)
 have U0 : ∀ q : BW w2.heap.size w2, q.1.cell? ⟨ga, 0, none⟩ = some (.int .i64 lv) := fun q => q.cellAt hsl (HS2.out.cell 0)
 have U1 : ∀ q : BW w2.heap.size w2, q.1.cell? ⟨ga, 1, none⟩ = some (.int .i64 rg) := fun q => q.cellAt hsl (HS2.out.cell 1)
 have U2 : ∀ q : BW w2.heap.size w2, q.1.cell? ⟨ga, 2, none⟩ = some (.int .i64 wn) := fun q => q.cellAt hsl (HS2.out.cell 2)
 have U3 : ∀ q : BW w2.heap.size w2, q.1.cell? ⟨ga, 3, none⟩ = some (.int .i64 ou) := fun q => q.cellAt hsl (HS2.out.cell 3)
 have U4 : ∀ q : BW w2.heap.size w2, q.1.cell? ⟨ga, 4, none⟩ = some (.int .i64 qu) := fun q => q.cellAt hsl (HS2.out.cell 4)
 have U5 : ∀ q : BW w2.heap.size w2, q.1.cell? ⟨ga, 5, none⟩ = some (.int .i64 vi) := fun q => q.cellAt hsl (HS2.out.cell 5)
 go_upto_region 3 with fail
 refine wp_region_ordT w2.heap.size [] (.val 0 (.val 1 (.val 4 (.op 2 (.op 3 (.val 5 (.val 6 (.val 7 (.val 8 (.val 11 (.val 12 (.val 13 (.val 14 (.val 15 (.val 16 (.val 17 (.op 9 (.op 10 (.op 18 (.val 19 (.val 20 (.val 21 (.val 22 (.op 23 (.val 24 (.val 25 (.nil))))))))))))))))))))))))))) (by kernel_rfl) (by kernel_rfl) ?_
 obtain ⟨wc, hwc⟩ : ∃ W, w2.drewN 1 = W := ⟨_, rfl⟩
 have HBC : Hid (Below w2.heap.size w2 wc) := by rw [← hwc]; exact drewN_below w2 1
 rw [hwc]
 clear hwc
 iterate 3 ((first | refine wpOrdT_val rfl rfl ?_ | refine wpOrdT_load rfl rfl (inBW HBC.out) ?_); go_big_quiet_step (fail); refine wpQuiet_nil ?_)
 refine wpOrdT_op rfl ?_
 have CQ := hid (CFW.out wc _ c1 (HO2.out.below HBC.out))
 go_wp2_with fail
 refine (CQ.out).mono ?_
 rintro en wd ⟨A3, c3, rfl, ho3, hbd⟩
 have HBD : Hid (Below w2.heap.size w2 wd) := HBC.out.trans (hbd.mono HBC.out.size)
 have HO3 := hid ho3
 clear ho3
 clear hbd CQ HBC
 go_wp2_with fail
 refine KT.keep (inBW HBD.out) ?_
 obtain ⟨wc, hwc⟩ : ∃ W, W = wd := ⟨_, rfl⟩
 subst hwc
 have HBC := HBD
 clear HBD
 refine wpOrdT_op rfl ?_
 have CQ := hid (CS.out wc _ c3 HO3.out)
 go_wp2_with fail
 refine (CQ.out).mono ?_
 rintro en wd ⟨rfl, hbd⟩
 have HBD : Hid (Below w2.heap.size w2 wd) := HBC.out.trans (hbd.mono HBC.out.size)
 clear HO3
 clear hbd CQ HBC
 go_wp2_with fail
 refine KT.keep (inBW HBD.out) ?_
 obtain ⟨wc, hwc⟩ : ∃ W, W = wd := ⟨_, rfl⟩
 subst hwc
 have HBC := HBD
 clear HBD
 by_cases hN0 : N = 0
 ·have hM0 := HM0.out hN0
  subst hN0
  subst hM0
  clear hnn hmm
  iterate 11 ((first | refine wpOrdT_val rfl rfl ?_ | refine wpOrdT_load rfl rfl (inBW HBC.out) ?_); go_big_quiet_step (fail); refine wpQuiet_nil ?_)
  refine wpOrdT_op rfl ?_
  have CQ := hid (CFW.out wc _ c1 (HO2.out.below HBC.out))
  go_wp2_with fail
  refine (CQ.out).mono ?_
  rintro en wd ⟨A3, c3, rfl, ho3, hbd⟩
  have HBD : Hid (Below w2.heap.size w2 wd) := HBC.out.trans (hbd.mono HBC.out.size)
  have HO3 := hid ho3
  clear ho3
  clear hbd CQ HBC
  go_wp2_with fail
  refine KT.keep (inBW HBD.out) ?_
  obtain ⟨wc, hwc⟩ : ∃ W, W = wd := ⟨_, rfl⟩
  subst hwc
  have HBC := HBD
  clear HBD
  refine wpOrdT_op rfl ?_
  have CQ := hid (CM.out wc _ c3 HO3.out)
  go_wp2_with fail
  refine (CQ.out).mono ?_
  rintro en wd ⟨rfl, hbd⟩
  have HBD : Hid (Below w2.heap.size w2 wd) := HBC.out.trans (hbd.mono HBC.out.size)
  clear HO3
  clear hbd CQ HBC
  go_wp2_with fail
  refine KT.keep (inBW HBD.out) ?_
  obtain ⟨wc, hwc⟩ : ∃ W, W = wd := ⟨_, rfl⟩
  subst hwc
  have HBC := HBD
  clear HBD
  refine wpOrdT_op rfl ?_
  have CQ := hid (C1N.out 0 wc)
  go_wp2_with fail
  refine CQ.out.mono ?_
  rintro en wd ⟨rfl, rfl⟩
  clear CQ
  rw [if_neg (by decide)]
  go_wp2_with fail
  refine KT.keep (inBW HBC.out) ?_
  iterate 4 ((first | refine wpOrdT_val rfl rfl ?_ | refine wpOrdT_load rfl rfl (inBW HBC.out) ?_); go_big_quiet_step (fail); refine wpQuiet_nil ?_)
  refine wpOrdT_op rfl ?_
  have CQ := hid (CV.out wc)
  go_wp2_with fail
  refine (CQ.out).mono ?_
  rintro en wd ⟨rfl, hbd⟩
  have HBD : Hid (Below w2.heap.size w2 wd) := HBC.out.trans (hbd.mono HBC.out.size)
  clear hbd CQ HBC
  go_wp2_with fail
  refine KT.keep (inBW HBD.out) ?_
  obtain ⟨wc, hwc⟩ : ∃ W, W = wd := ⟨_, rfl⟩
  subst hwc
  have HBC := HBD
  clear HBD
  iterate 2 ((first | refine wpOrdT_val rfl rfl ?_ | refine wpOrdT_load rfl rfl (inBW HBC.out) ?_); go_big_quiet_step (fail); refine wpQuiet_nil ?_)
  refine wpOrdT_nil ?_
  have HBE : Hid (Below w.heap.size w wc) := HB2.out.trans (HBC.out.mono HB2.out.size)
  go_wp2_with fail
  try go_ret
  exact ⟨rfl, HBE.out⟩
 ·obtain ⟨h1, h2, h3, h4, h5⟩ := HMO.out hN0
  have HME := hid h2
  have e1 : 2 * N * (jp + 1) ≤ 2 * 60000 * 1001 := Int.mul_le_mul (by omega) (by omega) (by omega) (by omega)
  have e2 : 0 ≤ 2 * N * (jp + 1) := Int.mul_nonneg (by omega) (by omega)
  obtain ⟨Z, hZ⟩ : ∃ Z, 2 * N * (jp + 1) = Z := ⟨_, rfl⟩
  have HZM : Hid (M = Z) := by rw [Hid, h2, hZ]
  have hMZ : (M == Z) = true := by rw [beq_iff_eq]; exact HZM.out
  rw [hZ] at e1 e2
  clear h2 hN0 hmm
  iterate 11 ((first | refine wpOrdT_val rfl rfl ?_ | refine wpOrdT_load rfl rfl (inBW HBC.out) ?_); go_big_quiet_step (fail); refine wpQuiet_nil ?_)
  refine wpOrdT_op rfl ?_
  have CQ := hid (CFW.out wc _ c1 (HO2.out.below HBC.out))
  go_wp2_with fail
  refine (CQ.out).mono ?_
  rintro en wd ⟨A3, c3, rfl, ho3, hbd⟩
  have HBD : Hid (Below w2.heap.size w2 wd) := HBC.out.trans (hbd.mono HBC.out.size)
  have HO3 := hid ho3
  clear ho3
  clear hbd CQ HBC
  go_wp2_with fail
  refine KT.keep (inBW HBD.out) ?_
  obtain ⟨wc, hwc⟩ : ∃ W, W = wd := ⟨_, rfl⟩
  subst hwc
  have HBC := HBD
  clear HBD
  refine wpOrdT_op rfl ?_
  have CQ := hid (CM.out wc _ c3 HO3.out)
  go_wp2_with fail
  refine (CQ.out).mono ?_
  rintro en wd ⟨rfl, hbd⟩
  have HBD : Hid (Below w2.heap.size w2 wd) := HBC.out.trans (hbd.mono HBC.out.size)
  clear HO3
  clear hbd CQ HBC
  go_wp2_with fail
  refine KT.keep (inBW HBD.out) ?_
  obtain ⟨wc, hwc⟩ : ∃ W, W = wd := ⟨_, rfl⟩
  subst hwc
  have HBC := HBD
  clear HBD
  refine wpOrdT_op rfl ?_
  have CQ := hid (C1N.out N wc)
  go_wp2_with fail
  refine CQ.out.mono ?_
  rintro en wd ⟨rfl, rfl⟩
  clear CQ
  rw [if_pos h1]
  go_wp2_with fail
  refine KT.keep (inBW HBC.out) ?_
  iterate 4 ((first | refine wpOrdT_val rfl rfl ?_ | refine wpOrdT_load rfl rfl (inBW HBC.out) ?_); go_big_quiet_step (fail); refine wpQuiet_nil ?_)
  refine wpOrdT_op rfl ?_
  have CQ := hid (CV.out wc)
  go_wp2_with fail
  refine (CQ.out).mono ?_
  rintro en wd ⟨rfl, hbd⟩
  have HBD : Hid (Below w2.heap.size w2 wd) := HBC.out.trans (hbd.mono HBC.out.size)
  clear hbd CQ HBC
  go_wp2_with fail
  refine KT.keep (inBW HBD.out) ?_
  obtain ⟨wc, hwc⟩ : ∃ W, W = wd := ⟨_, rfl⟩
  subst hwc
  have HBC := HBD
  clear HBD
  iterate 2 ((first | refine wpOrdT_val rfl rfl ?_ | refine wpOrdT_load rfl rfl (inBW HBC.out) ?_); go_big_quiet_step (fail); refine wpQuiet_nil ?_)
  refine wpOrdT_nil ?_
  have HBE : Hid (Below w.heap.size w wc) := HB2.out.trans (HBC.out.mono HB2.out.size)
  go_wp2_with fail
  try go_ret
  exact ⟨rfl, HBE.out⟩
open Go.ChangeShapes Go.WideShapes Go.ChangeAt Go.WideElems Go.Deep
open Go.ChangeMaps (open_string shut_string)
section
variable {H : Type} {enc : TypeId × Value → H}
set_option maxRecDepth 100000 in
theorem open_setupArg {W : World} {base : Nat} {v : Value} {d : DataW H} {ps : List MemPlace} (hval : Value.okWide Tryz.prog W .any base 23 v) (h : DataW.Trod enc Tryz.prog W 0 (fun _ => true) true 23 v d ps) :
  ∃ s : SetV, v = s.val := by
 simp only [Value.okWide, Tryz.underlying23] at hval
 obtain ⟨cs, rfl, hs, _⟩ := hval
 obtain ⟨fuel, hf⟩ := h
 obtain ⟨s, h1⟩ := open_setC hf
 refine ⟨s, ?_⟩
 show Value.agg cs = _
 obtain ⟨l⟩ := cs
 have h1 : l = _ := h1
 rw [h1]; rfl
end
set_option maxRecDepth 100000 in
theorem flowCounts_lifted (os : Os) (started : os.Started) (H : Type) (enc : TypeId × Value → H) :
  ReturnsInHanded {} Tryz.checked os 5 .any (Rows.flowCountsSpec.pre6 enc Tryz.prog Tryz.f5 [] false) (Rows.flowCountsSpec.post enc Tryz.prog Tryz.f5 false true false false) := by
 refine law_lifted 5 Tryz.f5 Rows.flowCountsSpec os started H enc Tryz.func5 (by kernel_rfl) (by kernel_rfl) (by kernel_rfl) rfl (fun ds h => ?_)
  (ChangeSpec.witness6 (enc := enc) (C := Tryz.checked) false ⟨#[], #[.agg #[.int .i64 0, .int .i64 0, .int .i64 0, .int .i64 0, .int .i64 0, .int .i64 0], .agg #[.string ⟨#[]⟩, .int .i64 0, .int .i64 0, .slice none 0 0]], []⟩ 8 (by kernel_rfl) (by kernel_rfl) (by kernel_rfl) (by kernel_rfl)) ?_
 ·have hn : ds.length = 2 := h
  match ds, hn with
  | [d0, d1], _ => rfl
 ·intro W args ds p base hval hA _ _
  rw [show Tryz.f5.params.toList = [23, 26] from by rw [Tryz.params5]] at hval hA
  obtain ⟨v0, _, d0, _, p0, _, rfl, rfl, rfl, h0, hA⟩ := all_cons hA
  obtain ⟨v1, _, d1, _, p1, _, rfl, rfl, rfl, h1, hA⟩ := all_cons hA
  obtain rfl := all_nil hA
  obtain ⟨s0, rfl⟩ := open_setupArg (hval 0 _ v0 rfl rfl) h0
  obtain ⟨p1, A1, c1, rfl, hi1, ho1⟩ := open_progArg (hval 1 _ v1 rfl rfl) h1
  exact flowCounts_any A1 c1 s0 p1 W hi1 ho1
theorem flowCounts_holds : Rows.FlowCountsSaid :=
 OpenClaim.holds_of_wide 5 Tryz.f5 rfl rfl rfl rfl rfl rfl rfl ⟨rfl, rfl, rfl, rfl, rfl⟩ rfl rfl rfl rfl rfl (by kernel_rfl) Tryz.func5 (by kernel_rfl)
  (of_decide_eq_true (by kernel_rfl)) (by unfold Func.isWrapper; first | (rw [if_pos (by decide +kernel)]; kernel_rfl) | (rw [if_neg (by decide +kernel)]; exact ⟨rfl, rfl⟩))
  (fun os started H enc _ => flowCounts_lifted os started H enc)
#print axioms flowCounts_holds
end Go.Proofs.YtpkkfdmhbbipoaaGreat
