/- Layer 22 lives. -/
import Derived.Test.YtpkkfdmhbbipoaaGreatDk
namespace Go.Proofs.YtpkkfdmhbbipoaaGreat
open Go.RowKit PopT
set_option maxRecDepth 20000 in
theorem usual22_any (w : World) : Calls Tryz.prog 61 #[] w fun e w' => e = .returned (.agg #[.int .i64 4, .int .i64 8, .int .i64 16, .int .i64 3, .int .i64 5, .int .i64 1]) ∧ Below w.heap.size w w' := by
 obtain ⟨wa, hwa⟩ : ∃ W, w.alloc (.cells #[.int .i64 0, .int .i64 0, .int .i64 0, .int .i64 0, .int .i64 0, .int .i64 0] 23) = W := ⟨_, rfl⟩
 have HB : Hid (Below w.heap.size w wa) := by rw [← hwa]; exact (Below.refl _ _).alloc (Nat.le_refl _) _
 have HA : Hid (Blk wa w.heap.size 23 #[.int .i64 0, .int .i64 0, .int .i64 0, .int .i64 0, .int .i64 0, .int .i64 0]) := by rw [← hwa]; exact Blk.new w _ _
 have HWA := hid hwa
 clear hwa
 obtain ⟨gr, hgr⟩ : ∃ y, w.heap.size = y := ⟨_, rfl⟩
 have HG := hid hgr
 rw [hgr] at HA
 clear hgr
 go_enter Tryz.func61, Tryz.ntmps61
 go_upto_region 1 with fail
 rw [HWA.out, HG.out]
 obtain ⟨r0, r1, r2, r3, r4, r5⟩ := fact6 HA.out
 have z0 := HA.out.frozen 0; have z1 := HA.out.frozen 1; have z2 := HA.out.frozen 2; have z3 := HA.out.frozen 3; have z4 := HA.out.frozen 4; have z5 := HA.out.frozen 5
 have hlr := HA.out.lt
 go_wp2_with fail
 obtain ⟨wz, hwz⟩ : ∃ W, setS6 wa gr (.int .i64 4) (.int .i64 8) (.int .i64 16) (.int .i64 3) (.int .i64 5) (.int .i64 1) = W := ⟨_, rfl⟩
 have KZ : Hid (Keep (fun k => k = gr) wa wz) := by rw [← hwz]; exact setS6_keep _ _ _ _ _ _ _ _
 have BZ := setS6_blk HA.out (.int .i64 4) (.int .i64 8) (.int .i64 16) (.int .i64 3) (.int .i64 5) (.int .i64 1)
 rw [hwz] at BZ
 unfold setS6 at hwz
 rw [hwz]
 clear hwz
 obtain ⟨t0, t1, t2, t3, t4, t5⟩ := fact6 BZ
 refine bodyPost_ret (v := .agg #[.int .i64 4, .int .i64 8, .int .i64 16, .int .i64 3, .int .i64 5, .int .i64 1]) (by simp [results, Tryz.results61, go_sem, t0, t1, t2, t3, t4, t5]) rfl ⟨rfl, ?_⟩
 exact HB.out.trans (KZ.out.below HB.out.size (fun k (e : k = gr) => by rw [e, HG.out]; exact Nat.le_refl _))
set_option maxRecDepth 20000 in
set_option maxHeartbeats 4000000 in
theorem lives22_any (w : World) : Calls Tryz.prog 13 #[] w fun e w' => e = .returned (.bool true) ∧ Below w.heap.size w w' := by
 obtain ⟨wa, hwa⟩ : ∃ W, ((w.alloc (.cells #[.string ⟨#[111, 107]⟩, .int .i64 1] 99)).alloc (.cells #[.int .i64 2, .string ⟨#[]⟩, .int .i64 5, .int .i64 0, .slice (some ⟨w.heap.size, 0, none⟩) 1 1, .int .i64 (-1), .int .i64 (-1)] 56)).alloc (.cells #[.string ⟨#[97]⟩, .int .i64 9223372036854775807, .int .i64 1, .slice (some ⟨(w.heap.size + 1), 0, none⟩) 1 1] 26) = W := ⟨_, rfl⟩
 have HB : Hid (Below w.heap.size w wa) := by rw [← hwa]; exact below3 _ _ _ _
 have HA : Hid (Blk wa w.heap.size 99 #[.string ⟨#[111, 107]⟩, .int .i64 1]) := by rw [← hwa]; exact ((Blk.new w _ _).alloc _).alloc _
 have HO : Hid (Blk wa (w.heap.size + 1) 56 #[.int .i64 2, .string ⟨#[]⟩, .int .i64 5, .int .i64 0, .slice (some ⟨w.heap.size, 0, none⟩) 1 1, .int .i64 (-1), .int .i64 (-1)]) := by rw [← hwa]; exact (new2 _ _ _ _).alloc _
 have HP : Hid (Blk wa (w.heap.size + 2) 26 #[.string ⟨#[97]⟩, .int .i64 9223372036854775807, .int .i64 1, .slice (some ⟨(w.heap.size + 1), 0, none⟩) 1 1]) := by rw [← hwa]; exact new3 _ _ _ _ _
 have HWA := hid hwa
 clear hwa
 go_enter Tryz.func13, Tryz.ntmps13
 go_upto_region 2 with fail
 have e2 : w.heap.size + 1 + 1 = w.heap.size + 2 := rfl
 try rw [e2]
 rw [HWA.out]
 clear e2
 obtain ⟨ga, hga⟩ : ∃ y, w.heap.size = y := ⟨_, rfl⟩
 have HG := hid hga
 rw [hga] at HA HO HP ⊢
 clear hga HWA
 obtain ⟨go, hgo⟩ : ∃ y, ga + 1 = y := ⟨_, rfl⟩
 obtain ⟨gp, hgp⟩ : ∃ y, ga + 2 = y := ⟨_, rfl⟩
 rw [hgo] at HO HP
 rw [hgp] at HP ⊢
 have HLG : Hid (ga < go ∧ ga < wa.heap.size ∧ go < wa.heap.size) := ⟨by omega, HA.out.lt, HO.out.lt⟩
 clear hgo hgp
 have CNW : Hid (∀ W, Below wa.heap.size wa W → Calls Tryz.prog 55 #[.agg #[.int .i64 4, .int .i64 8, .int .i64 16, .int .i64 3, .int .i64 5, .int .i64 1], .agg #[.string ⟨#[97]⟩, .int .i64 9223372036854775807, .int .i64 1, .slice (some ⟨go, 0, none⟩) 1 1], .int .i64 3] W fun e w' => Below W.heap.size W w' ∧ ∃ w0 d B F, e = .returned (.tuple #[.pointer (some ⟨d, 0, none⟩), .int .i64 0]) ∧ W.heap.size ≤ B ∧ DialAt B F w0 w' d ((newV uV uP 3).come 0)) := by
  intro W hb
  have hown := uP_own (w := W) (ga := ga) (go := go) rfl rfl (HA.out.below hb HA.out.lt) (HO.out.below hb HO.out.lt) 0 (Nat.zero_le _) (Nat.zero_le _)
  have hc := dNew_any uV uP (some ⟨go, 0, none⟩) 1 0 3 W hown uP_ok ⟨by decide, by decide⟩
  refine hc.mono (fun e w' hq => ?_)
  unfold newPost at hq
  rw [uV_good, uP_good, if_neg (by decide), if_neg (by decide)] at hq
  exact hq
 obtain ⟨X0, hX0⟩ : ∃ y, (newV uV uP 3).come 0 = y := ⟨_, rfl⟩
 have HX0 := hid hX0
 rw [hX0] at CNW
 clear hX0
 have P0 : ∀ q : BW wa.heap.size wa, q.1.cell? ⟨gp, 0, none⟩ = some (.string ⟨#[97]⟩) := fun q => q.cellAt HP.out.lt (HP.out.cell 0)
 have P1 : ∀ q : BW wa.heap.size wa, q.1.cell? ⟨gp, 1, none⟩ = some (.int .i64 9223372036854775807) := fun q => q.cellAt HP.out.lt (HP.out.cell 1)
 have P2 : ∀ q : BW wa.heap.size wa, q.1.cell? ⟨gp, 2, none⟩ = some (.int .i64 1) := fun q => q.cellAt HP.out.lt (HP.out.cell 2)
 have P3 : ∀ q : BW wa.heap.size wa, q.1.cell? ⟨gp, 3, none⟩ = some (.slice (some ⟨go, 0, none⟩) 1 1) := fun q => q.cellAt HP.out.lt (HP.out.cell 3)
 refine wp_region_ordT wa.heap.size [2] (.val 1 (.op 0 (.op 2 (.val 3 (.val 4 (.val 5 (.val 6 (.val 7 (.nil))))))))) (by kernel_rfl) (by kernel_rfl) ?_
 obtain ⟨wc, hwc⟩ : ∃ W, wa.drewN 1 = W := ⟨_, rfl⟩
 have HBW : Hid (Below wa.heap.size wa wc) := by rw [← hwc]; exact drewN_below wa 1
 rw [hwc]
 clear hwc
 refine wpOrdT_load rfl rfl (inBW HBW.out) ?_
 go_big_quiet_step (fail)
 refine wpQuiet_nil ?_
 refine wpOrdT_op rfl ?_
 go_wp2_with fail
 refine (usual22_any _).mono ?_
 rintro en wd ⟨rfl, hb⟩
 have HBX : Hid (Below wa.heap.size wa wd) := HBW.out.trans (hb.mono HBW.out.size)
 clear hb
 have HBW := HBX
 go_wp2_with fail
 refine KT.keep (inBW HBW.out) ?_
 refine wpOrdT_op rfl ?_
 have CN := hid (CNW.out wd HBX.out)
 go_wp2_with fail
 refine CN.out.mono ?_
 rintro en we ⟨hbe, w0, d, B, F, rfl, hB, hd⟩
 have HD := hid hd
 have HBE : Hid (Below w.heap.size w we ∧ w.heap.size ≤ B) := by
  have h1 := HB.out.trans (HBX.out.mono HB.out.size)
  exact ⟨h1.trans (hbe.mono h1.size), Nat.le_trans h1.size hB⟩
 clear hbe hB hd CN CNW P0 P1 P2 P3
 go_wp2_with fail
 refine KT.past rfl ?_
 iterate 5 (refine wpOrdT_val rfl rfl ?_; go_big_quiet_step (fail); refine wpQuiet_nil ?_)
 refine wpOrdT_nil ?_
 have HF : Hid (Fit X0) := by rw [← HX0.out]; exact fit_new (newV_ok uV uP 3 uV_good uP_good uP_ok ⟨by decide, by decide⟩)
 have CP := aPut HD.out ⟨#[120, 111, 107]⟩ (by decide)
 rw [show ((((X0.put ⟨#[120, 111, 107]⟩).2 : Nat)) : Int) = 3 by rw [← HX0.out, l22_put]; rfl] at CP
 have HX1 : Hid ((X0.put ⟨#[120, 111, 107]⟩).1 = l22a) := by rw [← HX0.out]; rfl
 rw [HX1.out] at CP
 have HF1 : Hid (Fit l22a) := by rw [← HX1.out]; exact fit_put HF.out _
 have CP := hid CP
 clear HX0 HX1 HF
 go_wp2_with fail
 refine CP.out.mono ?_
 rintro en wf ⟨rfl, hd, hk⟩
 have HD1 := hid hd
 have HB1 : Hid (Below w.heap.size w wf) := HBE.out.1.trans ((HD.out.under hk).mono HBE.out.2)
 clear hd hk CP HD
 have CS := aStep HD1.out HF1.out 4 (by decide)
 rw [l22_a] at CS
 unfold StepV.val at CS
 have HF2 : Hid (Fit (l22a.step 4).1) := fit_step HD1.out.ok HF1.out 4 (by decide)
 have CS : Hid (Calls Tryz.prog 20 #[.pointer (some ⟨d, 0, none⟩), .int .i64 4] wf fun e w' => e = .returned (.tuple #[.agg #[.int .i64 4, .int .i64 0, .int .i64 2, .int .i64 0, .int .i64 3, .int .i64 0], .bool true]) ∧ DialAt B (Fup (Fup F we wf) wf w') w0 w' d l22b ∧ Keep (Fup F we wf) wf w') := CS
 have HF2 : Hid (Fit l22b) := HF2
 clear HF1
 go_wp2_with fail
 refine CS.out.mono ?_
 rintro en wg ⟨rfl, hd, hk⟩
 have HD2 := hid hd
 have HB2 : Hid (Below w.heap.size w wg) := HB1.out.trans ((HD1.out.under hk).mono HBE.out.2)
 clear hd hk CS HD1
 go_upto_region 5 with fail
 obtain ⟨wh, hwh⟩ : ∃ W, wg.alloc (.cells #[.int .i64 4, .int .i64 0, .int .i64 2, .int .i64 0, .int .i64 3, .int .i64 0] 51) = W := ⟨_, rfl⟩
 have HS1 : Hid (Blk wh wg.heap.size 51 #[.int .i64 4, .int .i64 0, .int .i64 2, .int .i64 0, .int .i64 3, .int .i64 0]) := by rw [← hwh]; exact Blk.new _ _ _
 have HBH : Hid (Below wg.heap.size wg wh) := by rw [← hwh]; exact (Below.refl _ _).alloc (Nat.le_refl _) _
 rw [hwh]
 clear hwh
 have HD3 := hid (HD2.out.below HBH.out)
 have HNG := hid (fun hf : Fup (Fup F we wf) wf wg wg.heap.size => Nat.lt_irrefl _ (HD2.out.fin _ hf).2)
 have HB3 : Hid (Below w.heap.size w wh) := HB2.out.trans (HBH.out.mono HB2.out.size)
 obtain ⟨gs, hgs⟩ : ∃ y, wg.heap.size = y := ⟨_, rfl⟩
 rw [hgs] at HS1 HNG ⊢
 clear hgs HD2 HBH HB1 HB2
 have CS := aStep HD3.out HF2.out 4 (by decide)
 rw [l22_b] at CS
 unfold StepV.val at CS
 obtain ⟨G, hG⟩ : ∃ y, Fup (Fup F we wf) wf wg = y := ⟨_, rfl⟩
 rw [hG] at HD3 HNG CS
 have CS : Hid (Calls Tryz.prog 20 #[.pointer (some ⟨d, 0, none⟩), .int .i64 4] wh fun e w' => e = .returned (.tuple #[.agg #[.int .i64 4, .int .i64 1, .int .i64 9, .int .i64 0, .int .i64 0, .int .i64 1], .bool true]) ∧ DialAt B (Fup G wh w') w0 w' d (l22b.step 4).1 ∧ Keep G wh w') := CS
 clear hG HF2
 go_wp2_with fail
 refine CS.out.mono ?_
 rintro en wi ⟨rfl, hd, hk⟩
 have HS2 := hid (hk.blk HS1.out HNG.out)
 have HB4 : Hid (Below w.heap.size w wi) := HB3.out.trans ((HD3.out.under hk).mono HBE.out.2)
 clear hd hk CS HD3 HB3 HS1 HNG
 go_upto_region 6 with fail
 obtain ⟨wj, hwj⟩ : ∃ W, wi.alloc (.cells #[.int .i64 4, .int .i64 1, .int .i64 9, .int .i64 0, .int .i64 0, .int .i64 1] 51) = W := ⟨_, rfl⟩
 have HS3 : Hid (Blk wj wi.heap.size 51 #[.int .i64 4, .int .i64 1, .int .i64 9, .int .i64 0, .int .i64 0, .int .i64 1]) := by rw [← hwj]; exact Blk.new _ _ _
 have HBJ : Hid (Below wi.heap.size wi wj) := by rw [← hwj]; exact (Below.refl _ _).alloc (Nat.le_refl _) _
 rw [hwj]
 clear hwj
 have HS4 := hid (HS2.out.below HBJ.out HS2.out.lt)
 have HB5 : Hid (Below w.heap.size w wj) := HB4.out.trans (HBJ.out.mono HB4.out.size)
 obtain ⟨gt, hgt⟩ : ∃ y, wi.heap.size = y := ⟨_, rfl⟩
 rw [hgt] at HS3 ⊢
 clear hgt HBJ HB4 HS2
 obtain ⟨s0, s1, s2, s3, s4, s5⟩ := fact6 HS3.out
 obtain ⟨u0, u1, u2, u3, u4, u5⟩ := fact6 HS4.out
 have hl1 := HS3.out.lt; have hl2 := HS4.out.lt
 go_wp2_with fail
 go_ret
 exact ⟨rfl, HB5.out⟩
end Go.Proofs.YtpkkfdmhbbipoaaGreat
