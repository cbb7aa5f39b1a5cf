/- Walks: package dial: New. Layer 22 lives: the plain part. A dialogue's calls, told of what is in memory; what holds of every dialogue. -/
import Derived.Test.YtpkkfdmhbbipoaaGreatDj
namespace Go.Proofs.YtpkkfdmhbbipoaaGreat
open Go.RowKit PopT
def newV (s : SetV) (p : ProgV) (now : Int) : DialV := ⟨s, p, 0, 0, 0, dueBegin (ownT now) p.deadline, [], [], 0, [], PendV.new s.out.toNat, false, ownT now⟩
theorem good_arms (n : Nat) (o : OpV) (h : opE n o = 0) : o.arms.length ≤ 8 := by
 by_cases hk : o.kind = 2
 ·exact (expectE_zero n o (opE_expect n o h hk)).1
 ·unfold opE at h
  split at h
  ·omega
  ·split at h
   ·omega
   ·rename_i _ hb
    cases hb2 : bareB o with
    | false => exact absurd hb2 hb
    | true =>
     unfold bareB at hb2
     simp only [Bool.and_eq_true, Bool.or_eq_true, decide_eq_true_eq] at hb2
     omega
theorem clampN_in {x : Int} {m : Nat} (h1 : 1 ≤ x) (h2 : x ≤ (m : Int)) : clampN x m = x.toNat := by
 unfold clampN; rw [if_neg (by omega), if_neg (by omega)]
theorem newV_ok (s : SetV) (p : ProgV) (now : Int) (hg : goodS s = true) (hp : (wrongM p).2 = 0) (hok : ProgOk p) (hn : I6 now) : DialOk (newV s p now) := by
 have hw := ownT_bd hn.2
 have hb := behindT_bd (ownT now) p.deadline ⟨by omega, hw.2⟩ hok.2.1
 refine ⟨hg, hp, hok, Nat.zero_le _, Nat.zero_le _, Nat.zero_le _, ⟨by show (-9223372036854775808 : Int) ≤ 9223372036854775807; decide, by show (9223372036854775807 : Int) ≤ 9223372036854775807; decide⟩, ⟨by show -9223372036854775808 ≤ behindT (ownT now) p.deadline; omega, hb.2⟩, ⟨by show (-9223372036854775808 : Int) ≤ 9223372036854775807; decide, by show (9223372036854775807 : Int) ≤ 9223372036854775807; decide⟩, hw⟩
def newPost (w : World) (gs : Bool) (pw : Nat) (nv : DialV) (e : Ending) (w' : World) : Prop := Below w.heap.size w w' ∧
 (if gs = false then e = .returned (.tuple #[.pointer none, .int .i64 1]) else if pw ≠ 0 then e = .returned (.tuple #[.pointer none, .int .i64 2]) else
  ∃ w0 d B F, e = .returned (.tuple #[.pointer (some ⟨d, 0, none⟩), .int .i64 0]) ∧ w.heap.size ≤ B ∧ DialAt B F w0 w' d (nv.come 0))
set_option maxRecDepth 20000 in
set_option maxHeartbeats 16000000 in
theorem dNew_any (s : SetV) (p : ProgV) (A : Option Addr) (c b0 : Nat) (now : Int) (w : World) (hin : OpsOwn b0 w (.slice A p.ops.length c) p.ops) (hok : ProgOk p) (hnow : I6 now) :
  Calls Tryz.prog 55 #[s.val, p.val (.slice A p.ops.length c), .int .i64 now] w fun e w' => newPost w (goodS s) (wrongM p).2 (newV s p now) e w' := by
 have HG : Hid (∀ W, Calls Tryz.prog 92 #[s.val] W fun e w' => e = .returned (.bool (goodS s)) ∧ Below W.heap.size W w') := fun W => costGood_any s W
 have HP : Hid (∀ W, Below w.heap.size w W → Calls Tryz.prog 74 #[p.val (.slice A p.ops.length c)] W fun e w' => e = .returned (.bool (decide ((wrongM p).2 = 0))) ∧ Below W.heap.size W w') := fun W hb =>
  progGood_any p A c W ((hin.inn rfl).below hb) hok.2.2.2.1 hok.1 (fun o ho => (hok.2.2.2.2 o ho).2.2.2.2.1)
 have HCP : Hid ((wrongM p).2 = 0 → ∀ W, Below w.heap.size w W → Calls Tryz.prog 93 #[p.val (.slice A p.ops.length c)] W fun e w' => ∃ A' c', e = .returned (p.val (.slice A' p.ops.length c')) ∧ OpsOwn W.heap.size w' (.slice A' p.ops.length c') p.ops ∧ Below W.heap.size W w') := fun h0 W hb =>
  copyP_any p A c b0 W (hin.below hb (Nat.le_refl _)) (by have := (wrongM_zero _ h0).1; omega) (fun o ho => by have := good_arms _ _ ((wrongM_zero _ h0).2.2 o ho); omega)
 have HNV : Hid (goodS s = true → (wrongM p).2 = 0 → DialOk (newV s p now)) := fun h1 h2 => newV_ok s p now h1 h2 hok hnow
 have HBD : Hid (goodS s = true → (1 ≤ s.ring ∧ s.ring ≤ 4096) ∧ (1 ≤ s.win ∧ s.win ≤ 4096) ∧ (1 ≤ s.out ∧ s.out ≤ 4096)) := fun h => by have := goodS_bd h; omega
 have HDL : Hid (∀ W, Calls Tryz.prog 95 #[.int .i64 (ownT now), .int .i64 p.deadline] W fun e w' => e = .returned (dueBegin (ownT now) p.deadline).val ∧ Below W.heap.size W w') := fun W =>
  dueBegin_any (ownT now) p.deadline W (by have := ownT_bd hnow.2; exact ⟨by omega, this.2⟩) hok.2.1
 have HOP : Hid (∀ A' c' w1 w2, OpsOwn w1 w2 (.slice A' p.ops.length c') p.ops → OpsIn w2 A' p.ops) := fun A' c' w1 w2 h => h.inn rfl
 obtain ⟨gs, hgs⟩ : ∃ y, goodS s = y := ⟨_, rfl⟩
 obtain ⟨pw, hpw⟩ : ∃ y, (wrongM p).2 = y := ⟨_, rfl⟩
 obtain ⟨nv, hnv⟩ : ∃ y, newV s p now = y := ⟨_, rfl⟩
 have HNVE := hid hnv
 obtain ⟨n, hn⟩ : ∃ y, p.ops.length = y := ⟨_, rfl⟩
 have HN := hid hn
 rw [hgs] at HG HNV HBD
 rw [hpw] at HP HCP HNV
 rw [hnv] at HNV
 rw [hn] at HP HCP HOP
 rw [hgs, hpw, hnv, hn]
 clear hgs hpw hnv hn hin hok hnow
 obtain ⟨lv, rg, wn, ou, qu, vi⟩ := s
 obtain ⟨nm, dl, jp, ops⟩ := p
 unfold SetV.val at HG ⊢
 unfold ProgV.val at HP HCP ⊢
 simp only at HG HP HCP HBD HDL HOP HN ⊢
 obtain ⟨wa, hwa⟩ : ∃ W, (w.alloc (.cells #[.int .i64 lv, .int .i64 rg, .int .i64 wn, .int .i64 ou, .int .i64 qu, .int .i64 vi] 23)).alloc (.cells #[.string nm, .int .i64 dl, .int .i64 jp, .slice A n c] 26) = W := ⟨_, rfl⟩
 have HBA : Hid (Below w.heap.size w wa) := by rw [← hwa]; exact below2 _ _ _
 have HSA : Hid (Blk wa w.heap.size 23 #[.int .i64 lv, .int .i64 rg, .int .i64 wn, .int .i64 ou, .int .i64 qu, .int .i64 vi]) := by rw [← hwa]; exact (Blk.new w _ _).alloc _
 have HPA : Hid (Blk wa (w.heap.size + 1) 26 #[.string nm, .int .i64 dl, .int .i64 jp, .slice A n c]) := by rw [← hwa]; exact new2 _ _ _ _
 have HWA := hid hwa
 clear hwa
 obtain ⟨gx, hgx⟩ : ∃ y, w.heap.size = y := ⟨_, rfl⟩
 have HGX := hid hgx
 rw [hgx] at HSA HPA
 clear hgx
 obtain ⟨x0, x1, x2, x3, x4, x5⟩ := fact6 HSA.out
 have hlx := HSA.out.lt
 go_enter Tryz.func55, Tryz.ntmps55
 go_upto_region 1 with fail
 rw [HWA.out, HGX.out]
 obtain ⟨gp, hgp⟩ : ∃ y, gx + 1 = y := ⟨_, rfl⟩
 rw [hgp] at HPA ⊢
 have HGG : Hid (w.heap.size = gx ∧ gx + 1 = gp) := ⟨HGX.out, hgp⟩
 clear hgp HGX HWA
 go_wp2_with fail
 refine (HG.out _).mono ?_
 rintro en w1 ⟨rfl, hb⟩
 have HB1 : Hid (Below w.heap.size w w1) := HBA.out.trans (hb.mono HBA.out.size)
 have HS1 := hid (HSA.out.below hb HSA.out.lt)
 have HP1 := hid (HPA.out.below hb HPA.out.lt)
 clear hb x0 x1 x2 x3 x4 x5 hlx HSA HPA HBA HG
 cases gs
 ·go_wp2_with fail
  go_ret2
  unfold newPost
  rw [if_pos rfl]
  exact ⟨HB1.out, rfl⟩
 obtain ⟨p0, p1, p2, p3⟩ := fact4 HP1.out
 have hlp := HP1.out.lt
 have CP := hid (HP.out w1 HB1.out)
 obtain ⟨b, hb⟩ : ∃ y, decide (pw = 0) = y := ⟨_, rfl⟩
 have HBB := hid hb
 rw [hb] at CP
 clear hb HP
 go_wp2_with fail
 refine CP.out.mono ?_
 rintro en w2 ⟨rfl, hb⟩
 have HB2 : Hid (Below w.heap.size w w2) := HB1.out.trans (hb.mono HB1.out.size)
 have HS2 := hid (HS1.out.below hb HS1.out.lt)
 have HP2 := hid (HP1.out.below hb HP1.out.lt)
 clear hb p0 p1 p2 p3 hlp HS1 HP1 HB1 CP
 cases b
 ·have hpw : pw ≠ 0 := by simpa using HBB.out
  have HPW := hid hpw
  clear hpw HBB
  go_wp2_with fail
  go_ret2
  unfold newPost
  rw [if_neg (by decide), if_pos HPW.out]
  exact ⟨HB2.out, rfl⟩
 have hpw : pw = 0 := by simpa using HBB.out
 subst hpw
 have HNOK := hid (HNV.out (by simp) (by simp))
 have HCQ := hid (HCP.out (by simp))
 obtain ⟨hb1, hb2, hb3⟩ := HBD.out (by simp)
 have HBQ := hid (And.intro hb1 (And.intro hb2 hb3))
 clear HNV HCP HBD HBB hb1 hb2 hb3
 obtain ⟨nw, hnw⟩ : ∃ y, ownT now = y := ⟨_, rfl⟩
 have HNW := hid hnw
 have COW : Hid (∀ W, Calls Tryz.prog 94 #[.int .i64 now] W fun e w' => e = .returned (.int .i64 nw) ∧ W = w') := by rw [← hnw]; exact fun W => ownC_any now W
 rw [hnw] at HDL
 clear hnw
 go_upto_region 5 with fail
 have X0 : ∀ q : BW w2.heap.size w2, q.1.cell? ⟨gx, 0, none⟩ = some (.int .i64 lv) := fun q => q.cellAt HS2.out.lt (HS2.out.cell 0)
 have X1 : ∀ q : BW w2.heap.size w2, q.1.cell? ⟨gx, 1, none⟩ = some (.int .i64 rg) := fun q => q.cellAt HS2.out.lt (HS2.out.cell 1)
 have X2 : ∀ q : BW w2.heap.size w2, q.1.cell? ⟨gx, 2, none⟩ = some (.int .i64 wn) := fun q => q.cellAt HS2.out.lt (HS2.out.cell 2)
 have X3 : ∀ q : BW w2.heap.size w2, q.1.cell? ⟨gx, 3, none⟩ = some (.int .i64 ou) := fun q => q.cellAt HS2.out.lt (HS2.out.cell 3)
 have X4 : ∀ q : BW w2.heap.size w2, q.1.cell? ⟨gx, 4, none⟩ = some (.int .i64 qu) := fun q => q.cellAt HS2.out.lt (HS2.out.cell 4)
 have X5 : ∀ q : BW w2.heap.size w2, q.1.cell? ⟨gx, 5, none⟩ = some (.int .i64 vi) := fun q => q.cellAt HS2.out.lt (HS2.out.cell 5)
 have Q0 : ∀ q : BW w2.heap.size w2, q.1.cell? ⟨gp, 0, none⟩ = some (.string nm) := fun q => q.cellAt HP2.out.lt (HP2.out.cell 0)
 have Q1 : ∀ q : BW w2.heap.size w2, q.1.cell? ⟨gp, 1, none⟩ = some (.int .i64 dl) := fun q => q.cellAt HP2.out.lt (HP2.out.cell 1)
 have Q2 : ∀ q : BW w2.heap.size w2, q.1.cell? ⟨gp, 2, none⟩ = some (.int .i64 jp) := fun q => q.cellAt HP2.out.lt (HP2.out.cell 2)
 have Q3 : ∀ q : BW w2.heap.size w2, q.1.cell? ⟨gp, 3, none⟩ = some (.slice A n c) := fun q => q.cellAt HP2.out.lt (HP2.out.cell 3)
 refine wp_region_ordT w2.heap.size [] (.val 0 (.val 1 (.val 3 (.op 2 (.op 4 (.val 5 (.op 6 (.val 7 (.nil))))))))) (by kernel_rfl) (by kernel_rfl) ?_
 obtain ⟨wc, hwc⟩ : ∃ W, w2.drewN 1 = W := ⟨_, rfl⟩
 have HBW : Hid (Below w2.heap.size w2 wc) := by rw [← hwc]; exact drewN_below w2 1
 rw [hwc]
 clear hwc
 iterate 3 ((first | refine wpOrdT_val rfl rfl ?_ | refine wpOrdT_load rfl rfl (inBW HBW.out) ?_); go_big_quiet_step (fail); refine wpQuiet_nil ?_)
 refine wpOrdT_op rfl ?_
 have CQ := hid (HCQ.out wc (HB2.out.trans (HBW.out.mono HB2.out.size)))
 go_wp2_with fail
 refine CQ.out.mono ?_
 rintro en w3 ⟨A2, c2, rfl, ho2, hb⟩
 have HO3 := hid (HOP.out A2 c2 _ _ ho2)
 have HB3 : Hid (Below w2.heap.size w2 w3) := HBW.out.trans (hb.mono HBW.out.size)
 clear hb ho2 CQ
 have HBW := HB3
 go_wp2_with fail
 refine KT.keep (inBW HBW.out) ?_
 refine wpOrdT_op rfl ?_
 go_wp2_with fail
 refine (COW.out _).mono ?_
 rintro en w3' ⟨rfl, rfl⟩
 go_wp2_with fail
 refine KT.keep (inBW HBW.out) ?_
 refine wpOrdT_val rfl rfl ?_
 go_big_quiet_step (fail)
 refine wpQuiet_nil ?_
 refine wpOrdT_op rfl ?_
 go_wp2_with fail
 obtain ⟨wd, hwd⟩ : ∃ W, w3.alloc (.cells #[.int .i64 lv, .int .i64 rg, .int .i64 wn, .int .i64 ou, .int .i64 qu, .int .i64 vi, .string nm, .int .i64 dl, .int .i64 jp, .slice A2 n c2, .int .i64 0, .int .i64 0, .int .i64 0, .int .i64 0, .int .i64 0, .int .i64 0, .pointer none, .pointer none, .pointer none, .bool false, .int .i64 nw] 107) = W := ⟨_, rfl⟩
 have HD0 : Hid (Blk wd w3.heap.size 107 #[.int .i64 lv, .int .i64 rg, .int .i64 wn, .int .i64 ou, .int .i64 qu, .int .i64 vi, .string nm, .int .i64 dl, .int .i64 jp, .slice A2 n c2, .int .i64 0, .int .i64 0, .int .i64 0, .int .i64 0, .int .i64 0, .int .i64 0, .pointer none, .pointer none, .pointer none, .bool false, .int .i64 nw]) := by rw [← hwd]; exact Blk.new _ _ _
 have HB0 : Hid (Below w3.heap.size w3 wd) := by rw [← hwd]; exact (Below.refl _ _).alloc (Nat.le_refl _) _
 rw [hwd]
 clear hwd
 have HBW : Hid (Below w2.heap.size w2 wd) := HB3.out.trans (HB0.out.mono HB3.out.size)
 obtain ⟨d, hd⟩ : ∃ y, w3.heap.size = y := ⟨_, rfl⟩
 have HDE := hid hd
 rw [hd] at HD0 ⊢
 clear hd
 refine KT.keep (inBW HBW.out) ?_
 refine wpOrdT_val rfl rfl ?_
 go_big_quiet_step (fail)
 refine wpQuiet_nil ?_
 refine wpOrdT_nil ?_
 clear X0 X1 X2 X3 X4 X5 Q0 Q1 Q2 Q3
 have HS3 := hid (HS2.out.below HBW.out HS2.out.lt)
 have HP3 := hid (HP2.out.below HBW.out HP2.out.lt)
 have HNE : Hid (gx ≠ d ∧ gp ≠ d) := by
  have := HS2.out.lt; have := HP2.out.lt; have := HB3.out.size; have := HDE.out; exact ⟨by omega, by omega⟩
 have HBD0 : Hid (Below w.heap.size w w3) := HB2.out.trans (HB3.out.mono HB2.out.size)
 clear HS2 HP2 COW HCQ
 go_upto_region 6 with fail
 have T20 : ∀ q : BW wd.heap.size wd, q.1.cell? ⟨d, 20, none⟩ = some (.int .i64 nw) := fun q => q.cellAt HD0.out.lt (HD0.out.cell 20)
 have P1 : ∀ q : BW wd.heap.size wd, q.1.cell? ⟨gp, 1, none⟩ = some (.int .i64 dl) := fun q => q.cellAt HP3.out.lt (HP3.out.cell 1)
 have HDQ : Hid (∃ d1 d2 d3, dueBegin nw dl = ⟨d1, d2, d3⟩) := ⟨_, _, _, rfl⟩
 obtain ⟨d1, d2, d3, hdd⟩ := HDQ.out
 have HDD := hid hdd
 rw [hdd] at HDL
 unfold DueV.val at HDL
 simp only at HDL
 clear hdd HDQ
 refine wp_region_ordT wd.heap.size [10] (.val 0 (.val 1 (.val 2 (.val 3 (.val 4 (.val 5 (.val 6 (.op 7 (.val 8 (.val 9 (.op 10 (.nil)))))))))))) (by kernel_rfl) (by kernel_rfl) ?_
 obtain ⟨we, hwe⟩ : ∃ W, wd.drewN 1 = W := ⟨_, rfl⟩
 have HBW : Hid (Below wd.heap.size wd we) := by rw [← hwe]; exact drewN_below wd 1
 rw [hwe]
 clear hwe
 iterate 7 ((first | refine wpOrdT_val rfl rfl ?_ | refine wpOrdT_load rfl rfl (inBW HBW.out) ?_); go_big_quiet_step (fail); refine wpQuiet_nil ?_)
 refine wpOrdT_op rfl ?_
 go_wp2_with fail
 refine (HDL.out _).mono ?_
 rintro en wf ⟨rfl, hb⟩
 have HBX : Hid (Below wd.heap.size wd wf) := HBW.out.trans (hb.mono HBW.out.size)
 clear hb
 have HBW := HBX
 go_wp2_with fail
 refine KT.keep (inBW HBW.out) ?_
 iterate 2 (refine wpOrdT_val rfl rfl ?_; go_big_quiet_step (fail); refine wpQuiet_nil ?_)
 refine wpOrdT_op rfl ?_
 have HDF := hid (HD0.out.below HBX.out HD0.out.lt)
 have y13 : wf.cell? ⟨d, 13, none⟩ = some (.int .i64 0) := HDF.out.cell 13
 have y14 : wf.cell? ⟨d, 14, none⟩ = some (.int .i64 0) := HDF.out.cell 14
 have y15 : wf.cell? ⟨d, 15, none⟩ = some (.int .i64 0) := HDF.out.cell 15
 have z13 := HDF.out.frozen 13; have z14 := HDF.out.frozen 14; have z15 := HDF.out.frozen 15
 have hlf := HDF.out.lt
 go_wp2_with fail
 obtain ⟨wg, hwg⟩ : ∃ W, setD3 wf d (.int .i64 d1) (.int .i64 d2) (.int .i64 d3) = W := ⟨_, rfl⟩
 have HDG : Hid (Blk wg d 107 #[.int .i64 lv, .int .i64 rg, .int .i64 wn, .int .i64 ou, .int .i64 qu, .int .i64 vi, .string nm, .int .i64 dl, .int .i64 jp, .slice A2 n c2, .int .i64 0, .int .i64 0, .int .i64 0, .int .i64 d1, .int .i64 d2, .int .i64 d3, .pointer none, .pointer none, .pointer none, .bool false, .int .i64 nw]) := by rw [← hwg]; exact ((HDF.out.set 13 _).set 14 _).set 15 _
 have HKG : Hid (Keep (fun k => k = d) wd wg) := by rw [← hwg]; exact (Keep.of_below (F := fun k => k = d) HBX.out).trans (setD3_keep _ _ _ _ _) (fun _ h => .inl h)
 unfold setD3 at hwg
 rw [hwg]
 clear hwg y13 y14 y15 z13 z14 z15 hlf HDF HBX
 refine KT.past rfl ?_
 refine wpOrdT_nil ?_
 clear T20 P1 HDL
 have HSG := hid (HKG.out.blk HS3.out HNE.out.1)
 clear HS3 HP3
 have HBG : Hid (Below d w3 wg) := HDE.out ▸ (HB0.out.trans (HKG.out.below HB0.out.size (fun k (e : k = d) => by rw [e, HDE.out]; exact Nat.le_refl _)))
 clear HB0 HKG HD0
 go_upto_region 7 with fail
 have hnd := HNE.out.1
 have hls := HSG.out.lt
 have S1 : ∀ q : KW (fun k => k = d) wg, q.1.cell? ⟨gx, 1, none⟩ = some (.int .i64 rg) := fun q => q.cellAt hls hnd (HSG.out.cell 1)
 have S2 : ∀ q : KW (fun k => k = d) wg, q.1.cell? ⟨gx, 2, none⟩ = some (.int .i64 wn) := fun q => q.cellAt hls hnd (HSG.out.cell 2)
 have S3 : ∀ q : KW (fun k => k = d) wg, q.1.cell? ⟨gx, 3, none⟩ = some (.int .i64 ou) := fun q => q.cellAt hls hnd (HSG.out.cell 3)
 clear hnd hls
 refine wp_region_ordK (fun k => k = d) [] (.val 0 (.val 1 (.val 2 (.val 3 (.val 4 (.val 6 (.val 7 (.val 9 (.val 10 (.op 5 (.op 8 (.op 11 (.val 12 (.val 13 (.op 14 (.val 15 (.val 16 (.op 17 (.val 18 (.val 19 (.op 20 (.nil)))))))))))))))))))))) (by kernel_rfl) (by kernel_rfl) ?_
 obtain ⟨wh, hwh⟩ : ∃ W, wg.drewN 1 = W := ⟨_, rfl⟩
 have HBH : Hid (Below wg.heap.size wg wh) := by rw [← hwh]; exact drewN_below wg 1
 rw [hwh]
 clear hwh
 have HKW : Hid (Keep (fun k => k = d) wg wh) := Keep.of_below HBH.out
 have CRG := hid (rgNew_any rg wh (by have := HBQ.out; omega) (by have := HBQ.out; omega))
 iterate 9 ((first | refine wpOrdT_val rfl rfl ?_ | refine wpOrdT_load rfl rfl (inKW HKW.out) ?_); go_big_quiet_step (fail); refine wpQuiet_nil ?_)
 refine wpOrdT_op rfl ?_
 go_wp2_with fail
 refine CRG.out.mono ?_
 rintro en wi ⟨gi, gb, rfl, hrg, hgi, hgb, hb⟩
 have HRI := hid hrg
 have HGI := hid (And.intro hgi hgb)
 have HBI : Hid (Below wg.heap.size wg wi) := HBH.out.trans (hb.mono HBH.out.size)
 have HSI : Hid (wg.heap.size ≤ wh.heap.size ∧ wh.heap.size ≤ wi.heap.size) := ⟨HBH.out.size, hb.size⟩
 clear hrg hgi hgb hb CRG
 have HKW : Hid (Keep (fun k => k = d) wg wi) := Keep.of_below HBI.out
 have CHO := hid (hoNew_any wn wi (by have := HBQ.out; omega) (by have := HBQ.out; omega))
 obtain ⟨gh, hgh⟩ : ∃ y, wi.heap.size = y := ⟨_, rfl⟩
 have HGH := hid hgh
 rw [hgh] at CHO
 clear hgh
 go_wp2_with fail
 refine KT.keep (inKW HKW.out) ?_
 refine wpOrdT_op rfl ?_
 go_wp2_with fail
 refine CHO.out.mono ?_
 rintro en wj ⟨rfl, hho, hb⟩
 have HHJ := hid hho
 rw [← HGH.out] at hb
 have HBJ := hid hb
 clear hho hb CHO
 have HKW : Hid (Keep (fun k => k = d) wg wj) := Keep.of_below (HBI.out.trans (HBJ.out.mono HBI.out.size))
 obtain ⟨om, hom⟩ : ∃ y : Nat, ou = (y : Int) := ⟨ou.toNat, by have := HBQ.out; omega⟩
 have HOM := hid hom
 have CPN : Hid (Calls Tryz.prog 98 #[.int .i64 ou] wj fun e w' => e = .returned (.pointer (some ⟨wj.heap.size, 0, none⟩)) ∧ PendAt w' wj.heap.size (PendV.new om) ∧ Below wj.heap.size wj w') := by
  rw [hom]; exact pnNew_any om (by have := HBQ.out; omega) (by have := HBQ.out; omega) wj
 obtain ⟨gq, hgq⟩ : ∃ y, wj.heap.size = y := ⟨_, rfl⟩
 have HGQ := hid hgq
 rw [hgq] at CPN
 clear hgq hom
 go_wp2_with fail
 refine KT.keep (inKW HKW.out) ?_
 refine wpOrdT_op rfl ?_
 go_wp2_with fail
 refine CPN.out.mono ?_
 rintro en wk ⟨rfl, hpn, hb⟩
 have HPK := hid hpn
 rw [← HGQ.out] at hb
 have HBK := hid hb
 clear hpn hb CPN
 have HBL : Hid (Below wg.heap.size wg wk) := (HBI.out.trans (HBJ.out.mono HBI.out.size)).trans (HBK.out.mono (Nat.le_trans HBI.out.size HBJ.out.size))
 have HKW : Hid (Keep (fun k => k = d) wg wk) := Keep.of_below HBL.out
 have HDC := hid (HDG.out.below HBL.out HDG.out.lt)
 have HKK : Hid (Keep (fun k => k = d) wk wk) := Keep.refl _ _
 clear S1 S2 S3
 go_wp2_with fail
 refine KT.keep (inKW HKW.out) ?_
 iterate 2 (refine wpOrdT_val rfl rfl ?_; go_big_quiet_step (fail); refine wpQuiet_nil ?_)
 refine wpOrdT_op rfl ?_
 obtain ⟨yc, ec⟩ := HDC.out.some 16 (by simp)
 have efc := HDC.out.frozen 16
 have hlc := HDC.out.lt
 go_wp2_with fail
 obtain ⟨wm, hwc, HDC, hkc⟩ := Blk.put HDC.out 16 (.pointer (some ⟨gi, 0, none⟩))
 rw [hwc]
 clear hwc ec efc hlc
 have HKW : Hid (Keep (fun k => k = d) wg wm) := HKW.out.trans hkc.out (fun _ h => .inl h)
 have HKK : Hid (Keep (fun k => k = d) wk wm) := HKK.out.trans hkc.out (fun _ h => .inl h)
 clear hkc
 refine KT.keep (inKW HKW.out) ?_
 iterate 2 (refine wpOrdT_val rfl rfl ?_; go_big_quiet_step (fail); refine wpQuiet_nil ?_)
 refine wpOrdT_op rfl ?_
 obtain ⟨yc, ec⟩ := HDC.out.some 17 (by simp)
 have efc := HDC.out.frozen 17
 have hlc := HDC.out.lt
 go_wp2_with fail
 obtain ⟨wo, hwc, HDC, hkc⟩ := Blk.put HDC.out 17 (.pointer (some ⟨gh, 0, none⟩))
 rw [hwc]
 clear hwc ec efc hlc
 have HKW : Hid (Keep (fun k => k = d) wg wo) := HKW.out.trans hkc.out (fun _ h => .inl h)
 have HKK : Hid (Keep (fun k => k = d) wk wo) := HKK.out.trans hkc.out (fun _ h => .inl h)
 clear hkc
 refine KT.keep (inKW HKW.out) ?_
 iterate 2 (refine wpOrdT_val rfl rfl ?_; go_big_quiet_step (fail); refine wpQuiet_nil ?_)
 refine wpOrdT_op rfl ?_
 obtain ⟨yc, ec⟩ := HDC.out.some 18 (by simp)
 have efc := HDC.out.frozen 18
 have hlc := HDC.out.lt
 go_wp2_with fail
 obtain ⟨wv, hwc, HDC, hkc⟩ := Blk.put HDC.out 18 (.pointer (some ⟨gq, 0, none⟩))
 rw [hwc]
 clear hwc ec efc hlc
 have HKW : Hid (Keep (fun k => k = d) wg wv) := HKW.out.trans hkc.out (fun _ h => .inl h)
 have HKK : Hid (Keep (fun k => k = d) wk wv) := HKK.out.trans hkc.out (fun _ h => .inl h)
 clear hkc
 refine KT.keep (inKW HKW.out) ?_
 refine wpOrdT_nil ?_
 have HDV0 : Hid (Blk wv d 107 #[.int .i64 lv, .int .i64 rg, .int .i64 wn, .int .i64 ou, .int .i64 qu, .int .i64 vi, .string nm, .int .i64 dl, .int .i64 jp, .slice A2 n c2, .int .i64 0, .int .i64 0, .int .i64 0, .int .i64 d1, .int .i64 d2, .int .i64 d3, .pointer (some ⟨gi, 0, none⟩), .pointer (some ⟨gh, 0, none⟩), .pointer (some ⟨gq, 0, none⟩), .bool false, .int .i64 nw]) := HDC
 have HE : Hid ((#[.int .i64 lv, .int .i64 rg, .int .i64 wn, .int .i64 ou, .int .i64 qu, .int .i64 vi, .string nm, .int .i64 dl, .int .i64 jp, .slice A2 n c2, .int .i64 0, .int .i64 0, .int .i64 0, .int .i64 d1, .int .i64 d2, .int .i64 d3, .pointer (some ⟨gi, 0, none⟩), .pointer (some ⟨gh, 0, none⟩), .pointer (some ⟨gq, 0, none⟩), .bool false, .int .i64 nw] : Array Value) = nv.cells A2 c2 gi gh gq ∧ nv.s.ring.toNat = clampN rg 4096 ∧ nv.s.win.toNat = clampN wn 4096 ∧ nv.pd = PendV.new om ∧ nv.s.out.toNat = om ∧ nv.R = [] ∧ nv.S = [] ∧ nv.seen = 0 ∧ nv.P = [] ∧ nv.p.ops = ops ∧ nv.p.ops.length = n) := by
  have h1 := HNW.out
  have h2 := HDD.out
  have h3 := HOM.out
  have h4 := HN.out
  have h5 := HBQ.out
  rw [← HNVE.out]
  unfold newV
  rw [h1]
  simp only
  rw [h2]
  refine ⟨?_, (clampN_in h5.1.1 h5.1.2).symm, (clampN_in h5.2.1.1 h5.2.1.2).symm, ?_, ?_, by trivial, by trivial, by trivial, by trivial, by trivial, h4⟩
  ·rw [← h4]; rfl
  ·rw [h3]; rfl
  ·rw [h3]; rfl
 clear HDC
 have HSZ : Hid (w3.heap.size = d ∧ d < wg.heap.size ∧ wg.heap.size ≤ wi.heap.size ∧ wi.heap.size = gh ∧ gh < wj.heap.size ∧ wj.heap.size = gq ∧ gq < wk.heap.size ∧ wk.heap.size ≤ wv.heap.size ∧ gi < wi.heap.size ∧ gb < wi.heap.size ∧ wg.heap.size ≤ gi ∧ wg.heap.size ≤ gb ∧ gi ≠ gb) := by
  have a1 := HDG.out.lt
  have a2 := HHJ.out.lt
  obtain ⟨tr, a3⟩ := HPK.out.1
  have a3 := a3.lt
  have a4 := HKK.out.size
  obtain ⟨f, bf, r1, r2⟩ := HRI.out
  have a5 := r1.1.lt
  have a6 := r1.2.1.lt
  have a7 := HGI.out
  have a8 := HSI.out
  refine ⟨HDE.out, a1, HBI.out.size, HGH.out, a2, HGQ.out, a3, a4, a5, a6, by omega, by omega, ?_⟩
  rintro rfl
  have := r1.1.symm.trans r1.2.1
  injection this with this
  injection this with _ h2
  revert h2
  decide
 have HDV : Hid (DialIn d (fun k => d ≤ k ∧ k < wv.heap.size) w3 wv d gi gb gh gq (fun k => k = gh) A2 c2 nv) := by
  obtain ⟨e1, e2, e3, e4, e5, e6, e7, e8, e9, e10, e11⟩ := HE.out
  obtain ⟨z0, z1, z2, z3, z4, z5, z6, z7, z8, z9, z10, z11, z12⟩ := HSZ.out
  have kj : Keep (fun k => k = d) wi wv := ((Keep.of_below (F := fun k => k = d) HBJ.out).trans (Keep.of_below (F := fun k => k = d) HBK.out) (fun _ h => .inl h)).trans HKK.out (fun _ h => .inl h)
  have kk : Keep (fun k => k = d) wj wv := (Keep.of_below (F := fun k => k = d) HBK.out).trans HKK.out (fun _ h => .inl h)
  refine ⟨?_, ?_, ⟨wi.heap.size, [], none, by omega, ?_, by rw [e9]; rfl⟩, ?_, ?_, ?_, ⟨by omega, by omega⟩, ⟨⟨Nat.le_refl _, by omega⟩, ⟨by omega, by omega⟩, ⟨by omega, by omega⟩, ⟨by omega, by omega⟩, ?_⟩, ⟨by omega, by omega, by omega, by omega, by omega, z12, by omega, by omega, by omega, by omega⟩, fun k hk => hk, ?_, HNOK.out⟩
  ·rw [← e1]; exact HDV0.out
  ·rw [e2, e6]; exact HRI.out.keep kj (by omega) (by omega)
  ·rw [e3, e7, e8, z3]
   have := HHJ.out
   exact this.keep kk (fun k (e : k = gh) (e2 : k = d) => by omega)
  ·rw [e4]; exact HPK.out.keep HKK.out (by omega)
  ·rw [e10]; exact HO3.out
  ·have h1 : Below w3.heap.size w3 wg := by rw [z0]; exact HBG.out
   exact h1.trans (HKW.out.below h1.size (fun k (e : k = d) => by omega))
  ·rintro k rfl; exact ⟨by omega, by omega⟩
  ·rw [e4, e5]; rfl
 clear HDV0 HKK HPK HHJ HRI HGI HSI HE HBL HBK HBJ HBI HBH HNOK HO3
 have HKW2 : Hid (Below w.heap.size w wv ∧ w.heap.size ≤ d) := by
  have h1 : Below w3.heap.size w3 wv := by rw [HSZ.out.1]; exact HBG.out.trans (HKW.out.below (by have := HBG.out.size; have := HSZ.out.1; omega) (fun k (e : k = d) => by rw [e]; exact Nat.le_refl _))
  exact ⟨HBD0.out.trans (h1.mono HBD0.out.size), by rw [← HSZ.out.1]; exact HBD0.out.size⟩
 have CC := hid (dCome_any HDV.out 0 (Nat.zero_le _))
 have hcz : ((0 : Nat) : Int) = 0 := rfl
 rw [hcz] at CC
 clear hcz
 go_wp2_with fail
 refine CC.out.mono ?_
 rintro en wz ⟨rfl, hdz, hkz⟩
 have HZ := hid hdz; have HKZ := hid hkz
 clear hdz hkz CC
 go_wp2_with fail
 go_ret2
 unfold newPost
 rw [if_neg (by decide), if_neg (by decide)]
 refine ⟨HKW2.out.1.trans (HKZ.out.below HKW2.out.1.size (fun k hk => Nat.le_trans HKW2.out.2 hk.1)), _, d, d, _, rfl, HKW2.out.2, HZ.out⟩
def Fit (x : DialV) : Prop := (x.st = 0 → x.op.kind = 2 → x.P.length = x.op.arms.length) ∧ x.pd.text.size ≤ 256
theorem newM_len (ps : List ByteArray) (h : (newM ps).2.2 = 0) : (newM ps).1.length = ps.length := by
 have key : ∀ (l : List ByteArray) (i : Nat) (acc : List (List Item)), (newGo l i acc).2.2 = 0 → (newGo l i acc).1.length = acc.length + l.length := by
  intro l
  induction l with
  | nil => intro i acc _; simp [newGo]
  | cons p l ih =>
   intro i acc h
   rw [newGo] at h ⊢
   split at h
   ·rename_i hc; exact absurd h hc
   ·rename_i hc
    rw [if_neg hc]
    split at h
    ·cases h
    ·rename_i h2
     rw [if_neg h2, ih _ _ h, List.length_append, List.length_cons, List.length_cons, List.length_nil]; omega
 unfold newM at h ⊢
 split at h
 ·cases h
 ·rename_i hc; rw [if_neg hc]; rw [key _ _ _ h]; simp
theorem fit_stop (x : DialV) (n : Nat) (h : n ≠ 0) : Fit (x.stop n) := ⟨fun h0 => absurd h0 h, by show (0 : Nat) ≤ 256; omega⟩
theorem opE_text (n : Nat) (o : OpV) (h : opE n o = 0) : o.text.size ≤ 256 := by
 unfold opE at h
 split at h
 ·omega
 ·split at h
  ·omega
  ·rename_i _ hb
   split at h
   ·split at h
    ·omega
    ·split at h <;> omega
   ·rename_i hk
    cases hb2 : bareB o with
    | false => exact absurd hb2 hb
    | true =>
     unfold bareB at hb2
     simp only [Bool.and_eq_true, Bool.or_eq_true, decide_eq_true_eq] at hb2
     omega
theorem fit_come {x : DialV} {tt : Nat} (h : DialOk (x.goes tt)) (hp : x.pd.text.size ≤ 256) : Fit (x.come tt) := by
 have hp' : (x.goes tt).pd.text.size ≤ 256 := hp
 show Fit (x.goes tt).enters
 obtain ⟨y, hy⟩ : ∃ y, x.goes tt = y := ⟨_, rfl⟩
 rw [hy] at h hp' ⊢
 clear hy hp
 unfold DialV.enters
 by_cases h1 : y.op.kind = 1
 ·rw [if_pos h1]
  refine ⟨fun _ h2 => ?_, opE_text _ _ (op_good y h (op_lt y (by omega))).1⟩
  have : y.op.kind = 2 := h2
  omega
 rw [if_neg h1]
 by_cases h2 : y.op.kind = 2
 ·rw [if_pos h2]
  refine ⟨fun _ _ => ?_, hp'⟩
  show ((newM (y.op.arms.map ArmV.pat)).1).length = y.op.arms.length
  rw [newM_len _ (op_arms y h h2).1, List.length_map]
 rw [if_neg h2]
 by_cases h4 : y.op.kind = 4
 ·rw [if_pos h4]
  exact ⟨fun _ h3 => absurd h3 h2, hp'⟩
 rw [if_neg h4]
 exact ⟨fun _ h3 => absurd h3 h2, hp'⟩
theorem fit_jump {x : DialV} (h : DialOk x) (hp : x.pd.text.size ≤ 256) (what : Nat) (tt : Int) (ht : tt ≤ (x.p.ops.length : Int)) : Fit (x.jump what tt).1 := by
 unfold DialV.jump
 split
 ·exact fit_stop x 2 (by omega)
 ·split
  ·exact fit_stop x 2 (by omega)
  ·rename_i h1 h2
   have hj := (wrongM_zero _ h.pgood).2.1
   exact fit_come ((h.hop (by omega)).goes (by show tt.toNat ≤ x.p.ops.length; omega)) hp
theorem DialOk.looked {x : DialV} (h : DialOk x) (L : LookR) : DialOk (x.looked L) := by
 obtain ⟨o1, o2, o3, o4, o5, o6, o7, o8, o9, o10⟩ := h
 exact ⟨o1, o2, o3, o4, o5, o6, o7, o8, o9, o10⟩
theorem fit_look {x : DialV} (h : DialOk x) (hf : Fit x) (hk : x.op.kind = 2) : Fit x.look.1 := by
 have ht := op_tgts x h hk
 unfold DialV.look
 simp only
 split
 ·exact fit_jump (h.looked _) hf.2 2 _ (ht.1 _)
 ·split
  ·exact fit_stop _ 4 (by omega)
  ·split
   ·exact fit_jump (h.looked _) hf.2 4 _ ht.2.2
   ·split
    ·exact fit_jump (h.looked _) hf.2 3 _ ht.2.1
    ·exact hf
theorem fit_send {x : DialV} (h : DialOk x) (hf : Fit x) (hk : x.op.kind = 1) : Fit x.send.1 := by
 unfold DialV.send
 split
 ·exact hf
 ·exact fit_come (h.goes (op_lt x (by omega))) hf.2
theorem fit_does {x : DialV} (h : DialOk x) (hf : Fit x) : Fit x.does.1 := by
 unfold DialV.does
 split
 ·rename_i h0; exact fit_stop _ _ h0
 ·split
  ·rename_i hk; exact fit_send h hf hk
  ·split
   ·rename_i hk; exact fit_look h hf hk
   ·split
    ·rename_i hk; exact fit_jump h hf.2 _ _ (op_goto x h hk)
    ·split
     ·rename_i hk; exact fit_come (h.goes (op_lt x (by omega))) hf.2
     ·split
      ·exact fit_stop _ 2 (by omega)
      ·exact fit_stop _ 1 (by omega)
theorem fit_step {x : DialV} (h : DialOk x) (hf : Fit x) (now : Int) (hn : now ≤ 9223372036854775807) : Fit (x.step now).1 := by
 unfold DialV.step
 split
 ·exact hf
 ·exact fit_does (h.clock hn) hf
theorem fit_put {x : DialV} (hf : Fit x) (b : ByteArray) : Fit (x.put b).1 := by
 unfold DialV.put; split <;> exact hf
theorem fit_ends {x : DialV} (hf : Fit x) : Fit x.ends := by
 unfold DialV.ends; split <;> exact hf
theorem fit_take {x : DialV} (hf : Fit x) (z : Int) : Fit (x.take z) := by
 unfold DialV.take
 split
 ·exact hf
 ·refine ⟨hf.1, ?_⟩
  show (x.pd.take z).text.size ≤ 256
  unfold PendV.take; first | exact hf.2 | (split <;> exact hf.2)
theorem fit_cuts {x : DialV} (hf : Fit x) (t : Int) : Fit (x.cuts t) := by
 unfold DialV.cuts; split <;> exact hf
theorem fit_new {s : SetV} {p : ProgV} {now : Int} (h : DialOk (newV s p now)) : Fit ((newV s p now).come 0) := fit_come (h.goes (Nat.zero_le _)) (by show (0 : Nat) ≤ 256; omega)
section
variable {B d : Nat} {F : Nat → Prop} {w0 w : World} {x : DialV}
theorem DialAt.ok (h : DialAt B F w0 w d x) : DialOk x := by obtain ⟨gi, gb, gh, gp, F2, A, c, h⟩ := h; exact h.ok
theorem DialAt.fin (h : DialAt B F w0 w d x) : ∀ k, F k → B ≤ k ∧ k < w.heap.size := by obtain ⟨gi, gb, gh, gp, F2, A, c, h⟩ := h; exact h.fin
theorem DialAt.base (h : DialAt B F w0 w d x) : B ≤ w.heap.size := by obtain ⟨gi, gb, gh, gp, F2, A, c, h⟩ := h; exact h.base.2
theorem aPut (h : DialAt B F w0 w d x) (b : ByteArray) (hb : b.size ≤ 9223372036854775807) : Calls Tryz.prog 16 #[.pointer (some ⟨d, 0, none⟩), .string b] w fun e w' => e = .returned (.int .i64 (((x.put b).2 : Nat) : Int)) ∧ DialAt B (Fup F w w') w0 w' d (x.put b).1 ∧ Keep F w w' := by
 obtain ⟨gi, gb, gh, gp, F2, A, c, h⟩ := h
 exact (dPut_any h b hb).mono (fun e w' hc => ⟨hc.1, DialAt.up hc.2.1.at h.fin h.base.2 hc.2.2.size, hc.2.2⟩)
theorem aEof (h : DialAt B F w0 w d x) : Calls Tryz.prog 17 #[.pointer (some ⟨d, 0, none⟩)] w fun e w' => e = .returned (.bool (decide (x.st = 0) && !x.eof)) ∧ DialAt B (Fup F w w') w0 w' d x.ends ∧ Keep F w w' := by
 obtain ⟨gi, gb, gh, gp, F2, A, c, h⟩ := h
 exact (dEof_any h).mono (fun e w' hc => ⟨hc.1, DialAt.up hc.2.1.at h.fin h.base.2 hc.2.2.size, hc.2.2⟩)
theorem aTake (h : DialAt B F w0 w d x) (z : Int) : Calls Tryz.prog 18 #[.pointer (some ⟨d, 0, none⟩), .int .i64 z] w fun e w' => e = .returned (.string (x.took z)) ∧ DialAt B (Fup F w w') w0 w' d (x.take z) ∧ Keep F w w' := by
 obtain ⟨gi, gb, gh, gp, F2, A, c, h⟩ := h
 exact (dTake_any h z).mono (fun e w' hc => ⟨hc.1, DialAt.up hc.2.1.at h.fin h.base.2 hc.2.2.size, hc.2.2⟩)
theorem aCut (h : DialAt B F w0 w d x) (t : Int) (ht : I6 t) : Calls Tryz.prog 19 #[.pointer (some ⟨d, 0, none⟩), .int .i64 t] w fun e w' => e = .returned (.tuple #[]) ∧ DialAt B (Fup F w w') w0 w' d (x.cuts t) ∧ Keep F w w' := by
 obtain ⟨gi, gb, gh, gp, F2, A, c, h⟩ := h
 exact (dCut_any h t ht).mono (fun e w' hc => ⟨hc.1, DialAt.up hc.2.1.at h.fin h.base.2 hc.2.2.size, hc.2.2⟩)
theorem aStep (h : DialAt B F w0 w d x) (hf : Fit x) (now : Int) (hn : now ≤ 9223372036854775807) : Calls Tryz.prog 20 #[.pointer (some ⟨d, 0, none⟩), .int .i64 now] w fun e w' => e = .returned (.tuple #[(x.step now).2.1.val, .bool (x.step now).2.2]) ∧ DialAt B (Fup F w w') w0 w' d (x.step now).1 ∧ Keep F w w' := by
 obtain ⟨gi, gb, gh, gp, F2, A, c, h⟩ := h
 exact dStep_any h now hn hf.1
end
end Go.Proofs.YtpkkfdmhbbipoaaGreat
