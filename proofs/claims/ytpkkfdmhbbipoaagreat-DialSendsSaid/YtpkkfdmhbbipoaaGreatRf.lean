/- Walks: the reference's deadlines, its writer, what a step costs. Walks: the reference's dialogue comes to an op. -/
import Derived.Test.YtpkkfdmhbbipoaaGreatRe
namespace Go.Proofs.YtpkkfdmhbbipoaaGreat
open Go.RowKit PopT
theorem Tryz.sizeH : (Tryz.prog.info? 37).map (·.size) = some 4 := by kernel_rfl
theorem alloc2 {w wz : World} {c1 c2 : Array Value} {t1 t2 : TypeId} (h : (w.alloc (.cells c1 t1)).alloc (.cells c2 t2) = wz) : ∃ gd gr, w.heap.size = gd ∧ w.heap.size + 1 = gr ∧ Hid (Blk wz gd t1 c1) ∧ Hid (Blk wz gr t2 c2) ∧ Hid (Below w.heap.size w wz) ∧ Hid (gd ≠ gr ∧ w.heap.size ≤ gd ∧ w.heap.size ≤ gr) := by
 subst h
 exact ⟨_, _, rfl, rfl, (Blk.new w _ _).alloc _, new2 _ _ _ _, below2 _ _ _, by omega, by omega, by omega⟩
theorem finRow {P : Program} {w we : World} {gr gd : Nat} {t : TypeId} {xs : List Value} {z : Array Value} {d : TypeDesc} (_ : Blk we gd t xs.toArray) (hr : Blk we gr t z) (hb : Below w.heap.size w we) (hg : gd ≠ gr ∧ w.heap.size ≤ gd ∧ w.heap.size ≤ gr)
  (hu : P.underlying t = some d) (hdr : d.isRow = true) (hi : (P.info? t).map (·.size) = some xs.length) :
  (loadVar t ⟨gr, 0, none⟩).run P (we.setRow gr xs.toArray) = .ok (.agg xs.toArray) (we.setRow gr xs.toArray) ∧ Below w.heap.size w (we.setRow gr xs.toArray) ∧ Keep (fun k => k = gr) we (we.setRow gr xs.toArray) :=
 ⟨run_loadVar_mid (P := P) _ gr 0 t xs d (Blk.range (hr.setRow _)) hu hdr hi, hb.trans ((Keep.setRow (fun k => k = gr) _ gr _ rfl).below hb.size (fun k (e : k = gr) => by rw [e]; exact hg.2.2)), Keep.setRow (fun k => k = gr) _ gr _ rfl⟩
def ComeQ (mk : Int → Int → Value → ByteArray → ByteArray → ByteArray → Int → Value) (o : OpV) (nw se : Int) (V : Value) (dn ot rs : ByteArray) (tr : Int) (w : World) (e : Ending) (w' : World) : Prop :=
 Below w.heap.size w w' ∧ ∃ d1' se' V' dn' ot' rs' tr', e = .returned (mk d1' se' V' dn' ot' rs' tr') ∧
  ((o.kind = 1 ∧ d1' = neverT ∧ se' = se ∧ V' = V ∧ dn' = ⟨#[]⟩ ∧ ot' = ⟨#[]⟩ ∧ rs' = o.text) ∨
   (o.kind = 2 ∧ d1' = behindT nw o.n ∧ se' = 0 ∧ PatV w.heap.size w' (newM (o.arms.map ArmV.pat)).1 V' ∧ dn' = dn ∧ ot' = ot ∧ rs' = rs ∧ tr' = tr) ∨
   (o.kind = 4 ∧ d1' = behindT nw o.n ∧ se' = se ∧ V' = V ∧ dn' = dn ∧ ot' = ot ∧ rs' = rs ∧ tr' = tr) ∨
   (o.kind ≠ 1 ∧ o.kind ≠ 2 ∧ o.kind ≠ 4 ∧ d1' = neverT ∧ se' = se ∧ V' = V ∧ dn' = dn ∧ ot' = ot ∧ rs' = rs ∧ tr' = tr))
set_option maxRecDepth 20000 in
set_option maxHeartbeats 4000000 in
theorem rCome_w (lv rg wn ou qu vi dl jp lo st ju d1 d2 d3 wi se mo tr nw : Int) (nm inn sS dn ot rs : ByteArray) (A Av : Option Addr) (n c nv cv : Nat) (ef : Bool) (ops : List OpV) (tn : Nat) (w : World) (hin : OpsIn w A ops) (hn : ops.length = n) (hnw : I6 nw)
  (hon : ∀ o ∈ ops, I6 o.n) (harm : ∀ o ∈ ops, o.kind = 2 → (newM (o.arms.map ArmV.pat)).2.2 = 0 ∧ o.arms.length ≤ 8 ∧ ∀ m ∈ o.arms, m.pat.size ≤ 64) (SS : List UInt8) (SE : Nat) (WN : Nat) (hS : sS = rgT SS) (hse : se = (SE : Int)) (hwi : wi = (WN : Int)) :
  Calls Tryz.prog 103 #[.agg #[.int .i64 lv, .int .i64 rg, .int .i64 wn, .int .i64 ou, .int .i64 qu, .int .i64 vi, .string nm, .int .i64 dl, .int .i64 jp, .slice A n c, .int .i64 lo, .int .i64 st, .int .i64 ju, .int .i64 d1, .int .i64 d2, .int .i64 d3, .string inn, .int .i64 wi, .string sS, .int .i64 se, .slice Av nv cv, .string dn, .string ot, .string rs, .int .i64 mo, .int .i64 tr, .bool ef, .int .i64 nw], .int .i64 (tn : Int)] w fun e w' => ComeQ (fun d1' se' V' dn' ot' rs' tr' => .agg #[.int .i64 lv, .int .i64 rg, .int .i64 wn, .int .i64 ou, .int .i64 qu, .int .i64 vi, .string nm, .int .i64 dl, .int .i64 jp, .slice A n c, .int .i64 (tn : Int), .int .i64 st, .int .i64 ju, .int .i64 d1', .int .i64 d2, .int .i64 d3, .string inn, .int .i64 wi, .string sS, .int .i64 se', V', .string dn', .string ot', .string rs', .int .i64 mo, .int .i64 tr', .bool ef, .int .i64 nw]) (ops.getD tn dNone) nw se (.slice Av nv cv) dn ot rs tr w e w' := by
 have HIN := hid hin; have HN := hid hn
 have HON := hid hon; have HARM := hid harm
 have HNW := hid hnw
 have HX := hid (And.intro hS (And.intro hse hwi))
 obtain ⟨Q, hQ⟩ : ∃ Q : Ending → World → Prop, (fun e w' => ComeQ (fun d1' se' V' dn' ot' rs' tr' => .agg #[.int .i64 lv, .int .i64 rg, .int .i64 wn, .int .i64 ou, .int .i64 qu, .int .i64 vi, .string nm, .int .i64 dl, .int .i64 jp, .slice A n c, .int .i64 (tn : Int), .int .i64 st, .int .i64 ju, .int .i64 d1', .int .i64 d2, .int .i64 d3, .string inn, .int .i64 wi, .string sS, .int .i64 se', V', .string dn', .string ot', .string rs', .int .i64 mo, .int .i64 tr', .bool ef, .int .i64 nw]) (ops.getD tn dNone) nw se (.slice Av nv cv) dn ot rs tr w e w') = Q := ⟨_, rfl⟩
 have HQ := hid hQ
 rw [hQ]
 clear hin hn hQ hon harm hnw hS hse hwi
 go_enter Tryz.func103, Tryz.ntmps103
 go_upto_region 1 with fail
 generalize hwz : (w.alloc (.cells #[.int .i64 lv, .int .i64 rg, .int .i64 wn, .int .i64 ou, .int .i64 qu, .int .i64 vi, .string nm, .int .i64 dl, .int .i64 jp, .slice A n c, .int .i64 lo, .int .i64 st, .int .i64 ju, .int .i64 d1, .int .i64 d2, .int .i64 d3, .string inn, .int .i64 wi, .string sS, .int .i64 se, .slice Av nv cv, .string dn, .string ot, .string rs, .int .i64 mo, .int .i64 tr, .bool ef, .int .i64 nw] 41)).alloc (.cells #[.int .i64 0, .int .i64 0, .int .i64 0, .int .i64 0, .int .i64 0, .int .i64 0, .string ⟨#[]⟩, .int .i64 0, .int .i64 0, .slice none 0 0, .int .i64 0, .int .i64 0, .int .i64 0, .int .i64 0, .int .i64 0, .int .i64 0, .string ⟨#[]⟩, .int .i64 0, .string ⟨#[]⟩, .int .i64 0, .slice none 0 0, .string ⟨#[]⟩, .string ⟨#[]⟩, .string ⟨#[]⟩, .int .i64 0, .int .i64 0, .bool false, .int .i64 0] 41) = wz
 obtain ⟨gd, gr, hgd, hgr, HDZ, HRZ, HBZ, HNE⟩ := alloc2 hwz
 rw [hgr, hgd]
 clear hgr hgd hwz
 have x10 : wz.cell? ⟨gd, 10, none⟩ = some (.int .i64 lo) := HDZ.out.cell 10
 have x13 : wz.cell? ⟨gd, 13, none⟩ = some (.int .i64 d1) := HDZ.out.cell 13
 have xf := frozAll HDZ.out
 have xl := HDZ.out.lt
 go_upto_region 2 with fail
 obtain ⟨wa, hwa⟩ : ∃ W, putL (putL wz gd 10 [.int .i64 (tn : Int)]) gd 13 [.int .i64 9223372036854775807] = W := ⟨_, rfl⟩
 have HDA : Hid (Blk wa gd 41 #[.int .i64 lv, .int .i64 rg, .int .i64 wn, .int .i64 ou, .int .i64 qu, .int .i64 vi, .string nm, .int .i64 dl, .int .i64 jp, .slice A n c, .int .i64 (tn : Int), .int .i64 st, .int .i64 ju, .int .i64 9223372036854775807, .int .i64 d2, .int .i64 d3, .string inn, .int .i64 wi, .string sS, .int .i64 se, .slice Av nv cv, .string dn, .string ot, .string rs, .int .i64 mo, .int .i64 tr, .bool ef, .int .i64 nw]) := by rw [← hwa]; exact putL_to (putL_to HDZ.out 10 _ (Nat.le_of_ble_eq_true rfl) rfl) 13 _ (Nat.le_of_ble_eq_true rfl) (by kernel_rfl)
 have HKA : Hid (Keep (fun k => k = gd) wz wa) := by rw [← hwa]; exact (putL_keep gd _ wz 10).trans (putL_keep _ _ _ _) (fun _ => .inl)
 have HRA := hid (HKA.out.blk HRZ.out (fun e => HNE.out.1 e.symm))
 have HBA : Hid (Below w.heap.size w wa) := HBZ.out.trans (HKA.out.below HBZ.out.size (fun k (e : k = gd) => by rw [e]; exact HNE.out.2.1))
 simp only [putL, Nat.reduceAdd] at hwa
 rw [hwa]
 clear hwa HKA HRZ HBZ HDZ x10 x13 xf xl
 have CK := hid (rKind_w lv rg wn ou qu vi dl jp st ju 9223372036854775807 d2 d3 wi se mo tr nw nm inn sS dn ot rs A Av n c nv cv ef ops tn wa (HIN.out.below HBA.out) HN.out)
 obtain ⟨k, hk⟩ : ∃ y, kindAt ops tn = y := ⟨_, rfl⟩
 have HK : Hid ((ops.getD tn dNone).kind = k) := hk
 rw [hk] at CK
 clear hk
 go_wp2_with (refine wpList_load_mid rfl 41 _ rfl gd 0 rfl _ _ (Blk.range HDA.out) Tryz.underlying41 rfl Tryz.sizeD ?_)
 refine CK.out.mono ?_
 rintro en we ⟨rfl, hb⟩
 have HDE := hid (HDA.out.below hb HDA.out.lt)
 have HRE := hid (HRA.out.below hb HRA.out.lt)
 have HBE : Hid (Below w.heap.size w we) := HBA.out.trans (hb.mono HBA.out.size)
 clear hb CK HDA HRA HBA
 go_upto_region 3 with fail
 by_cases hk0 : k ≠ 1 ∧ k ≠ 2 ∧ k ≠ 4
 ·have h1 : (k == 1) = false := by rw [beq_eq_false_iff_ne]; exact hk0.1
  have h2 : (k == 2) = false := by rw [beq_eq_false_iff_ne]; exact hk0.2.1
  have h4 : (k == 4) = false := by rw [beq_eq_false_iff_ne]; exact hk0.2.2
  have HK0 := hid hk0
  clear hk0
  have HDF := HDE
  have HRF := HRE
  have HBF := HBE
  go_wp2_with (first | (refine wpList_load_mid rfl 41 _ rfl gd 0 rfl _ _ (Blk.range HDF.out) Tryz.underlying41 rfl Tryz.sizeD ?_) | (refine wpList_store_row rfl 41 _ _ rfl gr _ rfl rfl 41 _ HRF.out Tryz.sizeD rfl (by kernel_rfl) ?_))
  have hf := finRow HDF.out HRF.out HBF.out HNE.out Tryz.underlying41 rfl Tryz.sizeD
  refine bodyPost_ret (res_one (ResIs.cell rfl hf.1) Tryz.results103) rfl ?_
  rw [← HQ.out]
  refine ⟨hf.2.1, _, _, _, _, _, _, _, rfl, .inr (.inr (.inr ⟨by rw [HK.out]; exact HK0.out.1, by rw [HK.out]; exact HK0.out.2.1, by rw [HK.out]; exact HK0.out.2.2, rfl, rfl, rfl, rfl, rfl, rfl, rfl⟩))⟩
 have HLT : Hid (∃ h : tn < ops.length, ops.getD tn dNone = ops[tn]) := by
  by_cases h : tn < ops.length
  ·exact ⟨h, by rw [List.getD_eq_getElem?_getD, List.getElem?_eq_getElem h]; rfl⟩
  ·exfalso; apply hk0
   have := HK.out
   rw [List.getD_eq_getElem?_getD, List.getElem?_eq_none (by omega)] at this
   rw [← this]; exact ⟨by decide, by decide, by decide⟩
 obtain ⟨hlt, ho⟩ := HLT.out
 obtain ⟨b1, o1, va, rfl, hbl, hva, q0, q1, q2, q3, q4, q5, q6⟩ := HIN.out.at tn hlt
 have HOG := hid ho
 have HON1 : Hid (I6 (ops[tn]'hlt).n) := HON.out _ (List.getElem_mem _)
 have HARM1 := hid (HARM.out (ops[tn]'hlt) (List.getElem_mem _))
 rw [← ho] at hva q1 q2 HON1 HARM1
 obtain ⟨on, hon⟩ : ∃ y, ops.getD tn dNone = y := ⟨_, rfl⟩
 rw [hon] at hva q1 q2 HON1 HARM1 HK HQ
 obtain ⟨ok, otx, onn, ott, oar, ooT, ooE⟩ := on
 simp only at hva q1 q2 HON1 HARM1 HK
 obtain ⟨Aa, ca, rfl, hra⟩ := hva
 have HRA := hid hra
 have HBL := hid hbl
 have hble : b1 < we.heap.size := Nat.lt_of_lt_of_le hbl HBE.out.size
 have hltn : (tn : Int) < (n : Int) := by have := HN.out; omega
 have hlt2 : tn < n := by omega
 clear hon ho q0 q3 q5 q6 HLT HOG hra
 have e9 : we.cell? ⟨gd, 9, none⟩ = some (.slice (some ⟨b1, o1, none⟩) n c) := HDE.out.cell 9
 have T9 : ∀ q : BW we.heap.size we, q.1.cell? ⟨gd, 9, none⟩ = some (.slice (some ⟨b1, o1, none⟩) n c) := fun q => q.cellAt HDE.out.lt e9
 clear e9
 by_cases hk1 : k = 1
 ·subst hk1
  clear hk0
  have CP := hid (fun W => r20Begin_any dn ot rs otx mo tr W)
  unfold pr20 at CP
  have T1 : ∀ q : BW we.heap.size we, q.1.cell? ⟨b1, o1 + tn * 7 + 1, none⟩ = some (.string otx) := fun q => q.cellAt hble (BW.cellAt HBL.out q1 ⟨we, HBE.out⟩)
  have P21 : ∀ q : BW we.heap.size we, q.1.cell? ⟨gd, 21, none⟩ = some (.string dn) := fun q => q.cellAt (HDE.out).lt ((HDE.out).cell 21)
  have P22 : ∀ q : BW we.heap.size we, q.1.cell? ⟨gd, 22, none⟩ = some (.string ot) := fun q => q.cellAt (HDE.out).lt ((HDE.out).cell 22)
  have P23 : ∀ q : BW we.heap.size we, q.1.cell? ⟨gd, 23, none⟩ = some (.string rs) := fun q => q.cellAt (HDE.out).lt ((HDE.out).cell 23)
  have P24 : ∀ q : BW we.heap.size we, q.1.cell? ⟨gd, 24, none⟩ = some (.int .i64 mo) := fun q => q.cellAt (HDE.out).lt ((HDE.out).cell 24)
  have P25 : ∀ q : BW we.heap.size we, q.1.cell? ⟨gd, 25, none⟩ = some (.int .i64 tr) := fun q => q.cellAt (HDE.out).lt ((HDE.out).cell 25)
  clear q1 q2 q4
  go_upto_region 4 with fail
  refine wp_region_ordT we.heap.size [11] (.val 0 (.val 1 (.val 2 (.val 3 (.val 4 (.val 5 (.val 6 (.val 7 (.val 8 (.op 9 (.val 10 (.op 11 (.nil))))))))))))) (by kernel_rfl) (by kernel_rfl) ?_
  obtain ⟨wc, hwc⟩ : ∃ W, we.drewN 1 = W := ⟨_, rfl⟩
  have HBW : Hid (Below we.heap.size we wc) := by rw [← hwc]; exact drewN_below we 1
  rw [hwc]
  clear hwc
  iterate 9 ((first | refine wpOrdT_val rfl rfl ?_ | refine wpOrdT_load rfl rfl (inBW HBW.out) ?_); go_big_quiet_step (fail); refine wpQuiet_nil ?_)
  refine wpOrdT_op rfl ?_
  have CQ := hid (CP.out wc)
  go_wp2_with fail
  refine CQ.out.mono ?_
  rintro en wc ⟨rfl, hb⟩
  have HBWn : Hid (Below we.heap.size we wc) := HBW.out.trans (hb.mono HBW.out.size)
  clear HBW hb CQ
  have HBW := HBWn
  clear HBWn
  go_wp2_with fail
  refine KT.keep (inBW HBW.out) ?_
  refine wpOrdT_val rfl rfl ?_
  have HDW := hid (HDE.out.below HBW.out HDE.out.lt)
  have y0 : wc.cell? ⟨gd, 21, none⟩ = some (.string dn) := HDW.out.cell 21
  have y1 : wc.cell? ⟨gd, 22, none⟩ = some (.string ot) := HDW.out.cell 22
  have y2 : wc.cell? ⟨gd, 23, none⟩ = some (.string rs) := HDW.out.cell 23
  have y3 : wc.cell? ⟨gd, 24, none⟩ = some (.int .i64 mo) := HDW.out.cell 24
  have y4 : wc.cell? ⟨gd, 25, none⟩ = some (.int .i64 tr) := HDW.out.cell 25
  have yf := frozAll HDW.out
  have yl := HDW.out.lt
  clear HDW
  go_big_quiet_step (fail)
  refine wpQuiet_nil ?_
  refine wpOrdT_op rfl ?_
  go_wp2_with fail
  refine KT.past rfl ?_
  refine wpOrdT_nil ?_
  obtain ⟨wf, hwf⟩ : ∃ W, putL wc gd 21 [.string ⟨#[]⟩, .string ⟨#[]⟩, .string otx, .int .i64 mo, .int .i64 0] = W := ⟨_, rfl⟩
  have HDF : Hid (Blk wf gd 41 #[.int .i64 lv, .int .i64 rg, .int .i64 wn, .int .i64 ou, .int .i64 qu, .int .i64 vi, .string nm, .int .i64 dl, .int .i64 jp, .slice (some ⟨b1, o1, none⟩) n c, .int .i64 (tn : Int), .int .i64 st, .int .i64 ju, .int .i64 9223372036854775807, .int .i64 d2, .int .i64 d3, .string inn, .int .i64 wi, .string sS, .int .i64 se, .slice Av nv cv, .string ⟨#[]⟩, .string ⟨#[]⟩, .string otx, .int .i64 mo, .int .i64 0, .bool ef, .int .i64 nw]) := by rw [← hwf]; exact putL_to (HDE.out.below HBW.out HDE.out.lt) 21 _ (Nat.le_of_ble_eq_true rfl) (by kernel_rfl)
  have HK2 : Hid (Keep (fun k => k = gd) wc wf) := by rw [← hwf]; exact putL_keep gd _ wc 21
  have HRF := hid (HK2.out.blk (HRE.out.below HBW.out HRE.out.lt) (fun e => HNE.out.1 e.symm))
  have HBC : Hid (Below w.heap.size w wc) := HBE.out.trans (HBW.out.mono HBE.out.size)
  have HBF : Hid (Below w.heap.size w wf) := HBC.out.trans (HK2.out.below HBC.out.size (fun k (e : k = gd) => by rw [e]; exact HNE.out.2.1))
  simp only [putL, Nat.reduceAdd] at hwf
  rw [hwf]
  clear hwf HK2 HBW HBC y0 y1 y2 y3 y4 yf yl
  go_wp2_with (first | (refine wpList_load_mid rfl 41 _ rfl gd 0 rfl _ _ (Blk.range HDF.out) Tryz.underlying41 rfl Tryz.sizeD ?_) | (refine wpList_store_row rfl 41 _ _ rfl gr _ rfl rfl 41 _ HRF.out Tryz.sizeD rfl (by kernel_rfl) ?_))
  have hf := finRow HDF.out HRF.out HBF.out HNE.out Tryz.underlying41 rfl Tryz.sizeD
  refine bodyPost_ret (res_one (ResIs.cell rfl hf.1) Tryz.results103) rfl ?_
  rw [← HQ.out]
  refine ⟨hf.2.1, _, _, _, _, _, _, _, rfl, .inl ⟨HK.out, rfl, rfl, rfl, rfl, rfl, rfl⟩⟩
 have h1 : (k == 1) = false := by rw [beq_eq_false_iff_ne]; exact hk1
 have CB := hid (fun W => rBehind_any nw onn W HNW.out HON1.out)
 have T2 : ∀ q : BW we.heap.size we, q.1.cell? ⟨b1, o1 + tn * 7 + 2, none⟩ = some (.int .i64 onn) := fun q => q.cellAt hble (BW.cellAt HBL.out q2 ⟨we, HBE.out⟩)
 have T27 : ∀ q : BW we.heap.size we, q.1.cell? ⟨gd, 27, none⟩ = some (.int .i64 nw) := fun q => q.cellAt HDE.out.lt (HDE.out.cell 27)
 by_cases hk4 : k = 4
 ·subst hk4
  clear hk0 hk1 q1 q2 q4
  go_upto_region 6 with fail
  refine wp_region_ordT we.heap.size [12] (.val 0 (.val 1 (.val 2 (.val 3 (.val 4 (.val 5 (.val 6 (.val 7 (.val 8 (.op 9 (.val 10 (.val 11 (.op 12 (.nil)))))))))))))) (by kernel_rfl) (by kernel_rfl) ?_
  obtain ⟨wc, hwc⟩ : ∃ W, we.drewN 1 = W := ⟨_, rfl⟩
  have HBW : Hid (Below we.heap.size we wc) := by rw [← hwc]; exact drewN_below we 1
  rw [hwc]
  clear hwc
  iterate 9 ((first | refine wpOrdT_val rfl rfl ?_ | refine wpOrdT_load rfl rfl (inBW HBW.out) ?_); go_big_quiet_step (fail); refine wpQuiet_nil ?_)
  refine wpOrdT_op rfl ?_
  have CQ := hid (CB.out wc)
  go_wp2_with fail
  refine CQ.out.mono ?_
  rintro en wc' ⟨rfl, rfl⟩
  clear CQ
  go_wp2_with fail
  refine KT.keep (inBW HBW.out) ?_
  refine wpOrdT_val rfl rfl ?_
  go_big_quiet_step (fail)
  refine wpQuiet_nil ?_
  refine wpOrdT_val rfl rfl ?_
  have HDW := hid (HDE.out.below HBW.out HDE.out.lt)
  have y0 : wc.cell? ⟨gd, 13, none⟩ = some (.int .i64 9223372036854775807) := HDW.out.cell 13
  have yf := frozAll HDW.out
  have yl := HDW.out.lt
  clear HDW
  go_big_quiet_step (fail)
  refine wpQuiet_nil ?_
  refine wpOrdT_op rfl ?_
  go_wp2_with fail
  refine KT.past rfl ?_
  refine wpOrdT_nil ?_
  obtain ⟨wf, hwf⟩ : ∃ W, putL wc gd 13 [.int .i64 (behindT nw onn)] = W := ⟨_, rfl⟩
  have HDF : Hid (Blk wf gd 41 #[.int .i64 lv, .int .i64 rg, .int .i64 wn, .int .i64 ou, .int .i64 qu, .int .i64 vi, .string nm, .int .i64 dl, .int .i64 jp, .slice (some ⟨b1, o1, none⟩) n c, .int .i64 (tn : Int), .int .i64 st, .int .i64 ju, .int .i64 (behindT nw onn), .int .i64 d2, .int .i64 d3, .string inn, .int .i64 wi, .string sS, .int .i64 se, .slice Av nv cv, .string dn, .string ot, .string rs, .int .i64 mo, .int .i64 tr, .bool ef, .int .i64 nw]) := by rw [← hwf]; exact putL_to (HDE.out.below HBW.out HDE.out.lt) 13 _ (Nat.le_of_ble_eq_true rfl) (by kernel_rfl)
  have HK2 : Hid (Keep (fun k => k = gd) wc wf) := by rw [← hwf]; exact putL_keep gd _ wc 13
  have HRF := hid (HK2.out.blk (HRE.out.below HBW.out HRE.out.lt) (fun e => HNE.out.1 e.symm))
  have HBC : Hid (Below w.heap.size w wc) := HBE.out.trans (HBW.out.mono HBE.out.size)
  have HBF : Hid (Below w.heap.size w wf) := HBC.out.trans (HK2.out.below HBC.out.size (fun k (e : k = gd) => by rw [e]; exact HNE.out.2.1))
  simp only [putL, Nat.reduceAdd] at hwf
  rw [hwf]
  clear hwf HK2 HBW HBC y0 yf yl
  go_wp2_with (first | (refine wpList_load_mid rfl 41 _ rfl gd 0 rfl _ _ (Blk.range HDF.out) Tryz.underlying41 rfl Tryz.sizeD ?_) | (refine wpList_store_row rfl 41 _ _ rfl gr _ rfl rfl 41 _ HRF.out Tryz.sizeD rfl (by kernel_rfl) ?_))
  have hf := finRow HDF.out HRF.out HBF.out HNE.out Tryz.underlying41 rfl Tryz.sizeD
  refine bodyPost_ret (res_one (ResIs.cell rfl hf.1) Tryz.results103) rfl ?_
  rw [← HQ.out]
  refine ⟨hf.2.1, _, _, _, _, _, _, _, rfl, .inr (.inr (.inl ⟨HK.out, rfl, rfl, rfl, rfl, rfl, rfl, rfl⟩))⟩
 obtain rfl : k = 2 := by by_cases h : k = 2; exact h; exact absurd ⟨hk1, h, hk4⟩ hk0
 clear hk0 hk1 hk4 h1
 have HQ4 := hid q4
 clear q1 q2 q4
 go_upto_region 6 with fail
 refine wp_region_ordT we.heap.size [12] (.val 0 (.val 1 (.val 2 (.val 3 (.val 4 (.val 5 (.val 6 (.val 7 (.val 8 (.op 9 (.val 10 (.val 11 (.op 12 (.nil)))))))))))))) (by kernel_rfl) (by kernel_rfl) ?_
 obtain ⟨wc, hwc⟩ : ∃ W, we.drewN 1 = W := ⟨_, rfl⟩
 have HBW : Hid (Below we.heap.size we wc) := by rw [← hwc]; exact drewN_below we 1
 rw [hwc]
 clear hwc
 iterate 9 ((first | refine wpOrdT_val rfl rfl ?_ | refine wpOrdT_load rfl rfl (inBW HBW.out) ?_); go_big_quiet_step (fail); refine wpQuiet_nil ?_)
 refine wpOrdT_op rfl ?_
 have CQ := hid (CB.out wc)
 go_wp2_with fail
 refine CQ.out.mono ?_
 rintro en wc' ⟨rfl, rfl⟩
 clear CQ
 go_wp2_with fail
 refine KT.keep (inBW HBW.out) ?_
 refine wpOrdT_val rfl rfl ?_
 go_big_quiet_step (fail)
 refine wpQuiet_nil ?_
 refine wpOrdT_val rfl rfl ?_
 have HDW := hid (HDE.out.below HBW.out HDE.out.lt)
 have y0 : wc.cell? ⟨gd, 13, none⟩ = some (.int .i64 9223372036854775807) := HDW.out.cell 13
 have yf := frozAll HDW.out
 have yl := HDW.out.lt
 clear HDW
 go_big_quiet_step (fail)
 refine wpQuiet_nil ?_
 refine wpOrdT_op rfl ?_
 go_wp2_with fail
 refine KT.past rfl ?_
 refine wpOrdT_nil ?_
 obtain ⟨wf, hwf⟩ : ∃ W, putL wc gd 13 [.int .i64 (behindT nw onn)] = W := ⟨_, rfl⟩
 have HDF : Hid (Blk wf gd 41 #[.int .i64 lv, .int .i64 rg, .int .i64 wn, .int .i64 ou, .int .i64 qu, .int .i64 vi, .string nm, .int .i64 dl, .int .i64 jp, .slice (some ⟨b1, o1, none⟩) n c, .int .i64 (tn : Int), .int .i64 st, .int .i64 ju, .int .i64 (behindT nw onn), .int .i64 d2, .int .i64 d3, .string inn, .int .i64 wi, .string sS, .int .i64 se, .slice Av nv cv, .string dn, .string ot, .string rs, .int .i64 mo, .int .i64 tr, .bool ef, .int .i64 nw]) := by rw [← hwf]; exact putL_to (HDE.out.below HBW.out HDE.out.lt) 13 _ (Nat.le_of_ble_eq_true rfl) (by kernel_rfl)
 have HK2 : Hid (Keep (fun k => k = gd) wc wf) := by rw [← hwf]; exact putL_keep gd _ wc 13
 have HRF := hid (HK2.out.blk (HRE.out.below HBW.out HRE.out.lt) (fun e => HNE.out.1 e.symm))
 have HBC : Hid (Below w.heap.size w wc) := HBE.out.trans (HBW.out.mono HBE.out.size)
 have HBF : Hid (Below w.heap.size w wf) := HBC.out.trans (HK2.out.below HBC.out.size (fun k (e : k = gd) => by rw [e]; exact HNE.out.2.1))
 simp only [putL, Nat.reduceAdd] at hwf
 rw [hwf]
 clear hwf HK2 HBW HBC y0 yf yl
 have HAG := hid (HARM1.out HK.out)
 clear T9 T2 T27 CB
 obtain ⟨na, hna⟩ : ∃ y, oar.length = y := ⟨_, rfl⟩
 have HNA := hid hna
 rw [hna] at HQ4
 have hna8 : na ≤ 8 := by have := HAG.out.2.1; omega
 clear hna hble
 go_wp2_with fail
 go_loopw [6, 7] (fun v iv wr => ∃ (i c' : Nat) (A' : Option Addr), i ≤ na ∧ iv = .int .i64 (i : Int) ∧ v = .slice A' i c' ∧ wr.ownsRow wf.heap.size 9 1 (.slice A' i c') i (textCells ((oar.take i).map ArmV.pat)) ∧ Below wf.heap.size wf wr) (fun _ iv _ => na - (intOf iv).toNat)
 case atStart => exact ⟨0, _, _, by omega, rfl, rfl, World.ownsRow_made _ _ _ (Nat.le_refl _) (by simp [maxLen]) (by simp), (Below.refl _ _).alloc (Nat.le_refl _) _⟩
 case round =>
  obtain ⟨i, c', A', hi, rfl, rfl, hown, hb⟩ := hrel
  have HB := hid hb
  have HBR : Hid (Below w.heap.size w wr) := HBF.out.trans (hb.mono HBF.out.size)
  have HDR := hid (HDF.out.below hb HDF.out.lt)
  have hsz := HB.out.size
  have e9 : wr.cell? ⟨gd, 9, none⟩ = some (.slice (some ⟨b1, o1, none⟩) n c) := HDR.out.cell 9
  have el := HDR.out.lt
  have e4 : wr.cell? ⟨b1, o1 + tn * 7 + 4, none⟩ = some (.slice Aa na ca) := BW.cellAt HBL.out HQ4.out ⟨wr, HBR.out⟩
  have hbl2 : b1 < wr.heap.size := Nat.lt_of_lt_of_le HBL.out HBR.out.size
  clear hb
  by_cases hlt3 : i < na
  ·have HK3 : Hid (i < oar.length) := by rw [Hid, HNA.out]; exact hlt3
   obtain ⟨b2, off2, rfl, hbl3, hc⟩ := (HRA.out.below HBR.out).at (by rw [armVCells_length, HNA.out]; omega)
   obtain ⟨e0, e1⟩ := arm_at hc i HK3.out
   have HT2 : Hid ((oar.take (i + 1)).map ArmV.pat = (oar.take i).map ArmV.pat ++ [(oar[i]'HK3.out).pat]) := by
    rw [Hid, List.take_succ_eq_append_getElem HK3.out, List.map_append]; rfl
   obtain ⟨⟨pa, ta⟩, hx⟩ : ∃ x, oar[i]'HK3.out = x := ⟨_, rfl⟩
   rw [hx] at e0 HT2
   simp only at e0
   clear hx hc e1
   have hown0 := hid hown
   clear hown
   go_upto_region 12 with fail
   go_wp2_with (at_builtin; refine wpList_append1 _ rfl _ _ 158 rfl wf.heap.size 9 _ 1 16 Tryz.underlying158 Tryz.infoStr rfl (by decide) _ _ _ rfl hown0.out 1 [.string pa] rfl rfl rfl ?_ (by decide) hsz ?_)
   ·omega
   intro A2 d2 w3 hown3 hg3
   have HB3 := hid (below_grown HB.out hown0.out hg3 (Nat.le_refl _) hsz)
   have HO3 := hid hown3
   clear hg3 hown3 hsz HB HBR HDR e0 hbl3 hown0
   go_wp2_with fail
   go_roundw
   case rel => exact ⟨i + 1, d2, A2, by omega, by go_num, rfl, by rw [HT2.out]; simpa [textCells] using HO3.out, HB3.out⟩
   case measure => simp [intOf]; omega
  ·have HPS : Hid ((oar.take i).map ArmV.pat = oar.map ArmV.pat ∧ (oar.map ArmV.pat).length = i) := ⟨by rw [List.take_of_length_le (by rw [HNA.out]; omega)], by rw [List.length_map, HNA.out]; omega⟩
   rw [HPS.out.1] at hown
   have CG : Hid (Calls Tryz.prog 147 #[.agg #[.int .i64 wi, .string sS, .int .i64 se, .slice Av nv cv], .slice A' i c'] wr fun e w' => ∃ v', e = .returned (.tuple #[.agg #[.int .i64 wi, .string sS, .int .i64 0, v'], .int .i64 0]) ∧ Below wr.heap.size wr w' ∧ PatV wr.heap.size w' (newM (oar.map ArmV.pat)).1 v') := by
    have := refBegin_any WN SE SS (.slice Av nv cv) A' i c' (oar.map ArmV.pat) wr ⟨_, _, _, rfl⟩ HPS.out.2 (by omega) (fun p hp => by obtain ⟨m, hm, rfl⟩ := List.mem_map.1 hp; have := HAG.out.2.2 m hm; omega) (Rd_of_own hown)
    rw [HX.out.1, HX.out.2.1, HX.out.2.2]
    unfold refV at this
    refine this.mono (fun e w' h => ?_)
    obtain ⟨h1, ⟨h2, -⟩ | ⟨-, v', rfl, h3⟩⟩ := h
    ·exact absurd HAG.out.1 h2
    ·exact ⟨v', rfl, h1, h3⟩
   clear hown hsz
   have HRR := hid (HRF.out.below HB.out HRF.out.lt)
   go_upto_region 13 with fail
   clear e9 e4 hbl2
   go_wp2_with (refine wpList_load_mid rfl 37 _ rfl gd 17 rfl [.int .i64 wi, .string sS, .int .i64 se, .slice Av nv cv] _ (Blk.rangeAt HDR.out 17 _ rfl) Tryz.underlying37 rfl Tryz.sizeH ?_)
   refine CG.out.mono ?_
   rintro en wh ⟨v', rfl, hb, hp⟩
   obtain ⟨Ap, cp, vs, rfl, hp1, hp2⟩ := hp
   obtain ⟨np, hnp⟩ : ∃ y, (newM (oar.map ArmV.pat)).1.length = y := ⟨_, rfl⟩
   have HNP := hid hnp
   have HP1 := hid hp1; have HP2 := hid hp2
   rw [hnp] at HP1 ⊢
   have HDH := hid (HDR.out.below hb HDR.out.lt)
   have HRH := hid (HRR.out.below hb HRR.out.lt)
   have HBH : Hid (Below w.heap.size w wh) := HBR.out.trans (hb.mono HBR.out.size)
   have HSZ : Hid (gd < wr.heap.size ∧ gr < wr.heap.size ∧ w.heap.size ≤ wr.heap.size) := ⟨HDR.out.lt, HRR.out.lt, HBR.out.size⟩
   clear hp1 hp2 hb hnp CG el
   have x17 : wh.cell? ⟨gd, 17, none⟩ = some (.int .i64 wi) := HDH.out.cell 17
   have x18 : wh.cell? ⟨gd, 18, none⟩ = some (.string sS) := HDH.out.cell 18
   have x19 : wh.cell? ⟨gd, 19, none⟩ = some (.int .i64 se) := HDH.out.cell 19
   have x20 : wh.cell? ⟨gd, 20, none⟩ = some (.slice Av nv cv) := HDH.out.cell 20
   have xf := frozAll HDH.out
   have xl := HDH.out.lt
   go_upto_region 14 with fail
   obtain ⟨wg, hwg⟩ : ∃ W, putL wh gd 17 [.int .i64 wi, .string sS, .int .i64 0, .slice Ap np cp] = W := ⟨_, rfl⟩
   have HDF2 : Hid (Blk wg gd 41 #[.int .i64 lv, .int .i64 rg, .int .i64 wn, .int .i64 ou, .int .i64 qu, .int .i64 vi, .string nm, .int .i64 dl, .int .i64 jp, .slice (some ⟨b1, o1, none⟩) n c, .int .i64 (tn : Int), .int .i64 st, .int .i64 ju, .int .i64 (behindT nw onn), .int .i64 d2, .int .i64 d3, .string inn, .int .i64 wi, .string sS, .int .i64 0, .slice Ap np cp, .string dn, .string ot, .string rs, .int .i64 mo, .int .i64 tr, .bool ef, .int .i64 nw]) := by rw [← hwg]; exact putL_to HDH.out 17 _ (Nat.le_of_ble_eq_true rfl) (by kernel_rfl)
   have HK2 : Hid (Keep (fun k => k = gd) wh wg) := by rw [← hwg]; exact putL_keep gd _ wh 17
   have HRF2 := hid (HK2.out.blk HRH.out (fun e => HNE.out.1 e.symm))
   have HBF2 : Hid (Below w.heap.size w wg) := HBH.out.trans (HK2.out.below HBH.out.size (fun k (e : k = gd) => by rw [e]; exact HNE.out.2.1))
   simp only [putL, Nat.reduceAdd] at hwg
   rw [hwg]
   clear hwg x17 x18 x19 x20 xf xl
   go_wp2_with (first | (refine wpList_load_mid rfl 41 _ rfl gd 0 rfl _ _ (Blk.range HDF2.out) Tryz.underlying41 rfl Tryz.sizeD ?_) | (refine wpList_store_row rfl 41 _ _ rfl gr _ rfl rfl 41 _ HRF2.out Tryz.sizeD rfl (by kernel_rfl) ?_))
   have hf := finRow HDF2.out HRF2.out HBF2.out HNE.out Tryz.underlying41 rfl Tryz.sizeD
   refine bodyPost_ret (res_one (ResIs.cell rfl hf.1) Tryz.results103) rfl ?_
   rw [← HQ.out]
   refine ⟨hf.2.1, _, _, _, _, _, _, _, rfl, .inr (.inl ⟨HK.out, rfl, rfl, ?_, rfl, rfl, rfl, rfl⟩)⟩
   refine PatV.keep (base := wr.heap.size) ?_ (G := fun k => k = gd ∨ k = gr) ((HK2.out.mono (fun k _ h => .inl h) : Keep (fun k => k = gd ∨ k = gr) wh wg).trans hf.2.2 (fun k h => .inl (.inr h))) HSZ.out.2.2 (fun k h1 _ h3 => by have := HSZ.out; omega)
   refine ⟨Ap, cp, vs, ?_, ?_, HP2.out⟩
   ·show Value.slice Ap np cp = _; rw [← HNP.out]
   ·rw [HNP.out]; exact HP1.out
end Go.Proofs.YtpkkfdmhbbipoaaGreat
