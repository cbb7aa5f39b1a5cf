/- Walks: the reference's Add (layer 13). Walks: the reference's Next (layer 24). -/
import Derived.Test.YtpkkfdmhbbipoaaGreatFb
import Derived.Test.YtpkkfdmhbbipoaaGreatFc
import Derived.Test.YtpkkfdmhbbipoaaGreatMh
import Derived.Test.YtpkkfdmhbbipoaaGreatRc
namespace Go.Proofs.YtpkkfdmhbbipoaaGreat
open Go.RowKit PopT
theorem rAdd_same {P : Prop} (h : P := by
 go_wp2_with fail
 try go_ret
 refine HQQ.out _ _ ?_ (Below.refl _ _)
 rw [HF.out]
 have h1 := HV0.out
 rw [HM.out] at h1; exact h1) : P := h
theorem rAdd_more {P : Prop} (h : P := by
 go_upto_region 6 with fail
 refine wp_region_ordT w.heap.size [] (.val 1 (.val 2 (.val 3 (.val 5 (.val 8 (.val 9 (.val 10 (.two 0 (.two 4 (.op 6 (.op 7 (.op 11 (.val 12 (.nil))))) 6 (.op 4 (.op 7 (.op 11 (.val 12 (.nil)))))) 6 (.op 0 (.op 4 (.op 7 (.op 11 (.val 12 (.nil)))))))))))))) (by kernel_rfl) (by kernel_rfl) ?_
 obtain ⟨wc, hwc⟩ : ∃ W, w.drewN 1 = W := ⟨_, rfl⟩
 have HBW : Hid (Below w.heap.size w wc) := by rw [← hwc]; exact drewN_below w 1
 rw [hwc]
 clear hwc
 have HL1 : Hid ((intCells (l.take k)).length = k * 1) := by rw [Hid, intCells_length, List.length_take, HM.out] <;> omega
 have HL2 : Hid (([.int .i64 n] : List Value).length = 1 * 1) := rfl
 have HL3 : Hid ((intCells (l.drop k)).length = (m - k) * 1) := by rw [Hid, intCells_length, List.length_drop, HM.out] <;> omega
 have HP1 : Hid (∀ u ∈ intCells (l.take k), u.oneCell' = true) := fun u hu => by obtain ⟨y, _, rfl⟩ := List.mem_map.1 hu; rfl
 have HP2 : Hid (∀ u ∈ ([.int .i64 n] : List Value), u.oneCell' = true) := fun u hu => by rw [List.mem_singleton] at hu; subst hu; rfl
 have HP3 : Hid (∀ u ∈ intCells (l.drop k), u.oneCell' = true) := fun u hu => by obtain ⟨y, _, rfl⟩ := List.mem_map.1 hu; rfl
 have HA2 : ∀ g : Nat, Hid (some (⟨g, 0, none⟩ : Addr) = none → 1 = 0 ∧ 1 = 0) := fun g h => by cases h
 have HLL : Hid (k + 1 + (m - k) = (l.take k ++ n :: l.drop k).length) := by rw [Hid, List.length_append, List.length_cons, List.length_take, List.length_drop, HM.out] <;> omega
 iterate 7 (refine wpOrdT_val rfl rfl ?_; go_big_quiet_step (fail); refine wpQuiet_nil ?_)
 refine wpOrdT_two rfl rfl ?_ ?_
 ·go_wp2_with fail
  obtain ⟨v1, hw⟩ : ∃ W, wc.alloc (.cells #[] 3) = W := ⟨_, rfl⟩
  have HS : Hid (Below wc.heap.size wc v1) := by rw [← hw]; exact (Below.refl _ _).alloc (Nat.le_refl _) _
  have HE1 : Hid (IO w.heap.size (wc.alloc (.cells #[] 3)) (.slice (some ⟨wc.heap.size, 0, none⟩) 0 0) []) := io_new w.heap.size wc [] HBW.out.size (by simp)
  rw [hw] at HE1 ⊢
  obtain ⟨g0, hg⟩ : ∃ y, wc.heap.size = y := ⟨_, rfl⟩
  rw [hg] at HE1 ⊢
  have HB1 : Hid (Below w.heap.size w v1) := HBW.out.trans (HS.out.mono HBW.out.size)
  have HO1 : Hid (v1.ownsRow w.heap.size 3 1 (.slice (some ⟨g0, 0, none⟩) 0 0) 0 []) := HE1
  clear hw hg HS
  refine KT.keep (inBW HB1.out) ?_
  focus
   refine wpOrdT_two rfl rfl ?_ ?_
   focus
    have HX := hid (HLA.out.below HB1.out)
    have hs := HB1.out.size
    have hbi : (0 + k) * 8 ≤ 140737488355328 := by omega
    go_wp2_with (at_builtin; refine wpList_appendR _ rfl _ _ 68 rfl w.heap.size 3 _ 1 8 Tryz.underlying68 Tryz.infoIF rfl (by decide) _ _ _ rfl HO1.out _ _ _ (intCells (l.take k)) rfl HL1.out HX.out HA1.out HP1.out hbi (by decide) hs ?_)
    intro A4 c4 v2 hown hkp hfr
    have HB2 : Hid (Below w.heap.size w v2) := HB1.out.trans (hkp.below hs (fun j e => (HO1.out.lt j e).1))
    have HO2 := hid hown
    clear hown hkp hfr hs hbi HX
    go_wp2_with fail
    refine KT.keep (inBW HB2.out) ?_
    refine wpOrdT_op rfl ?_
    go_wp2_with fail
    obtain ⟨v3, hw⟩ : ∃ W, v2.alloc (.cells #[.int .i64 n] 3) = W := ⟨_, rfl⟩
    have HS : Hid (Below v2.heap.size v2 v3) := by rw [← hw]; exact (Below.refl _ _).alloc (Nat.le_refl _) _
    have HN3 : Hid (IO w.heap.size (v2.alloc (.cells #[.int .i64 n] 3)) (.slice (some ⟨v2.heap.size, 0, none⟩) 1 1) [n]) := io_new w.heap.size v2 [n] HB2.out.size (by simp)
    rw [hw] at HN3 ⊢
    obtain ⟨g6, hg⟩ : ∃ y, v2.heap.size = y := ⟨_, rfl⟩
    rw [hg] at HN3 ⊢
    have HB3 : Hid (Below w.heap.size w v3) := HB2.out.trans (HS.out.mono HB2.out.size)
    have HR3 : Hid (Rd v3 (some ⟨g6, 0, none⟩) [.int .i64 n]) := Rd_of_own HN3.out
    have HO3 := hid (own_below HO2.out HS.out)
    clear hw hg HS
   rotate_left 1
   focus
    go_wp2_with fail
    obtain ⟨v2, hw⟩ : ∃ W, v1.alloc (.cells #[.int .i64 n] 3) = W := ⟨_, rfl⟩
    have HS : Hid (Below v1.heap.size v1 v2) := by rw [← hw]; exact (Below.refl _ _).alloc (Nat.le_refl _) _
    have HN2 : Hid (IO w.heap.size (v1.alloc (.cells #[.int .i64 n] 3)) (.slice (some ⟨v1.heap.size, 0, none⟩) 1 1) [n]) := io_new w.heap.size v1 [n] HB1.out.size (by simp)
    rw [hw] at HN2 ⊢
    obtain ⟨g6, hg⟩ : ∃ y, v1.heap.size = y := ⟨_, rfl⟩
    have HNE : Hid (g6 ≠ g0) := by have := (HO1.out.lt g0 rfl).2; rw [Hid]; omega
    rw [hg] at HN2 ⊢
    have HB2 : Hid (Below w.heap.size w v2) := HB1.out.trans (HS.out.mono HB1.out.size)
    have HR2 : Hid (Rd v2 (some ⟨g6, 0, none⟩) [.int .i64 n]) := Rd_of_own HN2.out
    have HO2 := hid (own_below HO1.out HS.out)
    clear hw hg HS
    refine KT.keep (inBW HB2.out) ?_
    refine wpOrdT_op rfl ?_
    have HX := hid (HLA.out.below HB2.out)
    have hs := HB2.out.size
    have hbi : (0 + k) * 8 ≤ 140737488355328 := by omega
    go_wp2_with (at_builtin; refine wpList_appendR _ rfl _ _ 68 rfl w.heap.size 3 _ 1 8 Tryz.underlying68 Tryz.infoIF rfl (by decide) _ _ _ rfl HO2.out _ _ _ (intCells (l.take k)) rfl HL1.out HX.out HA1.out HP1.out hbi (by decide) hs ?_)
    intro A4 c4 v3 hown hkp hfr
    have HB3 : Hid (Below w.heap.size w v3) := HB2.out.trans (hkp.below hs (fun j e => (HO2.out.lt j e).1))
    have HR3 : Hid (Rd v3 (some ⟨g6, 0, none⟩) [.int .i64 n]) := hkp.rd HR2.out (fun a e e2 => by injection e with e; subst e; injection e2 with e2; exact HNE.out e2.symm)
    have HO3 := hid hown
    clear hown hkp hfr hs hbi HX
    go_wp2_with fail
   all_goals
    refine KT.keep (inBW HB3.out) ?_
    refine wpOrdT_op rfl ?_
    have hs := HB3.out.size
    have hbi : (k + 1) * 8 ≤ 140737488355328 := by omega
    go_wp2_with (at_builtin; refine wpList_appendR _ rfl _ _ 68 rfl w.heap.size 3 _ 1 8 Tryz.underlying68 Tryz.infoIF rfl (by decide) _ _ _ rfl HO3.out (some ⟨g6, 0, none⟩) 1 _ [.int .i64 n] rfl HL2.out HR3.out (HA2 g6).out HP2.out hbi (by decide) hs ?_)
    intro A7 c7 v4 hown hkp hfr
    have HB4 : Hid (Below w.heap.size w v4) := HB3.out.trans (hkp.below hs (fun j e => (HO3.out.lt j e).1))
    have HO4 := hid hown
    clear hown hkp hfr hs hbi
    go_wp2_with fail
    refine KT.keep (inBW HB4.out) ?_
    refine wpOrdT_op rfl ?_
    have HX := hid (HLB.out.below HB4.out)
    have hs := HB4.out.size
    have hbi : (k + 1 + (m - k)) * 8 ≤ 140737488355328 := by omega
    go_wp2_with (at_builtin; refine wpList_appendR _ rfl _ _ 68 rfl w.heap.size 3 _ 1 8 Tryz.underlying68 Tryz.infoIF rfl (by decide) _ _ _ rfl HO4.out _ _ _ (intCells (l.drop k)) rfl HL3.out HX.out HA3.out HP3.out hbi (by decide) hs ?_)
    intro A11 c11 v5 hown hkp hfr
    have HB5 : Hid (Below w.heap.size w v5) := HB4.out.trans (hkp.below hs (fun j e => (HO4.out.lt j e).1))
    have HO5 := hid hown
    clear hown hkp hfr hs hbi HX
    go_wp2_with fail
    refine KT.keep (inBW HB5.out) ?_
    refine wpOrdT_val rfl rfl ?_
    go_big_quiet_step (fail)
    refine wpQuiet_nil ?_
    refine wpOrdT_nil ?_
    have HV : Hid (IO w.heap.size v5 (.slice A11 (k + 1 + (m - k)) c11) (l.take k ++ n :: l.drop k)) := IO.of HO5.out HLL.out (by simp [intCells])
    go_wp2_with fail
    try go_ret
    refine HQQ.out _ _ ?_ HB5.out
    rw [HF.out]; exact own_base HV.out hbase
 ·go_wp2_with fail
  obtain ⟨v1, hw⟩ : ∃ W, wc.alloc (.cells #[.int .i64 n] 3) = W := ⟨_, rfl⟩
  have HS : Hid (Below wc.heap.size wc v1) := by rw [← hw]; exact (Below.refl _ _).alloc (Nat.le_refl _) _
  have HN1 : Hid (IO w.heap.size (wc.alloc (.cells #[.int .i64 n] 3)) (.slice (some ⟨wc.heap.size, 0, none⟩) 1 1) [n]) := io_new w.heap.size wc [n] HBW.out.size (by simp)
  rw [hw] at HN1 ⊢
  obtain ⟨g6, hg⟩ : ∃ y, wc.heap.size = y := ⟨_, rfl⟩
  rw [hg] at HN1 ⊢
  have HB1 : Hid (Below w.heap.size w v1) := HBW.out.trans (HS.out.mono HBW.out.size)
  have HR1 : Hid (Rd v1 (some ⟨g6, 0, none⟩) [.int .i64 n]) := Rd_of_own HN1.out
  clear hw hg HS
  refine KT.keep (inBW HB1.out) ?_
  refine wpOrdT_op rfl ?_
  go_wp2_with fail
  obtain ⟨v2, hw⟩ : ∃ W, v1.alloc (.cells #[] 3) = W := ⟨_, rfl⟩
  have HS : Hid (Below v1.heap.size v1 v2) := by rw [← hw]; exact (Below.refl _ _).alloc (Nat.le_refl _) _
  have HE2 : Hid (IO w.heap.size (v1.alloc (.cells #[] 3)) (.slice (some ⟨v1.heap.size, 0, none⟩) 0 0) []) := io_new w.heap.size v1 [] HB1.out.size (by simp)
  rw [hw] at HE2 ⊢
  obtain ⟨g0, hg⟩ : ∃ y, v1.heap.size = y := ⟨_, rfl⟩
  have HNE : Hid (g6 ≠ g0) := by have := (HN1.out.lt g6 rfl).2; rw [Hid]; omega
  rw [hg] at HE2 ⊢
  have HB2 : Hid (Below w.heap.size w v2) := HB1.out.trans (HS.out.mono HB1.out.size)
  have HO2 : Hid (v2.ownsRow w.heap.size 3 1 (.slice (some ⟨g0, 0, none⟩) 0 0) 0 []) := HE2
  have HR2 := hid (HR1.out.below HS.out)
  clear hw hg HS
  refine KT.keep (inBW HB2.out) ?_
  refine wpOrdT_op rfl ?_
  have HX := hid (HLA.out.below HB2.out)
  have hs := HB2.out.size
  have hbi : (0 + k) * 8 ≤ 140737488355328 := by omega
  go_wp2_with (at_builtin; refine wpList_appendR _ rfl _ _ 68 rfl w.heap.size 3 _ 1 8 Tryz.underlying68 Tryz.infoIF rfl (by decide) _ _ _ rfl HO2.out _ _ _ (intCells (l.take k)) rfl HL1.out HX.out HA1.out HP1.out hbi (by decide) hs ?_)
  intro A4 c4 v3 hown hkp hfr
  have HB3 : Hid (Below w.heap.size w v3) := HB2.out.trans (hkp.below hs (fun j e => (HO2.out.lt j e).1))
  have HR3 : Hid (Rd v3 (some ⟨g6, 0, none⟩) [.int .i64 n]) := hkp.rd HR2.out (fun a e e2 => by injection e with e; subst e; injection e2 with e2; exact HNE.out e2.symm)
  have HO3 := hid hown
  clear hown hkp hfr hs hbi HX
  go_wp2_with fail
  refine KT.keep (inBW HB3.out) ?_
  refine wpOrdT_op rfl ?_
  have hs := HB3.out.size
  have hbi : (k + 1) * 8 ≤ 140737488355328 := by omega
  go_wp2_with (at_builtin; refine wpList_appendR _ rfl _ _ 68 rfl w.heap.size 3 _ 1 8 Tryz.underlying68 Tryz.infoIF rfl (by decide) _ _ _ rfl HO3.out (some ⟨g6, 0, none⟩) 1 _ [.int .i64 n] rfl HL2.out HR3.out (HA2 g6).out HP2.out hbi (by decide) hs ?_)
  intro A7 c7 v4 hown hkp hfr
  have HB4 : Hid (Below w.heap.size w v4) := HB3.out.trans (hkp.below hs (fun j e => (HO3.out.lt j e).1))
  have HO4 := hid hown
  clear hown hkp hfr hs hbi
  go_wp2_with fail
  refine KT.keep (inBW HB4.out) ?_
  refine wpOrdT_op rfl ?_
  have HX := hid (HLB.out.below HB4.out)
  have hs := HB4.out.size
  have hbi : (k + 1 + (m - k)) * 8 ≤ 140737488355328 := by omega
  go_wp2_with (at_builtin; refine wpList_appendR _ rfl _ _ 68 rfl w.heap.size 3 _ 1 8 Tryz.underlying68 Tryz.infoIF rfl (by decide) _ _ _ rfl HO4.out _ _ _ (intCells (l.drop k)) rfl HL3.out HX.out HA3.out HP3.out hbi (by decide) hs ?_)
  intro A11 c11 v5 hown hkp hfr
  have HB5 : Hid (Below w.heap.size w v5) := HB4.out.trans (hkp.below hs (fun j e => (HO4.out.lt j e).1))
  have HO5 := hid hown
  clear hown hkp hfr hs hbi HX
  go_wp2_with fail
  refine KT.keep (inBW HB5.out) ?_
  refine wpOrdT_val rfl rfl ?_
  go_big_quiet_step (fail)
  refine wpQuiet_nil ?_
  refine wpOrdT_nil ?_
  have HV : Hid (IO w.heap.size v5 (.slice A11 (k + 1 + (m - k)) c11) (l.take k ++ n :: l.drop k)) := IO.of HO5.out HLL.out (by simp [intCells])
  go_wp2_with fail
  try go_ret
  refine HQQ.out _ _ ?_ HB5.out
  rw [HF.out]; exact own_base HV.out hbase) : P := h
theorem rAdd_nil {P : Prop} (h : P := by
 go_upto_region 6 with fail
 refine wp_region_ordT w.heap.size [] (.val 1 (.val 2 (.val 3 (.val 5 (.val 8 (.val 9 (.val 10 (.two 0 (.two 4 (.op 6 (.op 7 (.op 11 (.val 12 (.nil))))) 6 (.op 4 (.op 7 (.op 11 (.val 12 (.nil)))))) 6 (.op 0 (.op 4 (.op 7 (.op 11 (.val 12 (.nil)))))))))))))) (by kernel_rfl) (by kernel_rfl) ?_
 obtain ⟨wc, hwc⟩ : ∃ W, w.drewN 1 = W := ⟨_, rfl⟩
 have HBW : Hid (Below w.heap.size w wc) := by rw [← hwc]; exact drewN_below w 1
 rw [hwc]
 clear hwc
 have HL1 : Hid ((intCells (l.take 0)).length = 0 * 1) := by rw [Hid, intCells_length, List.length_take, HM.out] <;> omega
 have HL2 : Hid (([.int .i64 n] : List Value).length = 1 * 1) := rfl
 have HL3 : Hid ((intCells (l.drop 0)).length = (0 - 0) * 1) := by rw [Hid, intCells_length, List.length_drop, HM.out] <;> omega
 have HP1 : Hid (∀ u ∈ intCells (l.take 0), u.oneCell' = true) := fun u hu => by obtain ⟨y, _, rfl⟩ := List.mem_map.1 hu; rfl
 have HP2 : Hid (∀ u ∈ ([.int .i64 n] : List Value), u.oneCell' = true) := fun u hu => by rw [List.mem_singleton] at hu; subst hu; rfl
 have HP3 : Hid (∀ u ∈ intCells (l.drop 0), u.oneCell' = true) := fun u hu => by obtain ⟨y, _, rfl⟩ := List.mem_map.1 hu; rfl
 have HA2 : ∀ g : Nat, Hid (some (⟨g, 0, none⟩ : Addr) = none → 1 = 0 ∧ 1 = 0) := fun g h => by cases h
 have HLL : Hid (0 + 1 + (0 - 0) = (l.take 0 ++ n :: l.drop 0).length) := by rw [Hid, List.length_append, List.length_cons, List.length_take, List.length_drop, HM.out] <;> omega
 iterate 7 (refine wpOrdT_val rfl rfl ?_; go_big_quiet_step (fail); refine wpQuiet_nil ?_)
 refine wpOrdT_two rfl rfl ?_ ?_
 ·go_wp2_with fail
  obtain ⟨v1, hw⟩ : ∃ W, wc.alloc (.cells #[] 3) = W := ⟨_, rfl⟩
  have HS : Hid (Below wc.heap.size wc v1) := by rw [← hw]; exact (Below.refl _ _).alloc (Nat.le_refl _) _
  have HE1 : Hid (IO w.heap.size (wc.alloc (.cells #[] 3)) (.slice (some ⟨wc.heap.size, 0, none⟩) 0 0) []) := io_new w.heap.size wc [] HBW.out.size (by simp)
  rw [hw] at HE1 ⊢
  obtain ⟨g0, hg⟩ : ∃ y, wc.heap.size = y := ⟨_, rfl⟩
  rw [hg] at HE1 ⊢
  have HB1 : Hid (Below w.heap.size w v1) := HBW.out.trans (HS.out.mono HBW.out.size)
  have HO1 : Hid (v1.ownsRow w.heap.size 3 1 (.slice (some ⟨g0, 0, none⟩) 0 0) 0 []) := HE1
  clear hw hg HS
  refine KT.keep (inBW HB1.out) ?_
  focus
   refine wpOrdT_two rfl rfl ?_ ?_
   focus
    have HX := hid (HLA.out.below HB1.out)
    have hs := HB1.out.size
    have hbi : (0 + 0) * 8 ≤ 140737488355328 := by omega
    go_wp2_with (at_builtin; refine wpList_appendR _ rfl _ _ 68 rfl w.heap.size 3 _ 1 8 Tryz.underlying68 Tryz.infoIF rfl (by decide) _ _ _ rfl HO1.out _ _ _ (intCells (l.take 0)) rfl HL1.out HX.out (fun _ => ⟨rfl, rfl⟩) HP1.out hbi (by decide) hs ?_)
    intro A4 c4 v2 hown hkp hfr
    have HB2 : Hid (Below w.heap.size w v2) := HB1.out.trans (hkp.below hs (fun j e => (HO1.out.lt j e).1))
    have HO2 := hid hown
    clear hown hkp hfr hs hbi HX
    go_wp2_with fail
    refine KT.keep (inBW HB2.out) ?_
    refine wpOrdT_op rfl ?_
    go_wp2_with fail
    obtain ⟨v3, hw⟩ : ∃ W, v2.alloc (.cells #[.int .i64 n] 3) = W := ⟨_, rfl⟩
    have HS : Hid (Below v2.heap.size v2 v3) := by rw [← hw]; exact (Below.refl _ _).alloc (Nat.le_refl _) _
    have HN3 : Hid (IO w.heap.size (v2.alloc (.cells #[.int .i64 n] 3)) (.slice (some ⟨v2.heap.size, 0, none⟩) 1 1) [n]) := io_new w.heap.size v2 [n] HB2.out.size (by simp)
    rw [hw] at HN3 ⊢
    obtain ⟨g6, hg⟩ : ∃ y, v2.heap.size = y := ⟨_, rfl⟩
    rw [hg] at HN3 ⊢
    have HB3 : Hid (Below w.heap.size w v3) := HB2.out.trans (HS.out.mono HB2.out.size)
    have HR3 : Hid (Rd v3 (some ⟨g6, 0, none⟩) [.int .i64 n]) := Rd_of_own HN3.out
    have HO3 := hid (own_below HO2.out HS.out)
    clear hw hg HS
   rotate_left 1
   focus
    go_wp2_with fail
    obtain ⟨v2, hw⟩ : ∃ W, v1.alloc (.cells #[.int .i64 n] 3) = W := ⟨_, rfl⟩
    have HS : Hid (Below v1.heap.size v1 v2) := by rw [← hw]; exact (Below.refl _ _).alloc (Nat.le_refl _) _
    have HN2 : Hid (IO w.heap.size (v1.alloc (.cells #[.int .i64 n] 3)) (.slice (some ⟨v1.heap.size, 0, none⟩) 1 1) [n]) := io_new w.heap.size v1 [n] HB1.out.size (by simp)
    rw [hw] at HN2 ⊢
    obtain ⟨g6, hg⟩ : ∃ y, v1.heap.size = y := ⟨_, rfl⟩
    have HNE : Hid (g6 ≠ g0) := by have := (HO1.out.lt g0 rfl).2; rw [Hid]; omega
    rw [hg] at HN2 ⊢
    have HB2 : Hid (Below w.heap.size w v2) := HB1.out.trans (HS.out.mono HB1.out.size)
    have HR2 : Hid (Rd v2 (some ⟨g6, 0, none⟩) [.int .i64 n]) := Rd_of_own HN2.out
    have HO2 := hid (own_below HO1.out HS.out)
    clear hw hg HS
    refine KT.keep (inBW HB2.out) ?_
    refine wpOrdT_op rfl ?_
    have HX := hid (HLA.out.below HB2.out)
    have hs := HB2.out.size
    have hbi : (0 + 0) * 8 ≤ 140737488355328 := by omega
    go_wp2_with (at_builtin; refine wpList_appendR _ rfl _ _ 68 rfl w.heap.size 3 _ 1 8 Tryz.underlying68 Tryz.infoIF rfl (by decide) _ _ _ rfl HO2.out _ _ _ (intCells (l.take 0)) rfl HL1.out HX.out (fun _ => ⟨rfl, rfl⟩) HP1.out hbi (by decide) hs ?_)
    intro A4 c4 v3 hown hkp hfr
    have HB3 : Hid (Below w.heap.size w v3) := HB2.out.trans (hkp.below hs (fun j e => (HO2.out.lt j e).1))
    have HR3 : Hid (Rd v3 (some ⟨g6, 0, none⟩) [.int .i64 n]) := hkp.rd HR2.out (fun a e e2 => by injection e with e; subst e; injection e2 with e2; exact HNE.out e2.symm)
    have HO3 := hid hown
    clear hown hkp hfr hs hbi HX
    go_wp2_with fail
   all_goals
    refine KT.keep (inBW HB3.out) ?_
    refine wpOrdT_op rfl ?_
    have hs := HB3.out.size
    have hbi : (0 + 1) * 8 ≤ 140737488355328 := by omega
    go_wp2_with (at_builtin; refine wpList_appendR _ rfl _ _ 68 rfl w.heap.size 3 _ 1 8 Tryz.underlying68 Tryz.infoIF rfl (by decide) _ _ _ rfl HO3.out (some ⟨g6, 0, none⟩) 1 _ [.int .i64 n] rfl HL2.out HR3.out (HA2 g6).out HP2.out hbi (by decide) hs ?_)
    intro A7 c7 v4 hown hkp hfr
    have HB4 : Hid (Below w.heap.size w v4) := HB3.out.trans (hkp.below hs (fun j e => (HO3.out.lt j e).1))
    have HO4 := hid hown
    clear hown hkp hfr hs hbi
    go_wp2_with fail
    refine KT.keep (inBW HB4.out) ?_
    refine wpOrdT_op rfl ?_
    have HX := hid (HLB.out.below HB4.out)
    have hs := HB4.out.size
    have hbi : (0 + 1 + (0 - 0)) * 8 ≤ 140737488355328 := by omega
    go_wp2_with (at_builtin; refine wpList_appendR _ rfl _ _ 68 rfl w.heap.size 3 _ 1 8 Tryz.underlying68 Tryz.infoIF rfl (by decide) _ _ _ rfl HO4.out _ _ _ (intCells (l.drop 0)) rfl HL3.out HX.out (fun _ => ⟨rfl, rfl⟩) HP3.out hbi (by decide) hs ?_)
    intro A11 c11 v5 hown hkp hfr
    have HB5 : Hid (Below w.heap.size w v5) := HB4.out.trans (hkp.below hs (fun j e => (HO4.out.lt j e).1))
    have HO5 := hid hown
    clear hown hkp hfr hs hbi HX
    go_wp2_with fail
    refine KT.keep (inBW HB5.out) ?_
    refine wpOrdT_val rfl rfl ?_
    go_big_quiet_step (fail)
    refine wpQuiet_nil ?_
    refine wpOrdT_nil ?_
    have HV : Hid (IO w.heap.size v5 (.slice A11 (0 + 1 + (0 - 0)) c11) (l.take 0 ++ n :: l.drop 0)) := IO.of HO5.out HLL.out (by simp [intCells])
    go_wp2_with fail
    try go_ret
    refine HQQ.out _ _ ?_ HB5.out
    rw [HF.out]; exact own_base HV.out hbase
 ·go_wp2_with fail
  obtain ⟨v1, hw⟩ : ∃ W, wc.alloc (.cells #[.int .i64 n] 3) = W := ⟨_, rfl⟩
  have HS : Hid (Below wc.heap.size wc v1) := by rw [← hw]; exact (Below.refl _ _).alloc (Nat.le_refl _) _
  have HN1 : Hid (IO w.heap.size (wc.alloc (.cells #[.int .i64 n] 3)) (.slice (some ⟨wc.heap.size, 0, none⟩) 1 1) [n]) := io_new w.heap.size wc [n] HBW.out.size (by simp)
  rw [hw] at HN1 ⊢
  obtain ⟨g6, hg⟩ : ∃ y, wc.heap.size = y := ⟨_, rfl⟩
  rw [hg] at HN1 ⊢
  have HB1 : Hid (Below w.heap.size w v1) := HBW.out.trans (HS.out.mono HBW.out.size)
  have HR1 : Hid (Rd v1 (some ⟨g6, 0, none⟩) [.int .i64 n]) := Rd_of_own HN1.out
  clear hw hg HS
  refine KT.keep (inBW HB1.out) ?_
  refine wpOrdT_op rfl ?_
  go_wp2_with fail
  obtain ⟨v2, hw⟩ : ∃ W, v1.alloc (.cells #[] 3) = W := ⟨_, rfl⟩
  have HS : Hid (Below v1.heap.size v1 v2) := by rw [← hw]; exact (Below.refl _ _).alloc (Nat.le_refl _) _
  have HE2 : Hid (IO w.heap.size (v1.alloc (.cells #[] 3)) (.slice (some ⟨v1.heap.size, 0, none⟩) 0 0) []) := io_new w.heap.size v1 [] HB1.out.size (by simp)
  rw [hw] at HE2 ⊢
  obtain ⟨g0, hg⟩ : ∃ y, v1.heap.size = y := ⟨_, rfl⟩
  have HNE : Hid (g6 ≠ g0) := by have := (HN1.out.lt g6 rfl).2; rw [Hid]; omega
  rw [hg] at HE2 ⊢
  have HB2 : Hid (Below w.heap.size w v2) := HB1.out.trans (HS.out.mono HB1.out.size)
  have HO2 : Hid (v2.ownsRow w.heap.size 3 1 (.slice (some ⟨g0, 0, none⟩) 0 0) 0 []) := HE2
  have HR2 := hid (HR1.out.below HS.out)
  clear hw hg HS
  refine KT.keep (inBW HB2.out) ?_
  refine wpOrdT_op rfl ?_
  have HX := hid (HLA.out.below HB2.out)
  have hs := HB2.out.size
  have hbi : (0 + 0) * 8 ≤ 140737488355328 := by omega
  go_wp2_with (at_builtin; refine wpList_appendR _ rfl _ _ 68 rfl w.heap.size 3 _ 1 8 Tryz.underlying68 Tryz.infoIF rfl (by decide) _ _ _ rfl HO2.out _ _ _ (intCells (l.take 0)) rfl HL1.out HX.out (fun _ => ⟨rfl, rfl⟩) HP1.out hbi (by decide) hs ?_)
  intro A4 c4 v3 hown hkp hfr
  have HB3 : Hid (Below w.heap.size w v3) := HB2.out.trans (hkp.below hs (fun j e => (HO2.out.lt j e).1))
  have HR3 : Hid (Rd v3 (some ⟨g6, 0, none⟩) [.int .i64 n]) := hkp.rd HR2.out (fun a e e2 => by injection e with e; subst e; injection e2 with e2; exact HNE.out e2.symm)
  have HO3 := hid hown
  clear hown hkp hfr hs hbi HX
  go_wp2_with fail
  refine KT.keep (inBW HB3.out) ?_
  refine wpOrdT_op rfl ?_
  have hs := HB3.out.size
  have hbi : (0 + 1) * 8 ≤ 140737488355328 := by omega
  go_wp2_with (at_builtin; refine wpList_appendR _ rfl _ _ 68 rfl w.heap.size 3 _ 1 8 Tryz.underlying68 Tryz.infoIF rfl (by decide) _ _ _ rfl HO3.out (some ⟨g6, 0, none⟩) 1 _ [.int .i64 n] rfl HL2.out HR3.out (HA2 g6).out HP2.out hbi (by decide) hs ?_)
  intro A7 c7 v4 hown hkp hfr
  have HB4 : Hid (Below w.heap.size w v4) := HB3.out.trans (hkp.below hs (fun j e => (HO3.out.lt j e).1))
  have HO4 := hid hown
  clear hown hkp hfr hs hbi
  go_wp2_with fail
  refine KT.keep (inBW HB4.out) ?_
  refine wpOrdT_op rfl ?_
  have HX := hid (HLB.out.below HB4.out)
  have hs := HB4.out.size
  have hbi : (0 + 1 + (0 - 0)) * 8 ≤ 140737488355328 := by omega
  go_wp2_with (at_builtin; refine wpList_appendR _ rfl _ _ 68 rfl w.heap.size 3 _ 1 8 Tryz.underlying68 Tryz.infoIF rfl (by decide) _ _ _ rfl HO4.out _ _ _ (intCells (l.drop 0)) rfl HL3.out HX.out (fun _ => ⟨rfl, rfl⟩) HP3.out hbi (by decide) hs ?_)
  intro A11 c11 v5 hown hkp hfr
  have HB5 : Hid (Below w.heap.size w v5) := HB4.out.trans (hkp.below hs (fun j e => (HO4.out.lt j e).1))
  have HO5 := hid hown
  clear hown hkp hfr hs hbi HX
  go_wp2_with fail
  refine KT.keep (inBW HB5.out) ?_
  refine wpOrdT_val rfl rfl ?_
  go_big_quiet_step (fail)
  refine wpQuiet_nil ?_
  refine wpOrdT_nil ?_
  have HV : Hid (IO w.heap.size v5 (.slice A11 (0 + 1 + (0 - 0)) c11) (l.take 0 ++ n :: l.drop 0)) := IO.of HO5.out HLL.out (by simp [intCells])
  go_wp2_with fail
  try go_ret
  refine HQQ.out _ _ ?_ HB5.out
  rw [HF.out]; exact own_base HV.out hbase) : P := h
theorem rd_take {w : World} {A : Option Addr} {l : List Int} (h : Rd w A (intCells l)) (k : Nat) : Rd w A (intCells (l.take k)) := by
 rcases h with h | ⟨b, off, hA, hlt, hc⟩
 ·left; rw [intCells, List.map_take, show l.map (Value.int .i64) = [] from h]; simp
 ·refine .inr ⟨b, off, hA, hlt, fun j u hj => hc j u ?_⟩
  rw [intCells, List.map_take] at hj
  by_cases hjk : j < k
  ·rwa [List.getElem?_take_of_lt hjk] at hj
  ·rw [List.getElem?_take_eq_none (by omega)] at hj; cases hj
theorem rd_drop {w : World} {b off : Nat} {l : List Int} (h : Rd w (some ⟨b, off, none⟩) (intCells l)) (k : Nat) : Rd w (some ⟨b, off + k, none⟩) (intCells (l.drop k)) := by
 rcases h with h | ⟨b', off', hA, hlt, hc⟩
 ·left; rw [intCells, List.map_drop, show l.map (Value.int .i64) = [] from h]; simp
 ·injection hA with hA
  injection hA with h1 h2
  subst h1; subst h2
  refine .inr ⟨b, off + k, rfl, hlt, fun j u hj => ?_⟩
  rw [intCells, List.map_drop, List.getElem?_drop] at hj
  rw [Nat.add_assoc]; exact hc (k + j) u hj
set_option maxRecDepth 20000 in
set_option maxHeartbeats 8000000 in
theorem rAdd13_any {base : Nat} {w : World} {v : Value} {l : List Int} (n : Int) (hv : IO base w v l) (hl : l.length ≤ 1000) (hbase : base ≤ w.heap.size) :
  Calls Tryz.prog 76 #[v, .int .i64 n] w fun e w' => ∃ v', e = .returned v' ∧ IO base w' v' (addM l n) ∧ Below w.heap.size w w' := by
 have HV0 := hid hv
 obtain ⟨A, c, rfl, hrd⟩ := own_shape hv
 have HRD := hid hrd
 have HNA : Hid (A = none → l.length = 0 ∧ c = 0) := fun h => by
  rcases hv.2 with ⟨e, h0⟩ | ⟨g, cap, cur, e, _⟩
  ·injection e with _ _ e; exact ⟨h0, e⟩
  ·injection e with e; rw [h] at e; cases e
 have HCAP : Hid (l.length ≤ c) := by
  rcases hv.2 with ⟨e, h0⟩ | ⟨g, cap, cur, e, _, _, h1, _⟩
  ·show l.length ≤ c; omega
  ·injection e with _ _ e; subst e; exact h1
 obtain ⟨m, hm⟩ : ∃ m, l.length = m := ⟨_, rfl⟩
 have HM := hid hm
 rw [hm] at HNA hl HCAP
 have HQ0 : Hid (∀ v' W, IO base W v' (addM l n) → Below w.heap.size w W → (∃ v'', (Ending.returned v') = .returned v'' ∧ IO base W v'' (addM l n) ∧ Below w.heap.size w W)) := fun v' W h1 h2 => ⟨v', rfl, h1, h2⟩
 obtain ⟨Q, hQ⟩ : ∃ Q : Ending → World → Prop, (fun e w' => ∃ v', e = .returned v' ∧ IO base w' v' (addM l n) ∧ Below w.heap.size w w') = Q := ⟨_, rfl⟩
 have HQQ : Hid (∀ v' W, IO base W v' (addM l n) → Below w.heap.size w W → Q (.returned v') W) := fun v' W h1 h2 => by rw [← hQ]; exact ⟨v', rfl, h1, h2⟩
 rw [hQ, hm]
 clear hQ hm hv hrd HQ0
 have hcap : m ≤ c := HCAP.out
 go_enter Tryz.func76, Tryz.ntmps76
 go_wp2_with fail
 go_loopw [5] (fun iv wr => ∃ k : Nat, k ≤ m ∧ iv = .int .i64 (k : Int) ∧ (∀ j, (h : j < l.length) → j < k → l[j] < n) ∧ w = wr) (fun iv _ => m - (intOf iv).toNat)
 case atStart => exact ⟨0, by omega, rfl, fun j _ h => by omega, rfl⟩
 case round =>
  obtain ⟨k, hk, rfl, hlo, rfl⟩ := hrel
  have HLO := hid hlo
  clear hlo
  have hk64 : k ≤ 1000 := by omega
  by_cases hlt : k < m
  ·have HI : Hid (k < l.length) := by rw [Hid, HM.out]; exact hlt
   obtain ⟨b, off, rfl, hbl, hc⟩ := HRD.out.at (by rw [intCells_length, HM.out]; omega)
   have hck : w.cell? ⟨b, off + k, none⟩ = some (.int .i64 (l[k]'HI.out)) := hc k _ (intCells_get l k HI.out)
   have HAD := hid (fun h => insM_at l n k (by rw [HM.out]; exact hk) HLO.out h)
   have HGK : Hid (l[k]? = some (l[k]'HI.out)) := List.getElem?_eq_getElem HI.out
   have HS : Hid (∀ j, (h : j < l.length) → j < k + 1 → l[k]'HI.out < n → l[j] < n) := fun j h hj hx => by
    by_cases e : j = k
    ·subst e; exact hx
    ·exact HLO.out j h (by omega)
   obtain ⟨x, hx⟩ : ∃ x, l[k]'HI.out = x := ⟨_, rfl⟩
   rw [hx] at hck HGK HS
   have HX := hid hx
   clear hc hx
   by_cases hxn : x < n
   ·have hd : decide (x < n) = true := decide_eq_true hxn
    have HS1 := hid (fun j h hj => HS.out j h hj hxn)
    go_wp2_with fail
    go_roundw
    case rel => exact ⟨k + 1, by omega, by go_num, HS1.out, trivial⟩
    case measure => simp [intOf]; omega
   have hd : decide (x < n) = false := decide_eq_false hxn
   have HAD : Hid (insM l n = if l[k]? = some n then l else l.take k ++ n :: l.drop k) := HAD.out (fun h => by rw [HX.out]; exact hxn)
   rw [HGK.out] at HAD
   by_cases hn0 : n < 0
   ·have hd0 : decide (n < 0) = true := decide_eq_true hn0
    have HF : Hid (addM l n = l) := by rw [Hid, addM, if_pos hn0]
    exact rAdd_same
   have hd0 : decide (n < 0) = false := decide_eq_false hn0
   by_cases hxe : x = n
   ·have hxe2 : (x == n) = true := by rw [beq_iff_eq]; exact hxe
    have HF : Hid (addM l n = l) := by rw [Hid, addM, if_neg hn0, HAD.out, if_pos (by rw [hxe])]
    clear hxe
    exact rAdd_same
   have hxe2 : (x == n) = false := by rw [beq_eq_false_iff_ne]; exact hxe
   have HF : Hid (addM l n = l.take k ++ n :: l.drop k) := by rw [Hid, addM, if_neg hn0, HAD.out, if_neg (fun h => hxe (by injection h))]
   have HLA : Hid (Rd w (some ⟨b, off, none⟩) (intCells (l.take k))) := rd_take HRD.out k
   have HLB : Hid (Rd w (some ⟨b, off + k, none⟩) (intCells (l.drop k))) := rd_drop HRD.out k
   have HA1 : Hid (some (⟨b, off, none⟩ : Addr) = none → k = 0 ∧ c = 0) := fun h => by cases h
   have HA3 : Hid (some (⟨b, off + k, none⟩ : Addr) = none → m - k = 0 ∧ c - k = 0) := fun h => by cases h
   clear hxe HNA HGK HS HAD HX hbl
   exact rAdd_more
  ·have HKM : Hid (k = m) := by rw [Hid]; omega
   have HAD := hid (insM_at l n k (by rw [HM.out]; exact hk) HLO.out (fun h => by have := HM.out; omega))
   have hnone : l[k]? = none := List.getElem?_eq_none (by rw [HM.out]; omega)
   rw [hnone] at HAD
   by_cases hn0 : n < 0
   ·have hd0 : decide (n < 0) = true := decide_eq_true hn0
    have HF : Hid (addM l n = l) := by rw [Hid, addM, if_pos hn0]
    exact rAdd_same
   have hd0 : decide (n < 0) = false := decide_eq_false hn0
   have HF : Hid (addM l n = l.take k ++ n :: l.drop k) := by rw [Hid, addM, if_neg hn0, HAD.out, if_neg (fun h => by cases h)]
   have HDR : Hid (intCells (l.drop k) = []) := by rw [Hid, List.drop_of_length_le (by rw [HM.out]; omega)]; rfl
   rcases HV0.out.2 with ⟨e, h0⟩ | ⟨g, cap, cur, e, _⟩
   ·injection e with e1 e2 e3
    have hm0 : m = 0 := by rw [← HM.out]; exact h0
    have hk0 : k = 0 := by omega
    subst e1; subst e3; subst hk0; subst hm0
    have HLA : Hid (Rd w none (intCells (l.take 0))) := .inl rfl
    have HLB : Hid (Rd w none (intCells (l.drop 0))) := .inl HDR.out
    have HA1 : Hid ((none : Option Addr) = none → 0 = 0 ∧ 0 = 0) := fun _ => ⟨rfl, rfl⟩
    have HA3 : Hid ((none : Option Addr) = none → 0 - 0 = 0 ∧ 0 - 0 = 0) := fun _ => ⟨rfl, rfl⟩
    clear HNA HAD hnone hn0 HDR h0 HLO HKM
    exact rAdd_nil
   ·injection e with e1 _ e3
    subst e1; subst e3
    have HLA : Hid (Rd w (some ⟨g, 0, none⟩) (intCells (l.take k))) := rd_take HRD.out k
    have HA1 : Hid (some (⟨g, 0, none⟩ : Addr) = none → k = 0 ∧ c = 0) := fun h => by cases h
    by_cases hkc : k < c
    ·have HLB : Hid (Rd w (some ⟨g, k, none⟩) (intCells (l.drop k))) := .inl HDR.out
     have HA3 : Hid (some (⟨g, k, none⟩ : Addr) = none → m - k = 0 ∧ c - k = 0) := fun h => by cases h
     clear HNA HAD hnone hn0 HDR HLO HKM
     exact rAdd_more
    ·have HLB : Hid (Rd w (some ⟨g, 0, none⟩) (intCells (l.drop k))) := .inl HDR.out
     have HA3 : Hid (some (⟨g, 0, none⟩ : Addr) = none → m - k = 0 ∧ c - k = 0) := fun h => by cases h
     clear HNA HAD hnone hn0 HDR HLO HKM
     exact rAdd_more
theorem len_insM (l : List Int) (n : Int) : (insM l n).length ≤ l.length + 1 := by
 induction l with
 | nil => simp [insM]
 | cons x l ih =>
  unfold insM
  split
  ·simp; omega
  ·split <;> simp
theorem len_addM (l : List Int) (n : Int) : (addM l n).length ≤ l.length + 1 := by
 unfold addM; split
 ·omega
 ·exact len_insM l n
theorem len_adds (l : List Int) : ∀ a : List Int, (l.foldl addM a).length ≤ a.length + l.length := by
 induction l with
 | nil => intro a; simp
 | cons x l ih => intro a; have := ih (addM a x); have := len_addM a x; simp only [List.foldl_cons, List.length_cons]; omega
structure RefIn (p : ProgV) (A : Option Addr) (w : World) : Prop where
 ops : OpsIn w A p.ops
 ok : ProgOk p
 pat : ∀ o ∈ p.ops, ∀ a ∈ o.arms, a.pat.size ≤ 1000000
 few : ∀ o ∈ p.ops, o.arms.length ≤ 900
 n : p.ops.length ≤ 900
section
variable {p : ProgV} {A : Option Addr} {c : Nat} {w : World}
theorem RefIn.below {w' : World} (h : RefIn p A w) (hb : Below w.heap.size w w') : RefIn p A w' := ⟨h.ops.below hb, h.ok, h.pat, h.few, h.n⟩
theorem RefIn.good (h : RefIn p A w) : Calls Tryz.prog 72 #[p.val (.slice A p.ops.length c)] w fun e w' => e = .returned (.bool (goodB p)) ∧ Below w.heap.size w w' := rGood_any p A c w h.ops h.ok h.pat
theorem nextL_ref (p : ProgV) (k : Nat) (hk : k < p.ops.length) (hg : goodB p = true) : nextL p k = (rawR k p.ops[k]).foldl addM [] := by
 have h1 := nx_ref (goodB_iff.1 hg) (k : Int) (by omega) (by rw [Int.toNat_natCast]; exact hk)
 simp only [Int.toNat_natCast] at h1
 rw [nextL, if_pos hg, h1]
theorem rRet {P : Prop} (h : P := by
 go_wp2_with fail
 try go_ret
 rw [HF.out]; exact ⟨_, rfl, HV2.out, HB2.out⟩) : P := h
set_option maxRecDepth 20000 in
set_option maxHeartbeats 8000000 in
theorem rNext24_any (a : Int) (h : RefIn p A w) :
  Calls Tryz.prog 34 #[p.val (.slice A p.ops.length c), .int .i64 a] w fun e w' => ∃ v, e = .returned v ∧ IO w.heap.size w' v (nextL p a) ∧ Below w.heap.size w w' := by
 have CG : Hid (∀ W, Below w.heap.size w W → Calls Tryz.prog 72 #[p.val (.slice A p.ops.length c)] W fun e w' => e = .returned (.bool (goodB p)) ∧ Below W.heap.size W w') := fun W hb => (h.below hb).good
 have CA : Hid (∀ (W : World) (v : Value) (l : List Int) (n : Int), IO w.heap.size W v l → l.length ≤ 1000 → w.heap.size ≤ W.heap.size → Calls Tryz.prog 76 #[v, .int .i64 n] W fun e w' => ∃ v', e = .returned v' ∧ IO w.heap.size w' v' (addM l n) ∧ Below W.heap.size W w') := fun W v l n h1 h2 h3 => rAdd13_any n h1 h2 h3
 have H0 : Hid (goodB p = false → nextL p a = []) := fun h => by unfold nextL; rw [h]; rfl
 have H1 : Hid (a < 0 ∨ (p.ops.length : Int) ≤ a → nextL p a = []) := fun h => by
  unfold nextL; split
  ·exact nx_out p.ops a h
  ·rfl
 have H2 : Hid (goodB p = true → ∀ k : Nat, a = (k : Int) → (hk : k < p.ops.length) → nextL p a = (rawR k p.ops[k]).foldl addM []) := fun hg k e hk => by rw [e]; exact nextL_ref p k hk hg
 have HIN := hid h
 have hn9 := h.n
 obtain ⟨R, hR⟩ : ∃ R, nextL p a = R := ⟨_, rfl⟩
 obtain ⟨g, hg⟩ : ∃ R, goodB p = R := ⟨_, rfl⟩
 rw [hR, hg] at H0 H2
 rw [hR] at H1 ⊢
 rw [hg] at CG
 clear hR hg h
 obtain ⟨nm, dl, jp, ops⟩ := p
 unfold ProgV.val at CG ⊢
 simp only at CG H1 H2 hn9 ⊢
 obtain ⟨n, hn⟩ : ∃ n, ops.length = n := ⟨_, rfl⟩
 have HN := hid hn
 rw [hn] at CG H1 hn9 ⊢
 clear hn
 go_enter Tryz.func34, Tryz.ntmps34
 go_upto_region 2 with fail
 have hv0 := io_new w.heap.size (w.alloc (.cells #[.string nm, .int .i64 dl, .int .i64 jp, .slice A n c] 26)) [] (by simp) (by simp)
 obtain ⟨w0, hw0⟩ : ∃ W, (w.alloc (.cells #[.string nm, .int .i64 dl, .int .i64 jp, .slice A n c] 26)).alloc (.cells #[] 3) = W := ⟨_, rfl⟩
 have HB : Hid (Below w.heap.size w w0) := by rw [← hw0]; exact below2 _ _ _
 have HP : Hid (Blk w0 w.heap.size 26 #[.string nm, .int .i64 dl, .int .i64 jp, .slice A n c]) := by rw [← hw0]; exact (Blk.new _ _ _).alloc _
 have HV : Hid (IO w.heap.size w0 (.slice (some ⟨w.heap.size + 1, 0, none⟩) 0 0) []) := by
  rw [Hid, ← hw0]
  have e : (w.alloc (.cells #[.string nm, .int .i64 dl, .int .i64 jp, .slice A n c] 26)).heap.size = w.heap.size + 1 := by simp
  rw [e] at hv0; exact hv0
 rw [hw0]
 obtain ⟨gp, hgp⟩ : ∃ y, w.heap.size = y := ⟨_, rfl⟩
 have HGP := hid hgp
 obtain ⟨g1, hg1⟩ : ∃ y, gp + 1 = y := ⟨_, rfl⟩
 rw [hgp] at HP
 have HV : Hid (IO w.heap.size w0 (.slice (some ⟨g1, 0, none⟩) 0 0) []) := by rw [← hg1, ← hgp]; exact HV.out
 rw [hgp, hg1]
 clear hw0 hgp hg1 hv0
 have C1 := hid (CG.out w0 HB.out)
 obtain ⟨q0, q1, q2, q3⟩ := fact4 HP.out
 have ql := HP.out.lt
 go_wp2_with fail
 refine C1.out.mono ?_
 rintro en w2 ⟨rfl, hb⟩
 have HB2 : Hid (Below w.heap.size w w2) := HB.out.trans (hb.mono HB.out.size)
 have HP2 := hid (HP.out.below hb HP.out.lt)
 have HV2 := hid (own_below HV.out hb)
 clear hb C1 q0 q1 q2 q3 ql HP HB CG HV
 cases g
 ·have HF : Hid (R = []) := H0.out (by trivial)
  clear H0 H1 H2
  exact rRet
 by_cases h0 : a < 0
 ·have HF : Hid (R = []) := H1.out (.inl h0)
  clear H0 H1 H2
  exact rRet
 obtain ⟨q0, q1, q2, q3⟩ := fact4 HP2.out
 have ql := HP2.out.lt
 by_cases h1 : (n : Int) ≤ a
 ·have HF : Hid (R = []) := H1.out (.inr h1)
  clear H0 H1 H2
  exact rRet
 obtain ⟨k, rfl⟩ : ∃ k : Nat, a = (k : Int) := ⟨a.toNat, by omega⟩
 have hk : k < n := by omega
 have HK : Hid (k < ops.length) := by rw [HN.out]; exact hk
 have HE : Hid (R = (rawR k (ops[k]'HK.out)).foldl addM []) := H2.out (by trivial) k rfl HK.out
 have HAL := hid (HIN.out.few _ (List.getElem_mem HK.out))
 obtain ⟨b, off, v, rfl, hbl, hv, d0, d1, d2, d3, d4, d5, d6⟩ := (HIN.out.below HB2.out).ops.at k HK.out
 obtain ⟨o, ho⟩ : ∃ x, ops[k]'HK.out = x := ⟨_, rfl⟩
 rw [ho] at d0 d1 d2 d3 d5 d6 hv HE HAL
 obtain ⟨ok, ot, on, ott, oar, oT, oE⟩ := o
 obtain ⟨A1, c1, rfl, hrd⟩ := hv
 simp only at d0 d1 d2 d3 d4 d5 d6 hrd HAL
 obtain ⟨m, hm⟩ : ∃ y, oar.length = y := ⟨_, rfl⟩
 have HM := hid hm; have HRD := hid hrd
 rw [hm] at d4 HAL
 have hml : m ≤ 900 := HAL.out
 have HTL : Hid ((oar.map ArmV.tt).length = m) := by rw [Hid, List.length_map]; exact hm
 clear H0 H1 H2 HAL ho hm hrd h0
 have hdk : decide (n ≤ k) = false := decide_eq_false (by omega)
 have hdk2 : decide ((k : Int) < 0) = false := decide_eq_false (by omega)
 go_upto_region 5 with fail
 obtain ⟨w3, hw3⟩ : ∃ W, w2.alloc (.cells #[.int .i64 ok, .string ot, .int .i64 on, .int .i64 ott, .slice A1 m c1, .int .i64 oT, .int .i64 oE] 56) = W := ⟨_, rfl⟩
 have HB23 : Hid (Below w2.heap.size w2 w3) := by rw [← hw3]; exact (Below.refl _ _).alloc (Nat.le_refl _) _
 have HO : Hid (Blk w3 w2.heap.size 56 #[.int .i64 ok, .string ot, .int .i64 on, .int .i64 ott, .slice A1 m c1, .int .i64 oT, .int .i64 oE]) := by rw [← hw3]; exact Blk.new _ _ _
 have HB3 : Hid (Below w.heap.size w w3) := HB2.out.trans (HB23.out.mono HB2.out.size)
 have HV3 := hid (own_below HV2.out HB23.out)
 have HRD3 := hid (HRD.out.below HB23.out)
 rw [hw3]
 obtain ⟨go, hgo⟩ : ∃ y, w2.heap.size = y := ⟨_, rfl⟩
 rw [hgo] at HO ⊢
 clear hw3 hgo d0 d1 d2 d3 d4 d5 d6 q0 q1 q2 q3 ql hbl HRD
 obtain ⟨o0, o1, o2, o3, o4, o5, o6⟩ := fact7 HO.out
 have hol := HO.out.lt
 have hi1 : (k : Int) + 1 ≤ 1000 := by omega
 have hs3 := HB3.out.size
 rcases (show ok = 1 ∨ ok = 4 ∨ ok = 3 ∨ ok = 2 ∨ (ok ≠ 1 ∧ ok ≠ 4 ∧ ok ≠ 3 ∧ ok ≠ 2) by omega) with rfl | rfl | rfl | rfl | ⟨k1, k4, k3, k2⟩
 case' inl | inr.inl =>
  have HEE : Hid (R = (oar.map ArmV.tt).foldl addM (addM [] ((k : Int) + 1))) := by rw [Hid, HE.out]; simp [rawR]
  have HLL : Hid ((addM [] ((k : Int) + 1)).length ≤ 2) := Nat.le_trans (len_addM _ _) (by simp)
  have CQ := hid (CA.out w3 _ [] ((k : Int) + 1) HV3.out (by simp) hs3)
  go_wp2_with fail
  refine CQ.out.mono ?_
  rintro en w4 ⟨v4, rfl, hv4, hb4⟩
  have HV4 := hid hv4; have HB34 := hid hb4
  obtain ⟨L0, hL0⟩ : ∃ L, addM [] ((k : Int) + 1) = L := ⟨_, rfl⟩
  rw [hL0] at HEE HLL HV4
  clear hv4 hb4 CQ hL0 o0 o1 o2 o3 o4 o5 o6 hol HE HV3
  have HO4 := hid (HO.out.below HB34.out HO.out.lt)
  obtain ⟨o0, o1, o2, o3, o4, o5, o6⟩ := fact7 HO4.out
  have hol := HO4.out.lt
  go_wp2_with fail
 case' inr.inr.inl =>
  have HEE : Hid (R = (oar.map ArmV.tt).foldl addM (addM [] ott)) := by rw [Hid, HE.out]; simp [rawR]
  have HLL : Hid ((addM [] ott).length ≤ 2) := Nat.le_trans (len_addM _ _) (by simp)
  have CQ := hid (CA.out w3 _ [] ott HV3.out (by simp) hs3)
  go_wp2_with fail
  refine CQ.out.mono ?_
  rintro en w4 ⟨v4, rfl, hv4, hb4⟩
  have HV4 := hid hv4; have HB34 := hid hb4
  obtain ⟨L0, hL0⟩ : ∃ L, addM [] ott = L := ⟨_, rfl⟩
  rw [hL0] at HEE HLL HV4
  clear hv4 hb4 CQ hL0 o0 o1 o2 o3 o4 o5 o6 hol HE HV3
  have HO4 := hid (HO.out.below HB34.out HO.out.lt)
  obtain ⟨o0, o1, o2, o3, o4, o5, o6⟩ := fact7 HO4.out
  have hol := HO4.out.lt
  go_wp2_with fail
 case' inr.inr.inr.inl =>
  have HEE : Hid (R = (oar.map ArmV.tt).foldl addM (addM (addM [] oT) oE)) := by rw [Hid, HE.out]; simp [rawR]
  have HLL : Hid ((addM (addM [] oT) oE).length ≤ 2) := Nat.le_trans (len_addM _ _) (by have := len_addM [] oT; simp at this; omega)
  have HL1 : Hid ((addM [] oT).length ≤ 1000) := Nat.le_trans (len_addM _ _) (by simp)
  have T5 : ∀ q : BW w3.heap.size w3, q.1.cell? ⟨go, 5, none⟩ = some (.int .i64 oT) := fun q => q.cellAt hol (HO.out.cell 5)
  have T6 : ∀ q : BW w3.heap.size w3, q.1.cell? ⟨go, 6, none⟩ = some (.int .i64 oE) := fun q => q.cellAt hol (HO.out.cell 6)
  go_upto_region 10 with fail
  refine wp_region_ordT w3.heap.size [] (.val 0 (.val 1 (.val 2 (.val 4 (.val 5 (.op 3 (.op 6 (.val 7 (.nil))))))))) (by kernel_rfl) (by kernel_rfl) ?_
  obtain ⟨wc, hwc⟩ : ∃ W, w3.drewN 1 = W := ⟨_, rfl⟩
  have HBW : Hid (Below w3.heap.size w3 wc) := by rw [← hwc]; exact drewN_below w3 1
  rw [hwc]
  clear hwc
  iterate 5 ((first | refine wpOrdT_val rfl rfl ?_ | refine wpOrdT_load rfl rfl (inBW HBW.out) ?_); go_big_quiet_step (fail); refine wpQuiet_nil ?_)
  clear T5 T6
  have CQ := hid (CA.out wc _ [] oT (own_below HV3.out HBW.out) (by simp) (Nat.le_trans hs3 HBW.out.size))
  refine wpOrdT_op rfl ?_
  go_wp2_with fail
  refine CQ.out.mono ?_
  rintro en we ⟨ve, rfl, hve, hbe⟩
  have HBE : Hid (Below w3.heap.size w3 we) := HBW.out.trans (hbe.mono HBW.out.size)
  have CQ2 := hid (CA.out we _ (addM [] oT) oE hve HL1.out (Nat.le_trans hs3 HBE.out.size))
  clear hve hbe CQ
  go_wp2_with fail
  refine KT.keep (inBW HBE.out) ?_
  refine wpOrdT_op rfl ?_
  go_wp2_with fail
  refine CQ2.out.mono ?_
  rintro en w4 ⟨v4, rfl, hv4, hb4⟩
  have HV4 := hid hv4
  have HB34 : Hid (Below w3.heap.size w3 w4) := HBE.out.trans (hb4.mono HBE.out.size)
  clear hv4 hb4 CQ2
  go_wp2_with fail
  refine KT.keep (inBW HB34.out) ?_
  refine wpOrdT_val rfl rfl ?_
  go_big_quiet_step (fail)
  refine wpQuiet_nil ?_
  refine wpOrdT_nil ?_
  obtain ⟨L0, hL0⟩ : ∃ L, addM (addM [] oT) oE = L := ⟨_, rfl⟩
  rw [hL0] at HEE HLL HV4
  clear hL0 o0 o1 o2 o3 o4 o5 o6 hol HE HV3
  have HO4 := hid (HO.out.below HB34.out HO.out.lt)
  obtain ⟨o0, o1, o2, o3, o4, o5, o6⟩ := fact7 HO4.out
  have hol := HO4.out.lt
  go_wp2_with fail
 case' inr.inr.inr.inr =>
  have HEE : Hid (R = (oar.map ArmV.tt).foldl addM []) := by rw [Hid, HE.out]; simp [rawR, k1, k2, k3, k4]
  have HLL : Hid (([] : List Int).length ≤ 2) := by simp [Hid]
  have e1 : ((ok : Int) == 1) = false := by rw [beq_eq_false_iff_ne]; exact k1
  have e4 : ((ok : Int) == 4) = false := by rw [beq_eq_false_iff_ne]; exact k4
  have e3 : ((ok : Int) == 3) = false := by rw [beq_eq_false_iff_ne]; exact k3
  have e2 : ((ok : Int) == 2) = false := by rw [beq_eq_false_iff_ne]; exact k2
  have HV4 := HV3
  have HB34 : Hid (Below w3.heap.size w3 w3) := Below.refl _ _
  have HO4 := HO
  obtain ⟨L0, hL0⟩ : ∃ L : List Int, [] = L := ⟨_, rfl⟩
  have HV4 : Hid (IO w.heap.size w3 (.slice (some ⟨g1, 0, none⟩) 0 0) L0) := by rw [← hL0]; exact HV3.out
  rw [hL0] at HEE HLL
  clear k1 k2 k3 k4 HE HV3 hL0
  go_wp2_with fail
 all_goals
  have HB4 : Hid (Below w.heap.size w _) := HB3.out.trans (HB34.out.mono HB3.out.size)
  have HRD4 := hid (HRD3.out.below HB34.out)
  go_loopw [7, 5] (fun iv ov wr => ∃ (i : Nat) (z : Int), i ≤ m ∧ iv = .int .i64 (i : Int) ∧ IO w.heap.size wr ov (((oar.map ArmV.tt).take i).foldl addM L0) ∧ Rd wr A1 (armVCells oar) ∧ Below w.heap.size w wr ∧ Blk wr go 56 #[.int .i64 z, .string ot, .int .i64 on, .int .i64 ott, .slice A1 m c1, .int .i64 oT, .int .i64 oE]) (fun iv _ _ => m - (intOf iv).toNat)
  case atStart => exact ⟨0, _, by omega, rfl, HV4.out, HRD4.out, HB4.out, HO4.out⟩
  case round =>
   obtain ⟨i, z, hi, rfl, hv, hrd, hb, ho⟩ := hrel
   clear o0 o1 o2 o3 o4 o5 o6 hol
   have HV5 := hid hv; have HRD5 := hid hrd; have HB5 := hid hb; have HO5 := hid ho
   have hs5 := hb.size
   obtain ⟨l, hl⟩ : ∃ l, ((oar.map ArmV.tt).take i).foldl addM L0 = l := ⟨_, rfl⟩
   have HL5 := hid hl
   have HLE : Hid (l.length ≤ 1000) := by
    have h1 := len_adds ((oar.map ArmV.tt).take i) L0
    have h2 := HLL.out
    rw [hl, List.length_take, HTL.out] at h1
    rw [Hid]; omega
   rw [hl] at HV5
   clear hv hrd hb ho hl HV4 HRD4 HB4 HO4 HB34 HB3 HRD3 HO
   obtain ⟨o0, o1, o2, o3, o4, o5, o6⟩ := fact7 HO5.out
   have hol := HO5.out.lt
   by_cases hlt : i < m
   ·have HI : Hid (i < oar.length) := by rw [Hid, HM.out]; exact hlt
    obtain ⟨b1, f1, rfl, hbl1, hc1⟩ := HRD5.out.at (by rw [armVCells_length, HM.out]; omega)
    obtain ⟨p0, p1⟩ := arm_at hc1 i HI.out
    have HTK : Hid (((oar.map ArmV.tt).take (i + 1)).foldl addM L0 = addM l (oar[i]'HI.out).tt) := by
     rw [Hid, List.take_succ_eq_append_getElem (by rw [HTL.out]; exact hlt), List.foldl_append, HL5.out, List.getElem_map]; rfl
    obtain ⟨⟨pa, ta⟩, hxa⟩ : ∃ x, oar[i]'HI.out = x := ⟨_, rfl⟩
    rw [hxa] at p0 p1 HTK
    simp only at p0 p1 HTK
    clear hxa hc1
    have CQ := hid (CA.out wr _ l ta HV5.out HLE.out hs5)
    go_wp2_with fail
    refine CQ.out.mono ?_
    rintro en w6 ⟨v6, rfl, hv6, hb6⟩
    have HV6 := hid hv6
    have HB6 : Hid (Below w.heap.size w w6) := HB5.out.trans (hb6.mono hs5)
    have HO6 := hid (HO5.out.below hb6 HO5.out.lt)
    have HRD6 := hid (HRD5.out.below hb6)
    clear hv6 hb6 CQ
    go_wp2_with fail
    go_roundw
    case rel => exact ⟨i + 1, z, by omega, by go_num, by rw [HTK.out]; exact HV6.out, HRD6.out, HB6.out, HO6.out⟩
    case measure => simp [intOf]; omega
   ·have HF : Hid (R = l) := by rw [Hid, HEE.out, ← HL5.out, List.take_of_length_le (by rw [HTL.out]; omega)]
    go_wp2_with fail
    try go_ret
    rw [HF.out]; exact ⟨_, rfl, HV5.out, HB5.out⟩
end
end Go.Proofs.YtpkkfdmhbbipoaaGreat
