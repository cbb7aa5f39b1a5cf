/- Walks: law 24's one, lives. FlowReaches: where any script may go, and whether it may come back: what the law computes. FlowCounts: how many steps any script has: what the law computes. -/
import Derived.Test.YtpkkfdmhbbipoaaGreatFg
import Derived.Test.YtpkkfdmhbbipoaaGreatDl
namespace Go.Proofs.YtpkkfdmhbbipoaaGreat
open Go.RowKit PopT
def litP : ProgV := ⟨⟨#[97]⟩, 9, 0, [⟨3, ⟨#[]⟩, 0, 2, [], 0, 0⟩, ⟨5, ⟨#[]⟩, 0, 0, [], 0, 0⟩, ⟨1, ⟨#[97, 98, 99, 100]⟩, 0, 0, [], 0, 0⟩]⟩
def litS : SetV := ⟨4, 8, 16, 3, 5, 1⟩
theorem litP_reach : reachL litP = [0, 2, 3] := by kernel_rfl
theorem litP_loops : loopsB litP = false := by kernel_rfl
theorem litP_steps : stepsM litS litP = 6 := by kernel_rfl
theorem litP_most : mostM litS litP = 12 := by kernel_rfl
def litXs : List (OpV × Value) := litP.ops.map fun o => (o, .slice none 0 0)
theorem litP_in {W : World} {A : Option Addr} (h : Rd W A (opVCells litXs)) : ScriptIn litP A W :=
 ⟨⟨litXs, by simp [litXs, Function.comp_def], h, fun x hx => by
  obtain ⟨o, ho, rfl⟩ := List.mem_map.1 hx
  simp only [litP, List.mem_cons, List.not_mem_nil, or_false] at ho
  rcases ho with rfl | rfl | rfl <;> exact ⟨none, 0, rfl, .inl rfl⟩⟩, by simp [litP], by simp [litP, ByteArray.size], fun o ho => by
  simp only [litP, List.mem_cons, List.not_mem_nil, or_false] at ho
  rcases ho with rfl | rfl | rfl <;> simp⟩
set_option maxRecDepth 20000 in
set_option maxHeartbeats 4000000 in
theorem lives24_any (w : World) : Calls Tryz.prog 31 #[] w fun e w' => e = .returned (.bool true) ∧ Below w.heap.size w w' := by
 have CR : Hid (∀ W A, Rd W A (opVCells litXs) → Calls Tryz.prog 35 #[.agg #[.string ⟨#[97]⟩, .int .i64 9, .int .i64 0, .slice A 3 3]] W fun e w' => ∃ v, e = .returned v ∧ IO W.heap.size w' v [0, 2, 3] ∧ Below W.heap.size W w') := fun W A h => by
  rw [← litP_reach]; exact fReach_any (p := litP) (c := 3) (litP_in h)
 have CL : Hid (∀ W A, Rd W A (opVCells litXs) → Calls Tryz.prog 37 #[.agg #[.string ⟨#[97]⟩, .int .i64 9, .int .i64 0, .slice A 3 3]] W fun e w' => e = .returned (.bool false) ∧ Below W.heap.size W w') := fun W A h => by
  rw [← litP_loops]; exact fLoops_any (p := litP) (c := 3) (litP_in h)
 have CS : Hid (∀ W A, Rd W A (opVCells litXs) → Calls Tryz.prog 28 #[.agg #[.int .i64 4, .int .i64 8, .int .i64 16, .int .i64 3, .int .i64 5, .int .i64 1], .agg #[.string ⟨#[97]⟩, .int .i64 9, .int .i64 0, .slice A 3 3]] W fun e w' => e = .returned (.int .i64 6) ∧ Below W.heap.size W w') := fun W A h => by
  rw [← litP_steps]; exact fSteps_any (p := litP) (c := 3) litS (litP_in h)
 have CM : Hid (∀ W A, Rd W A (opVCells litXs) → Calls Tryz.prog 29 #[.agg #[.int .i64 4, .int .i64 8, .int .i64 16, .int .i64 3, .int .i64 5, .int .i64 1], .agg #[.string ⟨#[97]⟩, .int .i64 9, .int .i64 0, .slice A 3 3]] W fun e w' => e = .returned (.int .i64 12) ∧ Below W.heap.size W w') := fun W A h => by
  rw [← litP_most]; exact fMost_any (p := litP) (c := 3) litS (litP_in h)
 have CE : Hid (∀ W A B c d, Rd W A (intCells [0, 2, 3]) → Rd W B (intCells [0, 2, 3]) → Calls Tryz.prog 32 #[.slice A 3 c, .slice B 3 d] W fun e w' => e = .returned (.bool true) ∧ Below W.heap.size W w') := fun W A B c d h1 h2 => lSame_any (a := [0, 2, 3]) (b := [0, 2, 3]) W h1 h2 (by simp)
 have CU := hid (fun W => usual22_any W)
 go_enter Tryz.func31, Tryz.ntmps31
 go_upto_region 2 with fail
 obtain ⟨w0, hw0⟩ : ∃ W, (w.alloc (.cells #[.int .i64 3, .string ⟨#[]⟩, .int .i64 0, .int .i64 2, .slice none 0 0, .int .i64 0, .int .i64 0, .int .i64 5, .string ⟨#[]⟩, .int .i64 0, .int .i64 0, .slice none 0 0, .int .i64 0, .int .i64 0, .int .i64 1, .string ⟨#[97, 98, 99, 100]⟩, .int .i64 0, .int .i64 0, .slice none 0 0, .int .i64 0, .int .i64 0] 56)).alloc (.cells #[.string ⟨#[97]⟩, .int .i64 9, .int .i64 0, .slice (some ⟨w.heap.size, 0, none⟩) 3 3] 26) = W := ⟨_, rfl⟩
 have HB : Hid (Below w.heap.size w w0) := by rw [← hw0]; exact below2 _ _ _
 have HP : Hid (Blk w0 (w.heap.size + 1) 26 #[.string ⟨#[97]⟩, .int .i64 9, .int .i64 0, .slice (some ⟨w.heap.size, 0, none⟩) 3 3]) := by rw [← hw0]; exact new2 _ _ _ _
 have HO : Hid (w0.ownsRow w.heap.size 56 7 (.slice (some ⟨w.heap.size, 0, none⟩) 3 3) 3 (opVCells litXs)) := by
  have h : (w.alloc (.cells (opVCells litXs).toArray 56)).ownsRow w.heap.size 56 7 (.slice (some ⟨w.heap.size, 0, none⟩) 3 3) 3 (opVCells litXs) :=
   ⟨rfl, .inr ⟨w.heap.size, 3, (opVCells litXs).toArray, rfl, Nat.le_refl _, heap_alloc_new w _, by omega, by unfold maxLen; omega, rfl, rfl⟩⟩
  rw [Hid, ← hw0]; exact h.alloc _
 have HR : Hid (Rd w0 (some ⟨w.heap.size, 0, none⟩) (opVCells litXs)) := Rd_of_own HO.out
 rw [hw0]
 obtain ⟨ga, hga⟩ : ∃ y, w.heap.size = y := ⟨_, rfl⟩
 have HGA := hid hga
 rw [hga] at HP HR ⊢
 obtain ⟨gp, hgp⟩ : ∃ y, ga + 1 = y := ⟨_, rfl⟩
 rw [hgp] at HP ⊢
 clear hw0 hga hgp HO
 have hpl := HP.out.lt
 have T0 : ∀ q : BW w0.heap.size w0, q.1.cell? ⟨gp, 0, none⟩ = some (.string ⟨#[97]⟩) := fun q => q.cellAt hpl (HP.out.cell 0)
 have T1 : ∀ q : BW w0.heap.size w0, q.1.cell? ⟨gp, 1, none⟩ = some (.int .i64 9) := fun q => q.cellAt hpl (HP.out.cell 1)
 have T2 : ∀ q : BW w0.heap.size w0, q.1.cell? ⟨gp, 2, none⟩ = some (.int .i64 0) := fun q => q.cellAt hpl (HP.out.cell 2)
 have T3 : ∀ q : BW w0.heap.size w0, q.1.cell? ⟨gp, 3, none⟩ = some (.slice (some ⟨ga, 0, none⟩) 3 3) := fun q => q.cellAt hpl (HP.out.cell 3)
 refine wp_region_ordT w0.heap.size [] (.val 0 (.two 1 (.op 2 (.op 3 (.val 4 (.val 5 (.op 6 (.val 7 (.val 8 (.val 9 (.val 11 (.op 10 (.op 12 (.val 13 (.val 14 (.val 15 (.val 17 (.op 16 (.op 18 (.val 19 (.val 20 (.val 21 (.nil))))))))))))))))))))) 2 (.op 1 (.op 3 (.val 4 (.val 5 (.op 6 (.val 7 (.val 8 (.val 9 (.val 11 (.op 10 (.op 12 (.val 13 (.val 14 (.val 15 (.val 17 (.op 16 (.op 18 (.val 19 (.val 20 (.val 21 (.nil))))))))))))))))))))))) (by kernel_rfl) (by kernel_rfl) ?_
 obtain ⟨wc, hwc⟩ : ∃ W, w0.drewN 1 = W := ⟨_, rfl⟩
 have HBC : Hid (Below w0.heap.size w0 wc) := by rw [← hwc]; exact drewN_below w0 1
 rw [hwc]
 clear hwc
 iterate 1 ((first | refine wpOrdT_val rfl rfl ?_ | refine wpOrdT_load rfl rfl (inBW HBC.out) ?_); go_big_quiet_step (fail); refine wpQuiet_nil ?_)
 refine wpOrdT_two rfl rfl ?_ ?_
 focus
  have CQ := hid (CR.out wc _ (HR.out.below HBC.out))
  go_wp2_with fail
  refine CQ.out.mono ?_
  rintro en wd ⟨v, rfl, hv, hbd⟩
  obtain ⟨A1, c1, rfl, hr1⟩ := own_shape hv
  have HBD : Hid (Below w0.heap.size w0 wd) := HBC.out.trans (hbd.mono HBC.out.size)
  have HR1 := hid hr1
  clear hv hbd hr1 CQ HBC
  go_wp2_with fail
  refine KT.keep (inBW HBD.out) ?_
  obtain ⟨wc, hwc⟩ : ∃ W, W = wd := ⟨_, rfl⟩
  subst hwc
  have HBC := HBD
  clear HBD
  refine wpOrdT_op rfl ?_
  go_wp2_with fail
  obtain ⟨wd, hwd⟩ : ∃ W, wc.alloc (.cells #[.int .i64 0, .int .i64 2, .int .i64 3] 3) = W := ⟨_, rfl⟩
  have HBS : Hid (Below wc.heap.size wc wd) := by rw [← hwd]; exact (Below.refl _ _).alloc (Nat.le_refl _) _
  have HI2 : Hid (IO 0 (wc.alloc (.cells #[.int .i64 0, .int .i64 2, .int .i64 3] 3)) (.slice (some ⟨wc.heap.size, 0, none⟩) 3 3) [0, 2, 3]) := io_new 0 wc [0, 2, 3] (by omega) (by simp)
  rw [hwd] at HI2 ⊢
  obtain ⟨g2, hg2⟩ : ∃ y, wc.heap.size = y := ⟨_, rfl⟩
  rw [hg2] at HI2 ⊢
  have HR2 : Hid (Rd wd (some ⟨g2, 0, none⟩) (intCells [0, 2, 3])) := Rd_of_own HI2.out
  have HBD : Hid (Below w0.heap.size w0 wd) := HBC.out.trans (HBS.out.mono HBC.out.size)
  have HR1x := hid (HR1.out.below HBS.out)
  clear HR1
  have HR1 := HR1x
  clear HR1x
  clear hwd hg2 HI2 HBS HBC
  refine KT.keep (inBW HBD.out) ?_
  obtain ⟨wc, hwc⟩ : ∃ W, W = wd := ⟨_, rfl⟩
  subst hwc
  have HBC := HBD
  clear HBD
 rotate_left
 focus
  go_wp2_with fail
  obtain ⟨wd, hwd⟩ : ∃ W, wc.alloc (.cells #[.int .i64 0, .int .i64 2, .int .i64 3] 3) = W := ⟨_, rfl⟩
  have HBS : Hid (Below wc.heap.size wc wd) := by rw [← hwd]; exact (Below.refl _ _).alloc (Nat.le_refl _) _
  have HI2 : Hid (IO 0 (wc.alloc (.cells #[.int .i64 0, .int .i64 2, .int .i64 3] 3)) (.slice (some ⟨wc.heap.size, 0, none⟩) 3 3) [0, 2, 3]) := io_new 0 wc [0, 2, 3] (by omega) (by simp)
  rw [hwd] at HI2 ⊢
  obtain ⟨g2, hg2⟩ : ∃ y, wc.heap.size = y := ⟨_, rfl⟩
  rw [hg2] at HI2 ⊢
  have HR2 : Hid (Rd wd (some ⟨g2, 0, none⟩) (intCells [0, 2, 3])) := Rd_of_own HI2.out
  have HBD : Hid (Below w0.heap.size w0 wd) := HBC.out.trans (HBS.out.mono HBC.out.size)
  clear hwd hg2 HI2 HBS HBC
  refine KT.keep (inBW HBD.out) ?_
  obtain ⟨wc, hwc⟩ : ∃ W, W = wd := ⟨_, rfl⟩
  subst hwc
  have HBC := HBD
  clear HBD
  refine wpOrdT_op rfl ?_
  have CQ := hid (CR.out wc _ (HR.out.below HBC.out))
  go_wp2_with fail
  refine CQ.out.mono ?_
  rintro en wd ⟨v, rfl, hv, hbd⟩
  obtain ⟨A1, c1, rfl, hr1⟩ := own_shape hv
  have HBD : Hid (Below w0.heap.size w0 wd) := HBC.out.trans (hbd.mono HBC.out.size)
  have HR1 := hid hr1
  have HR2x := hid (HR2.out.below hbd)
  clear HR2
  have HR2 := HR2x
  clear HR2x
  clear hv hbd hr1 CQ HBC
  go_wp2_with fail
  refine KT.keep (inBW HBD.out) ?_
  obtain ⟨wc, hwc⟩ : ∃ W, W = wd := ⟨_, rfl⟩
  subst hwc
  have HBC := HBD
  clear HBD
 all_goals
  refine wpOrdT_op rfl ?_
  have CQ := hid (fun c d => CE.out wc _ _ c d HR1.out HR2.out)
  go_wp2_with fail
  refine (CQ.out _ _).mono ?_
  rintro en wd ⟨rfl, hbd⟩
  have HBD : Hid (Below w0.heap.size w0 wd) := HBC.out.trans (hbd.mono HBC.out.size)
  clear hbd CQ HBC
  go_wp2_with fail
  refine KT.keep (inBW HBD.out) ?_
  obtain ⟨wc, hwc⟩ : ∃ W, W = wd := ⟨_, rfl⟩
  subst hwc
  have HBC := HBD
  clear HBD
  clear HR1 HR2
  iterate 2 ((first | refine wpOrdT_val rfl rfl ?_ | refine wpOrdT_load rfl rfl (inBW HBC.out) ?_); go_big_quiet_step (fail); refine wpQuiet_nil ?_)
  refine wpOrdT_op rfl ?_
  have CQ := hid (CL.out wc _ (HR.out.below HBC.out))
  go_wp2_with fail
  refine (CQ.out).mono ?_
  rintro en wd ⟨rfl, hbd⟩
  have HBD : Hid (Below w0.heap.size w0 wd) := HBC.out.trans (hbd.mono HBC.out.size)
  clear hbd CQ HBC
  go_wp2_with fail
  refine KT.keep (inBW HBD.out) ?_
  obtain ⟨wc, hwc⟩ : ∃ W, W = wd := ⟨_, rfl⟩
  subst hwc
  have HBC := HBD
  clear HBD
  iterate 4 ((first | refine wpOrdT_val rfl rfl ?_ | refine wpOrdT_load rfl rfl (inBW HBC.out) ?_); go_big_quiet_step (fail); refine wpQuiet_nil ?_)
  refine wpOrdT_op rfl ?_
  have CQ := hid (CU.out wc)
  go_wp2_with fail
  refine (CQ.out).mono ?_
  rintro en wd ⟨rfl, hbd⟩
  have HBD : Hid (Below w0.heap.size w0 wd) := HBC.out.trans (hbd.mono HBC.out.size)
  clear hbd CQ HBC
  go_wp2_with fail
  refine KT.keep (inBW HBD.out) ?_
  obtain ⟨wc, hwc⟩ : ∃ W, W = wd := ⟨_, rfl⟩
  subst hwc
  have HBC := HBD
  clear HBD
  refine wpOrdT_op rfl ?_
  have CQ := hid (CS.out wc _ (HR.out.below HBC.out))
  go_wp2_with fail
  refine (CQ.out).mono ?_
  rintro en wd ⟨rfl, hbd⟩
  have HBD : Hid (Below w0.heap.size w0 wd) := HBC.out.trans (hbd.mono HBC.out.size)
  clear hbd CQ HBC
  go_wp2_with fail
  refine KT.keep (inBW HBD.out) ?_
  obtain ⟨wc, hwc⟩ : ∃ W, W = wd := ⟨_, rfl⟩
  subst hwc
  have HBC := HBD
  clear HBD
  iterate 4 ((first | refine wpOrdT_val rfl rfl ?_ | refine wpOrdT_load rfl rfl (inBW HBC.out) ?_); go_big_quiet_step (fail); refine wpQuiet_nil ?_)
  refine wpOrdT_op rfl ?_
  have CQ := hid (CU.out wc)
  go_wp2_with fail
  refine (CQ.out).mono ?_
  rintro en wd ⟨rfl, hbd⟩
  have HBD : Hid (Below w0.heap.size w0 wd) := HBC.out.trans (hbd.mono HBC.out.size)
  clear hbd CQ HBC
  go_wp2_with fail
  refine KT.keep (inBW HBD.out) ?_
  obtain ⟨wc, hwc⟩ : ∃ W, W = wd := ⟨_, rfl⟩
  subst hwc
  have HBC := HBD
  clear HBD
  refine wpOrdT_op rfl ?_
  have CQ := hid (CM.out wc _ (HR.out.below HBC.out))
  go_wp2_with fail
  refine (CQ.out).mono ?_
  rintro en wd ⟨rfl, hbd⟩
  have HBD : Hid (Below w0.heap.size w0 wd) := HBC.out.trans (hbd.mono HBC.out.size)
  clear hbd CQ HBC
  go_wp2_with fail
  refine KT.keep (inBW HBD.out) ?_
  obtain ⟨wc, hwc⟩ : ∃ W, W = wd := ⟨_, rfl⟩
  subst hwc
  have HBC := HBD
  clear HBD
  iterate 3 ((first | refine wpOrdT_val rfl rfl ?_ | refine wpOrdT_load rfl rfl (inBW HBC.out) ?_); go_big_quiet_step (fail); refine wpQuiet_nil ?_)
  refine wpOrdT_nil ?_
  have HBE : Hid (Below w.heap.size w wc) := HB.out.trans (HBC.out.mono HB.out.size)
  go_wp2_with fail
  try go_ret
  exact ⟨rfl, HBE.out⟩
end Go.Proofs.YtpkkfdmhbbipoaaGreat
