/- Walks: law 24's one, lives. FlowReaches: where any script may go, and whether it may come back: what the law computes. -/
import Derived.Test.YtpkkfdmhbbipoaaGreatFg
import Derived.Test.YtpkkfdmhbbipoaaGreatDl
namespace Go.Proofs.YtpkkfdmhbbipoaaGreat
open Go.RowKit PopT
def litP : ProgV := ⟨⟨#[97]⟩, 9, 0, [⟨3, ⟨#[]⟩, 0, 2, [], 0, 0⟩, ⟨5, ⟨#[]⟩, 0, 0, [], 0, 0⟩, ⟨1, ⟨#[97, 98, 99, 100]⟩, 0, 0, [], 0, 0⟩]⟩
def litS : SetV := ⟨4, 8, 16, 3, 5, 1⟩
theorem litP_reach : reachL litP = [0, 2, 3] := by kernel_rfl
theorem litP_loops : loopsB litP = false := by kernel_rfl
theorem litP_steps : stepsM litS litP = 6 := by kernel_rfl
theorem litP_most : mostM litS litP = 12 := by kernel_rfl
def litXs : List (OpV × Value) := litP.ops.map fun o => (o, .slice none 0 0)
theorem litP_in {W : World} {A : Option Addr} (h : Rd W A (opVCells litXs)) : ScriptIn litP A W :=
 ⟨⟨litXs, by simp [litXs, Function.comp_def], h, fun x hx => by
  obtain ⟨o, ho, rfl⟩ := List.mem_map.1 hx
  simp only [litP, List.mem_cons, List.not_mem_nil, or_false] at ho
  rcases ho with rfl | rfl | rfl <;> exact ⟨none, 0, rfl, .inl rfl⟩⟩, by simp [litP], by simp [litP, ByteArray.size], fun o ho => by
  simp only [litP, List.mem_cons, List.not_mem_nil, or_false] at ho
  rcases ho with rfl | rfl | rfl <;> simp⟩
theorem one24_any (n : Int) (w : World) : Calls Tryz.prog 30 #[.int .i64 n] w fun e w' => e = .returned (.int .i64 (if 0 < n then 1 else 0)) ∧ w = w' := by
 by_cases h : 0 < n
 ·rw [if_pos h]
  go_enter Tryz.func30, Tryz.ntmps30
  go_wp2_with fail
  try go_ret
  exact ⟨rfl, rfl⟩
 ·rw [if_neg h]
  go_enter Tryz.func30, Tryz.ntmps30
  go_wp2_with fail
  try go_ret
  exact ⟨rfl, rfl⟩
set_option maxRecDepth 20000 in
set_option maxHeartbeats 4000000 in
theorem lives24_any (w : World) : Calls Tryz.prog 31 #[] w fun e w' => e = .returned (.bool true) ∧ Below w.heap.size w w' := by
 have CR : Hid (∀ W A, Rd W A (opVCells litXs) → Calls Tryz.prog 35 #[.agg #[.string ⟨#[97]⟩, .int .i64 9, .int .i64 0, .slice A 3 3]] W fun e w' => ∃ v, e = .returned v ∧ IO W.heap.size w' v [0, 2, 3] ∧ Below W.heap.size W w') := fun W A h => by
  rw [← litP_reach]; exact fReach_any (p := litP) (c := 3) (litP_in h)
 have CL : Hid (∀ W A, Rd W A (opVCells litXs) → Calls Tryz.prog 37 #[.agg #[.string ⟨#[97]⟩, .int .i64 9, .int .i64 0, .slice A 3 3]] W fun e w' => e = .returned (.bool false) ∧ Below W.heap.size W w') := fun W A h => by
  rw [← litP_loops]; exact fLoops_any (p := litP) (c := 3) (litP_in h)
 have CS : Hid (∀ W A, Rd W A (opVCells litXs) → Calls Tryz.prog 28 #[.agg #[.int .i64 4, .int .i64 8, .int .i64 16, .int .i64 3, .int .i64 5, .int .i64 1], .agg #[.string ⟨#[97]⟩, .int .i64 9, .int .i64 0, .slice A 3 3]] W fun e w' => e = .returned (.int .i64 6) ∧ Below W.heap.size W w') := fun W A h => by
  rw [← litP_steps]; exact fSteps_any (p := litP) (c := 3) litS (litP_in h)
 have CM : Hid (∀ W A, Rd W A (opVCells litXs) → Calls Tryz.prog 29 #[.agg #[.int .i64 4, .int .i64 8, .int .i64 16, .int .i64 3, .int .i64 5, .int .i64 1], .agg #[.string ⟨#[97]⟩, .int .i64 9, .int .i64 0, .slice A 3 3]] W fun e w' => e = .returned (.int .i64 12) ∧ Below W.heap.size W w') := fun W A h => by
  rw [← litP_most]; exact fMost_any (p := litP) (c := 3) litS (litP_in h)
 have CE : Hid (∀ W A B c d, Rd W A (intCells [0, 2, 3]) → Rd W B (intCells [0, 2, 3]) → Calls Tryz.prog 32 #[.slice A 3 c, .slice B 3 d] W fun e w' => e = .returned (.bool true) ∧ Below W.heap.size W w') := fun W A B c d h1 h2 => lSame_any (a := [0, 2, 3]) (b := [0, 2, 3]) W h1 h2 (by simp)
 have CU := hid (fun W => usual22_any W)
 go_enter Tryz.func31, Tryz.ntmps31
 go_upto_region 2 with fail
 obtain ⟨w0, hw0⟩ : ∃ W, (w.alloc (.cells #[.int .i64 3, .string ⟨#[]⟩, .int .i64 0, .int .i64 2, .slice none 0 0, .int .i64 0, .int .i64 0, .int .i64 5, .string ⟨#[]⟩, .int .i64 0, .int .i64 0, .slice none 0 0, .int .i64 0, .int .i64 0, .int .i64 1, .string ⟨#[97, 98, 99, 100]⟩, .int .i64 0, .int .i64 0, .slice none 0 0, .int .i64 0, .int .i64 0] 56)).alloc (.cells #[.string ⟨#[97]⟩, .int .i64 9, .int .i64 0, .slice (some ⟨w.heap.size, 0, none⟩) 3 3] 26) = W := ⟨_, rfl⟩
 have HB : Hid (Below w.heap.size w w0) := by rw [← hw0]; exact below2 _ _ _
 have HP : Hid (Blk w0 (w.heap.size + 1) 26 #[.string ⟨#[97]⟩, .int .i64 9, .int .i64 0, .slice (some ⟨w.heap.size, 0, none⟩) 3 3]) := by rw [← hw0]; exact new2 _ _ _ _
 have HO : Hid (w0.ownsRow w.heap.size 56 7 (.slice (some ⟨w.heap.size, 0, none⟩) 3 3) 3 (opVCells litXs)) := by
  have h : (w.alloc (.cells (opVCells litXs).toArray 56)).ownsRow w.heap.size 56 7 (.slice (some ⟨w.heap.size, 0, none⟩) 3 3) 3 (opVCells litXs) :=
   ⟨rfl, .inr ⟨w.heap.size, 3, (opVCells litXs).toArray, rfl, Nat.le_refl _, heap_alloc_new w _, by omega, by unfold maxLen; omega, rfl, rfl⟩⟩
  rw [Hid, ← hw0]; exact h.alloc _
 have HR : Hid (Rd w0 (some ⟨w.heap.size, 0, none⟩) (opVCells litXs)) := Rd_of_own HO.out
 rw [hw0]
 obtain ⟨ga, hga⟩ : ∃ y, w.heap.size = y := ⟨_, rfl⟩
 have HGA := hid hga
 rw [hga] at HP HR ⊢
 obtain ⟨gp, hgp⟩ : ∃ y, ga + 1 = y := ⟨_, rfl⟩
 rw [hgp] at HP ⊢
 clear hw0 hga hgp HO
 have hpl := HP.out.lt
 have T0 : ∀ q : BW w0.heap.size w0, q.1.cell? ⟨gp, 0, none⟩ = some (.string ⟨#[97]⟩) := fun q => q.cellAt hpl (HP.out.cell 0)
 have T1 : ∀ q : BW w0.heap.size w0, q.1.cell? ⟨gp, 1, none⟩ = some (.int .i64 9) := fun q => q.cellAt hpl (HP.out.cell 1)
 have T2 : ∀ q : BW w0.heap.size w0, q.1.cell? ⟨gp, 2, none⟩ = some (.int .i64 0) := fun q => q.cellAt hpl (HP.out.cell 2)
 have T3 : ∀ q : BW w0.heap.size w0, q.1.cell? ⟨gp, 3, none⟩ = some (.slice (some ⟨ga, 0, none⟩) 3 3) := fun q => q.cellAt hpl (HP.out.cell 3)
 refine wp_region_ordT w0.heap.size [] (.val 0 (.two 1 (.op 2 (.op 3 (.val 4 (.val 5 (.op 6 (.val 7 (.val 8 (.val 9 (.val 11 (.op 10 (.op 12 (.val 13 (.val 14 (.val 15 (.val 17 (.op 16 (.op 18 (.val 19 (.val 20 (.val 21 (.nil))))))))))))))))))))) 2 (.op 1 (.op 3 (.val 4 (.val 5 (.op 6 (.val 7 (.val 8 (.val 9 (.val 11 (.op 10 (.op 12 (.val 13 (.val 14 (.val 15 (.val 17 (.op 16 (.op 18 (.val 19 (.val 20 (.val 21 (.nil))))))))))))))))))))))) (by kernel_rfl) (by kernel_rfl) ?_
 obtain ⟨wc, hwc⟩ : ∃ W, w0.drewN 1 = W := ⟨_, rfl⟩
 have HBC : Hid (Below w0.heap.size w0 wc) := by rw [← hwc]; exact drewN_below w0 1
 rw [hwc]
 clear hwc
 iterate 1 ((first | refine wpOrdT_val rfl rfl ?_ | refine wpOrdT_load rfl rfl (inBW HBC.out) ?_); go_big_quiet_step (fail); refine wpQuiet_nil ?_)
 refine wpOrdT_two rfl rfl ?_ ?_
 focus
  have CQ := hid (CR.out wc _ (HR.out.below HBC.out))
  go_wp2_with fail
  refine CQ.out.mono ?_
  rintro en wd ⟨v, rfl, hv, hbd⟩
  obtain ⟨A1, c1, rfl, hr1⟩ := own_shape hv
  have HBD : Hid (Below w0.heap.size w0 wd) := HBC.out.trans (hbd.mono HBC.out.size)
  have HR1 := hid hr1
  clear hv hbd hr1 CQ HBC
  go_wp2_with fail
  refine KT.keep (inBW HBD.out) ?_
  obtain ⟨wc, hwc⟩ : ∃ W, W = wd := ⟨_, rfl⟩
  subst hwc
  have HBC := HBD
  clear HBD
  refine wpOrdT_op rfl ?_
  go_wp2_with fail
  obtain ⟨wd, hwd⟩ : ∃ W, wc.alloc (.cells #[.int .i64 0, .int .i64 2, .int .i64 3] 3) = W := ⟨_, rfl⟩
  have HBS : Hid (Below wc.heap.size wc wd) := by rw [← hwd]; exact (Below.refl _ _).alloc (Nat.le_refl _) _
  have HI2 : Hid (IO 0 (wc.alloc (.cells #[.int .i64 0, .int .i64 2, .int .i64 3] 3)) (.slice (some ⟨wc.heap.size, 0, none⟩) 3 3) [0, 2, 3]) := io_new 0 wc [0, 2, 3] (by omega) (by simp)
  rw [hwd] at HI2 ⊢
  obtain ⟨g2, hg2⟩ : ∃ y, wc.heap.size = y := ⟨_, rfl⟩
  rw [hg2] at HI2 ⊢
  have HR2 : Hid (Rd wd (some ⟨g2, 0, none⟩) (intCells [0, 2, 3])) := Rd_of_own HI2.out
  have HBD : Hid (Below w0.heap.size w0 wd) := HBC.out.trans (HBS.out.mono HBC.out.size)
  have HR1x := hid (HR1.out.below HBS.out)
  clear HR1
  have HR1 := HR1x
  clear HR1x
  clear hwd hg2 HI2 HBS HBC
  refine KT.keep (inBW HBD.out) ?_
  obtain ⟨wc, hwc⟩ : ∃ W, W = wd := ⟨_, rfl⟩
  subst hwc
  have HBC := HBD
  clear HBD
 rotate_left
 focus
  go_wp2_with fail
  obtain ⟨wd, hwd⟩ : ∃ W, wc.alloc (.cells #[.int .i64 0, .int .i64 2, .int .i64 3] 3) = W := ⟨_, rfl⟩
  have HBS : Hid (Below wc.heap.size wc wd) := by rw [← hwd]; exact (Below.refl _ _).alloc (Nat.le_refl _) _
  have HI2 : Hid (IO 0 (wc.alloc (.cells #[.int .i64 0, .int .i64 2, .int .i64 3] 3)) (.slice (some ⟨wc.heap.size, 0, none⟩) 3 3) [0, 2, 3]) := io_new 0 wc [0, 2, 3] (by omega) (by simp)
  rw [hwd] at HI2 ⊢
  obtain ⟨g2, hg2⟩ : ∃ y, wc.heap.size = y := ⟨_, rfl⟩
  rw [hg2] at HI2 ⊢
  have HR2 : Hid (Rd wd (some ⟨g2, 0, none⟩) (intCells [0, 2, 3])) := Rd_of_own HI2.out
  have HBD : Hid (Below w0.heap.size w0 wd) := HBC.out.trans (HBS.out.mono HBC.out.size)
  clear hwd hg2 HI2 HBS HBC
  refine KT.keep (inBW HBD.out) ?_
  obtain ⟨wc, hwc⟩ : ∃ W, W = wd := ⟨_, rfl⟩
  subst hwc
  have HBC := HBD
  clear HBD
  refine wpOrdT_op rfl ?_
  have CQ := hid (CR.out wc _ (HR.out.below HBC.out))
  go_wp2_with fail
  refine CQ.out.mono ?_
  rintro en wd ⟨v, rfl, hv, hbd⟩
  obtain ⟨A1, c1, rfl, hr1⟩ := own_shape hv
  have HBD : Hid (Below w0.heap.size w0 wd) := HBC.out.trans (hbd.mono HBC.out.size)
  have HR1 := hid hr1
  have HR2x := hid (HR2.out.below hbd)
  clear HR2
  have HR2 := HR2x
  clear HR2x
  clear hv hbd hr1 CQ HBC
  go_wp2_with fail
  refine KT.keep (inBW HBD.out) ?_
  obtain ⟨wc, hwc⟩ : ∃ W, W = wd := ⟨_, rfl⟩
  subst hwc
  have HBC := HBD
  clear HBD
 all_goals
  refine wpOrdT_op rfl ?_
  have CQ := hid (fun c d => CE.out wc _ _ c d HR1.out HR2.out)
  go_wp2_with fail
  refine (CQ.out _ _).mono ?_
  rintro en wd ⟨rfl, hbd⟩
  have HBD : Hid (Below w0.heap.size w0 wd) := HBC.out.trans (hbd.mono HBC.out.size)
  clear hbd CQ HBC
  go_wp2_with fail
  refine KT.keep (inBW HBD.out) ?_
  obtain ⟨wc, hwc⟩ : ∃ W, W = wd := ⟨_, rfl⟩
  subst hwc
  have HBC := HBD
  clear HBD
  clear HR1 HR2
  iterate 2 ((first | refine wpOrdT_val rfl rfl ?_ | refine wpOrdT_load rfl rfl (inBW HBC.out) ?_); go_big_quiet_step (fail); refine wpQuiet_nil ?_)
  refine wpOrdT_op rfl ?_
  have CQ := hid (CL.out wc _ (HR.out.below HBC.out))
  go_wp2_with fail
  refine (CQ.out).mono ?_
  rintro en wd ⟨rfl, hbd⟩
  have HBD : Hid (Below w0.heap.size w0 wd) := HBC.out.trans (hbd.mono HBC.out.size)
  clear hbd CQ HBC
  go_wp2_with fail
  refine KT.keep (inBW HBD.out) ?_
  obtain ⟨wc, hwc⟩ : ∃ W, W = wd := ⟨_, rfl⟩
  subst hwc
  have HBC := HBD
  clear HBD
  iterate 4 ((first | refine wpOrdT_val rfl rfl ?_ | refine wpOrdT_load rfl rfl (inBW HBC.out) ?_); go_big_quiet_step (fail); refine wpQuiet_nil ?_)
  refine wpOrdT_op rfl ?_
  have CQ := hid (CU.out wc)
  go_wp2_with fail
  refine (CQ.out).mono ?_
  rintro en wd ⟨rfl, hbd⟩
  have HBD : Hid (Below w0.heap.size w0 wd) := HBC.out.trans (hbd.mono HBC.out.size)
  clear hbd CQ HBC
  go_wp2_with fail
  refine KT.keep (inBW HBD.out) ?_
  obtain ⟨wc, hwc⟩ : ∃ W, W = wd := ⟨_, rfl⟩
  subst hwc
  have HBC := HBD
  clear HBD
  refine wpOrdT_op rfl ?_
  have CQ := hid (CS.out wc _ (HR.out.below HBC.out))
  go_wp2_with fail
  refine (CQ.out).mono ?_
  rintro en wd ⟨rfl, hbd⟩
  have HBD : Hid (Below w0.heap.size w0 wd) := HBC.out.trans (hbd.mono HBC.out.size)
  clear hbd CQ HBC
  go_wp2_with fail
  refine KT.keep (inBW HBD.out) ?_
  obtain ⟨wc, hwc⟩ : ∃ W, W = wd := ⟨_, rfl⟩
  subst hwc
  have HBC := HBD
  clear HBD
  iterate 4 ((first | refine wpOrdT_val rfl rfl ?_ | refine wpOrdT_load rfl rfl (inBW HBC.out) ?_); go_big_quiet_step (fail); refine wpQuiet_nil ?_)
  refine wpOrdT_op rfl ?_
  have CQ := hid (CU.out wc)
  go_wp2_with fail
  refine (CQ.out).mono ?_
  rintro en wd ⟨rfl, hbd⟩
  have HBD : Hid (Below w0.heap.size w0 wd) := HBC.out.trans (hbd.mono HBC.out.size)
  clear hbd CQ HBC
  go_wp2_with fail
  refine KT.keep (inBW HBD.out) ?_
  obtain ⟨wc, hwc⟩ : ∃ W, W = wd := ⟨_, rfl⟩
  subst hwc
  have HBC := HBD
  clear HBD
  refine wpOrdT_op rfl ?_
  have CQ := hid (CM.out wc _ (HR.out.below HBC.out))
  go_wp2_with fail
  refine (CQ.out).mono ?_
  rintro en wd ⟨rfl, hbd⟩
  have HBD : Hid (Below w0.heap.size w0 wd) := HBC.out.trans (hbd.mono HBC.out.size)
  clear hbd CQ HBC
  go_wp2_with fail
  refine KT.keep (inBW HBD.out) ?_
  obtain ⟨wc, hwc⟩ : ∃ W, W = wd := ⟨_, rfl⟩
  subst hwc
  have HBC := HBD
  clear HBD
  iterate 3 ((first | refine wpOrdT_val rfl rfl ?_ | refine wpOrdT_load rfl rfl (inBW HBC.out) ?_); go_big_quiet_step (fail); refine wpQuiet_nil ?_)
  refine wpOrdT_nil ?_
  have HBE : Hid (Below w.heap.size w wc) := HB.out.trans (HBC.out.mono HB.out.size)
  go_wp2_with fail
  try go_ret
  exact ⟨rfl, HBE.out⟩
theorem few_in (p : ProgV) (hok : ProgOk p) : ProgOk (fewP p 10) ∧ (fewP p 10).ops.length ≤ 10 ∧ (∀ o ∈ (fewP p 10).ops, o.arms.length ≤ 10) ∧ ∀ o ∈ (fewP p 10).ops, ∀ a ∈ o.arms, a.pat.size ≤ 1000000 := by
 refine ⟨fewP_ok p 10 hok, ?_, fun o ho => ?_, fun o ho a ha => ?_⟩
 ·show ((p.ops.take 10).map cutO).length ≤ 10
  rw [List.length_map, List.length_take]; omega
 ·obtain ⟨o', _, rfl⟩ := List.mem_map.1 ho
  show ((o'.arms.take 10).map cutA).length ≤ 10
  rw [List.length_map, List.length_take]; omega
 ·obtain ⟨o', _, rfl⟩ := List.mem_map.1 ho
  obtain ⟨a', _, rfl⟩ := List.mem_map.1 ha
  have := cutM_size 70 a'.pat
  show (cutM 70 a'.pat).size ≤ 1000000
  omega
theorem few_ref (p : ProgV) (hok : ProgOk p) {W : World} {A : Option Addr} (h : OpsIn W A (fewP p 10).ops) : RefIn (fewP p 10) A W := by
 obtain ⟨h1, h2, h3, h4⟩ := few_in p hok
 exact ⟨h, h1, h4, fun o ho => by have := h3 o ho; omega, by omega⟩
theorem few_script (p : ProgV) (hok : ProgOk p) {W : World} {A : Option Addr} (h : OpsIn W A (fewP p 10).ops) : ScriptIn (fewP p 10) A W := by
 obtain ⟨h1, h2, h3, h4⟩ := few_in p hok
 exact ⟨h, by omega, h1.1, fun o ho => by have := h3 o ho; omega⟩
theorem few_again (p : ProgV) (hok : ProgOk p) {W : World} {A : Option Addr} (c : Nat) (h : OpsIn W A (fewP p 10).ops) :
  Calls Tryz.prog 26 #[(fewP p 10).val (.slice A (fewP p 10).ops.length c), .int .i64 10] W fun e w' => ∃ A' c', e = .returned ((fewP p 10).val (.slice A' (fewP p 10).ops.length c')) ∧ OpsIn w' A' (fewP p 10).ops ∧ Below W.heap.size W w' := by
 have := fewP_any (fewP p 10) A c 10 W h (few_in p hok).1 (by omega)
 rw [fewP_twice] at this
 exact this.mono fun e w' ⟨A', c', h1, h2, h3⟩ => ⟨A', c', h1, h2.inn rfl, h3⟩
theorem set4_keepF (w : World) (g : Nat) (a b c d : Value) : Keep (fun k => k = g) w (set4 w g a b c d) :=
 ((((Keep.setCell (fun k => k = g) w ⟨g, 0, none⟩ a rfl).trans (Keep.setCell (fun k => k = g) _ ⟨g, 1, none⟩ b rfl) (fun _ => .inl)).trans (Keep.setCell (fun k => k = g) _ ⟨g, 2, none⟩ c rfl) (fun _ => .inl)).trans (Keep.setCell (fun k => k = g) _ ⟨g, 3, none⟩ d rfl) (fun _ => .inl))
theorem nextL_len (p : ProgV) (x : Int) : (nextL p x).length ≤ 1000 := by
 unfold nextL
 split
 ·rename_i hg
  have := nx_len (goodB_iff.1 hg) x
  have := (good_ops (goodB_iff.1 hg)).2.1
  omega
 ·simp
theorem reachL_len (p : ProgV) : (reachL p).length ≤ 1000 := by
 unfold reachL
 split
 ·rename_i hg
  have hr : InR p.ops.length [0] := ⟨by simp [Asc], fun x hx => by rw [List.mem_singleton] at hx; omega⟩
  have hi : InR p.ops.length (fromL p [0]) := ⟨(fromL_iff (goodB_iff.1 hg) _ hr.asc hr.rng).1, (fromM_closed (nx_in (goodB_iff.1 hg)) _ _ hr.asc hr.rng).2.1⟩
  have hl := hi.len
  have hn := (good_ops (goodB_iff.1 hg)).2.1
  omega
 ·simp
set_option maxRecDepth 20000 in
set_option maxHeartbeats 8000000 in
theorem flowReaches_any (A : Option Addr) (c : Nat) (p : ProgV) (x : Int) (w : World) (hin : OpsIn w A p.ops) (hok : ProgOk p) :
  Calls Tryz.prog 6 #[p.val (.slice A p.ops.length c), .int .i64 x] w fun e w' => e = .returned (.bool true) ∧ Below w.heap.size w w' := by
 have CF0 : Hid (∀ W, Below w.heap.size w W → Calls Tryz.prog 26 #[p.val (.slice A p.ops.length c), .int .i64 10] W fun e w' => ∃ A' c', e = .returned ((fewP p 10).val (.slice A' (fewP p 10).ops.length c')) ∧ OpsOwn W.heap.size w' (.slice A' (fewP p 10).ops.length c') (fewP p 10).ops ∧ Below W.heap.size W w') := fun W hb => fewP_any p A c 10 W (hin.below hb) hok (by omega)
 have CFW : Hid (∀ W A c, OpsIn W A (fewP p 10).ops → Calls Tryz.prog 26 #[(fewP p 10).val (.slice A (fewP p 10).ops.length c), .int .i64 10] W fun e w' => ∃ A' c', e = .returned ((fewP p 10).val (.slice A' (fewP p 10).ops.length c')) ∧ OpsIn w' A' (fewP p 10).ops ∧ Below W.heap.size W w') := fun W A c h => few_again p hok c h
 have CN : Hid (∀ W A c, OpsIn W A (fewP p 10).ops → Calls Tryz.prog 33 #[(fewP p 10).val (.slice A (fewP p 10).ops.length c), .int .i64 x] W fun e w' => ∃ v, e = .returned v ∧ IO W.heap.size w' v (nextL (fewP p 10) x) ∧ Below W.heap.size W w') := fun W A c h => fNext_any x (few_script p hok h)
 have CRN : Hid (∀ W A c, OpsIn W A (fewP p 10).ops → Calls Tryz.prog 34 #[(fewP p 10).val (.slice A (fewP p 10).ops.length c), .int .i64 x] W fun e w' => ∃ v, e = .returned v ∧ IO W.heap.size w' v (nextL (fewP p 10) x) ∧ Below W.heap.size W w') := fun W A c h => rNext24_any x (few_ref p hok h)
 have CR : Hid (∀ W A c, OpsIn W A (fewP p 10).ops → Calls Tryz.prog 35 #[(fewP p 10).val (.slice A (fewP p 10).ops.length c)] W fun e w' => ∃ v, e = .returned v ∧ IO W.heap.size w' v (reachL (fewP p 10)) ∧ Below W.heap.size W w') := fun W A c h => fReach_any (few_script p hok h)
 have CRR : Hid (∀ W A c, OpsIn W A (fewP p 10).ops → Calls Tryz.prog 36 #[(fewP p 10).val (.slice A (fewP p 10).ops.length c)] W fun e w' => ∃ v, e = .returned v ∧ IO W.heap.size w' v (reachL (fewP p 10)) ∧ Below W.heap.size W w') := fun W A c h => rReach24_any (few_ref p hok h)
 have CL : Hid (∀ W A c, OpsIn W A (fewP p 10).ops → Calls Tryz.prog 37 #[(fewP p 10).val (.slice A (fewP p 10).ops.length c)] W fun e w' => e = .returned (.bool (loopsB (fewP p 10))) ∧ Below W.heap.size W w') := fun W A c h => fLoops_any (few_script p hok h)
 have CRL : Hid (∀ W A c, OpsIn W A (fewP p 10).ops → Calls Tryz.prog 38 #[(fewP p 10).val (.slice A (fewP p 10).ops.length c)] W fun e w' => e = .returned (.bool (loopsB (fewP p 10))) ∧ Below W.heap.size W w') := fun W A c h => rLoops24_any (few_ref p hok h)
 have HLN : Hid ((nextL (fewP p 10) x).length ≤ 1000 ∧ (reachL (fewP p 10)).length ≤ 1000) := ⟨nextL_len _ _, reachL_len _⟩
 have CE : Hid (∀ (L : List Int) W A B c d, L.length ≤ 1000 → Rd W A (intCells L) → Rd W B (intCells L) → Calls Tryz.prog 32 #[.slice A L.length c, .slice B L.length d] W fun e w' => e = .returned (.bool true) ∧ Below W.heap.size W w') := fun L W A B c d hl h1 h2 => by
  have := lSame_any (a := L) (b := L) (c := c) (d := d) W h1 h2 (by omega)
  rwa [decide_eq_true (show L = L from rfl)] at this
 have CV := hid (fun W => lives24_any W)
 obtain ⟨p1, hp1⟩ : ∃ q, fewP p 10 = q := ⟨_, rfl⟩
 rw [hp1] at CF0 CFW CN CRN CR CRR CL CRL HLN
 obtain ⟨NX, hNX⟩ : ∃ q, nextL p1 x = q := ⟨_, rfl⟩
 obtain ⟨RE, hRE⟩ : ∃ q, reachL p1 = q := ⟨_, rfl⟩
 obtain ⟨LO, hLO⟩ : ∃ q, loopsB p1 = q := ⟨_, rfl⟩
 rw [hNX] at CN CRN HLN
 rw [hRE] at CR CRR HLN
 rw [hLO] at CL CRL
 clear hp1 hNX hRE hLO hin hok
 obtain ⟨nm0, dl0, jp0, ops0⟩ := p
 obtain ⟨nm, dl, jp, ops⟩ := p1
 unfold ProgV.val at CF0 CFW CN CRN CR CRR CL CRL ⊢
 simp only at CF0 CFW CN CRN CR CRR CL CRL ⊢
 obtain ⟨n0, hn0⟩ : ∃ q, ops0.length = q := ⟨_, rfl⟩
 obtain ⟨n, hn⟩ : ∃ q, ops.length = q := ⟨_, rfl⟩
 rw [hn0] at CF0 ⊢
 rw [hn] at CF0 CFW CN CRN CR CRR CL CRL
 have HN := hid hn
 clear hn0 hn
 go_enter Tryz.func6, Tryz.ntmps6
 go_upto_region 1 with fail
 obtain ⟨w0, hw0⟩ : ∃ W, w.alloc (.cells #[.string nm0, .int .i64 dl0, .int .i64 jp0, .slice A n0 c] 26) = W := ⟨_, rfl⟩
 have HP : Hid (Blk w0 w.heap.size 26 #[.string nm0, .int .i64 dl0, .int .i64 jp0, .slice A n0 c]) := by rw [← hw0]; exact Blk.new _ _ _
 have HB : Hid (Below w.heap.size w w0) := by rw [← hw0]; exact (Below.refl _ _).alloc (Nat.le_refl _) _
 rw [hw0]
 obtain ⟨gp, hgp⟩ : ∃ y, w.heap.size = y := ⟨_, rfl⟩
 have HGP := hid hgp
 rw [hgp] at HP ⊢
 clear hw0 hgp
 have C1 := hid (CF0.out w0 HB.out)
 obtain ⟨q0, q1, q2, q3⟩ := fact4 HP.out
 have ql := HP.out.lt
 go_wp2_with fail
 refine C1.out.mono ?_
 rintro en w1 ⟨A1, c1, rfl, ho, hb⟩
 have HB1 : Hid (Below w.heap.size w w1) := HB.out.trans (hb.mono HB.out.size)
 have HP1 := hid (HP.out.below hb HP.out.lt)
 have HO1 := hid ho
 clear hb ho C1 q0 q1 q2 q3 ql HP HB CF0
 obtain ⟨q0, q1, q2, q3⟩ := fact4 HP1.out
 have ql := HP1.out.lt
 have z0 := HP1.out.frozen 0; have z1 := HP1.out.frozen 1; have z2 := HP1.out.frozen 2; have z3 := HP1.out.frozen 3
 have HK : Hid (Keep (fun k => k = gp) w1 (set4 w1 gp (.string nm) (.int .i64 dl) (.int .i64 jp) (.slice A1 n c1))) := set4_keepF _ _ _ _ _ _
 have HP2 := hid (set4_blk HP1.out (.string nm) (.int .i64 dl) (.int .i64 jp) (.slice A1 n c1))
 have HO2 : Hid (OpsIn (set4 w1 gp (.string nm) (.int .i64 dl) (.int .i64 jp) (.slice A1 n c1)) A1 ops) := (set4_ops HO1.out HP1.out _ _ _ _).inn HN.out
 go_upto_region 2 with fail
 obtain ⟨w2, hw2⟩ : ∃ W, set4 w1 gp (.string nm) (.int .i64 dl) (.int .i64 jp) (.slice A1 n c1) = W := ⟨_, rfl⟩
 rw [hw2] at HK HP2 HO2
 unfold set4 at hw2
 rw [hw2]
 clear hw2 q0 q1 q2 q3 ql z0 z1 z2 z3
 have HB2 : Hid (Below w.heap.size w w2) := HB1.out.trans (HK.out.below HB1.out.size (fun k e => by rw [e, ← HGP.out]; exact Nat.le_refl _))
 have hpl := HP2.out.lt
 have T0 : ∀ q : BW w2.heap.size w2, q.1.cell? ⟨gp, 0, none⟩ = some (.string nm) := fun q => q.cellAt hpl (HP2.out.cell 0)
 have T1 : ∀ q : BW w2.heap.size w2, q.1.cell? ⟨gp, 1, none⟩ = some (.int .i64 dl) := fun q => q.cellAt hpl (HP2.out.cell 1)
 have T2 : ∀ q : BW w2.heap.size w2, q.1.cell? ⟨gp, 2, none⟩ = some (.int .i64 jp) := fun q => q.cellAt hpl (HP2.out.cell 2)
 have T3 : ∀ q : BW w2.heap.size w2, q.1.cell? ⟨gp, 3, none⟩ = some (.slice A1 n c1) := fun q => q.cellAt hpl (HP2.out.cell 3)
 refine wp_region_ordT w2.heap.size [] (.val 0 (.val 2 (.val 4 (.val 5 (.op 1 (.op 3 (.op 6 (.op 7 (.val 8 (.val 9 (.val 12 (.op 10 (.op 11 (.op 13 (.op 14 (.val 15 (.val 16 (.val 17 (.val 20 (.op 18 (.op 19 (.op 21 (.val 22 (.val 23 (.val 24 (.op 25 (.val 26 (.val 27 (.nil))))))))))))))))))))))))))))) (by kernel_rfl) (by kernel_rfl) ?_
 obtain ⟨wc, hwc⟩ : ∃ W, w2.drewN 1 = W := ⟨_, rfl⟩
 have HBC : Hid (Below w2.heap.size w2 wc) := by rw [← hwc]; exact drewN_below w2 1
 rw [hwc]
 clear hwc
 iterate 4 ((first | refine wpOrdT_val rfl rfl ?_ | refine wpOrdT_load rfl rfl (inBW HBC.out) ?_); go_big_quiet_step (fail); refine wpQuiet_nil ?_)
 refine wpOrdT_op rfl ?_
 have CQ := hid (CFW.out wc _ c1 (HO2.out.below HBC.out))
 go_wp2_with fail
 refine (CQ.out).mono ?_
 rintro en wd ⟨A3, c3, rfl, ho3, hbd⟩
 have HBD : Hid (Below w2.heap.size w2 wd) := HBC.out.trans (hbd.mono HBC.out.size)
 have HO3 := hid ho3
 clear ho3
 clear hbd CQ HBC
 go_wp2_with fail
 refine KT.keep (inBW HBD.out) ?_
 obtain ⟨wc, hwc⟩ : ∃ W, W = wd := ⟨_, rfl⟩
 subst hwc
 have HBC := HBD
 clear HBD
 refine wpOrdT_op rfl ?_
 have CQ := hid (CN.out wc _ c3 HO3.out)
 go_wp2_with fail
 refine (CQ.out).mono ?_
 rintro en wd ⟨v, rfl, hv, hbd⟩
 have HBD : Hid (Below w2.heap.size w2 wd) := HBC.out.trans (hbd.mono HBC.out.size)
 obtain ⟨B1, d1, rfl, hr1⟩ := own_shape hv
 have HR1 := hid hr1
 clear hv hr1
 clear HO3
 clear hbd CQ HBC
 go_wp2_with fail
 refine KT.keep (inBW HBD.out) ?_
 obtain ⟨wc, hwc⟩ : ∃ W, W = wd := ⟨_, rfl⟩
 subst hwc
 have HBC := HBD
 clear HBD
 refine wpOrdT_op rfl ?_
 have CQ := hid (CRN.out wc _ c1 (HO2.out.below HBC.out))
 go_wp2_with fail
 refine (CQ.out).mono ?_
 rintro en wd ⟨v, rfl, hv, hbd⟩
 have HBD : Hid (Below w2.heap.size w2 wd) := HBC.out.trans (hbd.mono HBC.out.size)
 have HR1x := hid (HR1.out.below hbd)
 clear HR1
 have HR1 := HR1x
 clear HR1x
 obtain ⟨B2, d2, rfl, hr2⟩ := own_shape hv
 have HR2 := hid hr2
 clear hv hr2
 clear hbd CQ HBC
 go_wp2_with fail
 refine KT.keep (inBW HBD.out) ?_
 obtain ⟨wc, hwc⟩ : ∃ W, W = wd := ⟨_, rfl⟩
 subst hwc
 have HBC := HBD
 clear HBD
 refine wpOrdT_op rfl ?_
 have CQ := hid (fun c d => CE.out NX wc _ _ c d HLN.out.1 HR1.out HR2.out)
 go_wp2_with fail
 refine (CQ.out _ _).mono ?_
 rintro en wd ⟨rfl, hbd⟩
 have HBD : Hid (Below w2.heap.size w2 wd) := HBC.out.trans (hbd.mono HBC.out.size)
 clear HR1 HR2
 clear hbd CQ HBC
 go_wp2_with fail
 refine KT.keep (inBW HBD.out) ?_
 obtain ⟨wc, hwc⟩ : ∃ W, W = wd := ⟨_, rfl⟩
 subst hwc
 have HBC := HBD
 clear HBD
 iterate 3 ((first | refine wpOrdT_val rfl rfl ?_ | refine wpOrdT_load rfl rfl (inBW HBC.out) ?_); go_big_quiet_step (fail); refine wpQuiet_nil ?_)
 refine wpOrdT_op rfl ?_
 have CQ := hid (CFW.out wc _ c1 (HO2.out.below HBC.out))
 go_wp2_with fail
 refine (CQ.out).mono ?_
 rintro en wd ⟨A3, c3, rfl, ho3, hbd⟩
 have HBD : Hid (Below w2.heap.size w2 wd) := HBC.out.trans (hbd.mono HBC.out.size)
 have HO3 := hid ho3
 clear ho3
 clear hbd CQ HBC
 go_wp2_with fail
 refine KT.keep (inBW HBD.out) ?_
 obtain ⟨wc, hwc⟩ : ∃ W, W = wd := ⟨_, rfl⟩
 subst hwc
 have HBC := HBD
 clear HBD
 refine wpOrdT_op rfl ?_
 have CQ := hid (CR.out wc _ c3 HO3.out)
 go_wp2_with fail
 refine (CQ.out).mono ?_
 rintro en wd ⟨v, rfl, hv, hbd⟩
 have HBD : Hid (Below w2.heap.size w2 wd) := HBC.out.trans (hbd.mono HBC.out.size)
 obtain ⟨B1, d1, rfl, hr1⟩ := own_shape hv
 have HR1 := hid hr1
 clear hv hr1
 clear HO3
 clear hbd CQ HBC
 go_wp2_with fail
 refine KT.keep (inBW HBD.out) ?_
 obtain ⟨wc, hwc⟩ : ∃ W, W = wd := ⟨_, rfl⟩
 subst hwc
 have HBC := HBD
 clear HBD
 refine wpOrdT_op rfl ?_
 have CQ := hid (CRR.out wc _ c1 (HO2.out.below HBC.out))
 go_wp2_with fail
 refine (CQ.out).mono ?_
 rintro en wd ⟨v, rfl, hv, hbd⟩
 have HBD : Hid (Below w2.heap.size w2 wd) := HBC.out.trans (hbd.mono HBC.out.size)
 have HR1x := hid (HR1.out.below hbd)
 clear HR1
 have HR1 := HR1x
 clear HR1x
 obtain ⟨B2, d2, rfl, hr2⟩ := own_shape hv
 have HR2 := hid hr2
 clear hv hr2
 clear hbd CQ HBC
 go_wp2_with fail
 refine KT.keep (inBW HBD.out) ?_
 obtain ⟨wc, hwc⟩ : ∃ W, W = wd := ⟨_, rfl⟩
 subst hwc
 have HBC := HBD
 clear HBD
 refine wpOrdT_op rfl ?_
 have CQ := hid (fun c d => CE.out RE wc _ _ c d HLN.out.2 HR1.out HR2.out)
 go_wp2_with fail
 refine (CQ.out _ _).mono ?_
 rintro en wd ⟨rfl, hbd⟩
 have HBD : Hid (Below w2.heap.size w2 wd) := HBC.out.trans (hbd.mono HBC.out.size)
 clear HR1 HR2
 clear hbd CQ HBC
 go_wp2_with fail
 refine KT.keep (inBW HBD.out) ?_
 obtain ⟨wc, hwc⟩ : ∃ W, W = wd := ⟨_, rfl⟩
 subst hwc
 have HBC := HBD
 clear HBD
 iterate 4 ((first | refine wpOrdT_val rfl rfl ?_ | refine wpOrdT_load rfl rfl (inBW HBC.out) ?_); go_big_quiet_step (fail); refine wpQuiet_nil ?_)
 refine wpOrdT_op rfl ?_
 have CQ := hid (CFW.out wc _ c1 (HO2.out.below HBC.out))
 go_wp2_with fail
 refine (CQ.out).mono ?_
 rintro en wd ⟨A3, c3, rfl, ho3, hbd⟩
 have HBD : Hid (Below w2.heap.size w2 wd) := HBC.out.trans (hbd.mono HBC.out.size)
 have HO3 := hid ho3
 clear ho3
 clear hbd CQ HBC
 go_wp2_with fail
 refine KT.keep (inBW HBD.out) ?_
 obtain ⟨wc, hwc⟩ : ∃ W, W = wd := ⟨_, rfl⟩
 subst hwc
 have HBC := HBD
 clear HBD
 refine wpOrdT_op rfl ?_
 have CQ := hid (CL.out wc _ c3 HO3.out)
 go_wp2_with fail
 refine (CQ.out).mono ?_
 rintro en wd ⟨rfl, hbd⟩
 have HBD : Hid (Below w2.heap.size w2 wd) := HBC.out.trans (hbd.mono HBC.out.size)
 clear HO3
 clear hbd CQ HBC
 go_wp2_with fail
 refine KT.keep (inBW HBD.out) ?_
 obtain ⟨wc, hwc⟩ : ∃ W, W = wd := ⟨_, rfl⟩
 subst hwc
 have HBC := HBD
 clear HBD
 refine wpOrdT_op rfl ?_
 have CQ := hid (CRL.out wc _ c1 (HO2.out.below HBC.out))
 go_wp2_with fail
 refine (CQ.out).mono ?_
 rintro en wd ⟨rfl, hbd⟩
 have HBD : Hid (Below w2.heap.size w2 wd) := HBC.out.trans (hbd.mono HBC.out.size)
 clear hbd CQ HBC
 go_wp2_with fail
 refine KT.keep (inBW HBD.out) ?_
 obtain ⟨wc, hwc⟩ : ∃ W, W = wd := ⟨_, rfl⟩
 subst hwc
 have HBC := HBD
 clear HBD
 have hlo : (LO == LO) = true := by simp
 iterate 3 ((first | refine wpOrdT_val rfl rfl ?_ | refine wpOrdT_load rfl rfl (inBW HBC.out) ?_); go_big_quiet_step (fail); refine wpQuiet_nil ?_)
 refine wpOrdT_op rfl ?_
 have CQ := hid (CV.out wc)
 go_wp2_with fail
 refine (CQ.out).mono ?_
 rintro en wd ⟨rfl, hbd⟩
 have HBD : Hid (Below w2.heap.size w2 wd) := HBC.out.trans (hbd.mono HBC.out.size)
 clear hbd CQ HBC
 go_wp2_with fail
 refine KT.keep (inBW HBD.out) ?_
 obtain ⟨wc, hwc⟩ : ∃ W, W = wd := ⟨_, rfl⟩
 subst hwc
 have HBC := HBD
 clear HBD
 iterate 2 ((first | refine wpOrdT_val rfl rfl ?_ | refine wpOrdT_load rfl rfl (inBW HBC.out) ?_); go_big_quiet_step (fail); refine wpQuiet_nil ?_)
 refine wpOrdT_nil ?_
 have HBE : Hid (Below w.heap.size w wc) := HB2.out.trans (HBC.out.mono HB2.out.size)
 go_wp2_with fail
 try go_ret
 exact ⟨rfl, HBE.out⟩
end Go.Proofs.YtpkkfdmhbbipoaaGreat
