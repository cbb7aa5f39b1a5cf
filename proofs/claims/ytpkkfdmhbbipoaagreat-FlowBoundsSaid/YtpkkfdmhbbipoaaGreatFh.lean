/- Zp: law 24's one, lives. FlowReaches: where any script may go, and whether it may come back: what the law computes. FlowCounts: how many steps any script has: what the law computes. -/
import Derived.Test.YtpkkfdmhbbipoaaGreatFg
import Derived.Test.YtpkkfdmhbbipoaaGreatDl
namespace Go.Proofs.YtpkkfdmhbbipoaaGreat
set_option maxRecDepth 20000
set_option maxHeartbeats 4000000
open Go.RowKit PopT
def Zba : Zv := ⟨⟨#[97]⟩, 9, 0, [⟨3, ⟨#[]⟩, 0, 2, [], 0, 0⟩, ⟨5, ⟨#[]⟩, 0, 0, [], 0, 0⟩, ⟨1, ⟨#[97, 98, 99, 100]⟩, 0, 0, [], 0, 0⟩]⟩
def Zp8 : Vk := ⟨4, 8, 16, 3, 5, 1⟩
theorem Zkj : Wz Zba = [0, 2, 3] := by kernel_rfl
theorem Zkk : Zax Zba = false := by kernel_rfl
theorem Zki : Wo Zp8 Zba = 6 := by kernel_rfl
theorem Zna : Kp Zp8 Zba = 12 := by kernel_rfl
def Nb : List (OpV × Value) := Zba.ops.map fun o => (o, .slice none 0 0)
theorem Zdj {W : World} {A : Option Addr} (h : Rd W A (Zx Nb)) : Vg Zba A W :=
 ⟨⟨Nb, by simp [Nb, Function.comp_def], h, fun x hx => by
  obtain ⟨o, ho, rfl⟩ := List.mem_map.1 hx;simp only [Zba, List.mem_cons, List.not_mem_nil, or_false] at ho;rcases ho with rfl | rfl | rfl <;> exact ⟨none, 0, rfl, .inl rfl⟩⟩, by simp [Zba], by simp [Zba, ByteArray.size], fun o ho => by
  simp only [Zba, List.mem_cons, List.not_mem_nil, or_false] at ho;rcases ho with rfl | rfl | rfl <;> simp⟩
theorem Zil (w : World) : Calls Tryz.prog 31 #[] w fun e w' => e = .returned (.bool true) ∧ Below w.heap.size w w' := by
 have CR : Hid (∀ W A, Rd W A (Zx Nb) → Calls Tryz.prog 35 #[.agg #[.string ⟨#[97]⟩, .int .i64 9, .int .i64 0, .slice A 3 3]] W fun e w' => ∃ v, e = .returned v ∧ IO W.heap.size w' v [0, 2, 3] ∧ Below W.heap.size W w') := fun W A h => by
  rw [← Zkj]; exact Zkx (p := Zba) (c := 3) (Zdj h)
 have CL : Hid (∀ W A, Rd W A (Zx Nb) → Calls Tryz.prog 37 #[.agg #[.string ⟨#[97]⟩, .int .i64 9, .int .i64 0, .slice A 3 3]] W fun e w' => e = .returned (.bool false) ∧ Below W.heap.size W w') := fun W A h => by
  rw [← Zkk]; exact Zky (p := Zba) (c := 3) (Zdj h)
 have CS : Hid (∀ W A, Rd W A (Zx Nb) → Calls Tryz.prog 28 #[.agg #[.int .i64 4, .int .i64 8, .int .i64 16, .int .i64 3, .int .i64 5, .int .i64 1], .agg #[.string ⟨#[97]⟩, .int .i64 9, .int .i64 0, .slice A 3 3]] W fun e w' => e = .returned (.int .i64 6) ∧ Below W.heap.size W w') := fun W A h => by
  rw [← Zki]; exact Zkw (p := Zba) (c := 3) Zp8 (Zdj h)
 have CM : Hid (∀ W A, Rd W A (Zx Nb) → Calls Tryz.prog 29 #[.agg #[.int .i64 4, .int .i64 8, .int .i64 16, .int .i64 3, .int .i64 5, .int .i64 1], .agg #[.string ⟨#[97]⟩, .int .i64 9, .int .i64 0, .slice A 3 3]] W fun e w' => e = .returned (.int .i64 12) ∧ Below W.heap.size W w') := fun W A h => by
  rw [← Zna]; exact Zfw (p := Zba) (c := 3) Zp8 (Zdj h)
 have CE : Hid (∀ W A B c d, Rd W A (Zg [0, 2, 3]) → Rd W B (Zg [0, 2, 3]) → Calls Tryz.prog 32 #[.slice A 3 c, .slice B 3 d] W fun e w' => e = .returned (.bool true) ∧ Below W.heap.size W w') := fun W A B c d h1 h2 => Znd (a := [0, 2, 3]) (b := [0, 2, 3]) W h1 h2 ae;have CU := hid (fun W => Zh3 W);go_enter Tryz.func31, Tryz.ntmps31;go_upto_region 2 with fail;obtain ⟨w0, hw0⟩ := nE ((w.alloc (.cells #[.int .i64 3, .string ⟨#[]⟩, .int .i64 0, .int .i64 2, .slice none 0 0, .int .i64 0, .int .i64 0, .int .i64 5, .string ⟨#[]⟩, .int .i64 0, .int .i64 0, .slice none 0 0, .int .i64 0, .int .i64 0, .int .i64 1, .string ⟨#[97, 98, 99, 100]⟩, .int .i64 0, .int .i64 0, .slice none 0 0, .int .i64 0, .int .i64 0] 56)).alloc (.cells #[.string ⟨#[97]⟩, .int .i64 9, .int .i64 0, .slice (some ⟨w.heap.size, 0, none⟩) 3 3] 26));have HB : Hid (Below w.heap.size w w0) := hw0 ▸ Va _ _ _;have HP : Hid (Blk w0 (w.heap.size + 1) 26 #[.string ⟨#[97]⟩, .int .i64 9, .int .i64 0, .slice (some ⟨w.heap.size, 0, none⟩) 3 3]) := hw0 ▸ Nk _ _ _ _
 have HO : Hid (w0.ownsRow w.heap.size 56 7 (.slice (some ⟨w.heap.size, 0, none⟩) 3 3) 3 (Zx Nb)) := by
  have h : (w.alloc (.cells (Zx Nb).toArray 56)).ownsRow w.heap.size 56 7 (.slice (some ⟨w.heap.size, 0, none⟩) 3 3) 3 (Zx Nb) :=
   ⟨rfl, .inr ⟨w.heap.size, 3, (Zx Nb).toArray, rfl, Nat.le_refl _, heap_alloc_new w _, aa, bp, rfl, rfl⟩⟩
  rw [Hid, ← hw0]; exact h.alloc _
 have HR : Hid (Rd w0 (some ⟨w.heap.size, 0, none⟩) (Zx Nb)) := Xb HO.out;rw [hw0];obtain ⟨ga, hga⟩ := nE (w.heap.size);have HGA := hid hga;rw [hga] at HP HR ⊢;obtain ⟨gp, hgp⟩ := nE (ga + 1);rw [hgp] at HP ⊢;clear hw0 hga hgp HO;have hpl := HP.lt;have T0 : ∀ q : BW w0.heap.size w0, q.1.cell? ⟨gp, 0, none⟩ = some (.string ⟨#[97]⟩) := fun q => q.cellAt hpl (HP.cell 0);have T1 : ∀ q : BW w0.heap.size w0, q.1.cell? ⟨gp, 1, none⟩ = some (.int .i64 9) := fun q => q.cellAt hpl (HP.cell 1);have T2 : ∀ q : BW w0.heap.size w0, q.1.cell? ⟨gp, 2, none⟩ = some (.int .i64 0) := fun q => q.cellAt hpl (HP.cell 2);have T3 : ∀ q : BW w0.heap.size w0, q.1.cell? ⟨gp, 3, none⟩ = some (.slice (some ⟨ga, 0, none⟩) 3 3) := fun q => q.cellAt hpl (HP.cell 3);refine Zy w0.heap.size [] (.val 0 (.two 1 (.op 2 (.op 3 (.val 4 (.val 5 (.op 6 (.val 7 (.val 8 (.val 9 (.val 11 (.op 10 (.op 12 (.val 13 (.val 14 (.val 15 (.val 17 (.op 16 (.op 18 (.val 19 (.val 20 (.val 21 (.nil))))))))))))))))))))) 2 (.op 1 (.op 3 (.val 4 (.val 5 (.op 6 (.val 7 (.val 8 (.val 9 (.val 11 (.op 10 (.op 12 (.val 13 (.val 14 (.val 15 (.val 17 (.op 16 (.op 18 (.val 19 (.val 20 (.val 21 (.nil))))))))))))))))))))))) ab ab ?_;obtain ⟨wc, hwc, HBC⟩ := dw w0;rw [hwc];clear hwc
 iterate 1 ((first | refine Zf rfl rfl ?_ | refine Yf rfl rfl (Yy HBC.out) ?_); go_big_quiet_step (fail); refine wpQuiet_nil ?_)
 refine Wv rfl rfl ?_ ?_
 focus
  have CQ := hid (CR.out wc _ (HR.below HBC.out));go_wp2_with fail;refine CQ.mono ?_;rintro en wd ⟨v, rfl, hv, hbd⟩;obtain ⟨A1, c1, rfl, hr1⟩ := Wk hv;have HBD : Hid (Below w0.heap.size w0 wd) := HBC.trans (hbd.mono HBC.size);have HR1 := hid hr1;clear hv hbd hr1 CQ HBC;go_wp2_with fail;refine KT.keep (Yy HBD.out) ?_;obtain ⟨wc, hwc⟩ := mE wd;subst hwc;have HBC := HBD;clear HBD;refine Zc rfl ?_;go_wp2_with fail;obtain ⟨wd, hwd⟩ := nE (wc.alloc (.cells #[.int .i64 0, .int .i64 2, .int .i64 3] 3));have HBS := ba hwd;have HI2 : Hid (IO 0 (wc.alloc (.cells #[.int .i64 0, .int .i64 2, .int .i64 3] 3)) (.slice (some ⟨wc.heap.size, 0, none⟩) 3 3) [0, 2, 3]) := Uq 0 wc [0, 2, 3] aa ae;rw [hwd] at HI2 ⊢;obtain ⟨g2, hg2⟩ := nE (wc.heap.size);rw [hg2] at HI2 ⊢;have HR2 : Hid (Rd wd (some ⟨g2, 0, none⟩) (Zg [0, 2, 3])) := Xb HI2.out;have HBD : Hid (Below w0.heap.size w0 wd) := HBC.trans (HBS.mono HBC.size);have HR1x := hid (HR1.below HBS.out);clear HR1;have HR1 := HR1x;clear HR1x;clear hwd hg2 HI2 HBS HBC;refine KT.keep (Yy HBD.out) ?_;obtain ⟨wc, hwc⟩ := mE wd;subst hwc;have HBC := HBD;clear HBD
 rotate_left
 focus
  go_wp2_with fail;obtain ⟨wd, hwd⟩ := nE (wc.alloc (.cells #[.int .i64 0, .int .i64 2, .int .i64 3] 3));have HBS := ba hwd;have HI2 : Hid (IO 0 (wc.alloc (.cells #[.int .i64 0, .int .i64 2, .int .i64 3] 3)) (.slice (some ⟨wc.heap.size, 0, none⟩) 3 3) [0, 2, 3]) := Uq 0 wc [0, 2, 3] aa ae;rw [hwd] at HI2 ⊢;obtain ⟨g2, hg2⟩ := nE (wc.heap.size);rw [hg2] at HI2 ⊢;have HR2 : Hid (Rd wd (some ⟨g2, 0, none⟩) (Zg [0, 2, 3])) := Xb HI2.out;have HBD : Hid (Below w0.heap.size w0 wd) := HBC.trans (HBS.mono HBC.size);clear hwd hg2 HI2 HBS HBC;refine KT.keep (Yy HBD.out) ?_;obtain ⟨wc, hwc⟩ := mE wd;subst hwc;have HBC := HBD;clear HBD;refine Zc rfl ?_;have CQ := hid (CR.out wc _ (HR.below HBC.out));go_wp2_with fail;refine CQ.mono ?_;rintro en wd ⟨v, rfl, hv, hbd⟩;obtain ⟨A1, c1, rfl, hr1⟩ := Wk hv;have HBD : Hid (Below w0.heap.size w0 wd) := HBC.trans (hbd.mono HBC.size);have HR1 := hid hr1;have HR2x := hid (HR2.below hbd);clear HR2;have HR2 := HR2x;clear HR2x;clear hv hbd hr1 CQ HBC;go_wp2_with fail;refine KT.keep (Yy HBD.out) ?_;obtain ⟨wc, hwc⟩ := mE wd;subst hwc;have HBC := HBD;clear HBD
 all_goals
  refine Zc rfl ?_;have CQ := hid (fun c d => CE.out wc _ _ c d HR1.out HR2.out);go_wp2_with fail;refine (CQ.out _ _).mono ?_;rintro en wd ⟨rfl, hbd⟩;have HBD : Hid (Below w0.heap.size w0 wd) := HBC.trans (hbd.mono HBC.size);clear hbd CQ HBC;go_wp2_with fail;refine KT.keep (Yy HBD.out) ?_;obtain ⟨wc, hwc⟩ := mE wd;subst hwc;have HBC := HBD;clear HBD;clear HR1 HR2
  iterate 2 ((first | refine Zf rfl rfl ?_ | refine Yf rfl rfl (Yy HBC.out) ?_); go_big_quiet_step (fail); refine wpQuiet_nil ?_)
  refine Zc rfl ?_;have CQ := hid (CL.out wc _ (HR.below HBC.out));go_wp2_with fail;refine (CQ.out).mono ?_;rintro en wd ⟨rfl, hbd⟩;have HBD : Hid (Below w0.heap.size w0 wd) := HBC.trans (hbd.mono HBC.size);clear hbd CQ HBC;go_wp2_with fail;refine KT.keep (Yy HBD.out) ?_;obtain ⟨wc, hwc⟩ := mE wd;subst hwc;have HBC := HBD;clear HBD
  iterate 4 ((first | refine Zf rfl rfl ?_ | refine Yf rfl rfl (Yy HBC.out) ?_); go_big_quiet_step (fail); refine wpQuiet_nil ?_)
  refine Zc rfl ?_;have CQ := hid (CU.out wc);go_wp2_with fail;refine (CQ.out).mono ?_;rintro en wd ⟨rfl, hbd⟩;have HBD : Hid (Below w0.heap.size w0 wd) := HBC.trans (hbd.mono HBC.size);clear hbd CQ HBC;go_wp2_with fail;refine KT.keep (Yy HBD.out) ?_;obtain ⟨wc, hwc⟩ := mE wd;subst hwc;have HBC := HBD;clear HBD;refine Zc rfl ?_;have CQ := hid (CS.out wc _ (HR.below HBC.out));go_wp2_with fail;refine (CQ.out).mono ?_;rintro en wd ⟨rfl, hbd⟩;have HBD : Hid (Below w0.heap.size w0 wd) := HBC.trans (hbd.mono HBC.size);clear hbd CQ HBC;go_wp2_with fail;refine KT.keep (Yy HBD.out) ?_;obtain ⟨wc, hwc⟩ := mE wd;subst hwc;have HBC := HBD;clear HBD
  iterate 4 ((first | refine Zf rfl rfl ?_ | refine Yf rfl rfl (Yy HBC.out) ?_); go_big_quiet_step (fail); refine wpQuiet_nil ?_)
  refine Zc rfl ?_;have CQ := hid (CU.out wc);go_wp2_with fail;refine (CQ.out).mono ?_;rintro en wd ⟨rfl, hbd⟩;have HBD : Hid (Below w0.heap.size w0 wd) := HBC.trans (hbd.mono HBC.size);clear hbd CQ HBC;go_wp2_with fail;refine KT.keep (Yy HBD.out) ?_;obtain ⟨wc, hwc⟩ := mE wd;subst hwc;have HBC := HBD;clear HBD;refine Zc rfl ?_;have CQ := hid (CM.out wc _ (HR.below HBC.out));go_wp2_with fail;refine (CQ.out).mono ?_;rintro en wd ⟨rfl, hbd⟩;have HBD : Hid (Below w0.heap.size w0 wd) := HBC.trans (hbd.mono HBC.size);clear hbd CQ HBC;go_wp2_with fail;refine KT.keep (Yy HBD.out) ?_;obtain ⟨wc, hwc⟩ := mE wd;subst hwc;have HBC := HBD;clear HBD
  iterate 3 ((first | refine Zf rfl rfl ?_ | refine Yf rfl rfl (Yy HBC.out) ?_); go_big_quiet_step (fail); refine wpQuiet_nil ?_)
  refine Zw ?_;have HBE := bt HB HBC;go_wp2_with fail
  try go_ret
  exact ⟨rfl, HBE.out⟩
theorem Zjw (p : Zv) : (Wz p).length ≤ 1000 := by
 unfold Wz;split
 ·rename_i hg
  have hr : InR p.ops.length [0] := ⟨dz, fun x hx => ay⟩;have hi : InR p.ops.length (Jz p [0]) := ⟨(Gq (Yr.1 hg) _ hr.asc hr.rng).1, (Zby (Ze8 (Yr.1 hg)) _ _ hr.asc hr.rng).2.1⟩;have hl := hi.len;have hn := (Wc (Yr.1 hg)).2.1;omega
 ·simp
theorem Zql (s : Vk) (p : Zv) (h : Wo s p ≠ 0) : 0 < Wo s p ∧ Kp s p = 2 * Wo s p * (p.jumps + 1) ∧ 0 ≤ p.jumps ∧ p.jumps ≤ 1000 ∧ Wo s p ≤ 60000 := by
 have h1 := Zhi s p;have h2 := h1.2.2 h;refine ⟨aa, ?_, h2.1, h2.2, h1.2.1⟩;unfold Kp; rw [if_neg h]
end Go.Proofs.YtpkkfdmhbbipoaaGreat
