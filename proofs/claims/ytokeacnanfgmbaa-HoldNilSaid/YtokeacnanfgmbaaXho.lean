/- HoldNil: for every pattern and text the law answers true. No condition. -/
import Derived.Test.YtokeacnanfgmbaaPj
import Derived.Test.YtokeacnanfgmbaaMi
namespace Go.Proofs.Ytokeacnanfgmbaa
open Go.RowKit PopT

set_option maxRecDepth 20000 in
set_option maxHeartbeats 4000000 in
theorem holdNil_any (p s : ByteArray) (w : World) (_hp : p.size ≤ 9223372036854775807) (hs : s.size ≤ 9223372036854775807) : Calls Try.prog 10 #[.string p, .string s] w fun e w' => e = .returned (.bool true) ∧ Below w.heap.size w w' := by
  have C1 := hid (rgNew_any 9 w (by omega) (by omega))
  rw [show clampN 9 4096 = 9 from rfl] at C1
  have CB := hid (fun v W => hoBeginN_any v W)
  have CLk := hid (fun v W => hoLookN_any v W)
  have CT := hid (fun W => hoTextN_any W)
  have CF := hid (fun W => hoFreshN_any W)
  have CN := hid (fun W => hoLenN_any W)
  have CC := hid (fun W => hoCopyN_any W)
  have CNew := hid (fun W => hoNew_any 3 W (by omega) (by omega))
  have CV := hid (fun W => lives19_any W)
  go_enter Try.func10, Try.ntmps10
  go_wp2_with fail
  refine C1.out.mono ?_
  rintro en wa ⟨g, gb, rfl, hr, hg1, hg2, hba⟩
  have C2 := hid (rgPut_any wa g gb 9 [] s hr hs)
  have HBA := hid hba
  clear C1 hr hba
  go_wp2_with fail
  refine C2.out.mono ?_
  rintro en wb ⟨rfl, hr, hk⟩
  have HBB : Hid (Below w.heap.size w wb) := HBA.out.trans (hk.below HBA.out.size (fun k hk => by rcases hk with e | e <;> omega))
  clear C2 hr hk HBA
  go_wp2_with fail
  refine (CB.out _ _).mono ?_
  rintro en wc ⟨rfl, rfl⟩
  have HBC : Hid (Below w.heap.size w (wb.alloc (.cells #[.string p] 9))) := HBB.out.alloc HBB.out.size _
  go_wp2_with fail
  refine (CLk.out _ _).mono ?_
  rintro en wd ⟨rfl, hd⟩
  have HBD := hid (HBC.out.trans (hd.mono HBC.out.size))
  clear hd HBC HBB
  simp only [foundV]
  go_wp2_with fail
  refine (CT.out _).mono ?_
  rintro en we ⟨rfl, rfl⟩
  go_wp2_with fail
  refine (CF.out _).mono ?_
  rintro en we ⟨rfl, rfl⟩
  go_wp2_with fail
  refine (CN.out _).mono ?_
  rintro en we ⟨rfl, rfl⟩
  go_wp2_with fail
  refine (CC.out _).mono ?_
  rintro en we ⟨rfl, rfl⟩
  go_wp2_with fail
  refine (CNew.out _).mono ?_
  rintro en wf ⟨rfl, hh, hf⟩
  have CL2 := hid (hoLookR_any _ _ _ _ _ _ wf hh)
  have HBF := hid (HBD.out.trans (hf.mono HBD.out.size))
  clear hh hf HBD
  go_wp2_with fail
  refine CL2.out.mono ?_
  rintro en wg ⟨rfl, hg⟩
  have HBG := hid (HBF.out.trans (hg.mono HBF.out.size))
  clear hg HBF CL2
  simp only [foundV]
  go_wp2_with fail
  refine (CV.out _).mono ?_
  rintro en wh ⟨rfl, hh⟩
  have HBH := hid (HBG.out.trans (hh.mono HBG.out.size))
  clear hh HBG
  go_wp2_with fail
  go_ret
  exact ⟨rfl, HBH.out⟩
end Go.Proofs.Ytokeacnanfgmbaa
namespace Go.Proofs.Ytokeacnanfgmbaa
open Go.ChangeShapes Go.WideShapes Go.ChangeAt Go.RowKit Go.WideElems Go.Deep
open Go.ChangeMaps (open_string shut_string)

set_option maxRecDepth 100000 in
theorem holdNil_lifted (os : Os) (started : os.Started) (H : Type) (enc : TypeId × Value → H) :
    ReturnsInHanded {} Try.checked os 10 .any (Rows.holdNilSpec.pre6 enc Try.prog Try.f10 [] false) (Rows.holdNilSpec.post enc Try.prog Try.f10 false true false false) := by
  refine law_lifted 10 Try.f10 Rows.holdNilSpec os started H enc Try.func10 (by kernel_rfl) (by kernel_rfl) (by kernel_rfl) rfl (fun ds h => ?_)
    (ChangeSpec.witness6 (enc := enc) (C := Try.checked) false ⟨#[], #[.string ⟨#[]⟩, .string ⟨#[]⟩], []⟩ 8 (by kernel_rfl) (by kernel_rfl) (by kernel_rfl) (by kernel_rfl)) ?_
  · have hn : ds.length = 2 := h
    match ds, hn with
    | [d0, d1], _ => rfl
  · intro W args ds p base hval hA _ _
    rw [show Try.f10.params.toList = [9, 9] from by rw [Try.params10]] at hval hA
    obtain ⟨v0, _, d0, _, p0, _, rfl, rfl, rfl, h0, hA⟩ := all_cons hA
    obtain ⟨v1, _, d1, _, p1, _, rfl, rfl, rfl, h1, hA⟩ := all_cons hA
    obtain rfl := all_nil hA
    obtain ⟨s0, rfl, _, _, hs0⟩ := open_string Try.underlying9 (hval 0 _ v0 rfl rfl) h0
    obtain ⟨s1, rfl, _, _, hs1⟩ := open_string Try.underlying9 (hval 1 _ v1 rfl rfl) h1
    exact holdNil_any s0 s1 W hs0 hs1

theorem holdNil_holds : Rows.HoldNilSaid :=
  OpenClaim.holds_of_wide 10 Try.f10 rfl rfl rfl rfl rfl rfl rfl ⟨rfl, rfl, rfl, rfl, rfl⟩ rfl rfl rfl rfl rfl (by kernel_rfl) Try.func10 (by kernel_rfl)
    (of_decide_eq_true (by kernel_rfl)) (by unfold Func.isWrapper; first | (rw [if_pos (by decide +kernel)]; kernel_rfl) | (rw [if_neg (by decide +kernel)]; exact ⟨rfl, rfl⟩))
    (fun os started H enc _ => holdNil_lifted os started H enc)
#print axioms holdNil_holds
end Go.Proofs.Ytokeacnanfgmbaa
