/- ArmsNil: for every byte and every text the law answers true. No condition. -/
import Derived.Test.YtgiffdgicmdmgaaMl
import Derived.Test.YtgiffdgicmdmgaaMi
namespace Go.Proofs.Ytgiffdgicmdmgaa
open Go.ChangeShapes Go.WideShapes Go.ChangeAt Go.RowKit Go.WideElems Go.Deep
open Go.ChangeMaps (open_string shut_string)

set_option maxRecDepth 100000 in
theorem armsNil_lifted (os : Os) (started : os.Started) (H : Type) (enc : TypeId × Value → H) :
    ReturnsInHanded {} Try.checked os 9 .any (Rows.armsNilSpec.pre6 enc Try.prog Try.f9 [] false) (Rows.armsNilSpec.post enc Try.prog Try.f9 false true false false) := by
  refine law_lifted 9 Try.f9 Rows.armsNilSpec os started H enc Try.func9 (by kernel_rfl) (by kernel_rfl) (by kernel_rfl) rfl (fun ds h => ?_)
    (ChangeSpec.witness6 (enc := enc) (C := Try.checked) false ⟨#[], #[.int .u8 0, .string ⟨#[]⟩], []⟩ 8 (by kernel_rfl) (by kernel_rfl) (by kernel_rfl) (by kernel_rfl)) ?_
  · have hn : ds.length = 2 := h
    match ds, hn with
    | [d0, d1], _ => rfl
  · intro W args ds p base hval hA _ _
    rw [show Try.f9.params.toList = [5, 9] from by rw [Try.params9]] at hval hA
    obtain ⟨v0, _, d0, _, p0, _, rfl, rfl, rfl, h0, hA⟩ := all_cons hA
    obtain ⟨v1, _, d1, _, p1, _, rfl, rfl, rfl, h1, hA⟩ := all_cons hA
    obtain rfl := all_nil hA
    obtain ⟨x0, rfl, rfl, rfl, hw0⟩ := open_int Try.underlying5 (hval 0 _ v0 rfl rfl) h0
    obtain ⟨s1, rfl, _, _, hs1⟩ := open_string Try.underlying9 (hval 1 _ v1 rfl rfl) h1
    exact armsNil_any x0 s1 W hw0 hs1

theorem armsNil_holds : Rows.ArmsNilSaid :=
  OpenClaim.holds_of_wide 9 Try.f9 rfl rfl rfl rfl rfl rfl rfl ⟨rfl, rfl, rfl, rfl, rfl⟩ rfl rfl rfl rfl rfl (by kernel_rfl) Try.func9 (by kernel_rfl)
    (of_decide_eq_true (by kernel_rfl)) (by unfold Func.isWrapper; first | (rw [if_pos (by decide +kernel)]; kernel_rfl) | (rw [if_neg (by decide +kernel)]; exact ⟨rfl, rfl⟩))
    (fun os started H enc _ => armsNil_lifted os started H enc)
#print axioms armsNil_holds
end Go.Proofs.Ytgiffdgicmdmgaa
