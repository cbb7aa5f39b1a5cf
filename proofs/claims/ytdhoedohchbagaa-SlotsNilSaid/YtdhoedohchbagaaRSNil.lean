/- SlotsNil: for every number the law answers true, and its argument reads as before. No condition. -/
import Derived.Test.YtdhoedohchbagaaLSNil
import Derived.Test.YtdhoedohchbagaaOpen
import Derived.Test.YtdhoedohchbagaaOpen2
namespace Go.Proofs.Ytdhoedohchbagaa
open Go.ChangeShapes Go.WideShapes Go.ChangeAt Go.RowKit Go.WideElems Go.Deep
open Go.ChangeMaps (open_string shut_string)

set_option maxRecDepth 100000 in
theorem slotsNil_lifted (os : Os) (started : os.Started) (H : Type) (enc : TypeId × Value → H) :
    ReturnsInHanded {} Try.checked os 11 .any (Rows.slotsNilSpec.pre6 enc Try.prog Try.f11 [] false) (Rows.slotsNilSpec.post enc Try.prog Try.f11 false true false false) := by
  refine law_lifted 11 Try.f11 Rows.slotsNilSpec os started H enc Try.func11 (by kernel_rfl) (by kernel_rfl) (by kernel_rfl) rfl (fun ds h => ?_)
    (ChangeSpec.witness6 (enc := enc) (C := Try.checked) false ⟨#[], #[.int .i64 0], []⟩ 8 (by kernel_rfl) (by kernel_rfl) (by kernel_rfl) (by kernel_rfl)) ?_
  · have hn : ds.length = 1 := h
    match ds, hn with
    | [d0], _ => rfl
  · intro W args ds p base hval hA _ _
    rw [show Try.f11.params.toList = [3] from by rw [Try.params11]] at hval hA
    obtain ⟨v0, _, d0, _, p0, _, rfl, rfl, rfl, h0, hA⟩ := all_cons hA
    obtain rfl := all_nil hA
    obtain ⟨x0, rfl, rfl, rfl, hw0⟩ := open_int Try.underlying3 (hval 0 _ v0 rfl rfl) h0
    exact slotsNil_any x0 W hw0

theorem slotsNil_holds : Rows.SlotsNilSaid :=
  OpenClaim.holds_of_wide 11 Try.f11 rfl rfl rfl rfl rfl rfl rfl ⟨rfl, rfl, rfl, rfl, rfl⟩ rfl rfl rfl rfl rfl (by kernel_rfl) Try.func11 (by kernel_rfl)
    (of_decide_eq_true (by kernel_rfl)) (by unfold Func.isWrapper; first | (rw [if_pos (by decide +kernel)]; kernel_rfl) | (rw [if_neg (by decide +kernel)]; exact ⟨rfl, rfl⟩))
    (fun os started H enc _ => slotsNil_lifted os started H enc)
#print axioms slotsNil_holds
end Go.Proofs.Ytdhoedohchbagaa
