/- HeapNil: for every number and tick the law answers true, and its arguments read as before. No condition. -/
import Derived.Test.YtdhoedohchbagaaLHNil
import Derived.Test.YtdhoedohchbagaaOpen
import Derived.Test.YtdhoedohchbagaaOpen2
namespace Go.Proofs.Ytdhoedohchbagaa
open Go.ChangeShapes Go.WideShapes Go.ChangeAt Go.RowKit Go.WideElems Go.Deep
open Go.ChangeMaps (open_string shut_string)

set_option maxRecDepth 100000 in
theorem heapNil_lifted (os : Os) (started : os.Started) (H : Type) (enc : TypeId × Value → H) :
    ReturnsInHanded {} Try.checked os 13 .any (Rows.heapNilSpec.pre6 enc Try.prog Try.f13 [] false) (Rows.heapNilSpec.post enc Try.prog Try.f13 false true false false) := by
  refine law_lifted 13 Try.f13 Rows.heapNilSpec os started H enc Try.func13 (by kernel_rfl) (by kernel_rfl) (by kernel_rfl) rfl (fun ds h => ?_)
    (ChangeSpec.witness6 (enc := enc) (C := Try.checked) false ⟨#[], #[.int .i64 0, .int .i64 0], []⟩ 8 (by kernel_rfl) (by kernel_rfl) (by kernel_rfl) (by kernel_rfl)) ?_
  · have hn : ds.length = 2 := h
    match ds, hn with
    | [d0, d1], _ => rfl
  · intro W args ds p base hval hA _ _
    rw [show Try.f13.params.toList = [3, 2] from by rw [Try.params13]] at hval hA
    obtain ⟨v0, _, d0, _, p0, _, rfl, rfl, rfl, h0, hA⟩ := all_cons hA
    obtain ⟨v1, _, d1, _, p1, _, rfl, rfl, rfl, h1, hA⟩ := all_cons hA
    obtain rfl := all_nil hA
    obtain ⟨x0, rfl, rfl, rfl, hw0⟩ := open_int Try.underlying3 (hval 0 _ v0 rfl rfl) h0
    obtain ⟨x1, rfl, rfl, rfl, hw1⟩ := open_int Try.underlying2 (hval 1 _ v1 rfl rfl) h1
    exact heapNil_any x0 x1 W hw0 hw1

theorem heapNil_holds : Rows.HeapNilSaid :=
  OpenClaim.holds_of_wide 13 Try.f13 rfl rfl rfl rfl rfl rfl rfl ⟨rfl, rfl, rfl, rfl, rfl⟩ rfl rfl rfl rfl rfl (by kernel_rfl) Try.func13 (by kernel_rfl)
    (of_decide_eq_true (by kernel_rfl)) (by unfold Func.isWrapper; first | (rw [if_pos (by decide +kernel)]; kernel_rfl) | (rw [if_neg (by decide +kernel)]; exact ⟨rfl, rfl⟩))
    (fun os started H enc _ => heapNil_lifted os started H enc)
#print axioms heapNil_holds
end Go.Proofs.Ytdhoedohchbagaa
