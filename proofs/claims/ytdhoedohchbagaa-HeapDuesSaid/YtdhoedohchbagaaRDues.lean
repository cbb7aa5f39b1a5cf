/- HeapDues: for all ticks and every now the law answers true, and its arguments read as before. No condition. -/
import Derived.Test.YtdhoedohchbagaaLDues
import Derived.Test.YtdhoedohchbagaaOpen
import Derived.Test.YtdhoedohchbagaaOpen2
namespace Go.Proofs.Ytdhoedohchbagaa
open Go.ChangeShapes Go.WideShapes Go.ChangeAt Go.RowKit Go.WideElems Go.Deep
open Go.ChangeMaps (open_string shut_string)

set_option maxRecDepth 100000 in
theorem heapDues_lifted (os : Os) (started : os.Started) (H : Type) (enc : TypeId × Value → H) :
    ReturnsInHanded {} Try.checked os 4 .any (Rows.heapDuesSpec.pre6 enc Try.prog Try.f4 [] false) (Rows.heapDuesSpec.post enc Try.prog Try.f4 false true false false) := by
  refine law_lifted 4 Try.f4 Rows.heapDuesSpec os started H enc Try.func4 (by kernel_rfl) (by kernel_rfl) (by kernel_rfl) rfl (fun ds h => ?_)
    (ChangeSpec.witness6 (enc := enc) (C := Try.checked) false ⟨#[], #[.slice none 0 0, .int .i64 0], []⟩ 8 (by kernel_rfl) (by kernel_rfl) (by kernel_rfl) (by kernel_rfl)) ?_
  · have hn : ds.length = 2 := h
    match ds, hn with
    | [d0, d1], _ => rfl
  · intro W args ds p base hval hA _ _
    rw [show Try.f4.params.toList = [29, 2] from by rw [Try.params4]] at hval hA
    obtain ⟨v0, _, d0, _, p0, _, rfl, rfl, rfl, h0, hA⟩ := all_cons hA
    obtain ⟨v1, _, d1, _, p1, _, rfl, rfl, rfl, h1, hA⟩ := all_cons hA
    obtain rfl := all_nil hA
    obtain ⟨A0, n0, c0, l0, rfl, hl0, hn0, hr0⟩ := open_i64s (hval 0 _ v0 rfl rfl) h0
    obtain ⟨x1, rfl, rfl, rfl, hw1⟩ := open_int Try.underlying2 (hval 1 _ v1 rfl rfl) h1
    exact heapDues_any A0 n0 c0 l0 x1 W hl0 hn0 hr0 hw1

theorem heapDues_holds : Rows.HeapDuesSaid :=
  OpenClaim.holds_of_wide 4 Try.f4 rfl rfl rfl rfl rfl rfl rfl ⟨rfl, rfl, rfl, rfl, rfl⟩ rfl rfl rfl rfl rfl (by kernel_rfl) Try.func4 (by kernel_rfl)
    (of_decide_eq_true (by kernel_rfl)) (by unfold Func.isWrapper; first | (rw [if_pos (by decide +kernel)]; kernel_rfl) | (rw [if_neg (by decide +kernel)]; exact ⟨rfl, rfl⟩))
    (fun os started H enc _ => heapDues_lifted os started H enc)
#print axioms heapDues_holds
end Go.Proofs.Ytdhoedohchbagaa
