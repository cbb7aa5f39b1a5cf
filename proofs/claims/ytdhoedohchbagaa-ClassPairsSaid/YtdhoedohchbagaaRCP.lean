/- ClassPairs: for any two sets and every byte the law answers true. No condition. -/
import Derived.Test.YtdhoedohchbagaaLCP
import Derived.Test.YtdhoedohchbagaaOpen
import Derived.Test.YtdhoedohchbagaaOpen2
import Derived.Test.YtdhoedohchbagaaOpen3
namespace Go.Proofs.Ytdhoedohchbagaa
open Go.ChangeShapes Go.WideShapes Go.ChangeAt Go.RowKit Go.WideElems Go.Deep
open Go.ChangeMaps (open_string shut_string)

set_option maxRecDepth 100000 in
theorem classPairs_lifted (os : Os) (started : os.Started) (H : Type) (enc : TypeId × Value → H) :
    ReturnsInHanded {} Try.checked os 8 .any (Rows.classPairsSpec.pre6 enc Try.prog Try.f8 [] false) (Rows.classPairsSpec.post enc Try.prog Try.f8 false true false false) := by
  refine law_lifted 8 Try.f8 Rows.classPairsSpec os started H enc Try.func8 (by kernel_rfl) (by kernel_rfl) (by kernel_rfl) rfl (fun ds h => ?_)
    (ChangeSpec.witness6 (enc := enc) (C := Try.checked) false ⟨#[], #[.agg #[.int .u64 0, .int .u64 0, .int .u64 0, .int .u64 0], .agg #[.int .u64 0, .int .u64 0, .int .u64 0, .int .u64 0], .int .u8 0], []⟩ 8 (by kernel_rfl) (by kernel_rfl) (by kernel_rfl) (by kernel_rfl)) ?_
  · have hn : ds.length = 3 := h
    match ds, hn with
    | [d0, d1, d2], _ => rfl
  · intro W args ds p base hval hA _ _
    rw [show Try.f8.params.toList = [51, 51, 5] from by rw [Try.params8]] at hval hA
    obtain ⟨v0, _, d0, _, p0, _, rfl, rfl, rfl, h0, hA⟩ := all_cons hA
    obtain ⟨v1, _, d1, _, p1, _, rfl, rfl, rfl, h1, hA⟩ := all_cons hA
    obtain ⟨v2, _, d2, _, p2, _, rfl, rfl, rfl, h2, hA⟩ := all_cons hA
    obtain rfl := all_nil hA
    obtain ⟨s0, rfl⟩ := open_setArg (hval 0 _ v0 rfl rfl) h0
    obtain ⟨s1, rfl⟩ := open_setArg (hval 1 _ v1 rfl rfl) h1
    obtain ⟨x2, rfl, rfl, rfl, hw2⟩ := open_int Try.underlying5 (hval 2 _ v2 rfl rfl) h2
    exact classPairs_any s0 s1 x2 W hw2

theorem classPairs_holds : Rows.ClassPairsSaid :=
  OpenClaim.holds_of_wide 8 Try.f8 rfl rfl rfl rfl rfl rfl rfl ⟨rfl, rfl, rfl, rfl, rfl⟩ rfl rfl rfl rfl rfl (by kernel_rfl) Try.func8 (by kernel_rfl)
    (of_decide_eq_true (by kernel_rfl)) (by unfold Func.isWrapper; first | (rw [if_pos (by decide +kernel)]; kernel_rfl) | (rw [if_neg (by decide +kernel)]; exact ⟨rfl, rfl⟩))
    (fun os started H enc _ => classPairs_lifted os started H enc)
#print axioms classPairs_holds
end Go.Proofs.Ytdhoedohchbagaa
