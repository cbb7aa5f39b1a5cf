/- LangJoins: for every two patterns and every text the law answers true, and its arguments read as before. No condition. -/
import Derived.Test.YtmcacdegikgmnaaLJoins
import Derived.Test.YtmcacdegikgmnaaOpen
namespace Go.Proofs.Ytmcacdegikgmnaa
open Go.ChangeShapes Go.WideShapes Go.ChangeAt Go.RowKit Go.WideElems Go.Deep
open Go.ChangeMaps (open_string shut_string)

set_option maxRecDepth 100000 in
theorem langJoins_lifted (os : Os) (started : os.Started) (H : Type) (enc : TypeId × Value → H) :
    ReturnsInHanded {} Try.checked os 3 .any (Rows.langJoinsSpec.pre6 enc Try.prog Try.f3 [] false) (Rows.langJoinsSpec.post enc Try.prog Try.f3 false true false false) := by
  refine law_lifted 3 Try.f3 Rows.langJoinsSpec os started H enc Try.func3 (by kernel_rfl) (by kernel_rfl) (by kernel_rfl) rfl (fun ds h => ?_)
    (ChangeSpec.witness6 (enc := enc) (C := Try.checked) false ⟨#[], #[.slice none 0 0, .slice none 0 0, .string ⟨#[]⟩], []⟩ 8 (by kernel_rfl) (by kernel_rfl) (by kernel_rfl) (by kernel_rfl)) ?_
  · have h3 : ds.length = 3 := h
    match ds, h3 with
    | [d1, d2, d3], _ => rfl
  · intro W args ds p base hval hA _ _
    rw [show Try.f3.params.toList = [22, 22, 9] from by rw [Try.params3]] at hval hA
    obtain ⟨v0, _, d0, _, p0, _, rfl, rfl, rfl, h0, hA⟩ := all_cons hA
    obtain ⟨v1, _, d1, _, p1, _, rfl, rfl, rfl, h1, hA⟩ := all_cons hA
    obtain ⟨v2, _, d2, _, p2, _, rfl, rfl, rfl, h2, hA⟩ := all_cons hA
    obtain rfl := all_nil hA
    obtain ⟨A0, n0, c0, l0, rfl, hl0, hn0, hr0⟩ := open_items (hval 0 _ v0 rfl rfl) h0
    obtain ⟨A1, n1, c1, l1, rfl, hl1, hn1, hr1⟩ := open_items (hval 1 _ v1 rfl rfl) h1
    obtain ⟨s, rfl, _, _, hs⟩ := open_string Try.underlying9 (hval 2 _ v2 rfl rfl) h2
    exact langJoins_any A0 A1 n0 c0 n1 c1 l0 l1 s W hl0 hn0 hr0 hl1 hn1 hr1 hs

theorem langJoins_holds : Rows.LangJoinsSaid :=
  OpenClaim.holds_of_wide 3 Try.f3 rfl rfl rfl rfl rfl rfl rfl ⟨rfl, rfl, rfl, rfl, rfl⟩ rfl rfl rfl rfl rfl (by kernel_rfl) Try.func3 (by kernel_rfl)
    (of_decide_eq_true (by kernel_rfl)) (by unfold Func.isWrapper; first | (rw [if_pos (by decide +kernel)]; kernel_rfl) | (rw [if_neg (by decide +kernel)]; exact ⟨rfl, rfl⟩))
    (fun os started H enc _ => langJoins_lifted os started H enc)
#print axioms langJoins_holds
end Go.Proofs.Ytmcacdegikgmnaa
