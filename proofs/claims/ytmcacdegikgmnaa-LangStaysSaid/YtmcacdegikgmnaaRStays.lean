/- LangStays: for every pattern and every two texts the law answers true, and its arguments read as before. No condition. -/
import Derived.Test.YtmcacdegikgmnaaLStays
import Derived.Test.YtmcacdegikgmnaaOpen
namespace Go.Proofs.Ytmcacdegikgmnaa
open Go.ChangeShapes Go.WideShapes Go.ChangeAt Go.RowKit Go.WideElems Go.Deep
open Go.ChangeMaps (open_string shut_string)

set_option maxRecDepth 100000 in
theorem langStays_lifted (os : Os) (started : os.Started) (H : Type) (enc : TypeId × Value → H) :
    ReturnsInHanded {} Try.checked os 4 .any (Rows.langStaysSpec.pre6 enc Try.prog Try.f4 [] false) (Rows.langStaysSpec.post enc Try.prog Try.f4 false true false false) := by
  refine law_lifted 4 Try.f4 Rows.langStaysSpec os started H enc Try.func4 (by kernel_rfl) (by kernel_rfl) (by kernel_rfl) rfl (fun ds h => ?_)
    (ChangeSpec.witness6 (enc := enc) (C := Try.checked) false ⟨#[], #[.slice none 0 0, .string ⟨#[]⟩, .string ⟨#[]⟩], []⟩ 8 (by kernel_rfl) (by kernel_rfl) (by kernel_rfl) (by kernel_rfl)) ?_
  · have h3 : ds.length = 3 := h
    match ds, h3 with
    | [d1, d2, d3], _ => rfl
  · intro W args ds p base hval hA _ _
    rw [show Try.f4.params.toList = [22, 9, 9] from by rw [Try.params4]] at hval hA
    obtain ⟨v0, _, d0, _, p0, _, rfl, rfl, rfl, h0, hA⟩ := all_cons hA
    obtain ⟨v1, _, d1, _, p1, _, rfl, rfl, rfl, h1, hA⟩ := all_cons hA
    obtain ⟨v2, _, d2, _, p2, _, rfl, rfl, rfl, h2, hA⟩ := all_cons hA
    obtain rfl := all_nil hA
    obtain ⟨A0, n0, c0, l0, rfl, hl0, hn0, hr0⟩ := open_items (hval 0 _ v0 rfl rfl) h0
    obtain ⟨s, rfl, _, _, hs⟩ := open_string Try.underlying9 (hval 1 _ v1 rfl rfl) h1
    obtain ⟨t, rfl, _, _, ht⟩ := open_string Try.underlying9 (hval 2 _ v2 rfl rfl) h2
    exact langStays_any A0 n0 c0 l0 s t W hl0 hn0 hr0 hs ht

theorem langStays_holds : Rows.LangStaysSaid :=
  OpenClaim.holds_of_wide 4 Try.f4 rfl rfl rfl rfl rfl rfl rfl ⟨rfl, rfl, rfl, rfl, rfl⟩ rfl rfl rfl rfl rfl (by kernel_rfl) Try.func4 (by kernel_rfl)
    (of_decide_eq_true (by kernel_rfl)) (by unfold Func.isWrapper; first | (rw [if_pos (by decide +kernel)]; kernel_rfl) | (rw [if_neg (by decide +kernel)]; exact ⟨rfl, rfl⟩))
    (fun os started H enc _ => langStays_lifted os started H enc)
#print axioms langStays_holds
end Go.Proofs.Ytmcacdegikgmnaa
