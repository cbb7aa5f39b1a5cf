/- ReplayParts: for all lists of events the law answers true. No condition. -/
import Derived.Test.YtpkkfdmhbbipoaaLRp
import Derived.Test.YtpkkfdmhbbipoaaOpen
import Derived.Test.YtpkkfdmhbbipoaaOpen2
import Derived.Test.YtpkkfdmhbbipoaaOpe
namespace Go.Proofs.Ytpkkfdmhbbipoaa
open Go.ChangeShapes Go.WideShapes Go.ChangeAt Go.RowKit Go.WideElems Go.Deep
open Go.ChangeMaps (open_string shut_string)

set_option maxRecDepth 100000 in
theorem replayParts_lifted (os : Os) (started : os.Started) (H : Type) (enc : TypeId × Value → H) :
    ReturnsInHanded {} Try.checked os 3 .any (Rows.replayPartsSpec.pre6 enc Try.prog Try.f3 [] false) (Rows.replayPartsSpec.post enc Try.prog Try.f3 false true false false) := by
  refine law_lifted 3 Try.f3 Rows.replayPartsSpec os started H enc Try.func3 (by kernel_rfl) (by kernel_rfl) (by kernel_rfl) rfl (fun ds h => ?_)
    (ChangeSpec.witness6 (enc := enc) (C := Try.checked) false ⟨#[], #[.slice none 0 0, .slice none 0 0], []⟩ 8 (by kernel_rfl) (by kernel_rfl) (by kernel_rfl) (by kernel_rfl)) ?_
  · have hn : ds.length = 2 := h
    match ds, hn with
    | [d0, d1], _ => rfl
  · intro W args ds p base hval hA _ _
    rw [show Try.f3.params.toList = [22, 22] from by rw [Try.params3]] at hval hA
    obtain ⟨v0, _, d0, _, p0, _, rfl, rfl, rfl, h0, hA⟩ := all_cons hA
    obtain ⟨v1, _, d1, _, p1, _, rfl, rfl, rfl, h1, hA⟩ := all_cons hA
    obtain rfl := all_nil hA
    obtain ⟨A0, n0, c0, l0, rfl, hl0, hn0, hr0, hi0⟩ := open_evs (hval 0 _ v0 rfl rfl) h0
    obtain ⟨A1, n1, c1, l1, rfl, hl1, hn1, hr1, hi1⟩ := open_evs (hval 1 _ v1 rfl rfl) h1
    exact replayParts_any A0 n0 c0 A1 n1 c1 l0 l1 W hl0 hn0 hr0 hi0 hl1 hn1 hr1 hi1

theorem replayParts_holds : Rows.ReplayPartsSaid :=
  OpenClaim.holds_of_wide 3 Try.f3 rfl rfl rfl rfl rfl rfl rfl ⟨rfl, rfl, rfl, rfl, rfl⟩ rfl rfl rfl rfl rfl (by kernel_rfl) Try.func3 (by kernel_rfl)
    (of_decide_eq_true (by kernel_rfl)) (by unfold Func.isWrapper; first | (rw [if_pos (by decide +kernel)]; kernel_rfl) | (rw [if_neg (by decide +kernel)]; exact ⟨rfl, rfl⟩))
    (fun os started H enc _ => replayParts_lifted os started H enc)
#print axioms replayParts_holds
end Go.Proofs.Ytpkkfdmhbbipoaa
