/- FlowReaches: for every script and every number the law answers true. No condition. -/
import Derived.Test.YtpkkfdmhbbipoaaGreatFh
import Derived.Test.YtpkkfdmhbbipoaaGreatMi
import Derived.Test.YtpkkfdmhbbipoaaGreatPa
namespace Go.Proofs.YtpkkfdmhbbipoaaGreat
open Go.ChangeShapes Go.WideShapes Go.ChangeAt Go.RowKit Go.WideElems Go.Deep
open Go.ChangeMaps (open_string shut_string)
set_option maxRecDepth 100000 in
theorem flowReaches_lifted (os : Os) (started : os.Started) (H : Type) (enc : TypeId × Value → H) :
  ReturnsInHanded {} Tryz.checked os 6 .any (Rows.flowReachesSpec.pre6 enc Tryz.prog Tryz.f6 [] false) (Rows.flowReachesSpec.post enc Tryz.prog Tryz.f6 false true false false) := by
 refine law_lifted 6 Tryz.f6 Rows.flowReachesSpec os started H enc Tryz.func6 (by kernel_rfl) (by kernel_rfl) (by kernel_rfl) rfl (fun ds h => ?_)
  (ChangeSpec.witness6 (enc := enc) (C := Tryz.checked) false ⟨#[], #[.agg #[.string ⟨#[]⟩, .int .i64 0, .int .i64 0, .slice none 0 0], .int .i64 0], []⟩ 8 (by kernel_rfl) (by kernel_rfl) (by kernel_rfl) (by kernel_rfl)) ?_
 ·have hn : ds.length = 2 := h
  match ds, hn with
  | [d0, d1], _ => rfl
 ·intro W args ds p base hval hA _ _
  rw [show Tryz.f6.params.toList = [26, 3] from by rw [Tryz.params6]] at hval hA
  obtain ⟨v0, _, d0, _, p0, _, rfl, rfl, rfl, h0, hA⟩ := all_cons hA
  obtain ⟨v1, _, d1, _, p1, _, rfl, rfl, rfl, h1, hA⟩ := all_cons hA
  obtain rfl := all_nil hA
  obtain ⟨p0, A0, c0, rfl, hi0, ho0⟩ := open_progArg (hval 0 _ v0 rfl rfl) h0
  obtain ⟨x1, rfl, rfl, rfl, hw1⟩ := open_int Tryz.underlying3 (hval 1 _ v1 rfl rfl) h1
  exact flowReaches_any A0 c0 p0 x1 W hi0 ho0
theorem flowReaches_holds : Rows.FlowReachesSaid :=
 OpenClaim.holds_of_wide 6 Tryz.f6 rfl rfl rfl rfl rfl rfl rfl ⟨rfl, rfl, rfl, rfl, rfl⟩ rfl rfl rfl rfl rfl (by kernel_rfl) Tryz.func6 (by kernel_rfl)
  (of_decide_eq_true (by kernel_rfl)) (by unfold Func.isWrapper; first | (rw [if_pos (by decide +kernel)]; kernel_rfl) | (rw [if_neg (by decide +kernel)]; exact ⟨rfl, rfl⟩))
  (fun os started H enc _ => flowReaches_lifted os started H enc)
#print axioms flowReaches_holds
end Go.Proofs.YtpkkfdmhbbipoaaGreat
