/- Walks: class.Bytes. -/
import Derived.Test.YtdhoedohchbagaaCi
namespace Go.Proofs.Ytdhoedohchbagaa
open Go.RowKit PopT

set_option maxRecDepth 20000 in
set_option maxHeartbeats 400000 in
theorem bytesC_any (y : BSet) (w : World) :
    Calls Try.prog 46 #[y.val] w fun e w' => e = .returned (.string ⟨(bytesM y).toArray⟩) ∧ Below w.heap.size w w' := by
  have HC := hid (fun W => list_any y W)
  unfold BSet.val at HC ⊢
  go_enter Try.func46, Try.ntmps46
  go_wp2_with fail
  refine (HC.out _).mono ?_
  rintro e w1 ⟨A, c, rfl, hown, hb⟩
  have HB := hid (((Below.refl w.heap.size w).alloc (Nat.le_refl _) (.cells #[w64 y.w0, w64 y.w1, w64 y.w2, w64 y.w3] 51)).trans (hb.mono (by simp)))
  have hcv := conv_own (P := Try.prog) (src := 69) (dst := 9) (bytesM y) Try.underlying69 Try.underlying5 Try.underlying9 hown
  clear hown hb HC
  go_wp2_with fail
  go_ret
  exact ⟨rfl, HB.out⟩
end Go.Proofs.Ytdhoedohchbagaa
