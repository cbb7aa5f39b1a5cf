/- Walks: no window, no ring; layer 19 lives. Layer 19 lives; footprints beside a ring. -/
import Derived.Test.YtpkkfdmhbbipoaaGreatPi
import Derived.Test.YtpkkfdmhbbipoaaGreatMb
namespace Go.Proofs.YtpkkfdmhbbipoaaGreat
open Go.RowKit PopT
def Zsq (B : Nat) (F : Nat → Prop) (w : World) (g gb : Nat) : Prop := (∀ k, F k → k < w.heap.size) ∧ (∀ k, F k → B ≤ k) ∧ (∀ k, F k → ¬ RgF g gb k) ∧ g < w.heap.size ∧ gb < w.heap.size ∧ B ≤ g ∧ B ≤ gb ∧ B ≤ w.heap.size
end Go.Proofs.YtpkkfdmhbbipoaaGreat
