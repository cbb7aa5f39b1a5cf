/- Walks. Walks: the reference's sets. Walks: the reference's sets, made of flags. Walks: the reference's set of some bytes; 'lives' of layer 8. Walks: the reference's bytes of a set; which patterns match nothing; the least length. Walks: the reference's Span. Walks: the reference's Not. Walks: the reference's Both. -/
import Derived.Test.YtpkkfdmhbbipoaaGreatRows
import Derived.Test.YtpkkfdmhbbipoaaGreatMa
import Derived.Test.YtpkkfdmhbbipoaaGreatMb
namespace Go.Proofs.YtpkkfdmhbbipoaaGreat
open Go.RowKit
def cells4 (f : Nat → Nat) : Array Value := #[.int .u64 (f 0 : Int), .int .u64 (f 1 : Int), .int .u64 (f 2 : Int), .int .u64 (f 3 : Int)]
theorem boolCells_set (l : List Bool) (i : Nat) (b : Bool) : (boolCells l).set i (.bool b) = boolCells (l.set i b) := by simp [boolCells, List.map_set]
open PopT
def spanFl (a : Nat) : Nat → List Bool
 | 0 => List.replicate 256 false
 | k + 1 => (spanFl a k).set (a + k) true
def updFl (F G : Nat → Bool) (k : Nat) : List Bool := (List.range 256).map fun c => if c < k then G c else F c
end Go.Proofs.YtpkkfdmhbbipoaaGreat
