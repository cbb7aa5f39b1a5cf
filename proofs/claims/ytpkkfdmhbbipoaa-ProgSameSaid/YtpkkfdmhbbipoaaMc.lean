/- Walks. Walks: the reference's sets. Walks: the reference's sets, made of flags. Walks: the reference's set of some bytes; 'lives' of layer 8. Walks: the reference's bytes of a set; which patterns match nothing; the least length. Walks: the reference's Span. Walks: the reference's Not. Walks: the reference's Both. -/
import Derived.Test.YtpkkfdmhbbipoaaRows
import Derived.Test.YtpkkfdmhbbipoaaMa
import Derived.Test.YtpkkfdmhbbipoaaMb
namespace Go.Proofs.Ytpkkfdmhbbipoaa
open Go.RowKit


end Go.Proofs.Ytpkkfdmhbbipoaa
namespace Go.Proofs.Ytpkkfdmhbbipoaa
open Go.RowKit

end Go.Proofs.Ytpkkfdmhbbipoaa
namespace Go.Proofs.Ytpkkfdmhbbipoaa
open Go.RowKit

/-- Four words by their place. -/
def cells4 (f : Nat → Nat) : Array Value := #[.int .u64 (f 0 : Int), .int .u64 (f 1 : Int), .int .u64 (f 2 : Int), .int .u64 (f 3 : Int)]
theorem cells4_set (f : Nat → Nat) (k v : Nat) (h : k < 4) : (cells4 f).setIfInBounds k (.int .u64 (v : Int)) = cells4 (fun j => if j = k then v else f j) := by
  match k, h with
  | 0, _ => rfl
  | 1, _ => rfl
  | 2, _ => rfl
  | 3, _ => rfl

theorem Blk.set4 {w : World} {g : Nat} {t : TypeId} {f : Nat → Nat} (h : Blk w g t (cells4 f)) (k : Nat) (hk : k < 4) (v : Int) (n : Nat) (hv : v = (n : Int)) :
    Blk (w.setCell ⟨g, k, none⟩ (.int .u64 v)) g t (cells4 (fun j => if j = k then n else f j)) := by
  rw [hv, ← cells4_set f k n hk]; exact h.set k _

end Go.Proofs.Ytpkkfdmhbbipoaa
namespace Go.Proofs.Ytpkkfdmhbbipoaa
open Go.RowKit

end Go.Proofs.Ytpkkfdmhbbipoaa
namespace Go.Proofs.Ytpkkfdmhbbipoaa
open Go.RowKit

end Go.Proofs.Ytpkkfdmhbbipoaa
namespace Go.Proofs.Ytpkkfdmhbbipoaa
open Go.RowKit PopT

end Go.Proofs.Ytpkkfdmhbbipoaa
namespace Go.Proofs.Ytpkkfdmhbbipoaa
open Go.RowKit PopT

end Go.Proofs.Ytpkkfdmhbbipoaa
namespace Go.Proofs.Ytpkkfdmhbbipoaa
open Go.RowKit PopT

end Go.Proofs.Ytpkkfdmhbbipoaa
