/- The shelf's layings at this program (numbers of this seat). Walks: prog.Copy. -/
import Derived.Shelf.SlicesE.Clone
import Derived.Test.YtpkkfdmhbbipoaaGreatPc
import Derived.Test.YtpkkfdmhbbipoaaGreatMh
import Derived.Deep.Cut
namespace Go.Proofs.YtpkkfdmhbbipoaaGreat
open Go.Shelf Go.RowKit
open PopT
end Go.Proofs.YtpkkfdmhbbipoaaGreat
