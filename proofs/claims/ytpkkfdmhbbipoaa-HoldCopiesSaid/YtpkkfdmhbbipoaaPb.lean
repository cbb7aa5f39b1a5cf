/- Walks: layer 13: what is wrong of an op. Walks: layer 13: what is wrong of a script; words. Walks: layer 13's Word; the layer lives. -/
import Derived.Test.YtpkkfdmhbbipoaaPa
namespace Go.Proofs.Ytpkkfdmhbbipoaa
open Go.RowKit PopT

end Go.Proofs.Ytpkkfdmhbbipoaa
namespace Go.Proofs.Ytpkkfdmhbbipoaa
open Go.RowKit PopT

end Go.Proofs.Ytpkkfdmhbbipoaa
namespace Go.Proofs.Ytpkkfdmhbbipoaa
open Go.RowKit PopT

end Go.Proofs.Ytpkkfdmhbbipoaa
