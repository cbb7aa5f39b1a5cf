/- Plain: what a look finds is what is found in the bytes, as far as the window goes. -/
import Derived.Test.YtpkkfdmhbbipoaaPj
namespace Go.Proofs.Ytpkkfdmhbbipoaa
open Go.RowKit

end Go.Proofs.Ytpkkfdmhbbipoaa
