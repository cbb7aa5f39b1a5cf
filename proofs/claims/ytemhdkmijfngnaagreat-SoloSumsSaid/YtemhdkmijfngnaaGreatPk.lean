/- Plain: what a look finds is what is found in the bytes, as far as the window goes. -/
import Derived.Test.YtemhdkmijfngnaaGreatPj
namespace Go.Proofs.YtemhdkmijfngnaaGreat
open Go.RowKit

end Go.Proofs.YtemhdkmijfngnaaGreat
