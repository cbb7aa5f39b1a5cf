/- Walks: the reference's Read (a set's text), where it is not the other way round. Walks: the reference's Parse (a pattern's text). -/
import Derived.Test.YtemhdkmijfngnaaGreatMf
namespace Go.Proofs.YtemhdkmijfngnaaGreat
open Go.RowKit PopT

end Go.Proofs.YtemhdkmijfngnaaGreat
namespace Go.Proofs.YtemhdkmijfngnaaGreat
open Go.RowKit PopT

end Go.Proofs.YtemhdkmijfngnaaGreat
