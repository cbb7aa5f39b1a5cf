/- Walks: 'lang.ends'. Walks: the rest of package lang. Walks: the reference's 'Matches'. Walks: where a pattern ends, starts, occurs first: the reference's, and what of package lang is left. -/
import Derived.Test.YtemhdkmijfngnaaGreatMb
import Derived.Test.YtemhdkmijfngnaaGreatMa
import Derived.Test.YtemhdkmijfngnaaGreatMc
namespace Go.Proofs.YtemhdkmijfngnaaGreat
open Go.RowKit

end Go.Proofs.YtemhdkmijfngnaaGreat
namespace Go.Proofs.YtemhdkmijfngnaaGreat
open Go.RowKit

end Go.Proofs.YtemhdkmijfngnaaGreat
namespace Go.Proofs.YtemhdkmijfngnaaGreat
open Go.RowKit

end Go.Proofs.YtemhdkmijfngnaaGreat
namespace Go.Proofs.YtemhdkmijfngnaaGreat
open Go.RowKit

end Go.Proofs.YtemhdkmijfngnaaGreat
