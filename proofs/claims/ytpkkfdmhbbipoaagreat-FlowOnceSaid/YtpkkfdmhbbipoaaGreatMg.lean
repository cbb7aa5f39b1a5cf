/- Walks: the reference's Read (a set's text), where it is not the other way round. Walks: the reference's Parse (a pattern's text). -/
import Derived.Test.YtpkkfdmhbbipoaaGreatMf
namespace Go.Proofs.YtpkkfdmhbbipoaaGreat
open Go.RowKit PopT
end Go.Proofs.YtpkkfdmhbbipoaaGreat
