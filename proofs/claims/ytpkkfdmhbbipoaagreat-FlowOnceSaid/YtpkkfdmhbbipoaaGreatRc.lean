/- Walks: the reference's scripts that may be: an op; a script. -/
import Derived.Test.YtpkkfdmhbbipoaaGreatRb
import Derived.Test.YtpkkfdmhbbipoaaGreatRa
namespace Go.Proofs.YtpkkfdmhbbipoaaGreat
open Go.RowKit PopT
end Go.Proofs.YtpkkfdmhbbipoaaGreat
