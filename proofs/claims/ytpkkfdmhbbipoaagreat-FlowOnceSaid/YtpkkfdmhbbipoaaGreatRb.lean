/- Walks: the reference's scripts that may be. -/
import Derived.Test.YtpkkfdmhbbipoaaGreatPc
import Derived.Test.YtpkkfdmhbbipoaaGreatMh
import Derived.Deep.DeepCutAuto
namespace Go.Proofs.YtpkkfdmhbbipoaaGreat
open Go.RowKit PopT
end Go.Proofs.YtpkkfdmhbbipoaaGreat
