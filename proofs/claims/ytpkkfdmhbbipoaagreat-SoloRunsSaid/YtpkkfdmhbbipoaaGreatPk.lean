/- Plain: what a look finds is what is found in the bytes, as far as the window goes. -/
import Derived.Test.YtpkkfdmhbbipoaaGreatPj
namespace Go.Proofs.YtpkkfdmhbbipoaaGreat
open Go.RowKit
end Go.Proofs.YtpkkfdmhbbipoaaGreat
