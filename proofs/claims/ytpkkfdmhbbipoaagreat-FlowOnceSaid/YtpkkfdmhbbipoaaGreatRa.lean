/- Walks: the reference's ticks and deadlines. Walks: the reference's deadlines that begin; whether a tick has come; a number within bounds. Walks: the reference's writer begins; whether an op comes. -/
import Derived.Test.YtpkkfdmhbbipoaaGreatDk
namespace Go.Proofs.YtpkkfdmhbbipoaaGreat
open Go.RowKit PopT
end Go.Proofs.YtpkkfdmhbbipoaaGreat
