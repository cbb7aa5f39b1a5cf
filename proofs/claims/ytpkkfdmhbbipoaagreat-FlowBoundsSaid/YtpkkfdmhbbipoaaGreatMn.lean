/- Zp: 'lang.ends'. Zp: the rest of package lang. Zp: the reference's 'Matches'. Zp: where a pattern ends, starts, occurs first: the reference's, and what of package lang is left. -/
import Derived.Test.YtpkkfdmhbbipoaaGreatMb
import Derived.Test.YtpkkfdmhbbipoaaGreatMa
import Derived.Test.YtpkkfdmhbbipoaaGreatMc
namespace Go.Proofs.YtpkkfdmhbbipoaaGreat
open Go.RowKit
end Go.Proofs.YtpkkfdmhbbipoaaGreat
