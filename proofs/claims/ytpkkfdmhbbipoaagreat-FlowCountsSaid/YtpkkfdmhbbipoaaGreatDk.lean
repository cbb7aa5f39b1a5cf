/- Walks: package dial: New. Layer 22 lives: the plain part. A dialogue's calls, told of what is in memory; what holds of every dialogue. -/
import Derived.Test.YtpkkfdmhbbipoaaGreatDj
namespace Go.Proofs.YtpkkfdmhbbipoaaGreat
open Go.RowKit PopT
section
variable {B d : Nat} {F : Nat → Prop} {w0 w : World} {x : DialV}
end
end Go.Proofs.YtpkkfdmhbbipoaaGreat
