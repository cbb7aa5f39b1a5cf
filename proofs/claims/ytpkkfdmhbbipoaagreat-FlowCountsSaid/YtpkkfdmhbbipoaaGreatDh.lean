/- Walks: package dial: look. -/
import Derived.Test.YtpkkfdmhbbipoaaGreatDg
namespace Go.Proofs.YtpkkfdmhbbipoaaGreat
open Go.RowKit PopT
section
variable {B d gi gb gh gp c : Nat} {F F2 : Nat → Prop} {w0 w w' : World} {A : Option Addr} {x : DialV}
end
end Go.Proofs.YtpkkfdmhbbipoaaGreat
