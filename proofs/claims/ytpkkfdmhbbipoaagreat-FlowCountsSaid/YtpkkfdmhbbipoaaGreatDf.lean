/- Walks: package dial: Put, Eof, Take, Cut, the getters. Walks: package dial: ready. Walks: package dial: Ready. -/
import Derived.Test.YtpkkfdmhbbipoaaGreatDe
namespace Go.Proofs.YtpkkfdmhbbipoaaGreat
open Go.RowKit PopT
section
variable {B d gi gb gh gp c : Nat} {F F2 : Nat → Prop} {w0 w w' : World} {A : Option Addr} {x : DialV}
end
section
variable {B d gi gb gh gp c : Nat} {F F2 : Nat → Prop} {w0 w w' : World} {A : Option Addr} {x : DialV}
end
section
variable {B d gi gb gh gp c : Nat} {F F2 : Nat → Prop} {w0 w w' : World} {A : Option Addr} {x : DialV}
end
end Go.Proofs.YtpkkfdmhbbipoaaGreat
