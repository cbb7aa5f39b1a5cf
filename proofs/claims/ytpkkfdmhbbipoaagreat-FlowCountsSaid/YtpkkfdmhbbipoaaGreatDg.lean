/- Walks: package dial: send. Walks: ring.Room; package dial: Room, and a dialogue that is none. Walks: package dial: Price. Walks: package dial: a step of a dialogue that is none. A dialogue whose window looked. Plain: the arm that a look tells is one of those there are. -/
import Derived.Test.YtpkkfdmhbbipoaaGreatDf
namespace Go.Proofs.YtpkkfdmhbbipoaaGreat
open Go.RowKit PopT
theorem new3 (w : World) (a b : Obj) (t : TypeId) (cs : Array Value) : Blk (((w.alloc a).alloc b).alloc (.cells cs t)) (w.heap.size + 2) t cs := by
 have := Blk.new ((w.alloc a).alloc b) t cs
 simpa using this
section
variable {B d gi gb gh gp c : Nat} {F F2 : Nat → Prop} {w0 w w' : World} {A : Option Addr} {x : DialV}
end
section
variable {B d gi gb gh gp c : Nat} {F F2 : Nat → Prop} {w0 w w' : World} {A : Option Addr} {x : DialV}
end
section
variable {B d gi gb gh gp c : Nat} {F F2 : Nat → Prop} {w0 w w' : World} {A : Option Addr} {x : DialV}
end
section
variable {B d gi gb gh gp c : Nat} {F F2 : Nat → Prop} {w0 w w' : World} {A : Option Addr} {x : DialV}
end
end Go.Proofs.YtpkkfdmhbbipoaaGreat
