/- Walks: the same patterns, to which nothing was fed (fresh). Plain: several patterns at once. Walks: what is found first, by several patterns (the program's and the reference's); Reset. -/
import Derived.Test.YtpkkfdmhbbipoaaGreatMl
import Derived.Test.YtpkkfdmhbbipoaaGreatMm
import Derived.Test.YtpkkfdmhbbipoaaGreatMn
namespace Go.Proofs.YtpkkfdmhbbipoaaGreat
open Go.RowKit PopT
def freshA (a : ArmS) : ArmS := ⟨a.g, a.l, startW a.l⟩
def dsM (ls : List (List Item)) (w : List UInt8) (n : Nat) : List Bool := ls.map fun l => (endsAll l w).getD n false
def GoodP (l : List Item) : Prop := goodM l = true ∧ matchM l [] = false ∧ l.length ≤ 60
def stepsA (bs : List UInt8) (a : ArmS) : ArmS := bs.foldl (fun a c => stepA c.toNat a) a
def armsTo (ar : List ArmS) (w : List UInt8) (n : Nat) : List ArmS := ar.map fun a => stepsA (w.take n) (freshA a)
end Go.Proofs.YtpkkfdmhbbipoaaGreat
