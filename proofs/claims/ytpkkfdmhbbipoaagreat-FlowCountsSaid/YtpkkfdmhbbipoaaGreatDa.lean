/- Ticks: plain functions, and the walks of package tick: own, Own, Due. Ticks and deadlines: tick.Add, tick.Least, package due. -/
import Derived.Test.YtpkkfdmhbbipoaaGreatMa
import Derived.Test.YtpkkfdmhbbipoaaGreatMh
import Derived.Deep.Cut
namespace Go.Proofs.YtpkkfdmhbbipoaaGreat
open Go.RowKit
def neverT : Int := 9223372036854775807
def ownT (t : Int) : Int := if t < 0 then 0 else t
def dueT (t now : Int) : Bool := decide (t ≠ neverT) && decide (ownT t ≤ ownT now)
def addT (t d : Int) : Int := if neverT - ownT d ≤ ownT t then neverT else ownT t + ownT d
def leastT (l : List Int) : Int := l.foldl (fun a t => min a (ownT t)) neverT
def behindT (now n : Int) : Int := if n = neverT then neverT else addT now n
structure DueV where
 til : Int
 lim : Int
 cut : Int
 deriving DecidableEq
def DueV.val (d : DueV) : Value := .agg #[.int .i64 d.til, .int .i64 d.lim, .int .i64 d.cut]
def DueV.wait (d : DueV) (now n : Int) : DueV := ⟨behindT now n, d.lim, d.cut⟩
def DueV.rest (d : DueV) : DueV := ⟨neverT, d.lim, d.cut⟩
def DueV.cuts (d : DueV) (at_ : Int) : DueV := ⟨d.til, d.lim, leastT [d.cut, at_]⟩
def DueV.first (d : DueV) : Int := leastT [d.til, d.lim, d.cut]
def DueV.over (d : DueV) (now : Int) : Nat := if ownT d.lim ≤ ownT d.cut ∧ dueT (ownT d.lim) now = true then 3 else if ownT d.cut < ownT d.lim ∧ dueT (ownT d.cut) now = true then 5 else 0
def I6 (x : Int) : Prop := -9223372036854775808 ≤ x ∧ x ≤ 9223372036854775807
end Go.Proofs.YtpkkfdmhbbipoaaGreat
