/- Walks: package solo: one. Walks: package solo: Run. -/
import Derived.Test.YtpkkfdmhbbipoaaGreatDl
namespace Go.Proofs.YtpkkfdmhbbipoaaGreat
open Go.RowKit PopT
structure InV where
 kind : Int
 b : ByteArray
 n : Int
 tick : Int
def InV.val (i : InV) : Value := .agg #[.int .i64 i.kind, .string i.b, .int .i64 i.n, .int .i64 i.tick]
def InV.cells (i : InV) : List Value := [.int .i64 i.kind, .string i.b, .int .i64 i.n, .int .i64 i.tick]
def InV.ok (i : InV) : Prop := i.b.size ≤ 9223372036854775807 ∧ I6 i.n ∧ I6 i.tick
structure OutV where
 n : Int
 b : ByteArray
 t : Int
 loc : Int
 what : Int
 arm : Int
 m : Int
 st : Int
 did : Bool
 deriving DecidableEq
def OutV.val (o : OutV) : Value := .agg #[.int .i64 o.n, .string o.b, .int .i64 o.t, .int .i64 o.loc, .int .i64 o.what, .int .i64 o.arm, .int .i64 o.m, .int .i64 o.st, .bool o.did]
def OutV.cells (o : OutV) : List Value := [.int .i64 o.n, .string o.b, .int .i64 o.t, .int .i64 o.loc, .int .i64 o.what, .int .i64 o.arm, .int .i64 o.m, .int .i64 o.st, .bool o.did]
def outZ : OutV := ⟨0, ⟨#[]⟩, 0, 0, 0, 0, 0, 0, false⟩
def outS (s : StepV) (did : Bool) : OutV := ⟨0, ⟨#[]⟩, s.tick, s.loc, s.what, s.arm, s.n, s.st, did⟩
def DialV.one (x : DialV) (i : InV) : DialV × OutV :=
 if i.kind = 1 then ((x.put i.b).1, ⟨((x.put i.b).2 : Nat), ⟨#[]⟩, 0, 0, 0, 0, 0, 0, false⟩)
 else if i.kind = 2 then (x.ends, ⟨0, ⟨#[]⟩, 0, 0, 0, 0, 0, 0, decide (x.st = 0) && !x.eof⟩)
 else if i.kind = 3 then (x.take i.n, ⟨0, x.took i.n, 0, 0, 0, 0, 0, 0, false⟩)
 else if i.kind = 4 then (x.cuts i.tick, outZ)
 else if i.kind = 5 then ((x.step i.tick).1, outS (x.step i.tick).2.1 (x.step i.tick).2.2)
 else (x, outZ)
section
variable {B d : Nat} {F : Nat → Prop} {w0 w : World} {x : DialV}
end
end Go.Proofs.YtpkkfdmhbbipoaaGreat
