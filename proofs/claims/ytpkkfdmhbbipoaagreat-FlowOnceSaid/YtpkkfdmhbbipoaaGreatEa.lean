/- Walks: package solo: one. Walks: package solo: Run. -/
import Derived.Test.YtpkkfdmhbbipoaaGreatDl
namespace Go.Proofs.YtpkkfdmhbbipoaaGreat
open Go.RowKit PopT
structure InV where
 kind : Int
 b : ByteArray
 n : Int
 tick : Int
def InV.val (i : InV) : Value := .agg #[.int .i64 i.kind, .string i.b, .int .i64 i.n, .int .i64 i.tick]
def InV.cells (i : InV) : List Value := [.int .i64 i.kind, .string i.b, .int .i64 i.n, .int .i64 i.tick]
def InV.ok (i : InV) : Prop := i.b.size ≤ 9223372036854775807 ∧ I6 i.n ∧ I6 i.tick
structure OutV where
 n : Int
 b : ByteArray
 t : Int
 loc : Int
 what : Int
 arm : Int
 m : Int
 st : Int
 did : Bool
 deriving DecidableEq
def OutV.val (o : OutV) : Value := .agg #[.int .i64 o.n, .string o.b, .int .i64 o.t, .int .i64 o.loc, .int .i64 o.what, .int .i64 o.arm, .int .i64 o.m, .int .i64 o.st, .bool o.did]
def OutV.cells (o : OutV) : List Value := [.int .i64 o.n, .string o.b, .int .i64 o.t, .int .i64 o.loc, .int .i64 o.what, .int .i64 o.arm, .int .i64 o.m, .int .i64 o.st, .bool o.did]
def outZ : OutV := ⟨0, ⟨#[]⟩, 0, 0, 0, 0, 0, 0, false⟩
def outS (s : StepV) (did : Bool) : OutV := ⟨0, ⟨#[]⟩, s.tick, s.loc, s.what, s.arm, s.n, s.st, did⟩
def DialV.one (x : DialV) (i : InV) : DialV × OutV :=
 if i.kind = 1 then ((x.put i.b).1, ⟨((x.put i.b).2 : Nat), ⟨#[]⟩, 0, 0, 0, 0, 0, 0, false⟩)
 else if i.kind = 2 then (x.ends, ⟨0, ⟨#[]⟩, 0, 0, 0, 0, 0, 0, decide (x.st = 0) && !x.eof⟩)
 else if i.kind = 3 then (x.take i.n, ⟨0, x.took i.n, 0, 0, 0, 0, 0, 0, false⟩)
 else if i.kind = 4 then (x.cuts i.tick, outZ)
 else if i.kind = 5 then ((x.step i.tick).1, outS (x.step i.tick).2.1 (x.step i.tick).2.2)
 else (x, outZ)
section
variable {B d : Nat} {F : Nat → Prop} {w0 w : World} {x : DialV}
end
def inVCells (l : List InV) : List Value := l.flatMap InV.cells
theorem inVCells_length (l : List InV) : (inVCells l).length = l.length * 4 := by
 induction l with
 | nil => rfl
 | cons x l ih => simp only [inVCells, List.flatMap_cons, List.length_append, List.length_cons] at *; rw [ih]; simp [InV.cells]; omega
theorem inVCells_append (a b : List InV) : inVCells (a ++ b) = inVCells a ++ inVCells b := by simp [inVCells]
theorem inV_at (l : List InV) (i : Nat) (x : InV) (hi : l[i]? = some x) (j : Nat) (hj : j < 4) : (inVCells l)[i * 4 + j]? = x.cells[j]? := by
 induction l generalizing i with
 | nil => simp at hi
 | cons m l ih =>
  have e : inVCells (m :: l) = m.cells ++ inVCells l := rfl
  have hm : m.cells.length = 4 := rfl
  rw [e]
  cases i with
  | zero =>
   simp only [List.getElem?_cons_zero, Option.some.injEq] at hi
   subst hi
   rw [List.getElem?_append_left (by omega)]; simp
  | succ i =>
   rw [List.getElem?_append_right (by omega)]
   have e2 : (i + 1) * 4 + j - m.cells.length = i * 4 + j := by omega
   rw [e2]
   exact ih i (by simpa using hi)
theorem DialAt.own {B b1 d : Nat} {F : Nat → Prop} {w0 w w' : World} {x : DialV} {e : TypeId} {size n : Nat} {v : Value} {xs : List Value} (h : DialAt B F w0 w d x) (hB : B ≤ b1) (ho : w.ownsRow b1 e size v n xs) (hf : ∀ k, v.ownBlock = some k → ¬ F k) (hk : Keep (fun k => v.ownBlock = some k) w w') : DialAt B F w0 w' d x :=
 h.keep hk (fun k hk hv => hf k hv hk) (fun k hv => Nat.le_trans hB (ho.lt k hv).1)
end Go.Proofs.YtpkkfdmhbbipoaaGreat
