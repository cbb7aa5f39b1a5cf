/- Walks: package solo: one. Walks: package solo: Run. -/
import Derived.Test.YtpkkfdmhbbipoaaGreatDl
namespace Go.Proofs.YtpkkfdmhbbipoaaGreat
open Go.RowKit PopT
structure InV where
 kind : Int
 b : ByteArray
 n : Int
 tick : Int
def InV.val (i : InV) : Value := .agg #[i.kind, i.b, i.n, i.tick]
def InV.cells (i : InV) : List Value := [i.kind, i.b, i.n, i.tick]
def InV.ok (i : InV) : Prop := i.b.size ≤ 9223372036854775807 ∧ I6 i.n ∧ I6 i.tick
structure Zj0 where
 n : Int
 b : ByteArray
 t : Int
 loc : Int
 what : Int
 arm : Int
 m : Int
 st : Int
 did : Bool
 deriving DecidableEq
def Zj0.val (o : Zj0) : Value := .agg #[o.n, o.b, o.t, o.loc, o.what, o.arm, o.m, o.st, o.did]
def Zj0.cells (o : Zj0) : List Value := [o.n, o.b, o.t, o.loc, o.what, o.arm, o.m, o.st, o.did]
def Zjw : Zj0 := ⟨0, ⟨#[]⟩, 0, 0, 0, 0, 0, 0, false⟩
def Zqd (s : Uu) (did : Bool) : Zj0 := ⟨0, ⟨#[]⟩, s.tick, s.loc, s.what, s.arm, s.n, s.st, did⟩
def Zd.one (x : Zd) (i : InV) : Zd × Zj0 :=
 if i.kind = 1 then ((x.put i.b).1, ⟨((x.put i.b).2 : Nat), ⟨#[]⟩, 0, 0, 0, 0, 0, 0, false⟩)
 else if i.kind = 2 then (x.ends, ⟨0, ⟨#[]⟩, 0, 0, 0, 0, 0, 0, decide (x.st = 0) && !x.eof⟩)
 else if i.kind = 3 then (x.take i.n, ⟨0, x.took i.n, 0, 0, 0, 0, 0, 0, false⟩)
 else if i.kind = 4 then (x.cuts i.tick, Zjw)
 else if i.kind = 5 then ((x.step i.tick).1, Zqd (x.step i.tick).2.1 (x.step i.tick).2.2)
 else (x, Zjw)
theorem Zq2 {x : Zd} (h : Ys x) (hf : Fit x) (i : InV) (hi : i.ok) : Fit (x.one i).1 := by
 unfold Zd.one;split
 ·exact Zmb hf _
 ·split
  ·exact Zpr hf
  ·split
   ·exact Zpo hf _
   ·split
    ·exact Zpt hf _
    ·split
     ·exact Zii h hf _ hi.2.2.2
     ·exact hf
section
variable {B d : Nat} {F : Nat → Prop} {w0 w : World} {x : Zd}
end
def Xo (l : List InV) : List Value := l.flatMap InV.cells
theorem Mc (l : List InV) : (Xo l).length = l.length * 4 := by
 induction l with
 | nil => rfl
 | cons x l ih => simp only [Xo, List.flatMap_cons, List.length_append, List.length_cons] at *; rw [ih]; simp [InV.cells]; omega
theorem Zd3 (a b : List InV) : Xo (a ++ b) = Xo a ++ Xo b := by simp [Xo]
theorem Zoe (l : List InV) (i : Nat) (x : InV) (hi : l[i]? = some x) (j : Nat) (hj : j < 4) : (Xo l)[i * 4 + j]? = x.cells[j]? := by
 induction l generalizing i with
 | nil => simp at hi
 | cons m l ih =>
  have e : Xo (m :: l) = m.cells ++ Xo l := rfl;have hm : m.cells.length = 4 := rfl;rw [e];cases i with
  | zero =>
   simp only [List.getElem?_cons_zero, Option.some.injEq] at hi;subst hi;rw [List.getElem?_append_left aa]; simp
  | succ i =>
   rw [List.getElem?_append_right aa];have e2 : (i + 1) * 4 + j - m.cells.length = i * 4 + j := aa
   rw [e2];exact ih i (by simpa using hi)
end Go.Proofs.YtpkkfdmhbbipoaaGreat
