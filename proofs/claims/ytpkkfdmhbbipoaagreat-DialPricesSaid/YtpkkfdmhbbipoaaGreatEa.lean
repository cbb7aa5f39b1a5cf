/- Walks: package solo: one. Walks: package solo: Run. -/
import Derived.Test.YtpkkfdmhbbipoaaGreatDl
namespace Go.Proofs.YtpkkfdmhbbipoaaGreat
open Go.RowKit PopT
structure InV where
 kind : Int
 b : ByteArray
 n : Int
 tick : Int
def InV.val (i : InV) : Value := .agg #[i.kind, i.b, i.n, i.tick]
def InV.cells (i : InV) : List Value := [i.kind, i.b, i.n, i.tick]
def InV.ok (i : InV) : Prop := i.b.size ≤ 9223372036854775807 ∧ I6 i.n ∧ I6 i.tick
structure Zka where
 n : Int
 b : ByteArray
 t : Int
 loc : Int
 what : Int
 arm : Int
 m : Int
 st : Int
 did : Bool
 deriving DecidableEq
def Zka.val (o : Zka) : Value := .agg #[o.n, o.b, o.t, o.loc, o.what, o.arm, o.m, o.st, o.did]
def Zka.cells (o : Zka) : List Value := [o.n, o.b, o.t, o.loc, o.what, o.arm, o.m, o.st, o.did]
def Zj6 : Zka := ⟨0, ⟨#[]⟩, 0, 0, 0, 0, 0, 0, false⟩
def Zqz (s : Ul) (did : Bool) : Zka := ⟨0, ⟨#[]⟩, s.tick, s.loc, s.what, s.arm, s.n, s.st, did⟩
def Zd.one (x : Zd) (i : InV) : Zd × Zka :=
 if i.kind = 1 then ((x.put i.b).1, ⟨((x.put i.b).2 : Nat), ⟨#[]⟩, 0, 0, 0, 0, 0, 0, false⟩)
 else if i.kind = 2 then (x.ends, ⟨0, ⟨#[]⟩, 0, 0, 0, 0, 0, 0, decide (x.st = 0) && !x.eof⟩)
 else if i.kind = 3 then (x.take i.n, ⟨0, x.took i.n, 0, 0, 0, 0, 0, 0, false⟩)
 else if i.kind = 4 then (x.cuts i.tick, Zj6)
 else if i.kind = 5 then ((x.step i.tick).1, Zqz (x.step i.tick).2.1 (x.step i.tick).2.2)
 else (x, Zj6)
theorem Zrm {x : Zd} (h : Yq x) (hf : Fit x) (i : InV) (hi : i.ok) : Fit (x.one i).1 := by
 unfold Zd.one;split
 ·exact Zmr hf _
 ·split
  ·exact Zqb hf
  ·split
   ·exact Zp8 hf _
   ·split
    ·exact Zqd hf _
    ·split
     ·exact Ze2 h hf _ hi.2.2.2
     ·exact hf
section
variable {B d : Nat} {F : Nat → Prop} {w0 w : World} {x : Zd}
end
def Xo (l : List InV) : List Value := l.flatMap InV.cells
theorem Mh (l : List InV) : (Xo l).length = l.length * 4 := by
 induction l with
 | nil => rfl
 | cons x l ih => simp only [Xo, List.flatMap_cons, List.length_append, List.length_cons] at *; rw [ih]; simp [InV.cells]; omega
theorem Zeb (a b : List InV) : Xo (a ++ b) = Xo a ++ Xo b := by simp [Xo]
theorem Zo0 (l : List InV) (i : Nat) (x : InV) (hi : l[i]? = some x) (j : Nat) (hj : j < 4) : (Xo l)[i * 4 + j]? = x.cells[j]? := by
 induction l generalizing i with
 | nil => simp at hi
 | cons m l ih =>
  have e : Xo (m :: l) = m.cells ++ Xo l := rfl;have hm : m.cells.length = 4 := rfl;rw [e];cases i with
  | zero =>
   simp only [List.getElem?_cons_zero, Option.some.injEq] at hi;subst hi;rw [List.getElem?_append_left aa]; simp
  | succ i =>
   rw [List.getElem?_append_right aa];have e2 : (i + 1) * 4 + j - m.cells.length = i * 4 + j := aa
   rw [e2];exact ih i (by simpa using hi)
end Go.Proofs.YtpkkfdmhbbipoaaGreat
