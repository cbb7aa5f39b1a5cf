/- Zp: package solo: one. Zp: package solo: Run. -/
import Derived.Test.YtpkkfdmhbbipoaaGreatDl
namespace Go.Proofs.YtpkkfdmhbbipoaaGreat
open Go.RowKit PopT
structure InV where
 kind : Int
 b : ByteArray
 n : Int
 tick : Int
def InV.val (i : InV) : Value := .agg #[i.kind, i.b, i.n, i.tick]
def InV.cells (i : InV) : List Value := [i.kind, i.b, i.n, i.tick]
def InV.ok (i : InV) : Prop := i.b.size ≤ 9223372036854775807 ∧ I6 i.n ∧ I6 i.tick
structure Zjd where
 n : Int
 b : ByteArray
 t : Int
 loc : Int
 what : Int
 arm : Int
 m : Int
 st : Int
 did : Bool
 deriving DecidableEq
def Zjd.val (o : Zjd) : Value := .agg #[o.n, o.b, o.t, o.loc, o.what, o.arm, o.m, o.st, o.did]
def Zjd.cells (o : Zjd) : List Value := [o.n, o.b, o.t, o.loc, o.what, o.arm, o.m, o.st, o.did]
def Zrr : Zjd := ⟨0, ⟨#[]⟩, 0, 0, 0, 0, 0, 0, false⟩
def Zr4 (s : Xr) (did : Bool) : Zjd := ⟨0, ⟨#[]⟩, s.tick, s.loc, s.what, s.arm, s.n, s.st, did⟩
def Zb.one (x : Zb) (i : InV) : Zb × Zjd :=
 if i.kind = 1 then ((x.put i.b).1, ⟨((x.put i.b).2 : Nat), ⟨#[]⟩, 0, 0, 0, 0, 0, 0, false⟩)
 else if i.kind = 2 then (x.ends, ⟨0, ⟨#[]⟩, 0, 0, 0, 0, 0, 0, decide (x.st = 0) && !x.eof⟩)
 else if i.kind = 3 then (x.take i.n, ⟨0, x.took i.n, 0, 0, 0, 0, 0, 0, false⟩)
 else if i.kind = 4 then (x.cuts i.tick, Zrr)
 else if i.kind = 5 then ((x.step i.tick).1, Zr4 (x.step i.tick).2.1 (x.step i.tick).2.2)
 else (x, Zrr)
section
variable {B d : Nat} {F : Nat → Prop} {w0 w : World} {x : Zb}
end
def Xl (l : List InV) : List Value := l.flatMap InV.cells
theorem Nf (l : List InV) : (Xl l).length = l.length * 4 := by
 induction l with
 | nil => rfl
 | cons x l ih => simp only [Xl, List.flatMap_cons, List.length_append, List.length_cons] at *; rw [ih]; simp [InV.cells]; omega
theorem Zdc (a b : List InV) : Xl (a ++ b) = Xl a ++ Xl b := by simp [Xl]
theorem Zn8 (l : List InV) (i : Nat) (x : InV) (hi : l[i]? = some x) (j : Nat) (hj : j < 4) : (Xl l)[i * 4 + j]? = x.cells[j]? := by
 induction l generalizing i with
 | nil => simp at hi
 | cons m l ih =>
  have e : Xl (m :: l) = m.cells ++ Xl l := rfl;have hm : m.cells.length = 4 := rfl;rw [e];cases i with
  | zero =>
   simp only [List.getElem?_cons_zero, Option.some.injEq] at hi;subst hi;rw [List.getElem?_append_left aa]; simp
  | succ i =>
   rw [List.getElem?_append_right aa];have e2 : (i + 1) * 4 + j - m.cells.length = i * 4 + j := aa
   rw [e2];exact ih i (by simpa using hi)
theorem Zo.own {B b1 d : Nat} {F : Nat → Prop} {w0 w w' : World} {x : Zb} {e : TypeId} {size n : Nat} {v : Value} {xs : List Value} (h : Zo B F w0 w d x) (hB : B ≤ b1) (ho : w.ownsRow b1 e size v n xs) (hf : ∀ k, v.ownBlock = some k → ¬ F k) (hk : Za (fun k => v.ownBlock = some k) w w') : Zo B F w0 w' d x :=
 h.keep hk (fun k hk hv => hf k hv hk) (fun k hv => Nat.le_trans hB (ho.lt k hv).1)
end Go.Proofs.YtpkkfdmhbbipoaaGreat
