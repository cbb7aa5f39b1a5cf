/- A dialogue and the reference's beside it: what stays of a script's jumps; what look asks for; a law's loop. -/
import Derived.Test.YtpkkfdmhbbipoaaGreatRn
import Derived.Test.YtpkkfdmhbbipoaaGreatRh
import Derived.Test.YtpkkfdmhbbipoaaGreatEb
namespace Go.Proofs.YtpkkfdmhbbipoaaGreat
open Go.RowKit PopT
theorem Mb {x : Zf} (h : Uw x) : Uw x.enters := by unfold Zf.enters; (repeat' split) <;> exact h
theorem Zci {x : Zf} (h : Uw x) (what : Nat) (tt : Int) : Uw (x.jump what tt).1 := by
 unfold Zf.jump;split
 ·exact h
 ·split
  ·exact h
  ·rename_i h2
   refine Mb (x := x.hop.goes tt.toNat) ?_;show ((x.jumps + 1 : Nat) : Int) ≤ x.p.jumps;omega
theorem Zpi {x : Zf} (h : Uw x) : Uw x.look.1 := by
 unfold Zf.look;have hl : ∀ L, Uw (x.looked L) := fun _ => h;simp only;split
 ·exact Zci (hl _) _ _
 ·split
  ·exact h
  ·split
   ·exact Zci (hl _) _ _
   ·split
    ·exact Zci (hl _) _ _
    ·exact h
theorem Zpj {x : Zf} (h : Uw x) : Uw x.does.1 := by
 unfold Zf.does;split
 ·exact h
 ·split
  ·unfold Zf.send; split
   ·exact h
   ·exact Mb (x := x.goes (x.loc + 1)) h
  ·split
   ·exact Zpi h
   ·split
    ·exact Zci h _ _
    ·split
     ·exact Mb (x := x.goes (x.loc + 1)) h
     ·split <;> exact h
theorem Zph {x : Zf} (h : Uw x) (now : Int) : Uw (x.step now).1 := by
 unfold Zf.step;split
 ·exact h
 ·exact Zpj (x := x.clock now) h
theorem Zqy {x : Zf} (h : Uw x) (i : InV) : Uw (x.one i).1 := by
 unfold Zf.one;split
 ·show Uw (x.put i.b).1; unfold Zf.put; split <;> exact h
 ·split
  ·show Uw x.ends; unfold Zf.ends; split <;> exact h
  ·split
   ·show Uw (x.take i.n); unfold Zf.take; split <;> exact h
   ·split
    ·show Uw (x.cuts i.tick); unfold Zf.cuts; split <;> exact h
    ·split
     ·exact Zph h _
     ·exact h
theorem Zqz {s : Uk} {p : Xl} {now : Int} (h : Ys (Jf s p now)) : Uw ((Jf s p now).come 0) := Mb (x := (Jf s p now).goes 0) (Vc _ h.pgood).2.1.1
theorem Zcm (x : Zf) : x.enters.s = x.s := by unfold Zf.enters; (repeat' split) <;> rfl
theorem Zg2 (x : Zf) (what : Nat) (tt : Int) : (x.jump what tt).1.s = x.s := by
 unfold Zf.jump;split
 ·rfl
 ·split
  ·rfl
  ·exact Zcm _
theorem Zry (x : Zf) : x.look.1.s = x.s := by
 unfold Zf.look;simp only;split
 ·exact Zg2 _ _ _
 ·split
  ·rfl
  ·split
   ·exact Zg2 _ _ _
   ·split
    ·exact Zg2 _ _ _
    ·rfl
theorem Zr1 (x : Zf) : x.does.1.s = x.s := by
 unfold Zf.does;split
 ·rfl
 ·split
  ·unfold Zf.send; split
   ·rfl
   ·exact Zcm _
  ·split
   ·exact Zry _
   ·split
    ·exact Zg2 _ _ _
    ·split
     ·exact Zcm _
     ·split <;> rfl
theorem Zse (x : Zf) (i : InV) : (x.one i).1.s = x.s := by
 unfold Zf.one;split
 ·show (x.put i.b).1.s = _; unfold Zf.put; split <;> rfl
 ·split
  ·show x.ends.s = _; unfold Zf.ends; split <;> rfl
  ·split
   ·show (x.take i.n).s = _; unfold Zf.take; split <;> rfl
   ·split
    ·show (x.cuts i.tick).s = _; unfold Zf.cuts; split <;> rfl
    ·split
     ·show (x.step i.tick).1.s = _
      unfold Zf.step;split
      ·rfl
      ·exact Zr1 _
     ·rfl
def Zid (s : Uk) : Prop := s.win ≤ 32 ∧ s.ring ≤ 64
section
variable {B d : Nat} {F : Nat → Prop} {w0 w w' : World} {x : Zf}
theorem Zl.facts (h : Zl B F w0 w d x) : Zmk x ∧ x.pd.out = x.s.out.toNat ∧ x.R.length ≤ x.s.ring.toNat ∧ x.seen ≤ x.S.length ∧ x.S.length ≤ x.s.win.toNat ∧ ∀ l ∈ x.P, l.length ≤ 60 := by
 refine ⟨h.pdOk, ?_⟩;obtain ⟨gi, gb, gh, gp, F2, A, c, h⟩ := h;obtain ⟨f, buf, h1, -⟩ := h.ring;obtain ⟨bs, ps, P, -, ⟨-, -, -, -, h4, h5, vb, vp, va, -, -, -, h6⟩, hP⟩ := h.hold;refine ⟨h.out, h1.2.2.2.2.2.2, h4, h5, fun l hl => ?_⟩;rcases h6 with ⟨rfl, -⟩ | ⟨ls, b, ar, rfl, -, -, rfl, hg, -⟩
 ·rw [← hP] at hl; cases hl
 ·rw [← hP] at hl
  obtain ⟨a, ha, rfl⟩ := List.mem_map.1 hl;exact (hg a ha).2.2
theorem Zl.look (h : Zl B F w0 w d x) (hf : Fit x) (hl : Zid x.s) (h0 : x.st = 0) (hk : x.op.kind = 2) : Zbv x := by
 have ha := h.facts;have hp := hf.1 h0 hk;have hr := Qt h.ok.good;have h8 := (Zg7 x h.ok hk).2.1;exact ⟨hp, ha.2.2.2.1, ha.2.2.2.2.1, by have := hl.1; have := hl.2; omega, aa, ha.2.2.2.2.2⟩
end
theorem Qh.keep {b : Nat} {G : Nat → Prop} {w w' : World} {x : Zf} {v : Value} (h : Qh b G w x v) (hk : Za G w w') : Qh b G w' x v :=
 ⟨fun k hk2 => Nat.lt_of_lt_of_le (h.1 k hk2) hk.size, fun W hW => h.2 W (hk.trans hW (fun _ => .inl))⟩
theorem Zkv {P : Program} {C : World → Prop} {K : Act → Prop} {a : Act} {o : Oper} {t : TypeId} {p g : Nat} {xs : List Value} (ho : o.op = .load t (.tmp p)) (hx : a.eval (.tmp p) = .pointer (some ⟨g, 0, none⟩)) (hb : ∀ W, C W → Blk W g t xs.toArray) (ht : Zes P t xs.length)
  (hk : K (a.put o.dst (.agg xs.toArray))) : o.quiet P a C K := by
 obtain ⟨d, h1, h2, h3⟩ := ht;refine ⟨.agg xs.toArray, fun w hw => ?_, hk⟩;unfold Oper.quietAt execOp;simp only [ho, hx, Instr.loadAt, Instr.sureAddr, Sem.run_bind, Sem.run_pure, Result.andThen_ok, run_loadVar_mid w g 0 t xs d (Blk.range (hb w hw)) h1 h2 h3];exact ⟨rfl, rfl⟩
end Go.Proofs.YtpkkfdmhbbipoaaGreat
