/- A dialogue and the reference's beside it: what stays of a script's jumps; what look asks for; a law's loop. Law 22's told: a dialogue and the reference's tell the same. -/
import Derived.Test.YtpkkfdmhbbipoaaGreatRn
import Derived.Test.YtpkkfdmhbbipoaaGreatRh
import Derived.Test.YtpkkfdmhbbipoaaGreatEb
namespace Go.Proofs.YtpkkfdmhbbipoaaGreat
open Go.RowKit PopT
theorem Nt {x : Zd} (h : Ue x) : Ue x.enters := by unfold Zd.enters; (repeat' split) <;> exact h
theorem Zcd {x : Zd} (h : Ue x) (what : Nat) (tt : Int) : Ue (x.jump what tt).1 := by
 unfold Zd.jump;split
 ·exact h
 ·split
  ·exact h
  ·rename_i h2
   refine Nt (x := x.hop.goes tt.toNat) ?_;show ((x.jumps + 1 : Nat) : Int) ≤ x.p.jumps;omega
theorem Zpf {x : Zd} (h : Ue x) : Ue x.look.1 := by
 unfold Zd.look;have hl : ∀ L, Ue (x.looked L) := fun _ => h;simp only;split
 ·exact Zcd (hl _) _ _
 ·split
  ·exact h
  ·split
   ·exact Zcd (hl _) _ _
   ·split
    ·exact Zcd (hl _) _ _
    ·exact h
theorem Zpg {x : Zd} (h : Ue x) : Ue x.does.1 := by
 unfold Zd.does;split
 ·exact h
 ·split
  ·unfold Zd.send; split
   ·exact h
   ·exact Nt (x := x.goes (x.loc + 1)) h
  ·split
   ·exact Zpf h
   ·split
    ·exact Zcd h _ _
    ·split
     ·exact Nt (x := x.goes (x.loc + 1)) h
     ·split <;> exact h
theorem Zpe {x : Zd} (h : Ue x) (now : Int) : Ue (x.step now).1 := by
 unfold Zd.step;split
 ·exact h
 ·exact Zpg (x := x.clock now) h
theorem Zqy {x : Zd} (h : Ue x) (i : InV) : Ue (x.one i).1 := by
 unfold Zd.one;split
 ·show Ue (x.put i.b).1; unfold Zd.put; split <;> exact h
 ·split
  ·show Ue x.ends; unfold Zd.ends; split <;> exact h
  ·split
   ·show Ue (x.take i.n); unfold Zd.take; split <;> exact h
   ·split
    ·show Ue (x.cuts i.tick); unfold Zd.cuts; split <;> exact h
    ·split
     ·exact Zpe h _
     ·exact h
theorem Zqz {s : Qe} {p : Xq} {now : Int} (h : Ys (Qm s p now)) : Ue ((Qm s p now).come 0) := Nt (x := (Qm s p now).goes 0) (Wm _ h.pgood).2.1.1
theorem Zch (x : Zd) : x.enters.s = x.s := by unfold Zd.enters; (repeat' split) <;> rfl
theorem Zgq (x : Zd) (what : Nat) (tt : Int) : (x.jump what tt).1.s = x.s := by
 unfold Zd.jump;split
 ·rfl
 ·split
  ·rfl
  ·exact Zch _
theorem Zrz (x : Zd) : x.look.1.s = x.s := by
 unfold Zd.look;simp only;split
 ·exact Zgq _ _ _
 ·split
  ·rfl
  ·split
   ·exact Zgq _ _ _
   ·split
    ·exact Zgq _ _ _
    ·rfl
theorem Zr1 (x : Zd) : x.does.1.s = x.s := by
 unfold Zd.does;split
 ·rfl
 ·split
  ·unfold Zd.send; split
   ·rfl
   ·exact Zch _
  ·split
   ·exact Zrz _
   ·split
    ·exact Zgq _ _ _
    ·split
     ·exact Zch _
     ·split <;> rfl
theorem Zse (x : Zd) (i : InV) : (x.one i).1.s = x.s := by
 unfold Zd.one;split
 ·show (x.put i.b).1.s = _; unfold Zd.put; split <;> rfl
 ·split
  ·show x.ends.s = _; unfold Zd.ends; split <;> rfl
  ·split
   ·show (x.take i.n).s = _; unfold Zd.take; split <;> rfl
   ·split
    ·show (x.cuts i.tick).s = _; unfold Zd.cuts; split <;> rfl
    ·split
     ·show (x.step i.tick).1.s = _
      unfold Zd.step;split
      ·rfl
      ·exact Zr1 _
     ·rfl
def Zhy (s : Qe) : Prop := s.win ≤ 32 ∧ s.ring ≤ 64
section
variable {B d : Nat} {F : Nat → Prop} {w0 w w' : World} {x : Zd}
theorem Zi.facts (h : Zi B F w0 w d x) : Zmg x ∧ x.pd.out = x.s.out.toNat ∧ x.R.length ≤ x.s.ring.toNat ∧ x.seen ≤ x.S.length ∧ x.S.length ≤ x.s.win.toNat ∧ ∀ l ∈ x.P, l.length ≤ 60 := by
 refine ⟨h.pdOk, ?_⟩;obtain ⟨gi, gb, gh, gp, F2, A, c, h⟩ := h;obtain ⟨f, buf, h1, -⟩ := h.ring;obtain ⟨bs, ps, P, -, ⟨-, -, -, -, h4, h5, vb, vp, va, -, -, -, h6⟩, hP⟩ := h.hold;refine ⟨h.out, h1.2.2.2.2.2.2, h4, h5, fun l hl => ?_⟩;rcases h6 with ⟨rfl, -⟩ | ⟨ls, b, ar, rfl, -, -, rfl, hg, -⟩
 ·rw [← hP] at hl; cases hl
 ·rw [← hP] at hl
  obtain ⟨a, ha, rfl⟩ := List.mem_map.1 hl;exact (hg a ha).2.2
theorem Zi.look (h : Zi B F w0 w d x) (hf : Fit x) (hl : Zhy x.s) (h0 : x.st = 0) (hk : x.op.kind = 2) : Zbq x := by
 have ha := h.facts;have hp := hf.1 h0 hk;have hr := Qp h.ok.good;have h8 := (Zgv x h.ok hk).2.1;exact ⟨hp, ha.2.2.2.1, ha.2.2.2.2.1, by have := hl.1; have := hl.2; omega, aa, ha.2.2.2.2.2⟩
theorem Zi.keepG {G : Nat → Prop} (h : Zi B F w0 w d x) (hk : Za G w w') (hd : ∀ k, F k → ¬ G k) (hG : ∀ k, G k → B ≤ k) : Zi B F w0 w' d x := by
 obtain ⟨gi, gb, gh, gp, F2, A, c, h⟩ := h;exact ⟨gi, gb, gh, gp, F2, A, c, h.keep hk hd hG⟩
end
theorem Vp.mono {b : Nat} {G H : Nat → Prop} {w : World} {x : Zd} {v : Value} (h : Vp b G w x v) (hg : ∀ k, H k → G k) : Vp b H w x v := ⟨fun k hk => h.1 k (hg k hk), fun W hW => h.2 W (hW.mono fun k _ => hg k)⟩
theorem Vp.below {b : Nat} {G : Nat → Prop} {w w' : World} {x : Zd} {v : Value} (h : Vp b G w x v) (hb : Below w.heap.size w w') : Vp b G w' x v :=
 ⟨fun k hk => Nat.lt_of_lt_of_le (h.1 k hk) hb.size, fun W hW => h.2 W ((Za.of_below hb).trans hW (fun _ => .inl))⟩
theorem Vp.keep {b : Nat} {G : Nat → Prop} {w w' : World} {x : Zd} {v : Value} (h : Vp b G w x v) (hk : Za G w w') : Vp b G w' x v :=
 ⟨fun k hk2 => Nat.lt_of_lt_of_le (h.1 k hk2) hk.size, fun W hW => h.2 W (hk.trans hW (fun _ => .inl))⟩
theorem Gd {P : Program} {C : World → Prop} {K : Act → Prop} {a : Act} {o : Oper} {t : TypeId} {p g : Nat} {xs : List Value} (ho : o.op = .load t (.tmp p)) (hx : a.eval (.tmp p) = .pointer (some ⟨g, 0, none⟩)) (hb : ∀ W, C W → Blk W g t xs.toArray) (ht : Zed P t xs.length)
  (hk : K (a.put o.dst (.agg xs.toArray))) : o.quiet P a C K := by
 obtain ⟨d, h1, h2, h3⟩ := ht;refine ⟨.agg xs.toArray, fun w hw => ?_, hk⟩;unfold Oper.quietAt execOp;simp only [ho, hx, Instr.loadAt, Instr.sureAddr, Sem.run_bind, Sem.run_pure, Result.andThen_ok, run_loadVar_mid w g 0 t xs d (Blk.range (hb w hw)) h1 h2 h3];exact ⟨rfl, rfl⟩
end Go.Proofs.YtpkkfdmhbbipoaaGreat
