/- A dialogue and the reference's beside it: what stays of a script's jumps; what look asks for; a law's loop. Law 22's told: a dialogue and the reference's tell the same. -/
import Derived.Test.YtpkkfdmhbbipoaaGreatRn
import Derived.Test.YtpkkfdmhbbipoaaGreatRh
import Derived.Test.YtpkkfdmhbbipoaaGreatEb
namespace Go.Proofs.YtpkkfdmhbbipoaaGreat
open Go.RowKit PopT
theorem Nw {x : Zd} (h : Ue x) : Ue x.enters := by unfold Zd.enters; (repeat' split) <;> exact h
theorem Zcl {x : Zd} (h : Ue x) (what : Nat) (tt : Int) : Ue (x.jump what tt).1 := by
 unfold Zd.jump;split
 ·exact h
 ·split
  ·exact h
  ·rename_i h2
   refine Nw (x := x.hop.goes tt.toNat) ?_;show ((x.jumps + 1 : Nat) : Int) ≤ x.p.jumps;omega
theorem Zpz {x : Zd} (h : Ue x) : Ue x.look.1 := by
 unfold Zd.look;have hl : ∀ L, Ue (x.looked L) := fun _ => h;simp only;split
 ·exact Zcl (hl _) _ _
 ·split
  ·exact h
  ·split
   ·exact Zcl (hl _) _ _
   ·split
    ·exact Zcl (hl _) _ _
    ·exact h
theorem Zp0 {x : Zd} (h : Ue x) : Ue x.does.1 := by
 unfold Zd.does;split
 ·exact h
 ·split
  ·unfold Zd.send; split
   ·exact h
   ·exact Nw (x := x.goes (x.loc + 1)) h
  ·split
   ·exact Zpz h
   ·split
    ·exact Zcl h _ _
    ·split
     ·exact Nw (x := x.goes (x.loc + 1)) h
     ·split <;> exact h
theorem Zpy {x : Zd} (h : Ue x) (now : Int) : Ue (x.step now).1 := by
 unfold Zd.step;split
 ·exact h
 ·exact Zp0 (x := x.clock now) h
theorem Zmq {x : Zd} (h : Ue x) (i : InV) : Ue (x.one i).1 := by
 unfold Zd.one;split
 ·show Ue (x.put i.b).1; unfold Zd.put; split <;> exact h
 ·split
  ·show Ue x.ends; unfold Zd.ends; split <;> exact h
  ·split
   ·show Ue (x.take i.n); unfold Zd.take; split <;> exact h
   ·split
    ·show Ue (x.cuts i.tick); unfold Zd.cuts; split <;> exact h
    ·split
     ·exact Zpy h _
     ·exact h
theorem Zrj {s : Uu} {p : Xq} {now : Int} (h : Yq (Qi s p now)) : Ue ((Qi s p now).come 0) := Nw (x := (Qi s p now).goes 0) (Wm _ h.pgood).2.1.1
theorem Zab (x : Zd) : x.enters.s = x.s := by unfold Zd.enters; (repeat' split) <;> rfl
theorem Zgx (x : Zd) (what : Nat) (tt : Int) : (x.jump what tt).1.s = x.s := by
 unfold Zd.jump;split
 ·rfl
 ·split
  ·rfl
  ·exact Zab _
theorem Zsi (x : Zd) : x.look.1.s = x.s := by
 unfold Zd.look;simp only;split
 ·exact Zgx _ _ _
 ·split
  ·rfl
  ·split
   ·exact Zgx _ _ _
   ·split
    ·exact Zgx _ _ _
    ·rfl
theorem Zsk (x : Zd) : x.does.1.s = x.s := by
 unfold Zd.does;split
 ·rfl
 ·split
  ·unfold Zd.send; split
   ·rfl
   ·exact Zab _
  ·split
   ·exact Zsi _
   ·split
    ·exact Zgx _ _ _
    ·split
     ·exact Zab _
     ·split <;> rfl
theorem Zma (x : Zd) (i : InV) : (x.one i).1.s = x.s := by
 unfold Zd.one;split
 ·show (x.put i.b).1.s = _; unfold Zd.put; split <;> rfl
 ·split
  ·show x.ends.s = _; unfold Zd.ends; split <;> rfl
  ·split
   ·show (x.take i.n).s = _; unfold Zd.take; split <;> rfl
   ·split
    ·show (x.cuts i.tick).s = _; unfold Zd.cuts; split <;> rfl
    ·split
     ·show (x.step i.tick).1.s = _
      unfold Zd.step;split
      ·rfl
      ·exact Zsk _
     ·rfl
def Zh7 (s : Uu) : Prop := s.win ≤ 32 ∧ s.ring ≤ 64
section
variable {B d : Nat} {F : Nat → Prop} {w0 w w' : World} {x : Zd}
theorem Zj.facts (h : Zj B F w0 w d x) : Zmy x ∧ x.pd.out = x.s.out.toNat ∧ x.R.length ≤ x.s.ring.toNat ∧ x.seen ≤ x.S.length ∧ x.S.length ≤ x.s.win.toNat ∧ ∀ l ∈ x.P, l.length ≤ 60 := by
 refine ⟨h.pdOk, ?_⟩;obtain ⟨gi, gb, gh, gp, F2, A, c, h⟩ := h;obtain ⟨f, buf, h1, -⟩ := h.ring;obtain ⟨bs, ps, P, -, ⟨-, -, -, -, h4, h5, vb, vp, va, -, -, -, h6⟩, hP⟩ := h.hold;refine ⟨h.out, h1.2.2.2.2.2.2, h4, h5, fun l hl => ?_⟩;rcases h6 with ⟨rfl, -⟩ | ⟨ls, b, ar, rfl, -, -, rfl, hg, -⟩
 ·rw [← hP] at hl; cases hl
 ·rw [← hP] at hl
  obtain ⟨a, ha, rfl⟩ := List.mem_map.1 hl;exact (hg a ha).2.2
theorem Zj.look (h : Zj B F w0 w d x) (hf : Fit x) (hl : Zh7 x.s) (h0 : x.st = 0) (hk : x.op.kind = 2) : Zby x := by
 have ha := h.facts;have hp := hf.1 h0 hk;have hr := Vw h.ok.good;have h8 := (Zg2 x h.ok hk).2.1;exact ⟨hp, ha.2.2.2.1, ha.2.2.2.2.1, by have := hl.1; have := hl.2; omega, aa, ha.2.2.2.2.2⟩
theorem Zj.keepG {G : Nat → Prop} (h : Zj B F w0 w d x) (hk : Za G w w') (hd : ∀ k, F k → ¬ G k) (hG : ∀ k, G k → B ≤ k) : Zj B F w0 w' d x := by
 obtain ⟨gi, gb, gh, gp, F2, A, c, h⟩ := h;exact ⟨gi, gb, gh, gp, F2, A, c, h.keep hk hd hG⟩
end
theorem Vr.mono {b : Nat} {G H : Nat → Prop} {w : World} {x : Zd} {v : Value} (h : Vr b G w x v) (hg : ∀ k, H k → G k) : Vr b H w x v := ⟨fun k hk => h.1 k (hg k hk), fun W hW => h.2 W (hW.mono fun k _ => hg k)⟩
theorem Vr.below {b : Nat} {G : Nat → Prop} {w w' : World} {x : Zd} {v : Value} (h : Vr b G w x v) (hb : Below w.heap.size w w') : Vr b G w' x v :=
 ⟨fun k hk => Nat.lt_of_lt_of_le (h.1 k hk) hb.size, fun W hW => h.2 W ((Za.of_below hb).trans hW (fun _ => .inl))⟩
theorem Vr.keep {b : Nat} {G : Nat → Prop} {w w' : World} {x : Zd} {v : Value} (h : Vr b G w x v) (hk : Za G w w') : Vr b G w' x v :=
 ⟨fun k hk2 => Nat.lt_of_lt_of_le (h.1 k hk2) hk.size, fun W hW => h.2 W (hk.trans hW (fun _ => .inl))⟩
theorem Js {P : Program} {C : World → Prop} {K : Act → Prop} {a : Act} {o : Oper} {t : TypeId} {p g : Nat} {xs : List Value} (ho : o.op = .load t (.tmp p)) (hx : a.eval (.tmp p) = .pointer (some ⟨g, 0, none⟩)) (hb : ∀ W, C W → Blk W g t xs.toArray) (ht : Zel P t xs.length)
  (hk : K (a.put o.dst (.agg xs.toArray))) : o.quiet P a C K := by
 obtain ⟨d, h1, h2, h3⟩ := ht;refine ⟨.agg xs.toArray, fun w hw => ?_, hk⟩;unfold Oper.quietAt execOp;simp only [ho, hx, Instr.loadAt, Instr.sureAddr, Sem.run_bind, Sem.run_pure, Result.andThen_ok, run_loadVar_mid w g 0 t xs d (Blk.range (hb w hw)) h1 h2 h3];exact ⟨rfl, rfl⟩
end Go.Proofs.YtpkkfdmhbbipoaaGreat
