/- A dialogue and the reference's beside it: what stays of a script's jumps; what look asks for; a law's loop. Law 22's told: a dialogue and the reference's tell the same. -/
import Derived.Test.YtpkkfdmhbbipoaaGreatRn
import Derived.Test.YtpkkfdmhbbipoaaGreatRh
import Derived.Test.YtpkkfdmhbbipoaaGreatEb
namespace Go.Proofs.YtpkkfdmhbbipoaaGreat
set_option maxRecDepth 20000
set_option maxHeartbeats 4000000
open Go.RowKit PopT
theorem Ma {x : Zf} (h : Ug x) : Ug x.enters := by unfold Zf.enters; (repeat' split) <;> exact h
theorem Zcf {x : Zf} (h : Ug x) (what : Nat) (tt : Int) : Ug (x.jump what tt).1 := by
 unfold Zf.jump;split
 ·exact h
 ·split
  ·exact h
  ·rename_i h2
   refine Ma (x := x.hop.goes tt.toNat) ?_;show ((x.jumps + 1 : Nat) : Int) ≤ x.p.jumps;omega
theorem Zpp {x : Zf} (h : Ug x) : Ug x.look.1 := by
 unfold Zf.look;have hl : ∀ L, Ug (x.looked L) := fun _ => h;simp only;split
 ·exact Zcf (hl _) _ _
 ·split
  ·exact h
  ·split
   ·exact Zcf (hl _) _ _
   ·split
    ·exact Zcf (hl _) _ _
    ·exact h
theorem Zpq {x : Zf} (h : Ug x) : Ug x.does.1 := by
 unfold Zf.does;split
 ·exact h
 ·split
  ·unfold Zf.send; split
   ·exact h
   ·exact Ma (x := x.goes (x.loc + 1)) h
  ·split
   ·exact Zpp h
   ·split
    ·exact Zcf h _ _
    ·split
     ·exact Ma (x := x.goes (x.loc + 1)) h
     ·split <;> exact h
theorem Zpo {x : Zf} (h : Ug x) (now : Int) : Ug (x.step now).1 := by
 unfold Zf.step;split
 ·exact h
 ·exact Zpq (x := x.clock now) h
theorem Zq6 {x : Zf} (h : Ug x) (i : InV) : Ug (x.one i).1 := by
 unfold Zf.one;split
 ·show Ug (x.put i.b).1; unfold Zf.put; split <;> exact h
 ·split
  ·show Ug x.ends; unfold Zf.ends; split <;> exact h
  ·split
   ·show Ug (x.take i.n); unfold Zf.take; split <;> exact h
   ·split
    ·show Ug (x.cuts i.tick); unfold Zf.cuts; split <;> exact h
    ·split
     ·exact Zpo h _
     ·exact h
theorem Zq7 {s : Uv} {p : Xo} {now : Int} (h : Yq (Qx s p now)) : Ug ((Qx s p now).come 0) := Ma (x := (Qx s p now).goes 0) (Wn _ h.pgood).2.1.1
theorem Zcj (x : Zf) : x.enters.s = x.s := by unfold Zf.enters; (repeat' split) <;> rfl
theorem Zgt (x : Zf) (what : Nat) (tt : Int) : (x.jump what tt).1.s = x.s := by
 unfold Zf.jump;split
 ·rfl
 ·split
  ·rfl
  ·exact Zcj _
theorem Zr9 (x : Zf) : x.look.1.s = x.s := by
 unfold Zf.look;simp only;split
 ·exact Zgt _ _ _
 ·split
  ·rfl
  ·split
   ·exact Zgt _ _ _
   ·split
    ·exact Zgt _ _ _
    ·rfl
theorem Zsb (x : Zf) : x.does.1.s = x.s := by
 unfold Zf.does;split
 ·rfl
 ·split
  ·unfold Zf.send; split
   ·rfl
   ·exact Zcj _
  ·split
   ·exact Zr9 _
   ·split
    ·exact Zgt _ _ _
    ·split
     ·exact Zcj _
     ·split <;> rfl
theorem Zss (x : Zf) (i : InV) : (x.one i).1.s = x.s := by
 unfold Zf.one;split
 ·show (x.put i.b).1.s = _; unfold Zf.put; split <;> rfl
 ·split
  ·show x.ends.s = _; unfold Zf.ends; split <;> rfl
  ·split
   ·show (x.take i.n).s = _; unfold Zf.take; split <;> rfl
   ·split
    ·show (x.cuts i.tick).s = _; unfold Zf.cuts; split <;> rfl
    ·split
     ·show (x.step i.tick).1.s = _
      unfold Zf.step;split
      ·rfl
      ·exact Zsb _
     ·rfl
def Zh4 (s : Uv) : Prop := s.win ≤ 32 ∧ s.ring ≤ 64
section
variable {B d : Nat} {F : Nat → Prop} {w0 w w' : World} {x : Zf}
theorem Zi.facts (h : Zi B F w0 w d x) : Zj5 x ∧ x.pd.out = x.s.out.toNat ∧ x.R.length ≤ x.s.ring.toNat ∧ x.seen ≤ x.S.length ∧ x.S.length ≤ x.s.win.toNat ∧ ∀ l ∈ x.P, l.length ≤ 60 := by
 refine ⟨h.pdOk, ?_⟩;obtain ⟨gi, gb, gh, gp, F2, A, c, h⟩ := h;obtain ⟨f, buf, h1, -⟩ := h.ring;obtain ⟨bs, ps, P, -, ⟨-, -, -, -, h4, h5, vb, vp, va, -, -, -, h6⟩, hP⟩ := h.hold;refine ⟨h.out, h1.2.2.2.2.2.2, h4, h5, fun l hl => ?_⟩;rcases h6 with ⟨rfl, -⟩ | ⟨ls, b, ar, rfl, -, -, rfl, hg, -⟩
 ·rw [← hP] at hl; cases hl
 ·rw [← hP] at hl
  obtain ⟨a, ha, rfl⟩ := List.mem_map.1 hl;exact (hg a ha).2.2
theorem Zi.look (h : Zi B F w0 w d x) (hf : Fit x) (hl : Zh4 x.s) (h0 : x.st = 0) (hk : x.op.kind = 2) : Zbt x := by
 have ha := h.facts;have hp := hf.1 h0 hk;have hr := Vy h.ok.good;have h8 := (Zgy x h.ok hk).2.1;exact ⟨hp, ha.2.2.2.1, ha.2.2.2.2.1, by have := hl.1; have := hl.2; omega, aa, ha.2.2.2.2.2⟩
theorem Zi.keepG {G : Nat → Prop} (h : Zi B F w0 w d x) (hk : Za G w w') (hd : ∀ k, F k → ¬ G k) (hG : ∀ k, G k → B ≤ k) : Zi B F w0 w' d x := by
 obtain ⟨gi, gb, gh, gp, F2, A, c, h⟩ := h;exact ⟨gi, gb, gh, gp, F2, A, c, h.keep hk hd hG⟩
end
theorem Vs.mono {b : Nat} {G H : Nat → Prop} {w : World} {x : Zf} {v : Value} (h : Vs b G w x v) (hg : ∀ k, H k → G k) : Vs b H w x v := ⟨fun k hk => h.1 k (hg k hk), fun W hW => h.2 W (hW.mono fun k _ => hg k)⟩
theorem Vs.below {b : Nat} {G : Nat → Prop} {w w' : World} {x : Zf} {v : Value} (h : Vs b G w x v) (hb : Below w.heap.size w w') : Vs b G w' x v :=
 ⟨fun k hk => Nat.lt_of_lt_of_le (h.1 k hk) hb.size, fun W hW => h.2 W ((Za.of_below hb).trans hW (fun _ => .inl))⟩
theorem Vs.keep {b : Nat} {G : Nat → Prop} {w w' : World} {x : Zf} {v : Value} (h : Vs b G w x v) (hk : Za G w w') : Vs b G w' x v :=
 ⟨fun k hk2 => Nat.lt_of_lt_of_le (h.1 k hk2) hk.size, fun W hW => h.2 W (hk.trans hW (fun _ => .inl))⟩
theorem Qz {P : Program} {C : World → Prop} {K : Act → Prop} {a : Act} {o : Oper} {t : TypeId} {p g : Nat} {xs : List Value} (ho : o.op = .load t (.tmp p)) (hx : a.eval (.tmp p) = .pointer (some ⟨g, 0, none⟩)) (hb : ∀ W, C W → Blk W g t xs.toArray) (ht : Zeh P t xs.length)
  (hk : K (a.put o.dst (.agg xs.toArray))) : o.quiet P a C K := by
 obtain ⟨d, h1, h2, h3⟩ := ht;refine ⟨.agg xs.toArray, fun w hw => ?_, hk⟩;unfold Oper.quietAt execOp;simp only [ho, hx, Instr.loadAt, Instr.sureAddr, Sem.run_bind, Sem.run_pure, Result.andThen_ok, run_loadVar_mid w g 0 t xs d (Blk.range (hb w hw)) h1 h2 h3];exact ⟨rfl, rfl⟩
theorem Zov {B d b : Nat} {F : Nat → Prop} {w0 w : World} {x : Zf} {v : Value} (hd : Zi B F w0 w d x) (hr : Vt b w x v) (hf : Fit x) (now : Int) :
  Calls Tryz.prog 57 #[.pointer (some ⟨d, 0, none⟩), v, now] w fun e w' => e = .returned (.bool true) ∧ Below w.heap.size w w' := by
 have HDA0 := hid hd; have HDR0 := hid hr; have HFT := hid hf;have HFC := hid hd.facts;obtain ⟨lv, rg, wn, ou, qu, vi, dl, jp, lo, st, ju, d1, d2, d3, wi, se, mo, tr, nw, nm, inn, sS, dn, ot, rs, A, Av, n, c, nv, cv, ef, rfl, hE⟩ := hr.opened;have HE := hid hE;have hbd := Vy hd.ok.good;have HSZ : Hid (x.S.length ≤ 5000 ∧ x.R.length ≤ 5000 ∧ x.pd.text.size ≤ 5000) := by have := HFC.out; have := hf.2; rw [Hid]; omega
 have HRG : Hid ((0 ≤ rg ∧ rg ≤ 4096) ∧ inn.size ≤ 4096 ∧ 0 ≤ st) := by have := HFC.out; rw [Hid, hE.e1, hE.e15, hE.e10, Vj]; omega
 obtain ⟨rv, hrv⟩ := nE (x.ready now);obtain ⟨pv, hpv⟩ := nE (((x.price : Nat) : Int));obtain ⟨nx, hnx⟩ := nE ((if x.st = 0 then x.due.first else (9223372036854775807 : Int)));obtain ⟨rm, hrm⟩ := nE ((if x.st = 0 ∧ x.eof = false then (x.s.ring.toNat : Int) - (x.R.length : Int) else 0))
 have HRM2 : Hid ((if st = 0 ∧ ef = false then rg - (inn.size : Int) else 0) = rm) := by
  rw [Hid, ← hrm, hE.e10, hE.e23, hE.e1, hE.e15, Vj, Int.toNat_of_nonneg aa];simp only [Int.natCast_eq_zero]
 have HRV := hid hrv; have HPV := hid hpv; have HNX := hid hnx; have HRM := hid hrm;clear hd hr hf hE hbd hrv hpv hnx hrm;go_enter Tryz.func57, Tryz.ntmps57;go_upto_region 1 with fail;obtain ⟨wz, hwz⟩ := nE (w.alloc (.cells #[lv, rg, wn, ou, qu, vi, nm, dl, jp, .slice A n c, lo, st, ju, d1, d2, d3, inn, wi, sS, se, .slice Av nv cv, dn, ot, rs, mo, tr, ef, nw] 41));have HZ := bn hwz;have HBZ := ba hwz;obtain ⟨gx, hgx⟩ := nE (w.heap.size);rw [hwz, hgx];rw [hgx] at HZ;clear hwz hgx;have HDA : Hid (∀ q : BW wz.heap.size wz, Zi B F w0 q.1 d x) := fun q => HDA0.below (HBZ.trans (q.2.mono HBZ.size));have HDR : Hid (∀ q : BW wz.heap.size wz, Vt b q.1 x (.agg #[lv, rg, wn, ou, qu, vi, nm, dl, jp, .slice A n c, lo, st, ju, d1, d2, d3, inn, wi, sS, se, .slice Av nv cv, dn, ot, rs, mo, tr, ef, nw])) := fun q => HDR0.below (HBZ.trans (q.2.mono HBZ.size));have HXQ : Hid (∀ W, (∃ q : BW wz.heap.size wz, W = q.1) → Blk W gx 41 #[lv, rg, wn, ou, qu, vi, nm, dl, jp, .slice A n c, lo, st, ju, d1, d2, d3, inn, wi, sS, se, .slice Av nv cv, dn, ot, rs, mo, tr, ef, nw]) := by rintro W ⟨q, rfl⟩; exact HZ.below q.2 HZ.lt
 have T10 := tA (HZ.out) 10 lo rfl;have T11 := tA (HZ.out) 11 st rfl;have T12 := tA (HZ.out) 12 ju rfl;have C1 : Hid (∀ q : BW wz.heap.size wz, Calls Tryz.prog 23 #[.pointer (some ⟨d, 0, none⟩), now] q.1 fun e w' => e = .returned rv ∧ Below q.1.heap.size q.1 w') := fun q => by rw [← HRV.out]; exact Zsf (HDA.out q) now
 have C2 : Hid (∀ q : BW wz.heap.size wz, Calls Tryz.prog 86 #[.agg #[lv, rg, wn, ou, qu, vi, nm, dl, jp, .slice A n c, lo, st, ju, d1, d2, d3, inn, wi, sS, se, .slice Av nv cv, dn, ot, rs, mo, tr, ef, nw], now] q.1 fun e w' => e = .returned rv ∧ Below q.1.heap.size q.1 w') := fun q => by rw [← HRV.out]; exact Zme (HDR.out q) (Below.refl _ _) HFC.1 now
 have C3 : Hid (∀ q : BW wz.heap.size wz, Calls Tryz.prog 48 #[.pointer (some ⟨d, 0, none⟩)] q.1 fun e w' => e = .returned pv ∧ Below q.1.heap.size q.1 w') := fun q => by rw [← HPV.out]; exact Zsg (HDA.out q) HFT.out
 have C4 : Hid (∀ q : BW wz.heap.size wz, Calls Tryz.prog 104 #[.agg #[lv, rg, wn, ou, qu, vi, nm, dl, jp, .slice A n c, lo, st, ju, d1, d2, d3, inn, wi, sS, se, .slice Av nv cv, dn, ot, rs, mo, tr, ef, nw]] q.1 fun e w' => e = .returned pv ∧ Below q.1.heap.size q.1 w') := fun q => by rw [← HPV.out]; exact Zqw (HDR.out q) (Below.refl _ _) (HDA.out q).ok HFC.2.2.2.1 HSZ.1 HSZ.2.1 HSZ.2.2 HFC.1
 have C5 : Hid (∀ q : BW wz.heap.size wz, Calls Tryz.prog 25 #[.pointer (some ⟨d, 0, none⟩)] q.1 fun e w' => e = .returned nx ∧ Below q.1.heap.size q.1 w') := fun q => by rw [← HNX.out]; exact Zs0 (HDA.out q)
 have C6 : Hid (∀ q : BW wz.heap.size wz, Calls Tryz.prog 105 #[.agg #[lv, rg, wn, ou, qu, vi, nm, dl, jp, .slice A n c, lo, st, ju, d1, d2, d3, inn, wi, sS, se, .slice Av nv cv, dn, ot, rs, mo, tr, ef, nw]] q.1 fun e w' => e = .returned nx ∧ Below q.1.heap.size q.1 w') := fun q => by rw [← HNX.out]; exact Zr3 (HDR.out q)
 have C7 : Hid (∀ q : BW wz.heap.size wz, Calls Tryz.prog 24 #[.pointer (some ⟨d, 0, none⟩)] q.1 fun e w' => e = .returned st ∧ Below q.1.heap.size q.1 w') := fun q => by rw [HE.e10]; exact (Zrk (HDA.out q)).mono (fun e w' h => ⟨h.1, dq⟩)
 have C8 : Hid (∀ q : BW wz.heap.size wz, Calls Tryz.prog 21 #[.pointer (some ⟨d, 0, none⟩)] q.1 fun e w' => e = .returned lo ∧ Below q.1.heap.size q.1 w') := fun q => by rw [HE.e9]; exact (Zs1 (HDA.out q)).mono (fun e w' h => ⟨h.1, dq⟩)
 have C9 : Hid (∀ q : BW wz.heap.size wz, Calls Tryz.prog 106 #[.pointer (some ⟨d, 0, none⟩)] q.1 fun e w' => e = .returned ju ∧ Below q.1.heap.size q.1 w') := fun q => by rw [HE.e11]; exact (Zsh (HDA.out q)).mono (fun e w' h => ⟨h.1, dq⟩)
 refine Zk wz.heap.size ab ab ?_
 repeat (first | (refine BigFrame.wpQuiet_want rfl fun K hK => ?_; refine Qz rfl rfl HXQ.out (Zx [lv, rg, wn, ou, qu, vi, nm, dl, jp, .slice A n c, lo, st, ju, d1, d2, d3, inn, wi, sS, se, .slice Av nv cv, dn, ot, rs, mo, tr, ef, nw] rfl) ?_; refine hK _ ?_; simp only [Act.put, List.setIfInBounds_toArray, List.set_cons_succ, List.set_cons_zero]; clear hK; clear K) | go_big_quiet_step (first | (go_at_call 23; exact Ul (Nat.le_refl _) C1.out _) | (go_at_call 86; exact Ul (Nat.le_refl _) C2.out _) | (go_at_call 48; exact Ul (Nat.le_refl _) C3.out _) | (go_at_call 104; exact Ul (Nat.le_refl _) C4.out _) | (go_at_call 25; exact Ul (Nat.le_refl _) C5.out _) | (go_at_call 105; exact Ul (Nat.le_refl _) C6.out _) | (go_at_call 24; exact Ul (Nat.le_refl _) C7.out _) | (go_at_call 21; exact Ul (Nat.le_refl _) C8.out _) | (go_at_call 106; exact Ul (Nat.le_refl _) C9.out _)))
 refine wpQuiet_nil ?_;intro w1 hq;have HB1 : Hid (Below w.heap.size w w1) := by obtain ⟨q, rfl⟩ := hq; exact HBZ.trans (q.2.mono HBZ.size)
 have HZ1 : Hid (Blk w1 gx 41 #[lv, rg, wn, ou, qu, vi, nm, dl, jp, .slice A n c, lo, st, ju, d1, d2, d3, inn, wi, sS, se, .slice Av nv cv, dn, ot, rs, mo, tr, ef, nw]) := HXQ.out w1 hq;clear hq T10 T11 T12 HXQ HDA HDR HZ HBZ C1 C2 C3 C4 C5 C6 C7 C8 C9 HRV HPV HNX HSZ;have HDA : Hid (∀ q : BW w1.heap.size w1, Zi B F w0 q.1 d x) := fun q => HDA0.below (HB1.trans (q.2.mono HB1.size));have HXQ : Hid (∀ W, (∃ q : BW w1.heap.size w1, W = q.1) → Blk W gx 41 #[lv, rg, wn, ou, qu, vi, nm, dl, jp, .slice A n c, lo, st, ju, d1, d2, d3, inn, wi, sS, se, .slice Av nv cv, dn, ot, rs, mo, tr, ef, nw]) := by rintro W ⟨q, rfl⟩; exact HZ1.below q.2 HZ1.lt
 have T16 := tA (HZ1.out) 16 inn rfl;have T18 := tA (HZ1.out) 18 sS rfl;have T22 := tA (HZ1.out) 22 ot rfl;have T26 := tA (HZ1.out) 26 ef rfl;have K1 : Hid (∀ q : BW w1.heap.size w1, Calls Tryz.prog 54 #[.pointer (some ⟨d, 0, none⟩)] q.1 fun e w' => e = .returned rm ∧ Below q.1.heap.size q.1 w') := fun q => by rw [← HRM.out]; exact Zsz (HDA.out q)
 have K2 : Hid (∀ q : BW w1.heap.size w1, Calls Tryz.prog 107 #[.agg #[lv, rg, wn, ou, qu, vi, nm, dl, jp, .slice A n c, lo, st, ju, d1, d2, d3, inn, wi, sS, se, .slice Av nv cv, dn, ot, rs, mo, tr, ef, nw]] q.1 fun e w' => e = .returned rm ∧ Below q.1.heap.size q.1 w') := fun q => by rw [← HRM2.out]; exact Zmd lv rg wn ou qu vi dl jp lo st ju d1 d2 d3 wi se mo tr nw nm inn sS dn ot rs A Av n c nv cv ef q.1 HRG.1 HRG.2.1 HRG.2.2
 have K3 : Hid (∀ q : BW w1.heap.size w1, Calls Tryz.prog 51 #[.pointer (some ⟨d, 0, none⟩)] q.1 fun e w' => e = .returned (inn.size : Int) ∧ Below q.1.heap.size q.1 w') := fun q => by rw [HE.e15, Vj]; exact (Zse (HDA.out q)).mono (fun e w' h => ⟨h.1, dq⟩)
 have K4 : Hid (∀ q : BW w1.heap.size w1, Calls Tryz.prog 52 #[.pointer (some ⟨d, 0, none⟩)] q.1 fun e w' => e = .returned sS ∧ Below q.1.heap.size q.1 w') := fun q => by rw [HE.e17]; exact Zrj (HDA.out q)
 have K5 : Hid (∀ q : BW w1.heap.size w1, Calls Tryz.prog 53 #[.pointer (some ⟨d, 0, none⟩)] q.1 fun e w' => e = .returned ot ∧ Below q.1.heap.size q.1 w') := fun q => by rw [HE.e20]; exact Zqm (HDA.out q)
 have K6 : Hid (∀ q : BW w1.heap.size w1, Calls Tryz.prog 108 #[.pointer (some ⟨d, 0, none⟩)] q.1 fun e w' => e = .returned ef ∧ Below q.1.heap.size q.1 w') := fun q => by rw [HE.e23]; exact (Zsi (HDA.out q)).mono (fun e w' h => ⟨h.1, dq⟩)
 go_upto_region 3 with fail;refine Zk w1.heap.size ab ab ?_
 repeat (first | (refine BigFrame.wpQuiet_want rfl fun K hK => ?_; refine Qz rfl rfl HXQ.out (Zx [lv, rg, wn, ou, qu, vi, nm, dl, jp, .slice A n c, lo, st, ju, d1, d2, d3, inn, wi, sS, se, .slice Av nv cv, dn, ot, rs, mo, tr, ef, nw] rfl) ?_; refine hK _ ?_; simp only [Act.put, List.setIfInBounds_toArray, List.set_cons_succ, List.set_cons_zero]; clear hK; clear K) | go_big_quiet_step (first | (go_at_call 54; exact Ul (Nat.le_refl _) K1.out _) | (go_at_call 107; exact Ul (Nat.le_refl _) K2.out _) | (go_at_call 51; exact Ul (Nat.le_refl _) K3.out _) | (go_at_call 52; exact Ul (Nat.le_refl _) K4.out _) | (go_at_call 53; exact Ul (Nat.le_refl _) K5.out _) | (go_at_call 108; exact Ul (Nat.le_refl _) K6.out _)))
 refine wpQuiet_nil ?_;intro w2 hq;have HB2 : Hid (Below w.heap.size w w2) := by obtain ⟨q, rfl⟩ := hq; exact HB1.trans (q.2.mono HB1.size)
 clear hq;go_wp2_with fail;go_ret;exact ⟨rfl, HB2.out⟩
end Go.Proofs.YtpkkfdmhbbipoaaGreat
