/- DialWakes: for all plays the law answers true. No condition. -/
import Derived.Test.YtpkkfdmhbbipoaaGreatLp
import Derived.Test.YtpkkfdmhbbipoaaGreatLq
import Derived.Test.YtpkkfdmhbbipoaaGreatMi
import Derived.Test.YtpkkfdmhbbipoaaGreatEb
namespace Go.Proofs.YtpkkfdmhbbipoaaGreat
set_option maxRecDepth 100000
set_option maxHeartbeats 16000000
open Go.RowKit PopT
def Qz (x : Zd) : Prop := x.st = 0 → x.op.kind ≠ 2 → x.op.kind ≠ 4 → x.due.til = Yn
theorem Zkb {x : Zd} (h : x.due.til = Yn) : Qz x.enters := by
 have e : x.enters.op = x.op := by unfold Zd.enters; (repeat' split) <;> rfl
 intro _ h2 h4;rw [e] at h2 h4;unfold Zd.enters;rw [if_neg h2, if_neg h4];split <;> exact h
theorem Zb9 (x : Zd) (tt : Nat) : Qz (x.come tt) := Zkb (x := x.goes tt) rfl
theorem Mr (x : Zd) {n : Nat} (h : n ≠ 0) : Qz (x.stop n) := fun h0 => absurd h0 h
theorem Zb8 (x : Zd) (what : Nat) (tt : Int) : Qz (x.jump what tt).1 := by
 unfold Zd.jump;split
 ·exact Mr x aa
 ·split
  ·exact Mr x aa
  ·exact Zb9 _ _
theorem Zok {x : Zd} (h : Qz x) : Qz x.look.1 := by
 unfold Zd.look;simp only;split
 ·exact Zb8 _ _ _
 ·split
  ·exact Mr _ aa
  ·split
   ·exact Zb8 _ _ _
   ·split
    ·exact Zb8 _ _ _
    ·exact h
theorem Zol {x : Zd} (h : Qz x) : Qz x.does.1 := by
 unfold Zd.does;split
 ·rename_i h0; exact Mr x h0
 ·split
  ·unfold Zd.send; split
   ·exact h
   ·exact Zb9 _ _
  ·split
   ·exact Zok h
   ·split
    ·exact Zb8 _ _ _
    ·split
     ·exact Zb9 _ _
     ·split <;> exact Mr x aa
theorem Zqh {x : Zd} (h : Qz x) (i : InV) : Qz (x.one i).1 := by
 unfold Zd.one;split
 ·show Qz (x.put i.b).1; unfold Zd.put; split <;> exact h
 ·split
  ·show Qz x.ends; unfold Zd.ends; split <;> exact h
  ·split
   ·show Qz (x.take i.n); unfold Zd.take; split <;> exact h
   ·split
    ·show Qz (x.cuts i.tick); unfold Zd.cuts; split <;> exact h
    ·split
     ·show Qz (x.step i.tick).1
      unfold Zd.step;split
      ·exact h
      ·exact Zol (x := x.clock i.tick) h
     ·exact h
theorem Zgx (t m : Int) (hm : 0 ≤ m) : Wr t m = true ↔ t ≠ Yn ∧ Yk t ≤ m := by
 unfold Wr;rw [Bool.and_eq_true, decide_eq_true_eq, decide_eq_true_eq, show Yk m = m from if_neg aa]
theorem Zqs (t : Int) : Yk (Yk t) = Yk t := by unfold Yk; (repeat' split) <;> omega
theorem Zgd (t : Int) : Yk t = Yn ↔ t = Yn := by unfold Yk Yn; split <;> omega
theorem Zo0 (d : Vf) (m : Int) (hm : 0 ≤ m) : d.over m ≠ 0 ↔ min (Yk d.lim) (Yk d.cut) ≠ Yn ∧ min (Yk d.lim) (Yk d.cut) ≤ m := by
 have h1 := Zgx (Yk d.lim) m hm;have h2 := Zgx (Yk d.cut) m hm;rw [Zqs] at h1 h2;unfold Vf.over;split
 ·rename_i h
  refine ⟨fun _ => ?_, fun _ => aa⟩;have := h1.1 h.2;omega
 ·rename_i h
  split
  ·rename_i h3
   refine ⟨fun _ => ?_, fun _ => aa⟩;have := h2.1 h3.2;omega
  ·rename_i h3
   refine ⟨fun h => absurd rfl h, fun hq => ?_⟩;exfalso;by_cases hl : Yk d.lim ≤ Yk d.cut
   ·exact h ⟨hl, h1.2 aa⟩
   ·exact h3 ⟨aa, h2.2 aa⟩
theorem Zjk (d : Vf) : d.first = min (min (min Yn (Yk d.til)) (Yk d.lim)) (Yk d.cut) := rfl
theorem Zj2 {t : Int} (h : t ≤ 9223372036854775807) : Yk t ≤ Yn := (Jg h).2
theorem N52{P:Prop}(h:P:=by
 refine Bool.eq_iff_iff.2 ?_;rw [Zgx _ _ hM, decide_eq_true_eq];have := Zgd x.due.til;constructor
 ·intro ⟨a, b⟩; have : Yk x.due.til ≠ Yn := fun e => a (this.1 e); omega
 ·intro h; exact ⟨fun e => by have := this.2 e; omega, aa⟩):P:=h
theorem Zl0 {x : Zd} (hok : Ys x) (ht : Qz x) (h0 : x.st = 0) (hr : x.ready x.now = false) (t : Int) : x.ready t = decide (x.due.first ≠ Yn ∧ x.due.first ≤ max t x.now) := by
 have hn := hok.now;have hm : ∀ m, 0 ≤ m → (x.due.over m ≠ 0 ↔ _) := Zo0 x.due;have l1 := Zj2 hok.til.2; have l2 := Zj2 hok.lim.2; have l3 := Zj2 hok.cut.2;have hf := Zjk x.due;unfold Zd.ready at hr ⊢;rw [decide_eq_true h0, Bool.true_and] at hr ⊢;rw [Int.max_self] at hr;have hM : 0 ≤ max t x.now := aa
 obtain ⟨M, hMe⟩ := nE (max t x.now);have hMN : x.now ≤ M := aa
 rw [hMe] at hM ⊢;unfold Zd.readyM at hr ⊢
 have o0 : x.due.over x.now = 0 := by
  by_cases h : x.due.over x.now = 0
  ·exact h
  ·rw [if_pos h] at hr; cases hr
 rw [if_neg aa] at hr;have oM := hm M hM;have key : x.due.over M = 0 → ¬ (min (Yk x.due.lim) (Yk x.due.cut) ≠ Yn ∧ min (Yk x.due.lim) (Yk x.due.cut) ≤ M) := fun h h2 => oM.2 h2 h;by_cases ho : x.due.over M ≠ 0
 ·rw [if_pos ho]
  have h2 := oM.1 ho;exact (decide_eq_true ⟨aa, aa⟩).symm
 rw [if_neg ho];have h2 := key aa;by_cases k1 : x.op.kind = 1
 ·rw [if_pos k1] at hr ⊢
  have htil := ht h0 aa aa;rw [hr];have := (Zgd x.due.til).2 htil;exact (decide_eq_false (fun h => aa)).symm
 rw [if_neg k1] at hr ⊢;by_cases k2 : x.op.kind = 2
 ·rw [if_pos k2] at hr ⊢
  rw [Bool.or_eq_false_iff] at hr;rw [hr.1, Bool.false_or];exact N52
 rw [if_neg k2] at hr ⊢;by_cases k4 : x.op.kind = 4
 ·rw [if_pos k4] at hr ⊢
  exact N52
 ·rw [if_neg k4] at hr; cases hr
theorem Zj8 {x : Zd} (hok : Ys x) (ht : Qz x) (h0 : x.st = 0) (hr : x.ready x.now = false) (hf : x.due.first ≠ Yn) : x.now < x.due.first := by
 have h := Zl0 hok ht h0 hr x.now;rw [hr, Int.max_self] at h;have h2 := of_decide_eq_false h.symm;have : ¬ x.due.first ≤ x.now := fun h3 => h2 ⟨hf, h3⟩
 omega
theorem bF2 {f : Int} (h : ¬ f = Yn) : (f == 9223372036854775807) = false := beq_eq_false_iff_ne.2 h
theorem Uc.nowc {b : Nat} {w : World} {x : Zd} {cs : List Value} (h : Uc b w x (.agg cs.toArray)) : cs[27]? = some (.int .i64 x.now) := by
 obtain ⟨A, c, Av, nv, cv, tr, e, -, -⟩ := h;injection e with e
 have e2 : cs = Zju x A c Av nv cv tr := by simpa using congrArg Array.toList e
 rw [e2]; rfl
theorem N89{P:Prop}(h:P:=by
 go_wp2_with fail;go_roundw
 case rel => exact ⟨i + 1, x2, cs2, F2, aa, aw, HT2.out, HL8.out⟩
 case measure => simp [intOf]; omega):P:=h
theorem Zfr (A : Option Addr) (c : Nat) (B : Option Addr) (k : Nat) (x : Mo) (w : World) (hx : Zcx w x A B k) :
  Calls Tryz.prog 4 #[x.val A c B k] w fun e w' => e = .returned (.bool true) ∧ Below w.heap.size w w' := by
 have CSM : Hid (∀ W, Calls Tryz.prog 12 #[x.s.val] W fun e w' => e = .returned (.bool (Zbl x.s)) ∧ Below W.heap.size W w') := fun W => Ziv x.s W;have CBG : Hid (∀ W, Below w.heap.size w W → Calls Tryz.prog 14 #[x.val A c B k] W fun e w' => Zeh x.s (Ub x.p 9) x.now W e w') := fun W hb => Zn0 x A c B k W (hx.below hb)
 have CFI : Hid (∀ W, Below w.heap.size w W → Calls Tryz.prog 15 #[.slice B x.l.length k, .int .i64 20] W fun e w' => ∃ g c', e = .returned (.slice (some ⟨g, 0, none⟩) (Qn x.l 20).length c') ∧ w'.ownsRow W.heap.size 46 4 (.slice (some ⟨g, 0, none⟩) (Qn x.l 20).length c') (Qn x.l 20).length (Xo (Qn x.l 20)) ∧ Below W.heap.size W w') := fun W hb =>
  Znp B x.l.length k x.l 20 W rfl (hx.rd.below hb) hx.iok aa
 have CLV := hid (fun W => Zi9 W);have HIO : Hid (∀ i ∈ Qn x.l 20, i.ok ∧ i.b.size ≤ 1000000) := fun i hi => ⟨Zq3 hx.iok 20 i hi, Zlc x.l 20 i hi⟩;have HLI : Hid ((Qn x.l 20).length ≤ 20) := Zjg x.l 20
 have HNV : Hid (Zbl x.s = true → Zbk x.s (Ub x.p 9) = 0 → Fit ((Qm x.s (Ub x.p 9) x.now).come 0) ∧ Ue ((Qm x.s (Ub x.p 9) x.now).come 0) ∧ Zhy ((Qm x.s (Ub x.p 9) x.now).come 0).s) := fun hsm h => by
  have hg : Vh x.s = true := by unfold Zbk at h; split at h; cases h; rename_i h2; simpa using h2
  have hok := Zd8 x.s (Ub x.p 9) x.now hg (by unfold Zbk at h; split at h; cases h; split at h; cases h; rename_i h2; omega) (Zmd x.p 9 hx.pok) hx.now;refine ⟨Zmc hok, Zqz hok, ?_⟩;rw [show ((Qm x.s (Ub x.p 9) x.now).come 0).s = x.s from Zch _];unfold Zbl at hsm;rw [hg] at hsm;simp only [Bool.not_true, Bool.false_or, Bool.and_eq_true, decide_eq_true_eq] at hsm;exact ⟨aa, aa⟩
 have HTL : Hid (Qz ((Qm x.s (Ub x.p 9) x.now).come 0)) := Zb9 _ _;obtain ⟨s, p, now, l, ask⟩ := x;unfold Mo.val;unfold Mo.val at CBG;simp only at CSM CBG CFI HIO HLI HNV HTL ⊢;obtain ⟨n, hnn⟩ := nE (l.length);obtain ⟨m, hmm⟩ := nE (p.ops.length);obtain ⟨pf, hpf⟩ := nE (Ub p 9);obtain ⟨li, hli⟩ := nE (Qn l 20);rw [hnn, hmm] at CBG;rw [hnn, hli] at CFI;rw [hli] at HIO HLI;rw [hpf] at CBG HNV;rw [hpf] at HTL;rw [hnn, hmm];clear hnn hmm hpf hli hx;obtain ⟨ql, hql⟩ := nE (li.length);have HQL := hid hql;rw [hql] at CFI HLI;clear hql;obtain ⟨er, her⟩ := nE (Zbk s pf);have HER := hid her;rw [her] at HNV;obtain ⟨X0, hX0⟩ := nE ((Qm s pf now).come 0)
 have HBQ : Hid (∀ W e w', Zeh s pf now W e w' → Below W.heap.size W w' ∧ ∃ (q : Option Addr) (cs : List Value) (ok : Bool), e = .returned (.tuple #[.pointer q, .agg cs.toArray, ok]) ∧ cs.length = 28 ∧ cs.toArray.all (·.oneCell') = true ∧ ok = decide (er = 0) ∧
   (ok = true → ∃ w0 d B F, q = some ⟨d, 0, none⟩ ∧ W.heap.size ≤ B ∧ Zi B F w0 w' d X0 ∧ Vp W.heap.size F w' X0 (.agg cs.toArray))) := fun W e w' h => by
  obtain ⟨h1, q, cs, ok, h2, h3, h4, h5, h6⟩ := h;refine ⟨h1, q, cs, ok, h2, h3, h4, by rw [h5, her], fun h => ?_⟩;obtain ⟨w0, d, B, F, a1, a2, a3, a4⟩ := h6 h;exact ⟨w0, d, B, F, a1, a2, by rw [← hX0]; exact a3, by rw [← hX0]; exact a4⟩
 rw [hX0] at HNV HTL;obtain ⟨sm, hsm⟩ := nE (Zbl s);rw [hsm] at CSM HNV;clear hsm her hX0;obtain ⟨lv, rg, wn, ou, qu, vi⟩ := s;obtain ⟨nm, dl, jp, ops⟩ := p;unfold Qe.val at CSM;simp only at CSM CBG ⊢;obtain ⟨BQ, hBQ⟩ : ∃ f : World → Ending → World → Prop, Zeh ⟨lv, rg, wn, ou, qu, vi⟩ pf now = f := ⟨_, rfl⟩;rw [hBQ] at CBG HBQ;clear hBQ;go_enter Tryz.func4, Tryz.ntmps4;go_upto_region 1 with fail;generalize hwz : w.alloc (.cells #[lv, rg, wn, ou, qu, vi, nm, dl, jp, .slice A m c, now, .slice B n k, ask] 29) = wz;have HXX := bn hwz;have HB := ba hwz;obtain ⟨gp, hgx⟩ := nE (w.heap.size);have HGX := hid hgx;rw [hgx] at HXX ⊢;clear hwz hgx;have x0 := cA HXX.out 0 lv rfl;have x1 := cA HXX.out 1 rg rfl;have x2 := cA HXX.out 2 wn rfl;have x3 := cA HXX.out 3 ou rfl;have x4 := cA HXX.out 4 qu rfl;have x5 := cA HXX.out 5 vi rfl;have xl := HXX.lt;go_wp2_with fail;refine (CSM.out _).mono ?_;rintro en w1 ⟨rfl, hb⟩;have HX1 := bb HXX hb;have HB1 := bt HB hb;clear hb x0 x1 x2 x3 x4 x5 xl HXX HB CSM;cases sm
 ·go_wp2_with fail
  refine (CLV.out _).mono ?_;rintro en w2 ⟨rfl, hb⟩;have HB2 := bt HB1 hb;clear hb;go_wp2_with fail;go_ret;exact ⟨rfl, HB2.out⟩
 have CB := hid (CBG.out w1 HB1.out);clear CBG;go_wp2_with (refine wpList_load_mid rfl 29 _ rfl gp 0 rfl _ _ (Blk.range HX1.out) Tryz.underlying29 rfl Zfx ?_);refine CB.mono ?_;intro en w2 hq;obtain ⟨hb, q, cs0, ok, rfl, hl, ha, hok, hd⟩ := HBQ.out _ _ _ hq;have HL := hid hl; have HA := hid ha; have HOK := hid hok; have HDD := hid hd;have HX2 := bb HX1 hb;have HB2 := bt HB1 hb;have HS12 : Hid (gp < w1.heap.size ∧ w.heap.size ≤ w1.heap.size ∧ w1.heap.size ≤ w2.heap.size) := ⟨HX1.lt, HB1.size, hb.size⟩;clear hb hl ha hok hd hq CB HX1 HB1 HBQ;have HSZ1 : Hid ((Tryz.prog.info? 41).map (·.size) = some cs0.toArray.size) := ek
 have HSZ2 : Hid ((#[.int .i64 0, .int .i64 0, .int .i64 0, .int .i64 0, .int .i64 0, .int .i64 0, .string ⟨#[]⟩, .int .i64 0, .int .i64 0, .slice none 0 0, .int .i64 0, .int .i64 0, .int .i64 0, .int .i64 0, .int .i64 0, .int .i64 0, .string ⟨#[]⟩, .int .i64 0, .string ⟨#[]⟩, .int .i64 0, .slice none 0 0, .string ⟨#[]⟩, .string ⟨#[]⟩, .string ⟨#[]⟩, .int .i64 0, .int .i64 0, .bool false, .int .i64 0] : Array Value).size = cs0.toArray.size) := by
  have h28 : cs0.toArray.size = 28 := by rw [List.size_toArray, HL.out]
  rw [Hid, h28]; rfl
 have HGQ : Hid (Blk (w2.alloc (.cells zd 41)) w2.heap.size 41 #[.int .i64 0, .int .i64 0, .int .i64 0, .int .i64 0, .int .i64 0, .int .i64 0, .string ⟨#[]⟩, .int .i64 0, .int .i64 0, .slice none 0 0, .int .i64 0, .int .i64 0, .int .i64 0, .int .i64 0, .int .i64 0, .int .i64 0, .string ⟨#[]⟩, .int .i64 0, .string ⟨#[]⟩, .int .i64 0, .slice none 0 0, .string ⟨#[]⟩, .string ⟨#[]⟩, .string ⟨#[]⟩, .int .i64 0, .int .i64 0, .bool false, .int .i64 0]) := Blk.new w2 _ _;go_upto_region 4 with (refine wpList_store_row rfl 41 _ _ rfl w2.heap.size cs0.toArray rfl rfl 41 _ HGQ.out HSZ1.out HSZ2.out HA.out ?_);obtain ⟨w3, hw3⟩ := nE ((w2.alloc (.cells zd 41)).setRow w2.heap.size cs0.toArray)
 have HBW : Hid (Below w2.heap.size w2 w3) := by
  rw [← hw3];have h1 : Below w2.heap.size w2 (w2.alloc (.cells zd 41)) := (Below.refl _ _).alloc (Nat.le_refl _) _;exact h1.trans ((Za.setRow (fun k => k = w2.heap.size) _ _ _ rfl).below h1.size (fun k (e : k = w2.heap.size) => by rw [e]; exact Nat.le_refl _))
 have HGR : Hid (Blk w3 w2.heap.size 41 cs0.toArray) := hw3 ▸ HGQ.setRow _;obtain ⟨gx, hgx⟩ := nE (w2.heap.size);have HGE : Hid (w2.heap.size ≤ gx) := Nat.le_of_eq hgx;rw [hw3, hgx];rw [hgx] at HGR;clear hw3 HSZ1 HSZ2 HGQ hgx;have HX3 := bb HX2 HBW;have HB3 := bt HB2 HBW;cases ok
 ·go_wp2_with fail
  refine (CLV.out _).mono ?_;rintro en w4 ⟨rfl, hb⟩;have HB4 := bt HB3 hb;clear hb;go_wp2_with fail;go_ret;exact ⟨rfl, HB4.out⟩
 have her : er = 0 := by have := HOK.out; simpa using this.symm
 subst her;have HF0 := hid (HNV.out (by first | rfl | trivial) (by first | rfl | trivial));obtain ⟨w0, d, B0, F0, rfl, hB, hd, hr⟩ := HDD.out rfl;have HST : Hid (∀ W, Below w3.heap.size w3 W → Mp w1.heap.size B0 d gx F0 w0 W W X0 cs0 F0) := fun W hW => Zi8 hd hr HBW.out HGR.out HGE.out hW HL.out HA.out HS12.2.2 HF0.1 HF0.2.1 HF0.2.2;have HBB : Hid (w1.heap.size ≤ B0) := hB
 have HNF : Hid (∀ k, (F0 k ∨ k = gx) → B0 ≤ k ∧ k < w3.heap.size) := fun k h => by
  rcases h with h | h
  ·exact ⟨(hd.fin k h).1, Nat.lt_of_lt_of_le (hd.fin k h).2 HBW.size⟩
  ·rw [h]; exact ⟨Nat.le_trans hd.base HGE.out, HGR.lt⟩
 clear hB hd hr HDD HOK HNV HBW HX2 HB2 HL HA HGE;have x11 := cA HX3.out 11 (.slice B n k) rfl;have xl := HX3.lt;go_wp2_with fail;refine (CFI.out w3 HB3.out).mono ?_;rintro en w6 ⟨g, c6, rfl, hown, hb⟩;have HX6 := bb HX3 hb;have HB6 := bt HB3 hb;have HL6 := hid (HST.out w6 hb);have HRD6 : Hid (Rd w6 (some ⟨g, 0, none⟩) (Xo li)) := Wl hown;have HG6 : Hid (w3.heap.size ≤ g ∧ g < w6.heap.size) := hown.lt g rfl;clear hown hb x11 xl HX3 HB3 HST CFI;go_wp2_with fail
 go_loopw [7] (fun iv wr => ∃ (i : Nat) (x : Zd) (cs : List Value) (F : Nat → Prop), i ≤ ql ∧ iv = .int .i64 (i : Int) ∧ Qz x ∧ Mp w1.heap.size B0 d gx F0 w0 w6 wr x cs F) (fun iv _ => ql - (intOf iv).toNat)
 case atStart => exact ⟨0, X0, cs0, F0, aa, rfl, HTL.out, HL6.out⟩
 case round =>
  obtain ⟨i, x, cs, F, hi, rfl, htl, hlp⟩ := hrel;have HTL0 := hid htl;have HLP := hid hlp;clear htl hlp HL6 HF0 HTL;have HTL := HTL0;clear HTL0;by_cases hlt : i < ql
  ·have hli : i < li.length := by rw [HQL.out]; exact hlt
   have hget : li[i]? = some (li[i]'hli) := List.getElem?_eq_getElem hli;have hII := HIO.out _ (List.getElem_mem hli);obtain ⟨iv, hiv⟩ := nE (li[i]'hli);rw [hiv] at hget hII
   obtain ⟨bl, off, hA, hbl, hcc⟩ := (HLP.keep.rd HRD6.out (fun a ha hf => by
    injection ha with ha; subst ha
    have h1 := HNF.out _ hf; have h2 := HG6.out; simp only at h1; omega)).at (by rw [Mc]; omega)
   injection hA with hA
   injection hA with hA1 hA2
   subst hA1; subst hA2;have hc : ∀ j u, j < 4 → iv.cells[j]? = some u → wr.cell? ⟨g, 0 + (i * 4 + j), none⟩ = some u := fun j u hj hu => hcc _ u ((Zoe li i iv hget j hj).trans hu)
   have HGF : Hid (¬ F g ∧ g < wr.heap.size) := ⟨fun hf => by
    have h2 := HG6.out;rcases HLP.sub _ hf with h3 | h3
    ·have := HNF.out g (.inl h3); omega
    ·omega, Nat.lt_of_lt_of_le HG6.2 HLP.keep.size⟩
   have HBR : Hid (Below w.heap.size w wr) := HB6.trans (HLP.keep.below HB6.size (fun k hk => eh));have HXR := hid (HLP.keep.blk HX6.out (fun hf => lj));obtain ⟨ik, ib, iN, it⟩ := iv;have c0 := hc 0 _ aa rfl;have c1 := hc 1 _ aa rfl;have c2 := hc 2 _ aa rfl;have c3 := hc 3 _ aa rfl;simp only [Nat.add_zero, ← Nat.add_assoc, Nat.zero_add] at c0 c1 c2 c3;have HII : Hid ((⟨ik, ib, iN, it⟩ : InV).ok ∧ ib.size ≤ 1000000) := hII;have hi2 : (i : Int) < (ql : Int) := aa
   have hi40 : i ≤ 1000 := by have := HLI.out; omega
   clear hget hII hiv hcc hc hli;go_upto_region 10 with fail;have T0 : ∀ q : KW F wr, q.1.cell? ⟨g, i * 4, none⟩ = some (.int .i64 ik) := KW.cellAt HGF.2 HGF.1 c0;have T1 : ∀ q : KW F wr, q.1.cell? ⟨g, i * 4 + 1, none⟩ = some (.string ib) := KW.cellAt HGF.2 HGF.1 c1;have T2 : ∀ q : KW F wr, q.1.cell? ⟨g, i * 4 + 2, none⟩ = some (.int .i64 iN) := KW.cellAt HGF.2 HGF.1 c2;have T3 : ∀ q : KW F wr, q.1.cell? ⟨g, i * 4 + 3, none⟩ = some (.int .i64 it) := KW.cellAt HGF.2 HGF.1 c3;have HXQ : Hid (∀ W, (∃ q : KW F wr, W = q.1) → Blk W gx 41 cs.toArray) := by rintro W ⟨q, rfl⟩; exact q.2.blk HLP.blk HLP.nf
   refine Vc F [10] (.val 0 (.val 1 (.val 2 (.val 3 (.val 4 (.val 5 (.op 6 (.val 7 (.val 8 (.val 9 (.op 10 (.val 11 (.nil))))))))))))) ab ab ?_;obtain ⟨wc, hwc⟩ := nE (wr.drewN 1);have HBW := db hwc;have HKW : Hid (Za F wr wc) := Za.of_below HBW.out;rw [hwc];clear hwc;refine Zc rfl rfl ?_
   go_big_quiet_step (fail)
   refine wpQuiet_nil ?_;refine Zt rfl rfl (Kk HKW.out) ?_;refine BigFrame.wpQuiet_want rfl fun K hK => ?_;refine Gd rfl rfl HXQ.out (Zy cs HLP.len) ?_;refine hK _ ?_;simp only [Act.put, List.setIfInBounds_toArray, List.set_cons_succ, List.set_cons_zero];clear hK;clear K;refine wpQuiet_nil ?_
   iterate 3 (refine Zc rfl rfl ?_; go_big_quiet_step (fail); refine wpQuiet_nil ?_)
   refine Zt rfl rfl (Kk HKW.out) ?_
   go_big_quiet_step (fail)
   refine wpQuiet_nil ?_;have CQ := hid ((HLP.below HBW.out).does ⟨ik, ib, iN, it⟩ HII.1 HII.2);obtain ⟨x2, hx2⟩ := nE ((x.one ⟨ik, ib, iN, it⟩).1);have HX2 := hid hx2;rw [hx2] at CQ;refine Zf rfl ?_;go_wp2_with fail;refine CQ.mono ?_;rintro en wd ⟨cs2, F2, rfl, hl, ha, hk, hb2, hln⟩;have HKD : Hid (Za F wr wd) := HKW.trans hk (fun _ => .inl);have HLN0 := hid hln; have HB2 := hid hb2; have HCA := hid ha;have HSZ1 : Hid ((Tryz.prog.info? 41).map (·.size) = some cs2.toArray.size) := fe
   have HSZ2 : Hid (cs.toArray.size = cs2.toArray.size) := by rw [Hid, List.size_toArray, List.size_toArray, hl, HLP.len]
   clear hl ha hk hb2 hln CQ hx2 HBW HKW T0 T1 T2 T3 HXQ;go_wp2_with fail;refine KT.keep (Kk HKD.out) ?_
   iterate 3 (refine Zc rfl rfl ?_; go_big_quiet_step (fail); refine wpQuiet_nil ?_)
   refine Zf rfl ?_;go_wp2_with (refine wpList_store_row rfl 41 _ _ rfl gx cs2.toArray rfl rfl 41 _ HB2.out HSZ1.out HSZ2.out HCA.out ?_);refine KT.past rfl ?_;refine Zc rfl rfl ?_;simp only [Act.put]
   go_big_quiet_step (fail)
   refine wpQuiet_nil ?_;refine Zj ?_;obtain ⟨w7, hw7⟩ := nE (wd.setRow gx cs2.toArray);have HLN := HLN0;rw [hw7] at HLN ⊢;clear hw7 HLN0 HB2 HKD HSZ1 HSZ2 HCA;have HB7 : Hid (Below w.heap.size w w7) := HB6.trans (HLN.keep.below HB6.size (fun k hk => eh));have HX7 := hid (HLN.keep.blk HX6.out (fun hf => lj));have HT2 : Hid (Qz x2) := by rw [Hid, ← HX2.out]; exact Zqh HTL.out _
   obtain ⟨nw, hnw⟩ := nE (x2.now)
   have HNW : Hid (cs2.toArray[27]? = some (.int .i64 nw)) := by
    have h := (HLN.ref.at (Za.refl _ _)).nowc;rw [hnw] at h;rw [Hid, List.getElem?_toArray]; exact h
   have C1 := hid (Zbp HLN.dial nw);obtain ⟨rv, hrv⟩ := nE (x2.ready nw);rw [hrv] at C1;have n27 : w7.cell? ⟨gx, 27, none⟩ = some (.int .i64 nw) := (HLN.blk.cell 27).trans HNW.out;have nl := HLN.blk.lt;go_wp2_with fail;refine C1.mono ?_;rintro en w8 ⟨rfl, hb⟩;have HL8 := hid (HLN.below hb);have HX8 := bb HX7 hb;clear hb C1 n27 nl HX7 HLN;cases rv
   case true =>
    exact N89
   have CS := hid (Zrb HL8.dial);obtain ⟨st, hst⟩ := nE (x2.st);rw [hst] at CS;go_wp2_with fail;refine CS.mono ?_;rintro en w8' ⟨rfl, rfl⟩;clear CS;by_cases h0 : st = 0
   case neg =>
    have h1 : 0 < (st : Int) := aa
    clear hrv hst hnw;exact N89
   have h1 : ¬ 0 < (st : Int) := aa
   have hst0 : x2.st = 0 := hst.trans h0;have hrv2 : x2.ready x2.now = false := by rw [hnw]; exact hrv
   have HWK : Hid (∀ t, x2.ready t = decide (x2.due.first ≠ Yn ∧ x2.due.first ≤ max t nw)) := fun t => by rw [← hnw]; exact Zl0 HL8.dial.ok HT2.out hst0 hrv2 t
   have HAH : Hid (x2.due.first ≠ Yn → nw < x2.due.first) := fun h => by rw [← hnw]; exact Zj8 HL8.dial.ok HT2.out hst0 hrv2 h
   have HNB : Hid (0 ≤ nw) := by rw [Hid, ← hnw]; exact HL8.dial.ok.now.1
   have C2 := Zsl HL8.dial;rw [if_pos hst0] at C2;have CN := hid C2;obtain ⟨f, hf⟩ := nE (x2.due.first)
   have HFB : Hid (0 ≤ f ∧ f ≤ 9223372036854775807) := by rw [Hid, ← hf]; exact Zgh _ (fun t ht => by
    have hk := HL8.dial.ok;simp only [List.mem_cons, List.not_mem_nil, or_false] at ht;rcases ht with rfl | rfl | rfl
    ·exact hk.til
    ·exact hk.lim
    ·exact hk.cut)
   rw [hf] at HWK HAH CN;clear hrv hst hnw h0 hst0 hrv2 C2 hf;go_wp2_with fail;refine CN.mono ?_;rintro en w9 ⟨rfl, hb⟩;have HL9 := hid (HL8.below hb);have HX9 := bb HX8 hb;clear hb CN;clear h1;by_cases hn : f = Yn
   case pos =>
    subst hn;have C3 := Zbp HL9.dial 9223372036854775806;rw [HWK.out, decide_eq_false (fun h => h.1 rfl)] at C3;have C3 := hid C3;unfold Yn;go_wp2_with fail;refine C3.mono ?_;rintro en w10 ⟨rfl, hb⟩;have HL10 := hid (HL9.below hb);have HX10 := bb HX9 hb;clear hb C3;have C4 := Zbp HL10.dial ask;rw [HWK.out, decide_eq_false (fun h => h.1 rfl)] at C4;have C4 := hid C4;have x12 := cA HX10.out 12 ask rfl;have xl := HX10.lt;go_wp2_with fail;refine C4.mono ?_;rintro en w11 ⟨rfl, hb⟩;have HL11 := hid (HL10.below hb);have HX11 := bb HX10 hb;clear hb C4;clear x12 xl;go_wp2_with fail;go_roundw
    case rel => exact ⟨i + 1, x2, cs2, F2, aa, aw, HT2.out, HL11.out⟩
    case measure => simp [intOf]; omega
   have hah := HAH.out hn;have hfb := HFB.out;have hnb := HNB.out;have b1 : (f == 9223372036854775807) = false := bF2 hn;have b2 : ¬ f = 9223372036854775807 := hn;have b6 : (f != 9223372036854775807) = true := by unfold bne; rw [b1]; rfl
   have b3 : ¬ f ≤ nw := aa
   have b4 : decide (f ≤ nw) = false := decide_eq_false b3;have C3 := Zbp HL9.dial f;rw [HWK.out, decide_eq_true ⟨hn, aa⟩] at C3;have C3 := hid C3;have n27 : w9.cell? ⟨gx, 27, none⟩ = some (.int .i64 nw) := (HL9.blk.cell 27).trans HNW.out;have nl := HL9.blk.lt;go_wp2_with fail;refine C3.mono ?_;rintro en w10 ⟨rfl, hb⟩;have HL10 := hid (HL9.below hb);have HX10 := bb HX9 hb;clear hb C3;clear n27 nl;have C4 := Zbp HL10.dial (f - 1);rw [HWK.out, decide_eq_false (fun h => aa)] at C4;have C4 := hid C4;go_wp2_with fail;refine C4.mono ?_;rintro en w11 ⟨rfl, hb⟩;have HL11 := hid (HL10.below hb);have HX11 := bb HX10 hb;clear hb C4;by_cases ha : f ≤ ask
   case' pos =>
    have b5 : ¬ ask < f := aa
    have C5 := Zbp HL11.dial ask;rw [HWK.out, decide_eq_true ⟨hn, aa⟩] at C5
   case' neg =>
    have b5 : ask < f := aa
    have C5 := Zbp HL11.dial ask;rw [HWK.out, decide_eq_false (fun h => aa)] at C5
   all_goals
    have C5 := hid C5;have x12 := cA HX11.out 12 ask rfl;have xl := HX11.lt;clear hah hfb hnb hn;go_wp2_with fail;refine C5.mono ?_;rintro en w12 ⟨rfl, hb⟩;have HL12 := hid (HL11.below hb);have HX12 := bb HX11 hb;clear hb C5;clear x12 xl;have x12 := cA HX12.out 12 ask rfl;have xl := HX12.lt;go_wp2_with fail;go_roundw
    all_goals first | exact ⟨⟨i + 1, x2, cs2, F2, aa, aw, HT2.out, HL12.out⟩, by simp [intOf]; omega⟩ | exact ⟨i + 1, x2, cs2, F2, aa, aw, HT2.out, HL12.out⟩ | (simp [intOf]; omega) | rfl | skip
  ·go_wp2_with fail
   refine (CLV.out _).mono ?_;rintro en w4 ⟨rfl, hb⟩;have HBR : Hid (Below w.heap.size w wr) := HB6.trans (HLP.keep.below HB6.size (fun k hk => eh));have HB4 := bt HBR hb;clear hb;go_wp2_with fail;go_ret;exact ⟨rfl, HB4.out⟩
open Go.ChangeShapes Go.WideShapes Go.ChangeAt Go.WideElems Go.Deep
open Go.ChangeMaps (open_string shut_string)
theorem dialWakes_lifted (os : Os) (started : os.Started) (H : Type) (enc : TypeId × Value → H) :
  ReturnsInHanded {} Tryz.checked os 4 .any (Rows.dialWakesSpec.pre6 enc Tryz.prog Tryz.f4 [] false) (Rows.dialWakesSpec.post enc Tryz.prog Tryz.f4 false true false false) := by
 refine law_lifted 4 Tryz.f4 Rows.dialWakesSpec os started H enc Tryz.func4 ab ab ab rfl (fun ds h => ?_)
  (ChangeSpec.witness6 (enc := enc) (C := Tryz.checked) false ⟨#[], #[.agg #[.int .i64 0, .int .i64 0, .int .i64 0, .int .i64 0, .int .i64 0, .int .i64 0, .string ⟨#[]⟩, .int .i64 0, .int .i64 0, .slice none 0 0, .int .i64 0, .slice none 0 0, .int .i64 0]], []⟩ 8 ab ab ab ab) ?_
 ·have hn : ds.length = 1 := h
  match ds, hn with
  | [d0], _ => rfl
 ·intro W args ds p base hval hA _ _
  rw [show Tryz.f4.params.toList = [29] from by rw [Tryz.params4]] at hval hA;obtain ⟨v0, _, d0, _, p0, _, rfl, rfl, rfl, h0, hA⟩ := Zqa hA;obtain rfl := Zq9 hA;obtain ⟨x0, A0, c0, B0, k0, rfl, hx0⟩ := Zfe (hval 0 _ v0 rfl rfl) h0;exact Zfr A0 c0 B0 k0 x0 W hx0
theorem dialWakes_holds : Rows.DialWakesSaid :=
 OpenClaim.holds_of_wide 4 Tryz.f4 rfl rfl rfl rfl rfl rfl rfl ⟨rfl, rfl, rfl, rfl, rfl⟩ rfl rfl rfl rfl rfl ab Tryz.func4 ab
  (of_decide_eq_true ab) (by unfold Func.isWrapper; first | (rw [if_pos (by decide +kernel)]; kernel_rfl) | (rw [if_neg (by decide +kernel)]; exact ⟨rfl, rfl⟩))
  (fun os started H enc _ => dialWakes_lifted os started H enc)
#print axioms dialWakes_holds
end Go.Proofs.YtpkkfdmhbbipoaaGreat
