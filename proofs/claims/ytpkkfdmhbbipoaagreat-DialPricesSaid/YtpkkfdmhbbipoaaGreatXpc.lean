/- DialPrices: for all plays the law answers true. No condition. -/
import Derived.Test.YtpkkfdmhbbipoaaGreatLq
import Derived.Test.YtpkkfdmhbbipoaaGreatRj
import Derived.Test.YtpkkfdmhbbipoaaGreatMi
import Derived.Test.YtpkkfdmhbbipoaaGreatEb
namespace Go.Proofs.YtpkkfdmhbbipoaaGreat
set_option maxRecDepth 100000
set_option maxHeartbeats 16000000
open Go.RowKit PopT
def Kz (x : Zd) : Prop := x.st ≠ 0 → x.R = [] ∧ x.S = [] ∧ x.pd.peek = ⟨#[]⟩
theorem Za7 (x : Zd) : x.enters.st = x.st := by unfold Zd.enters; (repeat' split) <;> rfl
theorem Nx (x : Zd) : x.enters.now = x.now := by unfold Zd.enters; (repeat' split) <;> rfl
theorem Zac (x : Zd) (n : Nat) : Kz (x.stop n) := fun _ => ⟨rfl, rfl, Qf _ 0⟩
theorem Qs {x : Zd} (h : x.st = 0) : Kz x := fun h2 => absurd h h2
theorem Zcp {x : Zd} (h : x.st = 0) (what : Nat) (tt : Int) : Kz (x.jump what tt).1 := by
 unfold Zd.jump;split
 ·exact Zac _ _
 ·split
  ·exact Zac _ _
  ·exact Qs ((Za7 (x.hop.goes tt.toNat)).trans h)
theorem Zck (x : Zd) (what : Nat) (tt : Int) : (x.jump what tt).1.now = x.now := by
 unfold Zd.jump;split
 ·rfl
 ·split
  ·rfl
  ·exact Nx _
theorem Zit {x : Zd} (h : x.st = 0) : Kz x.does.1 ∧ x.does.1.now = x.now := by
 unfold Zd.does;split
 ·exact ⟨Zac _ _, rfl⟩
 ·split
  ·unfold Zd.send; split
   ·exact ⟨Qs h, rfl⟩
   ·exact ⟨Qs ((Za7 (x.goes (x.loc + 1))).trans h), Nx _⟩
  ·split
   ·unfold Zd.look
    simp only;split
    ·exact ⟨Zcp (x := x.looked _) h _ _, Zck _ _ _⟩
    ·split
     ·exact ⟨Zac _ _, rfl⟩
     ·split
      ·exact ⟨Zcp (x := x.looked _) h _ _, Zck _ _ _⟩
      ·split
       ·exact ⟨Zcp (x := x.looked _) h _ _, Zck _ _ _⟩
       ·exact ⟨Qs h, rfl⟩
   ·split
    ·exact ⟨Zcp h _ _, Zck _ _ _⟩
    ·split
     ·exact ⟨Qs ((Za7 (x.goes (x.loc + 1))).trans h), Nx _⟩
     ·split <;> exact ⟨Zac _ _, rfl⟩
theorem Zmj {x : Zd} {t : Int} (h : x.ready t = false) : x.step t = (x, ⟨0, 0, 0, 0, 0, 0⟩, false) := by unfold Zd.step; rw [if_pos h]
theorem Zid {x : Zd} {t : Int} (h : x.ready t = true) : x.step t = ((x.clock t).does.1, ⟨(x.clock t).now, (x.clock t).loc, (x.clock t).does.2.1, (x.clock t).does.2.2.1, (x.clock t).does.2.2.2, (x.clock t).does.1.st⟩, true) := by unfold Zd.step; rw [if_neg (by rw [h]; decide)]
theorem Zet {x : Zd} {t : Int} (h : x.ready t = true) : x.st = 0 := by
 unfold Zd.ready at h;rw [Bool.and_eq_true, decide_eq_true_eq] at h;exact h.1
theorem Zkl (x : Zd) (t : Int) : (x.step t).2.2 = x.ready t ∧ ((x.step t).2.2 = true → (x.step t).2.1.st = (x.step t).1.st ∧ (x.step t).2.1.tick = (x.step t).1.now ∧ x.now ≤ (x.step t).1.now) ∧ ((x.step t).2.2 = false → (x.step t).1 = x) := by
 cases h : x.ready t
 ·rw [Zmj h]
  exact ⟨rfl, (fun h => fg), fun _ => rfl⟩
 ·rw [Zid h]
  have hn := (Zit (x := x.clock t) (Zet (x := x) h)).2;refine ⟨rfl, (fun _ => ⟨rfl, hn.symm, ?_⟩), (fun h => fg)⟩;show x.now ≤ (x.clock t).does.1.now;rw [hn];show x.now ≤ max x.now t;omega
theorem Zis {x : Zd} (h : Kz x) (t : Int) : Kz (x.step t).1 := by
 cases hr : x.ready t
 ·rw [Zmj hr]; exact h
 ·rw [Zid hr]; exact (Zit (x := x.clock t) (Zet (x := x) hr)).1
theorem Zro {x : Zd} (h : Kz x) (i : InV) : Kz (x.one i).1 := by
 unfold Zd.one;split
 ·show Kz (x.put i.b).1
  unfold Zd.put;split
  ·exact h
  ·rename_i h2; exact Qs (show x.st = 0 by by_cases h3 : x.st = 0; exact h3; exact absurd (.inl h3) h2)
 ·split
  ·show Kz x.ends
   unfold Zd.ends; split
   ·exact h
   ·exact Qs (show x.st = 0 by omega)
  ·split
   ·show Kz (x.take i.n)
    unfold Zd.take; split
    ·exact h
    ·exact Qs (show x.st = 0 by omega)
   ·split
    ·show Kz (x.cuts i.tick)
     unfold Zd.cuts; split
     ·exact h
     ·exact Qs (show x.st = 0 by omega)
    ·split
     ·exact Zis h _
     ·exact h
theorem Zrg {x : Zd} {i : InV} (h : i.kind ≠ 5) : (x.one i).1.now = x.now := by
 unfold Zd.one;split
 ·show (x.put i.b).1.now = _; unfold Zd.put; split <;> rfl
 ·split
  ·show x.ends.now = _; unfold Zd.ends; split <;> rfl
  ·split
   ·show (x.take i.n).now = _; unfold Zd.take; split <;> rfl
   ·split
    ·show (x.cuts i.tick).now = _; unfold Zd.cuts; split <;> rfl
    ·rfl
theorem Zkx {x : Zd} (h : x.st ≠ 0) : x.price = 0 := if_neg h
theorem Znl {x : Zd} (h : x.st = 0) : 0 < x.price := by
 unfold Zd.price;rw [if_pos h];unfold Mu;split
 ·omega
 ·split <;> omega
theorem Zph {x : Zd} (hg : Wr x.s = true) : ((x.price : Nat) : Int) ≤ 1 + max x.s.win x.s.out := by
 have hb := Vw hg;unfold Zd.price;split
 ·unfold Mu
  split
  ·omega
  ·split <;> omega
 ·omega
section
variable {b B d gx : Nat} {F0 F : Nat → Prop} {w0 w6 wr w1 w2 w3 : World} {x y : Zd} {cs cs' : List Value}
theorem Km.refStep (h : Km b B d gx F0 w0 w6 wr x cs F) (t : Int) (ht : t ≤ 9223372036854775807) (W : World) (hW : Za (fun k => F k ∨ k = gx) wr W) :
  Calls Tryz.prog 50 #[.agg cs.toArray, t] W fun e w' => ∃ cs' : List Value, e = .returned (.tuple #[.agg cs'.toArray, (x.step t).2.1.val, .bool (x.step t).2.2]) ∧ cs'.length = 28 ∧ cs'.toArray.all (·.oneCell') = true ∧ Xz b (fun k => F k ∨ k = gx) wr W w' (x.step t).1 (.agg cs'.toArray) ∧ Below W.heap.size W w' := by
 have hfc := h.dial.facts;refine (Zox h.ref hW (Nat.le_trans h.base (Nat.le_trans h.keep.size hW.size)) h.dial.ok h.jmp (fun h0 hk => h.dial.look h.fit h.light h0 hk) hfc.1 hfc.2.1 (by have := h.fit.2; omega) t ht).mono ?_;rintro e w' ⟨v', rfl, hr, hb⟩;obtain ⟨cs', rfl, hl, ha⟩ := hr.now.agg;exact ⟨cs', rfl, hl, ha, hr, hb⟩
theorem Km.stepped (h : Km b B d gx F0 w0 w6 wr x cs F) (t : Int) (ht : t ≤ 9223372036854775807) (hd : Zj B (Fup F wr w1) w0 w1 d (x.step t).1) (hk : Za F wr w1) (h2 : Below w1.heap.size w1 w2)
  (hl : cs'.length = 28) (ha : cs'.toArray.all (·.oneCell') = true) (hr : Xz b (fun k => F k ∨ k = gx) wr w2 w3 (x.step t).1 (.agg cs'.toArray)) (h3 : Below w2.heap.size w2 w3) :
  Blk w3 gx 41 cs.toArray ∧ Km b B d gx F0 w0 w6 (w3.setRow gx cs'.toArray) (x.step t).1 cs' (Fup F wr w1) := by
 have h13 : Below w1.heap.size w1 w3 := h2.trans (h3.mono h2.size);have hk3 : Za F wr w3 := Vl hk h13;have hb : Blk w3 gx 41 cs.toArray := hk3.blk h.blk h.nf;have hs : Za (fun k => k = gx) w3 (w3.setRow gx cs'.toArray) := Zm
 have hn : ¬ Fup F wr w1 gx := by
  rintro (h1 | h1)
  ·exact h.nf h1
  ·exact Nat.lt_irrefl _ (Nat.lt_of_lt_of_le h.blk.lt h1.1)
 have hone : (x.one ⟨5, ⟨#[]⟩, 0, t⟩).1 = (x.step t).1 := rfl;refine ⟨hb, (hd.below h13).keepG hs (fun k hf (e : k = gx) => hn (e ▸ hf)) (fun k (e : k = gx) => by rw [e]; exact h.gxs.1), ⟨?_, fun W hW => hr W ?_⟩, hb.setRow _, hl, ha, h.base, ?_, ?_, h.gxs, Ze2 h.dial.ok h.fit t ht, by rw [← hone]; exact Zmq h.jmp _, by rw [← hone, Zma]; exact h.light⟩
 ·rintro k (h1 | h1)
  ·exact Nat.lt_of_lt_of_le (hd.fin k h1).2 (Nat.le_trans h13.size hs.size)
  ·rw [h1]; exact Nat.lt_of_lt_of_le hb.lt hs.size
 ·refine (hs.mono (fun k _ e => .inl (.inr e))).trans hW ?_
  rintro k ((h1 | h1) | h1)
  ·exact .inl (.inl (.inl h1))
  ·exact .inl (.inr ⟨h1.1, Nat.lt_of_lt_of_le h1.2 h2.size⟩)
  ·exact .inl (.inl (.inr h1))
 ·refine (h.keep.trans hk3 (fun k hf => ?_)).trans hs (fun k hf => .inl (.inr hf))
  rcases h.sub k hf with h1 | h1
  ·exact .inl (.inl h1)
  ·exact .inr h1
 ·rintro k (h1 | h1)
  ·exact h.sub k h1
  ·exact .inr (Nat.le_trans h.keep.size h1.1)
end
theorem N14{P:Prop}(h:P:=by
 have CA := hid (Zg8 HL15.dial);go_wp2_with fail;refine CA.mono ?_;rintro en w15' ⟨rfl, rfl⟩;clear CA;by_cases hs0 : y.st = 0
 case pos =>
  have g1 : ¬ 0 < (y.st : Int) := aa
  go_wp2_with fail;go_roundw
  case rel => exact ⟨i + 1, y, cs2, _, aa, ax, rfl, ENS.out, HYS.out, HL15.out⟩
  case measure => simp [intOf]; omega
 have g1 : 0 < (y.st : Int) := aa
 obtain ⟨r1, r2, r3⟩ := ENS.out hs0;have C2 := Zsn HL15.dial;rw [r1] at C2;have C2 := hid C2;go_wp2_with fail;refine C2.mono ?_;rintro en w15' ⟨rfl, rfl⟩;clear C2;have C3 := Zrw HL15.dial;rw [r2, show rgT [] = ⟨#[]⟩ from rfl] at C3;have C3 := hid C3;go_wp2_with fail;refine C3.mono ?_;rintro en w16 ⟨rfl, hb⟩;have HL16 := hid (HL15.below hb);clear hb C3;have C4 := Zqx HL16.dial;rw [r3] at C4;have C4 := hid C4;go_wp2_with fail;refine C4.mono ?_;rintro en w17 ⟨rfl, hb⟩;have HL17 := hid (HL16.below hb);clear hb C4;have C5 := Zs7 HL17.dial;rw [if_neg hs0] at C5;have C5 := hid C5;go_wp2_with fail;refine C5.mono ?_;rintro en w18 ⟨rfl, hb⟩;have HL18 := hid (HL17.below hb);clear hb C5;have C6 := Zs6 HL18.dial;rw [if_neg (fun h => hs0 h.1)] at C6;have C6 := hid C6;go_wp2_with fail;refine C6.mono ?_;rintro en w19 ⟨rfl, hb⟩;have HL19 := hid (HL18.below hb);clear hb C6;go_wp2_with fail;go_roundw
 case rel => exact ⟨i + 1, y, cs2, _, aa, ax, rfl, ENS.out, HYS.out, HL19.out⟩
 case measure => simp [intOf]; omega):P:=h
theorem Zfq (A : Option Addr) (c : Nat) (B : Option Addr) (k : Nat) (x : Mt) (w : World) (hx : Zc5 w x A B k) :
  Calls Tryz.prog 8 #[x.val A c B k] w fun e w' => e = .returned (.bool true) ∧ Below w.heap.size w w' := by
 have CSM : Hid (∀ W, Calls Tryz.prog 12 #[x.s.val] W fun e w' => e = .returned (.bool (Zbu x.s)) ∧ Below W.heap.size W w') := fun W => Zi6 x.s W;have CBG : Hid (∀ W, Below w.heap.size w W → Calls Tryz.prog 14 #[x.val A c B k] W fun e w' => Zep x.s (Vy x.p 9) x.now W e w') := fun W hb => Zom x A c B k W (hx.below hb)
 have CFI : Hid (∀ W, Below w.heap.size w W → Calls Tryz.prog 15 #[.slice B x.l.length k, .int .i64 30] W fun e w' => ∃ g c', e = .returned (.slice (some ⟨g, 0, none⟩) (Qq x.l 30).length c') ∧ w'.ownsRow W.heap.size 46 4 (.slice (some ⟨g, 0, none⟩) (Qq x.l 30).length c') (Qq x.l 30).length (Xo (Qq x.l 30)) ∧ Below W.heap.size W w') := fun W hb =>
  Zn9 B x.l.length k x.l 30 W rfl (hx.rd.below hb) hx.iok aa
 have CLV := hid (fun W => Zjl W);have HIO : Hid (∀ i ∈ Qq x.l 30, i.ok ∧ i.b.size ≤ 1000000) := fun i hi => ⟨Zrn hx.iok 30 i hi, Zln x.l 30 i hi⟩;have HLI : Hid ((Qq x.l 30).length ≤ 30) := Zjr x.l 30
 have HNV : Hid (Zbu x.s = true → Zbt x.s (Vy x.p 9) = 0 → Fit ((Qi x.s (Vy x.p 9) x.now).come 0) ∧ Ue ((Qi x.s (Vy x.p 9) x.now).come 0) ∧ Zh7 ((Qi x.s (Vy x.p 9) x.now).come 0).s) := fun hsm h => by
  have hg : Wr x.s = true := by unfold Zbt at h; split at h; cases h; rename_i h2; simpa using h2
  have hok := Zeg x.s (Vy x.p 9) x.now hg (by unfold Zbt at h; split at h; cases h; split at h; cases h; rename_i h2; omega) (Zmt x.p 9 hx.pok) hx.now;refine ⟨Zms hok, Zrj hok, ?_⟩;rw [show ((Qi x.s (Vy x.p 9) x.now).come 0).s = x.s from Zab _];unfold Zbu at hsm;rw [hg] at hsm;simp only [Bool.not_true, Bool.false_or, Bool.and_eq_true, decide_eq_true_eq] at hsm;exact ⟨aa, aa⟩
 have HTL : Hid (((Qi x.s (Vy x.p 9) x.now).come 0).s = x.s ∧ ((Qi x.s (Vy x.p 9) x.now).come 0).now = Yx x.now ∧ Kz ((Qi x.s (Vy x.p 9) x.now).come 0)) := ⟨Zab _, Nx _, Qs (Za7 _)⟩;obtain ⟨s, p, now, l, ask⟩ := x;unfold Mt.val;unfold Mt.val at CBG;simp only at CSM CBG CFI HIO HLI HNV HTL ⊢;obtain ⟨n, hnn⟩ := nE (l.length);obtain ⟨m, hmm⟩ := nE (p.ops.length);obtain ⟨pf, hpf⟩ := nE (Vy p 9);obtain ⟨li, hli⟩ := nE (Qq l 30);rw [hnn, hmm] at CBG;rw [hnn, hli] at CFI;rw [hli] at HIO HLI;rw [hpf] at CBG HNV;rw [hpf] at HTL;rw [hnn, hmm];clear hnn hmm hpf hli hx;obtain ⟨ql, hql⟩ := nE (li.length);have HQL := hid hql;rw [hql] at CFI HLI;clear hql;obtain ⟨er, her⟩ := nE (Zbt s pf);have HER := hid her;rw [her] at HNV;obtain ⟨X0, hX0⟩ := nE ((Qi s pf now).come 0)
 have HBQ : Hid (∀ W e w', Zep s pf now W e w' → Below W.heap.size W w' ∧ ∃ (q : Option Addr) (cs : List Value) (ok : Bool), e = .returned (.tuple #[.pointer q, .agg cs.toArray, ok]) ∧ cs.length = 28 ∧ cs.toArray.all (·.oneCell') = true ∧ ok = decide (er = 0) ∧
   (ok = true → ∃ w0 d B F, q = some ⟨d, 0, none⟩ ∧ W.heap.size ≤ B ∧ Zj B F w0 w' d X0 ∧ Vr W.heap.size F w' X0 (.agg cs.toArray))) := fun W e w' h => by
  obtain ⟨h1, q, cs, ok, h2, h3, h4, h5, h6⟩ := h;refine ⟨h1, q, cs, ok, h2, h3, h4, by rw [h5, her], fun h => ?_⟩;obtain ⟨w0, d, B, F, a1, a2, a3, a4⟩ := h6 h;exact ⟨w0, d, B, F, a1, a2, by rw [← hX0]; exact a3, by rw [← hX0]; exact a4⟩
 rw [hX0] at HNV HTL;obtain ⟨sm, hsm⟩ := nE (Zbu s);rw [hsm] at CSM HNV;clear hsm her hX0;obtain ⟨lv, rg, wn, ou, qu, vi⟩ := s;obtain ⟨nm, dl, jp, ops⟩ := p;unfold Uu.val at CSM;simp only at CSM CBG ⊢;obtain ⟨BQ, hBQ⟩ : ∃ f : World → Ending → World → Prop, Zep ⟨lv, rg, wn, ou, qu, vi⟩ pf now = f := ⟨_, rfl⟩;rw [hBQ] at CBG HBQ;clear hBQ;go_enter Tryz.func8, Tryz.ntmps8;go_upto_region 1 with fail;generalize hwz : w.alloc (.cells #[lv, rg, wn, ou, qu, vi, nm, dl, jp, .slice A m c, now, .slice B n k, ask] 29) = wz;have HXX := bn hwz;have HB := ba hwz;obtain ⟨gp, hgx⟩ := nE (w.heap.size);have HGX := hid hgx;rw [hgx] at HXX ⊢;clear hwz hgx;have x0 := cA HXX.out 0 lv rfl;have x1 := cA HXX.out 1 rg rfl;have x2 := cA HXX.out 2 wn rfl;have x3 := cA HXX.out 3 ou rfl;have x4 := cA HXX.out 4 qu rfl;have x5 := cA HXX.out 5 vi rfl;have xl := HXX.lt;go_wp2_with fail;refine (CSM.out _).mono ?_;rintro en w1 ⟨rfl, hb⟩;have HX1 := bb HXX hb;have HB1 := bt HB hb;clear hb x0 x1 x2 x3 x4 x5 xl HXX HB CSM;cases sm
 ·go_wp2_with fail
  refine (CLV.out _).mono ?_;rintro en w2 ⟨rfl, hb⟩;have HB2 := bt HB1 hb;clear hb;go_wp2_with fail;go_ret;exact ⟨rfl, HB2.out⟩
 have CB := hid (CBG.out w1 HB1.out);clear CBG;go_wp2_with (refine wpList_load_mid rfl 29 _ rfl gp 0 rfl _ _ (Blk.range HX1.out) Tryz.underlying29 rfl Zf7 ?_);refine CB.mono ?_;intro en w2 hq;obtain ⟨hb, q, cs0, ok, rfl, hl, ha, hok, hd⟩ := HBQ.out _ _ _ hq;have HL := hid hl; have HA := hid ha; have HOK := hid hok; have HDD := hid hd;have HX2 := bb HX1 hb;have HB2 := bt HB1 hb;have HS12 : Hid (gp < w1.heap.size ∧ w.heap.size ≤ w1.heap.size ∧ w1.heap.size ≤ w2.heap.size) := ⟨HX1.lt, HB1.size, hb.size⟩;clear hb hl ha hok hd hq CB HX1 HB1 HBQ;have HSZ1 : Hid ((Tryz.prog.info? 41).map (·.size) = some cs0.toArray.size) := et
 have HSZ2 : Hid ((#[.int .i64 0, .int .i64 0, .int .i64 0, .int .i64 0, .int .i64 0, .int .i64 0, .string ⟨#[]⟩, .int .i64 0, .int .i64 0, .slice none 0 0, .int .i64 0, .int .i64 0, .int .i64 0, .int .i64 0, .int .i64 0, .int .i64 0, .string ⟨#[]⟩, .int .i64 0, .string ⟨#[]⟩, .int .i64 0, .slice none 0 0, .string ⟨#[]⟩, .string ⟨#[]⟩, .string ⟨#[]⟩, .int .i64 0, .int .i64 0, .bool false, .int .i64 0] : Array Value).size = cs0.toArray.size) := by
  have h28 : cs0.toArray.size = 28 := by rw [List.size_toArray, HL.out]
  rw [Hid, h28]; rfl
 have HGQ : Hid (Blk (w2.alloc (.cells zd 41)) w2.heap.size 41 #[.int .i64 0, .int .i64 0, .int .i64 0, .int .i64 0, .int .i64 0, .int .i64 0, .string ⟨#[]⟩, .int .i64 0, .int .i64 0, .slice none 0 0, .int .i64 0, .int .i64 0, .int .i64 0, .int .i64 0, .int .i64 0, .int .i64 0, .string ⟨#[]⟩, .int .i64 0, .string ⟨#[]⟩, .int .i64 0, .slice none 0 0, .string ⟨#[]⟩, .string ⟨#[]⟩, .string ⟨#[]⟩, .int .i64 0, .int .i64 0, .bool false, .int .i64 0]) := Blk.new w2 _ _;go_upto_region 4 with (refine wpList_store_row rfl 41 _ _ rfl w2.heap.size cs0.toArray rfl rfl 41 _ HGQ.out HSZ1.out HSZ2.out HA.out ?_);obtain ⟨w3, hw3⟩ := nE ((w2.alloc (.cells zd 41)).setRow w2.heap.size cs0.toArray)
 have HBW : Hid (Below w2.heap.size w2 w3) := by
  rw [← hw3];have h1 : Below w2.heap.size w2 (w2.alloc (.cells zd 41)) := (Below.refl _ _).alloc (Nat.le_refl _) _;exact h1.trans ((Za.setRow (fun k => k = w2.heap.size) _ _ _ rfl).below h1.size (fun k (e : k = w2.heap.size) => by rw [e]; exact Nat.le_refl _))
 have HGR : Hid (Blk w3 w2.heap.size 41 cs0.toArray) := hw3 ▸ HGQ.setRow _;obtain ⟨gx, hgx⟩ := nE (w2.heap.size);have HGE : Hid (w2.heap.size ≤ gx) := Nat.le_of_eq hgx;rw [hw3, hgx];rw [hgx] at HGR;clear hw3 HSZ1 HSZ2 HGQ hgx;have HX3 := bb HX2 HBW;have HB3 := bt HB2 HBW;cases ok
 ·go_wp2_with fail
  refine (CLV.out _).mono ?_;rintro en w4 ⟨rfl, hb⟩;have HB4 := bt HB3 hb;clear hb;go_wp2_with fail;go_ret;exact ⟨rfl, HB4.out⟩
 have her : er = 0 := by have := HOK.out; simpa using this.symm
 subst her;have HF0 := hid (HNV.out (by first | rfl | trivial) (by first | rfl | trivial));obtain ⟨w0, d, B0, F0, rfl, hB, hd, hr⟩ := HDD.out rfl;have HST : Hid (∀ W, Below w3.heap.size w3 W → Km w1.heap.size B0 d gx F0 w0 W W X0 cs0 F0) := fun W hW => Zjk hd hr HBW.out HGR.out HGE.out hW HL.out HA.out HS12.2.2 HF0.1 HF0.2.1 HF0.2.2;have HBB : Hid (w1.heap.size ≤ B0) := hB
 have HNF : Hid (∀ k, (F0 k ∨ k = gx) → B0 ≤ k ∧ k < w3.heap.size) := fun k h => by
  rcases h with h | h
  ·exact ⟨(hd.fin k h).1, Nat.lt_of_lt_of_le (hd.fin k h).2 HBW.size⟩
  ·rw [h]; exact ⟨Nat.le_trans hd.base HGE.out, HGR.lt⟩
 clear hB hd hr HDD HOK HNV HBW HX2 HB2 HL HA HGE;have T11 := tA HX3.out 11 (.slice B n k) rfl;have T10 := tA HX3.out 10 now rfl;go_upto_region 6 with fail;refine Zg w3.heap.size [] (.val 0 (.val 1 (.val 3 (.val 4 (.op 2 (.op 5 (.val 6 (.val 7 (.nil))))))))) ab ab ?_;obtain ⟨wc, hwc, HBW3⟩ := dw w3;rw [hwc];clear hwc
 iterate 4 ((first | refine Zc rfl rfl ?_ | refine Zq rfl rfl (Yz HBW3.out) ?_); go_big_quiet_step (fail); refine wpQuiet_nil ?_)
 have CQ := hid (CFI.out wc (HB3.trans (HBW3.mono HB3.size)));refine Ze rfl ?_;go_wp2_with fail;refine CQ.mono ?_;rintro en w6 ⟨g, c6, rfl, hown, hb⟩;have HB36 : Hid (Below w3.heap.size w3 w6) := HBW3.trans (hb.mono HBW3.size);have HX6 := bb HX3 HB36;have HB6 := bt HB3 HB36;have HL6 := hid (HST.out w6 HB36.out);have HRD6 : Hid (Rd w6 (some ⟨g, 0, none⟩) (Xo li)) := Wl hown;have HG6 : Hid (w3.heap.size ≤ g ∧ g < w6.heap.size) := ⟨Nat.le_trans HBW3.size (hown.lt g rfl).1, (hown.lt g rfl).2⟩;clear hown hb HX3 HB3 HST CFI CQ HBW3 T11 T10;go_wp2_with fail;refine KT.keep (Yz HB36.out) ?_;have CO := hid (Jg now w6);refine Ze rfl ?_;go_wp2_with fail;refine CO.mono ?_;rintro en w6' ⟨rfl, rfl⟩;clear CO;go_wp2_with fail;refine KT.keep (Yz HB36.out) ?_
 iterate 2 (refine Zc rfl rfl ?_; go_big_quiet_step (fail); refine wpQuiet_nil ?_)
 refine Zi ?_;rw [← HTL.2.1];go_wp2_with fail
 go_loopw [8, 7] (fun iv nv wr => ∃ (i : Nat) (x : Zd) (cs : List Value) (F : Nat → Prop), i ≤ ql ∧ iv = .int .i64 (i : Int) ∧ nv = .int .i64 x.now ∧ Kz x ∧ x.s = ⟨lv, rg, wn, ou, qu, vi⟩ ∧ Km w1.heap.size B0 d gx F0 w0 w6 wr x cs F) (fun iv _ _ => ql - (intOf iv).toNat)
 case atStart => exact ⟨0, X0, cs0, F0, aa, rfl, rfl, HTL.2.2, HTL.1, HL6.out⟩
 case round =>
  obtain ⟨i, x, cs, F, hi, rfl, rfl, hen, hxs, hlp⟩ := hrel;have HEN := hid hen; have HXS := hid hxs; have HLP := hid hlp;clear hen hxs hlp HL6 HF0 HTL;by_cases hlt : i < ql
  ·have hli : i < li.length := by rw [HQL.out]; exact hlt
   have hget : li[i]? = some (li[i]'hli) := List.getElem?_eq_getElem hli;have hII := HIO.out _ (List.getElem_mem hli);obtain ⟨iv, hiv⟩ := nE (li[i]'hli);rw [hiv] at hget hII
   obtain ⟨bl, off, hA, hbl, hcc⟩ := (HLP.keep.rd HRD6.out (fun a ha hf => by
    injection ha with ha; subst ha
    have h1 := HNF.out _ hf; have h2 := HG6.out; simp only at h1; omega)).at (by rw [Mh]; omega)
   injection hA with hA
   injection hA with hA1 hA2
   subst hA1; subst hA2;have hc : ∀ j u, j < 4 → iv.cells[j]? = some u → wr.cell? ⟨g, 0 + (i * 4 + j), none⟩ = some u := fun j u hj hu => hcc _ u ((Zo0 li i iv hget j hj).trans hu)
   have HGF : Hid (¬ F g ∧ g < wr.heap.size) := ⟨fun hf => by
    have h2 := HG6.out;rcases HLP.sub _ hf with h3 | h3
    ·have := HNF.out g (.inl h3); omega
    ·omega, Nat.lt_of_lt_of_le HG6.2 HLP.keep.size⟩
   have HBR : Hid (Below w.heap.size w wr) := HB6.trans (HLP.keep.below HB6.size (fun k hk => ej));have HXR := hid (HLP.keep.blk HX6.out (fun hf => lm));obtain ⟨ik, ib, iN, it⟩ := iv;have c0 := hc 0 _ aa rfl;have c1 := hc 1 _ aa rfl;have c2 := hc 2 _ aa rfl;have c3 := hc 3 _ aa rfl;simp only [Nat.add_zero, ← Nat.add_assoc, Nat.zero_add] at c0 c1 c2 c3;have HII : Hid ((⟨ik, ib, iN, it⟩ : InV).ok ∧ ib.size ≤ 1000000) := hII;have hi2 : (i : Int) < (ql : Int) := aa
   have hi40 : i ≤ 1000 := by have := HLI.out; omega
   clear hget hII hiv hcc hc hli;by_cases k5 : ik = 5
   case neg =>
    have b5 := bF k5;have b5n : (ik != 5) = true := by unfold bne; rw [b5]; rfl
    go_upto_region 11 with fail;have T0 : ∀ q : KW F wr, q.1.cell? ⟨g, i * 4, none⟩ = some (.int .i64 ik) := KW.cellAt HGF.2 HGF.1 c0;have T1 : ∀ q : KW F wr, q.1.cell? ⟨g, i * 4 + 1, none⟩ = some (.string ib) := KW.cellAt HGF.2 HGF.1 c1;have T2 : ∀ q : KW F wr, q.1.cell? ⟨g, i * 4 + 2, none⟩ = some (.int .i64 iN) := KW.cellAt HGF.2 HGF.1 c2;have T3 : ∀ q : KW F wr, q.1.cell? ⟨g, i * 4 + 3, none⟩ = some (.int .i64 it) := KW.cellAt HGF.2 HGF.1 c3;have HXQ : Hid (∀ W, (∃ q : KW F wr, W = q.1) → Blk W gx 41 cs.toArray) := by rintro W ⟨q, rfl⟩; exact q.2.blk HLP.blk HLP.nf
    refine Vd F [10] (.val 0 (.val 1 (.val 2 (.val 3 (.val 4 (.val 5 (.op 6 (.val 7 (.val 8 (.val 9 (.op 10 (.val 11 (.nil))))))))))))) ab ab ?_;obtain ⟨wc, hwc⟩ := nE (wr.drewN 1);have HBW := db hwc;have HKW : Hid (Za F wr wc) := Za.of_below HBW.out;rw [hwc];clear hwc;refine Zc rfl rfl ?_
    go_big_quiet_step (fail)
    refine wpQuiet_nil ?_;refine Zq rfl rfl (Kn HKW.out) ?_;refine BigFrame.wpQuiet_want rfl fun K hK => ?_;refine Js rfl rfl HXQ.out (Zy cs HLP.len) ?_;refine hK _ ?_;simp only [Act.put, List.setIfInBounds_toArray, List.set_cons_succ, List.set_cons_zero];clear hK;clear K;refine wpQuiet_nil ?_
    iterate 3 (refine Zc rfl rfl ?_; go_big_quiet_step (fail); refine wpQuiet_nil ?_)
    refine Zq rfl rfl (Kn HKW.out) ?_
    go_big_quiet_step (fail)
    refine wpQuiet_nil ?_;have CQ := hid ((HLP.below HBW.out).does ⟨ik, ib, iN, it⟩ HII.1 HII.2);obtain ⟨x2, hx2⟩ := nE ((x.one ⟨ik, ib, iN, it⟩).1);have HX2 := hid hx2;rw [hx2] at CQ;refine Ze rfl ?_;go_wp2_with fail;refine CQ.mono ?_;rintro en wd ⟨cs2, F2, rfl, hl, ha, hk, hb2, hln⟩;have HKD : Hid (Za F wr wd) := HKW.trans hk (fun _ => .inl);have HLN0 := hid hln; have HB2 := hid hb2; have HCA := hid ha;have HSZ1 : Hid ((Tryz.prog.info? 41).map (·.size) = some cs2.toArray.size) := dm
    have HSZ2 : Hid (cs.toArray.size = cs2.toArray.size) := by rw [Hid, List.size_toArray, List.size_toArray, hl, HLP.len]
    clear hl ha hk hb2 hln CQ hx2 HBW HKW T0 T1 T2 T3 HXQ;go_wp2_with fail;refine KT.keep (Kn HKD.out) ?_
    iterate 3 (refine Zc rfl rfl ?_; go_big_quiet_step (fail); refine wpQuiet_nil ?_)
    refine Ze rfl ?_;go_wp2_with (refine wpList_store_row rfl 41 _ _ rfl gx cs2.toArray rfl rfl 41 _ HB2.out HSZ1.out HSZ2.out HCA.out ?_);refine KT.past rfl ?_;refine Zc rfl rfl ?_;simp only [Act.put]
    go_big_quiet_step (fail)
    refine wpQuiet_nil ?_;refine Zi ?_;obtain ⟨w7, hw7⟩ := nE (wd.setRow gx cs2.toArray);have HLN := HLN0;rw [hw7] at HLN ⊢;clear hw7 HLN0 HB2 HKD HSZ1 HSZ2 HCA;have HB7 : Hid (Below w.heap.size w w7) := HB6.trans (HLN.keep.below HB6.size (fun k hk => ej));have HX7 := hid (HLN.keep.blk HX6.out (fun hf => lm));have HEN2 : Hid (Kz x2) := by rw [Hid, ← HX2.out]; exact Zro HEN.out _
    have HXS2 : Hid (x2.s = ⟨lv, rg, wn, ou, qu, vi⟩) := by rw [Hid, ← HX2.out, Zma]; exact HXS.out
    have HNO : x.now = x2.now := by rw [← HX2.out]; exact (Zrg k5).symm
    rw [HNO];clear HNO;go_wp2_with fail;go_roundw
    case rel => exact ⟨i + 1, x2, cs2, F2, aa, ax, rfl, HEN2.out, HXS2.out, HLN.out⟩
    case measure => simp [intOf]; omega
   have b5 := bT k5;have b5n : (ik != 5) = false := by unfold bne; rw [b5]; rfl
   have HIT : Hid (it ≤ 9223372036854775807) := HII.1.2.2.2;have C1 := Zso HLP.dial it;obtain ⟨rv, hrv⟩ := nE (x.ready it);rw [hrv] at C1;have C1 := hid C1;clear k5;go_wp2_with fail;refine C1.mono ?_;rintro en w7 ⟨rfl, hb⟩;have HL7 := hid (HLP.below hb);have HBR7 : Hid (Below wr.heap.size wr w7) := hb;clear hb C1 HLP;have C2 := Zsp HL7.dial HL7.fit;obtain ⟨pv, hpv⟩ := nE (((x.price : Nat) : Int));rw [hpv] at C2;have C2 := hid C2;go_wp2_with fail;refine C2.mono ?_;rintro en w8 ⟨rfl, hb⟩;have HL8 := hid (HL7.below hb);have HBR8 : Hid (Below wr.heap.size wr w8) := HBR7.trans (hb.mono HBR7.size);clear hb C2 HL7 HBR7;have C3 := Zg8 HL8.dial;obtain ⟨st, hst⟩ := nE (x.st);rw [hst] at C3;have C3 := hid C3;go_wp2_with fail;refine C3.mono ?_;rintro en w8' ⟨rfl, rfl⟩;clear C3;have HGD : Hid (Wr ⟨lv, rg, wn, ou, qu, vi⟩ = true) := by rw [Hid, ← HXS.out]; exact HL8.dial.ok.good
   have hple : ¬ 1 + max wn ou < pv := by
    have h := Zph HL8.dial.ok.good;rw [HXS.out, hpv] at h;simp only at h;omega
   have CM := hid (fun W => Zje lv rg wn ou qu vi W HGD.out);obtain ⟨mx, hmx⟩ := nE (1 + max wn ou);rw [hmx] at CM hple;clear hmx HGD;have HX8 := bb HXR HBR8
   have HPV : Hid ((st = 0 → 0 < pv) ∧ (st ≠ 0 → pv = 0 ∧ rv = false)) := by
    refine ⟨fun h => ?_, fun h => ⟨?_, ?_⟩⟩
    ·have := Znl (hst.trans h); omega
    ·have := Zkx (x := x) (by rw [hst]; exact h); omega
    ·rw [← hrv]
     cases hq : x.ready it
     ·rfl
     ·exact absurd (hst.symm.trans (Zet hq)) h
   by_cases h0 : st = 0
   case' pos =>
    have f1 : ((st : Int) == 0) = true := bT aa;have f2 : 0 < pv := HPV.1 h0;have f3 : ¬ 0 < (st : Int) := aa
    have f5 : decide (0 < (st : Int)) = false := decide_eq_false f3;have f6 : decide (0 < st) = false := decide_eq_false aa
   case' neg =>
    have f1 : ((st : Int) == 0) = false := bF aa;have f2 : ¬ 0 < pv := by have := (HPV.2 h0).1; omega
    have f3 : 0 < (st : Int) := aa
    have f5 : decide (0 < (st : Int)) = true := decide_eq_true f3;have f6 : decide (0 < st) = true := decide_eq_true aa
   all_goals
    have x0 := cA HX8.out 0 lv rfl;have x1 := cA HX8.out 1 rg rfl;have x2 := cA HX8.out 2 wn rfl;have x3 := cA HX8.out 3 ou rfl;have x4 := cA HX8.out 4 qu rfl;have x5 := cA HX8.out 5 vi rfl;have xl := HX8.lt;go_wp2_with fail;refine (CM.out _).mono ?_;rintro en w9 ⟨rfl, hb⟩;have HL9 := hid (HL8.below hb);have HBR9 : Hid (Below wr.heap.size wr w9) := HBR8.trans (hb.mono HBR8.size);clear hb CM HL8 HBR8 x0 x1 x2 x3 x4 x5 xl HX8;have c39 : w9.cell? ⟨g, i * 4 + 3, none⟩ = some (.int .i64 it) := (World.cell?_of_block (a := ⟨g, i * 4 + 3, none⟩) (HBR9.block g HGF.2)).trans c3;have HG9 : Hid (g < w9.heap.size) := Nat.lt_of_lt_of_le HGF.2 HBR9.size;have hg9 := HG9.out;have HYS : Hid ((x.step it).1.s = ⟨lv, rg, wn, ou, qu, vi⟩) := (Zma x ⟨5, ⟨#[]⟩, 0, it⟩).trans HXS.out;have SF := hid (Zkl x it);have ENS := hid (Zis HEN.out it);have CS := hid (Zmc HL9.dial HL9.fit it HIT.out);have CRS := hid (fun W hW => HL9.refStep it HIT.out W hW);have CSD := hid (fun w1 w2 w3 cs' hd hk h2 hl ha hr h3 => HL9.stepped (w1 := w1) (w2 := w2) (w3 := w3) (cs' := cs') it HIT.out hd hk h2 hl ha hr h3);obtain ⟨⟨y, ⟨sT, sl, sw, sa, sn, sst⟩, did⟩, hK⟩ : ∃ K, x.step it = K := ⟨_, rfl⟩;simp only [hK, Ul.val, hrv] at HYS SF ENS CS CRS CSD;have HST0 := hid hst; have HRV0 := hid hrv;clear hK hst hrv hpv c0 c1 c2 c3 hbl;go_wp2_with fail;refine CS.mono ?_;rintro en w10 ⟨rfl, hd, hk⟩;have HDM := hid hd; have HKM := hid hk;have HC39 := hid c39;clear hd hk CS c39 hg9 hple f1 f2;obtain ⟨wp, hwp⟩ := nE (w10.alloc (.cells zs 51));obtain ⟨gt, hgt⟩ := nE (w10.heap.size);have HGT := hid hgt; have HWP := hid hwp;have HBT : Hid (Blk wp gt 51 zs) := by rw [← hwp, ← hgt]; exact Blk.new w10 _ _
    have HBM := ba hwp;clear hwp hgt;go_upto_region 18 with (rw [HWP.out, HGT.out]; refine wpList_store_row rfl 51 _ _ rfl gt #[sT, (sl : Int), (sw : Int), (sa : Int), (sn : Int), (sst : Int)] rfl rfl 51 _ HBT.out Qg rfl ab ?_);obtain ⟨w12, hw12⟩ := nE (wp.setRow gt #[sT, (sl : Int), (sw : Int), (sa : Int), (sn : Int), (sst : Int)]);have hs : Za (fun k => k = gt) wp w12 := hw12 ▸ Zm;have HTN : Hid (Blk w12 gt 51 #[sT, (sl : Int), (sw : Int), (sa : Int), (sn : Int), (sst : Int)]) := hw12 ▸ HBT.setRow _;rw [hw12];have HB12 : Hid (Below w10.heap.size w10 w12) := HBM.trans (hs.below HBM.size (fun k (e : k = gt) => by rw [e, ← HGT.out]; exact Nat.le_refl _));have HK12 : Hid (Za F w9 w12) := Vl HKM.out HB12.out;have HBX := hid (HK12.blk HL9.blk HL9.nf);have HGN : Hid (gx ≠ gt) := by have h1 := HL9.blk.lt; have h2 := HKM.size; have h3 := HGT.out; rw [Hid]; omega
    have T3 : ∀ q : BW w12.heap.size w12, q.1.cell? ⟨g, i * 4 + 3, none⟩ = some (.int .i64 it) := fun q => q.cellAt (Nat.lt_of_lt_of_le HG9.out HK12.size) ((HK12.cell HG9.out HGF.1).trans HC39.out);have HXQ : Hid (∀ W, (∃ q : BW w12.heap.size w12, W = q.1) → Blk W gx 41 cs.toArray) := by rintro W ⟨q, rfl⟩; exact HBX.below q.2 HBX.lt
    have HLC := hid HL9.len;clear hw12 hs HBT HBM HWP;refine Zg w12.heap.size [11] (.val 0 (.val 1 (.val 2 (.val 3 (.val 4 (.val 5 (.op 6 (.val 7 (.val 8 (.val 9 (.val 10 (.op 11 (.nil))))))))))))) ab ab ?_;obtain ⟨wc, hwc, HBW⟩ := dw w12;rw [hwc];clear hwc;refine Zq rfl rfl (Yz HBW.out) ?_;refine BigFrame.wpQuiet_want rfl fun K hK => ?_;refine Js rfl rfl HXQ.out (Zy cs HLC.out) ?_;refine hK _ ?_;simp only [Act.put, List.setIfInBounds_toArray, List.set_cons_succ, List.set_cons_zero];clear hK;clear K;refine wpQuiet_nil ?_
    iterate 4 (refine Zc rfl rfl ?_; go_big_quiet_step (fail); refine wpQuiet_nil ?_)
    refine Zq rfl rfl (Yz HBW.out) ?_
    go_big_quiet_step (fail)
    refine wpQuiet_nil ?_;have HB1c : Hid (Below w10.heap.size w10 wc) := HB12.trans (HBW.mono HB12.size);have CQ := hid (CRS.out wc ((Vl HKM.out HB1c.out).mono (fun _ _ h => .inl h)));refine Ze rfl ?_;go_wp2_with fail;refine CQ.mono ?_;rintro en w13 ⟨cs2, rfl, hl, ha, hr, hb⟩;have HSD := hid (CSD.out w10 wc w13 cs2 HDM.out HKM.out HB1c.out hl ha hr hb);have HBc : Hid (Below w12.heap.size w12 w13) := HBW.trans (hb.mono HBW.size);have HCA := hid ha;have HSZ1 : Hid ((Tryz.prog.info? 41).map (·.size) = some cs2.toArray.size) := dm
    have HSZ2 : Hid (cs.toArray.size = cs2.toArray.size) := by rw [Hid, List.size_toArray, List.size_toArray, hl, HLC.out]
    clear hl ha hr hb CQ CRS CSD T3 HXQ HBW HB1c HBX;go_wp2_with fail;refine KT.keep (Yz HBc.out) ?_
    iterate 4 (refine Zc rfl rfl ?_; go_big_quiet_step (fail); refine wpQuiet_nil ?_)
    refine Ze rfl ?_;go_wp2_with (refine wpList_store_row rfl 41 _ _ rfl gx cs2.toArray rfl rfl 41 _ HSD.1 HSZ1.out HSZ2.out HCA.out ?_);refine KT.past rfl ?_;refine Zi ?_;have HTE : Hid (Blk (w13.setRow gx cs2.toArray) gt 51 #[sT, (sl : Int), (sw : Int), (sa : Int), (sn : Int), (sst : Int)]) := Zm.blk (HTN.below HBc.out HTN.lt) (fun (e : gt = gx) => HGN.out e.symm);have HLE := hid HSD.2;obtain ⟨w14, hw14⟩ := nE (w13.setRow gx cs2.toArray);rw [hw14] at HTE HLE ⊢;clear hw14 HSD HSZ1 HSZ2 HCA HTN HBc HB12 HK12 HGN HKM HDM HL9 HLC;have CST : Hid (∀ q : BW w14.heap.size w14, Calls Tryz.prog 24 #[.pointer (some ⟨d, 0, none⟩)] q.1 fun e w' => e = .returned (y.st : Int) ∧ Below q.1.heap.size q.1 w') := fun q => (Zg8 (HLE.dial.below q.2)).mono (fun e w' h => ⟨h.1, by rw [← h.2]; exact Below.refl _ _⟩);have hdr := SF.1;subst hdr;cases did
    case true =>
     have hz : st = 0 := by
      by_cases hz : st = 0
      ·exact hz
      ·exact absurd (HPV.2 hz).2 ac
     try (exfalso; omega)
     all_goals
      have f4 : ¬ 0 < (st : Int) := aa
      clear f5 f6;have f5 := decide_eq_false f4;have f6 : decide (0 < st) = false := decide_eq_false aa;obtain ⟨e1, e2, e3⟩ := SF.2.1 rfl;have n1 : ¬ y.now < x.now := aa
      have n2 := decide_eq_false n1;have T0 : ∀ q : BW w14.heap.size w14, q.1.cell? ⟨gt, 0, none⟩ = some (.int .i64 y.now) := fun q => q.cellAt HTE.lt (by rw [← e2]; exact HTE.cell 0);have T5 : ∀ q : BW w14.heap.size w14, q.1.cell? ⟨gt, 5, none⟩ = some (.int .i64 (y.st : Int)) := fun q => q.cellAt HTE.lt (by rw [← e1]; exact HTE.cell 5);have HE2 := hid e2;clear hz f3 e1 e2 e3 HPV SF;go_upto_region 19 with fail;refine Zk w14.heap.size ab ab ?_;simp only [Act.put]
      repeat (go_big_quiet_step ((go_at_call 24; exact Zmu (Nat.le_refl _) CST.out _)))
      refine wpQuiet_nil ?_;intro w15 hq;have HB15 : Hid (Below w14.heap.size w14 w15) := by obtain ⟨q, rfl⟩ := hq; exact q.2
      have HL15 := hid (HLE.below HB15.out);clear hq CST;have x0 : w15.cell? ⟨gt, 0, none⟩ = some (.int .i64 y.now) := by rw [← HE2.out]; exact (HTE.below HB15.out HTE.lt).cell 0
      have xl := Nat.lt_of_lt_of_le HTE.lt HB15.size;exact N14
    case false =>
     have e := SF.2.2 rfl;have e1 : y.st = st := by rw [e]; exact HST0.out
     have HNOW : Hid (x.now = y.now) := by rw [Hid, e]
     have e4 : ((y.st : Int) != (st : Int)) = false := by rw [e1]; exact bne_self_eq_false _
     have e5 : ((y.st : Int) == (st : Int)) = true := by rw [e1]; exact beq_self_eq_true _
     clear e e1 HPV SF;go_upto_region 19 with fail;refine Zk w14.heap.size ab ab ?_;simp only [Act.put]
     repeat (go_big_quiet_step ((go_at_call 24; exact Zmu (Nat.le_refl _) CST.out _)))
     refine wpQuiet_nil ?_;intro w15 hq;have HB15 : Hid (Below w14.heap.size w14 w15) := by obtain ⟨q, rfl⟩ := hq; exact q.2
     have HL15 := hid (HLE.below HB15.out);clear hq CST;rw [HNOW.out];exact N14
  ·go_wp2_with fail
   refine (CLV.out _).mono ?_;rintro en w4 ⟨rfl, hb⟩;have HBR : Hid (Below w.heap.size w wr) := HB6.trans (HLP.keep.below HB6.size (fun k hk => ej));have HB4 := bt HBR hb;clear hb;go_wp2_with fail;go_ret;exact ⟨rfl, HB4.out⟩
open Go.ChangeShapes Go.WideShapes Go.ChangeAt Go.WideElems Go.Deep
open Go.ChangeMaps (open_string shut_string)
theorem dialPrices_lifted (os : Os) (started : os.Started) (H : Type) (enc : TypeId × Value → H) :
  ReturnsInHanded {} Tryz.checked os 8 .any (Rows.dialPricesSpec.pre6 enc Tryz.prog Tryz.f8 [] false) (Rows.dialPricesSpec.post enc Tryz.prog Tryz.f8 false true false false) := by
 refine law_lifted 8 Tryz.f8 Rows.dialPricesSpec os started H enc Tryz.func8 ab ab ab rfl (fun ds h => ?_)
  (ChangeSpec.witness6 (enc := enc) (C := Tryz.checked) false ⟨#[], #[.agg #[.int .i64 0, .int .i64 0, .int .i64 0, .int .i64 0, .int .i64 0, .int .i64 0, .string ⟨#[]⟩, .int .i64 0, .int .i64 0, .slice none 0 0, .int .i64 0, .slice none 0 0, .int .i64 0]], []⟩ 8 ab ab ab ab) ?_
 ·have hn : ds.length = 1 := h
  match ds, hn with
  | [d0], _ => rfl
 ·intro W args ds p base hval hA _ _
  rw [show Tryz.f8.params.toList = [29] from by rw [Tryz.params8]] at hval hA;obtain ⟨v0, _, d0, _, p0, _, rfl, rfl, rfl, h0, hA⟩ := Zqv hA;obtain rfl := Zru hA;obtain ⟨x0, A0, c0, B0, k0, rfl, hx0⟩ := Zfo (hval 0 _ v0 rfl rfl) h0;exact Zfq A0 c0 B0 k0 x0 W hx0
theorem dialPrices_holds : Rows.DialPricesSaid :=
 OpenClaim.holds_of_wide 8 Tryz.f8 rfl rfl rfl rfl rfl rfl rfl ⟨rfl, rfl, rfl, rfl, rfl⟩ rfl rfl rfl rfl rfl ab Tryz.func8 ab
  (of_decide_eq_true ab) (by unfold Func.isWrapper; first | (rw [if_pos (by decide +kernel)]; kernel_rfl) | (rw [if_neg (by decide +kernel)]; exact ⟨rfl, rfl⟩))
  (fun os started H enc _ => dialPrices_lifted os started H enc)
#print axioms dialPrices_holds
end Go.Proofs.YtpkkfdmhbbipoaaGreat
