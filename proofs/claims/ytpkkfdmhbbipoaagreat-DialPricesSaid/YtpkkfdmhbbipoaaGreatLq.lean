/- Law 22's does: an input comes to a dialogue and to the reference's; what comes of it is the same. Both dialogues in a law's loop. -/
import Derived.Test.YtpkkfdmhbbipoaaGreatLp
import Derived.Test.YtpkkfdmhbbipoaaGreatDl
namespace Go.Proofs.YtpkkfdmhbbipoaaGreat
set_option maxRecDepth 20000
set_option maxHeartbeats 4000000
open Go.RowKit PopT
theorem Qg : (Tryz.prog.info? 51).map (·.size) = some 6 := by kernel_rfl
def Zr3 (b B d : Nat) (F H : Nat → Prop) (w0 w : World) (y : Zd) (e : Ending) (w' : World) : Prop := ∃ (cs : List Value) (F' : Nat → Prop), e = .returned (.tuple #[.agg cs.toArray, .bool true]) ∧ cs.length = 28 ∧ cs.toArray.all (·.oneCell') = true ∧
 (∀ k, F' k → F k ∨ w.heap.size ≤ k) ∧ Zj B F' w0 w' d y ∧ Za F w w' ∧ Vr b (fun k => F' k ∨ H k) w' y (.agg cs.toArray)
theorem Zcq {b B d gr : Nat} {F F' H : Nat → Prop} {w0 w wl wu : World} {y : Zd} {v : Value} {cs : List Value} (h1 : Below w.heap.size w wl) (hd : Zj B F' w0 wu d y) (hF : ∀ k, F' k → F k ∨ wl.heap.size ≤ k) (hB : B ≤ w.heap.size) (hfin : ∀ k, F k → k < w.heap.size) (hk : Za F wl wu)
  (hr : Vr b (fun k => (F k ∨ H k) ∨ k = gr) wl y v) (hg : w.heap.size ≤ gr ∧ gr < wl.heap.size) :
  (∀ k, F' k → F k ∨ w.heap.size ≤ k) ∧ Zj B F' w0 (wu.setRow gr cs.toArray) d y ∧ Za F w (wu.setRow gr cs.toArray) ∧ Vr b (fun k => F' k ∨ H k) (wu.setRow gr cs.toArray) y v := by
 have hs : Za (fun k => k = gr) wu (wu.setRow gr cs.toArray) := Zm;have hk2 : Za (fun k => (F k ∨ H k) ∨ k = gr) wl (wu.setRow gr cs.toArray) := (hk.mono (fun _ _ h => .inl (.inl h)) : Za (fun k => (F k ∨ H k) ∨ k = gr) wl wu).trans hs (fun _ h => .inl (.inr h));refine ⟨fun k h => (hF k h).imp_right (Nat.le_trans h1.size), hd.keepG hs (fun k h (e : k = gr) => ?_) (fun k (e : k = gr) => by rw [e]; exact Nat.le_trans hB hg.1), ?_, (hr.up hk2).mono ?_⟩
 ·subst e
  rcases hF _ h with h | h
  ·exact Nat.lt_irrefl _ (Nat.lt_of_lt_of_le (hfin _ h) hg.1)
  ·exact Nat.lt_irrefl _ (Nat.lt_of_lt_of_le hg.2 h)
 ·exact ((Za.of_below h1 : Za F w wl).trans hk (fun _ => .inl)).trans hs (fun k (e : k = gr) => .inr (by rw [e]; exact hg.1))
 ·rintro k (h | h)
  ·rcases hF k h with h2 | h2
   ·exact .inl (.inl (.inl h2))
   ·exact .inr ⟨h2, Nat.lt_of_lt_of_le (hd.fin k h).2 hs.size⟩
  ·exact .inl (.inl (.inr h))
theorem N10{P:Prop}(h:P:=by
 have CQ := hid (CC.out wc (HDA.below HBW.out));refine Ze rfl ?_;go_wp2_with fail;refine CQ.mono ?_;rintro en wn ⟨rfl, hd, hk⟩;have HDN := hid hd; have HKN : Hid (Za F wl wn) := HKW.trans hk (fun _ => .inl);have HSB : Hid (wl.heap.size ≤ wc.heap.size) := HBW.size;have HBR := hid (HKN.blk (HL.get 2 rfl) HNF.2.1);clear hd hk CQ CC HKW HBW;go_wp2_with fail;refine KT.keep (Kn HKN.out) ?_
 iterate 1 (refine Zc rfl rfl ?_; go_big_quiet_step (fail); refine wpQuiet_nil ?_)
 refine Ze rfl ?_;go_wp2_with (refine wpList_store_row rfl 41 _ _ rfl gr cs.toArray rfl rfl 41 _ HBR.out HSZ1.out HSZ2.out HCA.out ?_);refine KT.past rfl ?_;refine Zc rfl rfl ?_;simp only [Act.put]
 go_big_quiet_step (fail)
 refine wpQuiet_nil ?_;refine Zi ?_;go_wp2_with fail;have hres := run_loadVar_mid (P := Tryz.prog) (wn.setRow gr cs.toArray) gr 0 41 cs _ (Blk.range (HBR.setRow cs.toArray)) Tryz.underlying41 rfl ft;refine bodyPost_ret (Ww (Yb.cell rfl hres) (Yb.tmp rfl) Tryz.results22) rfl ?_;rw [← HQ.out];exact ⟨cs, _, rfl, HCS.out, HCA.out, Zcq HL.bel HDN.out (fun k h => h.imp_right (fun h => Nat.le_trans HSB.out h.1)) HFIN.1 HFIN.2.1 HKN.out HRG.out HG.out⟩):P:=h
theorem N136{P:Prop}(h:P:=by
 have jl : gi < wc.heap.size := Nat.lt_of_lt_of_le (HL.get 1 rfl).lt HBW.size;refine Ze rfl ?_;go_wp2_with fail;refine KT.same ?_;clear j1 jl;exact N10):P:=h
theorem Zqk {B d b : Nat} {F H : Nat → Prop} {w0 w : World} {x : Zd} {v : Value} (hd : Zj B F w0 w d x) (hr : Vr b (fun k => F k ∨ H k) w x v) (hbw : b ≤ w.heap.size) (hf : Fit x) (hj : Ue x) (hl : Zh7 x.s) (i : InV) (hi : i.ok) (hib : i.b.size ≤ 1000000) :
  Calls Tryz.prog 22 #[.pointer (some ⟨d, 0, none⟩), v, .agg #[i.kind, i.b, i.n, i.tick]] w fun e w' => Zr3 b B d F H w0 w (x.one i).1 e w' := by
 have hfc := hd.facts
 have HIN : Hid (∀ W, Below w.heap.size w W → Calls Tryz.prog 68 #[v, .agg #[i.kind, i.b, i.n, i.tick]] W fun e w' => ∃ v', e = .returned (.tuple #[v', .int .i64 (x.one i).2.n, .string (x.one i).2.b, .agg #[.int .i64 (x.one i).2.t, .int .i64 (x.one i).2.loc, .int .i64 (x.one i).2.what, .int .i64 (x.one i).2.arm, .int .i64 (x.one i).2.m, .int .i64 (x.one i).2.st], .bool (x.one i).2.did]) ∧ Xz b (fun k => F k ∨ H k) w W w' (x.one i).1 v' ∧ Below W.heap.size W w') := fun W hW =>
  Zra hr (Za.of_below hW) (Nat.le_trans hbw hW.size) hd.ok hj (fun h0 hk => hd.look hf hl h0 hk) hfc.1 hfc.2.1 (by have := hf.2; omega) hfc.2.2.1 i ⟨hi.2.1, hi.2.2, hib⟩
 have HFIN : Hid (B ≤ w.heap.size ∧ (∀ k, F k → k < w.heap.size) ∧ ∀ k, H k → k < w.heap.size) := ⟨hd.base, fun k h => (hd.fin k h).2, fun k h => hr.1 k (.inr h)⟩
 have C1 : Hid (i.kind = 1 → ∀ W, Zj B F w0 W d x → Calls Tryz.prog 16 #[.pointer (some ⟨d, 0, none⟩), i.b] W fun e w' => e = .returned (.int .i64 (x.one i).2.n) ∧ Zj B (Fup F W w') w0 w' d (x.one i).1 ∧ Za F W w') := fun hk W h => by
  rw [show x.one i = _ from if_pos hk]; exact Zsu h i.b hi.1
 have C2 : Hid (i.kind = 2 → ∀ W, Zj B F w0 W d x → Calls Tryz.prog 17 #[.pointer (some ⟨d, 0, none⟩)] W fun e w' => e = .returned (.bool (x.one i).2.did) ∧ Zj B (Fup F W w') w0 w' d (x.one i).1 ∧ Za F W w') := fun hk W h => by
  rw [show x.one i = (x.ends, ⟨0, ⟨#[]⟩, 0, 0, 0, 0, 0, 0, decide (x.st = 0) && !x.eof⟩) by unfold Zd.one; rw [hk]; rfl]; exact Zs8 h
 have C3 : Hid (i.kind = 3 → ∀ W, Zj B F w0 W d x → Calls Tryz.prog 18 #[.pointer (some ⟨d, 0, none⟩), i.n] W fun e w' => e = .returned (.string (x.one i).2.b) ∧ Zj B (Fup F W w') w0 w' d (x.one i).1 ∧ Za F W w') := fun hk W h => by
  rw [show x.one i = (x.take i.n, ⟨0, x.took i.n, 0, 0, 0, 0, 0, 0, false⟩) by unfold Zd.one; rw [hk]; rfl]; exact Zs5 h i.n
 have C4 : Hid (i.kind = 4 → ∀ W, Zj B F w0 W d x → Calls Tryz.prog 19 #[.pointer (some ⟨d, 0, none⟩), i.tick] W fun e w' => e = .returned (.tuple #[]) ∧ Zj B (Fup F W w') w0 w' d (x.one i).1 ∧ Za F W w') := fun hk W h => by
  rw [show x.one i = (x.cuts i.tick, Zj6) by unfold Zd.one; rw [hk]; rfl]; exact Zs9 h i.tick hi.2.2
 have C5 : Hid (i.kind = 5 → ∀ W, Zj B F w0 W d x → Calls Tryz.prog 20 #[.pointer (some ⟨d, 0, none⟩), i.tick] W fun e w' => e = .returned (.tuple #[.agg #[.int .i64 (x.one i).2.t, .int .i64 (x.one i).2.loc, .int .i64 (x.one i).2.what, .int .i64 (x.one i).2.arm, .int .i64 (x.one i).2.m, .int .i64 (x.one i).2.st], .bool (x.one i).2.did]) ∧ Zj B (Fup F W w') w0 w' d (x.one i).1 ∧ Za F W w') := fun hk W h => by
  rw [show x.one i = ((x.step i.tick).1, Zqz (x.step i.tick).2.1 (x.step i.tick).2.2) by unfold Zd.one; rw [hk]; rfl]; exact Zmc h hf i.tick hi.2.2.2
 have C6 : Hid (i.kind ≠ 1 → i.kind ≠ 2 → i.kind ≠ 3 → i.kind ≠ 4 → i.kind ≠ 5 → (x.one i).1 = x) := fun h1 h2 h3 h4 h5 => by
  unfold Zd.one; rw [if_neg h1, if_neg h2, if_neg h3, if_neg h4, if_neg h5]
 have HDA0 := hid hd;obtain ⟨ik, ib, iN, it⟩ := i;simp only at HIN C1 C2 C3 C4 C5 C6 ⊢;obtain ⟨⟨y, ⟨kn, kb, o1, o2, o3, o4, o5, o6, did⟩⟩, hK⟩ : ∃ K, x.one ⟨ik, ib, iN, it⟩ = K := ⟨_, rfl⟩;rw [hK] at HIN C1 C2 C3 C4 C5 C6;simp only [hK] at HIN C1 C2 C3 C4 C5 C6 ⊢;obtain ⟨lv, rg, wn, ou, qu, vi, dl, jp, lo, st, ju, d1, d2, d3, wi, se, mo, tr, nw, nm, inn, sS, dn, ot, rs, A, Av, n, c, nv, cv, ef, rfl, hE⟩ := hr.opened;obtain ⟨Q, hQ⟩ : ∃ Q : Ending → World → Prop, (fun e w' => Zr3 b B d F H w0 w y e w') = Q := ⟨_, rfl⟩;have HQ := hid hQ;rw [hQ];clear hd hr hbw hf hj hl hi hib hfc hK hE hQ;go_enter Tryz.func22, Tryz.ntmps22;go_upto_region 1 with fail;generalize hwz : ((w.alloc (.cells #[lv, rg, wn, ou, qu, vi, nm, dl, jp, .slice A n c, lo, st, ju, d1, d2, d3, inn, wi, sS, se, .slice Av nv cv, dn, ot, rs, mo, tr, ef, nw] 41)).alloc (.cells #[ik, ib, iN, it] 46)).alloc (.cells zd 41) = wz;obtain ⟨gx, gi, gr, hgx, hgi, hgr, HZ⟩ := Zsr hwz;rw [hgr, hgi, hgx];clear hgr hgi hgx hwz;have CIN := hid (HIN.out wz HZ.bel);clear HIN;obtain ⟨i0, i1, i2, i3, il⟩ : wz.cell? ⟨gi, 0, none⟩ = some (.int .i64 ik) ∧ wz.cell? ⟨gi, 1, none⟩ = some (.string ib) ∧ wz.cell? ⟨gi, 2, none⟩ = some (.int .i64 iN) ∧ wz.cell? ⟨gi, 3, none⟩ = some (.int .i64 it) ∧ gi < wz.heap.size := ⟨(HZ.get 1 rfl).cell 0, (HZ.get 1 rfl).cell 1, (HZ.get 1 rfl).cell 2, (HZ.get 1 rfl).cell 3, (HZ.get 1 rfl).lt⟩;go_wp2_with (refine wpList_load_mid rfl 41 _ rfl gx 0 rfl [lv, rg, wn, ou, qu, vi, nm, dl, jp, .slice A n c, lo, st, ju, d1, d2, d3, inn, wi, sS, se, .slice Av nv cv, dn, ot, rs, mo, tr, ef, nw] _ (Blk.range (HZ.get 0 rfl)) Tryz.underlying41 rfl Zh ?_);refine CIN.mono ?_;rintro en wn ⟨v', rfl, hru, hb⟩;obtain ⟨cs, rfl, hlc, hac⟩ := hru.now.agg;have H4 := hid (HZ.below hb);have HCS := hid hlc; have HCA := hid hac
 have HRN : Hid (Vr b (fun k => (F k ∨ H k) ∨ k = gr) wn y (.agg cs.toArray)) := ⟨fun k h => by
  have h1 := H4.bel.size;rcases h with (h | h) | h
  ·exact Nat.lt_of_lt_of_le (HFIN.2.1 k h) h1
  ·exact Nat.lt_of_lt_of_le (HFIN.2.2 k h) h1
  ·rw [h]; exact (H4.low 2 rfl).2, fun W hW => hru W (hW.mono (fun k _ h => h.imp_right (fun e => by rw [e]; exact HZ.low 2 rfl)))⟩
 clear hru hb hlc hac i0 i1 i2 i3 il CIN HZ;obtain ⟨wu, hwu⟩ := nE ((wn.alloc (.cells zd 41)).alloc (.cells zs 51));obtain ⟨gy, gs, hgy, hgs, HU, HBU⟩ := H4.two (c1 := [.int .i64 0, .int .i64 0, .int .i64 0, .int .i64 0, .int .i64 0, .int .i64 0, .string ⟨#[]⟩, .int .i64 0, .int .i64 0, .slice none 0 0, .int .i64 0, .int .i64 0, .int .i64 0, .int .i64 0, .int .i64 0, .int .i64 0, .string ⟨#[]⟩, .int .i64 0, .string ⟨#[]⟩, .int .i64 0, .slice none 0 0, .string ⟨#[]⟩, .string ⟨#[]⟩, .string ⟨#[]⟩, .int .i64 0, .int .i64 0, .bool false, .int .i64 0]) (c2 := [.int .i64 0, .int .i64 0, .int .i64 0, .int .i64 0, .int .i64 0, .int .i64 0]) hwu;have HWU := hid hwu; have HGY := hid hgy; have HGS := hid hgs;have HYS := hid (Zm (g := gy) (cs := cs.toArray) |>.blk (HU.get 4 rfl) (HU.ne 4 3 rfl rfl ac));have HSZ1 : Hid ((Tryz.prog.info? 41).map (·.size) = some cs.toArray.size) := ek
 have HSZ2 : Hid ((#[.int .i64 0, .int .i64 0, .int .i64 0, .int .i64 0, .int .i64 0, .int .i64 0, .string ⟨#[]⟩, .int .i64 0, .int .i64 0, .slice none 0 0, .int .i64 0, .int .i64 0, .int .i64 0, .int .i64 0, .int .i64 0, .int .i64 0, .string ⟨#[]⟩, .int .i64 0, .string ⟨#[]⟩, .int .i64 0, .slice none 0 0, .string ⟨#[]⟩, .string ⟨#[]⟩, .string ⟨#[]⟩, .int .i64 0, .int .i64 0, .bool false, .int .i64 0] : Array Value).size = cs.toArray.size) := by
  exact N56
 clear hwu hgy hgs H4;go_upto_region 2 with (first | (rw [HWU.out, HGS.out, HGY.out]; refine wpList_store_row rfl 41 _ _ rfl gy cs.toArray rfl rfl 41 _ (HU.get 3 rfl) HSZ1.out HSZ2.out HCA.out ?_) | (refine wpList_store_row rfl 51 _ _ rfl gs #[o1, o2, o3, o4, o5, o6] rfl rfl 51 _ HYS.out Qg rfl ab ?_));obtain ⟨wl, hwl⟩ := nE ((wu.setRow gy cs.toArray).setRow gs #[o1, o2, o3, o4, o5, o6]);have H6 := hid (HU.keep 3 rfl (Zm (cs := cs.toArray)) ((HU.get 3 rfl).setRow cs.toArray));have HL := hid (H6.keep 4 rfl (Zm (cs := #[o1, o2, o3, o4, o5, o6])) ((H6.get 4 rfl).setRow #[o1, o2, o3, o4, o5, o6]))
 have HKL : Hid (Za (fun k => (F k ∨ H k) ∨ k = gr) wn wl) := by
  rw [Hid, ← hwl];exact ((Za.of_below HBU.out).trans Zm (fun k (e : k = gy) => .inr (by rw [e, ← HGY.out]; exact Nat.le_refl _))).trans Zm (fun k (e : k = gs) => .inr (by rw [e, ← HGS.out]; exact Nat.le_add_right _ 1))
 rw [hwl] at HL ⊢;have HRG : Hid (Vr b (fun k => (F k ∨ H k) ∨ k = gr) wl y (.agg cs.toArray)) := (HRN.up HKL.out).mono (fun _ => .inl);have HDA : Hid (Zj B F w0 wl d x) := HDA0.below HL.bel;have HNF : Hid (¬ F gy ∧ ¬ F gr ∧ ¬ F gi ∧ ¬ F gs) := ⟨fun h => Nat.lt_irrefl _ (Nat.lt_of_lt_of_le (HFIN.2.1 _ h) (HL.low 3 rfl).1), fun h => Nat.lt_irrefl _ (Nat.lt_of_lt_of_le (HFIN.2.1 _ h) (HL.low 2 rfl).1), fun h => Nat.lt_irrefl _ (Nat.lt_of_lt_of_le (HFIN.2.1 _ h) (HL.low 1 rfl).1), fun h => Nat.lt_irrefl _ (Nat.lt_of_lt_of_le (HFIN.2.1 _ h) (HL.low 4 rfl).1)⟩;have HYQ : Hid (∀ W, (∃ q : KW F wl, W = q.1) → Blk W gy 41 cs.toArray) := by rintro W ⟨q, rfl⟩; exact q.2.blk (HL.get 3 rfl) HNF.1
 have HG : Hid (w.heap.size ≤ gr ∧ gr < wl.heap.size) := HL.low 2 rfl;clear hwl H6 HKL HRN HBU HWU HGY HGS HYS HU HDA0;have i0 := cA (HL.get 1 rfl) 0 (.int .i64 ik) rfl;have il := (HL.get 1 rfl).lt;by_cases h1 : ik = 1
 ·have b1 := bT h1
  have CC := hid (C1.out h1);clear h1 C1 C2 C3 C4 C5 C6;go_upto_region 4 with fail;refine Vd F [7] (.val 0 (.val 1 (.val 2 (.val 5 (.op 3 (.op 4 (.val 6 (.op 7 (.val 8 (.nil)))))))))) ab ab ?_;obtain ⟨wc, hwc⟩ := nE (wl.drewN 1);have HBW := db hwc;have HKW : Hid (Za F wl wc) := Za.of_below HBW.out;rw [hwc];clear hwc;refine Zq rfl rfl (Kn HKW.out) ?_;refine BigFrame.wpQuiet_want rfl fun K hK => ?_;refine Js rfl rfl HYQ.out (Zy cs HCS.out) ?_;refine hK _ ?_;simp only [Act.put, List.setIfInBounds_toArray, List.set_cons_succ, List.set_cons_zero];clear hK;clear K;refine wpQuiet_nil ?_
  iterate 3 (refine Zc rfl rfl ?_; go_big_quiet_step (fail); refine wpQuiet_nil ?_)
  have j1 := cA ((HL.get 1 rfl).below HBW.out (HL.get 1 rfl).lt) 1 (.string ib) rfl;exact N136
 have n1 := bF h1;by_cases h2 : ik = 2
 ·have b2 := bT h2
  have CC := hid (C2.out h2);clear h1 h2 C1 C2 C3 C4 C5 C6;go_upto_region 6 with fail;refine Vd F [5] (.val 0 (.val 1 (.val 3 (.op 2 (.val 4 (.op 5 (.val 6 (.nil)))))))) ab ab ?_;obtain ⟨wc, hwc⟩ := nE (wl.drewN 1);have HBW := db hwc;have HKW : Hid (Za F wl wc) := Za.of_below HBW.out;rw [hwc];clear hwc;refine Zq rfl rfl (Kn HKW.out) ?_;refine BigFrame.wpQuiet_want rfl fun K hK => ?_;refine Js rfl rfl HYQ.out (Zy cs HCS.out) ?_;refine hK _ ?_;simp only [Act.put, List.setIfInBounds_toArray, List.set_cons_succ, List.set_cons_zero];clear hK;clear K;refine wpQuiet_nil ?_
  iterate 2 (refine Zc rfl rfl ?_; go_big_quiet_step (fail); refine wpQuiet_nil ?_)
  exact N10
 have n2 := bF h2;by_cases h3 : ik = 3
 ·have b3 := bT h3
  have CC := hid (C3.out h3);clear h1 h2 h3 C1 C2 C3 C4 C5 C6;go_upto_region 8 with fail;refine Vd F [7] (.val 0 (.val 1 (.val 2 (.val 5 (.op 3 (.op 4 (.val 6 (.op 7 (.val 8 (.nil)))))))))) ab ab ?_;obtain ⟨wc, hwc⟩ := nE (wl.drewN 1);have HBW := db hwc;have HKW : Hid (Za F wl wc) := Za.of_below HBW.out;rw [hwc];clear hwc;refine Zq rfl rfl (Kn HKW.out) ?_;refine BigFrame.wpQuiet_want rfl fun K hK => ?_;refine Js rfl rfl HYQ.out (Zy cs HCS.out) ?_;refine hK _ ?_;simp only [Act.put, List.setIfInBounds_toArray, List.set_cons_succ, List.set_cons_zero];clear hK;clear K;refine wpQuiet_nil ?_
  iterate 3 (refine Zc rfl rfl ?_; go_big_quiet_step (fail); refine wpQuiet_nil ?_)
  have j1 := cA ((HL.get 1 rfl).below HBW.out (HL.get 1 rfl).lt) 2 (.int .i64 iN) rfl;exact N136
 have n3 := bF h3;by_cases h4 : ik = 4
 ·have b4 := bT h4
  have CC := hid (C4.out h4);clear h1 h2 h3 h4 C1 C2 C3 C4 C5 C6;have i3 := cA (HL.get 1 rfl) 3 (.int .i64 it) rfl;have CQ := hid (CC.out wl HDA.out);clear CC;go_wp2_with fail;refine CQ.mono ?_;rintro en wn ⟨rfl, hd, hk⟩;have HDN := hid hd; have HKN := hid hk;have HSB : Hid (wl.heap.size ≤ wl.heap.size) := Nat.le_refl _;have HBR := hid (HKN.blk (HL.get 2 rfl) HNF.2.1);have HBY := hid (HKN.blk (HL.get 3 rfl) HNF.1);clear hd hk CQ i0 i3 il;have HSQ : Hid (gr < wn.heap.size) := HBR.lt;go_wp2_with (first | (refine wpList_load_mid rfl 41 _ rfl gy 0 rfl cs _ (Blk.range HBY.out) Tryz.underlying41 rfl ft ?_) | (refine wpList_store_row rfl 41 _ _ rfl gr cs.toArray rfl rfl 41 _ HBR.out HSZ1.out HSZ2.out HCA.out ?_));have hres := run_loadVar_mid (P := Tryz.prog) (wn.setRow gr cs.toArray) gr 0 41 cs _ (Blk.range (HBR.setRow cs.toArray)) Tryz.underlying41 rfl ft;refine bodyPost_ret (Ww (Yb.cell rfl hres) (Yb.tmp rfl) Tryz.results22) rfl ?_;rw [← HQ.out];exact ⟨cs, _, rfl, HCS.out, HCA.out, Zcq HL.bel HDN.out (fun k h => h.imp_right (fun h => Nat.le_trans HSB.out h.1)) HFIN.1 HFIN.2.1 HKN.out HRG.out HG.out⟩
 have n4 := bF h4;by_cases h5 : ik = 5
 ·have b5 := bT h5
  have CC := hid (C5.out h5);clear h1 h2 h3 h4 h5 C1 C2 C3 C4 C5 C6;have i3 := cA (HL.get 1 rfl) 3 (.int .i64 it) rfl;have CQ := hid (CC.out wl HDA.out);clear CC;go_wp2_with fail;refine CQ.mono ?_;rintro en wm ⟨rfl, hd, hk⟩;have HDM := hid hd; have HKM := hid hk;clear hd hk CQ i0 i3 il;obtain ⟨wp, hwp⟩ := nE (wm.alloc (.cells zs 51));obtain ⟨gt, hgt⟩ := nE (wm.heap.size);have HGT := hid hgt; have HWP := hid hwp;have HBT : Hid (Blk wp gt 51 zs) := by rw [← hwp, ← hgt]; exact Blk.new wm _ _
  have HBM := ba hwp;clear hwp hgt;go_upto_region 13 with (rw [HWP.out, HGT.out]; refine wpList_store_row rfl 51 _ _ rfl gt #[o1, o2, o3, o4, o5, o6] rfl rfl 51 _ HBT.out Qg rfl ab ?_);obtain ⟨wn, hwn⟩ := nE (wp.setRow gt #[o1, o2, o3, o4, o5, o6]);have hs : Za (fun k => k = gt) wp wn := hwn ▸ Zm;have HTN : Hid (Blk wn gt 51 #[o1, o2, o3, o4, o5, o6]) := hwn ▸ HBT.setRow _;rw [hwn];have HKN : Hid (Za F wl wn) := (Vl HKM.out HBM.out).trans hs (fun k (e : k = gt) => .inr (by rw [e, ← HGT.out]; exact HKM.size))
  have HDN : Hid (Zj B (Fup F wl wm) w0 wn d y) := (HDM.below HBM.out).keepG hs (fun k h (e : k = gt) => by
   have h2 := (HDM.fin k h).2;rw [e, ← HGT.out] at h2; exact Nat.lt_irrefl _ h2) (fun k (e : k = gt) => by rw [e, ← HGT.out]; exact HDM.base)
  have HSB : Hid (wl.heap.size ≤ wl.heap.size) := Nat.le_refl _;have HBR := hid (HKN.blk (HL.get 2 rfl) HNF.2.1);have HBY := hid (HKN.blk (HL.get 3 rfl) HNF.1);have HBS := hid (HKN.blk (HL.get 4 rfl) HNF.2.2.2);clear hwn hs HKM HBM HDM HGT HWP HBT;refine Zg wn.heap.size [9] (.val 0 (.two 1 (.op 2 (.val 3 (.val 4 (.val 5 (.val 6 (.val 7 (.val 8 (.op 9 (.val 10 (.nil)))))))))) 2 (.op 1 (.val 3 (.val 4 (.val 5 (.val 6 (.val 7 (.val 8 (.op 9 (.val 10 (.nil))))))))))))  ab ab ?_;obtain ⟨wc, hwc, HBW⟩ := dw wn;rw [hwc];clear hwc;have HYQ2 : Hid (∀ W, (∃ q : BW wn.heap.size wn, W = q.1) → Blk W gy 41 cs.toArray) := by rintro W ⟨q, rfl⟩; exact HBY.below q.2 HBY.lt
  refine Zq rfl rfl (Yz HBW.out) ?_;refine BigFrame.wpQuiet_want rfl fun K hK => ?_;refine Js rfl rfl HYQ2.out (Zy cs HCS.out) ?_;refine hK _ ?_;simp only [Act.put, List.setIfInBounds_toArray, List.set_cons_succ, List.set_cons_zero];clear hK;clear K;refine wpQuiet_nil ?_;have HTC := bb HTN HBW; have HSC := bb HBS HBW; have HRC := bb HBR HBW;refine Wj rfl rfl ?_ ?_
  case' refine_1 => go_wp2_with (refine wpList_load_mid rfl 51 _ rfl gt 0 rfl [o1, o2, o3, o4, o5, o6] _ (Blk.range HTC.out) Tryz.underlying51 rfl Qg ?_)
  case' refine_2 => go_wp2_with (refine wpList_load_mid rfl 51 _ rfl gs 0 rfl [o1, o2, o3, o4, o5, o6] _ (Blk.range HSC.out) Tryz.underlying51 rfl Qg ?_)
  all_goals
   refine KT.same ?_;refine Ze rfl ?_;go_wp2_with (first | (refine wpList_load_mid rfl 51 _ rfl gt 0 rfl [o1, o2, o3, o4, o5, o6] _ (Blk.range HTC.out) Tryz.underlying51 rfl Qg ?_) | (refine wpList_load_mid rfl 51 _ rfl gs 0 rfl [o1, o2, o3, o4, o5, o6] _ (Blk.range HSC.out) Tryz.underlying51 rfl Qg ?_));refine KT.same ?_;simp only [Act.put, List.setIfInBounds_toArray, List.set_cons_succ, List.set_cons_zero]
   iterate 6 (refine Zc rfl rfl ?_; go_big_quiet_step (fail); refine wpQuiet_nil ?_)
   refine Ze rfl ?_;go_wp2_with (refine wpList_store_row rfl 41 _ _ rfl gr cs.toArray rfl rfl 41 _ HRC.out HSZ1.out HSZ2.out HCA.out ?_);refine KT.past rfl ?_;refine Zc rfl rfl ?_;simp only [Act.put]
   go_big_quiet_step (fail)
   refine wpQuiet_nil ?_;refine Zi ?_;go_wp2_with fail;have hres := run_loadVar_mid (P := Tryz.prog) (wc.setRow gr cs.toArray) gr 0 41 cs _ (Blk.range (HRC.setRow cs.toArray)) Tryz.underlying41 rfl ft;refine bodyPost_ret (Ww (Yb.cell rfl hres) (Yb.tmp rfl) Tryz.results22) rfl ?_;rw [← HQ.out];exact ⟨cs, _, rfl, HCS.out, HCA.out, Zcq HL.bel (HDN.below HBW.out) (fun k h => h.imp_right And.left) HFIN.1 HFIN.2.1 (Vl HKN.out HBW.out) HRG.out HG.out⟩
 have n5 := bF h5;obtain rfl := C6.out h1 h2 h3 h4 h5;clear h1 h2 h3 h4 h5 C1 C2 C3 C4 C5 C6;have HBR := hid (HL.get 2 rfl);have HBY := hid (HL.get 3 rfl);have HSQ : Hid (gr < wl.heap.size) := HBR.lt;go_wp2_with (first | (refine wpList_load_mid rfl 41 _ rfl gy 0 rfl cs _ (Blk.range HBY.out) Tryz.underlying41 rfl ft ?_) | (refine wpList_store_row rfl 41 _ _ rfl gr cs.toArray rfl rfl 41 _ HBR.out HSZ1.out HSZ2.out HCA.out ?_));have hres := run_loadVar_mid (P := Tryz.prog) (wl.setRow gr cs.toArray) gr 0 41 cs _ (Blk.range (HBR.setRow cs.toArray)) Tryz.underlying41 rfl ft;refine bodyPost_ret (Ww (Yb.cell rfl hres) (Yb.tmp rfl) Tryz.results22) rfl ?_;rw [← HQ.out];exact ⟨cs, _, rfl, HCS.out, HCA.out, Zcq HL.bel HDA.out (fun k h => .inl h) HFIN.1 HFIN.2.1 (Za.refl F wl) HRG.out HG.out⟩
theorem Zc5.below {w w' : World} {x : Mt} {A B : Option Addr} {k : Nat} (h : Zc5 w x A B k) (hb : Below w.heap.size w w') : Zc5 w' x A B k := by
 obtain ⟨h1, h2, h3, h4, h5, h6, h7, h8⟩ := h;exact ⟨h1.below hb, h2, h3, h4.below hb, h5, h6, h7, h8⟩
theorem Zf7 : (Tryz.prog.info? 29).map (·.size) = some 13 := by kernel_rfl
theorem Zln (l : List InV) (m : Nat) : ∀ i ∈ Qq l m, i.b.size ≤ 1000000 := by
 intro i hi;obtain ⟨j, -, rfl⟩ := List.mem_map.1 hi;have := Zba 16 j.b;show (Kg 16 j.b).size ≤ _;omega
structure Km (b B d gx : Nat) (F0 : Nat → Prop) (w0 w6 wr : World) (x : Zd) (cs : List Value) (F : Nat → Prop) : Prop where
 dial : Zj B F w0 wr d x
 ref : Vr b (fun k => F k ∨ k = gx) wr x (.agg cs.toArray)
 blk : Blk wr gx 41 cs.toArray
 len : cs.length = 28
 one : cs.toArray.all (·.oneCell') = true
 base : b ≤ w6.heap.size
 keep : Za (fun k => F0 k ∨ k = gx) w6 wr
 sub : ∀ k, F k → F0 k ∨ w6.heap.size ≤ k
 gxs : B ≤ gx ∧ gx < w6.heap.size ∧ ¬ F0 gx
 fit : Fit x
 jmp : Ue x
 light : Zh7 x.s
section
variable {b B d gx : Nat} {F0 F : Nat → Prop} {w0 w6 wr w' : World} {x : Zd} {cs : List Value}
theorem Km.nf (h : Km b B d gx F0 w0 w6 wr x cs F) : ¬ F gx := fun hf => by
 rcases h.sub _ hf with h1 | h1
 ·exact h.gxs.2.2 h1
 ·exact Nat.lt_irrefl _ (Nat.lt_of_lt_of_le h.gxs.2.1 h1)
theorem Km.below (h : Km b B d gx F0 w0 w6 wr x cs F) (hb : Below wr.heap.size wr w') : Km b B d gx F0 w0 w6 w' x cs F :=
 ⟨h.dial.below hb, h.ref.below hb, h.blk.below hb h.blk.lt, h.len, h.one, h.base, Vl h.keep hb, h.sub, h.gxs, h.fit, h.jmp, h.light⟩
theorem Km.does (h : Km b B d gx F0 w0 w6 wr x cs F) (i : InV) (hi : i.ok) (hib : i.b.size ≤ 1000000) :
  Calls Tryz.prog 22 #[.pointer (some ⟨d, 0, none⟩), .agg cs.toArray, .agg #[i.kind, i.b, i.n, i.tick]] wr fun e w' => ∃ (cs' : List Value) (F' : Nat → Prop), e = .returned (.tuple #[.agg cs'.toArray, .bool true]) ∧ cs'.length = 28 ∧ cs'.toArray.all (·.oneCell') = true ∧
   Za F wr w' ∧ Blk w' gx 41 cs.toArray ∧ Km b B d gx F0 w0 w6 (w'.setRow gx cs'.toArray) (x.one i).1 cs' F' := by
 refine (Zqk h.dial h.ref (Nat.le_trans h.base h.keep.size) h.fit h.jmp h.light i hi hib).mono ?_;rintro e w' ⟨cs', F', rfl, hl, ha, hF, hd, hk, hr⟩;have hb : Blk w' gx 41 cs.toArray := hk.blk h.blk h.nf;have hs : Za (fun k => k = gx) w' (w'.setRow gx cs'.toArray) := Zm
 have hn : ¬ F' gx := fun hf => by
  rcases hF _ hf with h1 | h1
  ·exact h.nf h1
  ·exact Nat.lt_irrefl _ (Nat.lt_of_lt_of_le h.blk.lt h1)
 refine ⟨cs', F', rfl, hl, ha, hk, hb, hd.keepG hs (fun k hf (e : k = gx) => hn (e ▸ hf)) (fun k (e : k = gx) => by rw [e]; exact h.gxs.1), hr.keep (hs.mono fun _ _ => .inr), hb.setRow _, hl, ha, h.base, ?_, ?_, h.gxs, Zrm h.dial.ok h.fit i hi, Zmq h.jmp i, by rw [Zma]; exact h.light⟩
 ·refine (h.keep.trans hk (fun k hf => ?_)).trans hs (fun k hf => .inl (.inr hf))
  rcases h.sub k hf with h1 | h1
  ·exact .inl (.inl h1)
  ·exact .inr h1
 ·intro k hf
  rcases hF k hf with h1 | h1
  ·exact h.sub k h1
  ·exact .inr (Nat.le_trans h.keep.size h1)
end
theorem Zjk {b B d gx : Nat} {F : Nat → Prop} {w0 w2 w3 w6 : World} {x : Zd} {cs : List Value} (hd : Zj B F w0 w2 d x) (hr : Vr b F w2 x (.agg cs.toArray)) (hb : Below w2.heap.size w2 w3) (hx : Blk w3 gx 41 cs.toArray) (hg : w2.heap.size ≤ gx) (h6 : Below w3.heap.size w3 w6)
  (hl : cs.length = 28) (ha : cs.toArray.all (·.oneCell') = true) (hbs : b ≤ w2.heap.size) (hf : Fit x) (hj : Ue x) (hs : Zh7 x.s) : Km b B d gx F w0 w6 w6 x cs F := by
 have hfin := hd.fin;refine ⟨(hd.below hb).below h6, ((hr.up (Za.of_below hb)).mono ?_).below h6, hx.below h6 hx.lt, hl, ha, Nat.le_trans hbs (Nat.le_trans hb.size h6.size), Za.refl _ _, fun _ => .inl, ⟨Nat.le_trans hd.base hg, Nat.lt_of_lt_of_le hx.lt h6.size, fun h => Nat.lt_irrefl _ (Nat.lt_of_lt_of_le (hfin _ h).2 hg)⟩, hf, hj, hs⟩;rintro k (h | h)
 ·exact .inl h
 ·exact .inr ⟨by rw [h]; exact hg, by rw [h]; exact hx.lt⟩
end Go.Proofs.YtpkkfdmhbbipoaaGreat
