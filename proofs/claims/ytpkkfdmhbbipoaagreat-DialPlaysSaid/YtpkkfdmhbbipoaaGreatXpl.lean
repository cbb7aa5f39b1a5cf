/- DialPlays: for all plays the law answers true. No condition. -/
import Derived.Test.YtpkkfdmhbbipoaaGreatLq
import Derived.Test.YtpkkfdmhbbipoaaGreatMi
import Derived.Test.YtpkkfdmhbbipoaaGreatEb
namespace Go.Proofs.YtpkkfdmhbbipoaaGreat
set_option maxRecDepth 100000
set_option maxHeartbeats 16000000
open Go.RowKit PopT
theorem Zfx (A : Option Addr) (c : Nat) (B : Option Addr) (k : Nat) (x : Mv) (w : World) (hx : Zcz w x A B k) :
  Calls Tryz.prog 9 #[x.val A c B k] w fun e w' => e = .returned (.bool true) ∧ Below w.heap.size w w' := by
 have CSM : Hid (∀ W, Calls Tryz.prog 12 #[x.s.val] W fun e w' => e = .returned (.bool (Zbp x.s)) ∧ Below W.heap.size W w') := fun W => Zi2 x.s W;have CBG : Hid (∀ W, Below w.heap.size w W → Calls Tryz.prog 14 #[x.val A c B k] W fun e w' => Zel x.s (Wm x.p 9) x.now W e w') := fun W hb => Zoc x A c B k W (hx.below hb)
 have CFI : Hid (∀ W, Below w.heap.size w W → Calls Tryz.prog 15 #[.slice B x.l.length k, .int .i64 30] W fun e w' => ∃ g c', e = .returned (.slice (some ⟨g, 0, none⟩) (Qp x.l 30).length c') ∧ w'.ownsRow W.heap.size 46 4 (.slice (some ⟨g, 0, none⟩) (Qp x.l 30).length c') (Qp x.l 30).length (Xp (Qp x.l 30)) ∧ Below W.heap.size W w') := fun W hb =>
  Znz B x.l.length k x.l 30 W rfl (hx.rd.below hb) hx.iok aa
 have CLV := hid (fun W => Zjg W);have HIO : Hid (∀ i ∈ Qp x.l 30, i.ok ∧ i.b.size ≤ 1000000) := fun i hi => ⟨Zrb hx.iok 30 i hi, Zlh x.l 30 i hi⟩;have HLI : Hid ((Qp x.l 30).length ≤ 30) := Zjm x.l 30
 have HNV : Hid (Zbp x.s = true → Nf x.s (Wm x.p 9) = 0 → Fit ((Qx x.s (Wm x.p 9) x.now).come 0) ∧ Ug ((Qx x.s (Wm x.p 9) x.now).come 0) ∧ Zh4 ((Qx x.s (Wm x.p 9) x.now).come 0).s) := fun hsm h => by
  have hg : Wy x.s = true := by unfold Nf at h; split at h; cases h; rename_i h2; simpa using h2
  have hok := Zec x.s (Wm x.p 9) x.now hg (by unfold Nf at h; split at h; cases h; split at h; cases h; rename_i h2; omega) (Zg1 x.p 9 hx.pok) hx.now;refine ⟨Zmm hok, Zq7 hok, ?_⟩;rw [show ((Qx x.s (Wm x.p 9) x.now).come 0).s = x.s from Zcj _];unfold Zbp at hsm;rw [hg] at hsm;simp only [Bool.not_true, Bool.false_or, Bool.and_eq_true, decide_eq_true_eq] at hsm;exact ⟨aa, aa⟩
 have HPO := hid (Zg1 x.p 9 hx.pok)
 have CFP : Hid (∀ W, Below w.heap.size w W → Calls Tryz.prog 26 #[x.p.val (.slice A x.p.ops.length c), .int .i64 9] W fun e w' => ∃ A' c', e = .returned ((Wm x.p 9).val (.slice A' (Wm x.p 9).ops.length c')) ∧ Xq W.heap.size w' (.slice A' (Wm x.p 9).ops.length c') (Wm x.p 9).ops ∧ Below W.heap.size W w') := fun W hb =>
  Ziq x.p A c 9 W (hx.ops.below hb) hx.pok aa
 have CDN : Hid (Nf x.s (Wm x.p 9) ≠ 0 → ∀ W A' c' b0, Xq b0 W (.slice A' (Wm x.p 9).ops.length c') (Wm x.p 9).ops → Calls Tryz.prog 55 #[x.s.val, (Wm x.p 9).val (.slice A' (Wm x.p 9).ops.length c'), x.now] W fun e w' => Below W.heap.size W w' ∧ e = .returned (.tuple #[.pointer none, ((Nf x.s (Wm x.p 9) : Nat) : Int)])) := fun h0 W A' c' b0 ho =>
  (Zex x.s (Wm x.p 9) A' c' b0 x.now W ho HPO.out hx.now).mono (fun e w' h => by
   unfold Ny at h;refine ⟨h.1, ?_⟩;have h2 := h.2;unfold Nf at h0 ⊢;split at h2
   ·rename_i h3; rw [if_pos h3]; exact h2
   ·rename_i h3
    rw [if_neg h3] at h0 ⊢;split at h2
    ·rename_i h4; rw [if_pos h4]; exact h2
    ·rename_i h4; rw [if_neg h4] at h0; exact absurd rfl h0)
 have CRN : Hid (∀ W A' c' b0, Xq b0 W (.slice A' (Wm x.p 9).ops.length c') (Wm x.p 9).ops → Calls Tryz.prog 56 #[x.s.val, (Wm x.p 9).val (.slice A' (Wm x.p 9).ops.length c'), x.now] W fun e w' => Below W.heap.size W w' ∧ ∃ cs : List Value, e = .returned (.tuple #[.agg cs.toArray, ((Nf x.s (Wm x.p 9) : Nat) : Int)]) ∧ cs.length = 28 ∧ cs.toArray.all (·.oneCell') = true) := fun W A' c' b0 ho =>
  (Zro x.s (Wm x.p 9) A' c' x.now (fun _ => False) W (fun _ h => h.elim) (fun W' hW => (ho.inn rfl).below (hW.below (Nat.le_refl _) (fun _ h => h.elim))) HPO.out hx.now (Zip x.p 9)).mono (fun e w' h => by
   obtain ⟨hb, v, n, rfl, hn, ⟨cs, rfl, hl, ha⟩, -⟩ := h;have hn2 : n = Nf x.s (Wm x.p 9) := hn;subst hn2;exact ⟨hb, cs, rfl, hl, ha⟩)
 clear HPO;obtain ⟨s, p, now, l, ask⟩ := x;unfold Mv.val;unfold Mv.val at CBG;simp only at CSM CBG CFI HIO HLI HNV CFP CDN CRN ⊢;obtain ⟨n, hnn⟩ := nE (l.length);obtain ⟨m, hmm⟩ := nE (p.ops.length);obtain ⟨pf, hpf⟩ := nE (Wm p 9);obtain ⟨li, hli⟩ := nE (Qp l 30);rw [hnn, hmm] at CBG;rw [hnn, hli] at CFI;rw [hli] at HIO HLI;rw [hpf] at CBG HNV;rw [hmm] at CFP;rw [hpf] at CFP CDN CRN;obtain ⟨PV, hPV⟩ : ∃ f : Option Addr → Nat → Value, (fun A' c' => pf.val (.slice A' pf.ops.length c')) = f := ⟨_, rfl⟩;have hPV2 : ∀ A' c', pf.val (.slice A' pf.ops.length c') = PV A' c' := fun A' c' => by rw [← hPV]
 simp only [hPV2] at CFP CDN CRN;clear hPV hPV2;rw [hnn, hmm];clear hnn hmm hpf hli hx;obtain ⟨ql, hql⟩ := nE (li.length);have HQL := hid hql;rw [hql] at CFI HLI;clear hql;obtain ⟨er, her⟩ := nE (Nf s pf);have HER := hid her;rw [her] at HNV CDN CRN;obtain ⟨X0, hX0⟩ := nE ((Qx s pf now).come 0)
 have HBQ : Hid (∀ W e w', Zel s pf now W e w' → Below W.heap.size W w' ∧ ∃ (q : Option Addr) (cs : List Value) (ok : Bool), e = .returned (.tuple #[.pointer q, .agg cs.toArray, ok]) ∧ cs.length = 28 ∧ cs.toArray.all (·.oneCell') = true ∧ ok = decide (er = 0) ∧
   (ok = true → ∃ w0 d B F, q = some ⟨d, 0, none⟩ ∧ W.heap.size ≤ B ∧ Zi B F w0 w' d X0 ∧ Vs W.heap.size F w' X0 (.agg cs.toArray))) := fun W e w' h => by
  obtain ⟨h1, q, cs, ok, h2, h3, h4, h5, h6⟩ := h;refine ⟨h1, q, cs, ok, h2, h3, h4, by rw [h5, her], fun h => ?_⟩;obtain ⟨w0, d, B, F, a1, a2, a3, a4⟩ := h6 h;exact ⟨w0, d, B, F, a1, a2, by rw [← hX0]; exact a3, by rw [← hX0]; exact a4⟩
 rw [hX0] at HNV;obtain ⟨sm, hsm⟩ := nE (Zbp s);rw [hsm] at CSM HNV;clear hsm her hX0;obtain ⟨lv, rg, wn, ou, qu, vi⟩ := s;obtain ⟨nm, dl, jp, ops⟩ := p;unfold Uv.val at CSM CDN CRN;unfold Xo.val at CFP;simp only at CSM CBG CFP CDN CRN ⊢;obtain ⟨BQ, hBQ⟩ : ∃ f : World → Ending → World → Prop, Zel ⟨lv, rg, wn, ou, qu, vi⟩ pf now = f := ⟨_, rfl⟩;rw [hBQ] at CBG HBQ;clear hBQ;go_enter Tryz.func9, Tryz.ntmps9;go_upto_region 1 with fail;generalize hwz : w.alloc (.cells #[lv, rg, wn, ou, qu, vi, nm, dl, jp, .slice A m c, now, .slice B n k, ask] 29) = wz;have HXX := bn hwz;have HB := ba hwz;obtain ⟨gp, hgx⟩ := nE (w.heap.size);have HGX := hid hgx;rw [hgx] at HXX ⊢;clear hwz hgx;have x0 := cA HXX.out 0 lv rfl;have x1 := cA HXX.out 1 rg rfl;have x2 := cA HXX.out 2 wn rfl;have x3 := cA HXX.out 3 ou rfl;have x4 := cA HXX.out 4 qu rfl;have x5 := cA HXX.out 5 vi rfl;have xl := HXX.lt;go_wp2_with fail;refine (CSM.out _).mono ?_;rintro en w1 ⟨rfl, hb⟩;have HX1 := bb HXX hb;have HB1 := bt HB hb;clear hb x0 x1 x2 x3 x4 x5 xl HXX HB CSM;cases sm
 ·go_wp2_with fail
  refine (CLV.out _).mono ?_;rintro en w2 ⟨rfl, hb⟩;have HB2 := bt HB1 hb;clear hb;go_wp2_with fail;go_ret;exact ⟨rfl, HB2.out⟩
 have CB := hid (CBG.out w1 HB1.out);clear CBG;go_wp2_with (refine wpList_load_mid rfl 29 _ rfl gp 0 rfl _ _ (Blk.range HX1.out) Tryz.underlying29 rfl Zf3 ?_);refine CB.mono ?_;intro en w2 hq;obtain ⟨hb, q, cs0, ok, rfl, hl, ha, hok, hd⟩ := HBQ.out _ _ _ hq;have HL := hid hl; have HA := hid ha; have HOK := hid hok; have HDD := hid hd;have HX2 := bb HX1 hb;have HB2 := bt HB1 hb;have HS12 : Hid (gp < w1.heap.size ∧ w.heap.size ≤ w1.heap.size ∧ w1.heap.size ≤ w2.heap.size) := ⟨HX1.lt, HB1.size, hb.size⟩;clear hb hl ha hok hd hq CB HX1 HB1 HBQ;have HSZ1 : Hid ((Tryz.prog.info? 41).map (·.size) = some cs0.toArray.size) := de
 have HSZ2 : Hid ((#[.int .i64 0, .int .i64 0, .int .i64 0, .int .i64 0, .int .i64 0, .int .i64 0, .string ⟨#[]⟩, .int .i64 0, .int .i64 0, .slice none 0 0, .int .i64 0, .int .i64 0, .int .i64 0, .int .i64 0, .int .i64 0, .int .i64 0, .string ⟨#[]⟩, .int .i64 0, .string ⟨#[]⟩, .int .i64 0, .slice none 0 0, .string ⟨#[]⟩, .string ⟨#[]⟩, .string ⟨#[]⟩, .int .i64 0, .int .i64 0, .bool false, .int .i64 0] : Array Value).size = cs0.toArray.size) := by
  have h28 : cs0.toArray.size = 28 := by rw [List.size_toArray, HL.out]
  rw [Hid, h28]; rfl
 have HGQ : Hid (Blk (w2.alloc (.cells zd 41)) w2.heap.size 41 #[.int .i64 0, .int .i64 0, .int .i64 0, .int .i64 0, .int .i64 0, .int .i64 0, .string ⟨#[]⟩, .int .i64 0, .int .i64 0, .slice none 0 0, .int .i64 0, .int .i64 0, .int .i64 0, .int .i64 0, .int .i64 0, .int .i64 0, .string ⟨#[]⟩, .int .i64 0, .string ⟨#[]⟩, .int .i64 0, .slice none 0 0, .string ⟨#[]⟩, .string ⟨#[]⟩, .string ⟨#[]⟩, .int .i64 0, .int .i64 0, .bool false, .int .i64 0]) := Blk.new w2 _ _;go_upto_region 4 with (refine wpList_store_row rfl 41 _ _ rfl w2.heap.size cs0.toArray rfl rfl 41 _ HGQ.out HSZ1.out HSZ2.out HA.out ?_);obtain ⟨w3, hw3⟩ := nE ((w2.alloc (.cells zd 41)).setRow w2.heap.size cs0.toArray)
 have HBW : Hid (Below w2.heap.size w2 w3) := by
  rw [← hw3];have h1 : Below w2.heap.size w2 (w2.alloc (.cells zd 41)) := (Below.refl _ _).alloc (Nat.le_refl _) _;exact h1.trans ((Za.setRow (fun k => k = w2.heap.size) _ _ _ rfl).below h1.size (fun k (e : k = w2.heap.size) => by rw [e]; exact Nat.le_refl _))
 have HGR : Hid (Blk w3 w2.heap.size 41 cs0.toArray) := hw3 ▸ HGQ.setRow _;obtain ⟨gx, hgx⟩ := nE (w2.heap.size);have HGE : Hid (w2.heap.size ≤ gx) := Nat.le_of_eq hgx;rw [hw3, hgx];rw [hgx] at HGR;clear hw3 HSZ1 HSZ2 HGQ hgx;have HX3 := bb HX2 HBW;have HB3 := bt HB2 HBW;cases ok
 ·have her : er ≠ 0 := by have h := HOK.out; intro h2; rw [h2] at h; simp at h
  have CD2 := hid (CDN.out her);have hne : ((er : Int) == 0) = false := bF aa;have hne2 : ¬ ((er : Int) = 0) := aa
  have hne3 : ((er : Int) != 0) = true := by unfold bne; rw [hne]; rfl
  clear HBW HX2 HB2 HS12 HOK HDD HNV HGR HGE HL HA CDN her CFI HIO HLI;go_upto_region 5 with fail;have X00 := tA HX3.out 0 lv rfl;have X1 := tA HX3.out 1 rg rfl;have X2 := tA HX3.out 2 wn rfl;have X3 := tA HX3.out 3 ou rfl;have X4 := tA HX3.out 4 qu rfl;have X5 := tA HX3.out 5 vi rfl;have X6 := tA HX3.out 6 nm rfl;have X7 := tA HX3.out 7 dl rfl;have X8 := tA HX3.out 8 jp rfl;have X9 := tA HX3.out 9 (.slice A m c) rfl;have X10 := tA HX3.out 10 now rfl;refine Zg w3.heap.size [] (.val 0 (.val 1 (.val 2 (.val 3 (.val 5 (.val 6 (.op 4 (.op 7 (.val 8 (.val 9 (.val 10 (.val 11 (.val 12 (.nil)))))))))))))) ab ab ?_;obtain ⟨wc, hwc, HBW⟩ := dw w3;rw [hwc];clear hwc
  iterate 6 ((first | refine Zb rfl rfl ?_ | refine Zq rfl rfl (Ys HBW.out) ?_); go_big_quiet_step (fail); refine wpQuiet_nil ?_)
  refine Zd rfl ?_;have CQ := hid (CFP.out wc (HB3.trans (HBW.mono HB3.size)));go_wp2_with fail;refine CQ.mono ?_;rintro en wn ⟨A2, c2, rfl, ho2, hb⟩;have HO2 := hid ho2;have HBWn : Hid (Below w3.heap.size w3 wn) := HBW.trans (hb.mono HBW.size);clear HBW hb CQ ho2;have HBW := HBWn;clear HBWn;obtain ⟨wc, hwc⟩ := mE wn;subst hwc;go_wp2_with fail;refine KT.keep (Ys HBW.out) ?_;refine Zd rfl ?_;have CQ := hid (CD2.out wc A2 c2 _ HO2.out);go_wp2_with fail;refine CQ.mono ?_;rintro en wn ⟨hb, rfl⟩;have HBWn : Hid (Below w3.heap.size w3 wn) := HBW.trans (hb.mono HBW.size);clear HBW hb CQ HO2;have HBW := HBWn;clear HBWn;obtain ⟨wc, hwc⟩ := mE wn;subst hwc;go_wp2_with fail;refine KT.keep (Ys HBW.out) ?_
  iterate 5 (refine Zb rfl rfl ?_; go_big_quiet_step (fail); refine wpQuiet_nil ?_)
  refine Zj ?_;obtain ⟨w5, hw5⟩ := mE wc;subst hw5;have HX5 := bb HX3 HBW;have HB5 := bt HB3 HBW;clear HX3 HB3 HBW CD2 X00 X1 X2 X3 X4 X5 X6 X7 X8 X9 X10;go_upto_region 6 with fail;have X00 := tA HX5.out 0 lv rfl;have X1 := tA HX5.out 1 rg rfl;have X2 := tA HX5.out 2 wn rfl;have X3 := tA HX5.out 3 ou rfl;have X4 := tA HX5.out 4 qu rfl;have X5 := tA HX5.out 5 vi rfl;have X6 := tA HX5.out 6 nm rfl;have X7 := tA HX5.out 7 dl rfl;have X8 := tA HX5.out 8 jp rfl;have X9 := tA HX5.out 9 (.slice A m c) rfl;have X10 := tA HX5.out 10 now rfl;refine Zg w5.heap.size [12] (.val 0 (.val 1 (.val 2 (.val 3 (.val 5 (.val 6 (.two 4 (.two 7 (.val 8 (.val 9 (.val 10 (.op 11 (.op 12 (.val 13 (.nil))))))) 11 (.op 7 (.val 8 (.val 9 (.val 10 (.op 12 (.val 13 (.nil)))))))) 11 (.op 4 (.op 7 (.val 8 (.val 9 (.val 10 (.op 12 (.val 13 (.nil))))))))))))))) ab ab ?_;obtain ⟨wc, hwc, HBW⟩ := dw w5;rw [hwc];clear hwc
  iterate 6 ((first | refine Zb rfl rfl ?_ | refine Zq rfl rfl (Ys HBW.out) ?_); go_big_quiet_step (fail); refine wpQuiet_nil ?_)
  refine Xr rfl rfl ?_ ?_
  focus
   have CQ := hid (CFP.out wc (HB5.trans (HBW.mono HB5.size)));go_wp2_with fail;refine CQ.mono ?_;rintro en wn ⟨A2, c2, rfl, ho2, hb⟩;have HO2 := hid ho2
   try (have HGQ2 := bb HGQ hb; clear HGQ; have HGQ := HGQ2; clear HGQ2)
   have HBWn : Hid (Below w5.heap.size w5 wn) := HBW.trans (hb.mono HBW.size);clear HBW hb CQ ho2;have HBW := HBWn;clear HBWn;obtain ⟨wc, hwc⟩ := mE wn;subst hwc;go_wp2_with fail;refine KT.keep (Ys HBW.out) ?_;refine Xr rfl rfl ?_ ?_
   focus
    have CQ := hid (CRN.out wc A2 c2 _ HO2.out);go_wp2_with fail;refine CQ.mono ?_;rintro en wn ⟨hb, cs, rfl, hl, ha⟩;have HL := hid hl;have HA := hid ha
    try (have HGQ2 := bb HGQ hb; clear HGQ; have HGQ := HGQ2; clear HGQ2)
    have HBWn : Hid (Below w5.heap.size w5 wn) := HBW.trans (hb.mono HBW.size);clear HBW hb CQ hl ha HO2;have HBW := HBWn;clear HBWn;obtain ⟨wc, hwc⟩ := mE wn;subst hwc;go_wp2_with fail;refine KT.keep (Ys HBW.out) ?_
    iterate 3 (refine Zb rfl rfl ?_; go_big_quiet_step (fail); refine wpQuiet_nil ?_)
    refine Zd rfl ?_;go_wp2_with fail;obtain ⟨wd, hwd⟩ := nE (wc.alloc (.cells zd 41));obtain ⟨gq, hgq⟩ := nE (wc.heap.size);have HGQ : Hid (Blk wd gq 41 zd) := au
    have hbd : Below wc.heap.size wc wd := hwd ▸ (Below.refl _ _).alloc (Nat.le_refl _) _;have HBWn : Hid (Below w5.heap.size w5 wd) := HBW.trans (hbd.mono HBW.size);have HGE : Hid (w5.heap.size ≤ gq) := hgq ▸ HBW.size;rw [hwd, hgq]
    try (have HO3 := hid (HO2.below hbd (Nat.le_refl _)); clear HO2; have HO2 := HO3; clear HO3)
    clear HBW hwd hgq hbd;have HBW := HBWn;clear HBWn;obtain ⟨wc, hwc⟩ := mE wd;subst hwc;refine KT.keep (Ys HBW.out) ?_
   rotate_left 1
   focus
    go_wp2_with fail;obtain ⟨wd, hwd⟩ := nE (wc.alloc (.cells zd 41));obtain ⟨gq, hgq⟩ := nE (wc.heap.size);have HGQ : Hid (Blk wd gq 41 zd) := au
    have hbd : Below wc.heap.size wc wd := hwd ▸ (Below.refl _ _).alloc (Nat.le_refl _) _;have HBWn : Hid (Below w5.heap.size w5 wd) := HBW.trans (hbd.mono HBW.size);have HGE : Hid (w5.heap.size ≤ gq) := hgq ▸ HBW.size;rw [hwd, hgq]
    try (have HO3 := hid (HO2.below hbd (Nat.le_refl _)); clear HO2; have HO2 := HO3; clear HO3)
    clear HBW hwd hgq hbd;have HBW := HBWn;clear HBWn;obtain ⟨wc, hwc⟩ := mE wd;subst hwc;refine KT.keep (Ys HBW.out) ?_;refine Zd rfl ?_;have CQ := hid (CRN.out wc A2 c2 _ HO2.out);go_wp2_with fail;refine CQ.mono ?_;rintro en wn ⟨hb, cs, rfl, hl, ha⟩;have HL := hid hl;have HA := hid ha
    try (have HGQ2 := bb HGQ hb; clear HGQ; have HGQ := HGQ2; clear HGQ2)
    have HBWn : Hid (Below w5.heap.size w5 wn) := HBW.trans (hb.mono HBW.size);clear HBW hb CQ hl ha HO2;have HBW := HBWn;clear HBWn;obtain ⟨wc, hwc⟩ := mE wn;subst hwc;go_wp2_with fail;refine KT.keep (Ys HBW.out) ?_
    iterate 3 (refine Zb rfl rfl ?_; go_big_quiet_step (fail); refine wpQuiet_nil ?_)
  rotate_left 2
  focus
   go_wp2_with fail;obtain ⟨wd, hwd⟩ := nE (wc.alloc (.cells zd 41));obtain ⟨gq, hgq⟩ := nE (wc.heap.size);have HGQ : Hid (Blk wd gq 41 zd) := au
   have hbd : Below wc.heap.size wc wd := hwd ▸ (Below.refl _ _).alloc (Nat.le_refl _) _;have HBWn : Hid (Below w5.heap.size w5 wd) := HBW.trans (hbd.mono HBW.size);have HGE : Hid (w5.heap.size ≤ gq) := hgq ▸ HBW.size;rw [hwd, hgq]
   try (have HO3 := hid (HO2.below hbd (Nat.le_refl _)); clear HO2; have HO2 := HO3; clear HO3)
   clear HBW hwd hgq hbd;have HBW := HBWn;clear HBWn;obtain ⟨wc, hwc⟩ := mE wd;subst hwc;refine KT.keep (Ys HBW.out) ?_;refine Zd rfl ?_;have CQ := hid (CFP.out wc (HB5.trans (HBW.mono HB5.size)));go_wp2_with fail;refine CQ.mono ?_;rintro en wn ⟨A2, c2, rfl, ho2, hb⟩;have HO2 := hid ho2
   try (have HGQ2 := bb HGQ hb; clear HGQ; have HGQ := HGQ2; clear HGQ2)
   have HBWn : Hid (Below w5.heap.size w5 wn) := HBW.trans (hb.mono HBW.size);clear HBW hb CQ ho2;have HBW := HBWn;clear HBWn;obtain ⟨wc, hwc⟩ := mE wn;subst hwc;go_wp2_with fail;refine KT.keep (Ys HBW.out) ?_;refine Zd rfl ?_;have CQ := hid (CRN.out wc A2 c2 _ HO2.out);go_wp2_with fail;refine CQ.mono ?_;rintro en wn ⟨hb, cs, rfl, hl, ha⟩;have HL := hid hl;have HA := hid ha
   try (have HGQ2 := bb HGQ hb; clear HGQ; have HGQ := HGQ2; clear HGQ2)
   have HBWn : Hid (Below w5.heap.size w5 wn) := HBW.trans (hb.mono HBW.size);clear HBW hb CQ hl ha HO2;have HBW := HBWn;clear HBWn;obtain ⟨wc, hwc⟩ := mE wn;subst hwc;go_wp2_with fail;refine KT.keep (Ys HBW.out) ?_
   iterate 3 (refine Zb rfl rfl ?_; go_big_quiet_step (fail); refine wpQuiet_nil ?_)
  all_goals
   refine Zd rfl ?_;have HSZ1 : Hid ((Tryz.prog.info? 41).map (·.size) = some cs.toArray.size) := de
   have HSZ2 : Hid ((#[.int .i64 0, .int .i64 0, .int .i64 0, .int .i64 0, .int .i64 0, .int .i64 0, .string ⟨#[]⟩, .int .i64 0, .int .i64 0, .slice none 0 0, .int .i64 0, .int .i64 0, .int .i64 0, .int .i64 0, .int .i64 0, .int .i64 0, .string ⟨#[]⟩, .int .i64 0, .string ⟨#[]⟩, .int .i64 0, .slice none 0 0, .string ⟨#[]⟩, .string ⟨#[]⟩, .string ⟨#[]⟩, .int .i64 0, .int .i64 0, .bool false, .int .i64 0] : Array Value).size = cs.toArray.size) := by
    exact N133
   go_wp2_with (refine wpList_store_row rfl 41 _ _ rfl gq cs.toArray rfl rfl 41 _ HGQ.out HSZ1.out HSZ2.out HA.out ?_);refine KT.past rfl ?_;refine Zb rfl rfl ?_;simp only [Act.put]
   go_big_quiet_step (fail)
   refine wpQuiet_nil ?_;refine Zj ?_;obtain ⟨we, hwe⟩ := nE (wc.setRow gq cs.toArray)
   have HBE : Hid (Below w.heap.size w we) := by
    have hk : Za (fun k => k = gq) wc (wc.setRow gq cs.toArray) := Zm;rw [Hid, ← hwe];have hbc : Below w5.heap.size w5 (wc.setRow gq cs.toArray) := HBW.trans (hk.below HBW.size (fun k (e : k = gq) => by rw [e]; exact HGE.out));exact HB5.trans (hbc.mono HB5.size)
   rw [hwe];clear hwe HGQ HGE HBW HB5 HL HA HSZ1 HSZ2 CRN CFP;go_wp2_with fail;refine (CLV.out _).mono ?_;rintro en w9 ⟨rfl, hb⟩;have HB9 := bt HBE hb;clear hb;go_wp2_with fail;go_ret;exact ⟨rfl, HB9.out⟩
 have her : er = 0 := by have := HOK.out; simpa using this.symm
 subst her;have HF0 := hid (HNV.out (by first | rfl | trivial) (by first | rfl | trivial));obtain ⟨w0, d, B0, F0, rfl, hB, hd, hr⟩ := HDD.out rfl;have HST : Hid (∀ W, Below w3.heap.size w3 W → Gn w1.heap.size B0 d gx F0 w0 W W X0 cs0 F0) := fun W hW => Zjf hd hr HBW.out HGR.out HGE.out hW HL.out HA.out HS12.2.2 HF0.1 HF0.2.1 HF0.2.2;have HBB : Hid (w1.heap.size ≤ B0) := hB
 have HNF : Hid (∀ k, (F0 k ∨ k = gx) → B0 ≤ k ∧ k < w3.heap.size) := fun k h => by
  rcases h with h | h
  ·exact ⟨(hd.fin k h).1, Nat.lt_of_lt_of_le (hd.fin k h).2 HBW.size⟩
  ·rw [h]; exact ⟨Nat.le_trans hd.base HGE.out, HGR.lt⟩
 clear hB hd hr HDD HOK HNV HBW HX2 HB2 HL HA HGE;have CT := hid ((HST.out w3 (Below.refl _ _)).told ask);have x12 := cA HX3.out 12 ask rfl;have xl := HX3.lt;go_wp2_with (refine wpList_load_mid rfl 41 _ rfl gx 0 rfl cs0 _ (Blk.range HGR.out) Tryz.underlying41 rfl (by rw [Zh, (HST.out w3 (Below.refl _ _)).len]) ?_);refine CT.mono ?_;rintro en w4 ⟨rfl, hb⟩;have HX4 := bb HX3 hb;have HB4 := bt HB3 hb;have HST4 : Hid (∀ W, Below w4.heap.size w4 W → Gn w1.heap.size B0 d gx F0 w0 W W X0 cs0 F0) := fun W hW => HST.out W (hb.trans (hW.mono hb.size));have HNF4 : Hid (∀ k, (F0 k ∨ k = gx) → B0 ≤ k ∧ k < w4.heap.size) := fun k h => ⟨(HNF.out k h).1, Nat.lt_of_lt_of_le (HNF.out k h).2 hb.size⟩;clear hb CT x12 xl HX3 HB3 HST HNF HGR;obtain ⟨w3, hw3⟩ := mE w4;subst hw3;have HX3 := HX4; have HB3 := HB4; have HST := HST4; have HNF := HNF4;clear HX4 HB4 HST4 HNF4;have x11 := cA HX3.out 11 (.slice B n k) rfl;have xl := HX3.lt;go_wp2_with fail;refine (CFI.out w3 HB3.out).mono ?_;rintro en w6 ⟨g, c6, rfl, hown, hb⟩;have HX6 := bb HX3 hb;have HB6 := bt HB3 hb;have HL6 := hid (HST.out w6 hb);have HRD6 : Hid (Rd w6 (some ⟨g, 0, none⟩) (Xp li)) := Wl hown;have HG6 : Hid (w3.heap.size ≤ g ∧ g < w6.heap.size) := hown.lt g rfl;clear hown hb x11 xl HX3 HB3 HST CFI;go_wp2_with fail
 go_loopw [11] (fun iv wr => ∃ (i : Nat) (x : Zf) (cs : List Value) (F : Nat → Prop), i ≤ ql ∧ iv = .int .i64 (i : Int) ∧ Gn w1.heap.size B0 d gx F0 w0 w6 wr x cs F) (fun iv _ => ql - (intOf iv).toNat)
 case atStart => exact ⟨0, X0, cs0, F0, aa, rfl, HL6.out⟩
 case round =>
  obtain ⟨i, x, cs, F, hi, rfl, hlp⟩ := hrel;have HLP := hid hlp;clear hlp HL6 HF0;by_cases hlt : i < ql
  ·have hli : i < li.length := by rw [HQL.out]; exact hlt
   have hget : li[i]? = some (li[i]'hli) := List.getElem?_eq_getElem hli;have hII := HIO.out _ (List.getElem_mem hli);obtain ⟨iv, hiv⟩ := nE (li[i]'hli);rw [hiv] at hget hII
   obtain ⟨bl, off, hA, hbl, hcc⟩ := (HLP.keep.rd HRD6.out (fun a ha hf => by
    injection ha with ha; subst ha
    have h1 := HNF.out _ hf; have h2 := HG6.out; simp only at h1; omega)).at (by rw [Mk]; omega)
   injection hA with hA
   injection hA with hA1 hA2
   subst hA1; subst hA2;have hc : ∀ j u, j < 4 → iv.cells[j]? = some u → wr.cell? ⟨g, 0 + (i * 4 + j), none⟩ = some u := fun j u hj hu => hcc _ u ((Zoq li i iv hget j hj).trans hu)
   have HGF : Hid (¬ F g ∧ g < wr.heap.size) := ⟨fun hf => by
    have h2 := HG6.out;rcases HLP.sub _ hf with h3 | h3
    ·have := HNF.out g (.inl h3); omega
    ·omega, Nat.lt_of_lt_of_le HG6.2 HLP.keep.size⟩
   have HBR : Hid (Below w.heap.size w wr) := HB6.trans (HLP.keep.below HB6.size (fun k hk => ek));have HXR := hid (HLP.keep.blk HX6.out (fun hf => lq));obtain ⟨ik, ib, iN, it⟩ := iv;have c0 := hc 0 _ aa rfl;have c1 := hc 1 _ aa rfl;have c2 := hc 2 _ aa rfl;have c3 := hc 3 _ aa rfl;simp only [Nat.add_zero, ← Nat.add_assoc, Nat.zero_add] at c0 c1 c2 c3;have HII : Hid ((⟨ik, ib, iN, it⟩ : InV).ok ∧ ib.size ≤ 1000000) := hII;have hi2 : (i : Int) < (ql : Int) := aa
   have hi40 : i ≤ 1000 := by have := HLI.out; omega
   clear hget hII hiv hcc hc hli;go_upto_region 15 with fail;have T0 : ∀ q : KW F wr, q.1.cell? ⟨g, i * 4, none⟩ = some (.int .i64 ik) := KW.cellAt HGF.2 HGF.1 c0;have T1 : ∀ q : KW F wr, q.1.cell? ⟨g, i * 4 + 1, none⟩ = some (.string ib) := KW.cellAt HGF.2 HGF.1 c1;have T2 : ∀ q : KW F wr, q.1.cell? ⟨g, i * 4 + 2, none⟩ = some (.int .i64 iN) := KW.cellAt HGF.2 HGF.1 c2;have T3 : ∀ q : KW F wr, q.1.cell? ⟨g, i * 4 + 3, none⟩ = some (.int .i64 it) := KW.cellAt HGF.2 HGF.1 c3;have HXQ : Hid (∀ W, (∃ q : KW F wr, W = q.1) → Blk W gx 41 cs.toArray) := by rintro W ⟨q, rfl⟩; exact q.2.blk HLP.blk HLP.nf
   refine Vf F [10] (.val 0 (.val 1 (.val 2 (.val 3 (.val 4 (.val 5 (.op 6 (.val 7 (.val 8 (.val 9 (.op 10 (.val 11 (.nil))))))))))))) ab ab ?_;obtain ⟨wc, hwc⟩ := nE (wr.drewN 1);have HBW := db hwc;have HKW : Hid (Za F wr wc) := Za.of_below HBW.out;rw [hwc];clear hwc;refine Zb rfl rfl ?_
   go_big_quiet_step (fail)
   refine wpQuiet_nil ?_;refine Zq rfl rfl (Ko HKW.out) ?_;refine BigFrame.wpQuiet_want rfl fun K hK => ?_;refine Qz rfl rfl HXQ.out (Zx cs HLP.len) ?_;refine hK _ ?_;simp only [Act.put, List.setIfInBounds_toArray, List.set_cons_succ, List.set_cons_zero];clear hK;clear K;refine wpQuiet_nil ?_
   iterate 3 (refine Zb rfl rfl ?_; go_big_quiet_step (fail); refine wpQuiet_nil ?_)
   refine Zq rfl rfl (Ko HKW.out) ?_
   go_big_quiet_step (fail)
   refine wpQuiet_nil ?_;have CQ := hid ((HLP.below HBW.out).does ⟨ik, ib, iN, it⟩ HII.1 HII.2);obtain ⟨x2, hx2⟩ := nE ((x.one ⟨ik, ib, iN, it⟩).1);have HX2 := hid hx2;rw [hx2] at CQ;refine Zd rfl ?_;go_wp2_with fail;refine CQ.mono ?_;rintro en wd ⟨cs2, F2, rfl, hl, ha, hk, hb2, hln⟩;have HKD : Hid (Za F wr wd) := HKW.trans hk (fun _ => .inl);have HLN0 := hid hln; have HB2 := hid hb2; have HCA := hid ha;have HSZ1 : Hid ((Tryz.prog.info? 41).map (·.size) = some cs2.toArray.size) := fg
   have HSZ2 : Hid (cs.toArray.size = cs2.toArray.size) := by rw [Hid, List.size_toArray, List.size_toArray, hl, HLP.len]
   clear hl ha hk hb2 hln CQ hx2 HBW HKW T0 T1 T2 T3 HXQ;go_wp2_with fail;refine KT.keep (Ko HKD.out) ?_
   iterate 3 (refine Zb rfl rfl ?_; go_big_quiet_step (fail); refine wpQuiet_nil ?_)
   refine Zd rfl ?_;go_wp2_with (refine wpList_store_row rfl 41 _ _ rfl gx cs2.toArray rfl rfl 41 _ HB2.out HSZ1.out HSZ2.out HCA.out ?_);refine KT.past rfl ?_;refine Zb rfl rfl ?_;simp only [Act.put]
   go_big_quiet_step (fail)
   refine wpQuiet_nil ?_;refine Zj ?_;obtain ⟨w7, hw7⟩ := nE (wd.setRow gx cs2.toArray);have HLN := HLN0;rw [hw7] at HLN ⊢;clear hw7 HLN0 HB2 HKD HSZ1 HSZ2 HCA;have HB7 : Hid (Below w.heap.size w w7) := HB6.trans (HLN.keep.below HB6.size (fun k hk => ek));have HX7 := hid (HLN.keep.blk HX6.out (fun hf => lq));have CT := hid (HLN.told ask);have x12 := cA HX7.out 12 ask rfl;have xl := HX7.lt;go_wp2_with (refine Zdb rfl 41 _ rfl gx 0 rfl cs2 _ (Blk.range HLN.blk) Tryz.underlying41 rfl (by rw [Zh, HLN.len]) ?_);refine CT.mono ?_;rintro en w8 ⟨rfl, hb⟩;have HL8 := hid (HLN.below hb);clear hb CT x12 xl;go_wp2_with fail;go_roundw
   case rel => exact ⟨i + 1, x2, cs2, F2, aa, az, HL8.out⟩
   case measure => simp [intOf]; omega
  ·go_wp2_with fail
   refine (CLV.out _).mono ?_;rintro en w4 ⟨rfl, hb⟩;have HBR : Hid (Below w.heap.size w wr) := HB6.trans (HLP.keep.below HB6.size (fun k hk => ek));have HB4 := bt HBR hb;clear hb;go_wp2_with fail;go_ret;exact ⟨rfl, HB4.out⟩
open Go.ChangeShapes Go.WideShapes Go.ChangeAt Go.WideElems Go.Deep
open Go.ChangeMaps (open_string shut_string)
theorem dialPlays_lifted (os : Os) (started : os.Started) (H : Type) (enc : TypeId × Value → H) :
  ReturnsInHanded {} Tryz.checked os 9 .any (Rows.dialPlaysSpec.pre6 enc Tryz.prog Tryz.f9 [] false) (Rows.dialPlaysSpec.post enc Tryz.prog Tryz.f9 false true false false) := by
 refine law_lifted 9 Tryz.f9 Rows.dialPlaysSpec os started H enc Tryz.func9 ab ab ab rfl (fun ds h => ?_)
  (ChangeSpec.witness6 (enc := enc) (C := Tryz.checked) false ⟨#[], #[.agg #[.int .i64 0, .int .i64 0, .int .i64 0, .int .i64 0, .int .i64 0, .int .i64 0, .string ⟨#[]⟩, .int .i64 0, .int .i64 0, .slice none 0 0, .int .i64 0, .slice none 0 0, .int .i64 0]], []⟩ 8 ab ab ab ab) ?_
 ·have hn : ds.length = 1 := h
  match ds, hn with
  | [d0], _ => rfl
 ·intro W args ds p base hval hA _ _
  rw [show Tryz.f9.params.toList = [29] from by rw [Tryz.params9]] at hval hA;obtain ⟨v0, _, d0, _, p0, _, rfl, rfl, rfl, h0, hA⟩ := Zqk hA;obtain rfl := Zrh hA;obtain ⟨x0, A0, c0, B0, k0, rfl, hx0⟩ := Zfk (hval 0 _ v0 rfl rfl) h0;exact Zfx A0 c0 B0 k0 x0 W hx0
theorem dialPlays_holds : Rows.DialPlaysSaid :=
 OpenClaim.holds_of_wide 9 Tryz.f9 rfl rfl rfl rfl rfl rfl rfl ⟨rfl, rfl, rfl, rfl, rfl⟩ rfl rfl rfl rfl rfl ab Tryz.func9 ab
  (of_decide_eq_true ab) (by unfold Func.isWrapper; first | (rw [if_pos (by decide +kernel)]; kernel_rfl) | (rw [if_neg (by decide +kernel)]; exact ⟨rfl, rfl⟩))
  (fun os started H enc _ => dialPlays_lifted os started H enc)
#print axioms dialPlays_holds
end Go.Proofs.YtpkkfdmhbbipoaaGreat
