/- Walks: package dial: New. Layer 22 lives: the plain part. A dialogue's calls, told of what is in memory; what holds of every dialogue. -/
import Derived.Test.YtpkkfdmhbbipoaaGreatDj
namespace Go.Proofs.YtpkkfdmhbbipoaaGreat
set_option maxRecDepth 20000
set_option maxHeartbeats 16000000
open Go.RowKit PopT
def Qi (s : Uu) (p : Xq) (now : Int) : Zd := ⟨s, p, 0, 0, 0, Un (Yx now) p.deadline, [], [], 0, [], Yw.new s.out.toNat, false, Yx now⟩
theorem N76{P:Prop}(h:P:=by
 cases hb2 : Gm o with
 | false => exact absurd hb2 hb
 | true =>
  unfold Gm at hb2;simp only [Bool.and_eq_true, Bool.or_eq_true, decide_eq_true_eq] at hb2;omega):P:=h
theorem Zn4 (n : Nat) (o : OpV) (h : opE n o = 0) : o.arms.length ≤ 8 := by
 by_cases hk : o.kind = 2
 ·exact (Ji n o (Gh n o h hk)).1
 ·unfold opE at h
  split at h
  ·omega
  ·split at h
   ·omega
   ·rename_i _ hb
    exact N76
theorem Zgt {x : Int} {m : Nat} (h1 : 1 ≤ x) (h2 : x ≤ (m : Int)) : Wa x m = x.toNat := by
 unfold Wa; rw [if_neg aa, if_neg aa]
theorem Zeg (s : Uu) (p : Xq) (now : Int) (hg : Wr s = true) (hp : (Xu p).2 = 0) (hok : Kj p) (hn : I6 now) : Yq (Qi s p now) := by
 have hw := Jx hn.2;have hb := Zfl (Yx now) p.deadline ⟨aa, hw.2⟩ hok.2.1;refine ⟨hg, hp, hok, Nat.zero_le _, Nat.zero_le _, Nat.zero_le _, ⟨dx, ed⟩, ⟨by show -9223372036854775808 ≤ Yv (Yx now) p.deadline; omega, hb.2⟩, ⟨dx, ed⟩, hw⟩
def Zat (w : World) (gs : Bool) (pw : Nat) (nv : Zd) (e : Ending) (w' : World) : Prop := Below w.heap.size w w' ∧
 (if gs = false then e = .returned (.tuple #[.pointer none, .int .i64 1]) else if pw ≠ 0 then e = .returned (.tuple #[.pointer none, .int .i64 2]) else
  ∃ w0 d B F, e = .returned (.tuple #[.pointer (some ⟨d, 0, none⟩), .int .i64 0]) ∧ w.heap.size ≤ B ∧ Zj B F w0 w' d (nv.come 0))
theorem Ziw (s : Uu) (p : Xq) (A : Option Addr) (c b0 : Nat) (now : Int) (w : World) (hin : Wc b0 w (.slice A p.ops.length c) p.ops) (hok : Kj p) (hnow : I6 now) :
  Calls Tryz.prog 55 #[s.val, p.val (.slice A p.ops.length c), now] w fun e w' => Zat w (Wr s) (Xu p).2 (Qi s p now) e w' := by
 have HG : Hid (∀ W, Calls Tryz.prog 92 #[s.val] W fun e w' => e = .returned (.bool (Wr s)) ∧ Below W.heap.size W w') := fun W => Zht s W
 have HP : Hid (∀ W, Below w.heap.size w W → Calls Tryz.prog 74 #[p.val (.slice A p.ops.length c)] W fun e w' => e = .returned (.bool (decide ((Xu p).2 = 0))) ∧ Below W.heap.size W w') := fun W hb =>
  Zhi p A c W ((hin.inn rfl).below hb) hok.2.2.2.1 hok.1 (fun o ho => (hok.2.2.2.2 o ho).2.2.2.2.1)
 have HCP : Hid ((Xu p).2 = 0 → ∀ W, Below w.heap.size w W → Calls Tryz.prog 93 #[p.val (.slice A p.ops.length c)] W fun e w' => ∃ A' c', e = .returned (p.val (.slice A' p.ops.length c')) ∧ Wc W.heap.size w' (.slice A' p.ops.length c') p.ops ∧ Below W.heap.size W w') := fun h0 W hb =>
  Zoj p A c b0 W (hin.below hb (Nat.le_refl _)) (by have := (Wm _ h0).1; omega) (fun o ho => by have := Zn4 _ _ ((Wm _ h0).2.2 o ho); omega)
 have HNV : Hid (Wr s = true → (Xu p).2 = 0 → Yq (Qi s p now)) := fun h1 h2 => Zeg s p now h1 h2 hok hnow;have HBD : Hid (Wr s = true → (1 ≤ s.ring ∧ s.ring ≤ 4096) ∧ (1 ≤ s.win ∧ s.win ≤ 4096) ∧ (1 ≤ s.out ∧ s.out ≤ 4096)) := fun h => by have := Vw h; omega
 have HDL : Hid (∀ W, Calls Tryz.prog 95 #[.int .i64 (Yx now), p.deadline] W fun e w' => e = .returned (Un (Yx now) p.deadline).val ∧ Below W.heap.size W w') := fun W =>
  Zhq (Yx now) p.deadline W (by have := Jx hnow.2; exact ⟨aa, this.2⟩) hok.2.1
 have HOP : Hid (∀ A' c' w1 w2, Wc w1 w2 (.slice A' p.ops.length c') p.ops → Ub w2 A' p.ops) := fun A' c' w1 w2 h => h.inn rfl;obtain ⟨gs, hgs⟩ := nE (Wr s);obtain ⟨pw, hpw⟩ := nE ((Xu p).2);obtain ⟨nv, hnv⟩ := nE (Qi s p now);have HNVE := hid hnv;obtain ⟨n, hn⟩ := nE (p.ops.length);have HN := hid hn;rw [hgs] at HG HNV HBD;rw [hpw] at HP HCP HNV;rw [hnv] at HNV;rw [hn] at HP HCP HOP;rw [hgs, hpw, hnv, hn];clear hgs hpw hnv hn hin hok hnow;obtain ⟨lv, rg, wn, ou, qu, vi⟩ := s;obtain ⟨nm, dl, jp, ops⟩ := p;unfold Uu.val at HG ⊢;unfold Xq.val at HP HCP ⊢;simp only at HG HP HCP HBD HDL HOP HN ⊢;obtain ⟨wa, hwa⟩ := nE ((w.alloc (.cells #[lv, rg, wn, ou, qu, vi] 23)).alloc (.cells #[nm, dl, jp, .slice A n c] 26));have HBA : Hid (Below w.heap.size w wa) := hwa ▸ Qc _ _ _;have HSA : Hid (Blk wa w.heap.size 23 #[lv, rg, wn, ou, qu, vi]) := hwa ▸ (Blk.new w _ _).alloc _;have HPA : Hid (Blk wa (w.heap.size + 1) 26 #[nm, dl, jp, .slice A n c]) := hwa ▸ Ml _ _ _ _;have HWA := hid hwa;clear hwa;obtain ⟨gx, hgx⟩ := nE (w.heap.size);have HGX := hid hgx;rw [hgx] at HSA HPA;clear hgx;obtain ⟨x0, x1, x2, x3, x4, x5⟩ := Yg HSA.out;have hlx := HSA.lt;go_enter Tryz.func55, Tryz.ntmps55;go_upto_region 1 with fail;rw [HWA.out, HGX.out];obtain ⟨gp, hgp⟩ := nE (gx + 1);rw [hgp] at HPA ⊢;have HGG : Hid (w.heap.size = gx ∧ gx + 1 = gp) := ⟨HGX.out, hgp⟩;clear hgp HGX HWA;go_wp2_with fail;refine (HG.out _).mono ?_;rintro en w1 ⟨rfl, hb⟩;have HB1 := bt HBA hb;have HS1 := bb HSA hb;have HP1 := bb HPA hb;clear hb x0 x1 x2 x3 x4 x5 hlx HSA HPA HBA HG;cases gs
 ·go_wp2_with fail
  go_ret2
  unfold Zat;rw [if_pos rfl];exact ⟨HB1.out, rfl⟩
 obtain ⟨p0, p1, p2, p3⟩ := Wf HP1.out;have hlp := HP1.lt;have CP := hid (HP.out w1 HB1.out);obtain ⟨b, hb⟩ := nE (decide (pw = 0));have HBB := hid hb;rw [hb] at CP;clear hb HP;go_wp2_with fail;refine CP.mono ?_;rintro en w2 ⟨rfl, hb⟩;have HB2 := bt HB1 hb;have HS2 := bb HS1 hb;have HP2 := bb HP1 hb;clear hb p0 p1 p2 p3 hlp HS1 HP1 HB1 CP;cases b
 ·have hpw : pw ≠ 0 := by simpa using HBB.out
  have HPW := hid hpw;clear hpw HBB;go_wp2_with fail
  go_ret2
  unfold Zat;rw [if_neg ac, if_pos HPW.out];exact ⟨HB2.out, rfl⟩
 have hpw : pw = 0 := by simpa using HBB.out
 subst hpw;have HNOK := hid (HNV.out af af);have HCQ := hid (HCP.out af);obtain ⟨hb1, hb2, hb3⟩ := HBD.out af;have HBQ := hid (And.intro hb1 (And.intro hb2 hb3));clear HNV HCP HBD HBB hb1 hb2 hb3;obtain ⟨nw, hnw⟩ := nE (Yx now);have HNW := hid hnw;have COW : Hid (∀ W, Calls Tryz.prog 94 #[now] W fun e w' => e = .returned nw ∧ W = w') := hnw ▸ fun W => Zev now W;rw [hnw] at HDL;clear hnw;go_upto_region 5 with fail;have X0 := tA HS2.out 0 lv rfl;have X1 := tA HS2.out 1 rg rfl;have X2 := tA HS2.out 2 wn rfl;have X3 := tA HS2.out 3 ou rfl;have X4 := tA HS2.out 4 qu rfl;have X5 := tA HS2.out 5 vi rfl;have Q0 := tA HP2.out 0 nm rfl;have Q1 := tA HP2.out 1 dl rfl;have Q2 := tA HP2.out 2 jp rfl;have Q3 := tA HP2.out 3 (.slice A n c) rfl;refine Zg w2.heap.size [] (.val 0 (.val 1 (.val 3 (.op 2 (.op 4 (.val 5 (.op 6 (.val 7 (.nil))))))))) ab ab ?_;obtain ⟨wc, hwc, HBW⟩ := dw w2;rw [hwc];clear hwc
 iterate 3 ((first | refine Zc rfl rfl ?_ | refine Zq rfl rfl (Yz HBW.out) ?_); go_big_quiet_step (fail); refine wpQuiet_nil ?_)
 refine Ze rfl ?_;have CQ := hid (HCQ.out wc (HB2.trans (HBW.mono HB2.size)));go_wp2_with fail;refine CQ.mono ?_;rintro en w3 ⟨A2, c2, rfl, ho2, hb⟩;have HO3 := hid (HOP.out A2 c2 _ _ ho2);have HB3 : Hid (Below w2.heap.size w2 w3) := HBW.trans (hb.mono HBW.size);clear hb ho2 CQ;have HBW := HB3;go_wp2_with fail;refine KT.keep (Yz HBW.out) ?_;refine Ze rfl ?_;go_wp2_with fail;refine (COW.out _).mono ?_;rintro en w3' ⟨rfl, rfl⟩;go_wp2_with fail;refine KT.keep (Yz HBW.out) ?_;refine Zc rfl rfl ?_
 go_big_quiet_step (fail)
 refine wpQuiet_nil ?_;refine Ze rfl ?_;go_wp2_with fail;obtain ⟨wd, hwd⟩ := nE (w3.alloc (.cells #[lv, rg, wn, ou, qu, vi, nm, dl, jp, .slice A2 n c2, .int .i64 0, .int .i64 0, .int .i64 0, .int .i64 0, .int .i64 0, .int .i64 0, .pointer none, .pointer none, .pointer none, .bool false, nw] 107));have HD0 := bn hwd;have HB0 := ba hwd;rw [hwd];clear hwd;have HBW : Hid (Below w2.heap.size w2 wd) := HB3.trans (HB0.mono HB3.size);obtain ⟨d, hd⟩ := nE (w3.heap.size);have HDE := hid hd;rw [hd] at HD0 ⊢;clear hd;refine KT.keep (Yz HBW.out) ?_;refine Zc rfl rfl ?_
 go_big_quiet_step (fail)
 refine wpQuiet_nil ?_;refine Zi ?_;clear X0 X1 X2 X3 X4 X5 Q0 Q1 Q2 Q3;have HS3 := bb HS2 HBW;have HP3 := bb HP2 HBW
 have HNE : Hid (gx ≠ d ∧ gp ≠ d) := by
  have := HS2.lt; have := HP2.lt; have := HB3.size; have := HDE.out; exact ⟨aa, aa⟩
 have HBD0 := bt HB2 HB3;clear HS2 HP2 COW HCQ;go_upto_region 6 with fail;have T20 : ∀ q : BW wd.heap.size wd, q.1.cell? ⟨d, 20, none⟩ = some (.int .i64 nw) := fun q => q.cellAt HD0.lt (HD0.cell 20);have P1 := tA HP3.out 1 dl rfl;have HDQ : Hid (∃ d1 d2 d3, Un nw dl = ⟨d1, d2, d3⟩) := ⟨_, _, _, rfl⟩;obtain ⟨d1, d2, d3, hdd⟩ := HDQ.out;have HDD := hid hdd;rw [hdd] at HDL;unfold Vk.val at HDL;simp only at HDL;clear hdd HDQ;refine Zg wd.heap.size [10] (.val 0 (.val 1 (.val 2 (.val 3 (.val 4 (.val 5 (.val 6 (.op 7 (.val 8 (.val 9 (.op 10 (.nil)))))))))))) ab ab ?_;obtain ⟨we, hwe, HBW⟩ := dw wd;rw [hwe];clear hwe
 iterate 7 ((first | refine Zc rfl rfl ?_ | refine Zq rfl rfl (Yz HBW.out) ?_); go_big_quiet_step (fail); refine wpQuiet_nil ?_)
 refine Ze rfl ?_;go_wp2_with fail;refine (HDL.out _).mono ?_;rintro en wf ⟨rfl, hb⟩;have HBX : Hid (Below wd.heap.size wd wf) := HBW.trans (hb.mono HBW.size);clear hb;have HBW := HBX;go_wp2_with fail;refine KT.keep (Yz HBW.out) ?_
 iterate 2 (refine Zc rfl rfl ?_; go_big_quiet_step (fail); refine wpQuiet_nil ?_)
 refine Ze rfl ?_;have HDF := bb HD0 HBX;have y13 : wf.cell? ⟨d, 13, none⟩ = some (.int .i64 0) := HDF.cell 13;have y14 : wf.cell? ⟨d, 14, none⟩ = some (.int .i64 0) := HDF.cell 14;have y15 : wf.cell? ⟨d, 15, none⟩ = some (.int .i64 0) := HDF.cell 15;have z13 := HDF.frozen 13; have z14 := HDF.frozen 14; have z15 := HDF.frozen 15;have hlf := HDF.lt;go_wp2_with fail;obtain ⟨wg, hwg⟩ := nE (Mp wf d (.int .i64 d1) (.int .i64 d2) (.int .i64 d3));have HDG : Hid (Blk wg d 107 #[lv, rg, wn, ou, qu, vi, nm, dl, jp, .slice A2 n c2, .int .i64 0, .int .i64 0, .int .i64 0, d1, d2, d3, .pointer none, .pointer none, .pointer none, .bool false, nw]) := hwg ▸ ((HDF.set 13 _).set 14 _).set 15 _;have HKG : Hid (Za (fun k => k = d) wd wg) := hwg ▸ (Za.of_below (F := fun k => k = d) HBX.out).trans (Gf _ _ _ _ _) (fun _ h => .inl h);unfold Mp at hwg;rw [hwg];clear hwg y13 y14 y15 z13 z14 z15 hlf HDF HBX;refine KT.past rfl ?_;refine Zi ?_;clear T20 P1 HDL;have HSG := hid (HKG.blk HS3.out HNE.1);clear HS3 HP3;have HBG : Hid (Below d w3 wg) := HDE.out ▸ (HB0.trans (HKG.below HB0.size (fun k (e : k = d) => by rw [e, HDE.out]; exact Nat.le_refl _)));clear HB0 HKG HD0;go_upto_region 7 with fail;have hnd := HNE.1;have hls := HSG.lt;have S1 : ∀ q : KW (fun k => k = d) wg, q.1.cell? ⟨gx, 1, none⟩ = some (.int .i64 rg) := fun q => q.cellAt hls hnd (HSG.cell 1);have S2 : ∀ q : KW (fun k => k = d) wg, q.1.cell? ⟨gx, 2, none⟩ = some (.int .i64 wn) := fun q => q.cellAt hls hnd (HSG.cell 2);have S3 : ∀ q : KW (fun k => k = d) wg, q.1.cell? ⟨gx, 3, none⟩ = some (.int .i64 ou) := fun q => q.cellAt hls hnd (HSG.cell 3);clear hnd hls;refine Vd (fun k => k = d) [] (.val 0 (.val 1 (.val 2 (.val 3 (.val 4 (.val 6 (.val 7 (.val 9 (.val 10 (.op 5 (.op 8 (.op 11 (.val 12 (.val 13 (.op 14 (.val 15 (.val 16 (.op 17 (.val 18 (.val 19 (.op 20 (.nil)))))))))))))))))))))) ab ab ?_;obtain ⟨wh, hwh, HBH⟩ := dw wg;rw [hwh];clear hwh;have HKW : Hid (Za (fun k => k = d) wg wh) := Za.of_below HBH.out;have CRG := hid (Zgf rg wh di di)
 iterate 9 ((first | refine Zc rfl rfl ?_ | refine Zq rfl rfl (Kn HKW.out) ?_); go_big_quiet_step (fail); refine wpQuiet_nil ?_)
 refine Ze rfl ?_;go_wp2_with fail;refine CRG.mono ?_;rintro en wi ⟨gi, gb, rfl, hrg, hgi, hgb, hb⟩;have HRI := hid hrg;have HGI := hid (And.intro hgi hgb);have HBI : Hid (Below wg.heap.size wg wi) := HBH.trans (hb.mono HBH.size);have HSI : Hid (wg.heap.size ≤ wh.heap.size ∧ wh.heap.size ≤ wi.heap.size) := ⟨HBH.size, hb.size⟩;clear hrg hgi hgb hb CRG;have HKW : Hid (Za (fun k => k = d) wg wi) := Za.of_below HBI.out;have CHO := hid (Zgp wn wi di di);obtain ⟨gh, hgh⟩ := nE (wi.heap.size);have HGH := hid hgh;rw [hgh] at CHO;clear hgh;go_wp2_with fail;refine KT.keep (Kn HKW.out) ?_;refine Ze rfl ?_;go_wp2_with fail;refine CHO.mono ?_;rintro en wj ⟨rfl, hho, hb⟩;have HHJ := hid hho;rw [← HGH.out] at hb;have HBJ := hid hb;clear hho hb CHO;have HKW : Hid (Za (fun k => k = d) wg wj) := Za.of_below (HBI.trans (HBJ.mono HBI.size));obtain ⟨om, hom⟩ : ∃ y : Nat, ou = (y : Int) := ⟨ou.toNat, di⟩;have HOM := hid hom
 have CPN : Hid (Calls Tryz.prog 98 #[ou] wj fun e w' => e = .returned (.pointer (some ⟨wj.heap.size, 0, none⟩)) ∧ Vn w' wj.heap.size (Yw.new om) ∧ Below wj.heap.size wj w') := by
  rw [hom]; exact Zgk om di di wj
 obtain ⟨gq, hgq⟩ := nE (wj.heap.size);have HGQ := hid hgq;rw [hgq] at CPN;clear hgq hom;go_wp2_with fail;refine KT.keep (Kn HKW.out) ?_;refine Ze rfl ?_;go_wp2_with fail;refine CPN.mono ?_;rintro en wk ⟨rfl, hpn, hb⟩;have HPK := hid hpn;rw [← HGQ.out] at hb;have HBK := hid hb;clear hpn hb CPN;have HBL : Hid (Below wg.heap.size wg wk) := (HBI.trans (HBJ.mono HBI.size)).trans (HBK.mono (Nat.le_trans HBI.size HBJ.size));have HKW : Hid (Za (fun k => k = d) wg wk) := Za.of_below HBL.out;have HDC := bb HDG HBL;have HKK : Hid (Za (fun k => k = d) wk wk) := Za.refl _ _;clear S1 S2 S3;go_wp2_with fail;refine KT.keep (Kn HKW.out) ?_
 iterate 2 (refine Zc rfl rfl ?_; go_big_quiet_step (fail); refine wpQuiet_nil ?_)
 refine Ze rfl ?_;obtain ⟨yc, ec⟩ := HDC.some 16 af;have efc := HDC.frozen 16;have hlc := HDC.lt;go_wp2_with fail;obtain ⟨wm, hwc, HDC, hkc⟩ := Blk.put HDC.out 16 (.pointer (some ⟨gi, 0, none⟩));rw [hwc];clear hwc ec efc hlc;have HKW : Hid (Za (fun k => k = d) wg wm) := HKW.trans hkc.out (fun _ h => .inl h);have HKK : Hid (Za (fun k => k = d) wk wm) := HKK.trans hkc.out (fun _ h => .inl h);clear hkc;refine KT.keep (Kn HKW.out) ?_
 iterate 2 (refine Zc rfl rfl ?_; go_big_quiet_step (fail); refine wpQuiet_nil ?_)
 refine Ze rfl ?_;obtain ⟨yc, ec⟩ := HDC.some 17 af;have efc := HDC.frozen 17;have hlc := HDC.lt;go_wp2_with fail;obtain ⟨wo, hwc, HDC, hkc⟩ := Blk.put HDC.out 17 (.pointer (some ⟨gh, 0, none⟩));rw [hwc];clear hwc ec efc hlc;have HKW : Hid (Za (fun k => k = d) wg wo) := HKW.trans hkc.out (fun _ h => .inl h);have HKK : Hid (Za (fun k => k = d) wk wo) := HKK.trans hkc.out (fun _ h => .inl h);clear hkc;refine KT.keep (Kn HKW.out) ?_
 iterate 2 (refine Zc rfl rfl ?_; go_big_quiet_step (fail); refine wpQuiet_nil ?_)
 refine Ze rfl ?_;obtain ⟨yc, ec⟩ := HDC.some 18 af;have efc := HDC.frozen 18;have hlc := HDC.lt;go_wp2_with fail;obtain ⟨wv, hwc, HDC, hkc⟩ := Blk.put HDC.out 18 (.pointer (some ⟨gq, 0, none⟩));rw [hwc];clear hwc ec efc hlc;have HKW : Hid (Za (fun k => k = d) wg wv) := HKW.trans hkc.out (fun _ h => .inl h);have HKK : Hid (Za (fun k => k = d) wk wv) := HKK.trans hkc.out (fun _ h => .inl h);clear hkc;refine KT.keep (Kn HKW.out) ?_;refine Zi ?_;have HDV0 : Hid (Blk wv d 107 #[lv, rg, wn, ou, qu, vi, nm, dl, jp, .slice A2 n c2, .int .i64 0, .int .i64 0, .int .i64 0, d1, d2, d3, .pointer (some ⟨gi, 0, none⟩), .pointer (some ⟨gh, 0, none⟩), .pointer (some ⟨gq, 0, none⟩), .bool false, nw]) := HDC
 have HE : Hid ((#[lv, rg, wn, ou, qu, vi, nm, dl, jp, .slice A2 n c2, .int .i64 0, .int .i64 0, .int .i64 0, d1, d2, d3, .pointer (some ⟨gi, 0, none⟩), .pointer (some ⟨gh, 0, none⟩), .pointer (some ⟨gq, 0, none⟩), .bool false, nw] : Array Value) = nv.cells A2 c2 gi gh gq ∧ nv.s.ring.toNat = Wa rg 4096 ∧ nv.s.win.toNat = Wa wn 4096 ∧ nv.pd = Yw.new om ∧ nv.s.out.toNat = om ∧ nv.R = [] ∧ nv.S = [] ∧ nv.seen = 0 ∧ nv.P = [] ∧ nv.p.ops = ops ∧ nv.p.ops.length = n) := by
  have h1 := HNW.out;have h2 := HDD.out;have h3 := HOM.out;have h4 := HN.out;have h5 := HBQ.out;rw [← HNVE.out];unfold Qi;rw [h1];simp only;rw [h2];refine ⟨?_, (Zgt h5.1.1 h5.1.2).symm, (Zgt h5.2.1.1 h5.2.1.2).symm, ?_, ?_, fu, fu, fu, fu, fu, h4⟩
  ·rw [← h4]; rfl
  ·rw [h3]; rfl
  ·rw [h3]; rfl
 clear HDC
 have HSZ : Hid (w3.heap.size = d ∧ d < wg.heap.size ∧ wg.heap.size ≤ wi.heap.size ∧ wi.heap.size = gh ∧ gh < wj.heap.size ∧ wj.heap.size = gq ∧ gq < wk.heap.size ∧ wk.heap.size ≤ wv.heap.size ∧ gi < wi.heap.size ∧ gb < wi.heap.size ∧ wg.heap.size ≤ gi ∧ wg.heap.size ≤ gb ∧ gi ≠ gb) := by
  have a1 := HDG.lt;have a2 := HHJ.lt;obtain ⟨tr, a3⟩ := HPK.1;have a3 := a3.lt;have a4 := HKK.size;obtain ⟨f, bf, r1, r2⟩ := HRI.out;have a5 := r1.1.lt;have a6 := r1.2.1.lt;have a7 := HGI.out;have a8 := HSI.out;refine ⟨HDE.out, a1, HBI.size, HGH.out, a2, HGQ.out, a3, a4, a5, a6, aa, aa, ?_⟩;rintro rfl;have := r1.1.symm.trans r1.2.1;injection this with this
  injection this with _ h2
  revert h2
  decide
 have HDV : Hid (Zr d (fun k => d ≤ k ∧ k < wv.heap.size) w3 wv d gi gb gh gq (fun k => k = gh) A2 c2 nv) := by
  obtain ⟨e1, e2, e3, e4, e5, e6, e7, e8, e9, e10, e11⟩ := HE.out;obtain ⟨z0, z1, z2, z3, z4, z5, z6, z7, z8, z9, z10, z11, z12⟩ := HSZ.out;have kj : Za (fun k => k = d) wi wv := ((Za.of_below (F := fun k => k = d) HBJ.out).trans (Za.of_below (F := fun k => k = d) HBK.out) (fun _ h => .inl h)).trans HKK.out (fun _ h => .inl h);have kk : Za (fun k => k = d) wj wv := (Za.of_below (F := fun k => k = d) HBK.out).trans HKK.out (fun _ h => .inl h);refine ⟨?_, ?_, ⟨wi.heap.size, [], none, aa, ?_, by rw [e9]; rfl⟩, ?_, ?_, ?_, ⟨aa, aa⟩, ⟨⟨Nat.le_refl _, aa⟩, ⟨aa, aa⟩, ⟨aa, aa⟩, ⟨aa, aa⟩, ?_⟩, ⟨aa, aa, aa, aa, aa, z12, aa, aa, aa, aa⟩, fun k hk => hk, ?_, HNOK.out⟩
  ·rw [← e1]; exact HDV0.out
  ·rw [e2, e6]; exact HRI.keep kj aa aa
  ·rw [e3, e7, e8, z3]
   have := HHJ.out;exact this.keep kk (fun k (e : k = gh) (e2 : k = d) => aa)
  ·rw [e4]; exact HPK.keep HKK.out aa
  ·rw [e10]; exact HO3.out
  ·have h1 : Below w3.heap.size w3 wg := by rw [z0]; exact HBG.out
   exact h1.trans (HKW.below h1.size (fun k (e : k = d) => aa))
  ·rintro k rfl; exact ⟨aa, aa⟩
  ·rw [e4, e5]; rfl
 clear HDV0 HKK HPK HHJ HRI HGI HSI HE HBL HBK HBJ HBI HBH HNOK HO3
 have HKW2 : Hid (Below w.heap.size w wv ∧ w.heap.size ≤ d) := by
  have h1 : Below w3.heap.size w3 wv := by rw [HSZ.1]; exact HBG.trans (HKW.below (by have := HBG.size; have := HSZ.1; omega) (fun k (e : k = d) => by rw [e]; exact Nat.le_refl _))
  exact ⟨HBD0.trans (h1.mono HBD0.size), by rw [← HSZ.1]; exact HBD0.size⟩
 have CC := hid (Za9 HDV.out 0 (Nat.zero_le _));have hcz : ((0 : Nat) : Int) = 0 := rfl;rw [hcz] at CC;clear hcz;go_wp2_with fail;refine CC.mono ?_;rintro en wz ⟨rfl, hdz, hkz⟩;have HZ := hid hdz; have HKZ := hid hkz;clear hdz hkz CC;go_wp2_with fail
 go_ret2
 unfold Zat;rw [if_neg ac, if_neg ac];refine ⟨HKW2.1.trans (HKZ.below HKW2.1.size (fun k hk => Nat.le_trans HKW2.2 hk.1)), _, d, d, _, rfl, HKW2.2, HZ.out⟩
def uV : Uu := ⟨4, 8, 16, 3, 5, 1⟩
def uO : OpV := ⟨2, ⟨#[]⟩, 5, 0, [⟨⟨#[111, 107]⟩, 1⟩], -1, -1⟩
def uP : Xq := ⟨⟨#[97]⟩, 9223372036854775807, 1, [uO]⟩
def Zoq : Zd := ((Qi uV uP 3).come 0).put ⟨#[120, 111, 107]⟩ |>.1
def Zq0 : Zd := (Zoq.step 4).1
theorem Zmg : Wr uV = true := by decide +kernel
theorem Zmh : (Xu uP).2 = 0 := by decide +kernel
theorem Zri : (((Qi uV uP 3).come 0).put ⟨#[120, 111, 107]⟩).2 = 3 := by kernel_rfl
theorem Zs4 : (Zoq.step 4).2 = (⟨4, 0, 2, 0, 3, 0⟩, true) := by kernel_rfl
theorem Zs3 : (Zq0.step 4).2 = (⟨4, 1, 9, 0, 0, 1⟩, true) := by kernel_rfl
theorem Zry : Kj uP := by
 refine ⟨ac, ⟨ac, ac⟩, ⟨ac, ac⟩, ac, fun o ho => ?_⟩;rw [show uP.ops = [uO] from rfl, List.mem_singleton] at ho;subst ho;refine ⟨⟨ac, ac⟩, ac, ⟨ac, ac⟩, ⟨ac, ac⟩, ac, fun m hm => ?_, ⟨ac, ac⟩, ⟨ac, ac⟩⟩;rw [show uO.arms = [⟨⟨#[111, 107]⟩, 1⟩] from rfl, List.mem_singleton] at hm;subst hm;exact ⟨ac, ⟨ac, ac⟩⟩
theorem Zsc {w : World} {ga go : Nat} {tm te : TypeId} (hta : tm = 99) (hte : te = 56) (ha : Blk w ga tm #[.string ⟨#[111, 107]⟩, .int .i64 1]) (ho : Blk w go te #[.int .i64 2, .string ⟨#[]⟩, .int .i64 5, .int .i64 0, .slice (some ⟨ga, 0, none⟩) 1 1, .int .i64 (-1), .int .i64 (-1)]) (b0 : Nat) (h1 : b0 ≤ ga) (h2 : b0 ≤ go) :
  Wc b0 w (.slice (some ⟨go, 0, none⟩) 1 1) uP.ops := by
 subst hta; subst hte;refine ⟨[(uO, .slice (some ⟨ga, 0, none⟩) 1 1)], rfl, ⟨rfl, .inr ⟨go, 1, _, rfl, h2, ho, Nat.le_refl _, df, rfl, rfl⟩⟩, fun x hx => ?_⟩;rw [List.mem_singleton] at hx;subst hx;exact ⟨_, 1, rfl, rfl, .inr ⟨ga, 1, _, rfl, h1, ha, Nat.le_refl _, by unfold maxLen; simp, rfl, rfl⟩⟩
def Fit (x : Zd) : Prop := (x.st = 0 → x.op.kind = 2 → x.P.length = x.op.arms.length) ∧ x.pd.text.size ≤ 256
theorem Zpt (ps : List ByteArray) (h : (Uz ps).2.2 = 0) : (Uz ps).1.length = ps.length := by
 have key : ∀ (l : List ByteArray) (i : Nat) (acc : List (List Zn)), (Ua l i acc).2.2 = 0 → (Ua l i acc).1.length = acc.length + l.length := by
  intro l
  induction l with
  | nil => intro i acc _; simp [Ua]
  | cons p l ih =>
   intro i acc h;rw [Ua] at h ⊢;split at h
   ·rename_i hc; exact absurd h hc
   ·rename_i hc
    rw [if_neg hc];split at h
    ·cases h
    ·rename_i h2
     rw [if_neg h2, ih _ _ h, List.length_append, List.length_cons, List.length_cons, List.length_nil]; omega
 unfold Uz at h ⊢;split at h
 ·cases h
 ·rename_i hc; rw [if_neg hc]; rw [key _ _ _ h]; simp
theorem Nk (x : Zd) (n : Nat) (h : n ≠ 0) : Fit (x.stop n) := ⟨fun h0 => absurd h0 h, by show (0 : Nat) ≤ 256; omega⟩
theorem Zpr (n : Nat) (o : OpV) (h : opE n o = 0) : o.text.size ≤ 256 := by
 unfold opE at h;split at h
 ·omega
 ·split at h
  ·omega
  ·rename_i _ hb
   split at h
   ·split at h
    ·omega
    ·split at h <;> omega
   ·rename_i hk
    exact N76
theorem Zco {x : Zd} {tt : Nat} (h : Yq (x.goes tt)) (hp : x.pd.text.size ≤ 256) : Fit (x.come tt) := by
 have hp' : (x.goes tt).pd.text.size ≤ 256 := hp;show Fit (x.goes tt).enters;obtain ⟨y, hy⟩ := nE (x.goes tt);rw [hy] at h hp' ⊢;clear hy hp;unfold Zd.enters;by_cases h1 : y.op.kind = 1
 ·rw [if_pos h1]
  refine ⟨fun _ h2 => ?_, Zpr _ _ (Nu y h (Mq y aa)).1⟩;have : y.op.kind = 2 := h2;omega
 rw [if_neg h1];by_cases h2 : y.op.kind = 2
 ·rw [if_pos h2]
  refine ⟨fun _ _ => ?_, hp'⟩;show ((Uz (y.op.arms.map Wy.pat)).1).length = y.op.arms.length;rw [Zpt _ (Zg2 y h h2).1, List.length_map]
 rw [if_neg h2];by_cases h4 : y.op.kind = 4
 ·rw [if_pos h4]
  exact ⟨fun _ h3 => absurd h3 h2, hp'⟩
 rw [if_neg h4];exact ⟨fun _ h3 => absurd h3 h2, hp'⟩
theorem Zcn {x : Zd} (h : Yq x) (hp : x.pd.text.size ≤ 256) (what : Nat) (tt : Int) (ht : tt ≤ (x.p.ops.length : Int)) : Fit (x.jump what tt).1 := by
 unfold Zd.jump;split
 ·exact Nk x 2 aa
 ·split
  ·exact Nk x 2 aa
  ·rename_i h1 h2
   have hj := (Wm _ h.pgood).2.1;exact Zco ((h.hop aa).goes (by show tt.toNat ≤ x.p.ops.length; omega)) hp
theorem Yq.looked {x : Zd} (h : Yq x) (L : Zh6) : Yq (x.looked L) := by
 obtain ⟨o1, o2, o3, o4, o5, o6, o7, o8, o9, o10⟩ := h;exact ⟨o1, o2, o3, o4, o5, o6, o7, o8, o9, o10⟩
theorem Zqa {x : Zd} (h : Yq x) (hf : Fit x) (hk : x.op.kind = 2) : Fit x.look.1 := by
 have ht := Zml x h hk;unfold Zd.look;simp only;split
 ·exact Zcn (h.looked _) hf.2 2 _ (ht.1 _)
 ·split
  ·exact Nk _ 4 aa
  ·split
   ·exact Zcn (h.looked _) hf.2 4 _ ht.2.2
   ·split
    ·exact Zcn (h.looked _) hf.2 3 _ ht.2.1
    ·exact hf
theorem Zp9 {x : Zd} (h : Yq x) (hf : Fit x) (hk : x.op.kind = 1) : Fit x.send.1 := by
 unfold Zd.send;split
 ·exact hf
 ·exact Zco (h.goes (Mq x aa)) hf.2
theorem Zqc {x : Zd} (h : Yq x) (hf : Fit x) : Fit x.does.1 := by
 unfold Zd.does;split
 ·rename_i h0; exact Nk _ _ h0
 ·split
  ·rename_i hk; exact Zp9 h hf hk
  ·split
   ·rename_i hk; exact Zqa h hf hk
   ·split
    ·rename_i hk; exact Zcn h hf.2 _ _ (Zmn x h hk)
    ·split
     ·rename_i hk; exact Zco (h.goes (Mq x aa)) hf.2
     ·split
      ·exact Nk _ 2 aa
      ·exact Nk _ 1 aa
theorem Ze2 {x : Zd} (h : Yq x) (hf : Fit x) (now : Int) (hn : now ≤ 9223372036854775807) : Fit (x.step now).1 := by
 unfold Zd.step;split
 ·exact hf
 ·exact Zqc (h.clock hn) hf
theorem Zmr {x : Zd} (hf : Fit x) (b : ByteArray) : Fit (x.put b).1 := by
 unfold Zd.put; split <;> exact hf
theorem Zqb {x : Zd} (hf : Fit x) : Fit x.ends := by
 unfold Zd.ends; split <;> exact hf
theorem Zp8 {x : Zd} (hf : Fit x) (z : Int) : Fit (x.take z) := by
 unfold Zd.take;split
 ·exact hf
 ·refine ⟨hf.1, ?_⟩
  show (x.pd.take z).text.size ≤ 256;unfold Yw.take; first | exact hf.2 | (split <;> exact hf.2)
theorem Zqd {x : Zd} (hf : Fit x) (t : Int) : Fit (x.cuts t) := by
 unfold Zd.cuts; split <;> exact hf
theorem Zms {s : Uu} {p : Xq} {now : Int} (h : Yq (Qi s p now)) : Fit ((Qi s p now).come 0) := Zco (h.goes (Nat.zero_le _)) (by show (0 : Nat) ≤ 256; omega)
section
variable {B d : Nat} {F : Nat → Prop} {w0 w : World} {x : Zd}
theorem Zj.ok (h : Zj B F w0 w d x) : Yq x := by obtain ⟨gi, gb, gh, gp, F2, A, c, h⟩ := h; exact h.ok
theorem Zj.fin (h : Zj B F w0 w d x) : ∀ k, F k → B ≤ k ∧ k < w.heap.size := by obtain ⟨gi, gb, gh, gp, F2, A, c, h⟩ := h; exact h.fin
theorem Zj.base (h : Zj B F w0 w d x) : B ≤ w.heap.size := by obtain ⟨gi, gb, gh, gp, F2, A, c, h⟩ := h; exact h.base.2
theorem Zj.under (h : Zj B F w0 w d x) {w' : World} (hk : Za F w w') : Below B w w' := hk.below h.base (fun k hf => (h.fin k hf).1)
theorem Zsu (h : Zj B F w0 w d x) (b : ByteArray) (hb : b.size ≤ 9223372036854775807) : Calls Tryz.prog 16 #[.pointer (some ⟨d, 0, none⟩), b] w fun e w' => e = .returned (((x.put b).2 : Nat) : Int) ∧ Zj B (Fup F w w') w0 w' d (x.put b).1 ∧ Za F w w' := by
 obtain ⟨gi, gb, gh, gp, F2, A, c, h⟩ := h;exact (Zql h b hb).mono (fun e w' hc => ⟨hc.1, Zj.up hc.2.1.at h.fin h.base.2 hc.2.2.size, hc.2.2⟩)
theorem Zs8 (h : Zj B F w0 w d x) : Calls Tryz.prog 17 #[.pointer (some ⟨d, 0, none⟩)] w fun e w' => e = .returned (.bool (decide (x.st = 0) && !x.eof)) ∧ Zj B (Fup F w w') w0 w' d x.ends ∧ Za F w w' := by
 obtain ⟨gi, gb, gh, gp, F2, A, c, h⟩ := h;exact (Zqm h).mono (fun e w' hc => ⟨hc.1, Zj.up hc.2.1.at h.fin h.base.2 hc.2.2.size, hc.2.2⟩)
theorem Zs5 (h : Zj B F w0 w d x) (z : Int) : Calls Tryz.prog 18 #[.pointer (some ⟨d, 0, none⟩), z] w fun e w' => e = .returned (.string (x.took z)) ∧ Zj B (Fup F w w') w0 w' d (x.take z) ∧ Za F w w' := by
 obtain ⟨gi, gb, gh, gp, F2, A, c, h⟩ := h;exact (Zoc h z).mono (fun e w' hc => ⟨hc.1, Zj.up hc.2.1.at h.fin h.base.2 hc.2.2.size, hc.2.2⟩)
theorem Zs9 (h : Zj B F w0 w d x) (t : Int) (ht : I6 t) : Calls Tryz.prog 19 #[.pointer (some ⟨d, 0, none⟩), t] w fun e w' => e = .returned (.tuple #[]) ∧ Zj B (Fup F w w') w0 w' d (x.cuts t) ∧ Za F w w' := by
 obtain ⟨gi, gb, gh, gp, F2, A, c, h⟩ := h;exact (Zqn h t ht).mono (fun e w' hc => ⟨hc.1, Zj.up hc.2.1.at h.fin h.base.2 hc.2.2.size, hc.2.2⟩)
theorem Zmc (h : Zj B F w0 w d x) (hf : Fit x) (now : Int) (hn : now ≤ 9223372036854775807) : Calls Tryz.prog 20 #[.pointer (some ⟨d, 0, none⟩), now] w fun e w' => e = .returned (.tuple #[(x.step now).2.1.val, .bool (x.step now).2.2]) ∧ Zj B (Fup F w w') w0 w' d (x.step now).1 ∧ Za F w w' := by
 obtain ⟨gi, gb, gh, gp, F2, A, c, h⟩ := h;exact Zod h now hn hf.1
theorem Zso (h : Zj B F w0 w d x) (now : Int) : Calls Tryz.prog 23 #[.pointer (some ⟨d, 0, none⟩), now] w fun e w' => e = .returned (.bool (x.ready now)) ∧ Below w.heap.size w w' := by
 obtain ⟨gi, gb, gh, gp, F2, A, c, h⟩ := h;exact Zfi h now
theorem Zsp (h : Zj B F w0 w d x) (hf : Fit x) : Calls Tryz.prog 48 #[.pointer (some ⟨d, 0, none⟩)] w fun e w' => e = .returned ((x.price : Nat) : Int) ∧ Below w.heap.size w w' := by
 obtain ⟨gi, gb, gh, gp, F2, A, c, h⟩ := h;exact Zlw h (by have := hf.2; omega)
theorem Zg8 (h : Zj B F w0 w d x) : Calls Tryz.prog 24 #[.pointer (some ⟨d, 0, none⟩)] w fun e w' => e = .returned (x.st : Int) ∧ w = w' := by
 obtain ⟨gi, gb, gh, gp, F2, A, c, h⟩ := h;exact Zjx h
theorem Zs7 (h : Zj B F w0 w d x) : Calls Tryz.prog 25 #[.pointer (some ⟨d, 0, none⟩)] w fun e w' => e = .returned (.int .i64 (if x.st = 0 then x.due.first else 9223372036854775807)) ∧ Below w.heap.size w w' := by
 obtain ⟨gi, gb, gh, gp, F2, A, c, h⟩ := h;exact Zog h
theorem Zsn (h : Zj B F w0 w d x) : Calls Tryz.prog 51 #[.pointer (some ⟨d, 0, none⟩)] w fun e w' => e = .returned (x.R.length : Int) ∧ w = w' := by
 obtain ⟨gi, gb, gh, gp, F2, A, c, h⟩ := h;exact Zlv h
theorem Zrw (h : Zj B F w0 w d x) : Calls Tryz.prog 52 #[.pointer (some ⟨d, 0, none⟩)] w fun e w' => e = .returned (.string (rgT x.S)) ∧ Below w.heap.size w w' := by
 obtain ⟨gi, gb, gh, gp, F2, A, c, h⟩ := h;exact Zjw h
theorem Zqx (h : Zj B F w0 w d x) : Calls Tryz.prog 53 #[.pointer (some ⟨d, 0, none⟩)] w fun e w' => e = .returned x.pd.peek ∧ Below w.heap.size w w' := by
 obtain ⟨gi, gb, gh, gp, F2, A, c, h⟩ := h;exact Zhs h
theorem Zs6 (h : Zj B F w0 w d x) : Calls Tryz.prog 54 #[.pointer (some ⟨d, 0, none⟩)] w fun e w' => e = .returned (.int .i64 (if x.st = 0 ∧ x.eof = false then (x.s.ring.toNat : Int) - (x.R.length : Int) else 0)) ∧ Below w.heap.size w w' := by
 obtain ⟨gi, gb, gh, gp, F2, A, c, h⟩ := h;exact Zof h
end
end Go.Proofs.YtpkkfdmhbbipoaaGreat
