/- Walks: package dial: New. Layer 22 lives: the plain part. A dialogue's calls, told of what is in memory; what holds of every dialogue. -/
import Derived.Test.YtpkkfdmhbbipoaaGreatDj
namespace Go.Proofs.YtpkkfdmhbbipoaaGreat
set_option maxRecDepth 20000
set_option maxHeartbeats 16000000
open Go.RowKit PopT
def Jf (s : Uk) (p : Xl) (now : Int) : Zf := ⟨s, p, 0, 0, 0, Um (Xa now) p.deadline, [], [], 0, [], Yy.new s.out.toNat, false, Xa now⟩
theorem N74{P:Prop}(h:P:=by
 cases hb2 : Mk o with
 | false => exact absurd hb2 hb
 | true =>
  unfold Mk at hb2;simp only [Bool.and_eq_true, Bool.or_eq_true, decide_eq_true_eq] at hb2;omega):P:=h
theorem Znp (n : Nat) (o : OpV) (h : opE n o = 0) : o.arms.length ≤ 8 := by
 by_cases hk : o.kind = 2
 ·exact (Ku n o (Ma n o h hk)).1
 ·unfold opE at h
  split at h
  ·omega
  ·split at h
   ·omega
   ·rename_i _ hb
    exact N74
theorem Zgx {x : Int} {m : Nat} (h1 : 1 ≤ x) (h2 : x ≤ (m : Int)) : We x m = x.toNat := by
 unfold We; rw [if_neg aa, if_neg aa]
theorem Zel (s : Uk) (p : Xl) (now : Int) (hg : Wf s = true) (hp : (Xf p).2 = 0) (hok : Jb p) (hn : I6 now) : Ys (Jf s p now) := by
 have hw := Jz hn.2;have hb := Zfn (Xa now) p.deadline ⟨aa, hw.2⟩ hok.2.1;refine ⟨hg, hp, hok, Nat.zero_le _, Nat.zero_le _, Nat.zero_le _, ⟨dx, ee⟩, ⟨by show -9223372036854775808 ≤ Yx (Xa now) p.deadline; omega, hb.2⟩, ⟨dx, ee⟩, hw⟩
def Ny (w : World) (gs : Bool) (pw : Nat) (nv : Zf) (e : Ending) (w' : World) : Prop := Below w.heap.size w w' ∧
 (if gs = false then e = .returned (.tuple #[.pointer none, .int .i64 1]) else if pw ≠ 0 then e = .returned (.tuple #[.pointer none, .int .i64 2]) else
  ∃ w0 d B F, e = .returned (.tuple #[.pointer (some ⟨d, 0, none⟩), .int .i64 0]) ∧ w.heap.size ≤ B ∧ Zl B F w0 w' d (nv.come 0))
theorem Ziz (s : Uk) (p : Xl) (A : Option Addr) (c b0 : Nat) (now : Int) (w : World) (hin : Wt b0 w (.slice A p.ops.length c) p.ops) (hok : Jb p) (hnow : I6 now) :
  Calls Tryz.prog 55 #[s.val, p.val (.slice A p.ops.length c), now] w fun e w' => Ny w (Wf s) (Xf p).2 (Jf s p now) e w' := by
 have HG : Hid (∀ W, Calls Tryz.prog 92 #[s.val] W fun e w' => e = .returned (.bool (Wf s)) ∧ Below W.heap.size W w') := fun W => Zhx s W
 have HP : Hid (∀ W, Below w.heap.size w W → Calls Tryz.prog 74 #[p.val (.slice A p.ops.length c)] W fun e w' => e = .returned (.bool (decide ((Xf p).2 = 0))) ∧ Below W.heap.size W w') := fun W hb =>
  Zho p A c W ((hin.inn rfl).below hb) hok.2.2.2.1 hok.1 (fun o ho => (hok.2.2.2.2 o ho).2.2.2.2.1)
 have HCP : Hid ((Xf p).2 = 0 → ∀ W, Below w.heap.size w W → Calls Tryz.prog 93 #[p.val (.slice A p.ops.length c)] W fun e w' => ∃ A' c', e = .returned (p.val (.slice A' p.ops.length c')) ∧ Wt W.heap.size w' (.slice A' p.ops.length c') p.ops ∧ Below W.heap.size W w') := fun h0 W hb =>
  Zn2 p A c b0 W (hin.below hb (Nat.le_refl _)) (by have := (Vc _ h0).1; omega) (fun o ho => by have := Znp _ _ ((Vc _ h0).2.2 o ho); omega)
 have HNV : Hid (Wf s = true → (Xf p).2 = 0 → Ys (Jf s p now)) := fun h1 h2 => Zel s p now h1 h2 hok hnow;have HBD : Hid (Wf s = true → (1 ≤ s.ring ∧ s.ring ≤ 4096) ∧ (1 ≤ s.win ∧ s.win ≤ 4096) ∧ (1 ≤ s.out ∧ s.out ≤ 4096)) := fun h => by have := Qt h; omega
 have HDL : Hid (∀ W, Calls Tryz.prog 95 #[.int .i64 (Xa now), p.deadline] W fun e w' => e = .returned (Um (Xa now) p.deadline).val ∧ Below W.heap.size W w') := fun W =>
  Zhv (Xa now) p.deadline W (by have := Jz hnow.2; exact ⟨aa, this.2⟩) hok.2.1
 have HOP : Hid (∀ A' c' w1 w2, Wt w1 w2 (.slice A' p.ops.length c') p.ops → Ug w2 A' p.ops) := fun A' c' w1 w2 h => h.inn rfl;obtain ⟨gs, hgs⟩ := nE (Wf s);obtain ⟨pw, hpw⟩ := nE ((Xf p).2);obtain ⟨nv, hnv⟩ := nE (Jf s p now);have HNVE := hid hnv;obtain ⟨n, hn⟩ := nE (p.ops.length);have HN := hid hn;rw [hgs] at HG HNV HBD;rw [hpw] at HP HCP HNV;rw [hnv] at HNV;rw [hn] at HP HCP HOP;rw [hgs, hpw, hnv, hn];clear hgs hpw hnv hn hin hok hnow;obtain ⟨lv, rg, wn, ou, qu, vi⟩ := s;obtain ⟨nm, dl, jp, ops⟩ := p;unfold Uk.val at HG ⊢;unfold Xl.val at HP HCP ⊢;simp only at HG HP HCP HBD HDL HOP HN ⊢;obtain ⟨wa, hwa⟩ := nE ((w.alloc (.cells #[lv, rg, wn, ou, qu, vi] 23)).alloc (.cells #[nm, dl, jp, .slice A n c] 26));have HBA : Hid (Below w.heap.size w wa) := hwa ▸ Uu _ _ _;have HSA : Hid (Blk wa w.heap.size 23 #[lv, rg, wn, ou, qu, vi]) := hwa ▸ (Blk.new w _ _).alloc _;have HPA : Hid (Blk wa (w.heap.size + 1) 26 #[nm, dl, jp, .slice A n c]) := hwa ▸ Gz _ _ _ _;have HWA := hid hwa;clear hwa;obtain ⟨gx, hgx⟩ := nE (w.heap.size);have HGX := hid hgx;rw [hgx] at HSA HPA;clear hgx;obtain ⟨x0, x1, x2, x3, x4, x5⟩ := Yk HSA.out;have hlx := HSA.lt;go_enter Tryz.func55, Tryz.ntmps55;go_upto_region 1 with fail;rw [HWA.out, HGX.out];obtain ⟨gp, hgp⟩ := nE (gx + 1);rw [hgp] at HPA ⊢;have HGG : Hid (w.heap.size = gx ∧ gx + 1 = gp) := ⟨HGX.out, hgp⟩;clear hgp HGX HWA;go_wp2_with fail;refine (HG.out _).mono ?_;rintro en w1 ⟨rfl, hb⟩;have HB1 := bt HBA hb;have HS1 := bb HSA hb;have HP1 := bb HPA hb;clear hb x0 x1 x2 x3 x4 x5 hlx HSA HPA HBA HG;cases gs
 ·go_wp2_with fail
  go_ret2
  unfold Ny;rw [if_pos rfl];exact ⟨HB1.out, rfl⟩
 obtain ⟨p0, p1, p2, p3⟩ := Wc HP1.out;have hlp := HP1.lt;have CP := hid (HP.out w1 HB1.out);obtain ⟨b, hb⟩ := nE (decide (pw = 0));have HBB := hid hb;rw [hb] at CP;clear hb HP;go_wp2_with fail;refine CP.mono ?_;rintro en w2 ⟨rfl, hb⟩;have HB2 := bt HB1 hb;have HS2 := bb HS1 hb;have HP2 := bb HP1 hb;clear hb p0 p1 p2 p3 hlp HS1 HP1 HB1 CP;cases b
 ·have hpw : pw ≠ 0 := by simpa using HBB.out
  have HPW := hid hpw;clear hpw HBB;go_wp2_with fail
  go_ret2
  unfold Ny;rw [if_neg ac, if_pos HPW.out];exact ⟨HB2.out, rfl⟩
 have hpw : pw = 0 := by simpa using HBB.out
 subst hpw;have HNOK := hid (HNV.out ah ah);have HCQ := hid (HCP.out ah);obtain ⟨hb1, hb2, hb3⟩ := HBD.out ah;have HBQ := hid (And.intro hb1 (And.intro hb2 hb3));clear HNV HCP HBD HBB hb1 hb2 hb3;obtain ⟨nw, hnw⟩ := nE (Xa now);have HNW := hid hnw;have COW : Hid (∀ W, Calls Tryz.prog 94 #[now] W fun e w' => e = .returned nw ∧ W = w') := hnw ▸ fun W => Ze0 now W;rw [hnw] at HDL;clear hnw;go_upto_region 5 with fail;have X0 := tA HS2.out 0 lv rfl;have X1 := tA HS2.out 1 rg rfl;have X2 := tA HS2.out 2 wn rfl;have X3 := tA HS2.out 3 ou rfl;have X4 := tA HS2.out 4 qu rfl;have X5 := tA HS2.out 5 vi rfl;have Q0 := tA HP2.out 0 nm rfl;have Q1 := tA HP2.out 1 dl rfl;have Q2 := tA HP2.out 2 jp rfl;have Q3 := tA HP2.out 3 (.slice A n c) rfl;refine Zg w2.heap.size [] (.val 0 (.val 1 (.val 3 (.op 2 (.op 4 (.val 5 (.op 6 (.val 7 (.nil))))))))) ab ab ?_;obtain ⟨wc, hwc, HBW⟩ := dw w2;rw [hwc];clear hwc
 iterate 3 ((first | refine Zd rfl rfl ?_ | refine Zw rfl rfl (Xp HBW.out) ?_); go_big_quiet_step (fail); refine wpQuiet_nil ?_)
 refine Ze rfl ?_;have CQ := hid (HCQ.out wc (HB2.trans (HBW.mono HB2.size)));go_wp2_with fail;refine CQ.mono ?_;rintro en w3 ⟨A2, c2, rfl, ho2, hb⟩;have HO3 := hid (HOP.out A2 c2 _ _ ho2);have HB3 : Hid (Below w2.heap.size w2 w3) := HBW.trans (hb.mono HBW.size);clear hb ho2 CQ;have HBW := HB3;go_wp2_with fail;refine KT.keep (Xp HBW.out) ?_;refine Ze rfl ?_;go_wp2_with fail;refine (COW.out _).mono ?_;rintro en w3' ⟨rfl, rfl⟩;go_wp2_with fail;refine KT.keep (Xp HBW.out) ?_;refine Zd rfl rfl ?_
 go_big_quiet_step (fail)
 refine wpQuiet_nil ?_;refine Ze rfl ?_;go_wp2_with fail;obtain ⟨wd, hwd⟩ := nE (w3.alloc (.cells #[lv, rg, wn, ou, qu, vi, nm, dl, jp, .slice A2 n c2, .int .i64 0, .int .i64 0, .int .i64 0, .int .i64 0, .int .i64 0, .int .i64 0, .pointer none, .pointer none, .pointer none, .bool false, nw] 107));have HD0 := bn hwd;have HB0 := ba hwd;rw [hwd];clear hwd;have HBW : Hid (Below w2.heap.size w2 wd) := HB3.trans (HB0.mono HB3.size);obtain ⟨d, hd⟩ := nE (w3.heap.size);have HDE := hid hd;rw [hd] at HD0 ⊢;clear hd;refine KT.keep (Xp HBW.out) ?_;refine Zd rfl rfl ?_
 go_big_quiet_step (fail)
 refine wpQuiet_nil ?_;refine Zi ?_;clear X0 X1 X2 X3 X4 X5 Q0 Q1 Q2 Q3;have HS3 := bb HS2 HBW;have HP3 := bb HP2 HBW
 have HNE : Hid (gx ≠ d ∧ gp ≠ d) := by
  have := HS2.lt; have := HP2.lt; have := HB3.size; have := HDE.out; exact ⟨aa, aa⟩
 have HBD0 := bt HB2 HB3;clear HS2 HP2 COW HCQ;go_upto_region 6 with fail;have T20 : ∀ q : BW wd.heap.size wd, q.1.cell? ⟨d, 20, none⟩ = some (.int .i64 nw) := fun q => q.cellAt HD0.lt (HD0.cell 20);have P1 := tA HP3.out 1 dl rfl;have HDQ : Hid (∃ d1 d2 d3, Um nw dl = ⟨d1, d2, d3⟩) := ⟨_, _, _, rfl⟩;obtain ⟨d1, d2, d3, hdd⟩ := HDQ.out;have HDD := hid hdd;rw [hdd] at HDL;unfold Vs.val at HDL;simp only at HDL;clear hdd HDQ;refine Zg wd.heap.size [10] (.val 0 (.val 1 (.val 2 (.val 3 (.val 4 (.val 5 (.val 6 (.op 7 (.val 8 (.val 9 (.op 10 (.nil)))))))))))) ab ab ?_;obtain ⟨we, hwe, HBW⟩ := dw wd;rw [hwe];clear hwe
 iterate 7 ((first | refine Zd rfl rfl ?_ | refine Zw rfl rfl (Xp HBW.out) ?_); go_big_quiet_step (fail); refine wpQuiet_nil ?_)
 refine Ze rfl ?_;go_wp2_with fail;refine (HDL.out _).mono ?_;rintro en wf ⟨rfl, hb⟩;have HBX : Hid (Below wd.heap.size wd wf) := HBW.trans (hb.mono HBW.size);clear hb;have HBW := HBX;go_wp2_with fail;refine KT.keep (Xp HBW.out) ?_
 iterate 2 (refine Zd rfl rfl ?_; go_big_quiet_step (fail); refine wpQuiet_nil ?_)
 refine Ze rfl ?_;have HDF := bb HD0 HBX;have y13 : wf.cell? ⟨d, 13, none⟩ = some (.int .i64 0) := HDF.cell 13;have y14 : wf.cell? ⟨d, 14, none⟩ = some (.int .i64 0) := HDF.cell 14;have y15 : wf.cell? ⟨d, 15, none⟩ = some (.int .i64 0) := HDF.cell 15;have z13 := HDF.frozen 13; have z14 := HDF.frozen 14; have z15 := HDF.frozen 15;have hlf := HDF.lt;go_wp2_with fail;obtain ⟨wg, hwg⟩ := nE (Mu wf d (.int .i64 d1) (.int .i64 d2) (.int .i64 d3));have HDG : Hid (Blk wg d 107 #[lv, rg, wn, ou, qu, vi, nm, dl, jp, .slice A2 n c2, .int .i64 0, .int .i64 0, .int .i64 0, d1, d2, d3, .pointer none, .pointer none, .pointer none, .bool false, nw]) := hwg ▸ ((HDF.set 13 _).set 14 _).set 15 _;have HKG : Hid (Za (fun k => k = d) wd wg) := hwg ▸ (Za.of_below (F := fun k => k = d) HBX.out).trans (Gj _ _ _ _ _) (fun _ h => .inl h);unfold Mu at hwg;rw [hwg];clear hwg y13 y14 y15 z13 z14 z15 hlf HDF HBX;refine KT.past rfl ?_;refine Zi ?_;clear T20 P1 HDL;have HSG := hid (HKG.blk HS3.out HNE.1);clear HS3 HP3;have HBG : Hid (Below d w3 wg) := HDE.out ▸ (HB0.trans (HKG.below HB0.size (fun k (e : k = d) => by rw [e, HDE.out]; exact Nat.le_refl _)));clear HB0 HKG HD0;go_upto_region 7 with fail;have hnd := HNE.1;have hls := HSG.lt;have S1 : ∀ q : KW (fun k => k = d) wg, q.1.cell? ⟨gx, 1, none⟩ = some (.int .i64 rg) := fun q => q.cellAt hls hnd (HSG.cell 1);have S2 : ∀ q : KW (fun k => k = d) wg, q.1.cell? ⟨gx, 2, none⟩ = some (.int .i64 wn) := fun q => q.cellAt hls hnd (HSG.cell 2);have S3 : ∀ q : KW (fun k => k = d) wg, q.1.cell? ⟨gx, 3, none⟩ = some (.int .i64 ou) := fun q => q.cellAt hls hnd (HSG.cell 3);clear hnd hls;refine Jk (fun k => k = d) [] (.val 0 (.val 1 (.val 2 (.val 3 (.val 4 (.val 6 (.val 7 (.val 9 (.val 10 (.op 5 (.op 8 (.op 11 (.val 12 (.val 13 (.op 14 (.val 15 (.val 16 (.op 17 (.val 18 (.val 19 (.op 20 (.nil)))))))))))))))))))))) ab ab ?_;obtain ⟨wh, hwh, HBH⟩ := dw wg;rw [hwh];clear hwh;have HKW : Hid (Za (fun k => k = d) wg wh) := Za.of_below HBH.out;have CRG := hid (Zgi rg wh dk dk)
 iterate 9 ((first | refine Zd rfl rfl ?_ | refine Zw rfl rfl (Ms HKW.out) ?_); go_big_quiet_step (fail); refine wpQuiet_nil ?_)
 refine Ze rfl ?_;go_wp2_with fail;refine CRG.mono ?_;rintro en wi ⟨gi, gb, rfl, hrg, hgi, hgb, hb⟩;have HRI := hid hrg;have HGI := hid (And.intro hgi hgb);have HBI : Hid (Below wg.heap.size wg wi) := HBH.trans (hb.mono HBH.size);have HSI : Hid (wg.heap.size ≤ wh.heap.size ∧ wh.heap.size ≤ wi.heap.size) := ⟨HBH.size, hb.size⟩;clear hrg hgi hgb hb CRG;have HKW : Hid (Za (fun k => k = d) wg wi) := Za.of_below HBI.out;have CHO := hid (Zgt wn wi dk dk);obtain ⟨gh, hgh⟩ := nE (wi.heap.size);have HGH := hid hgh;rw [hgh] at CHO;clear hgh;go_wp2_with fail;refine KT.keep (Ms HKW.out) ?_;refine Ze rfl ?_;go_wp2_with fail;refine CHO.mono ?_;rintro en wj ⟨rfl, hho, hb⟩;have HHJ := hid hho;rw [← HGH.out] at hb;have HBJ := hid hb;clear hho hb CHO;have HKW : Hid (Za (fun k => k = d) wg wj) := Za.of_below (HBI.trans (HBJ.mono HBI.size));obtain ⟨om, hom⟩ : ∃ y : Nat, ou = (y : Int) := ⟨ou.toNat, dk⟩;have HOM := hid hom
 have CPN : Hid (Calls Tryz.prog 98 #[ou] wj fun e w' => e = .returned (.pointer (some ⟨wj.heap.size, 0, none⟩)) ∧ Vt w' wj.heap.size (Yy.new om) ∧ Below wj.heap.size wj w') := by
  rw [hom]; exact Zgo om dk dk wj
 obtain ⟨gq, hgq⟩ := nE (wj.heap.size);have HGQ := hid hgq;rw [hgq] at CPN;clear hgq hom;go_wp2_with fail;refine KT.keep (Ms HKW.out) ?_;refine Ze rfl ?_;go_wp2_with fail;refine CPN.mono ?_;rintro en wk ⟨rfl, hpn, hb⟩;have HPK := hid hpn;rw [← HGQ.out] at hb;have HBK := hid hb;clear hpn hb CPN;have HBL : Hid (Below wg.heap.size wg wk) := (HBI.trans (HBJ.mono HBI.size)).trans (HBK.mono (Nat.le_trans HBI.size HBJ.size));have HKW : Hid (Za (fun k => k = d) wg wk) := Za.of_below HBL.out;have HDC := bb HDG HBL;have HKK : Hid (Za (fun k => k = d) wk wk) := Za.refl _ _;clear S1 S2 S3;go_wp2_with fail;refine KT.keep (Ms HKW.out) ?_
 iterate 2 (refine Zd rfl rfl ?_; go_big_quiet_step (fail); refine wpQuiet_nil ?_)
 refine Ze rfl ?_;obtain ⟨yc, ec⟩ := HDC.some 16 ah;have efc := HDC.frozen 16;have hlc := HDC.lt;go_wp2_with fail;obtain ⟨wm, hwc, HDC, hkc⟩ := Blk.put HDC.out 16 (.pointer (some ⟨gi, 0, none⟩));rw [hwc];clear hwc ec efc hlc;have HKW : Hid (Za (fun k => k = d) wg wm) := HKW.trans hkc.out (fun _ h => .inl h);have HKK : Hid (Za (fun k => k = d) wk wm) := HKK.trans hkc.out (fun _ h => .inl h);clear hkc;refine KT.keep (Ms HKW.out) ?_
 iterate 2 (refine Zd rfl rfl ?_; go_big_quiet_step (fail); refine wpQuiet_nil ?_)
 refine Ze rfl ?_;obtain ⟨yc, ec⟩ := HDC.some 17 ah;have efc := HDC.frozen 17;have hlc := HDC.lt;go_wp2_with fail;obtain ⟨wo, hwc, HDC, hkc⟩ := Blk.put HDC.out 17 (.pointer (some ⟨gh, 0, none⟩));rw [hwc];clear hwc ec efc hlc;have HKW : Hid (Za (fun k => k = d) wg wo) := HKW.trans hkc.out (fun _ h => .inl h);have HKK : Hid (Za (fun k => k = d) wk wo) := HKK.trans hkc.out (fun _ h => .inl h);clear hkc;refine KT.keep (Ms HKW.out) ?_
 iterate 2 (refine Zd rfl rfl ?_; go_big_quiet_step (fail); refine wpQuiet_nil ?_)
 refine Ze rfl ?_;obtain ⟨yc, ec⟩ := HDC.some 18 ah;have efc := HDC.frozen 18;have hlc := HDC.lt;go_wp2_with fail;obtain ⟨wv, hwc, HDC, hkc⟩ := Blk.put HDC.out 18 (.pointer (some ⟨gq, 0, none⟩));rw [hwc];clear hwc ec efc hlc;have HKW : Hid (Za (fun k => k = d) wg wv) := HKW.trans hkc.out (fun _ h => .inl h);have HKK : Hid (Za (fun k => k = d) wk wv) := HKK.trans hkc.out (fun _ h => .inl h);clear hkc;refine KT.keep (Ms HKW.out) ?_;refine Zi ?_;have HDV0 : Hid (Blk wv d 107 #[lv, rg, wn, ou, qu, vi, nm, dl, jp, .slice A2 n c2, .int .i64 0, .int .i64 0, .int .i64 0, d1, d2, d3, .pointer (some ⟨gi, 0, none⟩), .pointer (some ⟨gh, 0, none⟩), .pointer (some ⟨gq, 0, none⟩), .bool false, nw]) := HDC
 have HE : Hid ((#[lv, rg, wn, ou, qu, vi, nm, dl, jp, .slice A2 n c2, .int .i64 0, .int .i64 0, .int .i64 0, d1, d2, d3, .pointer (some ⟨gi, 0, none⟩), .pointer (some ⟨gh, 0, none⟩), .pointer (some ⟨gq, 0, none⟩), .bool false, nw] : Array Value) = nv.cells A2 c2 gi gh gq ∧ nv.s.ring.toNat = We rg 4096 ∧ nv.s.win.toNat = We wn 4096 ∧ nv.pd = Yy.new om ∧ nv.s.out.toNat = om ∧ nv.R = [] ∧ nv.S = [] ∧ nv.seen = 0 ∧ nv.P = [] ∧ nv.p.ops = ops ∧ nv.p.ops.length = n) := by
  have h1 := HNW.out;have h2 := HDD.out;have h3 := HOM.out;have h4 := HN.out;have h5 := HBQ.out;rw [← HNVE.out];unfold Jf;rw [h1];simp only;rw [h2];refine ⟨?_, (Zgx h5.1.1 h5.1.2).symm, (Zgx h5.2.1.1 h5.2.1.2).symm, ?_, ?_, fq, fq, fq, fq, fq, h4⟩
  ·rw [← h4]; rfl
  ·rw [h3]; rfl
  ·rw [h3]; rfl
 clear HDC
 have HSZ : Hid (w3.heap.size = d ∧ d < wg.heap.size ∧ wg.heap.size ≤ wi.heap.size ∧ wi.heap.size = gh ∧ gh < wj.heap.size ∧ wj.heap.size = gq ∧ gq < wk.heap.size ∧ wk.heap.size ≤ wv.heap.size ∧ gi < wi.heap.size ∧ gb < wi.heap.size ∧ wg.heap.size ≤ gi ∧ wg.heap.size ≤ gb ∧ gi ≠ gb) := by
  have a1 := HDG.lt;have a2 := HHJ.lt;obtain ⟨tr, a3⟩ := HPK.1;have a3 := a3.lt;have a4 := HKK.size;obtain ⟨f, bf, r1, r2⟩ := HRI.out;have a5 := r1.1.lt;have a6 := r1.2.1.lt;have a7 := HGI.out;have a8 := HSI.out;refine ⟨HDE.out, a1, HBI.size, HGH.out, a2, HGQ.out, a3, a4, a5, a6, aa, aa, ?_⟩;rintro rfl;have := r1.1.symm.trans r1.2.1;injection this with this
  injection this with _ h2
  revert h2
  decide
 have HDV : Hid (Zr d (fun k => d ≤ k ∧ k < wv.heap.size) w3 wv d gi gb gh gq (fun k => k = gh) A2 c2 nv) := by
  obtain ⟨e1, e2, e3, e4, e5, e6, e7, e8, e9, e10, e11⟩ := HE.out;obtain ⟨z0, z1, z2, z3, z4, z5, z6, z7, z8, z9, z10, z11, z12⟩ := HSZ.out;have kj : Za (fun k => k = d) wi wv := ((Za.of_below (F := fun k => k = d) HBJ.out).trans (Za.of_below (F := fun k => k = d) HBK.out) (fun _ h => .inl h)).trans HKK.out (fun _ h => .inl h);have kk : Za (fun k => k = d) wj wv := (Za.of_below (F := fun k => k = d) HBK.out).trans HKK.out (fun _ h => .inl h);refine ⟨?_, ?_, ⟨wi.heap.size, [], none, aa, ?_, by rw [e9]; rfl⟩, ?_, ?_, ?_, ⟨aa, aa⟩, ⟨⟨Nat.le_refl _, aa⟩, ⟨aa, aa⟩, ⟨aa, aa⟩, ⟨aa, aa⟩, ?_⟩, ⟨aa, aa, aa, aa, aa, z12, aa, aa, aa, aa⟩, fun k hk => hk, ?_, HNOK.out⟩
  ·rw [← e1]; exact HDV0.out
  ·rw [e2, e6]; exact HRI.keep kj aa aa
  ·rw [e3, e7, e8, z3]
   have := HHJ.out;exact this.keep kk (fun k (e : k = gh) (e2 : k = d) => aa)
  ·rw [e4]; exact HPK.keep HKK.out aa
  ·rw [e10]; exact HO3.out
  ·have h1 : Below w3.heap.size w3 wg := by rw [z0]; exact HBG.out
   exact h1.trans (HKW.below h1.size (fun k (e : k = d) => aa))
  ·rintro k rfl; exact ⟨aa, aa⟩
  ·rw [e4, e5]; rfl
 clear HDV0 HKK HPK HHJ HRI HGI HSI HE HBL HBK HBJ HBI HBH HNOK HO3
 have HKW2 : Hid (Below w.heap.size w wv ∧ w.heap.size ≤ d) := by
  have h1 : Below w3.heap.size w3 wv := by rw [HSZ.1]; exact HBG.trans (HKW.below (by have := HBG.size; have := HSZ.1; omega) (fun k (e : k = d) => by rw [e]; exact Nat.le_refl _))
  exact ⟨HBD0.trans (h1.mono HBD0.size), by rw [← HSZ.1]; exact HBD0.size⟩
 have CC := hid (Za7 HDV.out 0 (Nat.zero_le _));have hcz : ((0 : Nat) : Int) = 0 := rfl;rw [hcz] at CC;clear hcz;go_wp2_with fail;refine CC.mono ?_;rintro en wz ⟨rfl, hdz, hkz⟩;have HZ := hid hdz; have HKZ := hid hkz;clear hdz hkz CC;go_wp2_with fail
 go_ret2
 unfold Ny;rw [if_neg ac, if_neg ac];refine ⟨HKW2.1.trans (HKZ.below HKW2.1.size (fun k hk => Nat.le_trans HKW2.2 hk.1)), _, d, d, _, rfl, HKW2.2, HZ.out⟩
def uV : Uk := ⟨4, 8, 16, 3, 5, 1⟩
def uO : OpV := ⟨2, ⟨#[]⟩, 5, 0, [⟨⟨#[111, 107]⟩, 1⟩], -1, -1⟩
def uP : Xl := ⟨⟨#[97]⟩, 9223372036854775807, 1, [uO]⟩
theorem Zsa : Jb uP := by
 refine ⟨ac, ⟨ac, ac⟩, ⟨ac, ac⟩, ac, fun o ho => ?_⟩;rw [show uP.ops = [uO] from rfl, List.mem_singleton] at ho;subst ho;refine ⟨⟨ac, ac⟩, ac, ⟨ac, ac⟩, ⟨ac, ac⟩, ac, fun m hm => ?_, ⟨ac, ac⟩, ⟨ac, ac⟩⟩;rw [show uO.arms = [⟨⟨#[111, 107]⟩, 1⟩] from rfl, List.mem_singleton] at hm;subst hm;exact ⟨ac, ⟨ac, ac⟩⟩
theorem Zrr {w : World} {ga go : Nat} {tm te : TypeId} (hta : tm = 99) (hte : te = 56) (ha : Blk w ga tm #[.string ⟨#[111, 107]⟩, .int .i64 1]) (ho : Blk w go te #[.int .i64 2, .string ⟨#[]⟩, .int .i64 5, .int .i64 0, .slice (some ⟨ga, 0, none⟩) 1 1, .int .i64 (-1), .int .i64 (-1)]) (b0 : Nat) (h1 : b0 ≤ ga) (h2 : b0 ≤ go) :
  Wt b0 w (.slice (some ⟨go, 0, none⟩) 1 1) uP.ops := by
 subst hta; subst hte;refine ⟨[(uO, .slice (some ⟨ga, 0, none⟩) 1 1)], rfl, ⟨rfl, .inr ⟨go, 1, _, rfl, h2, ho, Nat.le_refl _, dh, rfl, rfl⟩⟩, fun x hx => ?_⟩;rw [List.mem_singleton] at hx;subst hx;exact ⟨_, 1, rfl, rfl, .inr ⟨ga, 1, _, rfl, h1, ha, Nat.le_refl _, by unfold maxLen; simp, rfl, rfl⟩⟩
def Fit (x : Zf) : Prop := (x.st = 0 → x.op.kind = 2 → x.P.length = x.op.arms.length) ∧ x.pd.text.size ≤ 256
theorem Zpb (ps : List ByteArray) (h : (Uz ps).2.2 = 0) : (Uz ps).1.length = ps.length := by
 have key : ∀ (l : List ByteArray) (i : Nat) (acc : List (List Zm)), (Vz l i acc).2.2 = 0 → (Vz l i acc).1.length = acc.length + l.length := by
  intro l
  induction l with
  | nil => intro i acc _; simp [Vz]
  | cons p l ih =>
   intro i acc h;rw [Vz] at h ⊢;split at h
   ·rename_i hc; exact absurd h hc
   ·rename_i hc
    rw [if_neg hc];split at h
    ·cases h
    ·rename_i h2
     rw [if_neg h2, ih _ _ h, List.length_append, List.length_cons, List.length_cons, List.length_nil]; omega
 unfold Uz at h ⊢;split at h
 ·cases h
 ·rename_i hc; rw [if_neg hc]; rw [key _ _ _ h]; simp
theorem Nm (x : Zf) (n : Nat) (h : n ≠ 0) : Fit (x.stop n) := ⟨fun h0 => absurd h0 h, by show (0 : Nat) ≤ 256; omega⟩
theorem Zo9 (n : Nat) (o : OpV) (h : opE n o = 0) : o.text.size ≤ 256 := by
 unfold opE at h;split at h
 ·omega
 ·split at h
  ·omega
  ·rename_i _ hb
   split at h
   ·split at h
    ·omega
    ·split at h <;> omega
   ·rename_i hk
    exact N74
theorem Zcl {x : Zf} {tt : Nat} (h : Ys (x.goes tt)) (hp : x.pd.text.size ≤ 256) : Fit (x.come tt) := by
 have hp' : (x.goes tt).pd.text.size ≤ 256 := hp;show Fit (x.goes tt).enters;obtain ⟨y, hy⟩ := nE (x.goes tt);rw [hy] at h hp' ⊢;clear hy hp;unfold Zf.enters;by_cases h1 : y.op.kind = 1
 ·rw [if_pos h1]
  refine ⟨fun _ h2 => ?_, Zo9 _ _ (Nx y h (Mv y aa)).1⟩;have : y.op.kind = 2 := h2;omega
 rw [if_neg h1];by_cases h2 : y.op.kind = 2
 ·rw [if_pos h2]
  refine ⟨fun _ _ => ?_, hp'⟩;show ((Uz (y.op.arms.map Vd.pat)).1).length = y.op.arms.length;rw [Zpb _ (Zg7 y h h2).1, List.length_map]
 rw [if_neg h2];by_cases h4 : y.op.kind = 4
 ·rw [if_pos h4]
  exact ⟨fun _ h3 => absurd h3 h2, hp'⟩
 rw [if_neg h4];exact ⟨fun _ h3 => absurd h3 h2, hp'⟩
theorem Zck {x : Zf} (h : Ys x) (hp : x.pd.text.size ≤ 256) (what : Nat) (tt : Int) (ht : tt ≤ (x.p.ops.length : Int)) : Fit (x.jump what tt).1 := by
 unfold Zf.jump;split
 ·exact Nm x 2 aa
 ·split
  ·exact Nm x 2 aa
  ·rename_i h1 h2
   have hj := (Vc _ h.pgood).2.1;exact Zcl ((h.hop aa).goes (by show tt.toNat ≤ x.p.ops.length; omega)) hp
theorem Ys.looked {x : Zf} (h : Ys x) (L : Zic) : Ys (x.looked L) := by
 obtain ⟨o1, o2, o3, o4, o5, o6, o7, o8, o9, o10⟩ := h;exact ⟨o1, o2, o3, o4, o5, o6, o7, o8, o9, o10⟩
theorem Zpu {x : Zf} (h : Ys x) (hf : Fit x) (hk : x.op.kind = 2) : Fit x.look.1 := by
 have ht := Zma x h hk;unfold Zf.look;simp only;split
 ·exact Zck (h.looked _) hf.2 2 _ (ht.1 _)
 ·split
  ·exact Nm _ 4 aa
  ·split
   ·exact Zck (h.looked _) hf.2 4 _ ht.2.2
   ·split
    ·exact Zck (h.looked _) hf.2 3 _ ht.2.1
    ·exact hf
theorem Zpt {x : Zf} (h : Ys x) (hf : Fit x) (hk : x.op.kind = 1) : Fit x.send.1 := by
 unfold Zf.send;split
 ·exact hf
 ·exact Zcl (h.goes (Mv x aa)) hf.2
theorem Zpw {x : Zf} (h : Ys x) (hf : Fit x) : Fit x.does.1 := by
 unfold Zf.does;split
 ·rename_i h0; exact Nm _ _ h0
 ·split
  ·rename_i hk; exact Zpt h hf hk
  ·split
   ·rename_i hk; exact Zpu h hf hk
   ·split
    ·rename_i hk; exact Zck h hf.2 _ _ (Zmc x h hk)
    ·split
     ·rename_i hk; exact Zcl (h.goes (Mv x aa)) hf.2
     ·split
      ·exact Nm _ 2 aa
      ·exact Nm _ 1 aa
theorem Zps {x : Zf} (h : Ys x) (hf : Fit x) (now : Int) (hn : now ≤ 9223372036854775807) : Fit (x.step now).1 := by
 unfold Zf.step;split
 ·exact hf
 ·exact Zpw (h.clock hn) hf
theorem Zq2 {x : Zf} (hf : Fit x) (b : ByteArray) : Fit (x.put b).1 := by
 unfold Zf.put; split <;> exact hf
theorem Zpv {x : Zf} (hf : Fit x) : Fit x.ends := by
 unfold Zf.ends; split <;> exact hf
theorem Zpr {x : Zf} (hf : Fit x) (z : Int) : Fit (x.take z) := by
 unfold Zf.take;split
 ·exact hf
 ·refine ⟨hf.1, ?_⟩
  show (x.pd.take z).text.size ≤ 256;unfold Yy.take; first | exact hf.2 | (split <;> exact hf.2)
theorem Zpx {x : Zf} (hf : Fit x) (t : Int) : Fit (x.cuts t) := by
 unfold Zf.cuts; split <;> exact hf
theorem Zmh {s : Uk} {p : Xl} {now : Int} (h : Ys (Jf s p now)) : Fit ((Jf s p now).come 0) := Zcl (h.goes (Nat.zero_le _)) (by show (0 : Nat) ≤ 256; omega)
section
variable {B d : Nat} {F : Nat → Prop} {w0 w : World} {x : Zf}
theorem Zl.ok (h : Zl B F w0 w d x) : Ys x := by obtain ⟨gi, gb, gh, gp, F2, A, c, h⟩ := h; exact h.ok
theorem Zl.fin (h : Zl B F w0 w d x) : ∀ k, F k → B ≤ k ∧ k < w.heap.size := by obtain ⟨gi, gb, gh, gp, F2, A, c, h⟩ := h; exact h.fin
theorem Zl.base (h : Zl B F w0 w d x) : B ≤ w.heap.size := by obtain ⟨gi, gb, gh, gp, F2, A, c, h⟩ := h; exact h.base.2
theorem Zl.under (h : Zl B F w0 w d x) {w' : World} (hk : Za F w w') : Below B w w' := hk.below h.base (fun k hf => (h.fin k hf).1)
theorem Zsm (h : Zl B F w0 w d x) (b : ByteArray) (hb : b.size ≤ 9223372036854775807) : Calls Tryz.prog 16 #[.pointer (some ⟨d, 0, none⟩), b] w fun e w' => e = .returned (((x.put b).2 : Nat) : Int) ∧ Zl B (Fup F w w') w0 w' d (x.put b).1 ∧ Za F w w' := by
 obtain ⟨gi, gb, gh, gp, F2, A, c, h⟩ := h;exact (Zp4 h b hb).mono (fun e w' hc => ⟨hc.1, Zl.up hc.2.1.at h.fin h.base.2 hc.2.2.size, hc.2.2⟩)
theorem Zsn (h : Zl B F w0 w d x) : Calls Tryz.prog 17 #[.pointer (some ⟨d, 0, none⟩)] w fun e w' => e = .returned (.bool (decide (x.st = 0) && !x.eof)) ∧ Zl B (Fup F w w') w0 w' d x.ends ∧ Za F w w' := by
 obtain ⟨gi, gb, gh, gp, F2, A, c, h⟩ := h;exact (Zp5 h).mono (fun e w' hc => ⟨hc.1, Zl.up hc.2.1.at h.fin h.base.2 hc.2.2.size, hc.2.2⟩)
theorem Zsj (h : Zl B F w0 w d x) (z : Int) : Calls Tryz.prog 18 #[.pointer (some ⟨d, 0, none⟩), z] w fun e w' => e = .returned (.string (x.took z)) ∧ Zl B (Fup F w w') w0 w' d (x.take z) ∧ Za F w w' := by
 obtain ⟨gi, gb, gh, gp, F2, A, c, h⟩ := h;exact (Znx h z).mono (fun e w' hc => ⟨hc.1, Zl.up hc.2.1.at h.fin h.base.2 hc.2.2.size, hc.2.2⟩)
theorem Zso (h : Zl B F w0 w d x) (t : Int) (ht : I6 t) : Calls Tryz.prog 19 #[.pointer (some ⟨d, 0, none⟩), t] w fun e w' => e = .returned (.tuple #[]) ∧ Zl B (Fup F w w') w0 w' d (x.cuts t) ∧ Za F w w' := by
 obtain ⟨gi, gb, gh, gp, F2, A, c, h⟩ := h;exact (Zp6 h t ht).mono (fun e w' hc => ⟨hc.1, Zl.up hc.2.1.at h.fin h.base.2 hc.2.2.size, hc.2.2⟩)
theorem Zsk (h : Zl B F w0 w d x) (hf : Fit x) (now : Int) (hn : now ≤ 9223372036854775807) : Calls Tryz.prog 20 #[.pointer (some ⟨d, 0, none⟩), now] w fun e w' => e = .returned (.tuple #[(x.step now).2.1.val, .bool (x.step now).2.2]) ∧ Zl B (Fup F w w') w0 w' d (x.step now).1 ∧ Za F w w' := by
 obtain ⟨gi, gb, gh, gp, F2, A, c, h⟩ := h;exact Zny h now hn hf.1
end
end Go.Proofs.YtpkkfdmhbbipoaaGreat
