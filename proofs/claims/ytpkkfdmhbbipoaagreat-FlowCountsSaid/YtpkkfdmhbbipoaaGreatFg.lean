/- Walks: the reference's Loops (layer 24). Walks: the reference's Steps (layer 24). -/
import Derived.Test.YtpkkfdmhbbipoaaGreatFf
import Derived.Test.YtpkkfdmhbbipoaaGreatFd
import Derived.Test.YtpkkfdmhbbipoaaGreatEb
namespace Go.Proofs.YtpkkfdmhbbipoaaGreat
open Go.RowKit PopT
section
variable {p : ProgV} {A : Option Addr} {c : Nat} {w : World}
set_option maxRecDepth 20000 in
set_option maxHeartbeats 4000000 in
theorem rLoops24_any (h : RefIn p A w) :
  Calls Tryz.prog 38 #[p.val (.slice A p.ops.length c)] w fun e w' => e = .returned (.bool (loopsB p)) ∧ Below w.heap.size w w' := by
 have CR : Hid (∀ W, Below w.heap.size w W → Calls Tryz.prog 36 #[p.val (.slice A p.ops.length c)] W fun e w' => ∃ v, e = .returned v ∧ IO W.heap.size w' v (reachL p) ∧ Below W.heap.size W w') := fun W hb => rReach24_any (h.below hb)
 have CN : Hid (goodB p = true → ∀ (a : Int) W, Below w.heap.size w W → Calls Tryz.prog 34 #[p.val (.slice A p.ops.length c), .int .i64 a] W fun e w' => ∃ v, e = .returned v ∧ IO W.heap.size w' v (nxM p.ops a) ∧ Below W.heap.size W w') := fun hg a W hb => by rw [← nextL_good hg]; exact rNext24_any a (h.below hb)
 have CF : Hid (goodB p = true → ∀ (a : Int) W1 W v, Below w.heap.size w W → W1 ≤ W.heap.size → IO W1 W v (nxM p.ops a) → Calls Tryz.prog 78 #[p.val (.slice A p.ops.length c), v] W fun e w' => ∃ v', e = .returned v' ∧ IO W1 w' v' (fromL p (nxM p.ops a)) ∧ (fromL p (nxM p.ops a)).length ≤ 1000 ∧ Below W.heap.size W w') := fun hg a W1 W v hb h1 hv => by
  have hr : InR p.ops.length (nxM p.ops a) := ⟨nx_asc _ _, nx_in (goodB_iff.1 hg) a⟩
  have hf := fromL_iff (goodB_iff.1 hg) _ hr.asc hr.rng
  have hi : InR p.ops.length (fromL p (nxM p.ops a)) := ⟨hf.1, (fromM_closed (nx_in (goodB_iff.1 hg)) _ _ hr.asc hr.rng).2.1⟩
  have hl := hi.len
  have hn := (good_ops (goodB_iff.1 hg)).2.1
  exact (rFrom_any (fun W' hW => h.below (hb.trans (hW.mono hb.size))) hg hv hr h1).mono fun e w' ⟨v', e1, e2, e3⟩ => ⟨v', e1, e2, by omega, e3⟩
 have HG : Hid (reachL p ≠ [] → goodB p = true) := fun hne => by
  unfold reachL at hne
  split at hne
  ·assumption
  ·exact absurd rfl hne
 have HRL : Hid ((reachL p).length ≤ 1000) := by
  rw [Hid]
  unfold reachL
  split
  ·rename_i hg
   have hr : InR p.ops.length [0] := ⟨by simp [Asc], fun x hx => by rw [List.mem_singleton] at hx; omega⟩
   have hi : InR p.ops.length (fromL p [0]) := ⟨(fromL_iff (goodB_iff.1 hg) _ hr.asc hr.rng).1, (fromM_closed (nx_in (goodB_iff.1 hg)) _ _ hr.asc hr.rng).2.1⟩
   have hl := hi.len
   have hn := (good_ops (goodB_iff.1 hg)).2.1
   omega
  ·simp
 have HE : Hid (loopsB p = (reachL p).any fun x => (fromL p (nxM p.ops x)).contains x) := rfl
 obtain ⟨R, hR⟩ : ∃ R, reachL p = R := ⟨_, rfl⟩
 obtain ⟨fr, hfr⟩ : ∃ f, fromL p = f := ⟨_, rfl⟩
 obtain ⟨B, hB⟩ : ∃ R, loopsB p = R := ⟨_, rfl⟩
 obtain ⟨g, hg⟩ : ∃ R, goodB p = R := ⟨_, rfl⟩
 obtain ⟨nx, hnx⟩ : ∃ f, nxM p.ops = f := ⟨_, rfl⟩
 rw [hR, hB, hfr, hnx] at HE
 rw [hR] at CR HRL
 rw [hR, hg] at HG
 rw [hg, hnx] at CN CF
 rw [hfr] at CF
 rw [hB]
 clear hR hfr hB hg hnx h
 obtain ⟨nm, dl, jp, ops⟩ := p
 unfold ProgV.val at CR CN CF ⊢
 simp only at CR CN CF ⊢
 obtain ⟨n, hn⟩ : ∃ n, ops.length = n := ⟨_, rfl⟩
 rw [hn] at CR CN CF ⊢
 clear hn
 go_enter Tryz.func38, Tryz.ntmps38
 go_upto_region 1 with fail
 obtain ⟨w0, hw0⟩ : ∃ W, w.alloc (.cells #[.string nm, .int .i64 dl, .int .i64 jp, .slice A n c] 26) = W := ⟨_, rfl⟩
 have HP : Hid (Blk w0 w.heap.size 26 #[.string nm, .int .i64 dl, .int .i64 jp, .slice A n c]) := by rw [← hw0]; exact Blk.new _ _ _
 have HB : Hid (Below w.heap.size w w0) := by rw [← hw0]; exact (Below.refl _ _).alloc (Nat.le_refl _) _
 rw [hw0]
 obtain ⟨gp, hgp⟩ : ∃ y, w.heap.size = y := ⟨_, rfl⟩
 have HGP := hid hgp
 rw [hgp] at HP ⊢
 clear hw0 hgp
 have C1 := hid (CR.out w0 HB.out)
 obtain ⟨q0, q1, q2, q3⟩ := fact4 HP.out
 have ql := HP.out.lt
 go_wp2_with fail
 refine C1.out.mono ?_
 rintro en w2 ⟨v, rfl, hv, hb⟩
 have HB2 : Hid (Below w.heap.size w w2) := HB.out.trans (hb.mono HB.out.size)
 have HP2 := hid (HP.out.below hb HP.out.lt)
 obtain ⟨AL, cl, rfl, hrd⟩ := own_shape hv
 have HRD := hid hrd
 obtain ⟨m, hm⟩ : ∃ y, R.length = y := ⟨_, rfl⟩
 have HM := hid hm
 have hm2 : m ≤ 1000 := by have := HRL.out; omega
 rw [hm]
 clear hb hv hrd hm C1 q0 q1 q2 q3 ql HP HB CR HRL
 obtain ⟨f, hf⟩ : ∃ f : Int → Bool, (fun x => (fr (nx x)).contains x) = f := ⟨_, rfl⟩
 have HFX : Hid (∀ x, f x = (fr (nx x)).contains x) := fun x => by rw [← hf]
 have HEB : Hid (B = R.any f) := by rw [Hid, HE.out, hf]
 clear hf HE
 go_wp2_with fail
 go_loopw [4] (fun iv wr => ∃ i : Nat, i ≤ m ∧ iv = .int .i64 (i : Int) ∧ (R.take i).any f = false ∧ Below w2.heap.size w2 wr) (fun iv _ => m - (intOf iv).toNat)
 case atStart => exact ⟨0, by omega, rfl, rfl, Below.refl _ _⟩
 case round =>
  obtain ⟨i, hi, rfl, ha, hb⟩ := hrel
  obtain ⟨wa, hwa⟩ : ∃ W, W = wr := ⟨_, rfl⟩
  subst hwa
  have HA := hid ha; have HBR := hid hb
  have HP3 := hid (HP2.out.below hb HP2.out.lt)
  have HRA := hid (HRD.out.below hb)
  have HB3 : Hid (Below w.heap.size w wa) := HB2.out.trans (hb.mono HB2.out.size)
  clear ha hb
  by_cases hlt : i < m
  ·have HI : Hid (i < R.length) := by rw [Hid, HM.out]; exact hlt
   have hg : g = true := HG.out (fun h => by have := HI.out; rw [h] at this; simp at this)
   have HCN := hid (CN.out hg)
   have HCF := hid (CF.out hg)
   obtain ⟨b1, f1, rfl, hbl1, hc1⟩ := HRA.out.at (by rw [intCells_length, HM.out]; omega)
   have hcx : wa.cell? ⟨b1, f1 + i, none⟩ = some (.int .i64 (R[i]'HI.out)) := hc1 i _ (intCells_get R i HI.out)
   have HTK : Hid ((R.take (i + 1)).any f = f (R[i]'HI.out)) := by
    rw [Hid, List.take_succ_eq_append_getElem HI.out, List.any_append, HA.out]; simp
   have HMEM : Hid (R[i]'HI.out ∈ R) := List.getElem_mem HI.out
   obtain ⟨x, hx⟩ : ∃ x, R[i]'HI.out = x := ⟨_, rfl⟩
   rw [hx] at hcx HTK HMEM
   have hpl := HP3.out.lt
   have T0 : ∀ q : BW wa.heap.size wa, q.1.cell? ⟨gp, 0, none⟩ = some (.string nm) := fun q => q.cellAt hpl (HP3.out.cell 0)
   have T1 : ∀ q : BW wa.heap.size wa, q.1.cell? ⟨gp, 1, none⟩ = some (.int .i64 dl) := fun q => q.cellAt hpl (HP3.out.cell 1)
   have T2 : ∀ q : BW wa.heap.size wa, q.1.cell? ⟨gp, 2, none⟩ = some (.int .i64 jp) := fun q => q.cellAt hpl (HP3.out.cell 2)
   have T3 : ∀ q : BW wa.heap.size wa, q.1.cell? ⟨gp, 3, none⟩ = some (.slice A n c) := fun q => q.cellAt hpl (HP3.out.cell 3)
   have T4 : ∀ q : BW wa.heap.size wa, q.1.cell? ⟨b1, f1 + i, none⟩ = some (.int .i64 x) := fun q => q.cellAt hbl1 hcx
   have HCX := hid hcx
   have HBL := hid hbl1
   clear hx hc1 hg
   go_upto_region 5 with fail
   refine wp_region_ordT wa.heap.size [] (.val 0 (.val 1 (.val 2 (.val 3 (.val 4 (.val 5 (.op 6 (.op 7 (.val 8 (.nil)))))))))) (by kernel_rfl) (by kernel_rfl) ?_
   obtain ⟨wc, hwc⟩ : ∃ W, wa.drewN 1 = W := ⟨_, rfl⟩
   have HBW : Hid (Below wa.heap.size wa wc) := by rw [← hwc]; exact drewN_below wa 1
   rw [hwc]
   clear hwc
   iterate 6 ((first | refine wpOrdT_val rfl rfl ?_ | refine wpOrdT_load rfl rfl (inBW HBW.out) ?_); go_big_quiet_step (fail); refine wpQuiet_nil ?_)
   clear T0 T1 T2 T3 T4 hpl hcx hbl1
   have HBC : Hid (Below w.heap.size w wc) := HB3.out.trans (HBW.out.mono HB3.out.size)
   have CQ := hid (HCN.out x wc HBC.out)
   refine wpOrdT_op rfl ?_
   go_wp2_with fail
   refine CQ.out.mono ?_
   rintro en w4 ⟨v, rfl, hv, hb4⟩
   have HB4 : Hid (Below wa.heap.size wa w4) := HBW.out.trans (hb4.mono HBW.out.size)
   have CQ2 := hid (HCF.out x wc.heap.size w4 v (HB3.out.trans (HB4.out.mono HB3.out.size)) hb4.size hv)
   clear hv hb4 CQ HCN HCF
   go_wp2_with fail
   refine KT.keep (inBW HB4.out) ?_
   refine wpOrdT_op rfl ?_
   go_wp2_with fail
   refine CQ2.out.mono ?_
   rintro en w5 ⟨v5, rfl, hv5, hl5, hb5⟩
   have HB5 : Hid (Below wa.heap.size wa w5) := HB4.out.trans (hb5.mono HB4.out.size)
   obtain ⟨A5, c5, rfl, hr5⟩ := own_shape hv5
   have HR5 := hid hr5
   obtain ⟨S, hS⟩ : ∃ S, fr (nx x) = S := ⟨_, rfl⟩
   have HFS : Hid (f x = S.contains x) := by rw [Hid, HFX.out, hS]
   rw [hS] at HR5 hl5 ⊢
   obtain ⟨z, hz⟩ : ∃ y, S.length = y := ⟨_, rfl⟩
   have HZ := hid hz
   rw [hz] at hl5 ⊢
   clear hv5 hr5 hb5 CQ2 hS hz
   go_wp2_with fail
   refine KT.keep (inBW HB5.out) ?_
   refine wpOrdT_val rfl rfl ?_
   go_big_quiet_step (fail)
   refine wpQuiet_nil ?_
   refine wpOrdT_nil ?_
   go_wp2_with fail
   go_loopw [6] (fun kv wr => ∃ k : Nat, k ≤ z ∧ kv = .int .i64 (k : Int) ∧ (S.take k).contains x = false ∧ Below w5.heap.size w5 wr) (fun kv _ => z - (intOf kv).toNat)
   case atStart => exact ⟨0, by omega, rfl, rfl, Below.refl _ _⟩
   case round =>
    obtain ⟨k, hk, rfl, hc, hb⟩ := hrel
    have HC := hid hc
    have HBK := hid hb
    have HB6 : Hid (Below wa.heap.size wa wr) := HB5.out.trans (hb.mono HB5.out.size)
    have HRK := hid (HR5.out.below hb)
    have hcx : wr.cell? ⟨b1, f1 + i, none⟩ = some (.int .i64 x) := (HB6.out.cell (p := ⟨b1, f1 + i, none⟩) HBL.out).trans HCX.out
    have hbl : b1 < wr.heap.size := Nat.lt_of_lt_of_le HBL.out HB6.out.size
    clear hc hb
    by_cases hkl : k < z
    ·have HKI : Hid (k < S.length) := by rw [Hid, HZ.out]; exact hkl
     obtain ⟨b2, f2, rfl, hbl2, hc2⟩ := HRK.out.at (by rw [intCells_length, HZ.out]; omega)
     have hcy : wr.cell? ⟨b2, f2 + k, none⟩ = some (.int .i64 (S[k]'HKI.out)) := hc2 k _ (intCells_get S k HKI.out)
     have HMY : Hid (S[k]'HKI.out ∈ S) := List.getElem_mem HKI.out
     have HTY : Hid (S[k]'HKI.out ≠ x → (S.take (k + 1)).contains x = false) := fun hne => by
      rw [List.take_succ_eq_append_getElem HKI.out]
      have h1 := HC.out
      rw [← Bool.not_eq_true, List.contains_iff_mem] at h1 ⊢
      rw [List.mem_append, List.mem_singleton]
      rintro (h | h)
      ·exact h1 h
      ·exact hne h.symm
     obtain ⟨y, hy⟩ : ∃ y, S[k]'HKI.out = y := ⟨_, rfl⟩
     rw [hy] at hcy HMY HTY
     clear hy hc2
     by_cases hxy : y = x
     ·have hd : ((y : Int) == x) = true := by rw [beq_iff_eq]; exact hxy
      have HF : Hid (B = true) := by
       rw [Hid, HEB.out, List.any_eq_true]
       exact ⟨x, HMEM.out, by rw [HFS.out, List.contains_iff_mem, ← hxy]; exact HMY.out⟩
      have HBZ : Hid (∀ W, Below wr.heap.size wr W → Below w.heap.size w W) := fun W hW => HB3.out.trans ((HB6.out.trans (hW.mono HB6.out.size)).mono HB3.out.size)
      clear hxy
      go_wp2_with fail
      go_quiet (fail)
      have HB7 := hid (HBZ.out _ (drewN_below wr nq))
      go_wp2_with fail
      try go_ret
      rw [HF.out]; exact ⟨rfl, HB7.out⟩
     ·have hd : ((y : Int) == x) = false := by rw [beq_eq_false_iff_ne]; exact hxy
      have HT2 := hid (HTY.out hxy)
      clear hxy
      go_wp2_with fail
      go_quiet (fail)
      have HB7 : Hid (Below w5.heap.size w5 (wr.drewN nq)) := HBK.out.trans ((drewN_below wr nq).mono HBK.out.size)
      go_wp2_with fail
      go_roundw
      case rel => exact ⟨k + 1, by omega, by go_num, HT2.out, HB7.out⟩
      case measure => simp [intOf]; omega
    ·have HN2 : Hid ((R.take (i + 1)).any f = false) := by
      have h1 := HC.out
      rw [List.take_of_length_le (by rw [HZ.out]; omega)] at h1
      rw [Hid, HTK.out, HFS.out, h1]
     have HB7 : Hid (Below w2.heap.size w2 wr) := HBR.out.trans (HB6.out.mono HBR.out.size)
     go_wp2_with fail
     go_roundw
     case rel => exact ⟨i + 1, by omega, by go_num, HN2.out, HB7.out⟩
     case measure => simp [intOf]; omega
  ·have HF : Hid (B = false) := by
    rw [Hid, HEB.out, ← HA.out, List.take_of_length_le (by rw [HM.out]; omega)]
   go_wp2_with fail
   try go_ret
   rw [HF.out]; exact ⟨rfl, HB3.out⟩
end
def cI (out k : Int) : Int := if k ≤ 0 then 0 else (k + out - 1) / out
theorem cI_pos {out k : Int} (ho : 1 ≤ out) (h : 0 < k) : cI out k = 1 + cI out (k - out) := by
 unfold cI
 rw [if_neg (by omega)]
 split
 ·rename_i h2
  have e : (k + out - 1) / out = 1 := by
   rw [show k + out - 1 = (k - 1) + 1 * out by omega, Int.add_mul_ediv_right _ _ (by omega), Int.ediv_eq_zero_of_lt (by omega) (by omega)]; omega
  omega
 ·rw [show k + out - 1 = (k - out + out - 1) + 1 * out by omega, Int.add_mul_ediv_right _ _ (by omega)]; omega
theorem cI_le {out k : Int} (ho : 1 ≤ out) (h : 0 ≤ k) : 0 ≤ cI out k ∧ cI out k ≤ k := by
 unfold cI
 split
 ·omega
 ·have h0 : 0 ≤ (k + out - 1) / out := Int.ediv_nonneg (by omega) (by omega)
  have h1 : (k + out - 1) / out < k + 1 := by
   refine Int.ediv_lt_of_lt_mul (by omega) ?_
   have h2 : k * out ≥ k * 1 := Int.mul_le_mul_of_nonneg_left ho h
   rw [Int.add_mul]; omega
  omega
theorem opSteps_cI {out : Int} {n : Nat} {o : OpV} (ho : 1 ≤ out) (h : opE n o = 0) : opSteps out o = 1 + cI out o.text.size := by
 unfold opSteps
 split
 ·rename_i hk
  unfold cI
  have ht : o.text.size ≠ 0 := by
   have hb := opE_bare h
   unfold opE at h
   rw [if_neg (by omega), if_neg (by rw [hb.1]; simp), if_pos hk] at h
   split at h
   ·omega
   ·assumption
  rw [if_neg (by omega), Int.tdiv_eq_ediv_of_nonneg (by omega)]
 ·rename_i hk
  rw [opE_text0 h hk]; rfl
theorem good_text {p : ProgV} (hg : Goodp p) : ∀ o ∈ p.ops, o.text.size ≤ 256 := fun o ho => by
 have h := (good_ops hg).2.2 o ho
 by_cases hk : o.kind = 1
 ·have hb := opE_bare h
  unfold opE at h
  rw [if_neg (by omega), if_neg (by rw [hb.1]; simp), if_pos hk] at h
  split at h
  ·omega
  split at h
  ·omega
  ·omega
 ·have := opE_text0 h hk; omega
section
variable {p : ProgV} {A : Option Addr} {c : Nat} {w : World}
set_option maxRecDepth 20000 in
set_option maxHeartbeats 4000000 in
theorem rSteps24_any (s : SetV) (h : RefIn p A w) :
  Calls Tryz.prog 27 #[s.val, p.val (.slice A p.ops.length c)] w fun e w' => e = .returned (.int .i64 (stepsM s p)) ∧ Below w.heap.size w w' := by
 have CG : Hid (∀ W, Below w.heap.size w W → Calls Tryz.prog 72 #[p.val (.slice A p.ops.length c)] W fun e w' => e = .returned (.bool (goodB p)) ∧ Below W.heap.size W w') := fun W hb => (h.below hb).good
 have CS := hid (fun W => good18_any s W)
 have HE : Hid (stepsM s p = if goodS s = true ∧ goodB p = true then sumS s.out p.ops else 0) := rfl
 have HO : Hid (goodS s = true → 1 ≤ s.out ∧ s.out ≤ 4096) := fun h => (goodS_bd h).2.2.1
 have HL : Hid (goodS s = true → goodB p = true → ∀ i, 1 ≤ sumS s.out (p.ops.take i) ∧ sumS s.out (p.ops.take i) ≤ 1 + 257 * i) := fun h1 h2 i => sumS_le (goodS_bd h1).2.2.1.1 (goodB_iff.1 h2) i
 have HSU : Hid (goodS s = true → goodB p = true → ∀ i, (hi : i < p.ops.length) → sumS s.out (p.ops.take (i + 1)) = sumS s.out (p.ops.take i) + (1 + cI s.out (p.ops[i]).text.size)) := fun h1 h2 i hi => by
  rw [sumS_succ s.out p.ops i hi, opSteps_cI (goodS_bd h1).2.2.1.1 ((good_ops (goodB_iff.1 h2)).2.2 _ (List.getElem_mem hi))]
 have HOP : Hid (goodB p = true → p.ops.length ≤ 200) := fun hg => (good_ops (goodB_iff.1 hg)).2.1
 have HIN := hid h.ops
 have HTX : Hid (goodB p = true → ∀ o ∈ p.ops, o.text.size ≤ 256) := fun hg => good_text (goodB_iff.1 hg)
 obtain ⟨R, hR⟩ : ∃ R, stepsM s p = R := ⟨_, rfl⟩
 obtain ⟨g, hg⟩ : ∃ R, goodB p = R := ⟨_, rfl⟩
 obtain ⟨gs, hgs⟩ : ∃ R, goodS s = R := ⟨_, rfl⟩
 rw [hR, hg, hgs] at HE
 rw [hg] at CG HL HOP HSU HTX
 rw [hgs] at CS HO HL HSU
 rw [hR]
 clear hg h hgs hR
 obtain ⟨nm, dl, jp, ops⟩ := p
 obtain ⟨lv, rg, wn, ou, qu, vi⟩ := s
 unfold ProgV.val at CG ⊢
 unfold SetV.val at CS ⊢
 simp only at CG CS HE HO HL HOP HSU HIN HTX ⊢
 obtain ⟨n, hn⟩ : ∃ n, ops.length = n := ⟨_, rfl⟩
 have HN := hid hn
 rw [hn] at CG HOP ⊢
 clear hn
 go_enter Tryz.func27, Tryz.ntmps27
 go_upto_region 1 with fail
 obtain ⟨w0, hw0⟩ : ∃ W, (w.alloc (.cells #[.int .i64 lv, .int .i64 rg, .int .i64 wn, .int .i64 ou, .int .i64 qu, .int .i64 vi] 23)).alloc (.cells #[.string nm, .int .i64 dl, .int .i64 jp, .slice A n c] 26) = W := ⟨_, rfl⟩
 have HB : Hid (Below w.heap.size w w0) := by rw [← hw0]; exact below2 _ _ _
 have HP : Hid (Blk w0 (w.heap.size + 1) 26 #[.string nm, .int .i64 dl, .int .i64 jp, .slice A n c]) := by rw [← hw0]; exact new2 _ _ _ _
 have HS : Hid (Blk w0 w.heap.size 23 #[.int .i64 lv, .int .i64 rg, .int .i64 wn, .int .i64 ou, .int .i64 qu, .int .i64 vi]) := by rw [← hw0]; exact (Blk.new _ _ _).alloc _
 rw [hw0]
 obtain ⟨ga, hga⟩ : ∃ y, w.heap.size = y := ⟨_, rfl⟩
 have HGA := hid hga
 rw [hga] at HP HS ⊢
 obtain ⟨gp, hgp⟩ : ∃ y, ga + 1 = y := ⟨_, rfl⟩
 rw [hgp] at HP ⊢
 clear hw0 hga hgp
 have s0 := HS.out.cell 0; have s1 := HS.out.cell 1; have s2 := HS.out.cell 2; have s3 := HS.out.cell 3; have s4 := HS.out.cell 4; have s5 := HS.out.cell 5
 have sl := HS.out.lt
 go_wp2_with fail
 refine (CS.out _).mono ?_
 rintro en w1 ⟨rfl, hb⟩
 have HB1 : Hid (Below w.heap.size w w1) := HB.out.trans (hb.mono HB.out.size)
 have HP1 := hid (HP.out.below hb HP.out.lt)
 have HS1 := hid (HS.out.below hb HS.out.lt)
 clear hb s0 s1 s2 s3 s4 s5 sl HP HS HB CS
 cases gs
 ·have HF : Hid (R = 0) := HE.out.trans (if_neg (by simp))
  clear HE
  go_wp2_with fail
  try go_ret
  rw [HF.out]; exact ⟨rfl, HB1.out⟩
 have C2 := hid (CG.out w1 HB1.out)
 obtain ⟨q0, q1, q2, q3⟩ := fact4 HP1.out
 have ql := HP1.out.lt
 go_wp2_with fail
 refine C2.out.mono ?_
 rintro en w2 ⟨rfl, hb⟩
 have HB2 : Hid (Below w.heap.size w w2) := HB1.out.trans (hb.mono HB1.out.size)
 have HP2 := hid (HP1.out.below hb HP1.out.lt)
 have HS2 := hid (HS1.out.below hb HS1.out.lt)
 clear hb q0 q1 q2 q3 ql HP1 HS1 HB1 CG C2
 cases g
 ·have HF : Hid (R = 0) := HE.out.trans (if_neg (by simp))
  clear HE
  go_wp2_with fail
  try go_ret
  rw [HF.out]; exact ⟨rfl, HB2.out⟩
 have HF : Hid (R = sumS ou ops) := HE.out.trans (if_pos (by simp))
 have HO1 := hid (HO.out (by trivial))
 have hn2 : n ≤ 200 := HOP.out (by trivial)
 have HSS := hid (HSU.out (by trivial) (by trivial))
 have HLL := hid (HL.out (by trivial) (by trivial))
 clear HE HO HOP HL HSU
 obtain ⟨q0, q1, q2, q3⟩ := fact4 HP2.out
 have ql := HP2.out.lt
 have s3 := HS2.out.cell 3
 have sl := HS2.out.lt
 have HNL : Hid (sumS ou (ops.take 0) + (n : Int) = 1 + n) := by rw [Hid]; rfl
 go_wp2_with fail
 go_loopw [6, 5] (fun iv nv wr => ∃ i : Nat, i ≤ n ∧ iv = .int .i64 (i : Int) ∧ nv = .int .i64 (sumS ou (ops.take i) + (n - i : Int)) ∧ w2 = wr) (fun iv _ _ => n - (intOf iv).toNat)
 case atStart => exact ⟨0, by omega, rfl, by simp [sumS], rfl⟩
 case round =>
  obtain ⟨i, hi, rfl, rfl, rfl⟩ := hrel
  have hsm := HLL.out i
  have HS0 := hid (HSS.out i)
  obtain ⟨N, hNN⟩ : ∃ y, sumS ou (ops.take i) = y := ⟨_, rfl⟩
  have HNN := hid hNN
  rw [hNN] at hsm HS0 ⊢
  clear hNN
  by_cases hlt : i < n
  ·have HK : Hid (i < ops.length) := by rw [Hid, HN.out]; exact hlt
   obtain ⟨b, off, v, rfl, hbl, hv, d0, d1, d2, d3, d4, d5, d6⟩ := (HIN.out.below HB2.out).at i HK.out
   have HSK := hid (HS0.out HK.out)
   have HTT := hid (HTX.out (by trivial) _ (List.getElem_mem HK.out))
   have hdv := HLL.out (i + 1)
   obtain ⟨o, hoo⟩ : ∃ x, ops[i]'HK.out = x := ⟨_, rfl⟩
   rw [hoo] at d1 HSK HTT
   rw [HSK.out] at hdv
   obtain ⟨tx, htx⟩ : ∃ x, o.text = x := ⟨_, rfl⟩
   rw [htx] at d1 HSK HTT hdv
   have hts : tx.size ≤ 256 := HTT.out
   obtain ⟨h1, h2⟩ := HO1.out
   have hc0 := cI_le (out := ou) h1 (show (0 : Int) ≤ (tx.size : Int) by omega)
   have HT : Hid (N + ((n : Int) - i) + cI ou tx.size = sumS ou (ops.take (i + 1)) + ((n : Int) - (i + 1 : Nat))) := by rw [Hid, HSK.out]; omega
   obtain ⟨T, hT⟩ : ∃ T, N + ((n : Int) - i) + cI ou tx.size = T := ⟨_, rfl⟩
   have hTb : 0 ≤ T ∧ T ≤ 100000 := by omega
   rw [hT] at HT
   have HT0 : Hid (N + ((n : Int) - i) = T - cI ou tx.size) := by rw [Hid]; omega
   have hsz : (tx.size : Int) ≤ 100000 := by omega
   clear hoo hv d0 d2 d3 d4 d5 d6 htx hT hc0 hdv
   go_wp2_with fail
   go_loopw [7, 5] (fun kv nv wr => ∃ k : Int, kv = .int .i64 k ∧ -4096 ≤ k ∧ k ≤ 100000 ∧ nv = .int .i64 (T - cI ou k) ∧ w2 = wr) (fun kv _ _ => (intOf kv).toNat)
   case atStart => exact ⟨tx.size, rfl, by omega, hsz, by rw [← HT0.out], rfl⟩
   case round =>
    obtain ⟨k, rfl, hk1, hk2, rfl, rfl⟩ := hrel
    by_cases hk : 0 < k
    ·have hc1 := cI_pos (out := ou) h1 hk
     have hc2 := cI_le (out := ou) h1 (show 0 ≤ k by omega)
     have HC1 := hid hc1
     obtain ⟨C, hC⟩ : ∃ C, cI ou k = C := ⟨_, rfl⟩
     have HCC := hid hC
     rw [hC] at hc2 ⊢
     have hcT : C ≤ 100000 := by omega
     clear hc1 hC
     go_wp2_with fail
     go_roundw
     case rel => exact ⟨k - ou, by go_num, by omega, by omega, by have := HC1.out; have := HCC.out; go_num, trivial⟩
     case measure => simp [intOf]; omega
    ·have HC : Hid (cI ou k = 0) := by rw [Hid, cI, if_pos (by omega)]
     rw [HC.out]
     go_wp2_with fail
     go_roundw
     case rel => exact ⟨i + 1, by omega, by go_num, by rw [← HT.out]; go_num, trivial⟩
     case measure => simp [intOf]; omega
  ·have hin : i = n := by omega
   subst hin
   have HF2 : Hid (R = N) := by rw [Hid, HF.out, ← HNN.out, List.take_of_length_le (by rw [HN.out]; exact Nat.le_refl _)]
   go_wp2_with fail
   try go_ret
   rw [HF2.out]
   refine ⟨?_, HB2.out⟩
   show Ending.returned (.int .i64 (N + ((i : Int) - i))) = _
   rw [Int.sub_self, Int.add_zero]
end
end Go.Proofs.YtpkkfdmhbbipoaaGreat
