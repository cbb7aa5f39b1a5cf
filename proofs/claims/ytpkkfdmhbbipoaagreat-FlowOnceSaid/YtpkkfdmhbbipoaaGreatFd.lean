/- Walks: package flow: steps, Steps, Most. Walks: package flow: Steps, Most. -/
import Derived.Test.YtpkkfdmhbbipoaaGreatFc
import Derived.Test.YtpkkfdmhbbipoaaGreatDb
namespace Go.Proofs.YtpkkfdmhbbipoaaGreat
open Go.RowKit PopT
def opSteps (out : Int) (o : OpV) : Int := 1 + if o.kind = 1 then ((o.text.size : Int) + out - 1).tdiv out else 0
def sumS (out : Int) (l : List OpV) : Int := l.foldl (fun n o => n + opSteps out o) 1
def stepsM (s : SetV) (p : ProgV) : Int := if goodS s = true ∧ goodB p = true then sumS s.out p.ops else 0
theorem sumS_succ (out : Int) (l : List OpV) (i : Nat) (h : i < l.length) : sumS out (l.take (i + 1)) = sumS out (l.take i) + opSteps out l[i] := by
 unfold sumS
 rw [List.take_succ_eq_append_getElem h, List.foldl_append]; rfl
theorem opSteps_le {out : Int} {n : Nat} {o : OpV} (ho : 1 ≤ out) (h : opE n o = 0) : 1 ≤ opSteps out o ∧ opSteps out o ≤ 257 := by
 unfold opSteps
 split
 ·rename_i hk
  have hb := opE_bare h
  unfold opE at h
  rw [if_neg (by omega), if_neg (by rw [hb.1]; simp), if_pos hk] at h
  have ht : o.text.size ≤ 256 := by
   split at h
   ·omega
   split at h
   ·omega
   ·omega
  have e : ((o.text.size : Int) + out - 1).tdiv out = ((o.text.size : Int) + out - 1) / out := Int.tdiv_eq_ediv_of_nonneg (by omega)
  rw [e]
  have h0 : 0 ≤ ((o.text.size : Int) + out - 1) / out := Int.ediv_nonneg (by omega) (by omega)
  have h1 : ((o.text.size : Int) + out - 1) / out ≤ o.text.size := by
   refine Int.le_of_lt_add_one ?_
   refine Int.ediv_lt_of_lt_mul (by omega) ?_
   have h2 : (o.text.size : Int) * out ≥ (o.text.size : Int) * 1 := Int.mul_le_mul_of_nonneg_left ho (by omega)
   rw [Int.add_mul]; omega
  omega
 ·omega
theorem sumS_le {out : Int} {p : ProgV} (ho : 1 ≤ out) (h : Goodp p) (i : Nat) : 1 ≤ sumS out (p.ops.take i) ∧ sumS out (p.ops.take i) ≤ 1 + 257 * i := by
 induction i with
 | zero => simp [sumS]
 | succ i ih =>
  by_cases hi : i < p.ops.length
  ·rw [sumS_succ out p.ops i hi]
   have := opSteps_le ho ((good_ops h).2.2 _ (List.getElem_mem hi))
   omega
  ·rw [List.take_of_length_le (by omega)] at ih ⊢
   omega
set_option maxRecDepth 20000 in
set_option maxHeartbeats 4000000 in
theorem fsteps_any {p : ProgV} {A : Option Addr} {c : Nat} {w : World} (s : SetV) (h : ScriptIn p A w) :
  Calls Tryz.prog 73 #[s.val, p.val (.slice A p.ops.length c)] w fun e w' => e = .returned (.int .i64 (stepsM s p)) ∧ Below w.heap.size w w' := by
 have CG : Hid (∀ W, Below w.heap.size w W → Calls Tryz.prog 74 #[p.val (.slice A p.ops.length c)] W fun e w' => e = .returned (.bool (goodB p)) ∧ Below W.heap.size W w') := fun W hb => (h.below hb).good
 have CS := hid (fun W => costGood_any s W)
 have HE : Hid (stepsM s p = if goodS s = true ∧ goodB p = true then sumS s.out p.ops else 0) := rfl
 have HO : Hid (goodS s = true → 1 ≤ s.out ∧ s.out ≤ 4096) := fun h => (goodS_bd h).2.2.1
 have HL : Hid (goodS s = true → goodB p = true → ∀ i, 1 ≤ sumS s.out (p.ops.take i) ∧ sumS s.out (p.ops.take i) ≤ 1 + 257 * i) := fun h1 h2 i => sumS_le (goodS_bd h1).2.2.1.1 (goodB_iff.1 h2) i
 have HOP : Hid (goodB p = true → p.ops.length ≤ 200 ∧ ∀ o ∈ p.ops, o.text.size ≤ 256) := fun hg => ⟨(good_ops (goodB_iff.1 hg)).2.1, fun o ho => by
  have h := (good_ops (goodB_iff.1 hg)).2.2 o ho
  by_cases hk : o.kind = 1
  ·have hb := opE_bare h
   unfold opE at h
   rw [if_neg (by omega), if_neg (by rw [hb.1]; simp), if_pos hk] at h
   split at h
   ·omega
   split at h
   ·omega
   ·omega
  ·have := opE_text0 h hk; omega⟩
 have HIN := hid h.ops
 obtain ⟨R, hR⟩ : ∃ R, stepsM s p = R := ⟨_, rfl⟩
 obtain ⟨g, hg⟩ : ∃ R, goodB p = R := ⟨_, rfl⟩
 obtain ⟨gs, hgs⟩ : ∃ R, goodS s = R := ⟨_, rfl⟩
 rw [hR, hg, hgs] at HE
 rw [hg] at CG HL HOP
 rw [hgs] at CS HO HL
 rw [hR]
 clear hg h hgs hR
 obtain ⟨nm, dl, jp, ops⟩ := p
 obtain ⟨lv, rg, wn, ou, qu, vi⟩ := s
 unfold ProgV.val at CG ⊢
 unfold SetV.val at CS ⊢
 simp only at CG CS HE HO HL HOP HIN ⊢
 obtain ⟨n, hn⟩ : ∃ n, ops.length = n := ⟨_, rfl⟩
 have HN := hid hn
 rw [hn] at CG HOP ⊢
 clear hn
 go_enter Tryz.func73, Tryz.ntmps73
 go_upto_region 1 with fail
 obtain ⟨w0, hw0⟩ : ∃ W, (w.alloc (.cells #[.int .i64 lv, .int .i64 rg, .int .i64 wn, .int .i64 ou, .int .i64 qu, .int .i64 vi] 23)).alloc (.cells #[.string nm, .int .i64 dl, .int .i64 jp, .slice A n c] 26) = W := ⟨_, rfl⟩
 have HB : Hid (Below w.heap.size w w0) := by rw [← hw0]; exact below2 _ _ _
 have HP : Hid (Blk w0 (w.heap.size + 1) 26 #[.string nm, .int .i64 dl, .int .i64 jp, .slice A n c]) := by rw [← hw0]; exact new2 _ _ _ _
 have HS : Hid (Blk w0 w.heap.size 23 #[.int .i64 lv, .int .i64 rg, .int .i64 wn, .int .i64 ou, .int .i64 qu, .int .i64 vi]) := by rw [← hw0]; exact (Blk.new _ _ _).alloc _
 rw [hw0]
 obtain ⟨ga, hga⟩ : ∃ y, w.heap.size = y := ⟨_, rfl⟩
 have HGA := hid hga
 rw [hga] at HP HS ⊢
 obtain ⟨gp, hgp⟩ : ∃ y, ga + 1 = y := ⟨_, rfl⟩
 rw [hgp] at HP ⊢
 clear hw0 hga hgp
 have s0 := HS.out.cell 0; have s1 := HS.out.cell 1; have s2 := HS.out.cell 2; have s3 := HS.out.cell 3; have s4 := HS.out.cell 4; have s5 := HS.out.cell 5
 have sl := HS.out.lt
 go_wp2_with fail
 refine (CS.out _).mono ?_
 rintro en w1 ⟨rfl, hb⟩
 have HB1 : Hid (Below w.heap.size w w1) := HB.out.trans (hb.mono HB.out.size)
 have HP1 := hid (HP.out.below hb HP.out.lt)
 have HS1 := hid (HS.out.below hb HS.out.lt)
 clear hb s0 s1 s2 s3 s4 s5 sl HP HS HB CS
 cases gs
 ·have HF : Hid (R = 0) := HE.out.trans (if_neg (by simp))
  clear HE
  go_wp2_with fail
  try go_ret
  rw [HF.out]; exact ⟨rfl, HB1.out⟩
 have C2 := hid (CG.out w1 HB1.out)
 obtain ⟨q0, q1, q2, q3⟩ := fact4 HP1.out
 have ql := HP1.out.lt
 go_wp2_with fail
 refine C2.out.mono ?_
 rintro en w2 ⟨rfl, hb⟩
 have HB2 : Hid (Below w.heap.size w w2) := HB1.out.trans (hb.mono HB1.out.size)
 have HP2 := hid (HP1.out.below hb HP1.out.lt)
 have HS2 := hid (HS1.out.below hb HS1.out.lt)
 clear hb q0 q1 q2 q3 ql HP1 HS1 HB1 CG C2
 cases g
 ·have HF : Hid (R = 0) := HE.out.trans (if_neg (by simp))
  clear HE
  go_wp2_with fail
  try go_ret
  rw [HF.out]; exact ⟨rfl, HB2.out⟩
 have HF : Hid (R = sumS ou ops) := HE.out.trans (if_pos (by simp))
 have ho := HO.out (by trivial)
 have HO1 := hid ho
 obtain ⟨hn2, ht2⟩ := HOP.out (by trivial)
 have HT2 := hid ht2
 have HLL := hid (HL.out (by trivial) (by trivial))
 clear HE HO HOP HL ho ht2
 obtain ⟨q0, q1, q2, q3⟩ := fact4 HP2.out
 have ql := HP2.out.lt
 go_wp2_with fail
 clear q0 q1 q2 q3 ql
 go_loopw [19, 5] (fun iv nv wr => ∃ i : Nat, i ≤ n ∧ iv = .int .i64 (i : Int) ∧ nv = .int .i64 (sumS ou (ops.take i)) ∧ Below w2.heap.size w2 wr) (fun iv _ _ => n - (intOf iv).toNat)
 case atStart => exact ⟨0, by omega, rfl, rfl, Below.refl _ _⟩
 case round =>
  obtain ⟨i, hi, rfl, rfl, hb⟩ := hrel
  have HBR := hid hb
  have HB3 : Hid (Below w.heap.size w wr) := HB2.out.trans (hb.mono HB2.out.size)
  have hsm := HLL.out i
  obtain ⟨N, hNN⟩ : ∃ y, sumS ou (ops.take i) = y := ⟨_, rfl⟩
  have HNN := hid hNN
  rw [hNN] at hsm ⊢
  clear hb hNN
  by_cases hlt : i < n
  ·have HK : Hid (i < ops.length) := by rw [Hid, HN.out]; exact hlt
   obtain ⟨b, off, v, rfl, hbl, hv, d0, d1, d2, d3, d4, d5, d6⟩ := (HIN.out.below HB3.out).at i HK.out
   have HSS := hid (sumS_succ ou ops i HK.out)
   have HTX := hid (HT2.out _ (List.getElem_mem HK.out))
   rw [HNN.out] at HSS
   obtain ⟨o, hoo⟩ : ∃ x, ops[i]'HK.out = x := ⟨_, rfl⟩
   rw [hoo] at d0 d1 d2 d3 d5 d6 HSS HTX hv
   obtain ⟨ok, ot, on, ott, oar, oT, oE⟩ := o
   obtain ⟨A1, c1, rfl, -⟩ := hv
   obtain ⟨m, hm⟩ : ∃ y, oar.length = y := ⟨_, rfl⟩
   simp only at d0 d1 d2 d3 d4 d5 d6 HTX
   rw [hm] at d4
   have htx : ot.size ≤ 256 := HTX.out
   obtain ⟨h1, h2⟩ := HO1.out
   clear hoo hm
   go_upto_region 7 with fail
   obtain ⟨wx, hwx⟩ : ∃ W, wr.alloc (.cells #[.int .i64 ok, .string ot, .int .i64 on, .int .i64 ott, .slice A1 m c1, .int .i64 oT, .int .i64 oE] 56) = W := ⟨_, rfl⟩
   have HOX : Hid (Blk wx wr.heap.size 56 #[.int .i64 ok, .string ot, .int .i64 on, .int .i64 ott, .slice A1 m c1, .int .i64 oT, .int .i64 oE]) := by rw [← hwx]; exact Blk.new _ _ _
   have HBX : Hid (Below w2.heap.size w2 wx) := by rw [← hwx]; exact HBR.out.alloc HBR.out.size _
   rw [hwx]
   have HSX := hid (HS2.out.below HBX.out HS2.out.lt)
   clear hwx d0 d1 d2 d3 d4 d5 d6 hbl
   have s3 := HSX.out.cell 3
   have sl := HSX.out.lt
   have o0 := HOX.out.cell 0
   have o1 := HOX.out.cell 1
   have ol := HOX.out.lt
   by_cases hk : ok = 1
   ·subst hk
    have HE : Hid (sumS ou (ops.take (i + 1)) = N + 1 + ((ot.size : Int) + ou - 1).tdiv ou) := by rw [Hid, HSS.out]; show N + (1 + if (1 : Int) = 1 then ((ot.size : Int) + ou - 1).tdiv ou else 0) = _; rw [if_pos rfl]; omega
    have hdv := HLL.out (i + 1)
    rw [HE.out] at hdv
    obtain ⟨q, hq⟩ : ∃ y, ((ot.size : Int) + ou - 1).tdiv ou = y := ⟨_, rfl⟩
    have HQ := hid hq
    rw [hq] at HE hdv
    have HQD : Hid (((ot.size : Int) + ou - 1) / ou = q) := by rw [Hid, ← hq]; exact (Int.tdiv_eq_ediv_of_nonneg (by omega)).symm
    have hou : (ou == 0) = false := by rw [beq_eq_false_iff_ne]; omega
    clear hq
    go_wp2_with fail
    go_roundw
    case rel => exact ⟨i + 1, by omega, by go_num, by rw [HE.out, HQD.out, IntWalk.wrap64_in _ (by omega)], HBX.out⟩
    case measure => simp [intOf]; omega
   ·have HE : Hid (sumS ou (ops.take (i + 1)) = N + 1) := by rw [Hid, HSS.out]; show N + (1 + if ok = 1 then ((ot.size : Int) + ou - 1).tdiv ou else 0) = _; rw [if_neg hk]; omega
    have e1 : ((ok : Int) == 1) = false := by rw [beq_eq_false_iff_ne]; exact hk
    clear hk
    go_wp2_with fail
    go_roundw
    case rel => exact ⟨i + 1, by omega, by go_num, by rw [HE.out], HBX.out⟩
    case measure => simp [intOf]; omega
  ·have hin : i = n := by omega
   subst hin
   have HF2 : Hid (R = N) := by rw [Hid, HF.out, ← HNN.out, List.take_of_length_le (by rw [HN.out]; exact Nat.le_refl _)]
   go_wp2_with fail
   try go_ret
   rw [HF2.out]; exact ⟨rfl, HB3.out⟩
def mostM (s : SetV) (p : ProgV) : Int := if stepsM s p = 0 then 0 else 2 * stepsM s p * (p.jumps + 1)
theorem steps_bd (s : SetV) (p : ProgV) : 0 ≤ stepsM s p ∧ stepsM s p ≤ 60000 ∧ (stepsM s p ≠ 0 → 0 ≤ p.jumps ∧ p.jumps ≤ 1000) := by
 unfold stepsM
 split
 ·rename_i h
  have hg := goodB_iff.1 h.2
  have h1 := sumS_le (goodS_bd h.1).2.2.1.1 hg p.ops.length
  have h2 := good_ops hg
  rw [List.take_length] at h1
  exact ⟨by omega, by omega, fun _ => h2.1⟩
 ·exact ⟨by omega, by omega, fun h => absurd rfl h⟩
section
variable {p : ProgV} {A : Option Addr} {c : Nat} {w : World}
set_option maxRecDepth 20000 in
set_option maxHeartbeats 4000000 in
theorem fSteps_any (s : SetV) (h : ScriptIn p A w) :
  Calls Tryz.prog 28 #[s.val, p.val (.slice A p.ops.length c)] w fun e w' => e = .returned (.int .i64 (stepsM s p)) ∧ Below w.heap.size w w' := by
 have C : Hid (∀ W, Below w.heap.size w W → Calls Tryz.prog 73 #[s.val, p.val (.slice A p.ops.length c)] W fun e w' => e = .returned (.int .i64 (stepsM s p)) ∧ Below W.heap.size W w') := fun W hb => fsteps_any s (h.below hb)
 obtain ⟨R, hR⟩ : ∃ R, stepsM s p = R := ⟨_, rfl⟩
 rw [hR] at C ⊢
 clear hR h
 obtain ⟨nm, dl, jp, ops⟩ := p
 obtain ⟨lv, rg, wn, ou, qu, vi⟩ := s
 unfold ProgV.val SetV.val at C ⊢
 simp only at C ⊢
 obtain ⟨n, hn⟩ : ∃ n, ops.length = n := ⟨_, rfl⟩
 rw [hn] at C ⊢
 clear hn
 go_enter Tryz.func28, Tryz.ntmps28
 go_upto_region 1 with fail
 have CQ := hid (C.out _ (below2 w (.cells #[.int .i64 lv, .int .i64 rg, .int .i64 wn, .int .i64 ou, .int .i64 qu, .int .i64 vi] 23) (.cells #[.string nm, .int .i64 dl, .int .i64 jp, .slice A n c] 26)))
 go_wp2_with fail
 refine CQ.out.mono ?_
 rintro en w1 ⟨rfl, hb⟩
 have HB : Hid (Below w.heap.size w w1) := (below2 w _ _).trans (hb.mono (below2 w _ _).size)
 go_wp2_with fail
 try go_ret
 exact ⟨rfl, HB.out⟩
set_option maxRecDepth 20000 in
set_option maxHeartbeats 4000000 in
theorem fMost_any (s : SetV) (h : ScriptIn p A w) :
  Calls Tryz.prog 29 #[s.val, p.val (.slice A p.ops.length c)] w fun e w' => e = .returned (.int .i64 (mostM s p)) ∧ Below w.heap.size w w' := by
 have C : Hid (∀ W, Below w.heap.size w W → Calls Tryz.prog 73 #[s.val, p.val (.slice A p.ops.length c)] W fun e w' => e = .returned (.int .i64 (stepsM s p)) ∧ Below W.heap.size W w') := fun W hb => fsteps_any s (h.below hb)
 have HBD := hid (steps_bd s p)
 have HE : Hid (mostM s p = if stepsM s p = 0 then 0 else 2 * stepsM s p * (p.jumps + 1)) := rfl
 obtain ⟨M, hM⟩ : ∃ R, mostM s p = R := ⟨_, rfl⟩
 obtain ⟨R, hR⟩ : ∃ R, stepsM s p = R := ⟨_, rfl⟩
 rw [hM, hR] at HE
 rw [hR] at C HBD
 rw [hM]
 clear hR h hM
 obtain ⟨nm, dl, jp, ops⟩ := p
 obtain ⟨lv, rg, wn, ou, qu, vi⟩ := s
 unfold ProgV.val SetV.val at C ⊢
 simp only at C HBD HE ⊢
 obtain ⟨n, hn⟩ : ∃ n, ops.length = n := ⟨_, rfl⟩
 rw [hn] at C ⊢
 clear hn
 go_enter Tryz.func29, Tryz.ntmps29
 go_upto_region 1 with fail
 have CQ := hid (C.out _ (below2 w (.cells #[.int .i64 lv, .int .i64 rg, .int .i64 wn, .int .i64 ou, .int .i64 qu, .int .i64 vi] 23) (.cells #[.string nm, .int .i64 dl, .int .i64 jp, .slice A n c] 26)))
 have HP : Hid (Blk ((w.alloc (.cells #[.int .i64 lv, .int .i64 rg, .int .i64 wn, .int .i64 ou, .int .i64 qu, .int .i64 vi] 23)).alloc (.cells #[.string nm, .int .i64 dl, .int .i64 jp, .slice A n c] 26)) (w.heap.size + 1) 26 #[.string nm, .int .i64 dl, .int .i64 jp, .slice A n c]) := new2 _ _ _ _
 go_wp2_with fail
 refine CQ.out.mono ?_
 rintro en w1 ⟨rfl, hb⟩
 have HB : Hid (Below w.heap.size w w1) := (below2 w _ _).trans (hb.mono (below2 w _ _).size)
 have HP1 := hid (HP.out.below hb HP.out.lt)
 clear hb HP CQ C
 by_cases h0 : R = 0
 ·subst h0
  have HF : Hid (M = 0) := HE.out.trans (if_pos rfl)
  go_wp2_with fail
  try go_ret
  rw [HF.out]; exact ⟨rfl, HB.out⟩
 ·have HF : Hid (M = 2 * R * (jp + 1)) := HE.out.trans (if_neg h0)
  obtain ⟨h1, h2, h3⟩ := HBD.out
  have h4 := h3 h0
  have e0 : (R == 0) = false := by rw [beq_eq_false_iff_ne]; exact h0
  have e1 : 2 * R * (jp + 1) ≤ 2 * 60000 * 1001 := Int.mul_le_mul (by omega) (by omega) (by omega) (by omega)
  have e2 : 0 ≤ 2 * R * (jp + 1) := Int.mul_nonneg (by omega) (by omega)
  obtain ⟨N, hN⟩ : ∃ y, 2 * R * (jp + 1) = y := ⟨_, rfl⟩
  have q2 := HP1.out.cell 2
  have ql := HP1.out.lt
  go_wp2_with fail
  try go_ret
  rw [HF.out, hN]
  exact ⟨rfl, HB.out⟩
end
end Go.Proofs.YtpkkfdmhbbipoaaGreat
