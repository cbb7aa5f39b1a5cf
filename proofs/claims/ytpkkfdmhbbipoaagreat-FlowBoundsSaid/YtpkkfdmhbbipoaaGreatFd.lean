/- Zp: package flow: steps, Steps, Most. Zp: package flow: Steps, Most. -/
import Derived.Test.YtpkkfdmhbbipoaaGreatFc
import Derived.Test.YtpkkfdmhbbipoaaGreatDb
namespace Go.Proofs.YtpkkfdmhbbipoaaGreat
set_option maxRecDepth 20000
set_option maxHeartbeats 4000000
open Go.RowKit PopT
def Jo (out : Int) (o : OpV) : Int := 1 + if o.kind = 1 then ((o.text.size : Int) + out - 1).tdiv out else 0
def Qo (out : Int) (l : List OpV) : Int := l.foldl (fun n o => n + Jo out o) 1
def Wo (s : Vk) (p : Zv) : Int := if Ww s = true ∧ Wl p = true then Qo s.out p.ops else 0
theorem Mv (out : Int) (l : List OpV) (i : Nat) (h : i < l.length) : Qo out (l.take (i + 1)) = Qo out (l.take i) + Jo out l[i] := by
 unfold Qo;rw [List.take_succ_eq_append_getElem h, List.foldl_append]; rfl
theorem Za3 {out : Int} {n : Nat} {o : OpV} (ho : 1 ≤ out) (h : opE n o = 0) : 1 ≤ Jo out o ∧ Jo out o ≤ 257 := by
 unfold Jo;split
 ·rename_i hk
  have hb := Kf h;unfold opE at h;rw [if_neg aa, if_neg ft, if_pos hk] at h
  have ht : o.text.size ≤ 256 := by
   split at h
   ·omega
   split at h
   ·omega
   ·omega
  have e : ((o.text.size : Int) + out - 1).tdiv out = ((o.text.size : Int) + out - 1) / out := Int.tdiv_eq_ediv_of_nonneg aa;rw [e];have h0 : 0 ≤ ((o.text.size : Int) + out - 1) / out := Int.ediv_nonneg aa aa
  have h1 : ((o.text.size : Int) + out - 1) / out ≤ o.text.size := by
   refine Int.le_of_lt_add_one ?_;refine Int.ediv_lt_of_lt_mul aa ?_;have h2 : (o.text.size : Int) * out ≥ (o.text.size : Int) * 1 := Int.mul_le_mul_of_nonneg_left ho aa;rw [Int.add_mul]; omega
  omega
 ·omega
theorem Zdi {out : Int} {p : Zv} (ho : 1 ≤ out) (h : Kc p) (i : Nat) : 1 ≤ Qo out (p.ops.take i) ∧ Qo out (p.ops.take i) ≤ 1 + 257 * i := by
 induction i with
 | zero => simp [Qo]
 | succ i ih =>
  by_cases hi : i < p.ops.length
  ·rw [Mv out p.ops i hi]
   have := Za3 ho ((Wc h).2.2 _ (List.getElem_mem hi));omega
  ·rw [List.take_of_length_le aa] at ih ⊢
   omega
theorem Zei {p : Zv} {A : Option Addr} {c : Nat} {w : World} (s : Vk) (h : Vg p A w) :
  Calls Tryz.prog 73 #[s.val, p.val (.slice A p.ops.length c)] w fun e w' => e = .returned (.int .i64 (Wo s p)) ∧ Below w.heap.size w w' := by
 have CG : Hid (∀ W, Below w.heap.size w W → Calls Tryz.prog 74 #[p.val (.slice A p.ops.length c)] W fun e w' => e = .returned (.bool (Wl p)) ∧ Below W.heap.size W w') := fun W hb => (h.below hb).good;have CS := hid (fun W => Zb0 s W);have HE : Hid (Wo s p = if Ww s = true ∧ Wl p = true then Qo s.out p.ops else 0) := rfl;have HO : Hid (Ww s = true → 1 ≤ s.out ∧ s.out ≤ 4096) := fun h => (Vs h).2.2.1;have HL : Hid (Ww s = true → Wl p = true → ∀ i, 1 ≤ Qo s.out (p.ops.take i) ∧ Qo s.out (p.ops.take i) ≤ 1 + 257 * i) := fun h1 h2 i => Zdi (Vs h1).2.2.1.1 (Yr.1 h2) i
 have HOP : Hid (Wl p = true → p.ops.length ≤ 200 ∧ ∀ o ∈ p.ops, o.text.size ≤ 256) := fun hg => ⟨(Wc (Yr.1 hg)).2.1, fun o ho => by
  have h := (Wc (Yr.1 hg)).2.2 o ho;by_cases hk : o.kind = 1
  ·have hb := Kf h
   unfold opE at h;rw [if_neg aa, if_neg ft, if_pos hk] at h;split at h
   ·omega
   split at h
   ·omega
   ·omega
  ·have := Zfo h hk; omega⟩
 have HIN := hid h.ops;obtain ⟨R, hR⟩ := nE (Wo s p);obtain ⟨g, hg⟩ := nE (Wl p);obtain ⟨gs, hgs⟩ := nE (Ww s);rw [hR, hg, hgs] at HE;rw [hg] at CG HL HOP;rw [hgs] at CS HO HL;rw [hR];clear hg h hgs hR;obtain ⟨nm, dl, jp, ops⟩ := p;obtain ⟨lv, rg, wn, ou, qu, vi⟩ := s;unfold Zv.val at CG ⊢;unfold Vk.val at CS ⊢;simp only at CG CS HE HO HL HOP HIN ⊢;obtain ⟨n, hn⟩ := nE (ops.length);have HN := hid hn;rw [hn] at CG HOP ⊢;clear hn;go_enter Tryz.func73, Tryz.ntmps73;go_upto_region 1 with fail;obtain ⟨w0, hw0⟩ := nE ((w.alloc (.cells #[lv, rg, wn, ou, qu, vi] 23)).alloc (.cells #[nm, dl, jp, .slice A n c] 26));have HB : Hid (Below w.heap.size w w0) := hw0 ▸ Va _ _ _;have HP : Hid (Blk w0 (w.heap.size + 1) 26 #[nm, dl, jp, .slice A n c]) := hw0 ▸ Nk _ _ _ _;have HS : Hid (Blk w0 w.heap.size 23 #[lv, rg, wn, ou, qu, vi]) := hw0 ▸ (Blk.new _ _ _).alloc _;rw [hw0];obtain ⟨ga, hga⟩ := nE (w.heap.size);have HGA := hid hga;rw [hga] at HP HS ⊢;obtain ⟨gp, hgp⟩ := nE (ga + 1);rw [hgp] at HP ⊢;clear hw0 hga hgp;have s0 := HS.cell 0; have s1 := HS.cell 1; have s2 := HS.cell 2; have s3 := HS.cell 3; have s4 := HS.cell 4; have s5 := HS.cell 5;have sl := HS.lt;go_wp2_with fail;refine (CS.out _).mono ?_;rintro en w1 ⟨rfl, hb⟩;have HB1 := bt HB hb;have HP1 := bb HP hb;have HS1 := bb HS hb;clear hb s0 s1 s2 s3 s4 s5 sl HP HS HB CS;cases gs
 ·have HF : Hid (R = 0) := HE.trans (if_neg ae)
  clear HE;go_wp2_with fail
  try go_ret
  rw [HF.out]; exact ⟨rfl, HB1.out⟩
 have C2 := hid (CG.out w1 HB1.out);obtain ⟨q0, q1, q2, q3⟩ := Xw HP1.out;have ql := HP1.lt;go_wp2_with fail;refine C2.mono ?_;rintro en w2 ⟨rfl, hb⟩;have HB2 := bt HB1 hb;have HP2 := bb HP1 hb;have HS2 := bb HS1 hb;clear hb q0 q1 q2 q3 ql HP1 HS1 HB1 CG C2;cases g
 ·have HF : Hid (R = 0) := HE.trans (if_neg ae)
  clear HE;go_wp2_with fail
  try go_ret
  rw [HF.out]; exact ⟨rfl, HB2.out⟩
 have HF : Hid (R = Qo ou ops) := HE.trans (if_pos ae);have ho := HO.out bq;have HO1 := hid ho;obtain ⟨hn2, ht2⟩ := HOP.out bq;have HT2 := hid ht2;have HLL := hid (HL.out bq bq);clear HE HO HOP HL ho ht2;obtain ⟨q0, q1, q2, q3⟩ := Xw HP2.out;have ql := HP2.lt;go_wp2_with fail;clear q0 q1 q2 q3 ql
 go_loopw [19, 5] (fun iv nv wr => ∃ i : Nat, i ≤ n ∧ iv = .int .i64 (i : Int) ∧ nv = .int .i64 (Qo ou (ops.take i)) ∧ Below w2.heap.size w2 wr) (fun iv _ _ => n - (intOf iv).toNat)
 case atStart => exact ⟨0, aa, rfl, rfl, Below.refl _ _⟩
 case round =>
  obtain ⟨i, hi, rfl, rfl, hb⟩ := hrel;have HBR := hid hb;have HB3 := bt HB2 hb;have hsm := HLL.out i;obtain ⟨N, hNN⟩ := nE (Qo ou (ops.take i));have HNN := hid hNN;rw [hNN] at hsm ⊢;clear hb hNN;by_cases hlt : i < n
  ·have HK : Hid (i < ops.length) := by rw [Hid, HN.out]; exact hlt
   obtain ⟨b, off, v, rfl, hbl, hv, d0, d1, d2, d3, d4, d5, d6⟩ := (HIN.below HB3.out).at i HK.out;have HSS := hid (Mv ou ops i HK.out);have HTX := hid (HT2.out _ (List.getElem_mem HK.out));rw [HNN.out] at HSS;obtain ⟨o, hoo⟩ := nE (ops[i]'HK.out);rw [hoo] at d0 d1 d2 d3 d5 d6 HSS HTX hv;obtain ⟨ok, ot, on, ott, oar, oT, oE⟩ := o;obtain ⟨A1, c1, rfl, -⟩ := hv;obtain ⟨m, hm⟩ := nE (oar.length);simp only at d0 d1 d2 d3 d4 d5 d6 HTX;rw [hm] at d4;have htx : ot.size ≤ 256 := HTX.out;obtain ⟨h1, h2⟩ := HO1.out;clear hoo hm;go_upto_region 7 with fail;obtain ⟨wx, hwx⟩ := nE (wr.alloc (.cells #[ok, ot, on, ott, .slice A1 m c1, oT, oE] 56));have HOX := bn hwx;have HBX : Hid (Below w2.heap.size w2 wx) := hwx ▸ HBR.alloc HBR.size _;rw [hwx];have HSX := bb HS2 HBX;clear hwx d0 d1 d2 d3 d4 d5 d6 hbl;have s3 := HSX.cell 3;have sl := HSX.lt;have o0 := HOX.cell 0;have o1 := HOX.cell 1;have ol := HOX.lt;by_cases hk : ok = 1
   ·subst hk
    have HE : Hid (Qo ou (ops.take (i + 1)) = N + 1 + ((ot.size : Int) + ou - 1).tdiv ou) := by rw [Hid, HSS.out]; show N + (1 + if (1 : Int) = 1 then ((ot.size : Int) + ou - 1).tdiv ou else 0) = _; rw [if_pos rfl]; omega
    have hdv := HLL.out (i + 1);rw [HE.out] at hdv;obtain ⟨q, hq⟩ := nE (((ot.size : Int) + ou - 1).tdiv ou);have HQ := hid hq;rw [hq] at HE hdv;have HQD : Hid (((ot.size : Int) + ou - 1) / ou = q) := by rw [Hid, ← hq]; exact (Int.tdiv_eq_ediv_of_nonneg aa).symm
    have hou : (ou == 0) = false := bF aa;clear hq;go_wp2_with fail;go_roundw
    case rel => exact ⟨i + 1, aa, al, by rw [HE.out, HQD.out, IntWalk.wrap64_in _ aa], HBX.out⟩
    case measure => simp [intOf]; omega
   ·have HE : Hid (Qo ou (ops.take (i + 1)) = N + 1) := by rw [Hid, HSS.out]; show N + (1 + if ok = 1 then ((ot.size : Int) + ou - 1).tdiv ou else 0) = _; rw [if_neg hk]; omega
    have e1 : ((ok : Int) == 1) = false := by rw [beq_eq_false_iff_ne]; exact hk
    clear hk;go_wp2_with fail;go_roundw
    case rel => exact ⟨i + 1, aa, al, bm, HBX.out⟩
    case measure => simp [intOf]; omega
  ·have hin : i = n := by omega
   subst hin;have HF2 : Hid (R = N) := by rw [Hid, HF.out, ← HNN.out, List.take_of_length_le (by rw [HN.out]; exact Nat.le_refl _)]
   go_wp2_with fail
   try go_ret
   rw [HF2.out]; exact ⟨rfl, HB3.out⟩
def Kp (s : Vk) (p : Zv) : Int := if Wo s p = 0 then 0 else 2 * Wo s p * (p.jumps + 1)
theorem Zhi (s : Vk) (p : Zv) : 0 ≤ Wo s p ∧ Wo s p ≤ 60000 ∧ (Wo s p ≠ 0 → 0 ≤ p.jumps ∧ p.jumps ≤ 1000) := by
 unfold Wo;split
 ·rename_i h
  have hg := Yr.1 h.2;have h1 := Zdi (Vs h.1).2.2.1.1 hg p.ops.length;have h2 := Wc hg;rw [List.take_length] at h1;exact ⟨aa, aa, fun _ => h2.1⟩
 ·exact ⟨aa, aa, fun h => absurd rfl h⟩
section
variable {p : Zv} {A : Option Addr} {c : Nat} {w : World}
theorem Zkw (s : Vk) (h : Vg p A w) :
  Calls Tryz.prog 28 #[s.val, p.val (.slice A p.ops.length c)] w fun e w' => e = .returned (.int .i64 (Wo s p)) ∧ Below w.heap.size w w' := by
 have C : Hid (∀ W, Below w.heap.size w W → Calls Tryz.prog 73 #[s.val, p.val (.slice A p.ops.length c)] W fun e w' => e = .returned (.int .i64 (Wo s p)) ∧ Below W.heap.size W w') := fun W hb => Zei s (h.below hb);obtain ⟨R, hR⟩ := nE (Wo s p);rw [hR] at C ⊢;clear hR h;obtain ⟨nm, dl, jp, ops⟩ := p;obtain ⟨lv, rg, wn, ou, qu, vi⟩ := s;unfold Zv.val Vk.val at C ⊢;simp only at C ⊢;obtain ⟨n, hn⟩ := nE (ops.length);rw [hn] at C ⊢;clear hn;go_enter Tryz.func28, Tryz.ntmps28;go_upto_region 1 with fail;have CQ := hid (C.out _ (Va w (.cells #[lv, rg, wn, ou, qu, vi] 23) (.cells #[nm, dl, jp, .slice A n c] 26)));go_wp2_with fail;refine CQ.mono ?_;rintro en w1 ⟨rfl, hb⟩;have HB : Hid (Below w.heap.size w w1) := (Va w _ _).trans (hb.mono (Va w _ _).size);go_wp2_with fail
 try go_ret
 exact ⟨rfl, HB.out⟩
theorem Zfw (s : Vk) (h : Vg p A w) :
  Calls Tryz.prog 29 #[s.val, p.val (.slice A p.ops.length c)] w fun e w' => e = .returned (.int .i64 (Kp s p)) ∧ Below w.heap.size w w' := by
 have C : Hid (∀ W, Below w.heap.size w W → Calls Tryz.prog 73 #[s.val, p.val (.slice A p.ops.length c)] W fun e w' => e = .returned (.int .i64 (Wo s p)) ∧ Below W.heap.size W w') := fun W hb => Zei s (h.below hb);have HBD := hid (Zhi s p);have HE : Hid (Kp s p = if Wo s p = 0 then 0 else 2 * Wo s p * (p.jumps + 1)) := rfl;obtain ⟨M, hM⟩ := nE (Kp s p);obtain ⟨R, hR⟩ := nE (Wo s p);rw [hM, hR] at HE;rw [hR] at C HBD;rw [hM];clear hR h hM;obtain ⟨nm, dl, jp, ops⟩ := p;obtain ⟨lv, rg, wn, ou, qu, vi⟩ := s;unfold Zv.val Vk.val at C ⊢;simp only at C HBD HE ⊢;obtain ⟨n, hn⟩ := nE (ops.length);rw [hn] at C ⊢;clear hn;go_enter Tryz.func29, Tryz.ntmps29;go_upto_region 1 with fail;have CQ := hid (C.out _ (Va w (.cells #[lv, rg, wn, ou, qu, vi] 23) (.cells #[nm, dl, jp, .slice A n c] 26)));have HP : Hid (Blk ((w.alloc (.cells #[lv, rg, wn, ou, qu, vi] 23)).alloc (.cells #[nm, dl, jp, .slice A n c] 26)) (w.heap.size + 1) 26 #[nm, dl, jp, .slice A n c]) := Nk _ _ _ _;go_wp2_with fail;refine CQ.mono ?_;rintro en w1 ⟨rfl, hb⟩;have HB : Hid (Below w.heap.size w w1) := (Va w _ _).trans (hb.mono (Va w _ _).size);have HP1 := bb HP hb;clear hb HP CQ C;by_cases h0 : R = 0
 ·subst h0
  have HF : Hid (M = 0) := HE.trans (if_pos rfl);go_wp2_with fail
  try go_ret
  rw [HF.out]; exact ⟨rfl, HB.out⟩
 ·have HF : Hid (M = 2 * R * (jp + 1)) := HE.trans (if_neg h0)
  obtain ⟨h1, h2, h3⟩ := HBD.out;have h4 := h3 h0;have e0 := bF h0;have e1 : 2 * R * (jp + 1) ≤ 2 * 60000 * 1001 := Int.mul_le_mul aa aa aa aa;have e2 : 0 ≤ 2 * R * (jp + 1) := Int.mul_nonneg aa aa;obtain ⟨N, hN⟩ := nE (2 * R * (jp + 1));have q2 := HP1.cell 2;have ql := HP1.lt;go_wp2_with fail
  try go_ret
  rw [HF.out, hN];exact ⟨rfl, HB.out⟩
end
end Go.Proofs.YtpkkfdmhbbipoaaGreat
