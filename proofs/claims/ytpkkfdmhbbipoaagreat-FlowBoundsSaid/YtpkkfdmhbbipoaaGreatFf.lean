/- Zp: the reference's from, Reach, Loops (layer 24). Zp: the reference's Reach, Loops (layer 24), Same (layer 4). -/
import Derived.Test.YtpkkfdmhbbipoaaGreatFe
import Derived.Test.YtpkkfdmhbbipoaaGreatFc
namespace Go.Proofs.YtpkkfdmhbbipoaaGreat
set_option maxRecDepth 20000
set_option maxHeartbeats 8000000
open Go.RowKit PopT
structure InR (n : Nat) (l : List Int) : Prop where
 asc : Asc l
 rng : ∀ x ∈ l, 0 ≤ x ∧ x ≤ n
theorem InR.len {n : Nat} {l : List Int} (h : InR n l) : l.length ≤ n + 1 := by have := Zbr n l 0 h.asc h.rng aa; omega
theorem InR.adds {n : Nat} {l : List Int} (h : InR n l) (k : List Int) (hk : ∀ x ∈ k, 0 ≤ x ∧ x ≤ n) : InR n (k.foldl Xg l) := ⟨Mb k l h.asc, fun x hx => by
 rcases (Gg k l x).1 hx with h1 | h1
 ·exact hk x h1.1
 ·exact h.rng x h1⟩
theorem InR.rounds {n : Nat} {nx : Int → List Int} (hn : ∀ x, ∀ y ∈ nx x, 0 ≤ y ∧ y ≤ n) : ∀ (k l : List Int), InR n l → InR n (k.foldl (fun m x => (nx x).foldl Xg m) l) := by
 intro k
 induction k with
 | nil => intro l h; exact h
 | cons x k ih => intro l h; exact ih _ (h.adds _ (hn x))
theorem Zka {p : Zv} (hg : Wl p = true) : Nq p = nxM p.ops := by funext a; unfold Nq; rw [if_pos hg]
theorem Zms {p : Zv} {A : Option Addr} {c base : Nat} {w : World} {v : Value} {l : List Int} (hin : ∀ W, Below w.heap.size w W → Zbd p A W) (hg : Wl p = true) (hv : IO base w v l) (hl : InR p.ops.length l) (hbase : base ≤ w.heap.size) :
  Calls Tryz.prog 78 #[p.val (.slice A p.ops.length c), v] w fun e w' => ∃ v', e = .returned v' ∧ IO base w' v' (Jz p l) ∧ Below w.heap.size w w' := by
 have CN : Hid (∀ (a : Int) W, Below w.heap.size w W → Calls Tryz.prog 34 #[p.val (.slice A p.ops.length c), a] W fun e w' => ∃ v, e = .returned v ∧ IO W.heap.size w' v (nxM p.ops a) ∧ Below W.heap.size W w') := fun a W hb => by rw [← Zka hg]; exact Zie a (hin W hb)
 have CA : Hid (∀ (W : World) (v : Value) (l : List Int) (n : Int), IO base W v l → l.length ≤ 1000 → base ≤ W.heap.size → Calls Tryz.prog 76 #[v, n] W fun e w' => ∃ v', e = .returned v' ∧ IO base w' v' (Xg l n) ∧ Below W.heap.size W w') := fun W v l n h1 h2 h3 => Zec n h1 h2 h3;have HNI := hid (Ze8 (Yr.1 hg));have HNL := hid (Zn5 (Yr.1 hg));have hn2 := (Wc (Yr.1 hg)).2.1;have HV := hid hv; have HL := hid hl;have HE : Hid (Jz p l = Qe (nxM p.ops) (p.ops.length + 1) l) := rfl;obtain ⟨F, hF⟩ := nE (Jz p l);obtain ⟨nx, hnx⟩ := nE (nxM p.ops);rw [hF, hnx] at HE;rw [hnx] at CN HNI HNL;rw [hF];clear hF hnx hg hin hv hl;obtain ⟨nm, dl, jp, ops⟩ := p;unfold Zv.val at CN ⊢;simp only at CN HE HNI HNL HL hn2 ⊢;obtain ⟨n, hn⟩ := nE (ops.length);rw [hn] at CN HE HNI HNL HL hn2 ⊢;clear hn;go_enter Tryz.func78, Tryz.ntmps78;go_upto_region 2 with fail;obtain ⟨w0, hw0⟩ := nE (w.alloc (.cells #[nm, dl, jp, .slice A n c] 26));have HP := bn hw0;have HB := ba hw0;have HV0 := hid (Zt HV.out HB.out);rw [hw0];obtain ⟨gp, hgp⟩ := nE (w.heap.size);have HGP := hid hgp;rw [hgp] at HP ⊢;clear hw0 hgp HV
 go_loopw [1, 5] (fun lv iv wr => ∃ (i : Nat) (li : List Int), i ≤ n + 1 ∧ iv = .int .i64 (i : Int) ∧ IO base wr lv li ∧ InR n li ∧ Qe nx (n + 1 - i) li = F ∧ Blk wr gp 26 #[nm, dl, jp, .slice A n c] ∧ Below w.heap.size w wr) (fun _ iv _ => n + 1 - (intOf iv).toNat)
 case atStart => exact ⟨0, l, aa, rfl, HV0.out, HL.out, HE.symm, HP.out, HB.out⟩
 case round =>
  obtain ⟨i, li, hi, rfl, hv, hl, hf, hp, hb⟩ := hrel;obtain ⟨wa, hwa⟩ := mE wr;subst hwa;have HVA := hid hv; have HLA := hid hl; have HFA := hid hf; have HPA := hid hp; have HBA := hid hb;have hsa : base ≤ wa.heap.size := Nat.le_trans hbase hb.size;have hlen := hl.len;clear hv hl hf hp hb HV0 HL HE HP HB;obtain ⟨q0, q1, q2, q3⟩ := Xw HPA.out;have ql := HPA.lt;by_cases hlt : i < n + 1
  ·have hlt2 : (i : Int) ≤ (n : Int) := by omega
   obtain ⟨AL, cl, rfl, hrd⟩ := Wk HVA.out;have HRD := hid hrd;obtain ⟨m, hm⟩ := nE (li.length);have HM := hid hm;have HVX : Hid (wa.ownsRow base 3 1 (.slice AL li.length cl) li.length (Zg li)) := HVA.out;rw [hm] at hlen HVX ⊢;clear hrd hm HVA;have HR0 : Hid (IO base wa (.slice AL m cl) ((li.take 0).foldl (fun m x => (nx x).foldl Xg m) li)) := IO.of HVX.out HM.symm rfl;go_wp2_with fail
   go_loopw [6, 7] (fun mv kv wr => ∃ k : Nat, k ≤ m ∧ kv = .int .i64 (k : Int) ∧ IO base wr mv ((li.take k).foldl (fun m x => (nx x).foldl Xg m) li) ∧ Below wa.heap.size wa wr) (fun _ kv _ => m - (intOf kv).toNat)
   case atStart => exact ⟨0, aa, rfl, HR0.out, Below.refl _ _⟩
   case round =>
    obtain ⟨k, hk, rfl, hv, hb⟩ := hrel;obtain ⟨wb, hwb⟩ := mE wr;subst hwb;have HBB := hid hb;have HBW0 := bt HBA hb;have HPB := bb HPA hb;have HRB := hid (HRD.below hb);have HIN := hid (HLA.rounds HNI.out (li.take k));obtain ⟨M, hM⟩ := nE ((li.take k).foldl (fun m x => (nx x).foldl Xg m) li);have HMM := hid hM;rw [hM] at HIN hv;have HVB := hid hv;have hsb : base ≤ wb.heap.size := Nat.le_trans hsa hb.size;clear hv hb hM HR0;by_cases hkl : k < m
    ·have HI : Hid (k < li.length) := by rw [Hid, HM.out]; exact hkl
     obtain ⟨b1, f1, rfl, hbl1, hc1⟩ := HRB.at (by rw [Yt, HM.out]; omega);have hcx : wb.cell? ⟨b1, f1 + k, none⟩ = some (.int .i64 (li[k]'HI.out)) := hc1 k _ (Uj li k HI.out)
     have HTK : Hid ((li.take (k + 1)).foldl (fun m x => (nx x).foldl Xg m) li = (nx (li[k]'HI.out)).foldl Xg M) := by
      rw [Hid, List.take_succ_eq_append_getElem HI.out, List.foldl_append, HMM.out]; rfl
     obtain ⟨x, hx⟩ := nE (li[k]'HI.out);rw [hx] at hcx HTK;have hpl := HPB.lt;have T0 : ∀ q : BW wb.heap.size wb, q.1.cell? ⟨gp, 0, none⟩ = some (.string nm) := fun q => q.cellAt hpl (HPB.cell 0);have T1 : ∀ q : BW wb.heap.size wb, q.1.cell? ⟨gp, 1, none⟩ = some (.int .i64 dl) := fun q => q.cellAt hpl (HPB.cell 1);have T2 : ∀ q : BW wb.heap.size wb, q.1.cell? ⟨gp, 2, none⟩ = some (.int .i64 jp) := fun q => q.cellAt hpl (HPB.cell 2);have T3 : ∀ q : BW wb.heap.size wb, q.1.cell? ⟨gp, 3, none⟩ = some (.slice A n c) := fun q => q.cellAt hpl (HPB.cell 3);have T4 : ∀ q : BW wb.heap.size wb, q.1.cell? ⟨b1, f1 + k, none⟩ = some (.int .i64 x) := fun q => q.cellAt hbl1 hcx;clear hx hc1;go_upto_region 8 with fail;refine Zy wb.heap.size [] (.val 0 (.val 1 (.val 2 (.val 3 (.val 4 (.op 5 (.val 6 (.nil)))))))) ab ab ?_;obtain ⟨wc, hwc, HBW⟩ := dw wb;rw [hwc];clear hwc
     iterate 5 ((first | refine Zf rfl rfl ?_ | refine Yf rfl rfl (Yy HBW.out) ?_); go_big_quiet_step (fail); refine wpQuiet_nil ?_)
     clear T0 T1 T2 T3 T4 hcx hbl1 hpl;have CQ := hid (CN.out x wc (HBW0.trans (HBW.mono HBW0.size)));refine Zc rfl ?_;go_wp2_with fail;refine CQ.mono ?_;rintro en wd ⟨vn, rfl, hvn, hbn⟩;have HBD : Hid (Below wb.heap.size wb wd) := HBW.trans (hbn.mono HBW.size);obtain ⟨AN, cn, rfl, hrn⟩ := Wk hvn;have HRN := hid hrn;obtain ⟨z, hz⟩ := nE ((nx x).length);have HZ := hid hz;rw [hz];clear hvn hbn hrn CQ hz HBW;go_wp2_with fail;refine KT.keep (Yy HBD.out) ?_;refine Zf rfl rfl ?_
     go_big_quiet_step (fail)
     refine wpQuiet_nil ?_;refine Zw ?_;have HVD : Hid (IO base wd _ (((nx x).take 0).foldl Xg M)) := Zt HVB.out HBD.out;have hsd : base ≤ wd.heap.size := Nat.le_trans hsb HBD.size;have hz2 : z ≤ 1000000 := by have := HNL.out x; have := HZ.out; omega
     go_wp2_with fail
     go_loopw [6, 9] (fun mv jv wr => ∃ j : Nat, j ≤ z ∧ jv = .int .i64 (j : Int) ∧ IO base wr mv (((nx x).take j).foldl Xg M) ∧ Below wd.heap.size wd wr) (fun _ jv _ => z - (intOf jv).toNat)
     case atStart => exact ⟨0, aa, rfl, HVD.out, Below.refl _ _⟩
     case round =>
      obtain ⟨j, hj, rfl, hv, hb⟩ := hrel;have HBJ := hid hb; have HVJ := hid hv;have HRJ := hid (HRN.below hb);have hsj : base ≤ wr.heap.size := Nat.le_trans hsd hb.size;have HIJ := hid (HIN.adds ((nx x).take j) (fun y hy => HNI.out x y (List.mem_of_mem_take hy)));obtain ⟨M2, hM2⟩ := nE (((nx x).take j).foldl Xg M);have HM2 := hid hM2;rw [hM2] at HIJ HVJ;have HL2 : Hid (M2.length ≤ 1000) := by have := HIJ.len; rw [Hid]; omega
      clear hv hb hM2 HVD;by_cases hjl : j < z
      ·have HJI : Hid (j < (nx x).length) := by rw [Hid, HZ.out]; exact hjl
       obtain ⟨b2, f2, rfl, hbl2, hc2⟩ := HRJ.at (by rw [Yt, HZ.out]; omega);have hcy : wr.cell? ⟨b2, f2 + j, none⟩ = some (.int .i64 ((nx x)[j]'HJI.out)) := hc2 j _ (Uj (nx x) j HJI.out)
       have HTJ : Hid (((nx x).take (j + 1)).foldl Xg M = Xg M2 ((nx x)[j]'HJI.out)) := by
        rw [Hid, List.take_succ_eq_append_getElem HJI.out, List.foldl_append, HM2.out]; rfl
       obtain ⟨y, hy⟩ := nE ((nx x)[j]'HJI.out);rw [hy] at hcy HTJ;clear hy hc2;have CQ := hid (CA.out wr _ M2 y HVJ.out HL2.out hsj);go_wp2_with fail;refine CQ.mono ?_;rintro en w6 ⟨v6, rfl, hv6, hb6⟩;have HV6 := hid hv6;have HB6 : Hid (Below wd.heap.size wd w6) := HBJ.trans (hb6.mono HBJ.size);clear hv6 hb6 CQ;go_wp2_with fail;go_roundw
       case rel => exact ⟨j + 1, aa, al, by rw [HTJ.out]; exact HV6.out, HB6.out⟩
       case measure => simp [intOf]; omega
      ·have h1 := HVJ.out
       rw [← HM2.out, List.take_of_length_le (by rw [HZ.out]; omega), ← HTK.out] at h1;have HVF := hid h1;clear h1;have HBF : Hid (Below wa.heap.size wa wr) := HBB.trans ((HBD.trans (HBJ.mono HBD.size)).mono HBB.size);clear HVJ;go_wp2_with fail;go_roundw
       case rel => exact ⟨k + 1, aa, al, HVF.out, HBF.out⟩
       case measure => simp [intOf]; omega
    ·have h1 := HVB.out
     rw [← HMM.out, List.take_of_length_le du] at h1;have HVF := hid h1
     have HFN : Hid (Qe nx (n + 1 - (i + 1)) (Ns nx li) = F) := by
      have h2 := HFA.out;rw [show n + 1 - i = (n + 1 - (i + 1)) + 1 by omega] at h2;exact h2
     have HLN : Hid (InR n (Ns nx li)) := HLA.rounds HNI.out li;clear h1 HVB;go_wp2_with fail;go_roundw
     case rel => exact ⟨i + 1, Ns nx li, aa, al, HVF.out, HLN.out, HFN.out, HPB.out, HBW0.out⟩
     case measure => simp [intOf]; omega
  ·have hin : ¬ (i : Int) ≤ (n : Int) := by omega
   have HF : Hid (F = li) := by
    rw [Hid, ← HFA.out, show n + 1 - i = 0 by omega]; rfl
   go_wp2_with fail
   try go_ret
   rw [HF.out]; exact ⟨_, rfl, HVA.out, HBA.out⟩
section
variable {p : Zv} {A : Option Addr} {c : Nat} {w : World}
theorem Zgl (h : Zbd p A w) :
  Calls Tryz.prog 36 #[p.val (.slice A p.ops.length c)] w fun e w' => ∃ v, e = .returned v ∧ IO w.heap.size w' v (Wz p) ∧ Below w.heap.size w w' := by
 have CG : Hid (∀ W, Below w.heap.size w W → Calls Tryz.prog 72 #[p.val (.slice A p.ops.length c)] W fun e w' => e = .returned (.bool (Wl p)) ∧ Below W.heap.size W w') := fun W hb => (h.below hb).good
 have CF : Hid (Wl p = true → ∀ W v, Below w.heap.size w W → IO w.heap.size W v [0] → Calls Tryz.prog 78 #[p.val (.slice A p.ops.length c), v] W fun e w' => ∃ v', e = .returned v' ∧ IO w.heap.size w' v' (Wz p) ∧ Below W.heap.size W w') := fun hg W v hb hv => by
  unfold Wz; rw [if_pos hg];exact Zms (fun W' hW => h.below (hb.trans (hW.mono hb.size))) hg hv ⟨dz, fun x hx => ay⟩ hb.size
 have H0 : Hid (Wl p = false → Wz p = []) := fun h => by unfold Wz; rw [h]; rfl
 obtain ⟨R, hR⟩ := nE (Wz p);obtain ⟨g, hg⟩ := nE (Wl p);rw [hR, hg] at H0 CF;rw [hR];rw [hg] at CG;clear hR hg h;obtain ⟨nm, dl, jp, ops⟩ := p;unfold Zv.val at CG CF ⊢;simp only at CG CF ⊢;obtain ⟨n, hn⟩ := nE (ops.length);rw [hn] at CG CF ⊢;clear hn;go_enter Tryz.func36, Tryz.ntmps36;go_upto_region 1 with fail;obtain ⟨w0, hw0⟩ := nE (w.alloc (.cells #[nm, dl, jp, .slice A n c] 26));have HP := bn hw0;have HB := ba hw0;rw [hw0];clear hw0;have C1 := hid (CG.out w0 HB.out);obtain ⟨q0, q1, q2, q3⟩ := Xw HP.out;have ql := HP.lt;go_wp2_with fail;refine C1.mono ?_;rintro en w2 ⟨rfl, hb⟩;have HB2 := bt HB hb;have HP2 := bb HP hb;clear hb C1 q0 q1 q2 q3 ql HP HB CG;cases g
 ·have HF : Hid (R = []) := H0.out bq
  clear H0 CF;go_wp2_with fail
  try go_ret
  rw [HF.out]; exact ⟨_, rfl, ⟨rfl, .inl ⟨rfl, rfl⟩⟩, HB2.out⟩
 have C2 := hid (CF.out bq _ _ (HB2.alloc HB2.size _) (Uq w.heap.size w2 [0] HB2.size ae));have HB3 : Hid (Below w.heap.size w (w2.alloc (.cells (Zg [0]).toArray 3))) := HB2.alloc HB2.size _;obtain ⟨q0, q1, q2, q3⟩ := Xw HP2.out;have ql := HP2.lt;clear H0 CF;go_wp2_with fail;refine C2.mono ?_;rintro en w3 ⟨v, rfl, hv, hb⟩;have HV := hid hv;have HB4 := bt HB3 hb;go_wp2_with fail
 try go_ret
 exact ⟨_, rfl, HV.out, HB4.out⟩
theorem Znd {a b : List Int} {A B : Option Addr} {c d : Nat} (w : World) (ha : Rd w A (Zg a)) (hb : Rd w B (Zg b)) (hl : a.length ≤ 1000000) :
  Calls Tryz.prog 32 #[.slice A a.length c, .slice B b.length d] w fun e w' => e = .returned (.bool (decide (a = b))) ∧ Below w.heap.size w w' := by
 by_cases hnm : a.length = b.length
 ·have HA := hid ha; have HB := hid hb
  have HR : Hid (decide (a = b) = decide (a.drop 0 = b.drop 0)) := rfl;obtain ⟨R, hR⟩ := nE (decide (a = b));rw [hR] at HR ⊢;obtain ⟨n, hn⟩ := nE (a.length);have HN := hid hn;have HM : Hid (b.length = n) := hnm.symm.trans hn;rw [hn] at hl ⊢;rw [HM.out];have hne : ((n : Int) != (n : Int)) = false := ae
  clear hR ha hb hnm hn;go_enter Tryz.func32, Tryz.ntmps32;go_wp2_with fail
  go_loopw [5] (fun iv wr => ∃ i : Nat, i ≤ n ∧ iv = .int .i64 (i : Int) ∧ R = decide (a.drop i = b.drop i) ∧ Below w.heap.size w wr) (fun iv _ => n - (intOf iv).toNat)
  case atStart => exact ⟨0, aa, rfl, HR.out, Below.refl _ _⟩
  case round =>
   obtain ⟨i, hi, rfl, hr, hbl⟩ := hrel;have HRR := hid hr; have HBL := hid hbl;clear hr hbl HR;by_cases hlt : i < n
   ·have h1 : i < a.length := by rw [HN.out]; exact hlt
    have h2 : i < b.length := by rw [HM.out]; exact hlt
    obtain ⟨b1, o1, rfl, hbl1, hc1⟩ := (HA.below HBL.out).at (by rw [Yt]; omega);obtain ⟨b2, o2, rfl, hbl2, hc2⟩ := (HB.below HBL.out).at (by rw [Yt]; omega);have p0 : wr.cell? ⟨b1, o1 + i, none⟩ = some (.int .i64 a[i]) := hc1 i _ (Uj a i h1);have q0 : wr.cell? ⟨b2, o2 + i, none⟩ = some (.int .i64 b[i]) := hc2 i _ (Uj b i h2)
    have HS : Hid (R = decide (a[i] = b[i] ∧ a.drop (i + 1) = b.drop (i + 1))) := by
     exact J93
    obtain ⟨x, hx⟩ := nE (a[i]'h1);obtain ⟨y, hy⟩ := nE (b[i]'h2);rw [hx] at p0 HS;rw [hy] at q0 HS;clear hx hy hc1 hc2 h1 h2 HRR;by_cases hs : x = y
    ·subst hs
     have HS2 : Hid (R = decide (a.drop (i + 1) = b.drop (i + 1))) := by rw [Hid, HS.out]; simp
     exact J43
    ·have HS2 : Hid (R = false) := by rw [Hid, HS.out]; simp [hs]
     have hs0 : ((x : Int) == y) = false := by rw [beq_eq_false_iff_ne]; exact hs
     clear HS hs;go_wp2_with fail
     go_quiet (fail)
     have HB3 := hid (HBL.trans ((Zs wr nq).mono HBL.size));go_wp2_with fail
     try go_ret
     rw [HS2.out]; exact ⟨rfl, HB3.out⟩
   ·have HS2 : Hid (R = true) := by
     rw [Hid, HRR.out, List.drop_of_length_le ax, List.drop_of_length_le du]; rfl
    clear HRR;go_wp2_with fail
    try go_ret
    rw [HS2.out]; exact ⟨rfl, HBL.out⟩
 ·have HE : Hid (decide (a = b) = false) := decide_eq_false (fun h => hnm (by rw [h]))
  obtain ⟨n, hn⟩ := nE (a.length);obtain ⟨m, hm⟩ := nE (b.length);rw [hn, hm] at hnm ⊢;have hne : ((n : Int) != (m : Int)) = true := af
  have hne2 : ((n : Int) == (m : Int)) = false := af
  clear ha hb hn hm;go_enter Tryz.func32, Tryz.ntmps32;go_wp2_with fail
  try go_ret
  rw [HE.out]; exact ⟨rfl, Below.refl _ _⟩
end
end Go.Proofs.YtpkkfdmhbbipoaaGreat
