/- Walks: layer 13: what is wrong of an op. Walks: layer 13: what is wrong of a script; words. Walks: layer 13's Word; the layer lives. -/
import Derived.Test.YtpkkfdmhbbipoaaGreatPa
namespace Go.Proofs.YtpkkfdmhbbipoaaGreat
set_option maxRecDepth 20000
set_option maxHeartbeats 4000000
open Go.RowKit PopT
theorem Gc (s : ByteArray) : s = ⟨#[]⟩ ↔ s.size = 0 := by
 constructor
 ·rintro rfl; rfl
 ·intro h
  rcases s with ⟨⟨l⟩⟩
  have : l = [] := List.eq_nil_of_length_eq_zero (by simpa [ByteArray.size] using h);rw [this]
theorem Zmu (o : OpV) (h1 : 1 ≤ o.kind) (h6 : o.kind ≤ 6) : Zet o (Ni o) = Mk o := by
 obtain ⟨k, tx, nn, tt, arms, oT, oE⟩ := o;simp only at h1 h6;have hs := Gc tx;rcases (show k = 1 ∨ k = 2 ∨ k = 3 ∨ k = 4 ∨ k = 5 ∨ k = 6 by omega) with rfl | rfl | rfl | rfl | rfl | rfl <;>
 ·simp only [Zet, Mk, Ni]
  rw [Bool.eq_iff_iff];simp [hs, List.length_eq_zero_iff, and_assoc, and_left_comm, and_comm]
theorem N96{P:Prop}(h:P:=by
 clear HOE CC' CE' CB' CS' HG HSB HV';go_enter Tryz.func159, Tryz.ntmps159;exact N142):P:=h
theorem N43{P:Prop}(h:P:=by
 go_wp2_with fail
 try go_ret
 exact (HQ.out _ _).2 ⟨ic, HB7.out⟩):P:=h
theorem Zrx (p : Xl) (A : Option Addr) (c : Nat) (o : OpV) (v : Value) (w : World) (hv : Xj w o v) (hn : o.arms.length ≤ 9223372036854775807) : Calls Tryz.prog 159 #[p.val (.slice A p.ops.length c), o.val v] w fun e w' => e = .returned ((opE p.ops.length o : Nat) : Int) ∧ Below w.heap.size w w' := by
 have HSB := hid (Zmu o);have CB := hid (fun W => Zqb o v (by obtain ⟨B, d, h, _⟩ := hv; exact ⟨B, _, d, h⟩) W);have CS := hid (fun W (h : Xj W o v) => Zkm o (Ni o) v (Zbj o v) W h (Zqc h) hn);have CE := hid (fun W (h : Xj W o v) => Zll p A c o v W h);have CC := hid (fun t W => Zde p A c t W);have HV := hid hv;obtain ⟨bv, hbv⟩ := nE ((Ni o).val (Zbj o v));rw [hbv] at CB CS;obtain ⟨sb, hsb⟩ := nE (Zet o (Ni o));rw [hsb] at HSB CS
 have HOE : Hid (opE p.ops.length o = if o.kind < 1 ∨ 6 < o.kind then 11 else if Mk o = false then 2 else if o.kind = 1 then (if o.text.size = 0 then 9 else if 256 < o.text.size then 4 else 0) else
   if o.kind = 2 then Vp p.ops.length o else if o.kind = 3 then (if Yh p.ops.length o.tt = true then 0 else 13) else if o.kind = 4 then (if Wp o.n = true then 0 else 12) else 0) := rfl
 have HG : Hid (∀ W, Calls Tryz.prog 157 #[o.n, .int .i64 0, .int .i64 1000000000000] W fun e w' => e = .returned (.bool (Wp o.n)) ∧ W = w') := fun W => Ze4 o.n 0 1000000000000 W;obtain ⟨A2, d2, hv2, -⟩ := hv;subst hv2;obtain ⟨R, hR⟩ := nE (opE p.ops.length o);rw [hR] at HOE ⊢;obtain ⟨ex, hex⟩ := nE (Vp p.ops.length o);rw [hex] at HOE CE;obtain ⟨bb, hbb⟩ := nE (Mk o);rw [hbb] at HOE HSB;clear hR hbv hsb hex hbb;obtain ⟨nm, dl, jp, ops⟩ := p;obtain ⟨k, tx, nn, tt, arms, oT, oE⟩ := o;simp only at HOE HG HSB;have CC' : Hid (∀ t W, Calls Tryz.prog 179 #[.agg #[nm, dl, jp, .slice A ops.length c], .int .i64 t] W fun e w' => e = .returned (.bool (Yh ops.length t)) ∧ Below W.heap.size W w') := CC.out;have CE' : Hid (∀ W, Xj W ⟨k, tx, nn, tt, arms, oT, oE⟩ (.slice A2 arms.length d2) → Calls Tryz.prog 178 #[.agg #[nm, dl, jp, .slice A ops.length c], .agg #[k, tx, nn, tt, .slice A2 arms.length d2, oT, oE]] W fun e w' => e = .returned ((ex : Nat) : Int) ∧ Below W.heap.size W w') := CE.out;have CB' : Hid (∀ W, Calls Tryz.prog 177 #[.agg #[k, tx, nn, tt, .slice A2 arms.length d2, oT, oE]] W fun e w' => e = .returned bv ∧ Below W.heap.size W w') := CB.out;have CS' : Hid (∀ W, Xj W ⟨k, tx, nn, tt, arms, oT, oE⟩ (.slice A2 arms.length d2) → Calls Tryz.prog 176 #[.agg #[k, tx, nn, tt, .slice A2 arms.length d2, oT, oE], bv] W fun e w' => e = .returned sb ∧ Below W.heap.size W w') := CS.out;have HV' : Hid (Xj w ⟨k, tx, nn, tt, arms, oT, oE⟩ (.slice A2 arms.length d2)) := HV.out;clear CC CE CB CS HV;show Calls Tryz.prog 159 #[.agg #[nm, dl, jp, .slice A ops.length c], .agg #[k, tx, nn, tt, .slice A2 arms.length d2, oT, oE]] w fun e w' => e = .returned (R : Int) ∧ Below w.heap.size w w';obtain ⟨m, hm⟩ := nE (arms.length);obtain ⟨n, hn'⟩ := nE (ops.length);rw [hm] at CE' CB' CS' HV' ⊢;rw [hn'] at CC' CE' HOE ⊢;clear hm hn' hn
 -- a kind that there isn't
 by_cases k1 : k < 1
 ·have HF : Hid (R = 11) := by rw [Hid, HOE.out, if_pos (.inl k1)]
  exact N96
 by_cases k6 : 6 < k
 ·have HF : Hid (R = 11) := by rw [Hid, HOE.out, if_pos (.inr k6)]
  exact N96
 have HO1 : Hid (R = if bb = false then 2 else if k = 1 then (if tx.size = 0 then 9 else if 256 < tx.size then 4 else 0) else
   if k = 2 then ex else if k = 3 then (if Yh n tt = true then 0 else 13) else if k = 4 then (if Wp nn = true then 0 else 12) else 0) := by
  rw [Hid, HOE.out, if_neg (fun h => h.elim k1 k6)]
 have HSB2 : Hid (sb = bb) := HSB.out aa aa;have hk16 : 1 ≤ k ∧ k ≤ 6 := ⟨aa, aa⟩;have HK := hid hk16;clear HOE HSB hk16;obtain ⟨Q, hQ⟩ : ∃ Q : Ending → World → Prop, (fun e w' => e = .returned (R : Int) ∧ Below w.heap.size w w') = Q := ⟨_, rfl⟩;have HQ : Hid (∀ e W, Q e W ↔ (e = .returned (R : Int) ∧ Below w.heap.size w W)) := fun e W => by rw [← hQ]
 rw [show (fun e w' => e = Ending.returned (R : Int) ∧ Below w.heap.size w w') = Q from hQ];clear hQ;go_enter Tryz.func159, Tryz.ntmps159;go_upto_region 1 with fail;obtain ⟨wb, hwb⟩ := nE ((w.alloc (.cells #[nm, dl, jp, .slice A n c] 26)).alloc (.cells #[k, tx, nn, tt, .slice A2 m d2, oT, oE] 56));have HB0 : Hid (Below w.heap.size w wb) := hwb ▸ Uu _ _ _;have HP0 : Hid (Blk wb w.heap.size 26 #[nm, dl, jp, .slice A n c]) := hwb ▸ (Blk.new w _ _).alloc _;have HO0 : Hid (Blk wb (w.heap.size + 1) 56 #[k, tx, nn, tt, .slice A2 m d2, oT, oE]) := hwb ▸ Gz _ _ _ _;rw [hwb];clear hwb;have HVB : Hid (Xj wb ⟨k, tx, nn, tt, arms, oT, oE⟩ (.slice A2 m d2)) := HV'.below HB0.out;have HBX : Hid (∀ W, Below wb.heap.size wb W → Below w.heap.size w W) := fun W h => HB0.trans (h.mono HB0.size);obtain ⟨gp, hgp⟩ := nE (w.heap.size);rw [hgp] at HP0 HO0 ⊢;obtain ⟨go, hgo⟩ := nE (gp + 1);rw [hgo] at HO0 ⊢;clear hgp hgo HV' HB0
 have HFACT : Hid (∀ W, Below wb.heap.size wb W → Blk W gp 26 #[nm, dl, jp, .slice A n c] ∧ Blk W go 56 #[k, tx, nn, tt, .slice A2 m d2, oT, oE]) :=
  fun W h => ⟨HP0.below h HP0.lt, HO0.below h HO0.lt⟩
 obtain ⟨o0, o1, o2, o3, o4, o5, o6⟩ := Qo HO0.out;have hol := HO0.lt;have T0 : ∀ q : BW wb.heap.size wb, q.1.cell? ⟨go, 0, none⟩ = some (.int .i64 k) := fun q => q.cellAt hol o0;have T1 : ∀ q : BW wb.heap.size wb, q.1.cell? ⟨go, 1, none⟩ = some (.string tx) := fun q => q.cellAt hol o1;have T2 : ∀ q : BW wb.heap.size wb, q.1.cell? ⟨go, 2, none⟩ = some (.int .i64 nn) := fun q => q.cellAt hol o2;have T3 : ∀ q : BW wb.heap.size wb, q.1.cell? ⟨go, 3, none⟩ = some (.int .i64 tt) := fun q => q.cellAt hol o3;have T4 : ∀ q : BW wb.heap.size wb, q.1.cell? ⟨go, 4, none⟩ = some (.slice A2 m d2) := fun q => q.cellAt hol o4;have T5 : ∀ q : BW wb.heap.size wb, q.1.cell? ⟨go, 5, none⟩ = some (.int .i64 oT) := fun q => q.cellAt hol o5;have T6 : ∀ q : BW wb.heap.size wb, q.1.cell? ⟨go, 6, none⟩ = some (.int .i64 oE) := fun q => q.cellAt hol o6;have T7 : ∀ q : BW wb.heap.size wb, go < q.1.heap.size := fun q => Nat.lt_of_lt_of_le hol q.2.size;have CBq := hid (fun (q : BW wb.heap.size wb) => CB'.out q.1);have CSq := hid (fun (q : BW wb.heap.size wb) => CS'.out q.1 (HVB.below q.2));clear CB' CS' HP0 HO0;go_wp2_with fail;refine Zh wb.heap.size ab ab ?_
 repeat (go_big_quiet_step (first | (go_at_call 177; exact Kr (Nat.le_refl _) CBq.out _) | (go_at_call 176; exact Kr (Nat.le_refl _) CSq.out _)))
 refine wpQuiet_nil ?_;intro w6 hq6;have HB6 : Hid (Below wb.heap.size wb w6) := by obtain ⟨q, rfl⟩ := hq6; exact q.2
 clear hq6 T0 T1 T2 T3 T4 T5 T6 T7 CBq CSq o0 o1 o2 o3 o4 o5 o6 hol;have hfa := HFACT.out w6 HB6.out;obtain ⟨p0, p1, p2, p3⟩ := Wc hfa.1;obtain ⟨o0, o1, o2, o3, o4, o5, o6⟩ := Qo hfa.2;have hpl := hfa.1.lt;have hol := hfa.2.lt;have HB7 : Hid (Below w.heap.size w w6) := HBX.out _ HB6.out;clear hfa HFACT;have hsb := HSB2.out;clear HSB2;subst hsb;cases sb
 ·have HF : Hid (R = 2) := by rw [Hid, HO1.out, if_pos rfl]
  clear HO1 HG CC' CE';exact N43
 have HO2 : Hid (R = if k = 1 then (if tx.size = 0 then 9 else if 256 < tx.size then 4 else 0) else
   if k = 2 then ex else if k = 3 then (if Yh n tt = true then 0 else 13) else if k = 4 then (if Wp nn = true then 0 else 12) else 0) := by
  rw [Hid, HO1.out, if_neg ac]
 clear HO1;by_cases c1 : k = 1
 ·subst c1
  have HO3 : Hid (R = if tx.size = 0 then 9 else if 256 < tx.size then 4 else 0) := by rw [Hid, HO2.out, if_pos rfl]
  clear HO2 HG CC' CE';by_cases hs : tx.size = 0
  ·obtain rfl := (Gc tx).2 hs
   have HF : Hid (R = 9) := by rw [Hid, HO3.out]; rfl
   clear HO3 hs;exact N43
  have hne1 : ¬ tx.toList = [] := fk
  have hne : (tx.toList == []) = false := by rw [beq_eq_false_iff_ne]; exact hne1
  by_cases h256 : 256 < tx.size
  ·have HF : Hid (R = 4) := by rw [Hid, HO3.out, if_neg hs, if_pos h256]
   have h2 : (256 : Int) < (tx.size : Int) := aa
   clear HO3 hs;exact N43
  ·have HF : Hid (R = 0) := by rw [Hid, HO3.out, if_neg hs, if_neg h256]
   have h2 : ¬ (256 : Int) < (tx.size : Int) := aa
   clear HO3 hs;exact N43
 have g1 : ((k : Int) == 1) = false := by simp [c1]
 have HO3 : Hid (R = if k = 2 then ex else if k = 3 then (if Yh n tt = true then 0 else 13) else if k = 4 then (if Wp nn = true then 0 else 12) else 0) := by rw [Hid, HO2.out, if_neg c1]
 clear HO2 c1;by_cases c2 : k = 2
 ·subst c2
  have HF : Hid (R = ex) := by rw [Hid, HO3.out, if_pos rfl]
  have CE2 := hid (CE'.out w6 (HVB.below HB6.out));clear HO3 HG CC' CE';go_wp2_with fail;refine CE2.mono ?_;rintro en w7 ⟨rfl, hb7⟩;have HB8 := bt HB7 hb7;clear CE2 hb7;go_wp2_with fail
  try go_ret
  exact (HQ.out _ _).2 ⟨ic, HB8.out⟩
 have g2 : ((k : Int) == 2) = false := by simp [c2]
 have HO4 : Hid (R = if k = 3 then (if Yh n tt = true then 0 else 13) else if k = 4 then (if Wp nn = true then 0 else 12) else 0) := by rw [Hid, HO3.out, if_neg c2]
 clear HO3 c2 CE';by_cases c3 : k = 3
 ·subst c3
  have HF : Hid (R = if Yh n tt = true then 0 else 13) := by rw [Hid, HO4.out, if_pos rfl]
  have CC2 := hid (CC'.out tt w6);clear HO4 HG CC';obtain ⟨q, hq⟩ := nE (Yh n tt);rw [hq] at HF CC2;clear hq;go_wp2_with fail;refine CC2.mono ?_;rintro en w7 ⟨rfl, hb7⟩;have HB8 := bt HB7 hb7;clear CC2 hb7;cases q <;>
  ·go_wp2_with fail
   try go_ret
   exact (HQ.out _ _).2 ⟨ic, HB8.out⟩
 have g3 : ((k : Int) == 3) = false := by simp [c3]
 have HO5 : Hid (R = if k = 4 then (if Wp nn = true then 0 else 12) else 0) := by rw [Hid, HO4.out, if_neg c3]
 clear HO4 c3 CC';by_cases c4 : k = 4
 ·subst c4
  have HF : Hid (R = if Wp nn = true then 0 else 12) := by rw [Hid, HO5.out, if_pos rfl]
  have CG := hid (HG.out w6);clear HO5 HG;obtain ⟨q, hq⟩ := nE (Wp nn);rw [hq] at HF CG;clear hq;go_wp2_with fail;refine CG.mono ?_;rintro en w7 ⟨rfl, rfl⟩;clear CG;cases q <;>
  ·exact N43
 have g4 : ((k : Int) == 4) = false := by simp [c4]
 have HF : Hid (R = 0) := by rw [Hid, HO5.out, if_neg c4]
 clear HO5 c4 HG;exact N43
theorem Zgr (n : Nat) (ops : List OpV) (k : Nat) (h : k < ops.length) : Uq n (ops.drop k) k = if opE n ops[k] ≠ 0 then (k, opE n ops[k]) else Uq n (ops.drop (k + 1)) (k + 1) := by
 rw [List.drop_eq_getElem_cons h, Uq]
theorem N135{P:Prop}(h:P:=by
 go_wp2_with fail
 try go_ret2
 exact (HQ.out _ _).2 ⟨ic, HB0.out⟩):P:=h
theorem N60{P:Prop}(h:P:=by
 have HF : Hid (R = (-1, 12)) := by rw [Hid, HW1.out, if_pos (.inr (fun h => by have := HG2.1 h; cases this))]
 clear HW1 CO' HG2;exact N135):P:=h
theorem N6{P:Prop}(h:P:=by
 clear HW1 HDL;by_cases h200 : 200 < n
 ·have HF : Hid (R = (-1, 4)) := by rw [Hid, HW2.out, if_pos h200]
  have h2 : (200 : Int) < (n : Int) := aa
  clear HW2 CO' HG2;exact N135
 have h2 : ¬ (200 : Int) < (n : Int) := aa
 have HW3 : Hid (R = (((Uq n ops 0).1 : Int), (Uq n ops 0).2)) := by rw [Hid, HW2.out, if_neg h200]
 clear HW2 HG2;go_wp2_with fail
 go_loopw [34] (fun iv wr => ∃ i : Nat, i ≤ n ∧ iv = .int .i64 (i : Int) ∧ Uq n (ops.drop i) i = Uq n ops 0 ∧ Below wb.heap.size wb wr) (fun iv _ => n - (intOf iv).toNat)
 case atStart => exact ⟨0, aa, rfl, rfl, Below.refl _ _⟩
 case round =>
  obtain ⟨i, hi, rfl, hae, hbl⟩ := hrel;have HAE := hid hae; have HB := hid hbl;clear hae hbl p0 p1 p2 p3 hpl;have hfa := HFACT.out wr HB.out;obtain ⟨p0, p1, p2, p3⟩ := Wc hfa;have hpl := hfa.lt;clear hfa;by_cases hlt : i < n
  ·have HK : Hid (i < ops.length) := by rw [Hid, HN.out]; exact hlt
   obtain ⟨b1, off1, v1, rfl, hbl, hv1, d0, d1, d2, d3, d4, d5, d6⟩ := (HINB.below HB.out).at i HK.out
   have HAS : Hid (Uq n ops 0 = if opE n (ops[i]'HK.out) ≠ 0 then (i, opE n (ops[i]'HK.out)) else Uq n (ops.drop (i + 1)) (i + 1)) := by
    rw [Hid, ← HAE.out, Zgr n ops i HK.out]
   have HAL := hid (HA.out _ (List.getElem_mem HK.out));have HV := hid hv1;obtain ⟨o, ho⟩ := nE (ops[i]'HK.out);rw [ho] at d0 d1 d2 d3 d5 d6 HAS HV HAL hv1;have CA := hid (fun W h => CO'.out o v1 W h HAL.out);obtain ⟨e, he⟩ := nE (opE n o);rw [he] at HAS CA;obtain ⟨A1, c1, hv2, -⟩ := hv1;subst hv2;clear ho he HAE HAL;obtain ⟨ok, otx, on, ott, oar, oT, oE⟩ := o;simp only at d0 d1 d2 d3 d5 d6 HV;obtain ⟨ol, hol⟩ := nE (oar.length);have CA' : Hid (∀ W, Xj W ⟨ok, otx, on, ott, oar, oT, oE⟩ (.slice A1 oar.length c1) → Calls Tryz.prog 159 #[.agg #[nm, dl, jp, .slice (some ⟨b1, off1, none⟩) n c], .agg #[ok, otx, on, ott, .slice A1 oar.length c1, oT, oE]] W fun e' w' => e' = .returned ((e : Nat) : Int) ∧ Below W.heap.size W w') := CA.out;have HV' : Hid (Xj wr ⟨ok, otx, on, ott, oar, oT, oE⟩ (.slice A1 oar.length c1)) := HV.out;rw [show (⟨ok, otx, on, ott, oar, oT, oE⟩ : OpV).arms.length = oar.length from rfl] at d4;rw [hol] at d4 CA' HV';clear CA HV hol;go_upto_region 11 with fail;obtain ⟨wx, hwx⟩ := nE (wr.alloc (.cells #[ok, otx, on, ott, .slice A1 ol c1, oT, oE] 56));have HBR := ba hwx;have HBX2 : Hid (Below wb.heap.size wb wx) := HB.trans (HBR.mono HB.size);have HAX := bn hwx;have HVX := hid (HV'.below HBR.out);rw [hwx];clear hwx p0 p1 p2 p3 hpl d0 d1 d2 d3 d4 d5 d6 HV';obtain ⟨ga, hga⟩ := nE (wr.heap.size);rw [hga] at HAX ⊢;clear hga;have hfa := HFACT.out wx HBX2.out;obtain ⟨p0, p1, p2, p3⟩ := Wc hfa;have hpl := hfa.lt;obtain ⟨a0, a1, a2, a3, a4, a5, a6⟩ := Qo HAX.out;have hal := HAX.lt;have CX := hid (CA'.out wx HVX.out);clear hfa CA';go_wp2_with fail;refine CX.mono ?_;rintro en w2 ⟨rfl, hb2⟩;have HB2 := bt HBX2 hb2;clear hb2 CX HBX2 HAX p0 p1 p2 p3 a0 a1 a2 a3 a4 a5 a6 hpl hal HVX HBR;by_cases he : e = 0
   ·subst he
    have HAS2 : Hid (Uq n (ops.drop (i + 1)) (i + 1) = Uq n ops 0) := by rw [Hid, HAS.out, if_neg ah]
    exact N139
   ·have he0 : ((e : Int) == 0) = false := bF aa
    have he1 : ((e : Int) != 0) = true := ft
    have HF : Hid (R = ((i : Int), e)) := by rw [Hid, HW3.out, HAS.out, if_pos he]
    clear he HAS HW3;go_wp2_with fail
    try go_ret2
    exact (HQ.out _ _).2 ⟨ic, HBX.out _ HB2.out⟩
  ·have HF : Hid (R = (0, 0)) := by
    have h1 : Uq n ops 0 = (0, 0) := by rw [← HAE.out, List.drop_of_length_le bz]; rfl
    rw [Hid, HW3.out, h1]; rfl
   clear HAE HW3;go_wp2_with fail
   try go_ret2
   exact (HQ.out _ _).2 ⟨ic, HBX.out _ HB.out⟩):P:=h
theorem Zke (p : Xl) (A : Option Addr) (c : Nat) (w : World) (hin : Ug w A p.ops) (hb : p.ops.length ≤ 9223372036854775807) (hs : p.name.size ≤ 9223372036854775807) (ha : ∀ o ∈ p.ops, o.arms.length ≤ 9223372036854775807) :
  Calls Tryz.prog 122 #[p.val (.slice A p.ops.length c)] w fun e w' => e = .returned (.tuple #[.int .i64 (Xf p).1, (((Xf p).2 : Nat) : Int)]) ∧ Below w.heap.size w w' := by
 have CO := hid (fun o v W (h : Xj W o v) h2 => Zrx p A c o v W h h2);have HIN := hid hin; have HA := hid ha;obtain ⟨nm, dl, jp, ops⟩ := p;simp only at HIN HA hb hs;have CO' : Hid (∀ (o : OpV) v W, Xj W o v → o.arms.length ≤ 9223372036854775807 → Calls Tryz.prog 159 #[.agg #[nm, dl, jp, .slice A ops.length c], .agg #[o.kind, o.text, o.n, o.tt, v, o.onT, o.onE]] W fun e w' => e = .returned ((opE ops.length o : Nat) : Int) ∧ Below W.heap.size W w') := CO.out
 have HW : Hid (Xf ⟨nm, dl, jp, ops⟩ = if Mi nm = false then (-1, 10) else if (dl ≠ Vj ∧ ¬ (1 ≤ dl ∧ dl ≤ 1000000000000)) ∨ ¬ (0 ≤ jp ∧ jp ≤ 1000) then (-1, 12) else
   if 200 < ops.length then (-1, 4) else (((Uq ops.length ops 0).1 : Int), (Uq ops.length ops 0).2)) := rfl
 have CN := hid (fun W => Zjl nm W hs);show Calls Tryz.prog 122 #[.agg #[nm, dl, jp, .slice A ops.length c]] w fun e w' => e = .returned (.tuple #[.int .i64 (Xf ⟨nm, dl, jp, ops⟩).1, (((Xf ⟨nm, dl, jp, ops⟩).2 : Nat) : Int)]) ∧ Below w.heap.size w w';obtain ⟨R, hR⟩ := nE (Xf ⟨nm, dl, jp, ops⟩);rw [hR] at HW ⊢;obtain ⟨nb, hnb⟩ := nE (Mi nm);rw [hnb] at HW CN;obtain ⟨n, hn⟩ := nE (ops.length);have HN := hid hn;rw [hn] at CO' HW hb ⊢;have CG1 := hid (fun W => Ze4 dl 1 1000000000000 W);have CG2 := hid (fun W => Znm jp 0 1000 W);obtain ⟨g1, hg1⟩ := nE ((decide (1 ≤ dl) && decide (dl ≤ 1000000000000)));obtain ⟨g2, hg2⟩ := nE ((decide (0 ≤ jp) && decide (jp ≤ 1000)));rw [hg1] at CG1;rw [hg2] at CG2;have HG1 : Hid ((1 ≤ dl ∧ dl ≤ 1000000000000) ↔ g1 = true) := by rw [Hid, ← hg1]; simp
 have HG2 : Hid ((0 ≤ jp ∧ jp ≤ 1000) ↔ g2 = true) := by rw [Hid, ← hg2]; simp
 have HNV : Hid (dl ≠ Vj ↔ (dl != 9223372036854775807) = true) := by rw [Hid, Vj]; simp
 obtain ⟨nv, hnv⟩ := nE ((dl != 9223372036854775807));have hnv3 : (dl == 9223372036854775807) = !nv := by rw [← hnv]; simp [bne]
 rw [hnv] at HNV;clear hR hnb hn hin ha CO hg1 hg2;obtain ⟨Q, hQ⟩ : ∃ Q : Ending → World → Prop, (fun e w' => e = .returned (.tuple #[R.1, ((R.2 : Nat) : Int)]) ∧ Below w.heap.size w w') = Q := ⟨_, rfl⟩;have HQ : Hid (∀ e W, Q e W ↔ (e = .returned (.tuple #[R.1, ((R.2 : Nat) : Int)]) ∧ Below w.heap.size w W)) := fun e W => by rw [← hQ]
 rw [show (fun e w' => e = Ending.returned (.tuple #[R.1, ((R.2 : Nat) : Int)]) ∧ Below w.heap.size w w') = Q from hQ];clear hQ;go_enter Tryz.func122, Tryz.ntmps122;go_upto_region 1 with fail;obtain ⟨wb, hwb⟩ := nE (w.alloc (.cells #[nm, dl, jp, .slice A n c] 26));have HB0 := ba hwb;have HP0 := bn hwb;rw [hwb];clear hwb;obtain ⟨gp, hgp⟩ := nE (w.heap.size);rw [hgp] at HP0 ⊢;clear hgp;have HBX : Hid (∀ W, Below wb.heap.size wb W → Below w.heap.size w W) := fun W h => HB0.trans (h.mono HB0.size);have HINB : Hid (Ug wb A ops) := HIN.below HB0.out;have HFACT : Hid (∀ W, Below wb.heap.size wb W → Blk W gp 26 #[nm, dl, jp, .slice A n c]) := fun W h => HP0.below h HP0.lt;obtain ⟨p0, p1, p2, p3⟩ := Wc HP0.out;have hpl := HP0.lt;clear HP0 HIN;go_wp2_with fail;refine (CN.out _).mono ?_;rintro en w1 ⟨rfl, rfl⟩;clear CN;cases nb
 ·have HF : Hid (R = (-1, 10)) := by rw [Hid, HW.out, if_pos rfl]
  clear HW CO' CG1 CG2 hnv3 hnv;exact N135
 have HW1 : Hid (R = if (dl ≠ Vj ∧ ¬ (1 ≤ dl ∧ dl ≤ 1000000000000)) ∨ ¬ (0 ≤ jp ∧ jp ≤ 1000) then (-1, 12) else
   if 200 < n then (-1, 4) else (((Uq n ops 0).1 : Int), (Uq n ops 0).2)) := by rw [Hid, HW.out, if_neg ac]
 clear HW;cases nv
 ·have hdl : ¬ dl ≠ Vj := fun h => by have := HNV.1 h; cases this
  have HDL := hid hdl;clear hdl HNV CG1 HG1;go_wp2_with fail;refine (CG2.out _).mono ?_;rintro en w1 ⟨rfl, rfl⟩;clear CG2;cases g2
  ·exact N60
  have HW2 : Hid (R = if 200 < n then (-1, 4) else (((Uq n ops 0).1 : Int), (Uq n ops 0).2)) := by
   rw [Hid, HW1.out, if_neg]; rintro (h | h); exact HDL.out h.1; exact h (HG2.2 (by first | trivial | rfl))
  exact N6
 ·have hdl : dl ≠ Vj := HNV.2 rfl
  have HDL := hid hdl;clear hdl HNV;go_wp2_with fail;refine (CG1.out _).mono ?_;rintro en w1 ⟨rfl, rfl⟩;clear CG1;cases g1
  ·have HF : Hid (R = (-1, 12)) := by rw [Hid, HW1.out, if_pos (.inl ⟨HDL.out, fun h => by have := HG1.1 h; cases this⟩)]
   clear HW1 CO' CG2 HG1 HG2;exact N135
  ·go_wp2_with fail
   refine (CG2.out _).mono ?_;rintro en w1 ⟨rfl, rfl⟩;clear CG2;cases g2
   ·exact N60
   have HW2 : Hid (R = if 200 < n then (-1, 4) else (((Uq n ops 0).1 : Int), (Uq n ops 0).2)) := by
    rw [Hid, HW1.out, if_neg]; rintro (h | h); exact h.2 (HG1.2 (by first | trivial | rfl)); exact h (HG2.2 (by first | trivial | rfl))
   exact N6
theorem Zho (p : Xl) (A : Option Addr) (c : Nat) (w : World) (hin : Ug w A p.ops) (hb : p.ops.length ≤ 9223372036854775807) (hs : p.name.size ≤ 9223372036854775807) (ha : ∀ o ∈ p.ops, o.arms.length ≤ 9223372036854775807) :
  Calls Tryz.prog 74 #[p.val (.slice A p.ops.length c)] w fun e w' => e = .returned (.bool (decide ((Xf p).2 = 0))) ∧ Below w.heap.size w w' := by
 have C := hid (fun W (h : Below w.heap.size w W) => Zke p A c W (hin.below h) hb hs ha);obtain ⟨⟨r1, r2⟩, hR⟩ : ∃ R, Xf p = R := ⟨_, rfl⟩;rw [hR] at C ⊢;obtain ⟨nm, dl, jp, ops⟩ := p;obtain ⟨n, hn⟩ := nE (ops.length);have C' : Hid (∀ W, Below w.heap.size w W → Calls Tryz.prog 122 #[.agg #[nm, dl, jp, .slice A ops.length c]] W fun e w' => e = .returned (.tuple #[r1, ((r2 : Nat) : Int)]) ∧ Below W.heap.size W w') := C.out;show Calls Tryz.prog 74 #[.agg #[nm, dl, jp, .slice A ops.length c]] w fun e w' => e = .returned (.bool (decide (r2 = 0))) ∧ Below w.heap.size w w';rw [hn] at C' ⊢;clear C hR hin hb hs ha hn;obtain ⟨q, hq⟩ := nE (decide (r2 = 0));have hq2 : ((r2 : Int) == 0) = q := by rw [← hq, Bool.eq_iff_iff]; simp
 rw [hq];clear hq;go_enter Tryz.func74, Tryz.ntmps74;go_wp2_with fail;refine (C'.out _ ((Below.refl _ _).alloc (Nat.le_refl _) _)).mono ?_;rintro en w1 ⟨rfl, hb1⟩;have HB := hid (((Below.refl w.heap.size w).alloc (Nat.le_refl _) _).trans (hb1.mono ah));clear hb1 C';go_wp2_with fail;go_ret;exact ⟨rfl, HB.out⟩
theorem Zd9 : (Tryz.prog.info? 56).map (fun i => (i.zero, i.size, i.bytes)) = some (some (.agg #[.int .i64 0, .string ⟨#[]⟩, .int .i64 0, .int .i64 0, .slice none 0 0, .int .i64 0, .int .i64 0]), 7, 80) := by kernel_rfl
end Go.Proofs.YtpkkfdmhbbipoaaGreat
