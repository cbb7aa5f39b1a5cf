/- Walks: the reference's scripts that may be: an op; a script. -/
import Derived.Test.YtpkkfdmhbbipoaaGreatRb
import Derived.Test.YtpkkfdmhbbipoaaGreatRa
namespace Go.Proofs.YtpkkfdmhbbipoaaGreat
set_option maxRecDepth 20000
set_option maxHeartbeats 8000000
open Go.RowKit PopT
theorem Zl9 (p : Xl) (A : Option Addr) (c : Nat) (t : Int) (W : World) : Calls Tryz.prog 175 #[p.val (.slice A p.ops.length c), t] W fun e w' => e = .returned (.bool (Yh p.ops.length t)) ∧ Below W.heap.size W w' := Zhn p.name p.deadline p.jumps A p.ops.length c t W
theorem N21{P:Prop}(h:P:=by
 go_wp2_with fail;go_ret;rw [HF.out, HGP.out]; exact ⟨rfl, ev⟩):P:=h
theorem Zqq (p : Xl) (A : Option Addr) (c : Nat) (o : OpV) (v : Value) (w : World) (hv : Xj w o v) (hok : ∀ a ∈ o.arms, a.pat.size ≤ 1000000) :
  Calls Tryz.prog 155 #[p.val (.slice A p.ops.length c), o.val v] w fun e w' => e = .returned ((opE p.ops.length o : Nat) : Int) ∧ Below w.heap.size w w' := by
 have CC := hid (fun t W => Zl9 p A c t W);have CX := hid (fun W (h : Xj W o v) => Zjf p A c o v W h hok (fun t W => Zl9 p A c t W));have HV := hid hv;obtain ⟨B, d, rfl, -⟩ := hv;have CB := hid (fun W => Zm5 o B d W)
 have HOE : Hid (opE p.ops.length o = if o.kind < 1 ∨ 6 < o.kind then 11 else if Mk o = false then 2 else if o.kind = 1 then (if o.text.size = 0 then 9 else if 256 < o.text.size then 4 else 0) else
   if o.kind = 2 then Vp p.ops.length o else if o.kind = 3 then (if Yh p.ops.length o.tt = true then 0 else 13) else if o.kind = 4 then (if Wp o.n = true then 0 else 12) else 0) := rfl
 obtain ⟨R, hR⟩ := nE (opE p.ops.length o);rw [hR] at HOE ⊢;obtain ⟨ex, hex⟩ := nE (Vp p.ops.length o);rw [hex] at HOE CX;obtain ⟨bb, hbb⟩ := nE (Mk o);rw [hbb] at HOE CB;clear hR hex hbb hok;obtain ⟨nm, dl, jp, ops⟩ := p;obtain ⟨k, tx, nn, tt, arms, oT, oE⟩ := o;unfold Xl.val at CC CX ⊢;unfold OpV.val at CX CB ⊢;simp only at CC CX CB HOE HV ⊢;obtain ⟨m, hm⟩ := nE (arms.length);obtain ⟨n, hn⟩ := nE (ops.length);rw [hm] at CX CB HV ⊢;rw [hn] at CC CX HOE ⊢;clear hm hn;go_enter Tryz.func155, Tryz.ntmps155;go_upto_region 1 with fail;obtain ⟨wb, hwb⟩ := nE ((w.alloc (.cells #[nm, dl, jp, .slice A n c] 26)).alloc (.cells #[k, tx, nn, tt, .slice B m d, oT, oE] 56));have HB0 : Hid (Below w.heap.size w wb) := hwb ▸ Uu _ _ _;have HP0 : Hid (Blk wb w.heap.size 26 #[nm, dl, jp, .slice A n c]) := hwb ▸ (Blk.new w _ _).alloc _;have HO0 : Hid (Blk wb (w.heap.size + 1) 56 #[k, tx, nn, tt, .slice B m d, oT, oE]) := hwb ▸ Gz _ _ _ _;rw [hwb];clear hwb;have HBX : Hid (∀ W, Below wb.heap.size wb W → Below w.heap.size w W) := fun W h => HB0.trans (h.mono HB0.size);obtain ⟨gp, hgp⟩ := nE (w.heap.size);have HGP := hid hgp;rw [hgp] at HP0 HO0 ⊢;obtain ⟨go, hgo⟩ := nE (gp + 1);rw [hgo] at HO0 ⊢;clear hgp hgo;have HFACT : Hid (∀ W, Below wb.heap.size wb W → Blk W gp 26 #[nm, dl, jp, .slice A n c] ∧ Blk W go 56 #[k, tx, nn, tt, .slice B m d, oT, oE]) := fun W h => ⟨HP0.below h HP0.lt, HO0.below h HO0.lt⟩;obtain ⟨o0, o1, o2, o3, o4, o5, o6⟩ := Qo HO0.out;have hol := HO0.lt;have HB6 := HB0;by_cases k1 : k < 1
 ·have HF : Hid (R = 11) := by rw [Hid, HOE.out, if_pos (.inl k1)]
  clear HOE CC CX CB HV;exact N21
 by_cases k6 : 6 < k
 ·have HF : Hid (R = 11) := by rw [Hid, HOE.out, if_pos (.inr k6)]
  clear HOE CC CX CB HV;exact N21
 have HO1 : Hid (R = if bb = false then 2 else if k = 1 then (if tx.size = 0 then 9 else if 256 < tx.size then 4 else 0) else
   if k = 2 then ex else if k = 3 then (if Yh n tt = true then 0 else 13) else if k = 4 then (if Wp nn = true then 0 else 12) else 0) := by
  rw [Hid, HOE.out, if_neg (fun h => h.elim k1 k6)]
 clear HOE HB6;go_wp2_with fail;refine (CB.out _).mono ?_;rintro en w1 ⟨rfl, hb1⟩;have HB1 := hid hb1;have HB6 := hid (HBX.out _ hb1);have hfa := HFACT.out w1 hb1;have HV1 : Hid (Xj w1 ⟨k, tx, nn, tt, arms, oT, oE⟩ (.slice B m d)) := (HV.below HB0.out).below hb1;clear hb1 CB o0 o1 o2 o3 o4 o5 o6 hol HP0 HO0 HB0 HV;obtain ⟨p0, p1, p2, p3⟩ := Wc hfa.1;obtain ⟨o0, o1, o2, o3, o4, o5, o6⟩ := Qo hfa.2;have hpl := hfa.1.lt;have hol := hfa.2.lt;clear hfa;cases bb
 ·have HF : Hid (R = 2) := by rw [Hid, HO1.out, if_pos rfl]
  clear HO1 CC CX HV1;exact N21
 have HO2 : Hid (R = if k = 1 then (if tx.size = 0 then 9 else if 256 < tx.size then 4 else 0) else
   if k = 2 then ex else if k = 3 then (if Yh n tt = true then 0 else 13) else if k = 4 then (if Wp nn = true then 0 else 12) else 0) := by rw [Hid, HO1.out, if_neg ac]
 clear HO1;by_cases c1 : k = 1
 ·subst c1
  have HO3 : Hid (R = if tx.size = 0 then 9 else if 256 < tx.size then 4 else 0) := by rw [Hid, HO2.out, if_pos rfl]
  clear HO2 CC CX HV1;by_cases hs : tx.size = 0
  ·have HF : Hid (R = 9) := by rw [Hid, HO3.out, if_pos hs]
   obtain rfl := (Gc tx).2 hs;clear HO3 hs;exact N21
  have q1 : ¬ tx.toList = [] := fk
  have q2 : (tx.toList == []) = false := cy
  by_cases h256 : 256 < tx.size
  ·have HF : Hid (R = 4) := by rw [Hid, HO3.out, if_neg hs, if_pos h256]
   have h2 : (256 : Int) < (tx.size : Int) := aa
   clear HO3 hs;exact N21
  ·have HF : Hid (R = 0) := by rw [Hid, HO3.out, if_neg hs, if_neg h256]
   have h2 : ¬ (256 : Int) < (tx.size : Int) := aa
   clear HO3 hs;exact N21
 have j1 : ((k : Int) == 1) = false := by rw [beq_eq_false_iff_ne]; exact c1
 have HO3 : Hid (R = if k = 2 then ex else if k = 3 then (if Yh n tt = true then 0 else 13) else if k = 4 then (if Wp nn = true then 0 else 12) else 0) := by rw [Hid, HO2.out, if_neg c1]
 clear HO2 c1;by_cases c2 : k = 2
 ·subst c2
  have HF : Hid (R = ex) := by rw [Hid, HO3.out, if_pos rfl]
  have CQ := hid (CX.out w1 HV1.out);clear HO3 CC CX HV1;go_wp2_with fail;refine CQ.mono ?_;rintro en w2 ⟨rfl, hb2⟩;have HB7 := bt HB6 hb2;clear hb2 HB6;have HB6 := HB7;exact N21
 have j2 : ((k : Int) == 2) = false := by rw [beq_eq_false_iff_ne]; exact c2
 have HO4 : Hid (R = if k = 3 then (if Yh n tt = true then 0 else 13) else if k = 4 then (if Wp nn = true then 0 else 12) else 0) := by rw [Hid, HO3.out, if_neg c2]
 clear HO3 c2 CX HV1;by_cases c3 : k = 3
 ·subst c3
  have CQ := hid (CC.out tt w1);obtain ⟨cm, hcm⟩ := nE (Yh n tt);have HO5 : Hid (R = if cm = true then 0 else 13) := by rw [Hid, HO4.out, if_pos rfl, hcm]
  rw [hcm] at CQ;clear HO4 CC hcm;go_wp2_with fail;refine CQ.mono ?_;rintro en w2 ⟨rfl, hb2⟩;have HB7 := bt HB6 hb2;have hfa := HFACT.out w2 (HB1.trans (hb2.mono HB1.size));clear hb2 HB6 p0 p1 p2 p3 o0 o1 o2 o3 o4 o5 o6 hol hpl CQ;have HB6 := HB7;obtain ⟨o0, o1, o2, o3, o4, o5, o6⟩ := Qo hfa.2;have hol := hfa.2.lt;clear hfa;cases cm
  ·have HF : Hid (R = 13) := by rw [Hid, HO5.out, if_neg ac]
   exact N21
  ·have HF : Hid (R = 0) := by rw [Hid, HO5.out, if_pos rfl]
   exact N21
 have j3 : ((k : Int) == 3) = false := by rw [beq_eq_false_iff_ne]; exact c3
 have HO5 : Hid (R = if k = 4 then (if Wp nn = true then 0 else 12) else 0) := by rw [Hid, HO4.out, if_neg c3]
 clear HO4 c3 CC;by_cases c4 : k = 4
 ·subst c4
  have HO6 : Hid (R = if Wp nn = true then 0 else 12) := by rw [Hid, HO5.out, if_pos rfl]
  clear HO5;by_cases r1 : nn < 0
  ·have HF : Hid (R = 12) := by rw [Hid, HO6.out, if_neg]; unfold Wp; rw [decide_eq_false aa]; simp
   exact N21
  ·by_cases r2 : 1000000000000 < nn
   ·have HF : Hid (R = 12) := by rw [Hid, HO6.out, if_neg]; unfold Wp; rw [decide_eq_false (show ¬ nn ≤ 1000000000000 by omega)]; simp
    exact N21
   ·have HF : Hid (R = 0) := by rw [Hid, HO6.out, if_pos]; unfold Wp; rw [decide_eq_true (show 0 ≤ nn by omega), decide_eq_true (show nn ≤ 1000000000000 by omega)]; rfl
    exact N21
 have j4 : ((k : Int) == 4) = false := by rw [beq_eq_false_iff_ne]; exact c4
 have HF : Hid (R = 0) := by rw [Hid, HO5.out, if_neg c4]
 clear HO5 c4;exact N21
theorem N73{P:Prop}(h:P:=by
 have HQ : Hid (bd = true) := by rw [Hid, ← HBD.out, decide_eq_true]; exact .inl ⟨h1, fun h => aa⟩
 exact N128):P:=h
theorem N72{P:Prop}(h:P:=by
 go_wp2_with fail
 go_ret2
 rw [HF.out, HGP.out]; exact ⟨rfl, ev⟩):P:=h
theorem N147{P:Prop}(h:P:=by
 have HQ : Hid (bd = true) := kp
 exact N128):P:=h
theorem N22{P:Prop}(h:P:=by
 by_cases h1 : dl = Vj
 ·subst h1
  unfold Vj at p1;have HQ : Hid (bd = true) := kp
  clear HBD HX;go_wp2_with fail;go_meet;exact ⟨by rw [HQ.out], rfl⟩
 ·have q1 : (dl == 9223372036854775807) = false := bF h1
  have q2 : (dl != 9223372036854775807) = true := ek
  by_cases h2 : dl < 1
  ·exact N147
  ·by_cases h3 : 1000000000000 < dl
   ·exact N147
   ·exact N147):P:=h
theorem Zkr (p : Xl) (A : Option Addr) (c : Nat) (w : World) (hin : Ug w A p.ops) (hok : Jb p) (ha : ∀ o ∈ p.ops, ∀ a ∈ o.arms, a.pat.size ≤ 1000000) :
  Calls Tryz.prog 121 #[p.val (.slice A p.ops.length c)] w fun e w' => e = .returned (.tuple #[.int .i64 (Xf p).1, (((Xf p).2 : Nat) : Int)]) ∧ Below w.heap.size w w' := by
 have CO := hid (fun o v W (h : Xj W o v) h2 => Zqq p A c o v W h h2);have CN := hid (fun W => Zm1 p.name W hok.1);have HIN := hid hin; have HA := hid ha;obtain ⟨nm, dl, jp, ops⟩ := p;unfold Xl.val at CO ⊢;simp only at HIN HA CN CO ⊢;have CO' : Hid (∀ (o : OpV) v W, Xj W o v → (∀ a ∈ o.arms, a.pat.size ≤ 1000000) → Calls Tryz.prog 155 #[.agg #[nm, dl, jp, .slice A ops.length c], .agg #[o.kind, o.text, o.n, o.tt, v, o.onT, o.onE]] W fun e w' => e = .returned ((opE ops.length o : Nat) : Int) ∧ Below W.heap.size W w') := CO.out
 have HW : Hid (Xf ⟨nm, dl, jp, ops⟩ = if Mi nm = false then (-1, 10) else if (dl ≠ Vj ∧ ¬ (1 ≤ dl ∧ dl ≤ 1000000000000)) ∨ ¬ (0 ≤ jp ∧ jp ≤ 1000) then (-1, 12) else
   if 200 < ops.length then (-1, 4) else (((Uq ops.length ops 0).1 : Int), (Uq ops.length ops 0).2)) := rfl
 obtain ⟨R, hR⟩ := nE (Xf ⟨nm, dl, jp, ops⟩);rw [hR] at HW ⊢;obtain ⟨nb, hnb⟩ := nE (Mi nm);rw [hnb] at HW CN;obtain ⟨n, hn⟩ := nE (ops.length);have HN := hid hn;rw [hn] at CO' HW ⊢;obtain ⟨bd, hbd⟩ := nE (decide ((dl ≠ Vj ∧ ¬ (1 ≤ dl ∧ dl ≤ 1000000000000)) ∨ ¬ (0 ≤ jp ∧ jp ≤ 1000)));have HBD := hid hbd
 have HX : Hid (R = if nb = false then (-1, 10) else if bd = true then (-1, 12) else if 200 < n then (-1, 4) else (((Uq n ops 0).1 : Int), (Uq n ops 0).2)) := by
  rw [Hid, HW.out, ← hbd]; simp only [decide_eq_true_eq]
 clear hR hnb hn hin ha CO hbd HW hok;go_enter Tryz.func121, Tryz.ntmps121;go_upto_region 1 with fail;obtain ⟨wb, hwb⟩ := nE (w.alloc (.cells #[nm, dl, jp, .slice A n c] 26));have HB0 := ba hwb;have HP0 := bn hwb;rw [hwb];clear hwb;obtain ⟨gp, hgp⟩ := nE (w.heap.size);have HGP := hid hgp;rw [hgp] at HP0 ⊢;clear hgp;obtain ⟨p0, p1, p2, p3⟩ := Wc HP0.out;have hpl := HP0.lt;go_wp2_with fail;refine (CN.out _).mono ?_;rintro en w1 ⟨rfl, hb1⟩;have HB6 := bt HB0 hb1;have HP1 := bb HP0 hb1;have HINB : Hid (Ug w1 A ops) := (HIN.below HB0.out).below hb1;clear hb1 CN p0 p1 p2 p3 hpl HP0 HB0 HIN;obtain ⟨p0, p1, p2, p3⟩ := Wc HP1.out;have hpl := HP1.lt;cases nb
 ·have HF : Hid (R = (-1, 10)) := by rw [Hid, HX.out, if_pos rfl]
  clear HX CO' HBD;exact N72
 go_upto_region 3 with fail
 go_cut [32] (fun s wx => s = .bool bd ∧ wx = w1)
 case first =>
  by_cases j1 : jp < 0
  ·exact N22
  by_cases j2 : 1000 < jp
  ·exact N22
  by_cases h1 : dl = Vj
  ·subst h1
   unfold Vj at p1;have HQ : Hid (bd = false) := by rw [Hid, ← HBD.out, decide_eq_false]; exact fun h => by rcases h with h | h; exact h.1 rfl; exact h ⟨aa, aa⟩
   clear HBD HX;go_wp2_with fail;go_meet;exact ⟨by rw [HQ.out], rfl⟩
  ·have q1 : (dl == 9223372036854775807) = false := bF h1
   have q2 : (dl != 9223372036854775807) = true := ek
   by_cases h2 : dl < 1
   ·exact N73
   ·by_cases h3 : 1000000000000 < dl
    ·exact N73
    ·have HQ : Hid (bd = false) := by rw [Hid, ← HBD.out, decide_eq_false]; exact fun h => by rcases h with h | h; exact h.2 ⟨aa, aa⟩; exact h ⟨aa, aa⟩
     exact N128
 case rest =>
  obtain ⟨rfl, rfl⟩ := hcut;clear HBD;cases bd;rotate_left
  ·have HF : Hid (R = (-1, 12)) := by rw [Hid, HX.out, if_neg ac, if_pos rfl]
   clear HX CO';exact N72
  have HX1 : Hid (R = if 200 < n then (-1, 4) else (((Uq n ops 0).1 : Int), (Uq n ops 0).2)) := by rw [Hid, HX.out, if_neg ac, if_neg ac]
  clear HX;by_cases h2 : 200 < n
  ·have HF : Hid (R = (-1, 4)) := by rw [Hid, HX1.out, if_pos h2]
   have h2' : (200 : Int) < (n : Int) := aa
   clear HX1 CO';exact N72
  have h2' : ¬ (200 : Int) < (n : Int) := aa
  have HX2 : Hid (R = (((Uq n ops 0).1 : Int), (Uq n ops 0).2)) := by rw [Hid, HX1.out, if_neg h2]
  clear HX1;go_wp2_with fail
  go_loopw [4] (fun iv wr => ∃ i : Nat, i ≤ n ∧ iv = .int .i64 (i : Int) ∧ Uq n (ops.drop i) i = Uq n ops 0 ∧ Below wc.heap.size wc wr) (fun iv _ => n - (intOf iv).toNat)
  case atStart => exact ⟨0, aa, rfl, rfl, Below.refl _ _⟩
  case round =>
   obtain ⟨i, hi, rfl, hae, hb⟩ := hrel;have HAE := hid hae; have HB := hid hb;have HBW := bt HB6 hb;clear hae hb p0 p1 p2 p3 hpl;have HPr := bb HP1 HB;obtain ⟨p0, p1, p2, p3⟩ := Wc HPr.out;have hpl := HPr.lt;by_cases hlt : i < n
   ·have hk : i < ops.length := by rw [HN.out]; exact hlt
    obtain ⟨b1, o1, va, rfl, hbl1, hva, q0, q1, q2, q3, q4, q5, q6⟩ := (HINB.below HB.out).at i hk;have HS := hid (Zgr n ops i hk);have CX : Hid (∀ q : BW wr.heap.size wr, Calls Tryz.prog 155 #[.agg #[nm, dl, jp, .slice (some ⟨b1, o1, none⟩) n c], .agg #[.int .i64 (ops[i]'hk).kind, .string (ops[i]'hk).text, .int .i64 (ops[i]'hk).n, .int .i64 (ops[i]'hk).tt, va, .int .i64 (ops[i]'hk).onT, .int .i64 (ops[i]'hk).onE]] q.1 fun e w' => e = .returned ((opE n (ops[i]'hk) : Nat) : Int) ∧ Below q.1.heap.size q.1 w') := fun q => CO'.out _ va q.1 (hva.below q.2) (HA.out _ (List.getElem_mem hk));obtain ⟨A1, n1, e1⟩ : ∃ A1 n1, va = .slice A1 (ops[i]'hk).arms.length n1 := by obtain ⟨A1, n1, e1, _⟩ := hva; exact ⟨A1, n1, e1⟩
    subst e1;obtain ⟨e, he⟩ := nE (opE n (ops[i]'hk));rw [he] at CX HS;obtain ⟨⟨ka, ta, ma, oa, ra, ua, ea⟩, hxa⟩ : ∃ x, ops[i]'hk = x := ⟨_, rfl⟩;rw [hxa] at q0 q1 q2 q3 q4 q5 q6 CX;simp only at q0 q1 q2 q3 q4 q5 q6 CX;obtain ⟨s1, hs1⟩ := nE (ra.length);rw [hs1] at q4 CX;clear hxa hs1 he hva hk;have Tp0 : ∀ q : BW wr.heap.size wr, q.1.cell? ⟨gp, 0, none⟩ = some (.string nm) := fun q => q.cellAt hpl p0;have Tp1 : ∀ q : BW wr.heap.size wr, q.1.cell? ⟨gp, 1, none⟩ = some (.int .i64 dl) := fun q => q.cellAt hpl p1;have Tp2 : ∀ q : BW wr.heap.size wr, q.1.cell? ⟨gp, 2, none⟩ = some (.int .i64 jp) := fun q => q.cellAt hpl p2;have Tp3 : ∀ q : BW wr.heap.size wr, q.1.cell? ⟨gp, 3, none⟩ = some (.slice (some ⟨b1, o1, none⟩) n c) := fun q => q.cellAt hpl p3;have Tq0 : ∀ q : BW wr.heap.size wr, q.1.cell? ⟨b1, o1 + i * 7, none⟩ = some (.int .i64 ka) := fun q => q.cellAt hbl1 q0;have Tq1 : ∀ q : BW wr.heap.size wr, q.1.cell? ⟨b1, o1 + i * 7 + 1, none⟩ = some (.string ta) := fun q => q.cellAt hbl1 q1;have Tq2 : ∀ q : BW wr.heap.size wr, q.1.cell? ⟨b1, o1 + i * 7 + 2, none⟩ = some (.int .i64 ma) := fun q => q.cellAt hbl1 q2;have Tq3 : ∀ q : BW wr.heap.size wr, q.1.cell? ⟨b1, o1 + i * 7 + 3, none⟩ = some (.int .i64 oa) := fun q => q.cellAt hbl1 q3;have Tq4 : ∀ q : BW wr.heap.size wr, q.1.cell? ⟨b1, o1 + i * 7 + 4, none⟩ = some (.slice A1 s1 n1) := fun q => q.cellAt hbl1 q4;have Tq5 : ∀ q : BW wr.heap.size wr, q.1.cell? ⟨b1, o1 + i * 7 + 5, none⟩ = some (.int .i64 ua) := fun q => q.cellAt hbl1 q5;have Tq6 : ∀ q : BW wr.heap.size wr, q.1.cell? ⟨b1, o1 + i * 7 + 6, none⟩ = some (.int .i64 ea) := fun q => q.cellAt hbl1 q6;go_wp2_with fail;refine Zh wr.heap.size ab ab ?_
    repeat (go_big_quiet_step ((go_at_call 155; exact Kr (Nat.le_refl _) CX.out _)))
    refine wpQuiet_nil ?_;intro w5 hq5;have HB5 : Hid (Below wr.heap.size wr w5) := iu
    have HB7 : Hid (Below wc.heap.size wc w5) := HB.trans (HB5.mono HB.size);have HB8 := bt HBW HB5;clear hq5 CX Tp0 Tp1 Tp2 Tp3 Tq0 Tq1 Tq2 Tq3 Tq4 Tq5 Tq6 HB5 HB HBW p0 p1 p2 p3 hpl q0 q1 q2 q3 q4 q5 q6 hbl1 HPr;by_cases hz : e = 0
    ·subst hz
     have HS2 : Hid (Uq n (ops.drop (i + 1)) (i + 1) = Uq n ops 0) := by rw [Hid, ← HAE.out, HS.out, if_neg ah]
     clear HS HAE HB8;go_wp2_with fail;go_roundw
     case rel => exact ⟨i + 1, aa, aw, HS2.out, HB7.out⟩
     case measure => simp [intOf]; omega
    ·have HF : Hid (R = ((i : Int), e)) := by rw [Hid, HX2.out, ← HAE.out, HS.out, if_pos hz]
     have he0 : ((e : Int) == 0) = false := bF aa;have he1 : ((e : Int) != 0) = true := ft
     clear HS HAE HX2 hz;go_wp2_with fail
     go_ret2
     rw [HF.out, HGP.out]; exact ⟨rfl, by have := HB8.out; rwa [HGP.out] at this⟩
   ·have HF : Hid (R = (0, 0)) := by
     rw [Hid, HX2.out, ← HAE.out, List.drop_of_length_le bz]; rfl
    clear HAE HX2;go_wp2_with fail
    go_ret2
    rw [HF.out, HGP.out]; exact ⟨rfl, by have := HBW.out; rwa [HGP.out] at this⟩
theorem Zm3 (p : Xl) (A : Option Addr) (c : Nat) (w : World) (hin : Ug w A p.ops) (hok : Jb p) (ha : ∀ o ∈ p.ops, ∀ a ∈ o.arms, a.pat.size ≤ 1000000) :
  Calls Tryz.prog 72 #[p.val (.slice A p.ops.length c)] w fun e w' => e = .returned (.bool (decide ((Xf p).2 = 0))) ∧ Below w.heap.size w w' := by
 have HIN := hid hin;have CW := hid (fun W (h : Ug W A p.ops) => Zkr p A c W h hok ha);obtain ⟨nm, dl, jp, ops⟩ := p;unfold Xl.val at CW ⊢;simp only at HIN CW ⊢;obtain ⟨⟨ra, rb⟩, hR⟩ : ∃ R, Xf ⟨nm, dl, jp, ops⟩ = R := ⟨_, rfl⟩;rw [hR] at CW ⊢;simp only at CW ⊢;obtain ⟨n, hn⟩ := nE (ops.length);rw [hn] at CW ⊢;clear hR hn hin hok ha;go_enter Tryz.func72, Tryz.ntmps72;go_upto_region 1 with fail;obtain ⟨wb, hwb⟩ := nE (w.alloc (.cells #[nm, dl, jp, .slice A n c] 26));have HB0 := ba hwb;have HP0 := bn hwb;rw [hwb];clear hwb;obtain ⟨gp, hgp⟩ := nE (w.heap.size);have HGP := hid hgp;rw [hgp] at HP0 ⊢;clear hgp;obtain ⟨p0, p1, p2, p3⟩ := Wc HP0.out;have hpl := HP0.lt;have CQ := hid (CW.out wb (HIN.below HB0.out));go_wp2_with fail;refine CQ.mono ?_;rintro en w1 ⟨rfl, hb1⟩;have HB6 := bt HB0 hb1;clear hb1 CQ CW;by_cases hz : rb = 0
 ·subst hz
  go_wp2_with fail;go_ret;rw [HGP.out]; exact ⟨rfl, ev⟩
 ·have he0 : ((rb : Int) == 0) = false := bF aa
  have HZ : Hid (decide (rb = 0) = false) := decide_eq_false hz;clear hz;exact N66
end Go.Proofs.YtpkkfdmhbbipoaaGreat
