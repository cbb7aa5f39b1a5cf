/- The reference's Run: what inputs come to. The reference's Steps of what inputs come to; law 23's same. -/
import Derived.Test.YtpkkfdmhbbipoaaGreatRn
import Derived.Test.YtpkkfdmhbbipoaaGreatEa
import Derived.Test.YtpkkfdmhbbipoaaGreatLp
import Derived.Test.YtpkkfdmhbbipoaaGreatSd
namespace Go.Proofs.YtpkkfdmhbbipoaaGreat
set_option maxRecDepth 20000
set_option maxHeartbeats 16000000
open Go.RowKit PopT
theorem Zft : (Tryz.prog.info? 121).map (fun i => (i.zero, i.size, i.bytes)) = some (some (.agg #[.int .i64 0, .string ⟨#[]⟩, .int .i64 0, .int .i64 0, .int .i64 0, .int .i64 0, .int .i64 0, .int .i64 0, .bool false]), 9, 80) := by kernel_rfl
def Zb7 (x : Zf) : Prop := (∃ B F w0 W d, Zl B F w0 W d x) ∧ Fit x ∧ Uw x ∧ Zid x.s
theorem Zb7.one {x : Zf} (h : Zb7 x) (i : InV) (hi : i.ok) : Zb7 (x.one i).1 := by
 obtain ⟨⟨B, F, w0, W, d, h⟩, h1, h2, h3⟩ := h;obtain ⟨e, w', fr, hR, -⟩ := Zdp h h1 i hi [];exact ⟨⟨B, _, w0, w', d, hR.2.1⟩, Zmg h.ok h1 i hi, Zqy h2 i, by rw [Zse]; exact h3⟩
theorem Zb7.new {s : Uk} {p : Xl} {A : Option Addr} {c b0 : Nat} {now : Int} {w : World} (hin : Wt b0 w (.slice A p.ops.length c) p.ops) (hok : Jb p) (hnow : I6 now) (hl : Zid s) (hg : Wf s = true) (hp : (Xf p).2 = 0) : Zb7 ((Jf s p now).come 0) := by
 obtain ⟨e, w', fr, hq, -⟩ := Ziz s p A c b0 now w hin hok hnow [];unfold Ny at hq;rw [if_neg (by rw [hg]; decide), if_neg aa] at hq;obtain ⟨-, w0, d, B, F, -, -, hd⟩ := hq;have hv := Zel s p now hg hp hok hnow;exact ⟨⟨B, F, w0, w', d, hd⟩, Zmh hv, Zqz hv, by rw [show ((Jf s p now).come 0).s = s from Zcm _]; exact hl⟩
theorem N104{P:Prop}(h:P:=by
 go_wp2_with fail
 go_ret2
 rw [HRR.out];exact ⟨_, _, rfl, Vi HO3.out (Nat.le_of_eq HGX.out), HB3.out⟩):P:=h
theorem Zks (s : Uk) (p : Xl) (A : Option Addr) (c b0 : Nat) (now : Int) (AL : Option Addr) (n cl : Nat) (l : List InV) (w : World) (hin : Wt b0 w (.slice A p.ops.length c) p.ops) (hok : Jb p) (hnow : I6 now)
  (ha : ∀ o ∈ p.ops, ∀ a ∈ o.arms, a.pat.size ≤ 1000000) (hlt : Wf s = true → Zid s) (hl : l.length = n) (hi : ∀ i ∈ l, i.ok ∧ i.b.size ≤ 1000000) (hn : n ≤ 1000) (hr : Rd w AL (Yt l)) :
  Calls Tryz.prog 42 #[s.val, p.val (.slice A p.ops.length c), now, .slice AL n cl] w fun e w' => ∃ A' c', e = .returned (.tuple #[.slice A' (Kd s p now l).length c', (Zcy s p : Int)]) ∧
   w'.ownsRow w.heap.size 121 9 (.slice A' (Kd s p now l).length c') (Kd s p now l).length (Yn (Kd s p now l)) ∧ Below w.heap.size w w' := by
 have HCN : Hid (∀ W, Below w.heap.size w W → w.heap.size + 2 < W.heap.size → Calls Tryz.prog 56 #[s.val, p.val (.slice A p.ops.length c), now] W fun e w' => Zoc (fun k => k = w.heap.size + 2) (Wf s) (Xf p).2 (Jf s p now) W e w') := fun W hb hs =>
  Zsc s p A c now (fun k => k = w.heap.size + 2) W (fun k (h : k = _) => by rw [h]; exact hs) (fun W' hk => ((hin.inn rfl).below (hb.trans (hk.below hb.size (fun k (h : k = _) => by rw [h]; omega))))) hok hnow ha
 have HFT : Hid (Wf s = true → (Xf p).2 = 0 → Zb7 ((Jf s p now).come 0)) := fun h1 h2 => Zb7.new hin hok hnow (hlt h1) h1 h2;have HR : Hid (Kd s p now l = if Zcy s p = 0 then Gb ((Jf s p now).come 0) l else []) := rfl;have HE : Hid (Zcy s p = if Wf s = false then 1 else if (Xf p).2 ≠ 0 then 2 else 0) := rfl;obtain ⟨R, hR⟩ := nE (Kd s p now l);obtain ⟨er, her⟩ := nE (Zcy s p);obtain ⟨gs, hgs⟩ := nE (Wf s);obtain ⟨pw, hpw⟩ := nE ((Xf p).2);obtain ⟨nv, hnv⟩ := nE (Jf s p now);rw [hR, her, hnv] at HR;rw [her, hgs, hpw] at HE;rw [hR, her];rw [hgs, hpw, hnv] at HCN HFT;obtain ⟨m, hm⟩ := nE (p.ops.length);rw [hm] at HCN ⊢;clear hR her hgs hpw hnv hm hin hok hnow ha hlt;obtain ⟨lv, rg, wn, ou, qu, vi⟩ := s;obtain ⟨nm, dl, jp, ops⟩ := p;unfold Uk.val Xl.val at HCN ⊢;simp only at HCN ⊢;have HL := hid hl; have HI := hid hi;have HRB : Hid (∀ W, Below w.heap.size w W → Rd W AL (Yt l)) := fun W hb => hr.below hb;clear hl hi hr;obtain ⟨wa, hwa⟩ := nE (((w.alloc (.cells #[lv, rg, wn, ou, qu, vi] 23)).alloc (.cells #[nm, dl, jp, .slice A m c] 26)).alloc (.cells #[] 121));have HBA : Hid (Below w.heap.size w wa) := hwa ▸ Qq _ _ _ _;have HSA : Hid (Blk wa w.heap.size 23 #[lv, rg, wn, ou, qu, vi]) := hwa ▸ ((Blk.new w _ _).alloc _).alloc _;have HPA : Hid (Blk wa (w.heap.size + 1) 26 #[nm, dl, jp, .slice A m c]) := hwa ▸ (Gz _ _ _ _).alloc _
 have HOA : Hid (wa.ownsRow w.heap.size 121 9 (.slice (some ⟨w.heap.size + 2, 0, none⟩) 0 0) 0 []) := by
  rw [Hid, ← hwa];have := World.ownsRow_made (base := w.heap.size) (e := 121) (size := 9) ((w.alloc (.cells #[lv, rg, wn, ou, qu, vi] 23)).alloc (.cells #[nm, dl, jp, .slice A m c] 26)) #[] 0 af cd ah;simpa using this
 have HWA := hid hwa;clear hwa;have CN := hid (HCN.out wa HBA.out (HOA.lt _ rfl).2);obtain ⟨gx, hgx⟩ := nE (w.heap.size);have HGX := hid hgx;rw [hgx] at HSA HPA HOA CN;clear hgx;obtain ⟨x0, x1, x2, x3, x4, x5⟩ := Yk HSA.out;obtain ⟨p0, p1, p2, p3⟩ := Wc HPA.out;have hlx := HSA.lt; have hlp := HPA.lt;go_enter Tryz.func42, Tryz.ntmps42;go_upto_region 2 with fail
 try rw [show w.heap.size + 1 + 1 = w.heap.size + 2 from rfl]
 rw [HWA.out, HGX.out];clear HWA HCN;go_wp2_with fail;refine CN.mono ?_;rintro en w1 ⟨hb, v, ne, rfl, hne0, ⟨cs0, rfl, hl28, hone⟩, href⟩;have hne : ne = er := hne0.trans HE.symm;clear hne0;subst hne;have HREF := hid href; have HA := hid hone; have HL28 := hid hl28;have HB1 := bt HBA hb;have HO1 := hid (Yc HOA.out hb);have HSZ0 : Hid (w.heap.size ≤ wa.heap.size ∧ wa.heap.size ≤ w1.heap.size ∧ gx + 2 < wa.heap.size) := ⟨HBA.size, hb.size, (HOA.lt _ rfl).2⟩;clear hb hl28 hone href x0 x1 x2 x3 x4 x5 p0 p1 p2 p3 hlx hlp HSA HPA HBA HOA CN;have HSZ1 : Hid ((Tryz.prog.info? 41).map (·.size) = some cs0.toArray.size) := by rw [Hid, Zk, List.size_toArray, HL28.out]
 have HSZ2 : Hid ((#[.int .i64 0, .int .i64 0, .int .i64 0, .int .i64 0, .int .i64 0, .int .i64 0, .string ⟨#[]⟩, .int .i64 0, .int .i64 0, .slice none 0 0, .int .i64 0, .int .i64 0, .int .i64 0, .int .i64 0, .int .i64 0, .int .i64 0, .string ⟨#[]⟩, .int .i64 0, .string ⟨#[]⟩, .int .i64 0, .slice none 0 0, .string ⟨#[]⟩, .string ⟨#[]⟩, .string ⟨#[]⟩, .int .i64 0, .int .i64 0, .bool false, .int .i64 0] : Array Value).size = cs0.toArray.size) := by
  have h28 : cs0.toArray.size = 28 := by rw [List.size_toArray, HL28.out]
  rw [Hid, h28]; rfl
 have HGQ : Hid (Blk (w1.alloc (.cells zd 41)) w1.heap.size 41 #[.int .i64 0, .int .i64 0, .int .i64 0, .int .i64 0, .int .i64 0, .int .i64 0, .string ⟨#[]⟩, .int .i64 0, .int .i64 0, .slice none 0 0, .int .i64 0, .int .i64 0, .int .i64 0, .int .i64 0, .int .i64 0, .int .i64 0, .string ⟨#[]⟩, .int .i64 0, .string ⟨#[]⟩, .int .i64 0, .slice none 0 0, .string ⟨#[]⟩, .string ⟨#[]⟩, .string ⟨#[]⟩, .int .i64 0, .int .i64 0, .bool false, .int .i64 0]) := Blk.new w1 _ _;go_upto_region 3 with (refine wpList_store_row rfl 41 _ _ rfl w1.heap.size cs0.toArray rfl rfl 41 _ HGQ.out HSZ1.out HSZ2.out HA.out ?_);obtain ⟨w3, hw3⟩ := nE ((w1.alloc (.cells zd 41)).setRow w1.heap.size cs0.toArray)
 have HBW : Hid (Below w1.heap.size w1 w3) := by
  rw [← hw3];have h1 : Below w1.heap.size w1 (w1.alloc (.cells zd 41)) := (Below.refl _ _).alloc (Nat.le_refl _) _;exact h1.trans ((Za.setRow (fun k => k = w1.heap.size) _ _ _ rfl).below h1.size (fun k (e : k = w1.heap.size) => by rw [e]; exact Nat.le_refl _))
 have HGR : Hid (Blk w3 w1.heap.size 41 cs0.toArray) := hw3 ▸ HGQ.setRow _;obtain ⟨gd, hgd⟩ := nE (w1.heap.size);have HGE : Hid (w1.heap.size = gd) := hgd;rw [hw3, hgd];rw [hgd] at HGR;clear hw3 HSZ1 HSZ2 HGQ hgd;have HO3 := hid (Yc HO1.out HBW.out);have HB3 := bt HB1 HBW;clear HO1 HB1;by_cases her : ne = 0
 ·subst her
  rw [show ((0 : Nat) : Int) = (0 : Int) from rfl];have HRF := hid (HR.trans (if_pos rfl));obtain ⟨b1, hb1⟩ := nE (wa.heap.size)
  have HGS : Hid (gs = true ∧ pw = 0) := by
   have h := HE.out;cases gs
   ·rw [if_pos rfl] at h; omega
   ·rw [if_neg ac] at h
    by_cases hp : pw = 0
    ·exact ⟨rfl, hp⟩
    ·rw [if_pos hp] at h; omega
  have HRCH := hid (HFT.out HGS.1 HGS.2);have HRV := hid (HREF.out rfl);obtain ⟨x, hx⟩ := nE (nv.come 0);rw [hx] at HRF HRCH HRV;rw [hb1] at HRV
  have HRG : Hid (Qh b1 (fun k => k = gx + 2 ∨ k = gd) w3 x (.agg cs0.toArray)) := by
   refine ⟨fun k h => ?_, fun W hk => HRV.out W ?_⟩
   ·have := HGR.lt; have := HSZ0.out; have := HBW.size
    rcases h with h | h <;> omega
   ·exact (Za.of_below HBW.out).trans hk (fun k h => h.elim (fun h => .inl (.inl h)) (fun h => .inr (by rw [h, HGE.out]; exact Nat.le_refl _)))
  have HBS : Hid (b1 ≤ w3.heap.size ∧ w.heap.size ≤ gd ∧ w.heap.size ≤ b1) := by have := HSZ0.out; have := HBW.size; have := HGE.out; rw [Hid, ← hb1]; omega
  have HNE0 : Hid (gx + 2 ≠ gd) := by have := HSZ0.out; have := HGE.out; rw [Hid]; omega
  clear hx hb1 HR HREF HFT HGS HRV HSZ0 HGE HBW HE;go_wp2_with fail
  go_loopw [13, 10] (fun iv ov wr => ∃ (i c' : Nat) (A' : Option Addr) (cs : List Value) (G : Nat → Prop), i ≤ n ∧ iv = .int .i64 (i : Int) ∧ ov = .slice A' i c' ∧ Below w.heap.size w wr ∧ b1 ≤ wr.heap.size ∧ wr.ownsRow gx 121 9 (.slice A' i c') i (Yn (Gb x (l.take i))) ∧
   Blk wr gd 41 cs.toArray ∧ cs.length = 28 ∧ cs.toArray.all (·.oneCell') = true ∧ Qh b1 G wr (Kc x (l.take i)) (.agg cs.toArray) ∧ G gd ∧ (∀ k, (Value.slice A' i c').ownBlock = some k → G k ∧ k ≠ gd) ∧ Zb7 (Kc x (l.take i))) (fun iv _ _ => n - (intOf iv).toNat)
  case atStart => exact ⟨0, 0, _, cs0, _, aa, rfl, rfl, HB3.out, HBS.1, HO3.out, HGR.out, HL28.out, HA.out, HRG.out, .inr rfl, fun k hk => by injection hk with hk; have e : k = gx + 2 := hk.symm; exact ⟨.inl e, by have := HNE0.out; omega⟩, HRCH.out⟩
  case round =>
   obtain ⟨i, c', A', cs, G, hi, rfl, rfl, hb, hbs, hown, hblk, hl28, hone, hrg, hgd, hgo, hrch⟩ := hrel;have HB := hid hb; have HOW := hid hown; have HBK := hid hblk; have HCL := hid hl28; have HCO := hid hone; have HRG2 := hid hrg; have HG2 := hid (And.intro hgd hgo); have HRC := hid hrch; have HBB := hid hbs;clear hb hbs hown hblk hl28 hone hrg hgd hgo hrch HB3 HO3 HGR HL28 HA HRG HRCH;by_cases hlt : i < n
   ·have hli : i < l.length := by rw [HL.out]; exact hlt
    have hget : l[i]? = some (l[i]'hli) := List.getElem?_eq_getElem hli;have hTK : l.take (i + 1) = l.take i ++ [l[i]'hli] := by rw [List.take_succ_eq_append_getElem hli]
    have hII := HI.out _ (List.getElem_mem hli);obtain ⟨iv, hiv⟩ := nE (l[i]'hli);rw [hiv] at hget hTK hII;have HTL : Hid (Gb x (l.take (i + 1)) = Gb x (l.take i) ++ [((Kc x (l.take i)).one iv).2]) := by rw [Hid, hTK, Zds]; rfl
    have HTS : Hid (Kc x (l.take (i + 1)) = ((Kc x (l.take i)).one iv).1) := by rw [Hid, hTK, Zdq]; rfl
    obtain ⟨y, hy⟩ := nE (Kc x (l.take i));rw [hy] at HTL HTS HRG2 HRC;obtain ⟨bl, off, rfl, hbl, hcc⟩ := (HRB.out wr HB.out).at (by rw [Kn]; omega);have hc : ∀ j u, j < 4 → iv.cells[j]? = some u → wr.cell? ⟨bl, off + (i * 4 + j), none⟩ = some u := fun j u hj hu => hcc _ u ((Zkc l i iv hget j hj).trans hu);have HRC2 := hid (HRC.one iv hII.1)
    have HIN : Hid (∀ W, Za G wr W → Calls Tryz.prog 68 #[.agg cs.toArray, .agg #[iv.kind, iv.b, iv.n, iv.tick]] W fun e w' => ∃ cs2 : List Value, e = .returned (.tuple #[.agg cs2.toArray, .int .i64 (y.one iv).2.n, .string (y.one iv).2.b, .agg #[.int .i64 (y.one iv).2.t, .int .i64 (y.one iv).2.loc, .int .i64 (y.one iv).2.what, .int .i64 (y.one iv).2.arm, .int .i64 (y.one iv).2.m, .int .i64 (y.one iv).2.st], .bool (y.one iv).2.did]) ∧
      cs2.length = 28 ∧ cs2.toArray.all (·.oneCell') = true ∧ Wj b1 G wr W w' (y.one iv).1 (.agg cs2.toArray) ∧ Below W.heap.size W w') := fun W hk => by
     obtain ⟨⟨B, F, w0, WW, d, hd⟩, hf, hj, hl⟩ := HRC.out;have hfc := hd.facts;refine (Zqr HRG2.out hk (Nat.le_trans HBB.out hk.size) hd.ok hj (fun h0 hk => hd.look hf hl h0 hk) hfc.1 hfc.2.1 (by have := hf.2; omega) hfc.2.2.1 iv ⟨hII.1.2.1, hII.1.2.2, hII.2⟩).mono ?_;rintro e w' ⟨v', rfl, hv, hb⟩;obtain ⟨cs2, rfl, h1, h2⟩ := hv.now.agg;exact ⟨cs2, rfl, h1, h2, hv, hb⟩
    obtain ⟨⟨y2, ou⟩, hou⟩ : ∃ y', y.one iv = y' := ⟨_, rfl⟩;rw [hou] at HTL HTS HIN HRC2;obtain ⟨ik, ib, inn, it⟩ := iv;have c0 := hc 0 _ aa rfl;have c1 := hc 1 _ aa rfl;have c2 := hc 2 _ aa rfl;have c3 := hc 3 _ aa rfl;simp only [Nat.add_zero, ← Nat.add_assoc] at c0 c1 c2 c3;obtain ⟨on, ob, ot, ol, ow, oa, om, os, od⟩ := ou;simp only at HIN HTL HTS HRC2;have hi2 : (i : Int) < (n : Int) := aa
    clear hget hTK hII hiv hou hc hcc hli hy;go_upto_region 7 with fail;obtain ⟨w2, hw2⟩ := nE (wr.alloc (.cells #[.int .i64 0, .string ⟨#[]⟩, .int .i64 0, .int .i64 0, .int .i64 0, .int .i64 0, .int .i64 0, .int .i64 0, .bool false] 121));have HO2 := bn hw2;have HB2 := ba hw2;rw [hw2];obtain ⟨go, hgo⟩ := nE (wr.heap.size);have HGO : Hid (wr.heap.size = go ∧ go < w2.heap.size) := ⟨hgo, by rw [← hgo]; exact HO2.lt⟩;rw [hgo] at HO2 ⊢;clear hw2 hgo;have hbl2 : bl < w2.heap.size := Nat.lt_of_lt_of_le hbl HB2.size;have T0 : ∀ q : BW w2.heap.size w2, q.1.cell? ⟨bl, off + i * 4, none⟩ = some (.int .i64 ik) := fun q => q.cellAt hbl2 ((HB2.cell (p := ⟨bl, off + i * 4, none⟩) hbl).trans c0);have T1 : ∀ q : BW w2.heap.size w2, q.1.cell? ⟨bl, off + i * 4 + 1, none⟩ = some (.string ib) := fun q => q.cellAt hbl2 ((HB2.cell (p := ⟨bl, off + i * 4 + 1, none⟩) hbl).trans c1);have T2 : ∀ q : BW w2.heap.size w2, q.1.cell? ⟨bl, off + i * 4 + 2, none⟩ = some (.int .i64 inn) := fun q => q.cellAt hbl2 ((HB2.cell (p := ⟨bl, off + i * 4 + 2, none⟩) hbl).trans c2);have T3 : ∀ q : BW w2.heap.size w2, q.1.cell? ⟨bl, off + i * 4 + 3, none⟩ = some (.int .i64 it) := fun q => q.cellAt hbl2 ((HB2.cell (p := ⟨bl, off + i * 4 + 3, none⟩) hbl).trans c3);have HBK2 := bb HBK HB2;have HXQ : Hid (∀ W, (∃ q : BW w2.heap.size w2, W = q.1) → Blk W gd 41 cs.toArray) := by rintro W ⟨q, rfl⟩; exact HBK2.below q.2 HBK2.lt
    clear c0 c1 c2 c3 hbl;refine Zg w2.heap.size [12, 14, 16, 18, 20] (.val 0 (.val 1 (.val 2 (.val 3 (.val 4 (.op 5 (.val 6 (.val 7 (.val 8 (.val 9 (.val 10 (.val 11 (.op 12 (.val 13 (.op 14 (.val 15 (.op 16 (.val 17 (.op 18 (.val 19 (.op 20 (.nil)))))))))))))))))))))) ab ab ?_;obtain ⟨wc, hwc, HBW⟩ := dw w2;rw [hwc];clear hwc;refine Zw rfl rfl (Xp HBW.out) ?_;refine BigFrame.wpQuiet_want rfl fun K hK => ?_;refine Zkv rfl rfl HXQ.out (Ya cs HCL.out) ?_;refine hK _ ?_;simp only [Act.put, List.setIfInBounds_toArray, List.set_cons_succ, List.set_cons_zero];clear hK;clear K;refine wpQuiet_nil ?_
    iterate 3 (refine Zd rfl rfl ?_; go_big_quiet_step (fail); refine wpQuiet_nil ?_)
    refine Zw rfl rfl (Xp HBW.out) ?_
    go_big_quiet_step (fail)
    refine wpQuiet_nil ?_;have HBC : Hid (Below wr.heap.size wr wc) := HB2.trans (HBW.mono HB2.size);have CQ := hid (HIN.out wc (Za.of_below HBC.out));refine Ze rfl ?_;go_wp2_with fail;refine CQ.mono ?_;rintro en wd ⟨cs2, rfl, hl2, ha2, hrv, hb2⟩;have HBD : Hid (Below w2.heap.size w2 wd) := HBW.trans (hb2.mono HBW.size);have HBE : Hid (Below wr.heap.size wr wd) := HBC.trans (hb2.mono HBC.size);have HCL2 := hid hl2; have HCA := hid ha2; have HRV := hid hrv;have HSZ1 : Hid ((Tryz.prog.info? 41).map (·.size) = some cs2.toArray.size) := by rw [Hid, Zk, List.size_toArray, hl2]
    have HSZ2 : Hid (cs.toArray.size = cs2.toArray.size) := by rw [Hid, List.size_toArray, List.size_toArray, hl2, HCL.out]
    have HSC : Hid (wr.heap.size ≤ wc.heap.size ∧ w2.heap.size ≤ wc.heap.size ∧ wc.heap.size ≤ wd.heap.size) := ⟨HBC.size, HBW.size, hb2.size⟩;have HGD := bb HBK2 HBD;have HOD := bb HO2 HBD;clear hl2 ha2 hb2 hrv CQ T0 T1 T2 T3 HXQ HIN HBK2 HO2 HBW HBC;go_wp2_with fail;refine KT.keep (Xp HBD.out) ?_
    iterate 6 (refine Zd rfl rfl ?_; go_big_quiet_step (fail); refine wpQuiet_nil ?_)
    refine Ze rfl ?_;go_wp2_with (refine wpList_store_row rfl 41 _ _ rfl gd cs2.toArray rfl rfl 41 _ HGD.out HSZ1.out HSZ2.out HCA.out ?_);refine KT.past rfl ?_;obtain ⟨we, hwe⟩ := nE (wd.setRow gd cs2.toArray);have HKE : Hid (Za (fun k => k = gd) wd we) := hwe ▸ Zv;have HGE : Hid (Blk we gd 41 cs2.toArray) := hwe ▸ HGD.setRow _
    have HNE : Hid (go ≠ gd) := by
     have h1 := HBK.lt; have h2 := HGO.1; intro e; omega
    have HOE := hid (HKE.blk HOD.out HNE.out);rw [hwe];clear hwe HSZ1 HSZ2 HGD HOD;refine Zd rfl rfl ?_;simp only [Act.put]
    go_big_quiet_step (fail)
    refine wpQuiet_nil ?_;have y0 := HOE.cell 0; have y1 := HOE.cell 1; have y2' := HOE.cell 2; have y3 := HOE.cell 3; have y4 := HOE.cell 4; have y5 := HOE.cell 5; have y6 := HOE.cell 6; have y7 := HOE.cell 7; have y8 := HOE.cell 8;have fz := fun j => HOE.frozen j;have hgol := HOE.lt;refine Ze rfl ?_;go_wp2_with fail;refine KT.past rfl ?_;refine Zd rfl rfl ?_; go_big_quiet_step (fail); refine wpQuiet_nil ?_;refine Ze rfl ?_;go_wp2_with fail;refine KT.past rfl ?_;refine Zd rfl rfl ?_; go_big_quiet_step (fail); refine wpQuiet_nil ?_;refine Ze rfl ?_;go_wp2_with fail;refine KT.past rfl ?_;refine Zd rfl rfl ?_; go_big_quiet_step (fail); refine wpQuiet_nil ?_;refine Ze rfl ?_;go_wp2_with fail;refine KT.past rfl ?_;refine Zi ?_;obtain ⟨wz, hwz⟩ := nE (Zbc we go (.int .i64 on) (.string ob) (.int .i64 ot) (.int .i64 ol) (.int .i64 ow) (.int .i64 oa) (.int .i64 om) (.int .i64 os) (.bool od));have HKZ : Hid (Za (fun k => k = go) we wz) := hwz ▸ Jr _ _ _ _ _ _ _ _ _ _ _;have HBZ := hid (Ge HOE.out (.int .i64 on) (.string ob) (.int .i64 ot) (.int .i64 ol) (.int .i64 ow) (.int .i64 oa) (.int .i64 om) (.int .i64 os) (.bool od));rw [hwz] at HBZ;unfold Zbc at hwz;rw [hwz];clear hwz y0 y1 y2' y3 y4 y5 y6 y7 y8 fz hgol HOE
    have HG3 : Hid (Qh b1 (fun k => G k ∨ wr.heap.size ≤ k ∧ k < wc.heap.size) wz y2 (.agg cs2.toArray)) := by
     refine ((Qh.keep ⟨fun k h => ?_, HRV.out⟩ (HKE.mono ?_)).keep (HKZ.mono ?_))
     ·have := HSC.out
      exact h.elim (fun h => by have := HRG2.1 k h; omega) (fun h => aa)
     ·intro k _ (h : k = gd); rw [h]; exact .inl HG2.1
     ·intro k _ (h : k = go); have := HSC.out; have := HGO.out; exact .inr aa
    have HNG : Hid (∀ k, (Value.slice A' i c').ownBlock = some k → k < wr.heap.size) := fun k hk => (HOW.lt k hk).2
    have HOZ : Hid (wz.ownsRow gx 121 9 (.slice A' i c') i (Yn (Gb x (l.take i)))) := by
     refine HKZ.own (HKE.own (Yc HOW.out HBE.out) ?_) ?_
     ·exact fun k hk => (HG2.2 k hk).2
     ·intro k hk (h : k = go); have := HNG.out _ hk; have := HGO.1; omega
    have HGZ : Hid (Blk wz gd 41 cs2.toArray) := HKZ.blk HGE.out (fun h => HNE.out h.symm)
    have HSZ : Hid (wr.heap.size ≤ wz.heap.size ∧ gx ≤ wz.heap.size ∧ w.heap.size ≤ wz.heap.size) := by
     have := HSC.out; have := HKE.size; have := HKZ.size; have := HB.size; have := HGX.out; rw [Hid]; omega
    have HGDL : Hid (w.heap.size ≤ gd ∧ gd < wr.heap.size) := ⟨HBS.2.1, HBK.lt⟩
    have HBZ2 : Hid (Below w.heap.size w wz) := by
     refine (HB.trans (HBE.mono HB.size)).trans (((HKE.below (B := w.heap.size) ?_ ?_)).trans (HKZ.below ?_ ?_))
     ·have := HSC.out; have := HB.size; omega
     ·intro k (h : k = gd); rw [h]; exact HGDL.1
     ·have := HSC.out; have := HB.size; have := HKE.size; omega
     ·intro k (h : k = go); have := HGO.out; have := HB.size; omega
    obtain ⟨z0, z1, z2, z3, z4, z5, z6, z7, z8⟩ := Qn HBZ.out;have fz := fun j => HBZ.frozen j;have hgol := HBZ.lt;go_wp2_with (at_builtin; refine Wb _ rfl _ _ 77 rfl gx 121 _ 9 80 Tryz.underlying77 Zft rfl ac _ _ _ rfl HOZ.out 1 [on, ob, ot, ol, ow, oa, om, os, od] rfl rfl rfl ?_ ac HSZ.2.1 ?_)
    ·omega
    intro g5 c5 w5 hown5 hk5 hf5
    have HO5 : Hid (w5.ownsRow gx 121 9 (.slice (some ⟨g5, 0, none⟩) (i + 1) c5) (i + 1) (Yn (Gb x (l.take (i + 1))))) := by
     rw [Hid, HTL.out, Ns]; exact hown5
    have HNF : Hid (∀ k, (Value.slice A' i c').ownBlock = some k → G k ∧ k ≠ gd) := HG2.2
    have HR5 : Hid (Qh b1 (Fup (fun k => G k ∨ wr.heap.size ≤ k ∧ k < wc.heap.size) wz w5) w5 (Kc x (l.take (i + 1))) (.agg cs2.toArray)) := by
     rw [Hid, HTS.out];exact HG3.up (hk5.mono fun k _ hk => .inl (HNF.out k hk).1)
    have HD5 : Hid (Blk w5 gd 41 cs2.toArray) := hk5.blk HGZ.out (fun h => (HNF.out _ h).2 rfl);have HRC5 : Hid (Zb7 (Kc x (l.take (i + 1)))) := by rw [Hid, HTS.out]; exact HRC2.out
    have HN5 : Hid (∀ k, (Value.slice (some ⟨g5, 0, none⟩) (i + 1) c5).ownBlock = some k → Fup (fun k => G k ∨ wr.heap.size ≤ k ∧ k < wc.heap.size) wz w5 k ∧ k ≠ gd) := by
     intro k hk;have hk' : g5 = k := by injection hk
     subst hk';rcases hf5 with h | h
     ·exact ⟨.inl (.inl (HNF.out _ h).1), (HNF.out _ h).2⟩
     ·exact ⟨.inr ⟨h, (HO5.lt _ rfl).2⟩, by have := HGDL.out; have := HSZ.out; omega⟩
    have HB5 : Hid (Below w.heap.size w w5) := HBZ2.trans (hk5.below HSZ.2.2 (fun k hk => by have := (HOZ.lt k hk).1; have := HGX.out; omega));have HS5 : Hid (b1 ≤ w5.heap.size) := Nat.le_trans HBB.out (Nat.le_trans HSZ.1 hk5.size);have HG5 : Hid (G gd) := HG2.1;clear hown5 hk5 hf5 z0 z1 z2 z3 z4 z5 z6 z7 z8 fz hgol HBZ HOZ HGZ HBZ2 HNF HSZ HTL HTS HG3;go_wp2_with fail;go_roundw
    case rel => exact ⟨i + 1, c5, some ⟨g5, 0, none⟩, cs2, _, aa, aw, rfl, HB5.out, HS5.out, HO5.out, HD5.out, HCL2.out, HCA.out, HR5.out, .inl (.inl HG5.out), HN5.out, HRC5.out⟩
    case measure => simp [intOf]; omega
   ·have hin : i = n := by omega
    have hi2 : ¬ (i : Int) < (n : Int) := aa
    have HRN : Hid (R = Gb x (l.take i) ∧ R.length = i) := by
     exact N95
    clear hin;go_wp2_with fail
    go_ret2
    rw [HRN.2, HRN.1];exact ⟨A', c', rfl, Vi HOW.out (Nat.le_of_eq HGX.out), HB.out⟩
 ·have hRR : R = [] := by rw [HR.out, if_neg her]
  have HRR := hid hRR;have hne : ((ne : Int) == 0) = false := bF aa;clear HR HREF HE hRR;go_wp2_with fail
  go_loopw [13, 10] (fun iv ov wr => iv = .int .i64 0 ∧ ov = .slice (some ⟨gx + 2, 0, none⟩) 0 0 ∧ wr = w3) (fun iv _ _ => n - (intOf iv).toNat)
  case atStart => exact ⟨rfl, rfl, rfl⟩
  case round =>
   obtain ⟨rfl, rfl, rfl⟩ := hrel;by_cases hn0 : 0 < (n : Int)
   ·exact N104
   ·exact N104
theorem Zhl (A : Option Addr) (n c : Nat) (l : List Ub) (w : World) (hl : l.length = n) (hn : n ≤ 1000000) (hr : Rd w A (Yn l)) :
  Calls Tryz.prog 46 #[.slice A n c] w fun e w' => ∃ A' c', e = .returned (.slice A' (Xc l).length c') ∧ w'.ownsRow w.heap.size 51 6 (.slice A' (Xc l).length c') (Xc l).length (Vb (Xc l)) ∧ Below w.heap.size w w' := by
 have HL := hid hl;have HRB : Hid (∀ W, Below w.heap.size w W → Rd W A (Yn l)) := fun W hb => hr.below hb;clear hl hr;go_enter Tryz.func46, Tryz.ntmps46;go_wp2_with fail
 go_loopw [4, 3] (fun iv zv wr => ∃ (i k c' : Nat) (A' : Option Addr), i ≤ n ∧ iv = .int .i64 (i : Int) ∧ zv = .slice A' k c' ∧ k = (Xc (l.take i)).length ∧ wr.ownsRow w.heap.size 51 6 (.slice A' k c') k (Vb (Xc (l.take i))) ∧ Below w.heap.size w wr) (fun iv _ _ => n - (intOf iv).toNat)
 case atStart => exact ⟨0, 0, 0, _, aa, rfl, rfl, rfl, by
  have := World.ownsRow_made (base := w.heap.size) (e := 51) (size := 6) w #[] 0 (Nat.le_refl _) cd ah;exact this, (Below.refl _ _).alloc (Nat.le_refl _) _⟩
 case round =>
  obtain ⟨i, k, c', A', hi, rfl, rfl, hk, hown, hb⟩ := hrel;have HB := hid hb; have HK := hid hk; have HO := hid hown;have HKL : Hid (k ≤ i) := jo
  clear hb hk hown;by_cases hlt : i < n
  ·have hli : i < l.length := by rw [HL.out]; exact hlt
   have hget : l[i]? = some (l[i]'hli) := List.getElem?_eq_getElem hli;obtain ⟨ov, hov⟩ := nE (l[i]'hli);rw [hov] at hget;have hTK : l.take (i + 1) = l.take i ++ [ov] := fu
   obtain ⟨bl, off, rfl, hbl, hcc⟩ := (HRB.out wr HB.out).at kn;have hc : ∀ j u, j < 9 → ov.cells[j]? = some u → wr.cell? ⟨bl, off + (i * 9 + j), none⟩ = some u := fun j u hj hu => hcc _ u ((Zcd l i ov hget j hj).trans hu);have HS : Hid (Xc (l.take (i + 1)) = if ov.what ≠ 0 then Xc (l.take i) ++ [ov] else Xc (l.take i)) := by rw [Hid, hTK, Zdm]
   obtain ⟨on, ob, ot, ol, ow, oa, om, os, od⟩ := ov;have c0 := hc 0 _ aa rfl;have c1 := hc 1 _ aa rfl;have c2 := hc 2 _ aa rfl;have c3 := hc 3 _ aa rfl;have c4 := hc 4 _ aa rfl;have c5 := hc 5 _ aa rfl;have c6 := hc 6 _ aa rfl;have c7 := hc 7 _ aa rfl;have c8 := hc 8 _ aa rfl;simp only [Nat.add_zero, ← Nat.add_assoc] at c0 c1 c2 c3 c4 c5 c6 c7 c8;have hi2 : (i : Int) < (n : Int) := aa
   simp only at HS;clear hget hov hc hcc hli hTK;have HO2 := hid HO.out;have hs2 : w.heap.size ≤ wr.heap.size := HB.size;clear HO;by_cases h0 : ow = 0
   ·have HS3 : Hid (Xc (l.take (i + 1)) = Xc (l.take i)) := by rw [Hid, HS.out, if_neg aa]
    have h0f := bT h0;clear HS;go_wp2_with fail;go_roundw
    case rel => exact ⟨i + 1, k, c', A', aa, aw, rfl, by rw [HS3.out]; exact HK.out, by rw [HS3.out]; exact HO2.out, HB.out⟩
    case measure => simp [intOf]; omega
   ·have HS3 : Hid (Xc (l.take (i + 1)) = Xc (l.take i) ++ [⟨on, ob, ot, ol, ow, oa, om, os, od⟩]) := by rw [Hid, HS.out, if_pos aa]
    have h0f := bF h0;have hkn : k ≤ 1000000 := by have := HKL.out; omega
    clear HS;go_wp2_with (at_builtin; refine Wb _ rfl _ _ 82 rfl w.heap.size 51 _ 6 48 Tryz.underlying82 Zbm rfl ac _ _ _ rfl HO2.out 1 [ot, ol, ow, oa, om, os] rfl rfl rfl ?_ ac hs2 ?_)
    ·omega
    intro g5 c5 w5 hown5 hk5 hf5
    have HO5 : Hid (w5.ownsRow w.heap.size 51 6 (.slice (some ⟨g5, 0, none⟩) (k + 1) c5) (k + 1) (Vb (Xc (l.take (i + 1))))) := by
     rw [Hid, HS3.out, Mm]; exact hown5
    have HB5 : Hid (Below w.heap.size w w5) := HB.trans (hk5.below hs2 (fun q hq => (HO2.lt q hq).1));exact N40
  ·exact N54
theorem Zkn (A : Option Addr) (n c : Nat) (B : Option Addr) (m k : Nat) (l : List Ub) (w : World) (hl : l.length = n) (hm : m = n) (hn : n ≤ 1000000) (ha : Rd w A (Yn l)) (hb : Rd w B (Yn l)) :
  Calls Tryz.prog 43 #[.slice A n c, .slice B m k] w fun e w' => e = .returned (.bool true) ∧ Below w.heap.size w w' := by
 subst hm;have HL := hid hl; have HA := hid ha; have HBB := hid hb;clear hl ha hb;go_enter Tryz.func43, Tryz.ntmps43;go_wp2_with fail
 go_loopw [5] (fun iv wr => ∃ i : Nat, i ≤ m ∧ iv = .int .i64 (i : Int) ∧ Below w.heap.size w wr) (fun iv _ => m - (intOf iv).toNat)
 case atStart => exact ⟨0, aa, rfl, Below.refl _ _⟩
 case round =>
  obtain ⟨i, hi, rfl, hb⟩ := hrel;have HB := hid hb;clear hb;by_cases hlt : i < m
  ·have hli : i < l.length := by rw [HL.out]; exact hlt
   have hget : l[i]? = some (l[i]'hli) := List.getElem?_eq_getElem hli;obtain ⟨ov, hov⟩ := nE (l[i]'hli);rw [hov] at hget;obtain ⟨b1, o1, rfl, hb1, hc1⟩ := (HA.below HB.out).at kn;obtain ⟨b2, o2, rfl, hb2, hc2⟩ := (HBB.below HB.out).at kn;have hd1 : ∀ j u, j < 9 → ov.cells[j]? = some u → wr.cell? ⟨b1, o1 + (i * 9 + j), none⟩ = some u := fun j u hj hu => hc1 _ u ((Zcd l i ov hget j hj).trans hu);have hd2 : ∀ j u, j < 9 → ov.cells[j]? = some u → wr.cell? ⟨b2, o2 + (i * 9 + j), none⟩ = some u := fun j u hj hu => hc2 _ u ((Zcd l i ov hget j hj).trans hu);obtain ⟨on, ob, ot, ol, ow, oa, om, os, od⟩ := ov;have e10 := hd1 0 _ aa rfl;have e11 := hd1 1 _ aa rfl;have e12 := hd1 2 _ aa rfl;have e13 := hd1 3 _ aa rfl;have e14 := hd1 4 _ aa rfl;have e15 := hd1 5 _ aa rfl;have e16 := hd1 6 _ aa rfl;have e17 := hd1 7 _ aa rfl;have e18 := hd1 8 _ aa rfl;have e20 := hd2 0 _ aa rfl;have e21 := hd2 1 _ aa rfl;have e22 := hd2 2 _ aa rfl;have e23 := hd2 3 _ aa rfl;have e24 := hd2 4 _ aa rfl;have e25 := hd2 5 _ aa rfl;have e26 := hd2 6 _ aa rfl;have e27 := hd2 7 _ aa rfl;have e28 := hd2 8 _ aa rfl;simp only [Nat.add_zero, ← Nat.add_assoc] at e10 e11 e12 e13 e14 e15 e16 e17 e18 e20 e21 e22 e23 e24 e25 e26 e27 e28;have T10 : ∀ q : BW wr.heap.size wr, q.1.cell? ⟨b1, o1 + i * 9, none⟩ = some (.int .i64 on) := fun q => q.cellAt hb1 e10;have T11 : ∀ q : BW wr.heap.size wr, q.1.cell? ⟨b1, o1 + i * 9 + 1, none⟩ = some (.string ob) := fun q => q.cellAt hb1 e11;have T12 : ∀ q : BW wr.heap.size wr, q.1.cell? ⟨b1, o1 + i * 9 + 2, none⟩ = some (.int .i64 ot) := fun q => q.cellAt hb1 e12;have T13 : ∀ q : BW wr.heap.size wr, q.1.cell? ⟨b1, o1 + i * 9 + 3, none⟩ = some (.int .i64 ol) := fun q => q.cellAt hb1 e13;have T14 : ∀ q : BW wr.heap.size wr, q.1.cell? ⟨b1, o1 + i * 9 + 4, none⟩ = some (.int .i64 ow) := fun q => q.cellAt hb1 e14;have T15 : ∀ q : BW wr.heap.size wr, q.1.cell? ⟨b1, o1 + i * 9 + 5, none⟩ = some (.int .i64 oa) := fun q => q.cellAt hb1 e15;have T16 : ∀ q : BW wr.heap.size wr, q.1.cell? ⟨b1, o1 + i * 9 + 6, none⟩ = some (.int .i64 om) := fun q => q.cellAt hb1 e16;have T17 : ∀ q : BW wr.heap.size wr, q.1.cell? ⟨b1, o1 + i * 9 + 7, none⟩ = some (.int .i64 os) := fun q => q.cellAt hb1 e17;have T18 : ∀ q : BW wr.heap.size wr, q.1.cell? ⟨b1, o1 + i * 9 + 8, none⟩ = some (.bool od) := fun q => q.cellAt hb1 e18;have T20 : ∀ q : BW wr.heap.size wr, q.1.cell? ⟨b2, o2 + i * 9, none⟩ = some (.int .i64 on) := fun q => q.cellAt hb2 e20;have T21 : ∀ q : BW wr.heap.size wr, q.1.cell? ⟨b2, o2 + i * 9 + 1, none⟩ = some (.string ob) := fun q => q.cellAt hb2 e21;have T22 : ∀ q : BW wr.heap.size wr, q.1.cell? ⟨b2, o2 + i * 9 + 2, none⟩ = some (.int .i64 ot) := fun q => q.cellAt hb2 e22;have T23 : ∀ q : BW wr.heap.size wr, q.1.cell? ⟨b2, o2 + i * 9 + 3, none⟩ = some (.int .i64 ol) := fun q => q.cellAt hb2 e23;have T24 : ∀ q : BW wr.heap.size wr, q.1.cell? ⟨b2, o2 + i * 9 + 4, none⟩ = some (.int .i64 ow) := fun q => q.cellAt hb2 e24;have T25 : ∀ q : BW wr.heap.size wr, q.1.cell? ⟨b2, o2 + i * 9 + 5, none⟩ = some (.int .i64 oa) := fun q => q.cellAt hb2 e25;have T26 : ∀ q : BW wr.heap.size wr, q.1.cell? ⟨b2, o2 + i * 9 + 6, none⟩ = some (.int .i64 om) := fun q => q.cellAt hb2 e26;have T27 : ∀ q : BW wr.heap.size wr, q.1.cell? ⟨b2, o2 + i * 9 + 7, none⟩ = some (.int .i64 os) := fun q => q.cellAt hb2 e27;have T28 : ∀ q : BW wr.heap.size wr, q.1.cell? ⟨b2, o2 + i * 9 + 8, none⟩ = some (.bool od) := fun q => q.cellAt hb2 e28;have hi2 : (i : Int) < (m : Int) := aa
   clear hget hov hc1 hc2 hd1 hd2 hli e10 e11 e12 e13 e14 e15 e16 e17 e18 e20 e21 e22 e23 e24 e25 e26 e27 e28;go_upto_region 6 with fail;refine Zh wr.heap.size ab ab ?_
   repeat (go_big_quiet_step (fail))
   refine wpQuiet_nil ?_;intro wu hqu;have HBU : Hid (Below wr.heap.size wr wu) := ak
   clear hqu T10 T11 T12 T13 T14 T15 T16 T17 T18 T20 T21 T22 T23 T24 T25 T26 T27 T28 hb1 hb2;exact N89
  ·exact N116
end Go.Proofs.YtpkkfdmhbbipoaaGreat
