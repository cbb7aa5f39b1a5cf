/- Walks: the reference's deadlines, its writer, what a step costs. Walks: the reference's dialogue comes to an op. -/
import Derived.Test.YtpkkfdmhbbipoaaGreatRe
namespace Go.Proofs.YtpkkfdmhbbipoaaGreat
set_option maxRecDepth 20000
set_option maxHeartbeats 4000000
open Go.RowKit PopT
theorem Wa : (Tryz.prog.info? 39).map (·.size) = some 5 := by kernel_rfl
theorem Znk (l : List Int) (x : Int) : Va (l ++ [x]) = if Xa x < Va l then Xa x else Va l := by
 rw [Zd2]; split <;> omega
theorem N58{P:Prop}(h:P:=by
 go_wp2_with fail;refine (CO.out _).mono ?_;rintro en w1 ⟨rfl, rfl⟩;go_wp2_with fail;go_roundw
 case rel => exact ⟨i + 1, aa, aw, by rw [HF.out], trivial⟩
 case measure => simp [intOf]; omega):P:=h
theorem Zkt (A : Option Addr) (n c : Nat) (l : List Int) (w : World) (hl : l.length = n) (hn : n ≤ 100000) (hr : Rd w A (Vn l)) : Calls Tryz.prog 153 #[.slice A n c] w fun e w' => e = .returned (.int .i64 (Va l)) ∧ w = w' := by
 have HL := hid hl; have HRD := hid hr;have HST := hid (fun (l : List Int) x => Znk l x);obtain ⟨R, hR⟩ := nE (Va l);have HR : Hid (Va l = R) := hR;rw [hR];clear hl hr hR;go_enter Tryz.func153, Tryz.ntmps153;go_wp2_with fail
 go_loopw [3, 4] (fun mv iv wr => ∃ i : Nat, i ≤ n ∧ iv = .int .i64 (i : Int) ∧ mv = .int .i64 (Va (l.take i)) ∧ w = wr) (fun _ iv _ => n - (intOf iv).toNat)
 case atStart => exact ⟨0, aa, rfl, rfl, rfl⟩
 case round =>
  obtain ⟨i, hi, rfl, rfl, rfl⟩ := hrel;by_cases hlt : i < n
  ·have hk : i < l.length := by rw [HL.out]; exact hlt
   obtain ⟨b, off, rfl, hbl, hc⟩ := HRD.at (by rw [Zeg, HL.out]; omega);have c0 := hc i _ (Zhr l i hk);have HS := hid (HST.out (l.take i) (l[i]'hk));rw [← List.take_succ_eq_append_getElem hk] at HS;have CO := hid (fun W => Ki (l[i]'hk) W);obtain ⟨t, ht⟩ := nE (l[i]'hk);rw [ht] at c0 HS CO;obtain ⟨ot, hot⟩ := nE (Xa t);rw [hot] at HS CO;obtain ⟨m, hm⟩ := nE (Va (l.take i));rw [hm] at HS ⊢;clear ht hot hm hc hk;by_cases h : ot < m
   ·have HF : Hid (Va (l.take (i + 1)) = ot) := HS.trans (if_pos h)
    clear HS;go_wp2_with fail;refine (CO.out _).mono ?_;rintro en w1 ⟨rfl, rfl⟩;exact N58
   ·have HF : Hid (Va (l.take (i + 1)) = m) := HS.trans (if_neg h)
    clear HS;exact N58
  ·have HF : Hid (Va (l.take i) = R) := by rw [Hid, List.take_of_length_le bj]; exact HR.out
   rw [HF.out];go_wp2_with fail;go_ret;exact ⟨rfl, rfl⟩
theorem Zm4 (d : Vs) (t : Int) (w : World) : Calls Tryz.prog 118 #[d.val, t] w fun e w' => e = .returned (d.cuts t).val ∧ Below w.heap.size w w' := by
 obtain ⟨a, b, c⟩ := d;unfold Vs.cuts Vs.val;simp only;obtain ⟨wz, hwz⟩ := nE (((w.alloc (.cells #[a, b, c] 34)).alloc (.cells #[.int .i64 0, .int .i64 0, .int .i64 0] 34)).alloc (.cells #[c, t] 2));have HB : Hid (Below w.heap.size w wz) := hwz ▸ Qq _ _ _ _;have HD : Hid (Blk wz w.heap.size 34 #[a, b, c]) := hwz ▸ ((Blk.new w _ _).alloc _).alloc _;have HR2 : Hid (Blk wz (w.heap.size + 1) 34 #[.int .i64 0, .int .i64 0, .int .i64 0]) := hwz ▸ (Gz _ _ _ _).alloc _;have HS : Hid (Blk wz (w.heap.size + 2) 2 #[c, t]) := hwz ▸ Zj4 _ _ _ _ _;have CL := hid (Zkt (some ⟨w.heap.size + 2, 0, none⟩) 2 2 [c, t] wz rfl aa (.inr ⟨w.heap.size + 2, 0, rfl, HS.lt, fun j u hj => by rw [Nat.zero_add, HS.cell]; simpa [Vn] using hj⟩));have HWZ := hid hwz;obtain ⟨R, hR⟩ := nE (Va [c, t]);rw [hR] at CL ⊢;clear hwz hR;go_enter Tryz.func118, Tryz.ntmps118;go_wp2_with fail
 try rw [show w.heap.size + 1 + 1 = w.heap.size + 2 from rfl]
 rw [HWZ.out];obtain ⟨gd, hgd⟩ := nE (w.heap.size);have HGD := hid hgd;obtain ⟨gr, hgr⟩ := nE (w.heap.size + 1);obtain ⟨gs, hgs⟩ := nE (w.heap.size + 2);rw [hgd] at HD;rw [hgr] at HR2;rw [hgs] at CL;have HNE : Hid (gd ≠ gr ∧ w.heap.size ≤ gd ∧ w.heap.size ≤ gr) := by rw [Hid, ← hgd, ← hgr]; omega
 rw [hgs, hgr, hgd];clear hgd hgr hgs HS HWZ;refine CL.mono ?_;rintro en w1 ⟨rfl, rfl⟩;obtain ⟨x0, x1, x2⟩ : wz.cell? ⟨gd, 0, none⟩ = some (.int .i64 a) ∧ wz.cell? ⟨gd, 1, none⟩ = some (.int .i64 b) ∧ wz.cell? ⟨gd, 2, none⟩ = some (.int .i64 c) := ⟨HD.cell 0, HD.cell 1, HD.cell 2⟩;obtain ⟨y0, y1, y2⟩ : wz.cell? ⟨gr, 0, none⟩ = some (.int .i64 0) ∧ wz.cell? ⟨gr, 1, none⟩ = some (.int .i64 0) ∧ wz.cell? ⟨gr, 2, none⟩ = some (.int .i64 0) := ⟨HR2.cell 0, HR2.cell 1, HR2.cell 2⟩;have xf := Yu HD.out; have yf := Yu HR2.out;have xl := HD.lt; have yl := HR2.lt;have hne := HNE.1;go_wp2_with fail;obtain ⟨wf, hwf⟩ := nE (Xe (wz.setCell ⟨gd, 2, none⟩ (.int .i64 R)) gr 0 [a, b, R]);have HK : Hid (Za (fun k => k = gd) wz (wz.setCell ⟨gd, 2, none⟩ (.int .i64 R))) := Za.setCell (fun k => k = gd) wz ⟨gd, 2, none⟩ _ rfl;have HRF : Hid (Blk wf gr 34 #[a, b, R]) := hwf ▸ Zoz (HK.blk HR2.out (fun e => HNE.1 e.symm)) _ rfl;have HBF : Hid (Below w.heap.size w wf) := by rw [← hwf]; exact (HB.trans (HK.below HB.size (fun k (e : k = gd) => bq))).trans ((Xh gr _ _ _).below (Nat.le_trans HB.size HK.size) (fun k (e : k = gr) => by rw [e]; exact HNE.2.2))
 simp only [Xe, Nat.reduceAdd] at hwf;rw [hwf];clear hwf HK x0 x1 x2 y0 y1 y2 xf yf xl yl;obtain ⟨z0, z1, z2⟩ : wf.cell? ⟨gr, 0, none⟩ = some (.int .i64 a) ∧ wf.cell? ⟨gr, 1, none⟩ = some (.int .i64 b) ∧ wf.cell? ⟨gr, 2, none⟩ = some (.int .i64 R) := ⟨HRF.cell 0, HRF.cell 1, HRF.cell 2⟩;exact bodyPost_ret (v := .agg #[a, b, R]) (by simp [results, Tryz.results118, go_sem, z0, z1, z2]) rfl ⟨rfl, HBF.out⟩
theorem Zix (t now : Int) : Ww (Xa t) now = Ww t now := by
 unfold Ww Xa Xr;rw [Bool.eq_iff_iff];simp only [Bool.and_eq_true, decide_eq_true_eq]
 (repeat split) <;> omega
theorem N70{P:Prop}(h:P:=by
 go_wp2_with fail;go_ret;rw [HZ.out, HGD.out]; exact ⟨rfl, by have := HB7.out; rwa [HGD.out] at this⟩):P:=h
theorem N68{P:Prop}(h:P:=by
 refine wpQuiet_nil ?_;intro w6 hq6;have HB6 : Hid (Below w5.heap.size w5 w6) := ir
 clear hq6;go_wp2_with fail;go_meet;exact ⟨by rw [HZ.out], HB6.out⟩):P:=h
theorem Zgm (d : Vs) (now : Int) (w : World) : Calls Tryz.prog 129 #[d.val, now] w fun e w' => e = .returned ((d.over now : Nat) : Int) ∧ Below w.heap.size w w' := by
 obtain ⟨a, b, c⟩ := d
 have HR0 : Hid ((Vs.mk a b c).over now = if Xa b ≤ Xa c ∧ Ww b now = true then 3 else if Xa c < Xa b ∧ Ww c now = true then 5 else 0) := by
  unfold Vs.over; simp only; rw [Zix, Zix]; exact rfl
 obtain ⟨R, hR⟩ := nE ((Vs.mk a b c).over now);rw [hR] at HR0 ⊢;unfold Vs.val;simp only;clear hR;go_enter Tryz.func129, Tryz.ntmps129;go_upto_region 1 with fail;obtain ⟨wb, hwb⟩ := nE (w.alloc (.cells #[a, b, c] 34));have HB := ba hwb;have HD := bn hwb;rw [hwb];clear hwb;obtain ⟨gd, hgd⟩ := nE (w.heap.size);have HGD := hid hgd;rw [hgd] at HD ⊢;clear hgd;have T1 := tA HD.out 1 b rfl;have T2 := tA HD.out 2 c rfl;refine Zh wb.heap.size ab ab ?_
 repeat (go_big_quiet_step ((go_at_call 131; exact Gi (Zez _ _ _))))
 refine wpQuiet_nil ?_;intro w5 hq5;have HB5 : Hid (Below wb.heap.size wb w5) := iu
 clear hq5 T1 T2;obtain ⟨p, hp⟩ := nE (Ww b now);obtain ⟨q, hq⟩ := nE (Ww c now);rw [hp, hq] at HR0;rw [hp, hq];clear hp hq;have HD5 := bb HD HB5;have HBW := bt HB HB5;clear HD HB HB5;have T1 := tA HD5.out 1 b rfl;have T2 := tA HD5.out 2 c rfl;obtain ⟨r1, hr1⟩ := nE ((p && decide (Xa b ≤ Xa c)));have HR1 := hid hr1;go_upto_region 2 with fail
 go_cut [24] (fun s wx => s = .bool r1 ∧ Below w5.heap.size w5 wx)
 case first =>
  cases p
  ·have HZ : Hid (r1 = false) := by rw [Hid, ← HR1.out]; rfl
   refine Zh w5.heap.size ab ab ?_
   repeat (go_big_quiet_step (fail))
   exact N68
  ·have HZ : Hid (r1 = decide (Xa b ≤ Xa c)) := by rw [Hid, ← HR1.out]; rfl
   refine Zh w5.heap.size ab ab ?_
   repeat (go_big_quiet_step ((go_at_call 47; exact Gi (Ki _ _))))
   exact N68
 case rest =>
  obtain ⟨rfl, hb6⟩ := hcut;have HBX := bt HBW hb6;have HD6 := bb HD5 hb6;clear hb6 T1 T2 HD5 HBW hr1;cases r1;rotate_left
  ·have HZ : Hid (R = 3) := by
    have h := HR1.out;rw [Bool.and_eq_true, decide_eq_true_eq] at h;rw [Hid, HR0.out, if_pos ⟨h.2, h.1⟩]
   clear HR0 HR1;go_wp2_with fail;go_ret;rw [HZ.out, HGD.out]; exact ⟨rfl, by have := HBX.out; rwa [HGD.out] at this⟩
  have HR2 : Hid (R = if Xa c < Xa b ∧ q = true then 5 else 0) := by
   have h := HR1.out;rw [Hid, HR0.out, if_neg];rintro ⟨h1, h2⟩;rw [h2, decide_eq_true h1] at h;cases h
  clear HR0 HR1;have T1 := tA HD6.out 1 b rfl;have T2 := tA HD6.out 2 c rfl;go_upto_region 4 with fail;cases q
  ·have HZ : Hid (R = 0) := by rw [Hid, HR2.out, if_neg]; exact fun h => by cases h.2
   refine Zh wc.heap.size ab ab ?_
   repeat (go_big_quiet_step (fail))
   refine wpQuiet_nil ?_;intro w6 hq6;have HB6 : Hid (Below wc.heap.size wc w6) := ir
   have HB7 := bt HBX HB6;clear hq6;exact N70
  ·have HR3 : Hid (R = if Xa c < Xa b then 5 else 0) := by rw [Hid, HR2.out]; simp
   refine Zh wc.heap.size ab ab ?_
   repeat (go_big_quiet_step ((go_at_call 47; exact Gi (Ki _ _))))
   refine wpQuiet_nil ?_;intro w6 hq6;have HB6 : Hid (Below wc.heap.size wc w6) := ir
   have HB7 := bt HBX HB6;clear hq6 T1 T2;by_cases h : Xa c < Xa b
   ·have HZ : Hid (R = 5) := by rw [Hid, HR3.out, if_pos h]
    clear HR2 HR3;exact N70
   ·have HZ : Hid (R = 0) := by rw [Hid, HR3.out, if_neg h]
    clear HR2 HR3;exact N70
theorem Zm2 (dn ot rs : ByteArray) (mo : Nat) (tr : Int) (w : World) (hm : 1 ≤ mo ∧ mo ≤ 4096) (hs : rs.size ≤ 1000) :
  Calls Tryz.prog 133 #[pr20 dn ot rs mo tr] w fun e w' => e = .returned (.tuple #[pr20 dn (if ot.size = 0 then rs.extract 0 (min rs.size mo) else ot) (if ot.size = 0 then rs.extract (min rs.size mo) rs.size else rs) mo tr, ((if ot.size = 0 then min rs.size mo else 0 : Nat) : Int)]) ∧ Below w.heap.size w w' := by
 have CW := hid (fun W => Zaj (rs.size : Int) 0 (mo : Int) W);have HK0 : Hid (Vf (rs.size : Int) 0 (mo : Int) = ((min rs.size mo : Nat) : Int)) := by rw [Hid]; unfold Vf; (repeat split) <;> omega
 rw [HK0.out] at CW;obtain ⟨k, hk⟩ := nE (min rs.size mo);have hk1 : k ≤ rs.size := aa
 have hk2 : (k : Int) ≤ (rs.size : Int) := aa
 have hk3 : (k : Int) ≤ 1000 := aa
 rw [hk] at CW ⊢;unfold pr20;obtain ⟨wz, hwz⟩ := nE ((w.alloc (.cells #[dn, ot, rs, (mo : Int), tr] 39)).alloc (.cells #[.string ⟨#[]⟩, .string ⟨#[]⟩, .string ⟨#[]⟩, .int .i64 0, .int .i64 0] 39));have HB : Hid (Below w.heap.size w wz) := hwz ▸ Uu _ _ _;have HD : Hid (Blk wz w.heap.size 39 #[dn, ot, rs, (mo : Int), tr]) := hwz ▸ (Blk.new w _ _).alloc _;have HR2 : Hid (Blk wz (w.heap.size + 1) 39 #[.string ⟨#[]⟩, .string ⟨#[]⟩, .string ⟨#[]⟩, .int .i64 0, .int .i64 0]) := hwz ▸ Gz _ _ _ _;have HWZ := hid hwz;clear hwz hk HK0;obtain ⟨gd, hgd⟩ := nE (w.heap.size);obtain ⟨gr, hgr⟩ := nE (w.heap.size + 1);have HNE : Hid (gd ≠ gr ∧ w.heap.size ≤ gd ∧ w.heap.size ≤ gr) := by rw [Hid, ← hgd, ← hgr]; omega
 have HGD := hid hgd; have HGR := hid hgr;rw [hgd] at HD;rw [hgr] at HR2;clear hgd hgr;by_cases h0 : ot.size = 0
 ·obtain ⟨c1, c2, c3⟩ : (if ot.size = 0 then rs.extract 0 k else ot) = rs.extract 0 k ∧ (if ot.size = 0 then rs.extract k rs.size else rs) = rs.extract k rs.size ∧ (if ot.size = 0 then k else 0) = k := ⟨if_pos h0, if_pos h0, if_pos h0⟩
  rw [c1, c2, c3];obtain rfl := (Gc ot).2 h0;clear c1 c2 c3 h0;go_enter Tryz.func133, Tryz.ntmps133;go_upto_region 1 with fail
  try rw [HWZ.out]
  try rw [HGR.out]
  try rw [HGD.out]
  clear HWZ;obtain ⟨x0, x1, x2, x3, x4⟩ := Vr HD.out;have xf := Yu HD.out;have xl := HD.lt;go_wp2_with fail;refine (CW.out _).mono ?_;rintro en w1 ⟨rfl, rfl⟩;have T2 : ∀ q : BW wz.heap.size wz, q.1.cell? ⟨gd, 2, none⟩ = some (.string rs) := fun q => q.cellAt xl x2;go_upto_region 4 with fail;refine Zg wz.heap.size [9, 11] (.val 0 (.val 1 (.val 2 (.val 3 (.val 4 (.val 5 (.val 6 (.val 7 (.val 8 (.op 9 (.val 10 (.op 11 (.nil))))))))))))) ab ab ?_;obtain ⟨wc, hwc, HBW⟩ := dw wz;rw [hwc];clear hwc
  iterate 9 ((first | refine Zd rfl rfl ?_ | refine Zw rfl rfl (Xp HBW.out) ?_); go_big_quiet_step (fail); refine wpQuiet_nil ?_)
  refine Ze rfl ?_;have y1 := (HD.below HBW.out HD.lt).cell 1; have y2 := (HD.below HBW.out HD.lt).cell 2; have yf := Yu (HD.below HBW.out HD.lt); have yl := (HD.below HBW.out HD.lt).lt;simp only [List.getElem?_toArray, List.getElem?_cons_zero, List.getElem?_cons_succ] at y1 y2;go_wp2_with fail;refine KT.past rfl ?_;refine Zd rfl rfl ?_
  go_big_quiet_step (fail)
  refine wpQuiet_nil ?_;refine Ze rfl ?_;go_wp2_with fail;refine KT.past rfl ?_;refine Zi ?_;obtain ⟨we, hwe⟩ := nE (Xe wc gd 1 [.string (rs.extract 0 k), .string (rs.extract k rs.size)]);have HDE : Hid (Blk we gd 39 #[dn, .string (rs.extract 0 k), .string (rs.extract k rs.size), (mo : Int), tr]) := hwe ▸ Ui (HD.below HBW.out HD.lt) 1 _ (Nat.le_of_ble_eq_true rfl) ab;have HK : Hid (Za (fun k => k = gd) wc we) := hwe ▸ Xh gd _ wc 1;have HRE : Hid (Blk we gr 39 #[.string ⟨#[]⟩, .string ⟨#[]⟩, .string ⟨#[]⟩, .int .i64 0, .int .i64 0]) := HK.blk (HR2.below HBW.out HR2.lt) (fun e => HNE.1 e.symm);have HBE : Hid (Below w.heap.size w we) := HB.trans ((HBW.mono HB.size).trans (HK.below (Nat.le_trans HB.size HBW.size) (fun k (e : k = gd) => bq)));simp only [Xe, Nat.reduceAdd] at hwe;rw [hwe];clear hwe HK HBW T2 x0 x1 x2 x3 x4 xf xl y1 y2 yf yl;go_wp2_with (first | (refine wpList_load_mid rfl 39 _ rfl gd 0 rfl [dn, .string (rs.extract 0 k), .string (rs.extract k rs.size), (mo : Int), tr] _ (Blk.range HDE.out) Tryz.underlying39 rfl Wa ?_) | (refine wpList_store_row rfl 39 _ _ rfl gr #[dn, .string (rs.extract 0 k), .string (rs.extract k rs.size), (mo : Int), tr] rfl rfl 39 _ HRE.out Wa rfl ab ?_));have HRF : Hid (Blk (we.setRow gr #[dn, .string (rs.extract 0 k), .string (rs.extract k rs.size), (mo : Int), tr]) gr 39 #[dn, .string (rs.extract 0 k), .string (rs.extract k rs.size), (mo : Int), tr]) := HRE.setRow _;have HBF : Hid (Below w.heap.size w (we.setRow gr #[dn, .string (rs.extract 0 k), .string (rs.extract k rs.size), (mo : Int), tr])) := HBE.trans ((Za.setRow (fun k => k = gr) _ gr _ rfl).below HBE.size (fun k (e : k = gr) => by rw [e]; exact HNE.2.2));have hres := run_loadVar_mid (P := Tryz.prog) (we.setRow gr #[dn, .string (rs.extract 0 k), .string (rs.extract k rs.size), (mo : Int), tr]) gr 0 39 [dn, .string (rs.extract 0 k), .string (rs.extract k rs.size), (mo : Int), tr] _ (Blk.range HRF.out) Tryz.underlying39 rfl Wa;exact bodyPost_ret (v := .tuple #[.agg #[dn, .string (rs.extract 0 k), .string (rs.extract k rs.size), (mo : Int), tr], (k : Int)]) (Vv (Yl.cell rfl hres) (Yl.tmp rfl) Tryz.results133) rfl ⟨rfl, HBF.out⟩
 ·obtain ⟨c1, c2, c3⟩ : (if ot.size = 0 then rs.extract 0 k else ot) = ot ∧ (if ot.size = 0 then rs.extract k rs.size else rs) = rs ∧ (if ot.size = 0 then k else 0) = 0 := ⟨if_neg h0, if_neg h0, if_neg h0⟩
  rw [c1, c2, c3];have q1 : ¬ ot.toList = [] := fm
  have q2 : (ot.toList == []) = false := cy
  clear c1 c2 c3 h0;go_enter Tryz.func133, Tryz.ntmps133;go_upto_region 1 with fail
  try rw [HWZ.out]
  try rw [HGR.out]
  try rw [HGD.out]
  clear HWZ;obtain ⟨x0, x1, x2, x3, x4⟩ := Vr HD.out;have xl := HD.lt;go_wp2_with (first | (refine wpList_load_mid rfl 39 _ rfl gd 0 rfl [dn, ot, rs, (mo : Int), tr] _ (Blk.range HD.out) Tryz.underlying39 rfl Wa ?_) | (refine wpList_store_row rfl 39 _ _ rfl gr #[dn, ot, rs, (mo : Int), tr] rfl rfl 39 _ HR2.out Wa rfl ab ?_));have HRF : Hid (Blk (wz.setRow gr #[dn, ot, rs, (mo : Int), tr]) gr 39 #[dn, ot, rs, (mo : Int), tr]) := HR2.setRow _;have HBF : Hid (Below w.heap.size w (wz.setRow gr #[dn, ot, rs, (mo : Int), tr])) := HB.trans ((Za.setRow (fun k => k = gr) _ gr _ rfl).below HB.size (fun k (e : k = gr) => by rw [e]; exact HNE.2.2));have hres := run_loadVar_mid (P := Tryz.prog) (wz.setRow gr #[dn, ot, rs, (mo : Int), tr]) gr 0 39 [dn, ot, rs, (mo : Int), tr] _ (Blk.range HRF.out) Tryz.underlying39 rfl Wa;exact bodyPost_ret (v := .tuple #[.agg #[dn, ot, rs, (mo : Int), tr], .int .i64 0]) (Vv (Yl.cell rfl hres) (Yl.tmp rfl) Tryz.results133) rfl ⟨rfl, HBF.out⟩
theorem Zlz : (Tryz.prog.info? 37).map (·.size) = some 4 := by kernel_rfl
theorem Zg3 {w wz : World} {c1 c2 : Array Value} {t1 t2 : TypeId} (h : (w.alloc (.cells c1 t1)).alloc (.cells c2 t2) = wz) : ∃ gd gr, w.heap.size = gd ∧ w.heap.size + 1 = gr ∧ Hid (Blk wz gd t1 c1) ∧ Hid (Blk wz gr t2 c2) ∧ Hid (Below w.heap.size w wz) ∧ Hid (gd ≠ gr ∧ w.heap.size ≤ gd ∧ w.heap.size ≤ gr) := by
 subst h;exact ⟨_, _, rfl, rfl, (Blk.new w _ _).alloc _, Gz _ _ _ _, Uu _ _ _, aa, aa, aa⟩
theorem Zbs {P : Program} {w we : World} {gr gd : Nat} {t : TypeId} {xs : List Value} {z : Array Value} {d : TypeDesc} (_ : Blk we gd t xs.toArray) (hr : Blk we gr t z) (hb : Below w.heap.size w we) (hg : gd ≠ gr ∧ w.heap.size ≤ gd ∧ w.heap.size ≤ gr)
  (hu : P.underlying t = some d) (hdr : d.isRow = true) (hi : (P.info? t).map (·.size) = some xs.length) :
  (loadVar t ⟨gr, 0, none⟩).run P (we.setRow gr xs.toArray) = .ok (.agg xs.toArray) (we.setRow gr xs.toArray) ∧ Below w.heap.size w (we.setRow gr xs.toArray) ∧ Za (fun k => k = gr) we (we.setRow gr xs.toArray) :=
 ⟨run_loadVar_mid (P := P) _ gr 0 t xs d (Blk.range (hr.setRow _)) hu hdr hi, hb.trans ((Za.setRow (fun k => k = gr) _ gr _ rfl).below hb.size (fun k (e : k = gr) => by rw [e]; exact hg.2.2)), Za.setRow (fun k => k = gr) _ gr _ rfl⟩
def Zrj (mk : Int → Int → Value → ByteArray → ByteArray → ByteArray → Int → Value) (o : OpV) (nw se : Int) (V : Value) (dn ot rs : ByteArray) (tr : Int) (w : World) (e : Ending) (w' : World) : Prop :=
 Below w.heap.size w w' ∧ ∃ d1' se' V' dn' ot' rs' tr', e = .returned (mk d1' se' V' dn' ot' rs' tr') ∧
  ((o.kind = 1 ∧ d1' = Xr ∧ se' = se ∧ V' = V ∧ dn' = ⟨#[]⟩ ∧ ot' = ⟨#[]⟩ ∧ rs' = o.text) ∨
   (o.kind = 2 ∧ d1' = Yx nw o.n ∧ se' = 0 ∧ Na w.heap.size w' (Uz (o.arms.map Vd.pat)).1 V' ∧ dn' = dn ∧ ot' = ot ∧ rs' = rs ∧ tr' = tr) ∨
   (o.kind = 4 ∧ d1' = Yx nw o.n ∧ se' = se ∧ V' = V ∧ dn' = dn ∧ ot' = ot ∧ rs' = rs ∧ tr' = tr) ∨
   (o.kind ≠ 1 ∧ o.kind ≠ 2 ∧ o.kind ≠ 4 ∧ d1' = Xr ∧ se' = se ∧ V' = V ∧ dn' = dn ∧ ot' = ot ∧ rs' = rs ∧ tr' = tr))
theorem Zqs (lv rg wn ou qu vi dl jp lo st ju d1 d2 d3 wi se mo tr nw : Int) (nm inn sS dn ot rs : ByteArray) (A Av : Option Addr) (n c nv cv : Nat) (ef : Bool) (ops : List OpV) (tn : Nat) (w : World) (hin : Ug w A ops) (hn : ops.length = n) (hnw : I6 nw)
  (hon : ∀ o ∈ ops, I6 o.n) (harm : ∀ o ∈ ops, o.kind = 2 → (Uz (o.arms.map Vd.pat)).2.2 = 0 ∧ o.arms.length ≤ 8 ∧ ∀ m ∈ o.arms, m.pat.size ≤ 64) (SS : List UInt8) (SE : Nat) (WN : Nat) (hS : sS = rgT SS) (hse : se = (SE : Int)) (hwi : wi = (WN : Int)) :
  Calls Tryz.prog 103 #[.agg #[lv, rg, wn, ou, qu, vi, nm, dl, jp, .slice A n c, lo, st, ju, d1, d2, d3, inn, wi, sS, se, .slice Av nv cv, dn, ot, rs, mo, tr, ef, nw], (tn : Int)] w fun e w' => Zrj (fun d1' se' V' dn' ot' rs' tr' => .agg #[lv, rg, wn, ou, qu, vi, nm, dl, jp, .slice A n c, (tn : Int), st, ju, d1', d2, d3, inn, wi, sS, se', V', dn', ot', rs', mo, tr', ef, nw]) (ops.getD tn Mx) nw se (.slice Av nv cv) dn ot rs tr w e w' := by
 have HIN := hid hin; have HN := hid hn;have HON := hid hon; have HARM := hid harm;have HNW := hid hnw;have HX := hid (And.intro hS (And.intro hse hwi));obtain ⟨Q, hQ⟩ : ∃ Q : Ending → World → Prop, (fun e w' => Zrj (fun d1' se' V' dn' ot' rs' tr' => .agg #[lv, rg, wn, ou, qu, vi, nm, dl, jp, .slice A n c, (tn : Int), st, ju, d1', d2, d3, inn, wi, sS, se', V', dn', ot', rs', mo, tr', ef, nw]) (ops.getD tn Mx) nw se (.slice Av nv cv) dn ot rs tr w e w') = Q := ⟨_, rfl⟩;have HQ := hid hQ;rw [hQ];clear hin hn hQ hon harm hnw hS hse hwi;go_enter Tryz.func103, Tryz.ntmps103;go_upto_region 1 with fail;generalize hwz : (w.alloc (.cells #[lv, rg, wn, ou, qu, vi, nm, dl, jp, .slice A n c, lo, st, ju, d1, d2, d3, inn, wi, sS, se, .slice Av nv cv, dn, ot, rs, mo, tr, ef, nw] 41)).alloc (.cells zd 41) = wz;obtain ⟨gd, gr, hgd, hgr, HDZ, HRZ, HBZ, HNE⟩ := Zg3 hwz;rw [hgr, hgd];clear hgr hgd hwz;have x10 := cA HDZ.out 10 lo rfl;have x13 := cA HDZ.out 13 d1 rfl;have xf := Yu HDZ.out;have xl := HDZ.lt;go_upto_region 2 with fail;obtain ⟨wa, hwa⟩ := nE (Xe (Xe wz gd 10 [(tn : Int)]) gd 13 [.int .i64 9223372036854775807]);have HDA : Hid (Blk wa gd 41 #[lv, rg, wn, ou, qu, vi, nm, dl, jp, .slice A n c, (tn : Int), st, ju, .int .i64 9223372036854775807, d2, d3, inn, wi, sS, se, .slice Av nv cv, dn, ot, rs, mo, tr, ef, nw]) := hwa ▸ Ui (Ui HDZ.out 10 _ (Nat.le_of_ble_eq_true rfl) rfl) 13 _ (Nat.le_of_ble_eq_true rfl) ab;have HKA : Hid (Za (fun k => k = gd) wz wa) := hwa ▸ (Xh gd _ wz 10).trans (Xh _ _ _ _) (fun _ => .inl);have HRA := hid (HKA.blk HRZ.out (fun e => HNE.1 e.symm));have HBA : Hid (Below w.heap.size w wa) := HBZ.trans (HKA.below HBZ.size (fun k (e : k = gd) => bq));simp only [Xe, Nat.reduceAdd] at hwa;rw [hwa];clear hwa HKA HRZ HBZ HDZ x10 x13 xf xl;have CK := hid (Zg6 lv rg wn ou qu vi dl jp st ju 9223372036854775807 d2 d3 wi se mo tr nw nm inn sS dn ot rs A Av n c nv cv ef ops tn wa (HIN.below HBA.out) HN.out);obtain ⟨k, hk⟩ := nE (Zg1 ops tn);have HK : Hid ((ops.getD tn Mx).kind = k) := hk;rw [hk] at CK;clear hk;go_wp2_with (refine wpList_load_mid rfl 41 _ rfl gd 0 rfl _ _ (Blk.range HDA.out) Tryz.underlying41 rfl Zk ?_);refine CK.mono ?_;rintro en we ⟨rfl, hb⟩;have HDE := bb HDA hb;have HRE := bb HRA hb;have HBE := bt HBA hb;clear hb CK HDA HRA HBA;go_upto_region 3 with fail;by_cases hk0 : k ≠ 1 ∧ k ≠ 2 ∧ k ≠ 4
 ·have h1 : (k == 1) = false := by rw [beq_eq_false_iff_ne]; exact hk0.1
  have h2 : (k == 2) = false := by rw [beq_eq_false_iff_ne]; exact hk0.2.1
  have h4 : (k == 4) = false := by rw [beq_eq_false_iff_ne]; exact hk0.2.2
  have HK0 := hid hk0;clear hk0;have HDF := HDE;have HRF := HRE;have HBF := HBE;go_wp2_with (first | (refine wpList_load_mid rfl 41 _ rfl gd 0 rfl _ _ (Blk.range HDF.out) Tryz.underlying41 rfl Zk ?_) | (refine wpList_store_row rfl 41 _ _ rfl gr _ rfl rfl 41 _ HRF.out Zk rfl ab ?_));have hf := Zbs HDF.out HRF.out HBF.out HNE.out Tryz.underlying41 rfl Zk;refine bodyPost_ret (Zca (Yl.cell rfl hf.1) Tryz.results103) rfl ?_;rw [← HQ.out];refine ⟨hf.2.1, _, _, _, _, _, _, _, rfl, .inr (.inr (.inr ⟨by rw [HK.out]; exact HK0.1, by rw [HK.out]; exact HK0.2.1, by rw [HK.out]; exact HK0.2.2, rfl, rfl, rfl, rfl, rfl, rfl, rfl⟩))⟩
 have HLT : Hid (∃ h : tn < ops.length, ops.getD tn Mx = ops[tn]) := by
  by_cases h : tn < ops.length
  ·exact ⟨h, by rw [List.getD_eq_getElem?_getD, List.getElem?_eq_getElem h]; rfl⟩
  ·exfalso; apply hk0
   have := HK.out;rw [List.getD_eq_getElem?_getD, List.getElem?_eq_none aa] at this;rw [← this]; exact ⟨ac, ac, ac⟩
 obtain ⟨hlt, ho⟩ := HLT.out;obtain ⟨b1, o1, va, rfl, hbl, hva, q0, q1, q2, q3, q4, q5, q6⟩ := HIN.at tn hlt;have HOG := hid ho;have HON1 : Hid (I6 (ops[tn]'hlt).n) := HON.out _ (List.getElem_mem _);have HARM1 := hid (HARM.out (ops[tn]'hlt) (List.getElem_mem _));rw [← ho] at hva q1 q2 HON1 HARM1;obtain ⟨on, hon⟩ := nE (ops.getD tn Mx);rw [hon] at hva q1 q2 HON1 HARM1 HK HQ;obtain ⟨ok, otx, onn, ott, oar, ooT, ooE⟩ := on;simp only at hva q1 q2 HON1 HARM1 HK;obtain ⟨Aa, ca, rfl, hra⟩ := hva;have HRA := hid hra;have HBL := hid hbl;have hble : b1 < we.heap.size := Nat.lt_of_lt_of_le hbl HBE.size;have hltn : (tn : Int) < (n : Int) := lg
 have hlt2 : tn < n := aa
 clear hon ho q0 q3 q5 q6 HLT HOG hra;have e9 := cA HDE.out 9 (.slice (some ⟨b1, o1, none⟩) n c) rfl;have T9 : ∀ q : BW we.heap.size we, q.1.cell? ⟨gd, 9, none⟩ = some (.slice (some ⟨b1, o1, none⟩) n c) := fun q => q.cellAt HDE.lt e9;clear e9;by_cases hk1 : k = 1
 ·subst hk1
  clear hk0;have CP := hid (fun W => Zhm dn ot rs otx mo tr W);unfold pr20 at CP;have T1 : ∀ q : BW we.heap.size we, q.1.cell? ⟨b1, o1 + tn * 7 + 1, none⟩ = some (.string otx) := fun q => q.cellAt hble (BW.cellAt HBL.out q1 ⟨we, HBE.out⟩);have P21 := tA (HDE.out) 21 dn rfl;have P22 := tA (HDE.out) 22 ot rfl;have P23 := tA (HDE.out) 23 rs rfl;have P24 := tA (HDE.out) 24 mo rfl;have P25 := tA (HDE.out) 25 tr rfl;clear q1 q2 q4;go_upto_region 4 with fail;refine Zg we.heap.size [11] (.val 0 (.val 1 (.val 2 (.val 3 (.val 4 (.val 5 (.val 6 (.val 7 (.val 8 (.op 9 (.val 10 (.op 11 (.nil))))))))))))) ab ab ?_;obtain ⟨wc, hwc, HBW⟩ := dw we;rw [hwc];clear hwc
  iterate 9 ((first | refine Zd rfl rfl ?_ | refine Zw rfl rfl (Xp HBW.out) ?_); go_big_quiet_step (fail); refine wpQuiet_nil ?_)
  refine Ze rfl ?_;have CQ := hid (CP.out wc);go_wp2_with fail;refine CQ.mono ?_;rintro en wc ⟨rfl, hb⟩;have HBWn : Hid (Below we.heap.size we wc) := HBW.trans (hb.mono HBW.size);clear HBW hb CQ;have HBW := HBWn;clear HBWn;go_wp2_with fail;refine KT.keep (Xp HBW.out) ?_;refine Zd rfl rfl ?_;have HDW := bb HDE HBW;have y0 := cA HDW.out 21 dn rfl;have y1 := cA HDW.out 22 ot rfl;have y2 := cA HDW.out 23 rs rfl;have y3 := cA HDW.out 24 mo rfl;have y4 := cA HDW.out 25 tr rfl;have yf := Yu HDW.out;have yl := HDW.lt;clear HDW
  go_big_quiet_step (fail)
  refine wpQuiet_nil ?_;refine Ze rfl ?_;go_wp2_with fail;refine KT.past rfl ?_;refine Zi ?_;obtain ⟨wf, hwf⟩ := nE (Xe wc gd 21 [.string ⟨#[]⟩, .string ⟨#[]⟩, otx, mo, .int .i64 0]);have HDF : Hid (Blk wf gd 41 #[lv, rg, wn, ou, qu, vi, nm, dl, jp, .slice (some ⟨b1, o1, none⟩) n c, (tn : Int), st, ju, .int .i64 9223372036854775807, d2, d3, inn, wi, sS, se, .slice Av nv cv, .string ⟨#[]⟩, .string ⟨#[]⟩, otx, mo, .int .i64 0, ef, nw]) := hwf ▸ Ui (HDE.below HBW.out HDE.lt) 21 _ (Nat.le_of_ble_eq_true rfl) ab;have HK2 : Hid (Za (fun k => k = gd) wc wf) := hwf ▸ Xh gd _ wc 21;have HRF := hid (HK2.blk (HRE.below HBW.out HRE.lt) (fun e => HNE.1 e.symm));have HBC := bt HBE HBW;have HBF : Hid (Below w.heap.size w wf) := HBC.trans (HK2.below HBC.size (fun k (e : k = gd) => bq));simp only [Xe, Nat.reduceAdd] at hwf;rw [hwf];clear hwf HK2 HBW HBC y0 y1 y2 y3 y4 yf yl;go_wp2_with (first | (refine wpList_load_mid rfl 41 _ rfl gd 0 rfl _ _ (Blk.range HDF.out) Tryz.underlying41 rfl Zk ?_) | (refine wpList_store_row rfl 41 _ _ rfl gr _ rfl rfl 41 _ HRF.out Zk rfl ab ?_));have hf := Zbs HDF.out HRF.out HBF.out HNE.out Tryz.underlying41 rfl Zk;refine bodyPost_ret (Zca (Yl.cell rfl hf.1) Tryz.results103) rfl ?_;rw [← HQ.out];refine ⟨hf.2.1, _, _, _, _, _, _, _, rfl, .inl ⟨HK.out, rfl, rfl, rfl, rfl, rfl, rfl⟩⟩
 have h1 := bF hk1;have CB := hid (fun W => Zdt nw onn W HNW.out HON1.out);have T2 : ∀ q : BW we.heap.size we, q.1.cell? ⟨b1, o1 + tn * 7 + 2, none⟩ = some (.int .i64 onn) := fun q => q.cellAt hble (BW.cellAt HBL.out q2 ⟨we, HBE.out⟩);have T27 := tA HDE.out 27 nw rfl;by_cases hk4 : k = 4
 ·subst hk4
  clear hk0 hk1 q1 q2 q4;go_upto_region 6 with fail;refine Zg we.heap.size [12] (.val 0 (.val 1 (.val 2 (.val 3 (.val 4 (.val 5 (.val 6 (.val 7 (.val 8 (.op 9 (.val 10 (.val 11 (.op 12 (.nil)))))))))))))) ab ab ?_;obtain ⟨wc, hwc, HBW⟩ := dw we;rw [hwc];clear hwc
  iterate 9 ((first | refine Zd rfl rfl ?_ | refine Zw rfl rfl (Xp HBW.out) ?_); go_big_quiet_step (fail); refine wpQuiet_nil ?_)
  refine Ze rfl ?_;have CQ := hid (CB.out wc);go_wp2_with fail;refine CQ.mono ?_;rintro en wc' ⟨rfl, rfl⟩;clear CQ;go_wp2_with fail;refine KT.keep (Xp HBW.out) ?_;refine Zd rfl rfl ?_
  go_big_quiet_step (fail)
  refine wpQuiet_nil ?_;refine Zd rfl rfl ?_;have HDW := bb HDE HBW;have y0 := cA HDW.out 13 (.int .i64 9223372036854775807) rfl;have yf := Yu HDW.out;have yl := HDW.lt;clear HDW
  go_big_quiet_step (fail)
  refine wpQuiet_nil ?_;refine Ze rfl ?_;go_wp2_with fail;refine KT.past rfl ?_;refine Zi ?_;obtain ⟨wf, hwf⟩ := nE (Xe wc gd 13 [.int .i64 (Yx nw onn)]);have HDF : Hid (Blk wf gd 41 #[lv, rg, wn, ou, qu, vi, nm, dl, jp, .slice (some ⟨b1, o1, none⟩) n c, (tn : Int), st, ju, .int .i64 (Yx nw onn), d2, d3, inn, wi, sS, se, .slice Av nv cv, dn, ot, rs, mo, tr, ef, nw]) := hwf ▸ Ui (HDE.below HBW.out HDE.lt) 13 _ (Nat.le_of_ble_eq_true rfl) ab;have HK2 : Hid (Za (fun k => k = gd) wc wf) := hwf ▸ Xh gd _ wc 13;have HRF := hid (HK2.blk (HRE.below HBW.out HRE.lt) (fun e => HNE.1 e.symm));have HBC := bt HBE HBW;have HBF : Hid (Below w.heap.size w wf) := HBC.trans (HK2.below HBC.size (fun k (e : k = gd) => bq));simp only [Xe, Nat.reduceAdd] at hwf;rw [hwf];clear hwf HK2 HBW HBC y0 yf yl;go_wp2_with (first | (refine wpList_load_mid rfl 41 _ rfl gd 0 rfl _ _ (Blk.range HDF.out) Tryz.underlying41 rfl Zk ?_) | (refine wpList_store_row rfl 41 _ _ rfl gr _ rfl rfl 41 _ HRF.out Zk rfl ab ?_));have hf := Zbs HDF.out HRF.out HBF.out HNE.out Tryz.underlying41 rfl Zk;refine bodyPost_ret (Zca (Yl.cell rfl hf.1) Tryz.results103) rfl ?_;rw [← HQ.out];refine ⟨hf.2.1, _, _, _, _, _, _, _, rfl, .inr (.inr (.inl ⟨HK.out, rfl, rfl, rfl, rfl, rfl, rfl, rfl⟩))⟩
 obtain rfl : k = 2 := by by_cases h : k = 2; exact h; exact absurd ⟨hk1, h, hk4⟩ hk0
 clear hk0 hk1 hk4 h1;have HQ4 := hid q4;clear q1 q2 q4;go_upto_region 6 with fail;refine Zg we.heap.size [12] (.val 0 (.val 1 (.val 2 (.val 3 (.val 4 (.val 5 (.val 6 (.val 7 (.val 8 (.op 9 (.val 10 (.val 11 (.op 12 (.nil)))))))))))))) ab ab ?_;obtain ⟨wc, hwc, HBW⟩ := dw we;rw [hwc];clear hwc
 iterate 9 ((first | refine Zd rfl rfl ?_ | refine Zw rfl rfl (Xp HBW.out) ?_); go_big_quiet_step (fail); refine wpQuiet_nil ?_)
 refine Ze rfl ?_;have CQ := hid (CB.out wc);go_wp2_with fail;refine CQ.mono ?_;rintro en wc' ⟨rfl, rfl⟩;clear CQ;go_wp2_with fail;refine KT.keep (Xp HBW.out) ?_;refine Zd rfl rfl ?_
 go_big_quiet_step (fail)
 refine wpQuiet_nil ?_;refine Zd rfl rfl ?_;have HDW := bb HDE HBW;have y0 := cA HDW.out 13 (.int .i64 9223372036854775807) rfl;have yf := Yu HDW.out;have yl := HDW.lt;clear HDW
 go_big_quiet_step (fail)
 refine wpQuiet_nil ?_;refine Ze rfl ?_;go_wp2_with fail;refine KT.past rfl ?_;refine Zi ?_;obtain ⟨wf, hwf⟩ := nE (Xe wc gd 13 [.int .i64 (Yx nw onn)]);have HDF : Hid (Blk wf gd 41 #[lv, rg, wn, ou, qu, vi, nm, dl, jp, .slice (some ⟨b1, o1, none⟩) n c, (tn : Int), st, ju, .int .i64 (Yx nw onn), d2, d3, inn, wi, sS, se, .slice Av nv cv, dn, ot, rs, mo, tr, ef, nw]) := hwf ▸ Ui (HDE.below HBW.out HDE.lt) 13 _ (Nat.le_of_ble_eq_true rfl) ab;have HK2 : Hid (Za (fun k => k = gd) wc wf) := hwf ▸ Xh gd _ wc 13;have HRF := hid (HK2.blk (HRE.below HBW.out HRE.lt) (fun e => HNE.1 e.symm));have HBC := bt HBE HBW;have HBF : Hid (Below w.heap.size w wf) := HBC.trans (HK2.below HBC.size (fun k (e : k = gd) => bq));simp only [Xe, Nat.reduceAdd] at hwf;rw [hwf];clear hwf HK2 HBW HBC y0 yf yl;have HAG := hid (HARM1.out HK.out);clear T9 T2 T27 CB;obtain ⟨na, hna⟩ := nE (oar.length);have HNA := hid hna;rw [hna] at HQ4;have hna8 : na ≤ 8 := by have := HAG.2.1; omega
 clear hna hble;go_wp2_with fail
 go_loopw [6, 7] (fun v iv wr => ∃ (i c' : Nat) (A' : Option Addr), i ≤ na ∧ iv = .int .i64 (i : Int) ∧ v = .slice A' i c' ∧ wr.ownsRow wf.heap.size 9 1 (.slice A' i c') i (Yj ((oar.take i).map Vd.pat)) ∧ Below wf.heap.size wf wr) (fun _ iv _ => na - (intOf iv).toNat)
 case atStart => exact ⟨0, _, _, aa, rfl, rfl, World.ownsRow_made _ _ _ (Nat.le_refl _) cd ah, (Below.refl _ _).alloc (Nat.le_refl _) _⟩
 case round =>
  obtain ⟨i, c', A', hi, rfl, rfl, hown, hb⟩ := hrel;have HB := hid hb;have HBR := bt HBF hb;have HDR := bb HDF hb;have hsz := HB.size;have e9 := cA HDR.out 9 (.slice (some ⟨b1, o1, none⟩) n c) rfl;have el := HDR.lt;have e4 : wr.cell? ⟨b1, o1 + tn * 7 + 4, none⟩ = some (.slice Aa na ca) := BW.cellAt HBL.out HQ4.out ⟨wr, HBR.out⟩;have hbl2 : b1 < wr.heap.size := Nat.lt_of_lt_of_le HBL.out HBR.size;clear hb;by_cases hlt3 : i < na
  ·have HK3 : Hid (i < oar.length) := by rw [Hid, HNA.out]; exact hlt3
   obtain ⟨b2, off2, rfl, hbl3, hc⟩ := (HRA.below HBR.out).at (by rw [Xs, HNA.out]; omega);obtain ⟨e0, e1⟩ := Zbu hc i HK3.out
   have HT2 : Hid ((oar.take (i + 1)).map Vd.pat = (oar.take i).map Vd.pat ++ [(oar[i]'HK3.out).pat]) := by
    rw [Hid, List.take_succ_eq_append_getElem HK3.out, List.map_append]; rfl
   obtain ⟨⟨pa, ta⟩, hx⟩ : ∃ x, oar[i]'HK3.out = x := ⟨_, rfl⟩;rw [hx] at e0 HT2;simp only at e0;clear hx hc e1;have hown0 := hid hown;clear hown;go_upto_region 12 with fail;go_wp2_with (at_builtin; refine Wn _ rfl _ _ 158 rfl wf.heap.size 9 _ 1 16 Tryz.underlying158 Mg rfl ac _ _ _ rfl hown0.out 1 [pa] rfl rfl rfl ?_ ac hsz ?_)
   ·omega
   intro A2 d2 w3 hown3 hg3;have HB3 := hid (Wo HB.out hown0.out hg3 (Nat.le_refl _) hsz);have HO3 := hid hown3;clear hg3 hown3 hsz HB HBR HDR e0 hbl3 hown0;exact N76
  ·have HPS : Hid ((oar.take i).map Vd.pat = oar.map Vd.pat ∧ (oar.map Vd.pat).length = i) := ⟨by rw [List.take_of_length_le (by rw [HNA.out]; omega)], by rw [List.length_map, HNA.out]; omega⟩
   rw [HPS.1] at hown
   have CG : Hid (Calls Tryz.prog 147 #[.agg #[wi, sS, se, .slice Av nv cv], .slice A' i c'] wr fun e w' => ∃ v', e = .returned (.tuple #[.agg #[wi, sS, .int .i64 0, v'], .int .i64 0]) ∧ Below wr.heap.size wr w' ∧ Na wr.heap.size w' (Uz (oar.map Vd.pat)).1 v') := by
    have := Zhj WN SE SS (.slice Av nv cv) A' i c' (oar.map Vd.pat) wr ⟨_, _, _, rfl⟩ HPS.2 aa (fun p hp => by obtain ⟨m, hm, rfl⟩ := List.mem_map.1 hp; have := HAG.2.2 m hm; omega) (Xw hown);rw [HX.1, HX.2.1, HX.2.2];unfold Mr at this;refine this.mono (fun e w' h => ?_);obtain ⟨h1, ⟨h2, -⟩ | ⟨-, v', rfl, h3⟩⟩ := h
    ·exact absurd HAG.1 h2
    ·exact ⟨v', rfl, h1, h3⟩
   clear hown hsz;have HRR := bb HRF HB;go_upto_region 13 with fail;clear e9 e4 hbl2;go_wp2_with (refine wpList_load_mid rfl 37 _ rfl gd 17 rfl [wi, sS, se, .slice Av nv cv] _ (Blk.rangeAt HDR.out 17 _ rfl) Tryz.underlying37 rfl Zlz ?_);refine CG.mono ?_;rintro en wh ⟨v', rfl, hb, hp⟩;obtain ⟨Ap, cp, vs, rfl, hp1, hp2⟩ := hp;obtain ⟨np, hnp⟩ := nE ((Uz (oar.map Vd.pat)).1.length);have HNP := hid hnp;have HP1 := hid hp1; have HP2 := hid hp2;rw [hnp] at HP1 ⊢;have HDH := bb HDR hb;have HRH := bb HRR hb;have HBH := bt HBR hb;have HSZ : Hid (gd < wr.heap.size ∧ gr < wr.heap.size ∧ w.heap.size ≤ wr.heap.size) := ⟨HDR.lt, HRR.lt, HBR.size⟩;clear hp1 hp2 hb hnp CG el;have x17 := cA HDH.out 17 wi rfl;have x18 := cA HDH.out 18 sS rfl;have x19 := cA HDH.out 19 se rfl;have x20 := cA HDH.out 20 (.slice Av nv cv) rfl;have xf := Yu HDH.out;have xl := HDH.lt;go_upto_region 14 with fail;obtain ⟨wg, hwg⟩ := nE (Xe wh gd 17 [wi, sS, .int .i64 0, .slice Ap np cp]);have HDF2 : Hid (Blk wg gd 41 #[lv, rg, wn, ou, qu, vi, nm, dl, jp, .slice (some ⟨b1, o1, none⟩) n c, (tn : Int), st, ju, .int .i64 (Yx nw onn), d2, d3, inn, wi, sS, .int .i64 0, .slice Ap np cp, dn, ot, rs, mo, tr, ef, nw]) := hwg ▸ Ui HDH.out 17 _ (Nat.le_of_ble_eq_true rfl) ab;have HK2 : Hid (Za (fun k => k = gd) wh wg) := hwg ▸ Xh gd _ wh 17;have HRF2 := hid (HK2.blk HRH.out (fun e => HNE.1 e.symm));have HBF2 : Hid (Below w.heap.size w wg) := HBH.trans (HK2.below HBH.size (fun k (e : k = gd) => bq));simp only [Xe, Nat.reduceAdd] at hwg;rw [hwg];clear hwg x17 x18 x19 x20 xf xl;go_wp2_with (first | (refine wpList_load_mid rfl 41 _ rfl gd 0 rfl _ _ (Blk.range HDF2.out) Tryz.underlying41 rfl Zk ?_) | (refine wpList_store_row rfl 41 _ _ rfl gr _ rfl rfl 41 _ HRF2.out Zk rfl ab ?_));have hf := Zbs HDF2.out HRF2.out HBF2.out HNE.out Tryz.underlying41 rfl Zk;refine bodyPost_ret (Zca (Yl.cell rfl hf.1) Tryz.results103) rfl ?_;rw [← HQ.out];refine ⟨hf.2.1, _, _, _, _, _, _, _, rfl, .inr (.inl ⟨HK.out, rfl, rfl, ?_, rfl, rfl, rfl, rfl⟩)⟩;refine Na.keep (base := wr.heap.size) ?_ (G := fun k => k = gd ∨ k = gr) ((HK2.mono (fun k _ h => .inl h) : Za (fun k => k = gd ∨ k = gr) wh wg).trans hf.2.2 (fun k h => .inl (.inr h))) HSZ.2.2 (fun k h1 _ h3 => by have := HSZ.out; omega);refine ⟨Ap, cp, vs, ?_, ?_, HP2.out⟩
   ·show Value.slice Ap np cp = _; rw [← HNP.out]
   ·rw [HNP.out]; exact HP1.out
end Go.Proofs.YtpkkfdmhbbipoaaGreat
