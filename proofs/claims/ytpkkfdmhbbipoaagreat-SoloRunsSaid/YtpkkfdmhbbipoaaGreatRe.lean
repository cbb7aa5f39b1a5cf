/- Rows of cells of a block, written one after the other. No program in sight. Walks: the reference's dialogue: its kind, its end, its room. -/
import Derived.Test.YtpkkfdmhbbipoaaGreatRc
import Derived.Deep.MidRow
import Derived.Test.YtpkkfdmhbbipoaaGreatRd
import Derived.Test.YtpkkfdmhbbipoaaGreatEb
namespace Go.Proofs.YtpkkfdmhbbipoaaGreat
set_option maxRecDepth 20000
set_option maxHeartbeats 4000000
open Go.RowKit PopT
def Xe (w : World) (g : Nat) : Nat → List Value → World
 | _, [] => w
 | i, v :: vs => Xe (w.setCell ⟨g, i, none⟩ v) g (i + 1) vs
theorem Xh (g : Nat) (vs : List Value) : ∀ (w : World) (i : Nat), Za (fun k => k = g) w (Xe w g i vs) := by
 induction vs with
 | nil => intro w i; exact Za.refl _ _
 | cons v vs ih => intro w i; exact (Za.setCell (fun k => k = g) w ⟨g, i, none⟩ v rfl).trans (ih _ _) (fun _ => .inl)
def Zj3 (cs : Array Value) : Nat → List Value → Array Value
 | _, [] => cs
 | i, v :: vs => Zj3 (cs.setIfInBounds i v) (i + 1) vs
theorem Zip {g : Nat} {t : TypeId} (vs : List Value) : ∀ {w : World} {cs : Array Value} (i : Nat), Blk w g t cs → Blk (Xe w g i vs) g t (Zj3 cs i vs) := by
 induction vs with
 | nil => intro w cs i h; exact h
 | cons v vs ih => intro w cs i h; exact ih (i + 1) (h.set i v)
theorem Zgn (vs : List Value) : ∀ (cs : Array Value) (i : Nat), i + vs.length ≤ cs.size → (Zj3 cs i vs).toList = cs.toList.take i ++ vs ++ cs.toList.drop (i + vs.length) := by
 induction vs with
 | nil => intro cs i h; simp [Zj3]
 | cons v vs ih =>
  intro cs i h;rw [List.length_cons] at h;rw [Zj3, ih _ _ af];rw [Array.toList_setIfInBounds, List.length_cons];have hi : i < cs.toList.length := af
  rw [List.drop_set_of_lt aa, List.take_succ_eq_append_getElem kg];simp [List.take_set_of_le, show i + 1 + vs.length = i + (vs.length + 1) by omega]
theorem Zoz {w : World} {g : Nat} {t : TypeId} {cs : Array Value} (h : Blk w g t cs) (vs : List Value) (hl : cs.size = vs.length) : Blk (Xe w g 0 vs) g t vs.toArray := by
 have h1 := Zip vs 0 h;have h2 := Zgn vs cs 0 aa
 have e : Zj3 cs 0 vs = vs.toArray := by
  apply Array.toList_inj.1;rw [h2];simp [List.drop_of_length_le (show cs.toList.length ≤ vs.length by simp; omega)]
 rw [e] at h1;exact h1
theorem Ui {w : World} {g : Nat} {t : TypeId} {xs ys : List Value} (h : Blk w g t xs.toArray) (i : Nat) (vs : List Value) (hl : i + vs.length ≤ xs.length) (he : xs.take i ++ vs ++ xs.drop (i + vs.length) = ys) : Blk (Xe w g i vs) g t ys.toArray := by
 have h1 := Zip vs i h;have h2 := Zgn vs xs.toArray i fg
 have e : Zj3 xs.toArray i vs = ys.toArray := by
  apply Array.toList_inj.1;rw [h2, ← he]
 rw [e] at h1;exact h1
theorem Blk.range {w : World} {g : Nat} {t : TypeId} {xs : List Value} (h : Blk w g t xs.toArray) : w.rangeAt g 0 xs := fun j v hv => by
 have := h.cell j;rw [Nat.zero_add, this]; simpa using hv
theorem Blk.rangeAt {w : World} {g : Nat} {t : TypeId} {xs : List Value} (h : Blk w g t xs.toArray) (o : Nat) (ys : List Value) (he : (xs.drop o).take ys.length = ys) : w.rangeAt g o ys := fun j v hv => by
 have hj : j < ys.length := (List.getElem?_eq_some_iff.1 hv).1;rw [← he, List.getElem?_take_of_lt hj, List.getElem?_drop] at hv;have := h.cell (o + j);rw [this]; simpa using hv
def Yl (P : Program) (tmps : Array Value) (W : World) (r : ResultVar) (v : Value) : Prop :=
 (match r with | .tmp t => pure (tmps.getD t undef) | .cell a t => (do loadVar t (← asAddr (tmps.getD a undef)) : Sem Value)).run P W = .ok v W
section
variable {P : Program} {fn : Func} {tmps : Array Value} {W : World} {a : Nat} {t : TypeId} {x : Addr} {v v1 v2 v3 v4 v5 : Value} {r r1 r2 r3 r4 r5 : ResultVar}
theorem Yl.tmp (h : tmps.getD a undef = v) : Yl P tmps W (.tmp a) v := by subst h; rfl
theorem Yl.cell (hp : tmps.getD a undef = .pointer (some x)) (hl : (loadVar t x).run P W = .ok v W) : Yl P tmps W (.cell a t) v := by
 unfold Yl;simp only [Sem.run_bind, hp, asAddr, Sem.run_pure, Result.andThen_ok, hl]
theorem Zca (h1 : Yl P tmps W r1 v1) (hr : fn.results = #[r1]) : (results fn tmps).run P W = .ok v1 W := by
 unfold results; rw [hr]; unfold Yl at h1;simp only [List.mapM_toArray, List.mapM_cons, List.mapM_nil, bind_pure_comp];cases r1 <;> simp_all [Sem.run_bind]
theorem Vv (h1 : Yl P tmps W r1 v1) (h2 : Yl P tmps W r2 v2) (hr : fn.results = #[r1, r2]) : (results fn tmps).run P W = .ok (.tuple #[v1, v2]) W := by
 unfold results; rw [hr]; unfold Yl at h1 h2;simp only [List.mapM_toArray, List.mapM_cons, List.mapM_nil, bind_pure_comp, Sem.run_bind, Sem.run_map];cases r1 <;> cases r2 <;> simp_all [Sem.run_bind, Result.andThen]
theorem Zgk (h1 : Yl P tmps W r1 v1) (h2 : Yl P tmps W r2 v2) (h3 : Yl P tmps W r3 v3) (hr : fn.results = #[r1, r2, r3]) : (results fn tmps).run P W = .ok (.tuple #[v1, v2, v3]) W := by
 unfold results; rw [hr]; unfold Yl at h1 h2 h3;simp only [List.mapM_toArray, List.mapM_cons, List.mapM_nil, bind_pure_comp, Sem.run_bind, Sem.run_map];cases r1 <;> cases r2 <;> cases r3 <;> simp_all [Sem.run_bind, Result.andThen]
theorem Zov (h1 : Yl P tmps W r1 v1) (h2 : Yl P tmps W r2 v2) (h3 : Yl P tmps W r3 v3) (h4 : Yl P tmps W r4 v4) (h5 : Yl P tmps W r5 v5) (hr : fn.results = #[r1, r2, r3, r4, r5]) : (results fn tmps).run P W = .ok (.tuple #[v1, v2, v3, v4, v5]) W := by
 unfold results; rw [hr]; unfold Yl at h1 h2 h3 h4 h5;simp only [List.mapM_toArray, List.mapM_cons, List.mapM_nil, bind_pure_comp, Sem.run_bind, Sem.run_map];cases r1 <;> cases r2 <;> cases r3 <;> cases r4 <;> cases r5 <;> simp_all [Sem.run_bind, Result.andThen]
end
theorem Yu {w : World} {g : Nat} {t : TypeId} {cs : Array Value} (h : Blk w g t cs) : ∀ i, w.frozen? ⟨g, i, none⟩ = false := fun i => h.frozen i
theorem Zk : (Tryz.prog.info? 41).map (·.size) = some 28 := by kernel_rfl
def Zg1 (ops : List OpV) (lo : Nat) : Int := (ops.getD lo Mx).kind
theorem N34{P:Prop}(h:P:=by
 go_wp2_with fail;go_ret;rw [HF.out, HGD.out]; exact ⟨rfl, by have := HB0.out; rwa [HGD.out] at this⟩):P:=h
theorem Zg6 (lv rg wn ou qu vi dl jp st ju d1 d2 d3 wi se mo tr nw : Int) (nm inn sS dn ot rs : ByteArray) (A Av : Option Addr) (n c nv cv : Nat) (ef : Bool) (ops : List OpV) (ln : Nat) (w : World) (hin : Ug w A ops) (hn : ops.length = n) :
  Calls Tryz.prog 130 #[.agg #[lv, rg, wn, ou, qu, vi, nm, dl, jp, .slice A n c, (ln : Int), st, ju, d1, d2, d3, inn, wi, sS, se, .slice Av nv cv, dn, ot, rs, mo, tr, ef, nw]] w fun e w' => e = .returned (.int .i64 (Zg1 ops ln)) ∧ Below w.heap.size w w' := by
 have HIN := hid hin; have HN := hid hn;have HK : Hid (Zg1 ops ln = (ops.getD ln Mx).kind) := rfl;obtain ⟨R, hR⟩ := nE (Zg1 ops ln);rw [hR] at HK ⊢;clear hin hn hR;go_enter Tryz.func130, Tryz.ntmps130;go_upto_region 1 with fail;obtain ⟨wb, hwb⟩ := nE (w.alloc (.cells #[lv, rg, wn, ou, qu, vi, nm, dl, jp, .slice A n c, (ln : Int), st, ju, d1, d2, d3, inn, wi, sS, se, .slice Av nv cv, dn, ot, rs, mo, tr, ef, nw] 41));have HB0 := ba hwb;have HD0 := bn hwb;have HSB : Hid (wb.heap.size = w.heap.size + 1) := kd
 rw [hwb];clear hwb;obtain ⟨gd, hgd⟩ := nE (w.heap.size);have HGD := hid hgd;rw [hgd] at HD0 HSB ⊢;clear hgd;have x9 := cA (HD0.out) 9 (.slice A n c) rfl;have x10 := cA (HD0.out) 10 (ln : Int) rfl;have xl := (HD0.out).lt;by_cases hlt : ln < n
 ·have hk : ln < ops.length := by rw [HN.out]; exact hlt
  obtain ⟨b1, o1, va, rfl, hbl1, hva, q0, q1, q2, q3, q4, q5, q6⟩ := (HIN.below HB0.out).at ln hk;have HF : Hid (R = (ops[ln]'hk).kind) := by rw [Hid, HK.out, List.getD_eq_getElem?_getD, List.getElem?_eq_getElem hk]; rfl
  obtain ⟨kk, hkk⟩ := nE ((ops[ln]'hk).kind);rw [hkk] at q0 HF;have hn2 : ¬ (n : Int) ≤ (ln : Int) := aa
  clear hkk q1 q2 q3 q4 q5 q6 hva hk HK;exact N34
 ·have HF : Hid (R = 0) := by rw [Hid, HK.out, List.getD_eq_getElem?_getD, List.getElem?_eq_none bz]; rfl
  have hn2 : (n : Int) ≤ (ln : Int) := aa
  clear HK;exact N34
theorem Zio (lv rg wn ou qu vi dl jp lo st ju d1 d2 d3 wi se mo tr nw : Int) (nm inn sS dn ot rs : ByteArray) (A Av : Option Addr) (n c nv cv : Nat) (ef : Bool) (now : Int) (w : World) :
  Calls Tryz.prog 87 #[.agg #[lv, rg, wn, ou, qu, vi, nm, dl, jp, .slice A n c, lo, st, ju, d1, d2, d3, inn, wi, sS, se, .slice Av nv cv, dn, ot, rs, mo, tr, ef, nw], now] w fun e w' => e = .returned (.int .i64 (max now nw)) ∧ Below w.heap.size w w' := by
 go_enter Tryz.func87, Tryz.ntmps87;go_upto_region 1 with fail;obtain ⟨wb, hwb⟩ := nE (w.alloc (.cells #[lv, rg, wn, ou, qu, vi, nm, dl, jp, .slice A n c, lo, st, ju, d1, d2, d3, inn, wi, sS, se, .slice Av nv cv, dn, ot, rs, mo, tr, ef, nw] 41));have HB0 := ba hwb;have HD0 := bn hwb;have HSB : Hid (wb.heap.size = w.heap.size + 1) := kd
 rw [hwb];clear hwb;obtain ⟨gd, hgd⟩ := nE (w.heap.size);have HGD := hid hgd;rw [hgd] at HD0 HSB ⊢;clear hgd;have x27 := cA (HD0.out) 27 nw rfl;have xl := (HD0.out).lt;by_cases h : now < nw
 ·have HF : Hid (max now nw = nw) := Int.max_eq_right aa
  exact N34
 ·have HF : Hid (max now nw = now) := Int.max_eq_left aa
  exact N34
theorem Zqo (lv rg wn ou qu vi dl jp lo st ju d1 d2 d3 wi se mo tr nw : Int) (nm inn sS dn ot rs : ByteArray) (A Av : Option Addr) (n c nv cv : Nat) (ef : Bool) (w : World) (hr : 0 ≤ rg ∧ rg ≤ 4096) (hi : inn.size ≤ 4096) (hst : 0 ≤ st) :
  Calls Tryz.prog 107 #[.agg #[lv, rg, wn, ou, qu, vi, nm, dl, jp, .slice A n c, lo, st, ju, d1, d2, d3, inn, wi, sS, se, .slice Av nv cv, dn, ot, rs, mo, tr, ef, nw]] w fun e w' => e = .returned (.int .i64 (if st = 0 ∧ ef = false then rg - (inn.size : Int) else 0)) ∧ Below w.heap.size w w' := by
 obtain ⟨R, hR⟩ := nE ((if st = 0 ∧ ef = false then rg - (inn.size : Int) else 0));have HR := hid hR;rw [hR];clear hR;obtain ⟨hr1, hr2⟩ := hr;go_enter Tryz.func107, Tryz.ntmps107;go_upto_region 1 with fail;obtain ⟨wb, hwb⟩ := nE (w.alloc (.cells #[lv, rg, wn, ou, qu, vi, nm, dl, jp, .slice A n c, lo, st, ju, d1, d2, d3, inn, wi, sS, se, .slice Av nv cv, dn, ot, rs, mo, tr, ef, nw] 41));have HB0 := ba hwb;have HD0 := bn hwb;have HSB : Hid (wb.heap.size = w.heap.size + 1) := kd
 rw [hwb];clear hwb;obtain ⟨gd, hgd⟩ := nE (w.heap.size);have HGD := hid hgd;rw [hgd] at HD0 HSB ⊢;clear hgd;have x1 := cA (HD0.out) 1 rg rfl;have x11 := cA (HD0.out) 11 st rfl;have x16 := cA (HD0.out) 16 inn rfl;have x26 := cA (HD0.out) 26 ef rfl;have xl := (HD0.out).lt;by_cases h : st = 0
 ·subst h
  cases ef
  ·have HF : Hid (R = rg - (inn.size : Int)) := HR.symm.trans (if_pos ⟨rfl, rfl⟩)
   clear HR;exact N34
  ·have HF : Hid (R = 0) := HR.symm.trans (if_neg (fun h => by cases h.2))
   clear HR;exact N34
 ·have HF : Hid (R = 0) := HR.symm.trans (if_neg (fun h2 => h h2.1))
  clear HR;have h2 : 0 < st := aa
  clear h;exact N34
theorem Zru (lv rg wn ou qu vi dl jp lo st ju d1 d2 d3 wi se mo tr nw : Int) (nm inn sS dn ot rs : ByteArray) (A Av : Option Addr) (n c nv cv : Nat) (ef : Bool) (st' : Int) (w : World) :
  Calls Tryz.prog 132 #[.agg #[lv, rg, wn, ou, qu, vi, nm, dl, jp, .slice A n c, lo, st, ju, d1, d2, d3, inn, wi, sS, se, .slice Av nv cv, dn, ot, rs, mo, tr, ef, nw], st'] w fun e w' => e = .returned (.agg #[lv, rg, wn, ou, qu, vi, nm, dl, jp, .slice A n c, lo, st', ju, d1, d2, d3, .string ⟨#[]⟩, ((We wn 4096 : Nat) : Int), .string ⟨#[]⟩, .int .i64 0, .slice none 0 0, .string ⟨#[]⟩, .string ⟨#[]⟩, .string ⟨#[]⟩, .int .i64 (Vf ou 1 4096), .int .i64 0, ef, nw]) ∧ Below w.heap.size w w' := by
 have CN := hid (fun W => Zfb wn W);have CP := hid (fun W => Zfd ou W);unfold Mr at CN;unfold pr20 at CP;obtain ⟨cw, hcw⟩ : ∃ y : Int, ((We wn 4096 : Nat) : Int) = y := ⟨_, rfl⟩;obtain ⟨co, hco⟩ : ∃ y : Int, Vf ou 1 4096 = y := ⟨_, rfl⟩;rw [hcw] at CN ⊢;rw [hco] at CP ⊢;have HE0 : Hid (rgT [] = ⟨#[]⟩) := rfl;rw [HE0.out] at CN;clear hcw hco HE0;go_enter Tryz.func132, Tryz.ntmps132;go_upto_region 1 with fail;obtain ⟨wb, hwb⟩ := nE (w.alloc (.cells #[lv, rg, wn, ou, qu, vi, nm, dl, jp, .slice A n c, lo, st, ju, d1, d2, d3, inn, wi, sS, se, .slice Av nv cv, dn, ot, rs, mo, tr, ef, nw] 41));have HB0 := ba hwb;have HD0 := bn hwb;have HSB : Hid (wb.heap.size = w.heap.size + 1) := kd
 rw [hwb];clear hwb;obtain ⟨gd, hgd⟩ := nE (w.heap.size);have HGD := hid hgd;rw [hgd] at HD0 HSB ⊢;clear hgd;obtain ⟨wz, hwz⟩ := nE (wb.alloc (.cells zd 41));have HBZ0 := ba hwz;have HRZ := bn hwz;rw [hwz];clear hwz;have HDZ := bb HD0 HBZ0;have HNE : Hid (gd ≠ wb.heap.size) := Nat.ne_of_lt HD0.lt;have HGR0 : Hid (w.heap.size ≤ wb.heap.size) := HB0.size;rw [HSB.out] at HRZ HNE HGR0;obtain ⟨gr, hgr⟩ := nE (gd + 1);have HGR : Hid (w.heap.size ≤ gr) := by rw [Hid, ← hgr]; exact HGR0.out
 have HBZ := bt HB0 HBZ0;have HGD2 : Hid (w.heap.size ≤ gd) := by rw [HGD.out]; exact Nat.le_refl _
 rw [hgr] at HRZ HNE ⊢;clear hgr HBZ0 HB0 HD0 HGR0 HSB;have T2 := tA (HDZ.out) 2 wn rfl;have T3 := tA (HDZ.out) 3 ou rfl;refine Zg wz.heap.size [10, 12, 14, 16] (.val 0 (.val 1 (.val 2 (.val 3 (.val 5 (.val 6 (.val 7 (.val 9 (.op 4 (.op 8 (.op 10 (.val 11 (.op 12 (.val 13 (.op 14 (.val 15 (.op 16 (.nil)))))))))))))))))) ab ab ?_;obtain ⟨wc, hwc, HBW⟩ := dw wz;rw [hwc];clear hwc
 iterate 8 ((first | refine Zd rfl rfl ?_ | refine Zw rfl rfl (Xp HBW.out) ?_); go_big_quiet_step (fail); refine wpQuiet_nil ?_)
 refine Ze rfl ?_;have CQ := hid (CN.out wc);go_wp2_with fail;refine CQ.mono ?_;rintro en wc ⟨rfl, hb⟩;have HBWn : Hid (Below wz.heap.size wz wc) := HBW.trans (hb.mono HBW.size);clear HBW hb CQ;have HBW := HBWn;clear HBWn;go_wp2_with fail;refine KT.keep (Xp HBW.out) ?_;refine Ze rfl ?_;have CQ := hid (CP.out wc);go_wp2_with fail;refine CQ.mono ?_;rintro en wc ⟨rfl, hb⟩;have HBWn : Hid (Below wz.heap.size wz wc) := HBW.trans (hb.mono HBW.size);clear HBW hb CQ;have HBW := HBWn;clear HBWn;go_wp2_with fail;refine KT.keep (Xp HBW.out) ?_;refine Ze rfl ?_;have x0 := cA ((HDZ.below HBW.out HDZ.lt)) 0 (.int .i64 lv) rfl;have x1 := cA ((HDZ.below HBW.out HDZ.lt)) 1 (.int .i64 rg) rfl;have x2 := cA ((HDZ.below HBW.out HDZ.lt)) 2 (.int .i64 wn) rfl;have x3 := cA ((HDZ.below HBW.out HDZ.lt)) 3 (.int .i64 ou) rfl;have x4 := cA ((HDZ.below HBW.out HDZ.lt)) 4 (.int .i64 qu) rfl;have x5 := cA ((HDZ.below HBW.out HDZ.lt)) 5 (.int .i64 vi) rfl;have x6 := cA ((HDZ.below HBW.out HDZ.lt)) 6 (.string nm) rfl;have x7 := cA ((HDZ.below HBW.out HDZ.lt)) 7 (.int .i64 dl) rfl;have x8 := cA ((HDZ.below HBW.out HDZ.lt)) 8 (.int .i64 jp) rfl;have x9 := cA ((HDZ.below HBW.out HDZ.lt)) 9 (.slice A n c) rfl;have x10 := cA ((HDZ.below HBW.out HDZ.lt)) 10 (.int .i64 lo) rfl;have x11 := cA ((HDZ.below HBW.out HDZ.lt)) 11 (.int .i64 st) rfl;have x12 := cA ((HDZ.below HBW.out HDZ.lt)) 12 (.int .i64 ju) rfl;have x13 := cA ((HDZ.below HBW.out HDZ.lt)) 13 (.int .i64 d1) rfl;have x14 := cA ((HDZ.below HBW.out HDZ.lt)) 14 (.int .i64 d2) rfl;have x15 := cA ((HDZ.below HBW.out HDZ.lt)) 15 (.int .i64 d3) rfl;have x16 := cA ((HDZ.below HBW.out HDZ.lt)) 16 (.string inn) rfl;have x17 := cA ((HDZ.below HBW.out HDZ.lt)) 17 (.int .i64 wi) rfl;have x18 := cA ((HDZ.below HBW.out HDZ.lt)) 18 (.string sS) rfl;have x19 := cA ((HDZ.below HBW.out HDZ.lt)) 19 (.int .i64 se) rfl;have x20 := cA ((HDZ.below HBW.out HDZ.lt)) 20 (.slice Av nv cv) rfl;have x21 := cA ((HDZ.below HBW.out HDZ.lt)) 21 (.string dn) rfl;have x22 := cA ((HDZ.below HBW.out HDZ.lt)) 22 (.string ot) rfl;have x23 := cA ((HDZ.below HBW.out HDZ.lt)) 23 (.string rs) rfl;have x24 := cA ((HDZ.below HBW.out HDZ.lt)) 24 (.int .i64 mo) rfl;have x25 := cA ((HDZ.below HBW.out HDZ.lt)) 25 (.int .i64 tr) rfl;have x26 := cA ((HDZ.below HBW.out HDZ.lt)) 26 (.bool ef) rfl;have x27 := cA ((HDZ.below HBW.out HDZ.lt)) 27 (.int .i64 nw) rfl;have xl := ((HDZ.below HBW.out HDZ.lt)).lt;have xf := Yu (HDZ.below HBW.out HDZ.lt);go_wp2_with fail;refine KT.past rfl ?_;refine Zd rfl rfl ?_
 go_big_quiet_step (fail)
 refine wpQuiet_nil ?_;refine Ze rfl ?_;go_wp2_with fail;refine KT.past rfl ?_;refine Zd rfl rfl ?_
 go_big_quiet_step (fail)
 refine wpQuiet_nil ?_;refine Ze rfl ?_;go_wp2_with fail;refine KT.past rfl ?_;refine Zd rfl rfl ?_
 go_big_quiet_step (fail)
 refine wpQuiet_nil ?_;refine Ze rfl ?_;go_wp2_with fail;refine KT.past rfl ?_;refine Zi ?_;obtain ⟨we, hwe⟩ := nE (Xe (Xe wc gd 11 [st']) gd 16 [.string ⟨#[]⟩, cw, .string ⟨#[]⟩, .int .i64 0, .slice none 0 0, .string ⟨#[]⟩, .string ⟨#[]⟩, .string ⟨#[]⟩, co, .int .i64 0]);have HK : Hid (Za (fun k => k = gd) wc we) := hwe ▸ (Xh gd _ wc 11).trans (Xh _ _ _ _) (fun _ => .inl);have HD1 : Hid (Blk (Xe wc gd 11 [st']) gd 41 #[lv, rg, wn, ou, qu, vi, nm, dl, jp, .slice A n c, lo, st', ju, d1, d2, d3, inn, wi, sS, se, .slice Av nv cv, dn, ot, rs, mo, tr, ef, nw]) := Ui (HDZ.below HBW.out HDZ.lt) 11 _ (Nat.le_of_ble_eq_true rfl) ab;have HDE : Hid (Blk we gd 41 #[lv, rg, wn, ou, qu, vi, nm, dl, jp, .slice A n c, lo, st', ju, d1, d2, d3, .string ⟨#[]⟩, cw, .string ⟨#[]⟩, .int .i64 0, .slice none 0 0, .string ⟨#[]⟩, .string ⟨#[]⟩, .string ⟨#[]⟩, co, .int .i64 0, ef, nw]) := hwe ▸ Ui HD1.out 16 _ (Nat.le_of_ble_eq_true rfl) ab;simp only [Xe, Nat.reduceAdd] at hwe;rw [hwe];have HRC := hid (HK.blk (HRZ.below HBW.out HRZ.lt) (fun e => HNE.out e.symm));have HBE : Hid (Below w.heap.size w we) := HBZ.trans ((HBW.mono HBZ.size).trans (HK.below (Nat.le_trans HBZ.size HBW.size) (fun k (e : k = gd) => by rw [e]; exact HGD2.out)));clear hwe HK x0 x1 x2 x3 x4 x5 x6 x7 x8 x9 x10 x11 x12 x13 x14 x15 x16 x17 x18 x19 x20 x21 x22 x23 x24 x25 x26 x27 xl xf HBW HD1;go_wp2_with (first | (refine wpList_load_mid rfl 41 _ rfl gd 0 rfl [lv, rg, wn, ou, qu, vi, nm, dl, jp, .slice A n c, lo, st', ju, d1, d2, d3, .string ⟨#[]⟩, cw, .string ⟨#[]⟩, .int .i64 0, .slice none 0 0, .string ⟨#[]⟩, .string ⟨#[]⟩, .string ⟨#[]⟩, co, .int .i64 0, ef, nw] _ (Blk.range HDE.out) Tryz.underlying41 rfl Zk ?_) | (refine wpList_store_row rfl 41 _ _ rfl gr #[lv, rg, wn, ou, qu, vi, nm, dl, jp, .slice A n c, lo, st', ju, d1, d2, d3, .string ⟨#[]⟩, cw, .string ⟨#[]⟩, .int .i64 0, .slice none 0 0, .string ⟨#[]⟩, .string ⟨#[]⟩, .string ⟨#[]⟩, co, .int .i64 0, ef, nw] rfl rfl 41 _ HRC.out Zk rfl ab ?_));have HRF : Hid (Blk (we.setRow gr #[lv, rg, wn, ou, qu, vi, nm, dl, jp, .slice A n c, lo, st', ju, d1, d2, d3, .string ⟨#[]⟩, cw, .string ⟨#[]⟩, .int .i64 0, .slice none 0 0, .string ⟨#[]⟩, .string ⟨#[]⟩, .string ⟨#[]⟩, co, .int .i64 0, ef, nw]) gr 41 #[lv, rg, wn, ou, qu, vi, nm, dl, jp, .slice A n c, lo, st', ju, d1, d2, d3, .string ⟨#[]⟩, cw, .string ⟨#[]⟩, .int .i64 0, .slice none 0 0, .string ⟨#[]⟩, .string ⟨#[]⟩, .string ⟨#[]⟩, co, .int .i64 0, ef, nw]) := HRC.setRow _;have HBF : Hid (Below w.heap.size w (we.setRow gr #[lv, rg, wn, ou, qu, vi, nm, dl, jp, .slice A n c, lo, st', ju, d1, d2, d3, .string ⟨#[]⟩, cw, .string ⟨#[]⟩, .int .i64 0, .slice none 0 0, .string ⟨#[]⟩, .string ⟨#[]⟩, .string ⟨#[]⟩, co, .int .i64 0, ef, nw])) := HBE.trans ((Za.setRow (fun k => k = gr) _ gr _ rfl).below HBE.size (fun k (e : k = gr) => by rw [e]; exact HGR.out));have hres := run_loadVar_mid (P := Tryz.prog) (we.setRow gr #[lv, rg, wn, ou, qu, vi, nm, dl, jp, .slice A n c, lo, st', ju, d1, d2, d3, .string ⟨#[]⟩, cw, .string ⟨#[]⟩, .int .i64 0, .slice none 0 0, .string ⟨#[]⟩, .string ⟨#[]⟩, .string ⟨#[]⟩, co, .int .i64 0, ef, nw]) gr 0 41 [lv, rg, wn, ou, qu, vi, nm, dl, jp, .slice A n c, lo, st', ju, d1, d2, d3, .string ⟨#[]⟩, cw, .string ⟨#[]⟩, .int .i64 0, .slice none 0 0, .string ⟨#[]⟩, .string ⟨#[]⟩, .string ⟨#[]⟩, co, .int .i64 0, ef, nw] _ (Blk.range HRF.out) Tryz.underlying41 rfl Zk;exact bodyPost_ret (v := .agg #[lv, rg, wn, ou, qu, vi, nm, dl, jp, .slice A n c, lo, st', ju, d1, d2, d3, .string ⟨#[]⟩, cw, .string ⟨#[]⟩, .int .i64 0, .slice none 0 0, .string ⟨#[]⟩, .string ⟨#[]⟩, .string ⟨#[]⟩, co, .int .i64 0, ef, nw]) (Zca (Yl.cell rfl hres) Tryz.results132) rfl ⟨rfl, HBF.out⟩
end Go.Proofs.YtpkkfdmhbbipoaaGreat
