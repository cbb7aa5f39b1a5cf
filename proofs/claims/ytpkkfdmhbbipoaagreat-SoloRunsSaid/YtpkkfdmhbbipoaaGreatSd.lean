/- Walks: package solo: Steps, Status; the reference's SameSteps. -/
import Derived.Test.YtpkkfdmhbbipoaaGreatSc
namespace Go.Proofs.YtpkkfdmhbbipoaaGreat
set_option maxRecDepth 20000
set_option maxHeartbeats 4000000
open Go.RowKit PopT
def Ub.stepCells (o : Ub) : List Value := [o.t, o.loc, o.what, o.arm, o.m, o.st]
def Vb (l : List Ub) : List Value := l.flatMap Ub.stepCells
theorem Mm (a b : List Ub) : Vb (a ++ b) = Vb a ++ Vb b := by simp [Vb]
theorem Ml (l : List Ub) : (Vb l).length = l.length * 6 := by
 induction l with
 | nil => rfl
 | cons x l ih => simp only [Vb, List.flatMap_cons, List.length_append, List.length_cons] at *; rw [ih]; simp [Ub.stepCells]; omega
theorem Zof (l : List Ub) (i : Nat) (x : Ub) (hi : l[i]? = some x) (j : Nat) (hj : j < 6) : (Vb l)[i * 6 + j]? = x.stepCells[j]? := by
 induction l generalizing i with
 | nil => simp at hi
 | cons m l ih =>
  have e : Vb (m :: l) = m.stepCells ++ Vb l := rfl;have hm : m.stepCells.length = 6 := rfl;rw [e];cases i with
  | zero =>
   exact N59
  | succ i =>
   rw [List.getElem?_append_right aa];have e2 : (i + 1) * 6 + j - m.stepCells.length = i * 6 + j := aa
   rw [e2];exact ih i kg
def Xc (l : List Ub) : List Ub := l.filter fun o => decide (o.what ≠ 0)
theorem Zdm (l : List Ub) (o : Ub) : Xc (l ++ [o]) = if o.what ≠ 0 then Xc l ++ [o] else Xc l := by
 unfold Xc;rw [List.filter_append];by_cases h : o.what ≠ 0
 ·rw [if_pos h]; simp [h]
 ·rw [if_neg h]; simp at h; simp [h]
theorem Zc4 (l : List Ub) : (Xc l).length ≤ l.length := List.length_filter_le _ _
theorem Zbm : (Tryz.prog.info? 51).map (fun i => (i.zero, i.size, i.bytes)) = some (some (.agg zs), 6, 48) := by kernel_rfl
theorem N54{P:Prop}(h:P:=by
 have hi2 : ¬ (i : Int) < (n : Int) := aa
 have HE : Hid (Xc l = Xc (l.take i)) := by rw [List.take_of_length_le bj]; rfl
 go_wp2_with fail;go_ret;rw [HE.out, ← HK.out];exact ⟨A', c', rfl, HO.out, HB.out⟩):P:=h
theorem N40{P:Prop}(h:P:=by
 obtain ⟨k1, hk1⟩ := nE (k + 1);rw [hk1] at HO5 ⊢;have HK5 : Hid (k1 = (Xc (l.take (i + 1))).length) := by rw [Hid, HS3.out, List.length_append, ← HK.out, ← hk1]; rfl
 clear hown5 hk5 hf5 HO2 hs2 hk1 hkn HS3 HK;go_wp2_with fail;go_roundw
 case rel => exact ⟨i + 1, k1, c5, some ⟨g5, 0, none⟩, aa, aw, rfl, HK5.out, HO5.out, HB5.out⟩
 case measure => simp [intOf]; omega):P:=h
theorem Zmp (A : Option Addr) (n c : Nat) (l : List Ub) (w : World) (hl : l.length = n) (hn : n ≤ 1000000) (hr : Rd w A (Yn l)) :
  Calls Tryz.prog 45 #[.slice A n c] w fun e w' => ∃ A' c', e = .returned (.slice A' (Xc l).length c') ∧ w'.ownsRow w.heap.size 51 6 (.slice A' (Xc l).length c') (Xc l).length (Vb (Xc l)) ∧ Below w.heap.size w w' := by
 have HL := hid hl;have HRB : Hid (∀ W, Below w.heap.size w W → Rd W A (Yn l)) := fun W hb => hr.below hb;clear hl hr;go_enter Tryz.func45, Tryz.ntmps45;go_wp2_with fail
 go_loopw [8, 3] (fun iv zv wr => ∃ (i k c' : Nat) (A' : Option Addr), i ≤ n ∧ iv = .int .i64 (i : Int) ∧ zv = .slice A' k c' ∧ k = (Xc (l.take i)).length ∧ wr.ownsRow w.heap.size 51 6 (.slice A' k c') k (Vb (Xc (l.take i))) ∧ Below w.heap.size w wr) (fun iv _ _ => n - (intOf iv).toNat)
 case atStart => exact ⟨0, 0, 0, none, aa, rfl, rfl, rfl, World.ownsRow_nil _ _ _ _, Below.refl _ _⟩
 case round =>
  obtain ⟨i, k, c', A', hi, rfl, rfl, hk, hown, hb⟩ := hrel;have HB := hid hb; have HK := hid hk; have HO := hid hown;have HKL : Hid (k ≤ i) := jo
  clear hb hk hown;by_cases hlt : i < n
  ·have hli : i < l.length := by rw [HL.out]; exact hlt
   have hget : l[i]? = some (l[i]'hli) := List.getElem?_eq_getElem hli;obtain ⟨ov, hov⟩ := nE (l[i]'hli);rw [hov] at hget;have hTK : l.take (i + 1) = l.take i ++ [ov] := fu
   obtain ⟨bl, off, rfl, hbl, hcc⟩ := (HRB.out wr HB.out).at kn;have hc : ∀ j u, j < 9 → ov.cells[j]? = some u → wr.cell? ⟨bl, off + (i * 9 + j), none⟩ = some u := fun j u hj hu => hcc _ u ((Zcd l i ov hget j hj).trans hu);have HS : Hid (Xc (l.take (i + 1)) = if ov.what ≠ 0 then Xc (l.take i) ++ [ov] else Xc (l.take i)) := by rw [Hid, hTK, Zdm]
   obtain ⟨on, ob, ot, ol, ow, oa, om, os, od⟩ := ov;have c0 := hc 0 _ aa rfl;have c1 := hc 1 _ aa rfl;have c2 := hc 2 _ aa rfl;have c3 := hc 3 _ aa rfl;have c4 := hc 4 _ aa rfl;have c5 := hc 5 _ aa rfl;have c6 := hc 6 _ aa rfl;have c7 := hc 7 _ aa rfl;have c8 := hc 8 _ aa rfl;simp only [Nat.add_zero, ← Nat.add_assoc] at c0 c1 c2 c3 c4 c5 c6 c7 c8;have hi2 : (i : Int) < (n : Int) := aa
   simp only at HS;clear hget hov hc hcc hli hTK;go_upto_region 5 with fail;obtain ⟨w2, hw2⟩ := nE (wr.alloc (.cells #[on, ob, ot, ol, ow, oa, om, os, od] 118));have HI2 := bn hw2;have HB2 := ba hw2;rw [hw2];clear hw2 c0 c1 c2 c3 c4 c5 c6 c7 c8 hbl;have HB3 := hid (HB.trans (HB2.mono HB.size));obtain ⟨gi, hgi⟩ := nE (wr.heap.size);rw [hgi] at HI2 ⊢;clear hgi;obtain ⟨i0, i1, i2, i3, i4, i5, i6, i7, i8⟩ := Qn HI2.out;have hlI := HI2.lt;have HO2 := hid (Yc HO.out HB2.out);have hs2 : w.heap.size ≤ w2.heap.size := HB3.size;clear HB2 HO;by_cases h0 : ow = 0
   ·have HS3 : Hid (Xc (l.take (i + 1)) = Xc (l.take i)) := by rw [Hid, HS.out, if_neg aa]
    have h0f := bT h0;clear HS;go_wp2_with fail;go_roundw
    case rel => exact ⟨i + 1, k, c', A', aa, aw, rfl, by rw [HS3.out]; exact HK.out, by rw [HS3.out]; exact HO2.out, HB3.out⟩
    case measure => simp [intOf]; omega
   ·have HS3 : Hid (Xc (l.take (i + 1)) = Xc (l.take i) ++ [⟨on, ob, ot, ol, ow, oa, om, os, od⟩]) := by rw [Hid, HS.out, if_pos aa]
    have h0f := bF h0;have hkn : k ≤ 1000000 := by have := HKL.out; omega
    clear HS;go_wp2_with (at_builtin; refine Wb _ rfl _ _ 82 rfl w.heap.size 51 _ 6 48 Tryz.underlying82 Zbm rfl ac _ _ _ rfl HO2.out 1 [ot, ol, ow, oa, om, os] rfl rfl rfl ?_ ac hs2 ?_)
    ·omega
    intro g5 c5 w5 hown5 hk5 hf5
    have HO5 : Hid (w5.ownsRow w.heap.size 51 6 (.slice (some ⟨g5, 0, none⟩) (k + 1) c5) (k + 1) (Vb (Xc (l.take (i + 1))))) := by
     rw [Hid, HS3.out, Mm]; exact hown5
    have HB5 : Hid (Below w.heap.size w w5) := HB3.trans (hk5.below hs2 (fun q hq => (HO2.lt q hq).1));exact N40
  ·exact N54
theorem N116{P:Prop}(h:P:=by
 have hi2 : ¬ (i : Int) < (m : Int) := aa
 go_wp2_with fail;go_ret;exact ⟨rfl, HB.out⟩):P:=h
theorem N89{P:Prop}(h:P:=by
 go_wp2_with fail;go_roundw
 case rel => exact ⟨i + 1, aa, aw, HB.trans (HBU.mono HB.size)⟩
 case measure => simp [intOf]; omega):P:=h
theorem Zf2 (A : Option Addr) (n c : Nat) (B : Option Addr) (m k : Nat) (l : List Ub) (w : World) (hl : l.length = n) (hm : m = n) (hn : n ≤ 1000000) (ha : Rd w A (Vb l)) (hb : Rd w B (Vb l)) :
  Calls Tryz.prog 44 #[.slice A n c, .slice B m k] w fun e w' => e = .returned (.bool true) ∧ Below w.heap.size w w' := by
 subst hm;have HL := hid hl; have HA := hid ha; have HBB := hid hb;clear hl ha hb;go_enter Tryz.func44, Tryz.ntmps44;go_wp2_with fail
 go_loopw [5] (fun iv wr => ∃ i : Nat, i ≤ m ∧ iv = .int .i64 (i : Int) ∧ Below w.heap.size w wr) (fun iv _ => m - (intOf iv).toNat)
 case atStart => exact ⟨0, aa, rfl, Below.refl _ _⟩
 case round =>
  obtain ⟨i, hi, rfl, hb⟩ := hrel;have HB := hid hb;clear hb;by_cases hlt : i < m
  ·have hli : i < l.length := by rw [HL.out]; exact hlt
   have hget : l[i]? = some (l[i]'hli) := List.getElem?_eq_getElem hli;obtain ⟨ov, hov⟩ := nE (l[i]'hli);rw [hov] at hget;obtain ⟨b1, o1, rfl, hb1, hc1⟩ := (HA.below HB.out).at (by rw [Ml]; omega);obtain ⟨b2, o2, rfl, hb2, hc2⟩ := (HBB.below HB.out).at (by rw [Ml]; omega);have hd1 : ∀ j u, j < 6 → ov.stepCells[j]? = some u → wr.cell? ⟨b1, o1 + (i * 6 + j), none⟩ = some u := fun j u hj hu => hc1 _ u ((Zof l i ov hget j hj).trans hu);have hd2 : ∀ j u, j < 6 → ov.stepCells[j]? = some u → wr.cell? ⟨b2, o2 + (i * 6 + j), none⟩ = some u := fun j u hj hu => hc2 _ u ((Zof l i ov hget j hj).trans hu);obtain ⟨on, ob, ot, ol, ow, oa, om, os, od⟩ := ov;have e10 := hd1 0 _ aa rfl;have e11 := hd1 1 _ aa rfl;have e12 := hd1 2 _ aa rfl;have e13 := hd1 3 _ aa rfl;have e14 := hd1 4 _ aa rfl;have e15 := hd1 5 _ aa rfl;have e20 := hd2 0 _ aa rfl;have e21 := hd2 1 _ aa rfl;have e22 := hd2 2 _ aa rfl;have e23 := hd2 3 _ aa rfl;have e24 := hd2 4 _ aa rfl;have e25 := hd2 5 _ aa rfl;simp only [Nat.add_zero, ← Nat.add_assoc] at e10 e11 e12 e13 e14 e15 e20 e21 e22 e23 e24 e25;have T10 : ∀ q : BW wr.heap.size wr, q.1.cell? ⟨b1, o1 + i * 6, none⟩ = some (.int .i64 ot) := fun q => q.cellAt hb1 e10;have T11 : ∀ q : BW wr.heap.size wr, q.1.cell? ⟨b1, o1 + i * 6 + 1, none⟩ = some (.int .i64 ol) := fun q => q.cellAt hb1 e11;have T12 : ∀ q : BW wr.heap.size wr, q.1.cell? ⟨b1, o1 + i * 6 + 2, none⟩ = some (.int .i64 ow) := fun q => q.cellAt hb1 e12;have T13 : ∀ q : BW wr.heap.size wr, q.1.cell? ⟨b1, o1 + i * 6 + 3, none⟩ = some (.int .i64 oa) := fun q => q.cellAt hb1 e13;have T14 : ∀ q : BW wr.heap.size wr, q.1.cell? ⟨b1, o1 + i * 6 + 4, none⟩ = some (.int .i64 om) := fun q => q.cellAt hb1 e14;have T15 : ∀ q : BW wr.heap.size wr, q.1.cell? ⟨b1, o1 + i * 6 + 5, none⟩ = some (.int .i64 os) := fun q => q.cellAt hb1 e15;have T20 : ∀ q : BW wr.heap.size wr, q.1.cell? ⟨b2, o2 + i * 6, none⟩ = some (.int .i64 ot) := fun q => q.cellAt hb2 e20;have T21 : ∀ q : BW wr.heap.size wr, q.1.cell? ⟨b2, o2 + i * 6 + 1, none⟩ = some (.int .i64 ol) := fun q => q.cellAt hb2 e21;have T22 : ∀ q : BW wr.heap.size wr, q.1.cell? ⟨b2, o2 + i * 6 + 2, none⟩ = some (.int .i64 ow) := fun q => q.cellAt hb2 e22;have T23 : ∀ q : BW wr.heap.size wr, q.1.cell? ⟨b2, o2 + i * 6 + 3, none⟩ = some (.int .i64 oa) := fun q => q.cellAt hb2 e23;have T24 : ∀ q : BW wr.heap.size wr, q.1.cell? ⟨b2, o2 + i * 6 + 4, none⟩ = some (.int .i64 om) := fun q => q.cellAt hb2 e24;have T25 : ∀ q : BW wr.heap.size wr, q.1.cell? ⟨b2, o2 + i * 6 + 5, none⟩ = some (.int .i64 os) := fun q => q.cellAt hb2 e25;have hi2 : (i : Int) < (m : Int) := aa
   clear hget hov hc1 hc2 hd1 hd2 hli e10 e11 e12 e13 e14 e15 e20 e21 e22 e23 e24 e25;go_upto_region 6 with fail;refine Zh wr.heap.size ab ab ?_
   repeat (go_big_quiet_step (fail))
   refine wpQuiet_nil ?_;intro wu hqu;have HBU : Hid (Below wr.heap.size wr wu) := ak
   clear hqu T10 T11 T12 T13 T14 T15 T20 T21 T22 T23 T24 T25 hb1 hb2;exact N89
  ·exact N116
end Go.Proofs.YtpkkfdmhbbipoaaGreat
