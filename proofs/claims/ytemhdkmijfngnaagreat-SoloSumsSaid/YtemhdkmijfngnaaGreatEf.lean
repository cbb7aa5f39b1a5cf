/- Walks: package solo: Steps, Status; the reference's SameSteps. Walks: package solo: Taken. The arguments of a law, opened: what inputs came to. -/
import Derived.Test.YtemhdkmijfngnaaGreatEc
import Derived.Test.YtemhdkmijfngnaaGreatEe
namespace Go.Proofs.YtemhdkmijfngnaaGreat
open Go.RowKit PopT

def OutV.stepCells (o : OutV) : List Value := [.int .i64 o.t, .int .i64 o.loc, .int .i64 o.what, .int .i64 o.arm, .int .i64 o.m, .int .i64 o.st]
def stVCells (l : List OutV) : List Value := l.flatMap OutV.stepCells
theorem stVCells_append (a b : List OutV) : stVCells (a ++ b) = stVCells a ++ stVCells b := by simp [stVCells]
theorem stVCells_length (l : List OutV) : (stVCells l).length = l.length * 6 := by
  induction l with
  | nil => rfl
  | cons x l ih => simp only [stVCells, List.flatMap_cons, List.length_append, List.length_cons] at *; rw [ih]; simp [OutV.stepCells]; omega
theorem stV_at (l : List OutV) (i : Nat) (x : OutV) (hi : l[i]? = some x) (j : Nat) (hj : j < 6) : (stVCells l)[i * 6 + j]? = x.stepCells[j]? := by
  induction l generalizing i with
  | nil => simp at hi
  | cons m l ih =>
    have e : stVCells (m :: l) = m.stepCells ++ stVCells l := rfl
    have hm : m.stepCells.length = 6 := rfl
    rw [e]
    cases i with
    | zero =>
      simp only [List.getElem?_cons_zero, Option.some.injEq] at hi
      subst hi
      rw [List.getElem?_append_left (by omega)]; simp
    | succ i =>
      rw [List.getElem?_append_right (by omega)]
      have e2 : (i + 1) * 6 + j - m.stepCells.length = i * 6 + j := by omega
      rw [e2]
      exact ih i (by simpa using hi)
/-- The steps there are; how it stands at last. -/
def stepsM (l : List OutV) : List OutV := l.filter fun o => decide (o.what ≠ 0)
def statusS (z : Int) (o : OutV) : Int := if o.what ≠ 0 then o.st else z
def statusM (l : List OutV) : Int := l.foldl statusS 0
theorem stepsM_snoc (l : List OutV) (o : OutV) : stepsM (l ++ [o]) = if o.what ≠ 0 then stepsM l ++ [o] else stepsM l := by
  unfold stepsM
  rw [List.filter_append]
  by_cases h : o.what ≠ 0
  · rw [if_pos h]; simp [h]
  · rw [if_neg h]; simp at h; simp [h]
theorem stepsM_le (l : List OutV) : (stepsM l).length ≤ l.length := List.length_filter_le _ _
theorem statusM_snoc (l : List OutV) (o : OutV) : statusM (l ++ [o]) = statusS (statusM l) o := by simp [statusM]
theorem Tryz.infoStep : (Tryz.prog.info? 51).map (fun i => (i.zero, i.size, i.bytes)) = some (some (.agg #[.int .i64 0, .int .i64 0, .int .i64 0, .int .i64 0, .int .i64 0, .int .i64 0]), 6, 48) := by kernel_rfl

set_option maxRecDepth 20000 in
set_option maxHeartbeats 4000000 in
theorem status_any (A : Option Addr) (n c : Nat) (l : List OutV) (w : World) (hl : l.length = n) (hn : n ≤ 1000000) (hr : Rd w A (outVCells l)) :
    Calls Tryz.prog 47 #[.slice A n c] w fun e w' => e = .returned (.int .i64 (statusM l)) ∧ Below w.heap.size w w' := by
  have HL := hid hl
  have HRB : Hid (∀ W, Below w.heap.size w W → Rd W A (outVCells l)) := fun W hb => hr.below hb
  clear hl hr
  go_enter Tryz.func47, Tryz.ntmps47
  go_wp2_with fail
  go_loopw [8, 3] (fun iv zv wr => ∃ (i : Nat) (z : Int), i ≤ n ∧ iv = .int .i64 (i : Int) ∧ zv = .int .i64 z ∧ z = statusM (l.take i) ∧ Below w.heap.size w wr) (fun iv _ _ => n - (intOf iv).toNat)
  case atStart => exact ⟨0, 0, by omega, rfl, rfl, rfl, Below.refl _ _⟩
  case round =>
    obtain ⟨i, z, hi, rfl, rfl, hz, hb⟩ := hrel
    have HB := hid hb; have HZ := hid hz
    clear hb hz
    by_cases hlt : i < n
    · have hli : i < l.length := by rw [HL.out]; exact hlt
      have hget : l[i]? = some (l[i]'hli) := List.getElem?_eq_getElem hli
      obtain ⟨ov, hov⟩ : ∃ y, l[i]'hli = y := ⟨_, rfl⟩
      rw [hov] at hget
      have hTK : l.take (i + 1) = l.take i ++ [ov] := by rw [List.take_succ_eq_append_getElem hli, hov]
      obtain ⟨bl, off, rfl, hbl, hcc⟩ := (HRB.out wr HB.out).at (by rw [outVCells_length]; omega)
      have hc : ∀ j u, j < 9 → ov.cells[j]? = some u → wr.cell? ⟨bl, off + (i * 9 + j), none⟩ = some u := fun j u hj hu => hcc _ u ((outV_at l i ov hget j hj).trans hu)
      have HS : Hid (statusM (l.take (i + 1)) = statusS z ov) := by rw [Hid, hTK, statusM_snoc, HZ.out]
      obtain ⟨on, ob, ot, ol, ow, oa, om, os, od⟩ := ov
      have c0 := hc 0 _ (by omega) rfl
      have c1 := hc 1 _ (by omega) rfl
      have c2 := hc 2 _ (by omega) rfl
      have c3 := hc 3 _ (by omega) rfl
      have c4 := hc 4 _ (by omega) rfl
      have c5 := hc 5 _ (by omega) rfl
      have c6 := hc 6 _ (by omega) rfl
      have c7 := hc 7 _ (by omega) rfl
      have c8 := hc 8 _ (by omega) rfl
      simp only [Nat.add_zero, ← Nat.add_assoc] at c0 c1 c2 c3 c4 c5 c6 c7 c8
      have hi2 : (i : Int) < (n : Int) := by omega
      unfold statusS at HS
      simp only at HS
      clear hget hov hc hcc hli hTK
      go_upto_region 5 with fail
      obtain ⟨w2, hw2⟩ : ∃ W, wr.alloc (.cells #[.int .i64 on, .string ob, .int .i64 ot, .int .i64 ol, .int .i64 ow, .int .i64 oa, .int .i64 om, .int .i64 os, .bool od] 72) = W := ⟨_, rfl⟩
      have HI2 : Hid (Blk w2 wr.heap.size 72 #[.int .i64 on, .string ob, .int .i64 ot, .int .i64 ol, .int .i64 ow, .int .i64 oa, .int .i64 om, .int .i64 os, .bool od]) := by rw [← hw2]; exact Blk.new _ _ _
      have HB2 : Hid (Below wr.heap.size wr w2) := by rw [← hw2]; exact (Below.refl _ _).alloc (Nat.le_refl _) _
      rw [hw2]
      clear hw2 c0 c1 c2 c3 c4 c5 c6 c7 c8 hbl
      have HB3 := hid (HB.out.trans (HB2.out.mono HB.out.size))
      obtain ⟨gi, hgi⟩ : ∃ y, wr.heap.size = y := ⟨_, rfl⟩
      rw [hgi] at HI2 ⊢
      clear hgi
      obtain ⟨i0, i1, i2, i3, i4, i5, i6, i7, i8⟩ := fact9 HI2.out
      have hlI := HI2.out.lt
      clear HB2
      by_cases h0 : ow = 0
      · have HS3 : Hid (statusM (l.take (i + 1)) = z) := by rw [Hid, HS.out, if_neg (by omega)]
        have h0f : (ow == 0) = true := by rw [beq_iff_eq]; exact h0
        clear HS
        go_wp2_with fail
        go_roundw
        case rel => exact ⟨i + 1, z, by omega, by go_num, rfl, HS3.out.symm, HB3.out⟩
        case measure => simp [intOf]; omega
      · have HS3 : Hid (statusM (l.take (i + 1)) = os) := by rw [Hid, HS.out, if_pos (by omega)]
        have h0f : (ow == 0) = false := by rw [beq_eq_false_iff_ne]; exact h0
        clear HS
        go_wp2_with fail
        go_roundw
        case rel => exact ⟨i + 1, os, by omega, by go_num, rfl, HS3.out.symm, HB3.out⟩
        case measure => simp [intOf]; omega
    · have hi2 : ¬ (i : Int) < (n : Int) := by omega
      have HE : Hid (statusM l = z) := by rw [HZ.out, List.take_of_length_le (by rw [HL.out]; omega)]; rfl
      go_wp2_with fail
      go_ret
      rw [HE.out]
      exact ⟨rfl, HB.out⟩

set_option maxRecDepth 20000 in
set_option maxHeartbeats 4000000 in
theorem steps_any (A : Option Addr) (n c : Nat) (l : List OutV) (w : World) (hl : l.length = n) (hn : n ≤ 1000000) (hr : Rd w A (outVCells l)) :
    Calls Tryz.prog 36 #[.slice A n c] w fun e w' => ∃ A' c', e = .returned (.slice A' (stepsM l).length c') ∧ w'.ownsRow w.heap.size 51 6 (.slice A' (stepsM l).length c') (stepsM l).length (stVCells (stepsM l)) ∧ Below w.heap.size w w' := by
  have HL := hid hl
  have HRB : Hid (∀ W, Below w.heap.size w W → Rd W A (outVCells l)) := fun W hb => hr.below hb
  clear hl hr
  go_enter Tryz.func36, Tryz.ntmps36
  go_wp2_with fail
  go_loopw [8, 3] (fun iv zv wr => ∃ (i k c' : Nat) (A' : Option Addr), i ≤ n ∧ iv = .int .i64 (i : Int) ∧ zv = .slice A' k c' ∧ k = (stepsM (l.take i)).length ∧ wr.ownsRow w.heap.size 51 6 (.slice A' k c') k (stVCells (stepsM (l.take i))) ∧ Below w.heap.size w wr) (fun iv _ _ => n - (intOf iv).toNat)
  case atStart => exact ⟨0, 0, 0, none, by omega, rfl, rfl, rfl, World.ownsRow_nil _ _ _ _, Below.refl _ _⟩
  case round =>
    obtain ⟨i, k, c', A', hi, rfl, rfl, hk, hown, hb⟩ := hrel
    have HB := hid hb; have HK := hid hk; have HO := hid hown
    have HKL : Hid (k ≤ i) := by rw [Hid, hk]; exact Nat.le_trans (stepsM_le _) (by rw [List.length_take]; omega)
    clear hb hk hown
    by_cases hlt : i < n
    · have hli : i < l.length := by rw [HL.out]; exact hlt
      have hget : l[i]? = some (l[i]'hli) := List.getElem?_eq_getElem hli
      obtain ⟨ov, hov⟩ : ∃ y, l[i]'hli = y := ⟨_, rfl⟩
      rw [hov] at hget
      have hTK : l.take (i + 1) = l.take i ++ [ov] := by rw [List.take_succ_eq_append_getElem hli, hov]
      obtain ⟨bl, off, rfl, hbl, hcc⟩ := (HRB.out wr HB.out).at (by rw [outVCells_length]; omega)
      have hc : ∀ j u, j < 9 → ov.cells[j]? = some u → wr.cell? ⟨bl, off + (i * 9 + j), none⟩ = some u := fun j u hj hu => hcc _ u ((outV_at l i ov hget j hj).trans hu)
      have HS : Hid (stepsM (l.take (i + 1)) = if ov.what ≠ 0 then stepsM (l.take i) ++ [ov] else stepsM (l.take i)) := by rw [Hid, hTK, stepsM_snoc]
      obtain ⟨on, ob, ot, ol, ow, oa, om, os, od⟩ := ov
      have c0 := hc 0 _ (by omega) rfl
      have c1 := hc 1 _ (by omega) rfl
      have c2 := hc 2 _ (by omega) rfl
      have c3 := hc 3 _ (by omega) rfl
      have c4 := hc 4 _ (by omega) rfl
      have c5 := hc 5 _ (by omega) rfl
      have c6 := hc 6 _ (by omega) rfl
      have c7 := hc 7 _ (by omega) rfl
      have c8 := hc 8 _ (by omega) rfl
      simp only [Nat.add_zero, ← Nat.add_assoc] at c0 c1 c2 c3 c4 c5 c6 c7 c8
      have hi2 : (i : Int) < (n : Int) := by omega
      simp only at HS
      clear hget hov hc hcc hli hTK
      go_upto_region 5 with fail
      obtain ⟨w2, hw2⟩ : ∃ W, wr.alloc (.cells #[.int .i64 on, .string ob, .int .i64 ot, .int .i64 ol, .int .i64 ow, .int .i64 oa, .int .i64 om, .int .i64 os, .bool od] 72) = W := ⟨_, rfl⟩
      have HI2 : Hid (Blk w2 wr.heap.size 72 #[.int .i64 on, .string ob, .int .i64 ot, .int .i64 ol, .int .i64 ow, .int .i64 oa, .int .i64 om, .int .i64 os, .bool od]) := by rw [← hw2]; exact Blk.new _ _ _
      have HB2 : Hid (Below wr.heap.size wr w2) := by rw [← hw2]; exact (Below.refl _ _).alloc (Nat.le_refl _) _
      rw [hw2]
      clear hw2 c0 c1 c2 c3 c4 c5 c6 c7 c8 hbl
      have HB3 := hid (HB.out.trans (HB2.out.mono HB.out.size))
      obtain ⟨gi, hgi⟩ : ∃ y, wr.heap.size = y := ⟨_, rfl⟩
      rw [hgi] at HI2 ⊢
      clear hgi
      obtain ⟨i0, i1, i2, i3, i4, i5, i6, i7, i8⟩ := fact9 HI2.out
      have hlI := HI2.out.lt
      have HO2 := hid (own_below HO.out HB2.out)
      have hs2 : w.heap.size ≤ w2.heap.size := HB3.out.size
      clear HB2 HO
      by_cases h0 : ow = 0
      · have HS3 : Hid (stepsM (l.take (i + 1)) = stepsM (l.take i)) := by rw [Hid, HS.out, if_neg (by omega)]
        have h0f : (ow == 0) = true := by rw [beq_iff_eq]; exact h0
        clear HS
        go_wp2_with fail
        go_roundw
        case rel => exact ⟨i + 1, k, c', A', by omega, by go_num, rfl, by rw [HS3.out]; exact HK.out, by rw [HS3.out]; exact HO2.out, HB3.out⟩
        case measure => simp [intOf]; omega
      · have HS3 : Hid (stepsM (l.take (i + 1)) = stepsM (l.take i) ++ [⟨on, ob, ot, ol, ow, oa, om, os, od⟩]) := by rw [Hid, HS.out, if_pos (by omega)]
        have h0f : (ow == 0) = false := by rw [beq_eq_false_iff_ne]; exact h0
        have hkn : k ≤ 1000000 := by have := HKL.out; omega
        clear HS
        go_wp2_with (at_builtin; refine wpList_append1K _ rfl _ _ 80 rfl w.heap.size 51 _ 6 48 Tryz.underlying80 Tryz.infoStep rfl (by decide) _ _ _ rfl HO2.out 1 [.int .i64 ot, .int .i64 ol, .int .i64 ow, .int .i64 oa, .int .i64 om, .int .i64 os] rfl rfl rfl ?_ (by decide) hs2 ?_)
        · omega
        intro g5 c5 w5 hown5 hk5 hf5
        have HO5 : Hid (w5.ownsRow w.heap.size 51 6 (.slice (some ⟨g5, 0, none⟩) (k + 1) c5) (k + 1) (stVCells (stepsM (l.take (i + 1))))) := by
          rw [Hid, HS3.out, stVCells_append]; exact hown5
        have HB5 : Hid (Below w.heap.size w w5) := HB3.out.trans (hk5.below hs2 (fun q hq => (HO2.out.lt q hq).1))
        obtain ⟨k1, hk1⟩ : ∃ y, k + 1 = y := ⟨_, rfl⟩
        rw [hk1] at HO5 ⊢
        have HK5 : Hid (k1 = (stepsM (l.take (i + 1))).length) := by rw [Hid, HS3.out, List.length_append, ← HK.out, ← hk1]; rfl
        clear hown5 hk5 hf5 HO2 hs2 hk1 hkn HS3 HK
        go_wp2_with fail
        go_roundw
        case rel => exact ⟨i + 1, k1, c5, some ⟨g5, 0, none⟩, by omega, by go_num, rfl, HK5.out, HO5.out, HB5.out⟩
        case measure => simp [intOf]; omega
    · have hi2 : ¬ (i : Int) < (n : Int) := by omega
      have HE : Hid (stepsM l = stepsM (l.take i)) := by rw [List.take_of_length_le (by rw [HL.out]; omega)]; rfl
      go_wp2_with fail
      go_ret
      rw [HE.out, ← HK.out]
      exact ⟨A', c', rfl, HO.out, HB.out⟩

set_option maxRecDepth 20000 in
set_option maxHeartbeats 4000000 in
theorem sameSteps_any (A : Option Addr) (n c : Nat) (B : Option Addr) (m k : Nat) (l : List OutV) (w : World) (hl : l.length = n) (hm : m = n) (hn : n ≤ 1000000) (ha : Rd w A (stVCells l)) (hb : Rd w B (stVCells l)) :
    Calls Tryz.prog 35 #[.slice A n c, .slice B m k] w fun e w' => e = .returned (.bool true) ∧ Below w.heap.size w w' := by
  subst hm
  have HL := hid hl; have HA := hid ha; have HBB := hid hb
  clear hl ha hb
  go_enter Tryz.func35, Tryz.ntmps35
  go_wp2_with fail
  go_loopw [5] (fun iv wr => ∃ i : Nat, i ≤ m ∧ iv = .int .i64 (i : Int) ∧ Below w.heap.size w wr) (fun iv _ => m - (intOf iv).toNat)
  case atStart => exact ⟨0, by omega, rfl, Below.refl _ _⟩
  case round =>
    obtain ⟨i, hi, rfl, hb⟩ := hrel
    have HB := hid hb
    clear hb
    by_cases hlt : i < m
    · have hli : i < l.length := by rw [HL.out]; exact hlt
      have hget : l[i]? = some (l[i]'hli) := List.getElem?_eq_getElem hli
      obtain ⟨ov, hov⟩ : ∃ y, l[i]'hli = y := ⟨_, rfl⟩
      rw [hov] at hget
      obtain ⟨b1, o1, rfl, hb1, hc1⟩ := (HA.out.below HB.out).at (by rw [stVCells_length]; omega)
      obtain ⟨b2, o2, rfl, hb2, hc2⟩ := (HBB.out.below HB.out).at (by rw [stVCells_length]; omega)
      have hd1 : ∀ j u, j < 6 → ov.stepCells[j]? = some u → wr.cell? ⟨b1, o1 + (i * 6 + j), none⟩ = some u := fun j u hj hu => hc1 _ u ((stV_at l i ov hget j hj).trans hu)
      have hd2 : ∀ j u, j < 6 → ov.stepCells[j]? = some u → wr.cell? ⟨b2, o2 + (i * 6 + j), none⟩ = some u := fun j u hj hu => hc2 _ u ((stV_at l i ov hget j hj).trans hu)
      obtain ⟨on, ob, ot, ol, ow, oa, om, os, od⟩ := ov
      have e10 := hd1 0 _ (by omega) rfl
      have e11 := hd1 1 _ (by omega) rfl
      have e12 := hd1 2 _ (by omega) rfl
      have e13 := hd1 3 _ (by omega) rfl
      have e14 := hd1 4 _ (by omega) rfl
      have e15 := hd1 5 _ (by omega) rfl
      have e20 := hd2 0 _ (by omega) rfl
      have e21 := hd2 1 _ (by omega) rfl
      have e22 := hd2 2 _ (by omega) rfl
      have e23 := hd2 3 _ (by omega) rfl
      have e24 := hd2 4 _ (by omega) rfl
      have e25 := hd2 5 _ (by omega) rfl
      simp only [Nat.add_zero, ← Nat.add_assoc] at e10 e11 e12 e13 e14 e15 e20 e21 e22 e23 e24 e25
      have T10 : ∀ q : BW wr.heap.size wr, q.1.cell? ⟨b1, o1 + i * 6, none⟩ = some (.int .i64 ot) := fun q => q.cellAt hb1 e10
      have T11 : ∀ q : BW wr.heap.size wr, q.1.cell? ⟨b1, o1 + i * 6 + 1, none⟩ = some (.int .i64 ol) := fun q => q.cellAt hb1 e11
      have T12 : ∀ q : BW wr.heap.size wr, q.1.cell? ⟨b1, o1 + i * 6 + 2, none⟩ = some (.int .i64 ow) := fun q => q.cellAt hb1 e12
      have T13 : ∀ q : BW wr.heap.size wr, q.1.cell? ⟨b1, o1 + i * 6 + 3, none⟩ = some (.int .i64 oa) := fun q => q.cellAt hb1 e13
      have T14 : ∀ q : BW wr.heap.size wr, q.1.cell? ⟨b1, o1 + i * 6 + 4, none⟩ = some (.int .i64 om) := fun q => q.cellAt hb1 e14
      have T15 : ∀ q : BW wr.heap.size wr, q.1.cell? ⟨b1, o1 + i * 6 + 5, none⟩ = some (.int .i64 os) := fun q => q.cellAt hb1 e15
      have T20 : ∀ q : BW wr.heap.size wr, q.1.cell? ⟨b2, o2 + i * 6, none⟩ = some (.int .i64 ot) := fun q => q.cellAt hb2 e20
      have T21 : ∀ q : BW wr.heap.size wr, q.1.cell? ⟨b2, o2 + i * 6 + 1, none⟩ = some (.int .i64 ol) := fun q => q.cellAt hb2 e21
      have T22 : ∀ q : BW wr.heap.size wr, q.1.cell? ⟨b2, o2 + i * 6 + 2, none⟩ = some (.int .i64 ow) := fun q => q.cellAt hb2 e22
      have T23 : ∀ q : BW wr.heap.size wr, q.1.cell? ⟨b2, o2 + i * 6 + 3, none⟩ = some (.int .i64 oa) := fun q => q.cellAt hb2 e23
      have T24 : ∀ q : BW wr.heap.size wr, q.1.cell? ⟨b2, o2 + i * 6 + 4, none⟩ = some (.int .i64 om) := fun q => q.cellAt hb2 e24
      have T25 : ∀ q : BW wr.heap.size wr, q.1.cell? ⟨b2, o2 + i * 6 + 5, none⟩ = some (.int .i64 os) := fun q => q.cellAt hb2 e25
      have hi2 : (i : Int) < (m : Int) := by omega
      clear hget hov hc1 hc2 hd1 hd2 hli e10 e11 e12 e13 e14 e15 e20 e21 e22 e23 e24 e25
      go_upto_region 6 with fail
      refine wp_region_below wr.heap.size (by kernel_rfl) (by kernel_rfl) ?_
      repeat (go_big_quiet_step (fail))
      refine wpQuiet_nil ?_
      intro wu hqu
      have HBU : Hid (Below wr.heap.size wr wu) := by obtain ⟨q, rfl⟩ := hqu; exact q.2
      clear hqu T10 T11 T12 T13 T14 T15 T20 T21 T22 T23 T24 T25 hb1 hb2
      go_wp2_with fail
      go_roundw
      case rel => exact ⟨i + 1, by omega, by go_num, HB.out.trans (HBU.out.mono HB.out.size)⟩
      case measure => simp [intOf]; omega
    · have hi2 : ¬ (i : Int) < (m : Int) := by omega
      go_wp2_with fail
      go_ret
      exact ⟨rfl, HB.out⟩
end Go.Proofs.YtemhdkmijfngnaaGreat
namespace Go.Proofs.YtemhdkmijfngnaaGreat
open Go.RowKit PopT

theorem isB_below2 {B b : Nat} {bs : List Value} {w w' : World} (h : Lib.IsBuilder 121 5 B b bs w) (hb : Below w.heap.size w w') : Lib.IsBuilder 121 5 B b bs w' := by
  have one : ∀ p, Lib.BuilderAt 121 5 B b p bs w → Lib.BuilderAt 121 5 B b p bs w' := by
    intro p h
    have hlt := h.lt
    obtain ⟨hB, v, hk, ho, hne⟩ := h
    exact ⟨hB, v, (hb.block b hlt).trans hk, own_below ho hb, hne⟩
  exact h.elim (fun h => .inl (one _ h)) (fun h => .inr (one _ h))
def takenM (l : List OutV) : List UInt8 := l.flatMap fun o => o.b.data.toList
theorem takenM_snoc (l : List OutV) (o : OutV) : takenM (l ++ [o]) = takenM l ++ o.b.data.toList := by simp [takenM]
theorem takenM_len (l : List OutV) (h : ∀ o ∈ l, o.b.size ≤ 1000) : (takenM l).length ≤ l.length * 1000 := by
  induction l with
  | nil => simp [takenM]
  | cons o l ih =>
    have h1 := h o (by simp)
    have h2 := ih (fun o ho => h o (by simp [ho]))
    have e : takenM (o :: l) = o.b.data.toList ++ takenM l := rfl
    have hs : o.b.data.toList.length = o.b.size := by rw [Array.length_toList]; rfl
    rw [e, List.length_append, hs, List.length_cons]; omega

set_option maxRecDepth 20000 in
set_option maxHeartbeats 4000000 in
theorem taken_any (A : Option Addr) (n c : Nat) (l : List OutV) (w : World) (hl : l.length = n) (hn : n ≤ 1000) (hr : Rd w A (outVCells l)) (hb8 : ∀ o ∈ l, o.b.size ≤ 1000) :
    Calls Tryz.prog 46 #[.slice A n c] w fun e w' => e = .returned (.string ⟨(takenM l).toArray⟩) ∧ Below w.heap.size w w' := by
  have HL := hid hl; have H8 := hid hb8
  have HRB : Hid (∀ W, Below w.heap.size w W → Rd W A (outVCells l)) := fun W hb => hr.below hb
  clear hl hr hb8
  obtain ⟨w1, hw1⟩ : ∃ W, w.alloc (.cells #[.pointer none, .slice none 0 0] 121) = W := ⟨_, rfl⟩
  have hb1 : Below w.heap.size w w1 := by rw [← hw1]; exact (Below.refl _ _).alloc (Nat.le_refl _) _
  have HB1 := hid hb1
  have HS1 : Hid (Lib.IsBuilder 121 5 w.heap.size w.heap.size (Lib.byteCells (takenM [])) w1) := by rw [← hw1]; exact Lib.fresh_isBuilder 121 5 w
  have HWA := hid hw1
  clear hw1 hb1
  obtain ⟨gb, hgb⟩ : ∃ y, w.heap.size = y := ⟨_, rfl⟩
  have HGB := hid hgb
  rw [hgb] at HS1
  clear hgb
  go_enter Tryz.func46, Tryz.ntmps46
  go_upto_region 2 with fail
  rw [HWA.out, HGB.out]
  clear HWA
  go_wp2_with fail
  go_loopw [8] (fun iv wr => ∃ (i : Nat), i ≤ n ∧ iv = .int .i64 (i : Int) ∧ Lib.IsBuilder 121 5 gb gb (Lib.byteCells (takenM (l.take i))) wr ∧ Below w.heap.size w wr) (fun iv _ => n - (intOf iv).toNat)
  case atStart => exact ⟨0, by omega, rfl, HS1.out, HB1.out⟩
  case round =>
    obtain ⟨i, hi, rfl, hs, hb⟩ := hrel
    have HB := hid hb; have HS := hid hs
    clear hb hs HS1 HB1
    by_cases hlt : i < n
    · have hli : i < l.length := by rw [HL.out]; exact hlt
      have hget : l[i]? = some (l[i]'hli) := List.getElem?_eq_getElem hli
      obtain ⟨ov, hov⟩ : ∃ y, l[i]'hli = y := ⟨_, rfl⟩
      rw [hov] at hget
      have hTK : l.take (i + 1) = l.take i ++ [ov] := by rw [List.take_succ_eq_append_getElem hli, hov]
      obtain ⟨bl, off, rfl, hbl, hcc⟩ := (HRB.out wr HB.out).at (by rw [outVCells_length]; omega)
      have hc : ∀ j u, j < 9 → ov.cells[j]? = some u → wr.cell? ⟨bl, off + (i * 9 + j), none⟩ = some u := fun j u hj hu => hcc _ u ((outV_at l i ov hget j hj).trans hu)
      have HTK : Hid (takenM (l.take (i + 1)) = takenM (l.take i) ++ ov.b.data.toList) := by rw [Hid, hTK, takenM_snoc]
      have hsz := H8.out ov (List.mem_of_getElem? hget)
      have hll := takenM_len (l.take i) (fun o ho => H8.out o (List.mem_of_mem_take ho))
      have hlt2 : (l.take i).length ≤ i := by rw [List.length_take]; omega
      obtain ⟨on, ob, ot, ol, ow, oa, om, os, od⟩ := ov
      have c0 := hc 0 _ (by omega) rfl
      have c1 := hc 1 _ (by omega) rfl
      have c2 := hc 2 _ (by omega) rfl
      have c3 := hc 3 _ (by omega) rfl
      have c4 := hc 4 _ (by omega) rfl
      have c5 := hc 5 _ (by omega) rfl
      have c6 := hc 6 _ (by omega) rfl
      have c7 := hc 7 _ (by omega) rfl
      have c8 := hc 8 _ (by omega) rfl
      simp only [Nat.add_zero, ← Nat.add_assoc] at c0 c1 c2 c3 c4 c5 c6 c7 c8
      have hi2 : (i : Int) < (n : Int) := by omega
      simp only at HTK hsz
      have HLEN : Hid ((Lib.byteCells (takenM (l.take i))).length + ob.size ≤ 1000000000) := by
        have : (Lib.byteCells (takenM (l.take i))).length = (takenM (l.take i)).length := by simp [Lib.byteCells]
        rw [Hid, this]; omega
      clear hget hov hc hcc hli hTK hsz hll hlt2
      go_upto_region 5 with fail
      obtain ⟨w2, hw2⟩ : ∃ W, wr.alloc (.cells #[.int .i64 on, .string ob, .int .i64 ot, .int .i64 ol, .int .i64 ow, .int .i64 oa, .int .i64 om, .int .i64 os, .bool od] 72) = W := ⟨_, rfl⟩
      have HI2 : Hid (Blk w2 wr.heap.size 72 #[.int .i64 on, .string ob, .int .i64 ot, .int .i64 ol, .int .i64 ow, .int .i64 oa, .int .i64 om, .int .i64 os, .bool od]) := by rw [← hw2]; exact Blk.new _ _ _
      have HB2 : Hid (Below wr.heap.size wr w2) := by rw [← hw2]; exact (Below.refl _ _).alloc (Nat.le_refl _) _
      rw [hw2]
      clear hw2 c0 c1 c2 c3 c4 c5 c6 c7 c8 hbl
      have HB3 := hid (HB.out.trans (HB2.out.mono HB.out.size))
      obtain ⟨gi, hgi⟩ : ∃ y, wr.heap.size = y := ⟨_, rfl⟩
      rw [hgi] at HI2 ⊢
      clear hgi
      obtain ⟨i0, i1, i2, i3, i4, i5, i6, i7, i8⟩ := fact9 HI2.out
      have hlI := HI2.out.lt
      have HS2 := hid (isB_below2 HS.out HB2.out)
      clear HB2 HS
      obtain ⟨L, hL⟩ : ∃ y, takenM (l.take i) = y := ⟨_, rfl⟩
      rw [hL] at HS2 HLEN HTK
      have CW := hid (writeString_any gb gb (Lib.byteCells L) ob w2 HS2.out HLEN.out)
      clear hL
      go_wp2_with fail
      refine CW.out.mono ?_
      rintro en w4 ⟨rfl, hs4, hb4⟩
      have HS4 : Hid (Lib.IsBuilder 121 5 gb gb (Lib.byteCells (takenM (l.take (i + 1)))) w4) := by
        have e : Lib.byteCells (takenM (l.take (i + 1))) = Lib.byteCells L ++ Lib.strCells ob := by rw [HTK.out]; simp [Lib.byteCells, Lib.strCells]
        rw [Hid, e]; exact .inr hs4
      have HB4 : Hid (Below w.heap.size w w4) := by have := HB3.out.trans (by rw [HGB.out]; exact hb4); exact this
      clear hs4 hb4 CW
      go_wp2_with fail
      go_roundw
      case rel => exact ⟨i + 1, by omega, by go_num, HS4.out, HB4.out⟩
      case measure => simp [intOf]; omega
    · have hi2 : ¬ (i : Int) < (n : Int) := by omega
      have HS9 : Hid (Lib.IsBuilder 121 5 gb gb (Lib.byteCells (takenM l)) wr) := by
        have := HS.out
        rwa [List.take_of_length_le (by rw [HL.out]; omega)] at this
      have hs9 : gb ≤ wr.heap.size := by have := HB.out.size; have := HGB.out; omega
      clear HS
      go_wp2_with fail
      refine (bstring_any _ _ _ _ HS9.out hs9).mono ?_
      rintro en w9 ⟨rfl, hb9⟩
      have HB9 : Hid (Below w.heap.size w w9) := HB.out.trans (by rw [HGB.out]; exact hb9)
      clear hb9
      go_wp2_with fail
      go_ret
      exact ⟨rfl, HB9.out⟩
end Go.Proofs.YtemhdkmijfngnaaGreat
namespace Go.Proofs.YtemhdkmijfngnaaGreat
open Go.ChangeShapes Go.WideShapes Go.ChangeAt Go.RowKit Go.WideElems Go.Deep

def OutV.ok (o : OutV) : Prop := I6 o.n ∧ o.b.size ≤ 9223372036854775807
section
variable {H : Type} {enc : TypeId × Value → H}
theorem Tryz.cellsOut' : Tryz.prog.cellsOf 72 = 9 := by kernel_rfl
theorem Tryz.cellsStep' : Tryz.prog.cellsOf 51 = 6 := by kernel_rfl
theorem Tryz.cellsBool' : Tryz.prog.cellsOf 4 = 1 := by kernel_rfl
set_option maxRecDepth 100000 in
theorem open_outC {W : World} {fuel : Nat} {cs : List Value} {x : DataW H × List MemPlace} (h : DataW.trod enc Tryz.prog W 0 (fun _ => true) true fuel 72 cs = some x) : ∃ o : OutV, o.cells = cs ∧ o.ok := by
  obtain ⟨xs, n, _, _, hl, _, hf⟩ := DataW.trod_struct Tryz.underlying72 h
  rw [Tryz.cellsOut'] at hl
  have hlen : xs.length = 4 := by assumption
  match xs, hlen with
  | [y0, y1, y2, y3], _ =>
    match cs, hl with
    | [c0, c1, c2, c3, c4, c5, c6, c7, c8], _ =>
      have h0 := hf 0 _ rfl
      have h1 := hf 1 _ rfl
      have h2 := hf 2 _ rfl
      have h3 := hf 3 _ rfl
      simp [Tryz.cellsStr', Tryz.cellsInt', Tryz.cellsStep', Tryz.cellsBool'] at h0 h1 h2 h3
      obtain ⟨z0, e0, _, w0⟩ := DataW.trod_int Tryz.underlying3 h0
      obtain ⟨z1, e1, _, w1⟩ := DataW.trod_string Tryz.underlying9 h1
      obtain ⟨z8, e8, _⟩ := DataW.trod_bool Tryz.underlying4 h3
      obtain ⟨ys, n2, _, _, hl2, _, hg⟩ := DataW.trod_struct Tryz.underlying51 h2
      have hlen2 : ys.length = 6 := by assumption
      match ys, hlen2 with
      | [u0, u1, u2, u3, u4, u5], _ =>
        have g0 := hg 0 _ rfl
        have g1 := hg 1 _ rfl
        have g2 := hg 2 _ rfl
        have g3 := hg 3 _ rfl
        have g4 := hg 4 _ rfl
        have g5 := hg 5 _ rfl
        simp [Tryz.cellsInt', Tryz.cellsI64'] at g0 g1 g2 g3 g4 g5
        obtain ⟨v0, q0, _, _⟩ := DataW.trod_int Tryz.underlying2 g0
        obtain ⟨v1, q1, _, _⟩ := DataW.trod_int Tryz.underlying3 g1
        obtain ⟨v2, q2, _, _⟩ := DataW.trod_int Tryz.underlying3 g2
        obtain ⟨v3, q3, _, _⟩ := DataW.trod_int Tryz.underlying3 g3
        obtain ⟨v4, q4, _, _⟩ := DataW.trod_int Tryz.underlying3 g4
        obtain ⟨v5, q5, _, _⟩ := DataW.trod_int Tryz.underlying3 g5
        simp at e0 e1 e8 q0 q1 q2 q3 q4 q5
        unfold maxLen at w1
        exact ⟨⟨z0, z1, v0, v1, v2, v3, v4, v5, z8⟩, by rw [e0, e1, e8, q0, q1, q2, q3, q4, q5]; rfl, i64_wf w0, by simpa using w1⟩
set_option maxRecDepth 100000 in
theorem open_outs {W : World} {base : Nat} {v : Value} {d : DataW H} {ps : List MemPlace} (hval : Value.okWide Tryz.prog W .any base 63 v) (h : DataW.Trod enc Tryz.prog W 0 (fun _ => true) true 63 v d ps) :
    ∃ (A : Option Addr) (n c : Nat) (l : List OutV), v = .slice A n c ∧ l.length = n ∧ n ≤ 9223372036854775807 ∧ Rd W A (outVCells l) ∧ ∀ o ∈ l, o.ok := by
  obtain ⟨A0, n0, c0, rfl⟩ := okWide_slice Tryz.underlying63 hval
  obtain ⟨fuel, hf⟩ := h
  obtain ⟨A, n, c, css, e, hk, hk2, hq, hr⟩ := open_rows Tryz.underlying63 Tryz.cellsOut' (by omega) hf
  obtain ⟨xs, hxs, hok⟩ := list_choose OutV.cells OutV.ok css (fun q hq' => by obtain ⟨_, m, y, ht⟩ := hq q hq'; exact open_outC ht)
  simp [Value.cells] at e
  obtain ⟨rfl, rfl, rfl⟩ := e
  refine ⟨_, _, _, xs, rfl, by rw [← hk, ← hxs, List.length_map], hk2, ?_, hok⟩
  rw [outVCells, List.flatMap_def, hxs]; exact hr
end
end Go.Proofs.YtemhdkmijfngnaaGreat
