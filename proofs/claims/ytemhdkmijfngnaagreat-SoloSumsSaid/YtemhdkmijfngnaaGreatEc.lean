/- Walks: inputs, somewhat cut; lists that are one. Walks: package solo: Came. Layer 23 lives. -/
import Derived.Test.YtemhdkmijfngnaaGreatEb
namespace Go.Proofs.YtemhdkmijfngnaaGreat
open Go.RowKit PopT

def cutI (i : InV) : InV := ⟨i.kind, cutM 16 i.b, i.n, i.tick⟩
def fewI (l : List InV) (most : Nat) : List InV := (l.take most).map cutI
theorem cutI_ok {i : InV} (h : i.ok) : (cutI i).ok := ⟨by have := cutM_size 16 i.b; show (cutM 16 i.b).size ≤ _; omega, h.2⟩
theorem fewI_ok {l : List InV} (h : ∀ i ∈ l, i.ok) (most : Nat) : ∀ i ∈ fewI l most, i.ok := by
  intro i hi
  obtain ⟨j, hj, rfl⟩ := List.mem_map.1 hi
  exact cutI_ok (h j (List.mem_of_mem_take hj))
theorem fewI_length (l : List InV) (most : Nat) : (fewI l most).length ≤ most := by unfold fewI; rw [List.length_map, List.length_take]; omega
theorem cutI_cutI (i : InV) : cutI (cutI i) = cutI i := by unfold cutI; simp only [cutM_cutM]
theorem fewI_twice (l : List InV) (m m2 : Nat) (h : m ≤ m2) : fewI (fewI l m) m2 = fewI l m := by
  unfold fewI
  rw [← List.map_take, List.take_take, Nat.min_eq_right h, List.map_map]
  exact List.map_congr_left (fun i _ => cutI_cutI i)
theorem Tryz.infoIn : (Tryz.prog.info? 46).map (fun i => (i.zero, i.size, i.bytes)) = some (some (.agg #[.int .i64 0, .string ⟨#[]⟩, .int .i64 0, .int .i64 0]), 4, 40) := by kernel_rfl

set_option maxRecDepth 20000 in
set_option maxHeartbeats 4000000 in
theorem few22_any (A : Option Addr) (n c : Nat) (l : List InV) (most : Nat) (w : World) (hl : l.length = n) (hr : Rd w A (inVCells l)) (hi : ∀ i ∈ l, i.ok) (hm : most ≤ 1000) :
    Calls Tryz.prog 16 #[.slice A n c, .int .i64 (most : Int)] w fun e w' => ∃ g c', e = .returned (.slice (some ⟨g, 0, none⟩) (fewI l most).length c') ∧ w'.ownsRow w.heap.size 46 4 (.slice (some ⟨g, 0, none⟩) (fewI l most).length c') (fewI l most).length (inVCells (fewI l most)) ∧ Below w.heap.size w w' := by
  have HL := hid hl; have HI := hid hi
  have HRB : Hid (∀ W, Below w.heap.size w W → Rd W A (inVCells l)) := fun W hb => hr.below hb
  have HF : Hid (fewI l most = (l.take most).map cutI) := rfl
  obtain ⟨R, hR⟩ : ∃ y, fewI l most = y := ⟨_, rfl⟩
  rw [hR] at HF ⊢
  clear hl hi hr hR
  obtain ⟨w1, hw1⟩ : ∃ W, w.alloc (.cells #[] 46) = W := ⟨_, rfl⟩
  have HB1 : Hid (Below w.heap.size w w1) := by rw [← hw1]; exact (Below.refl _ _).alloc (Nat.le_refl _) _
  have HO1 : Hid (w1.ownsRow w.heap.size 46 4 (.slice (some ⟨w.heap.size, 0, none⟩) 0 0) 0 []) := by
    rw [Hid, ← hw1]
    have := World.ownsRow_made (base := w.heap.size) (e := 46) (size := 4) w #[] 0 (Nat.le_refl _) (by simp [maxLen]) (by simp)
    simpa using this
  have HWA := hid hw1
  clear hw1
  obtain ⟨gb, hgb⟩ : ∃ g, w.heap.size = g := ⟨_, rfl⟩
  have HGB := hid hgb
  rw [hgb] at HO1
  clear hgb
  go_enter Tryz.func16, Tryz.ntmps16
  go_upto_region 2 with fail
  rw [HWA.out, HGB.out]
  clear HWA
  go_wp2_with fail
  go_loopw [6, 5] (fun iv ov wr => ∃ (i c' ga : Nat), i ≤ n ∧ i ≤ most ∧ iv = .int .i64 (i : Int) ∧ ov = .slice (some ⟨ga, 0, none⟩) i c' ∧ wr.ownsRow gb 46 4 (.slice (some ⟨ga, 0, none⟩) i c') i (inVCells (fewI l i)) ∧ Below w.heap.size w wr) (fun iv _ _ => n - (intOf iv).toNat)
  case atStart => exact ⟨0, 0, gb, by omega, by omega, rfl, rfl, HO1.out, HB1.out⟩
  case round =>
    obtain ⟨i, c', ga, hi, him, rfl, rfl, hown, hb⟩ := hrel
    have HB := hid hb; have HO := hid hown
    have hsz : gb ≤ wr.heap.size := by have := HGB.out; have := hb.size; omega
    have HSZ := hid hsz
    clear hown hb HO1 HB1 hsz
    by_cases hlt : i < n
    · by_cases hlm : i < most
      · have hli : i < l.length := by rw [HL.out]; exact hlt
        have hget : l[i]? = some (l[i]'hli) := List.getElem?_eq_getElem hli
        have hTK : fewI l (i + 1) = fewI l i ++ [cutI (l[i]'hli)] := by unfold fewI; rw [List.take_succ_eq_append_getElem hli, List.map_append]; rfl
        have hII := HI.out _ (List.getElem_mem hli)
        obtain ⟨iv, hiv⟩ : ∃ y, l[i]'hli = y := ⟨_, rfl⟩
        rw [hiv] at hget hTK hII
        obtain ⟨bl, off, rfl, hbl, hcc⟩ := (HRB.out wr HB.out).at (by rw [inVCells_length]; omega)
        have hc : ∀ j u, j < 4 → iv.cells[j]? = some u → wr.cell? ⟨bl, off + (i * 4 + j), none⟩ = some u := fun j u hj hu => hcc _ u ((inV_at l i iv hget j hj).trans hu)
        obtain ⟨ik, ib, inn, it⟩ := iv
        have c0 := hc 0 _ (by omega) rfl
        have c1 := hc 1 _ (by omega) rfl
        have c2 := hc 2 _ (by omega) rfl
        have c3 := hc 3 _ (by omega) rfl
        simp only [Nat.add_zero, ← Nat.add_assoc] at c0 c1 c2 c3
        have CC : Hid (∀ W, Calls Tryz.prog 32 #[.string ib, .int .i64 16] W fun e w' => e = .returned (.string (cutM 16 ib)) ∧ W = w') := fun W => cut_any ib 16 W hII.1 (by omega)
        have HTL : Hid (inVCells (fewI l (i + 1)) = inVCells (fewI l i) ++ [.int .i64 ik, .string (cutM 16 ib), .int .i64 inn, .int .i64 it]) := by rw [Hid, hTK, inVCells_append]; rfl
        obtain ⟨cb, hcb⟩ : ∃ y, cutM 16 ib = y := ⟨_, rfl⟩
        rw [hcb] at CC HTL
        have hi2 : (i : Int) < (n : Int) := by omega
        have hm2 : (i : Int) < (most : Int) := by omega
        clear hget hTK hII hiv hc hcc hli hcb
        go_upto_region 6 with fail
        obtain ⟨w2, hw2⟩ : ∃ W, wr.alloc (.cells #[.int .i64 ik, .string ib, .int .i64 inn, .int .i64 it] 46) = W := ⟨_, rfl⟩
        have HI2 : Hid (Blk w2 wr.heap.size 46 #[.int .i64 ik, .string ib, .int .i64 inn, .int .i64 it]) := by rw [← hw2]; exact Blk.new _ _ _
        have HB2 : Hid (Below wr.heap.size wr w2) := by rw [← hw2]; exact (Below.refl _ _).alloc (Nat.le_refl _) _
        rw [hw2]
        clear hw2 c0 c1 c2 c3 hbl
        have HO2 := hid (own_below HO.out HB2.out)
        have HB3 := hid (HB.out.trans (HB2.out.mono HB.out.size))
        have HNE : Hid (∀ k, (Value.slice (some ⟨ga, 0, none⟩) i c').ownBlock = some k → k ≠ wr.heap.size) := fun k hk e => by have := (HO.out.lt k hk).2; omega
        have HSW : Hid (w.heap.size ≤ wr.heap.size) := HB.out.size
        obtain ⟨gi, hgi⟩ : ∃ y, wr.heap.size = y := ⟨_, rfl⟩
        rw [hgi] at HI2 HNE HSW ⊢
        obtain ⟨i0, i1, i2, i3⟩ := fact4 HI2.out
        have y1 := HI2.out.frozen 1
        have hlI := HI2.out.lt
        clear hgi HB HO HB2
        go_wp2_with fail
        refine (CC.out _).mono ?_
        rintro en w2' ⟨rfl, rfl⟩
        go_upto_region 7 with fail
        obtain ⟨w3, hw3, hb3, hk3⟩ := Blk.put HI2.out 1 (.string cb)
        rw [hw3]
        have HI3 : Hid (Blk w3 gi 46 #[.int .i64 ik, .string cb, .int .i64 inn, .int .i64 it]) := hb3
        have HO3 : Hid (w3.ownsRow gb 46 4 (.slice (some ⟨ga, 0, none⟩) i c') i (inVCells (fewI l i))) := hk3.out.own HO2.out (fun k hv e => HNE.out k hv e)
        have HB4 : Hid (Below w.heap.size w w3) := HB3.out.trans (hk3.out.below HB3.out.size (fun k (e : k = gi) => by rw [e]; exact HSW.out))
        have hs3 : gb ≤ w3.heap.size := by have := HB4.out.size; have := HGB.out; omega
        clear hw3 hb3 hk3 i0 i1 i2 i3 y1 hlI HI2 HO2 HB3 HNE CC HSZ
        obtain ⟨i0, i1, i2, i3⟩ := fact4 HI3.out
        have hlI := HI3.out.lt
        go_wp2_with (at_builtin; refine wpList_append1K _ rfl _ _ 27 rfl gb 46 _ 4 40 Tryz.underlying27 Tryz.infoIn rfl (by decide) _ _ _ rfl HO3.out 1 [.int .i64 ik, .string cb, .int .i64 inn, .int .i64 it] rfl rfl rfl ?_ (by decide) hs3 ?_)
        · omega
        intro g5 c5 w5 hown5 hk5 hf5
        have HO5 : Hid (w5.ownsRow gb 46 4 (.slice (some ⟨g5, 0, none⟩) (i + 1) c5) (i + 1) (inVCells (fewI l (i + 1)))) := by
          rw [Hid, HTL.out]; exact hown5
        have HB5 : Hid (Below w.heap.size w w5) := HB4.out.trans (hk5.below HB4.out.size (fun k hk => by have := (HO3.out.lt k hk).1; have := HGB.out; omega))
        clear hown5 hk5 hf5 HO3 HB4 hs3 HTL HI3 i0 i1 i2 i3 hlI HSW
        go_wp2_with fail
        go_roundw
        case rel => exact ⟨i + 1, c5, g5, by omega, by omega, by go_num, rfl, HO5.out, HB5.out⟩
        case measure => simp [intOf]; omega
      · have hi2 : (i : Int) < (n : Int) := by omega
        have hm2 : ¬ (i : Int) < (most : Int) := by omega
        have HRN : Hid (R = fewI l i ∧ R.length = i) := by
          have e : i = most := by omega
          have e2 : R = fewI l i := by rw [HF.out, e]; rfl
          exact ⟨e2, by rw [e2]; unfold fewI; rw [List.length_map, List.length_take, HL.out]; omega⟩
        go_wp2_with fail
        go_ret
        rw [HRN.out.2, HRN.out.1]
        exact ⟨ga, c', rfl, by rw [HGB.out]; exact HO.out, HB.out⟩
    · have hi2 : ¬ (i : Int) < (n : Int) := by omega
      have HRN : Hid (R = fewI l i ∧ R.length = i) := by
        have e2 : R = fewI l i := by rw [HF.out]; unfold fewI; rw [List.take_of_length_le (show l.length ≤ most by rw [HL.out]; omega), List.take_of_length_le (show l.length ≤ i by rw [HL.out]; omega)]
        exact ⟨e2, by rw [e2]; unfold fewI; rw [List.length_map, List.length_take, HL.out]; omega⟩
      go_wp2_with fail
      go_ret
      rw [HRN.out.2, HRN.out.1]
      exact ⟨ga, c', rfl, by rw [HGB.out]; exact HO.out, HB.out⟩

set_option maxRecDepth 20000 in
set_option maxHeartbeats 4000000 in
theorem alike_any (A : Option Addr) (n c : Nat) (B : Option Addr) (m k : Nat) (l : List OutV) (w : World) (hl : l.length = n) (hm : m = n) (hn : n ≤ 1000000) (ha : Rd w A (outVCells l)) (hb : Rd w B (outVCells l)) :
    Calls Tryz.prog 31 #[.slice A n c, .slice B m k] w fun e w' => e = .returned (.bool true) ∧ Below w.heap.size w w' := by
  subst hm
  have HL := hid hl; have HA := hid ha; have HBB := hid hb
  clear hl ha hb
  go_enter Tryz.func31, Tryz.ntmps31
  go_wp2_with fail
  go_loopw [5] (fun iv wr => ∃ i : Nat, i ≤ m ∧ iv = .int .i64 (i : Int) ∧ Below w.heap.size w wr) (fun iv _ => m - (intOf iv).toNat)
  case atStart => exact ⟨0, by omega, rfl, Below.refl _ _⟩
  case round =>
    obtain ⟨i, hi, rfl, hb⟩ := hrel
    have HB := hid hb
    clear hb
    by_cases hlt : i < m
    · have hli : i < l.length := by rw [HL.out]; exact hlt
      have hget : l[i]? = some (l[i]'hli) := List.getElem?_eq_getElem hli
      obtain ⟨ov, hov⟩ : ∃ y, l[i]'hli = y := ⟨_, rfl⟩
      rw [hov] at hget
      obtain ⟨b1, o1, rfl, hb1, hc1⟩ := (HA.out.below HB.out).at (by rw [outVCells_length]; omega)
      obtain ⟨b2, o2, rfl, hb2, hc2⟩ := (HBB.out.below HB.out).at (by rw [outVCells_length]; omega)
      have hd1 : ∀ j u, j < 9 → ov.cells[j]? = some u → wr.cell? ⟨b1, o1 + (i * 9 + j), none⟩ = some u := fun j u hj hu => hc1 _ u ((outV_at l i ov hget j hj).trans hu)
      have hd2 : ∀ j u, j < 9 → ov.cells[j]? = some u → wr.cell? ⟨b2, o2 + (i * 9 + j), none⟩ = some u := fun j u hj hu => hc2 _ u ((outV_at l i ov hget j hj).trans hu)
      obtain ⟨on, ob, ot, ol, ow, oa, om, os, od⟩ := ov
      have e10 := hd1 0 _ (by omega) rfl
      have e11 := hd1 1 _ (by omega) rfl
      have e12 := hd1 2 _ (by omega) rfl
      have e13 := hd1 3 _ (by omega) rfl
      have e14 := hd1 4 _ (by omega) rfl
      have e15 := hd1 5 _ (by omega) rfl
      have e16 := hd1 6 _ (by omega) rfl
      have e17 := hd1 7 _ (by omega) rfl
      have e18 := hd1 8 _ (by omega) rfl
      have e20 := hd2 0 _ (by omega) rfl
      have e21 := hd2 1 _ (by omega) rfl
      have e22 := hd2 2 _ (by omega) rfl
      have e23 := hd2 3 _ (by omega) rfl
      have e24 := hd2 4 _ (by omega) rfl
      have e25 := hd2 5 _ (by omega) rfl
      have e26 := hd2 6 _ (by omega) rfl
      have e27 := hd2 7 _ (by omega) rfl
      have e28 := hd2 8 _ (by omega) rfl
      simp only [Nat.add_zero, ← Nat.add_assoc] at e10 e11 e12 e13 e14 e15 e16 e17 e18 e20 e21 e22 e23 e24 e25 e26 e27 e28
      have T10 : ∀ q : BW wr.heap.size wr, q.1.cell? ⟨b1, o1 + i * 9, none⟩ = some (.int .i64 on) := fun q => q.cellAt hb1 e10
      have T11 : ∀ q : BW wr.heap.size wr, q.1.cell? ⟨b1, o1 + i * 9 + 1, none⟩ = some (.string ob) := fun q => q.cellAt hb1 e11
      have T12 : ∀ q : BW wr.heap.size wr, q.1.cell? ⟨b1, o1 + i * 9 + 2, none⟩ = some (.int .i64 ot) := fun q => q.cellAt hb1 e12
      have T13 : ∀ q : BW wr.heap.size wr, q.1.cell? ⟨b1, o1 + i * 9 + 3, none⟩ = some (.int .i64 ol) := fun q => q.cellAt hb1 e13
      have T14 : ∀ q : BW wr.heap.size wr, q.1.cell? ⟨b1, o1 + i * 9 + 4, none⟩ = some (.int .i64 ow) := fun q => q.cellAt hb1 e14
      have T15 : ∀ q : BW wr.heap.size wr, q.1.cell? ⟨b1, o1 + i * 9 + 5, none⟩ = some (.int .i64 oa) := fun q => q.cellAt hb1 e15
      have T16 : ∀ q : BW wr.heap.size wr, q.1.cell? ⟨b1, o1 + i * 9 + 6, none⟩ = some (.int .i64 om) := fun q => q.cellAt hb1 e16
      have T17 : ∀ q : BW wr.heap.size wr, q.1.cell? ⟨b1, o1 + i * 9 + 7, none⟩ = some (.int .i64 os) := fun q => q.cellAt hb1 e17
      have T18 : ∀ q : BW wr.heap.size wr, q.1.cell? ⟨b1, o1 + i * 9 + 8, none⟩ = some (.bool od) := fun q => q.cellAt hb1 e18
      have T20 : ∀ q : BW wr.heap.size wr, q.1.cell? ⟨b2, o2 + i * 9, none⟩ = some (.int .i64 on) := fun q => q.cellAt hb2 e20
      have T21 : ∀ q : BW wr.heap.size wr, q.1.cell? ⟨b2, o2 + i * 9 + 1, none⟩ = some (.string ob) := fun q => q.cellAt hb2 e21
      have T22 : ∀ q : BW wr.heap.size wr, q.1.cell? ⟨b2, o2 + i * 9 + 2, none⟩ = some (.int .i64 ot) := fun q => q.cellAt hb2 e22
      have T23 : ∀ q : BW wr.heap.size wr, q.1.cell? ⟨b2, o2 + i * 9 + 3, none⟩ = some (.int .i64 ol) := fun q => q.cellAt hb2 e23
      have T24 : ∀ q : BW wr.heap.size wr, q.1.cell? ⟨b2, o2 + i * 9 + 4, none⟩ = some (.int .i64 ow) := fun q => q.cellAt hb2 e24
      have T25 : ∀ q : BW wr.heap.size wr, q.1.cell? ⟨b2, o2 + i * 9 + 5, none⟩ = some (.int .i64 oa) := fun q => q.cellAt hb2 e25
      have T26 : ∀ q : BW wr.heap.size wr, q.1.cell? ⟨b2, o2 + i * 9 + 6, none⟩ = some (.int .i64 om) := fun q => q.cellAt hb2 e26
      have T27 : ∀ q : BW wr.heap.size wr, q.1.cell? ⟨b2, o2 + i * 9 + 7, none⟩ = some (.int .i64 os) := fun q => q.cellAt hb2 e27
      have T28 : ∀ q : BW wr.heap.size wr, q.1.cell? ⟨b2, o2 + i * 9 + 8, none⟩ = some (.bool od) := fun q => q.cellAt hb2 e28
      have hi2 : (i : Int) < (m : Int) := by omega
      clear hget hov hc1 hc2 hd1 hd2 hli e10 e11 e12 e13 e14 e15 e16 e17 e18 e20 e21 e22 e23 e24 e25 e26 e27 e28
      go_upto_region 6 with fail
      refine wp_region_below wr.heap.size (by kernel_rfl) (by kernel_rfl) ?_
      repeat (go_big_quiet_step (fail))
      refine wpQuiet_nil ?_
      intro wu hqu
      have HBU : Hid (Below wr.heap.size wr wu) := by obtain ⟨q, rfl⟩ := hqu; exact q.2
      clear hqu T10 T11 T12 T13 T14 T15 T16 T17 T18 T20 T21 T22 T23 T24 T25 T26 T27 T28 hb1 hb2
      go_wp2_with fail
      go_roundw
      case rel => exact ⟨i + 1, by omega, by go_num, HB.out.trans (HBU.out.mono HB.out.size)⟩
      case measure => simp [intOf]; omega
    · have hi2 : ¬ (i : Int) < (m : Int) := by omega
      go_wp2_with fail
      go_ret
      exact ⟨rfl, HB.out⟩
end Go.Proofs.YtemhdkmijfngnaaGreat
namespace Go.Proofs.YtemhdkmijfngnaaGreat
open Go.RowKit PopT

/-- How many bytes came. -/
def camS (z k : Int) : Int := if 9223372036854775807 - max k 0 < z then 9223372036854775807 else z + max k 0
def camM (l : List OutV) : Int := l.foldl (fun z o => camS z o.n) 0
theorem camM_snoc (l : List OutV) (o : OutV) : camM (l ++ [o]) = camS (camM l) o.n := by simp [camM]
theorem camS_bd (z k : Int) (h0 : 0 ≤ z) : 0 ≤ camS z k ∧ camS z k ≤ 9223372036854775807 := by unfold camS; split <;> omega
theorem camM_bd (l : List OutV) : 0 ≤ camM l ∧ camM l ≤ 9223372036854775807 := by
  have key : ∀ (l : List OutV) (z : Int), 0 ≤ z ∧ z ≤ 9223372036854775807 → 0 ≤ l.foldl (fun z o => camS z o.n) z ∧ l.foldl (fun z o => camS z o.n) z ≤ 9223372036854775807 := by
    intro l
    induction l with
    | nil => intro z h; exact h
    | cons o l ih => intro z h; exact ih _ (camS_bd z o.n h.1)
  exact key l 0 ⟨by decide, by decide⟩

set_option maxRecDepth 20000 in
set_option maxHeartbeats 4000000 in
theorem came_any (A : Option Addr) (n c : Nat) (l : List OutV) (w : World) (hl : l.length = n) (hn : n ≤ 1000000) (hr : Rd w A (outVCells l)) (ho : ∀ o ∈ l, o.n ≤ 9223372036854775807) :
    Calls Tryz.prog 48 #[.slice A n c] w fun e w' => e = .returned (.int .i64 (camM l)) ∧ Below w.heap.size w w' := by
  have HL := hid hl; have HO := hid ho
  have HRB : Hid (∀ W, Below w.heap.size w W → Rd W A (outVCells l)) := fun W hb => hr.below hb
  clear hl hr ho
  go_enter Tryz.func48, Tryz.ntmps48
  go_wp2_with fail
  go_loopw [9, 3] (fun iv zv wr => ∃ (i : Nat) (z : Int), i ≤ n ∧ iv = .int .i64 (i : Int) ∧ zv = .int .i64 z ∧ z = camM (l.take i) ∧ Below w.heap.size w wr) (fun iv _ _ => n - (intOf iv).toNat)
  case atStart => exact ⟨0, 0, by omega, rfl, rfl, rfl, Below.refl _ _⟩
  case round =>
    obtain ⟨i, z, hi, rfl, rfl, hz, hb⟩ := hrel
    have HB := hid hb; have HZ := hid hz
    have hzb := camM_bd (l.take i)
    rw [← hz] at hzb
    have HZB := hid hzb
    clear hb hz hzb
    by_cases hlt : i < n
    · have hli : i < l.length := by rw [HL.out]; exact hlt
      have hget : l[i]? = some (l[i]'hli) := List.getElem?_eq_getElem hli
      obtain ⟨ov, hov⟩ : ∃ y, l[i]'hli = y := ⟨_, rfl⟩
      rw [hov] at hget
      have hTK : l.take (i + 1) = l.take i ++ [ov] := by rw [List.take_succ_eq_append_getElem hli, hov]
      obtain ⟨bl, off, rfl, hbl, hcc⟩ := (HRB.out wr HB.out).at (by rw [outVCells_length]; omega)
      have hc : ∀ j u, j < 9 → ov.cells[j]? = some u → wr.cell? ⟨bl, off + (i * 9 + j), none⟩ = some u := fun j u hj hu => hcc _ u ((outV_at l i ov hget j hj).trans hu)
      have hob := HO.out ov (List.mem_of_getElem? hget)
      have HS : Hid (camM (l.take (i + 1)) = camS z ov.n) := by rw [Hid, hTK, camM_snoc, HZ.out]
      obtain ⟨on, ob, ot, ol, ow, oa, om, os, od⟩ := ov
      have c0 := hc 0 _ (by omega) rfl
      have c1 := hc 1 _ (by omega) rfl
      have c2 := hc 2 _ (by omega) rfl
      have c3 := hc 3 _ (by omega) rfl
      have c4 := hc 4 _ (by omega) rfl
      have c5 := hc 5 _ (by omega) rfl
      have c6 := hc 6 _ (by omega) rfl
      have c7 := hc 7 _ (by omega) rfl
      have c8 := hc 8 _ (by omega) rfl
      simp only [Nat.add_zero, ← Nat.add_assoc] at c0 c1 c2 c3 c4 c5 c6 c7 c8
      have hi2 : (i : Int) < (n : Int) := by omega
      simp only at hob HS
      have HOB := hid hob
      clear hget hov hc hcc hli hTK hob
      go_upto_region 5 with fail
      obtain ⟨w2, hw2⟩ : ∃ W, wr.alloc (.cells #[.int .i64 on, .string ob, .int .i64 ot, .int .i64 ol, .int .i64 ow, .int .i64 oa, .int .i64 om, .int .i64 os, .bool od] 72) = W := ⟨_, rfl⟩
      have HI2 : Hid (Blk w2 wr.heap.size 72 #[.int .i64 on, .string ob, .int .i64 ot, .int .i64 ol, .int .i64 ow, .int .i64 oa, .int .i64 om, .int .i64 os, .bool od]) := by rw [← hw2]; exact Blk.new _ _ _
      have HB2 : Hid (Below wr.heap.size wr w2) := by rw [← hw2]; exact (Below.refl _ _).alloc (Nat.le_refl _) _
      rw [hw2]
      clear hw2 c0 c1 c2 c3 c4 c5 c6 c7 c8 hbl
      have HB3 := hid (HB.out.trans (HB2.out.mono HB.out.size))
      obtain ⟨gi, hgi⟩ : ∃ y, wr.heap.size = y := ⟨_, rfl⟩
      rw [hgi] at HI2 ⊢
      clear hgi HB2
      obtain ⟨i0, i1, i2, i3, i4, i5, i6, i7, i8⟩ := fact9 HI2.out
      have hlI := HI2.out.lt
      obtain ⟨k, hk⟩ : ∃ y, max on 0 = y := ⟨_, rfl⟩
      have HK := hid hk
      have hk0 : 0 ≤ k := by omega
      have hk1 : k ≤ 9223372036854775807 := by have := HOB.out; omega
      have hz0 := HZB.out.1
      have hz1 := HZB.out.2
      have HS2 : Hid (camM (l.take (i + 1)) = if 9223372036854775807 - k < z then 9223372036854775807 else z + k) := by rw [HS.out]; unfold camS; rw [hk]; rfl
      clear hk HS
      go_upto_region 6 with fail
      try rw [HK.out]
      have hzk : 0 ≤ 9223372036854775807 - k := by omega
      by_cases hov : 9223372036854775807 - k < z
      · have HS3 : Hid (camM (l.take (i + 1)) = 9223372036854775807) := HS2.out.trans (if_pos hov)
        go_wp2_with fail
        go_roundw
        case rel => exact ⟨i + 1, 9223372036854775807, by omega, by go_num, rfl, HS3.out.symm, HB3.out⟩
        case measure => simp [intOf]; omega
      · have HS3 : Hid (camM (l.take (i + 1)) = z + k) := HS2.out.trans (if_neg hov)
        go_wp2_with fail
        go_roundw
        case rel => exact ⟨i + 1, z + k, by omega, by go_num, by go_num, HS3.out.symm, HB3.out⟩
        case measure => simp [intOf]; omega
    · have hi2 : ¬ (i : Int) < (n : Int) := by omega
      have HE : Hid (camM l = z) := by rw [HZ.out, List.take_of_length_le (by rw [HL.out]; omega)]; rfl
      go_wp2_with fail
      go_ret
      rw [HE.out]
      exact ⟨rfl, HB.out⟩
end Go.Proofs.YtemhdkmijfngnaaGreat
namespace Go.Proofs.YtemhdkmijfngnaaGreat
open Go.RowKit PopT

def l23 : List InV := [⟨1, ⟨#[111, 107]⟩, 0, 0⟩, ⟨5, ⟨#[]⟩, 0, 1⟩]
theorem l23_e : runE uV uP = 0 := by kernel_rfl
theorem l23_run : runO uV uP 0 l23 = [⟨2, ⟨#[]⟩, 0, 0, 0, 0, 0, 0, false⟩, ⟨0, ⟨#[]⟩, 1, 0, 2, 0, 2, 0, true⟩] := by kernel_rfl
theorem l23_came : camM [⟨2, ⟨#[]⟩, 0, 0, 0, 0, 0, 0, false⟩, ⟨0, ⟨#[]⟩, 1, 0, 2, 0, 2, 0, true⟩] = 2 := by kernel_rfl
theorem l23_ok : ∀ i ∈ l23, i.ok := by
  intro i hi
  unfold l23 at hi
  rcases List.mem_cons.1 hi with rfl | hi
  · exact ⟨by decide, ⟨by decide, by decide⟩, ⟨by decide, by decide⟩⟩
  · rw [List.mem_singleton] at hi
    subst hi
    exact ⟨by decide, ⟨by decide, by decide⟩, ⟨by decide, by decide⟩⟩
theorem Rd_blk {w : World} {g : Nat} {t : TypeId} {cs : Array Value} (h : Blk w g t cs) : Rd w (some ⟨g, 0, none⟩) cs.toList := by
  refine .inr ⟨g, 0, rfl, h.lt, fun j u hu => ?_⟩
  rw [Nat.zero_add, h.cell j]; simpa using hu
theorem own_zero {w : World} {base n c size : Nat} {e : TypeId} {xs : List Value} {A : Option Addr} (h : w.ownsRow base e size (.slice A n c) n xs) (hn : 0 < n) : ∃ g, A = some ⟨g, 0, none⟩ := by
  rcases h.2 with ⟨hv, h0⟩ | ⟨g, cap, cur, hv, _⟩
  · omega
  · injection hv with h1 _ _; exact ⟨g, h1⟩
theorem own_cells {w : World} {base n c size g : Nat} {e : TypeId} {xs : List Value} (h : w.ownsRow base e size (.slice (some ⟨g, 0, none⟩) n c) n xs) (j : Nat) (u : Value) (hu : xs[j]? = some u) : w.cell? ⟨g, j, none⟩ = some u := by
  rcases Rd_of_own h with h0 | ⟨b, off, hA, _, hc⟩
  · rw [h0] at hu; cases hu
  · injection hA with hA
    injection hA with h1 h2 _
    subst h1; subst h2
    have := hc j u hu
    rwa [Nat.zero_add] at this

set_option maxRecDepth 20000 in
set_option maxHeartbeats 4000000 in
theorem lives23_any (w : World) : Calls Tryz.prog 28 #[] w fun e w' => e = .returned (.bool true) ∧ Below w.heap.size w w' := by
  obtain ⟨wa, hwa⟩ : ∃ W, ((w.alloc (.cells #[.string ⟨#[111, 107]⟩, .int .i64 1] 99)).alloc (.cells #[.int .i64 2, .string ⟨#[]⟩, .int .i64 5, .int .i64 0, .slice (some ⟨w.heap.size, 0, none⟩) 1 1, .int .i64 (-1), .int .i64 (-1)] 56)).alloc (.cells #[.string ⟨#[97]⟩, .int .i64 9223372036854775807, .int .i64 1, .slice (some ⟨(w.heap.size + 1), 0, none⟩) 1 1] 26) = W := ⟨_, rfl⟩
  have HB : Hid (Below w.heap.size w wa) := by rw [← hwa]; exact below3 _ _ _ _
  have HA : Hid (Blk wa w.heap.size 99 #[.string ⟨#[111, 107]⟩, .int .i64 1]) := by rw [← hwa]; exact ((Blk.new w _ _).alloc _).alloc _
  have HO : Hid (Blk wa (w.heap.size + 1) 56 #[.int .i64 2, .string ⟨#[]⟩, .int .i64 5, .int .i64 0, .slice (some ⟨w.heap.size, 0, none⟩) 1 1, .int .i64 (-1), .int .i64 (-1)]) := by rw [← hwa]; exact (new2 _ _ _ _).alloc _
  have HP : Hid (Blk wa (w.heap.size + 2) 26 #[.string ⟨#[97]⟩, .int .i64 9223372036854775807, .int .i64 1, .slice (some ⟨(w.heap.size + 1), 0, none⟩) 1 1]) := by rw [← hwa]; exact new3 _ _ _ _ _
  have HWA := hid hwa
  clear hwa
  go_enter Tryz.func28, Tryz.ntmps28
  go_upto_region 2 with fail
  have e2 : w.heap.size + 1 + 1 = w.heap.size + 2 := rfl
  try rw [e2]
  rw [HWA.out]
  clear e2
  obtain ⟨ga, hga⟩ : ∃ y, w.heap.size = y := ⟨_, rfl⟩
  have HG := hid hga
  rw [hga] at HA HO HP ⊢
  clear hga HWA
  obtain ⟨go, hgo⟩ : ∃ y, ga + 1 = y := ⟨_, rfl⟩
  obtain ⟨gp, hgp⟩ : ∃ y, ga + 2 = y := ⟨_, rfl⟩
  rw [hgo] at HO HP
  rw [hgp] at HP ⊢
  clear hgo hgp
  have CRN : Hid (∀ (W : World) (gi c : Nat), Below wa.heap.size wa W → Rd W (some ⟨gi, 0, none⟩) (inVCells l23) → Calls Tryz.prog 29 #[.agg #[.int .i64 4, .int .i64 8, .int .i64 16, .int .i64 3, .int .i64 5, .int .i64 1], .agg #[.string ⟨#[97]⟩, .int .i64 9223372036854775807, .int .i64 1, .slice (some ⟨go, 0, none⟩) 1 1], .int .i64 0, .slice (some ⟨gi, 0, none⟩) 2 c] W fun e w' => ∃ A' c', e = .returned (.tuple #[.slice A' 2 c', .int .i64 0]) ∧
      w'.ownsRow W.heap.size 72 9 (.slice A' 2 c') 2 (outVCells (runO uV uP 0 l23)) ∧ Below W.heap.size W w') := by
    intro W gi c hb hr
    have hown := uP_own (w := W) (ga := ga) (go := go) rfl rfl (HA.out.below hb HA.out.lt) (HO.out.below hb HO.out.lt) 0 (Nat.zero_le _) (Nat.zero_le _)
    have hc := soloRun_any uV uP (some ⟨go, 0, none⟩) 1 0 0 (some ⟨gi, 0, none⟩) 2 c l23 W hown uP_ok ⟨by decide, by decide⟩ rfl l23_ok (by omega) hr
    rw [l23_e] at hc
    have e3 : (runO uV uP 0 l23).length = 2 := by rw [l23_run]; rfl
    rw [e3] at hc
    exact hc
  have P0 : ∀ q : BW wa.heap.size wa, q.1.cell? ⟨gp, 0, none⟩ = some (.string ⟨#[97]⟩) := fun q => q.cellAt HP.out.lt (HP.out.cell 0)
  have P1 : ∀ q : BW wa.heap.size wa, q.1.cell? ⟨gp, 1, none⟩ = some (.int .i64 9223372036854775807) := fun q => q.cellAt HP.out.lt (HP.out.cell 1)
  have P2 : ∀ q : BW wa.heap.size wa, q.1.cell? ⟨gp, 2, none⟩ = some (.int .i64 1) := fun q => q.cellAt HP.out.lt (HP.out.cell 2)
  have P3 : ∀ q : BW wa.heap.size wa, q.1.cell? ⟨gp, 3, none⟩ = some (.slice (some ⟨go, 0, none⟩) 1 1) := fun q => q.cellAt HP.out.lt (HP.out.cell 3)
  refine wp_region_ordT wa.heap.size [5] (.val 1 (.val 2 (.val 3 (.two 0 (.op 4 (.op 5 (.val 6 (.val 7 (.val 8 (.val 9 (.val 10 (.nil)))))))) 4 (.op 0 (.op 5 (.val 6 (.val 7 (.val 8 (.val 9 (.val 10 (.nil)))))))))))) (by kernel_rfl) (by kernel_rfl) ?_
  obtain ⟨wc, hwc⟩ : ∃ W, wa.drewN 1 = W := ⟨_, rfl⟩
  have HBW : Hid (Below wa.heap.size wa wc) := by rw [← hwc]; exact drewN_below wa 1
  rw [hwc]
  clear hwc
  refine wpOrdT_load rfl rfl (inBW HBW.out) ?_
  go_big_quiet_step (fail)
  refine wpQuiet_nil ?_
  refine wpOrdT_val rfl rfl ?_
  go_big_quiet_step (fail)
  refine wpQuiet_nil ?_
  refine wpOrdT_val rfl rfl ?_
  go_big_quiet_step (fail)
  refine wpQuiet_nil ?_
  refine wpOrdT_two rfl rfl ?_ ?_
  · skip
    go_wp2_with fail
    refine (usual22_any _).mono ?_
    rintro en wd ⟨rfl, hb⟩
    have HBX : Hid (Below wa.heap.size wa wd) := HBW.out.trans (hb.mono HBW.out.size)
    try have HIN := hid (HIN.out.below hb HIN.out.lt)
        clear hb
    have HBW := HBX
    go_wp2_with fail
    refine KT.keep (inBW HBX.out) ?_
    refine wpOrdT_op rfl ?_
    go_wp2_with fail
    obtain ⟨wd2, hwd⟩ : ∃ W, wd.alloc (.cells #[.int .i64 1, .string ⟨#[111, 107]⟩, .int .i64 0, .int .i64 0, .int .i64 5, .string ⟨#[]⟩, .int .i64 0, .int .i64 1] 46) = W := ⟨_, rfl⟩
    have HIN : Hid (Blk wd2 wd.heap.size 46 #[.int .i64 1, .string ⟨#[111, 107]⟩, .int .i64 0, .int .i64 0, .int .i64 5, .string ⟨#[]⟩, .int .i64 0, .int .i64 1]) := by rw [← hwd]; exact Blk.new _ _ _
    have HBX : Hid (Below wa.heap.size wa wd2) := by rw [← hwd]; exact HBW.out.alloc HBW.out.size _
    rw [hwd]
    clear hwd
    obtain ⟨gi, hgi⟩ : ∃ y, wd.heap.size = y := ⟨_, rfl⟩
    rw [hgi] at HIN ⊢
    clear hgi
    have HBW := HBX
    refine KT.keep (inBW HBX.out) ?_
    refine wpOrdT_op rfl ?_
    have CN := hid (CRN.out wd2 gi 2 HBX.out (Rd_blk HIN.out))
    go_wp2_with fail
    refine CN.out.mono ?_
    rintro en we ⟨A, c, rfl, hown, hbe⟩
    obtain ⟨g, rfl⟩ := own_zero hown (by omega)
    have HOWN := hid hown
    have HBE : Hid (Below w.heap.size w we) := by
      have h1 := HB.out.trans (HBX.out.mono HB.out.size)
      exact h1.trans (hbe.mono h1.size)
    have hgl : g < we.heap.size := (hown.lt g rfl).2
    clear hbe hown CN CRN P0 P1 P2 P3
    go_wp2_with fail
    refine KT.past rfl ?_
    refine wpOrdT_val rfl rfl ?_
    go_big_quiet_step (fail)
    refine wpQuiet_nil ?_
    refine wpOrdT_val rfl rfl ?_
    go_big_quiet_step (fail)
    refine wpQuiet_nil ?_
    refine wpOrdT_val rfl rfl ?_
    go_big_quiet_step (fail)
    refine wpQuiet_nil ?_
    refine wpOrdT_val rfl rfl ?_
    go_big_quiet_step (fail)
    refine wpQuiet_nil ?_
    refine wpOrdT_val rfl rfl ?_
    go_big_quiet_step (fail)
    refine wpQuiet_nil ?_
    refine wpOrdT_nil ?_
    have hcl : ∀ j u, (outVCells (runO uV uP 0 l23))[j]? = some u → we.cell? ⟨g, j, none⟩ = some u := own_cells HOWN.out
    rw [l23_run] at hcl
    have d0 : we.cell? ⟨g, 0, none⟩ = some (.int .i64 2) := hcl 0 _ rfl
    have d1 : we.cell? ⟨g, 13, none⟩ = some (.int .i64 2) := hcl 13 _ rfl
    have d2 : we.cell? ⟨g, 17, none⟩ = some (.bool true) := hcl 17 _ rfl
    have CC : Hid (Calls Tryz.prog 48 #[.slice (some ⟨g, 0, none⟩) 2 c] we fun e w' => e = .returned (.int .i64 2) ∧ Below we.heap.size we w') := by
      have h1 := Rd_of_own HOWN.out
      rw [l23_run] at h1
      have := came_any (some ⟨g, 0, none⟩) 2 c _ we rfl (by omega) h1 (fun o ho => by
        rcases List.mem_cons.1 ho with rfl | ho
        · decide
        · rw [List.mem_singleton] at ho; subst ho; decide)
      rw [l23_came] at this
      exact this
    clear hcl HOWN
    go_wp2_with fail
    refine CC.out.mono ?_
    rintro en wf ⟨rfl, hb⟩
    have HBF := hid (HBE.out.trans (hb.mono HBE.out.size))
    clear hb CC d0 d1 d2 hgl
    go_wp2_with fail
    go_ret
    exact ⟨rfl, HBF.out⟩
  · skip
    go_wp2_with fail
    obtain ⟨wd, hwd⟩ : ∃ W, wc.alloc (.cells #[.int .i64 1, .string ⟨#[111, 107]⟩, .int .i64 0, .int .i64 0, .int .i64 5, .string ⟨#[]⟩, .int .i64 0, .int .i64 1] 46) = W := ⟨_, rfl⟩
    have HIN : Hid (Blk wd wc.heap.size 46 #[.int .i64 1, .string ⟨#[111, 107]⟩, .int .i64 0, .int .i64 0, .int .i64 5, .string ⟨#[]⟩, .int .i64 0, .int .i64 1]) := by rw [← hwd]; exact Blk.new _ _ _
    have HBX : Hid (Below wa.heap.size wa wd) := by rw [← hwd]; exact HBW.out.alloc HBW.out.size _
    rw [hwd]
    clear hwd
    obtain ⟨gi, hgi⟩ : ∃ y, wc.heap.size = y := ⟨_, rfl⟩
    rw [hgi] at HIN ⊢
    clear hgi
    have HBW := HBX
    refine KT.keep (inBW HBX.out) ?_
    refine wpOrdT_op rfl ?_
    go_wp2_with fail
    refine (usual22_any _).mono ?_
    rintro en wd2 ⟨rfl, hb⟩
    have HBX : Hid (Below wa.heap.size wa wd2) := HBW.out.trans (hb.mono HBW.out.size)
    try have HIN := hid (HIN.out.below hb HIN.out.lt)
        clear hb
    have HBW := HBX
    go_wp2_with fail
    refine KT.keep (inBW HBX.out) ?_
    refine wpOrdT_op rfl ?_
    have CN := hid (CRN.out wd2 gi 2 HBX.out (Rd_blk HIN.out))
    go_wp2_with fail
    refine CN.out.mono ?_
    rintro en we ⟨A, c, rfl, hown, hbe⟩
    obtain ⟨g, rfl⟩ := own_zero hown (by omega)
    have HOWN := hid hown
    have HBE : Hid (Below w.heap.size w we) := by
      have h1 := HB.out.trans (HBX.out.mono HB.out.size)
      exact h1.trans (hbe.mono h1.size)
    have hgl : g < we.heap.size := (hown.lt g rfl).2
    clear hbe hown CN CRN P0 P1 P2 P3
    go_wp2_with fail
    refine KT.past rfl ?_
    refine wpOrdT_val rfl rfl ?_
    go_big_quiet_step (fail)
    refine wpQuiet_nil ?_
    refine wpOrdT_val rfl rfl ?_
    go_big_quiet_step (fail)
    refine wpQuiet_nil ?_
    refine wpOrdT_val rfl rfl ?_
    go_big_quiet_step (fail)
    refine wpQuiet_nil ?_
    refine wpOrdT_val rfl rfl ?_
    go_big_quiet_step (fail)
    refine wpQuiet_nil ?_
    refine wpOrdT_val rfl rfl ?_
    go_big_quiet_step (fail)
    refine wpQuiet_nil ?_
    refine wpOrdT_nil ?_
    have hcl : ∀ j u, (outVCells (runO uV uP 0 l23))[j]? = some u → we.cell? ⟨g, j, none⟩ = some u := own_cells HOWN.out
    rw [l23_run] at hcl
    have d0 : we.cell? ⟨g, 0, none⟩ = some (.int .i64 2) := hcl 0 _ rfl
    have d1 : we.cell? ⟨g, 13, none⟩ = some (.int .i64 2) := hcl 13 _ rfl
    have d2 : we.cell? ⟨g, 17, none⟩ = some (.bool true) := hcl 17 _ rfl
    have CC : Hid (Calls Tryz.prog 48 #[.slice (some ⟨g, 0, none⟩) 2 c] we fun e w' => e = .returned (.int .i64 2) ∧ Below we.heap.size we w') := by
      have h1 := Rd_of_own HOWN.out
      rw [l23_run] at h1
      have := came_any (some ⟨g, 0, none⟩) 2 c _ we rfl (by omega) h1 (fun o ho => by
        rcases List.mem_cons.1 ho with rfl | ho
        · decide
        · rw [List.mem_singleton] at ho; subst ho; decide)
      rw [l23_came] at this
      exact this
    clear hcl HOWN
    go_wp2_with fail
    refine CC.out.mono ?_
    rintro en wf ⟨rfl, hb⟩
    have HBF := hid (HBE.out.trans (hb.mono HBE.out.size))
    clear hb CC d0 d1 d2 hgl
    go_wp2_with fail
    go_ret
    exact ⟨rfl, HBF.out⟩
end Go.Proofs.YtemhdkmijfngnaaGreat
