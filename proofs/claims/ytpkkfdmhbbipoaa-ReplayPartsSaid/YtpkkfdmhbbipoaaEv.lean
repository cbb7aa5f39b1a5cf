/- Events: lists of them, somewhat cut; where two lists part; whether they are one. -/
import Derived.Test.YtpkkfdmhbbipoaaWb
import Derived.Test.YtpkkfdmhbbipoaaMix3
import Derived.Test.YtpkkfdmhbbipoaaBq
import Derived.Deep.Cut
import Derived.Laws.StructEq
import Derived.Deep.MidRow
namespace Go.Proofs.Ytpkkfdmhbbipoaa
open Go.RowKit

structure EvV where
  kind : Int
  id : Int
  n : Int
  tick : Int
  b : ByteArray
  e : Int
  t1 : Int
  t2 : Int
  t3 : Int
  t4 : Int
  t5 : Int
  t6 : Int
def EvV.cells (x : EvV) : List Value := [.int .i64 x.kind, .int .i64 x.id, .int .i64 x.n, .int .i64 x.tick, .string x.b, .int .i64 x.e, .int .i64 x.t1, .int .i64 x.t2, .int .i64 x.t3, .int .i64 x.t4, .int .i64 x.t5, .int .i64 x.t6]
def evCells (l : List EvV) : List Value := l.flatMap EvV.cells
theorem evCells_append (l m : List EvV) : evCells (l ++ m) = evCells l ++ evCells m := List.flatMap_append
theorem evCells_length (l : List EvV) : (evCells l).length = l.length * 12 := by
  induction l with
  | nil => rfl
  | cons x l ih => rw [evCells, List.flatMap_cons, List.length_append, ← evCells, ih, List.length_cons, Nat.add_mul]; show 12 + _ = _; omega
theorem ev_at (l : List EvV) (i : Nat) (x : EvV) (h : l[i]? = some x) (j : Nat) (hj : j < 12) : (evCells l)[i * 12 + j]? = x.cells[j]? := by
  obtain ⟨hi, rfl⟩ := List.getElem?_eq_some_iff.1 h
  exact flatMap_get EvV.cells 12 l (fun _ _ => rfl) i hi j hj
def EvV.ok (x : EvV) : Prop := x.b.size ≤ 9223372036854775807
def cutE (s : ByteArray) : ByteArray := if 24 < s.size then s.extract 0 24 else s
def cutEv (x : EvV) : EvV := ⟨x.kind, x.id, x.n, x.tick, cutE x.b, x.e, x.t1, x.t2, x.t3, x.t4, x.t5, x.t6⟩
def fewEv (l : List EvV) (most : Nat) : List EvV := (l.take most).map cutEv
theorem fewEv_length (l : List EvV) (most : Nat) : (fewEv l most).length ≤ most := by unfold fewEv; rw [List.length_map, List.length_take]; omega
theorem Try.infoEv : (Try.prog.info? 72).map (fun i => (i.zero, i.size, i.bytes)) = some (some (.agg #[.int .i64 0, .int .i64 0, .int .i64 0, .int .i64 0, .string ⟨#[]⟩, .int .i64 0, .int .i64 0, .int .i64 0, .int .i64 0, .int .i64 0, .int .i64 0, .int .i64 0]), 12, 104) := by kernel_rfl
theorem fact12 {w : World} {g : Nat} {t : TypeId} {a0 a1 a2 a3 a4 a5 a6 a7 a8 a9 a10 a11 : Value} (h : Blk w g t #[a0, a1, a2, a3, a4, a5, a6, a7, a8, a9, a10, a11]) : w.cell? ⟨g, 0, none⟩ = some a0 ∧ w.cell? ⟨g, 1, none⟩ = some a1 ∧ w.cell? ⟨g, 2, none⟩ = some a2 ∧ w.cell? ⟨g, 3, none⟩ = some a3 ∧ w.cell? ⟨g, 4, none⟩ = some a4 ∧ w.cell? ⟨g, 5, none⟩ = some a5 ∧ w.cell? ⟨g, 6, none⟩ = some a6 ∧ w.cell? ⟨g, 7, none⟩ = some a7 ∧ w.cell? ⟨g, 8, none⟩ = some a8 ∧ w.cell? ⟨g, 9, none⟩ = some a9 ∧ w.cell? ⟨g, 10, none⟩ = some a10 ∧ w.cell? ⟨g, 11, none⟩ = some a11 := ⟨h.cell 0, h.cell 1, h.cell 2, h.cell 3, h.cell 4, h.cell 5, h.cell 6, h.cell 7, h.cell 8, h.cell 9, h.cell 10, h.cell 11⟩

theorem Blk.putE {w : World} {g : Nat} {t : TypeId} {cs : Array Value} (h : Blk w g t cs) (i : Nat) (v : Value) : ∃ W, w.setCell ⟨g, i, none⟩ v = W ∧ Hid (Blk W g t (cs.setIfInBounds i v)) ∧ Hid (Keep (fun k => k = g) w W) := ⟨_, rfl, h.set i v, Keep.setCell _ w _ v rfl⟩
set_option maxRecDepth 20000 in
set_option maxHeartbeats 4000000 in
theorem few30_any (A : Option Addr) (n c : Nat) (l : List EvV) (most : Nat) (w : World) (hl : l.length = n) (hr : Rd w A (evCells l)) (hi : ∀ i ∈ l, i.ok) (hm : most ≤ 1000) :
    Calls Try.prog 6 #[.slice A n c, .int .i64 (most : Int)] w fun e w' => ∃ g c', e = .returned (.slice (some ⟨g, 0, none⟩) (fewEv l most).length c') ∧ w'.ownsRow w.heap.size 72 12 (.slice (some ⟨g, 0, none⟩) (fewEv l most).length c') (fewEv l most).length (evCells (fewEv l most)) ∧ Below w.heap.size w w' := by
  have HL := hid hl; have HI := hid hi
  have HRB : Hid (∀ W, Below w.heap.size w W → Rd W A (evCells l)) := fun W hb => hr.below hb
  have HF : Hid (fewEv l most = (l.take most).map cutEv) := rfl
  obtain ⟨R, hR⟩ : ∃ y, fewEv l most = y := ⟨_, rfl⟩
  rw [hR] at HF ⊢
  clear hl hi hr hR
  obtain ⟨w1, hw1⟩ : ∃ W, w.alloc (.cells #[] 72) = W := ⟨_, rfl⟩
  have HB1 : Hid (Below w.heap.size w w1) := by rw [← hw1]; exact (Below.refl _ _).alloc (Nat.le_refl _) _
  have HO1 : Hid (w1.ownsRow w.heap.size 72 12 (.slice (some ⟨w.heap.size, 0, none⟩) 0 0) 0 []) := by
    rw [Hid, ← hw1]
    have := World.ownsRow_made (base := w.heap.size) (e := 72) (size := 12) w #[] 0 (Nat.le_refl _) (by simp [maxLen]) (by simp)
    simpa using this
  have HWA := hid hw1
  clear hw1
  obtain ⟨gb, hgb⟩ : ∃ g, w.heap.size = g := ⟨_, rfl⟩
  have HGB := hid hgb
  rw [hgb] at HO1
  clear hgb
  go_enter Try.func6, Try.ntmps6
  go_upto_region 2 with fail
  rw [HWA.out, HGB.out]
  clear HWA
  go_wp2_with fail
  go_loopw [6, 5] (fun iv ov wr => ∃ (i c' ga : Nat), i ≤ n ∧ i ≤ most ∧ iv = .int .i64 (i : Int) ∧ ov = .slice (some ⟨ga, 0, none⟩) i c' ∧ wr.ownsRow gb 72 12 (.slice (some ⟨ga, 0, none⟩) i c') i (evCells (fewEv l i)) ∧ Below w.heap.size w wr) (fun iv _ _ => n - (intOf iv).toNat)
  case atStart => exact ⟨0, 0, gb, by omega, by omega, rfl, rfl, HO1.out, HB1.out⟩
  case round =>
    obtain ⟨i, c', ga, hi, him, rfl, rfl, hown, hb⟩ := hrel
    have HB := hid hb; have HO := hid hown
    have hsz : gb ≤ wr.heap.size := by have := HGB.out; have := hb.size; omega
    have HSZ := hid hsz
    clear hown hb HO1 HB1 hsz
    by_cases hlt : i < n
    · by_cases hlm : i < most
      · have hli : i < l.length := by rw [HL.out]; exact hlt
        have hget : l[i]? = some (l[i]'hli) := List.getElem?_eq_getElem hli
        have hTK : fewEv l (i + 1) = fewEv l i ++ [cutEv (l[i]'hli)] := by unfold fewEv; rw [List.take_succ_eq_append_getElem hli, List.map_append]; rfl
        have hII := HI.out _ (List.getElem_mem hli)
        obtain ⟨iv, hiv⟩ : ∃ y, l[i]'hli = y := ⟨_, rfl⟩
        rw [hiv] at hget hTK hII
        obtain ⟨bl, off, rfl, hbl, hcc⟩ := (HRB.out wr HB.out).at (by rw [evCells_length]; omega)
        have hc : ∀ j u, j < 12 → iv.cells[j]? = some u → wr.cell? ⟨bl, off + (i * 12 + j), none⟩ = some u := fun j u hj hu => hcc _ u ((ev_at l i iv hget j hj).trans hu)
        obtain ⟨xkind, xid, xn, xtick, xb, xe, xt1, xt2, xt3, xt4, xt5, xt6⟩ := iv
        have c0 := hc 0 _ (by omega) rfl
        have c1 := hc 1 _ (by omega) rfl
        have c2 := hc 2 _ (by omega) rfl
        have c3 := hc 3 _ (by omega) rfl
        have c4 := hc 4 _ (by omega) rfl
        have c5 := hc 5 _ (by omega) rfl
        have c6 := hc 6 _ (by omega) rfl
        have c7 := hc 7 _ (by omega) rfl
        have c8 := hc 8 _ (by omega) rfl
        have c9 := hc 9 _ (by omega) rfl
        have c10 := hc 10 _ (by omega) rfl
        have c11 := hc 11 _ (by omega) rfl
        simp only [Nat.add_zero, ← Nat.add_assoc] at c0 c1 c2 c3 c4 c5 c6 c7 c8 c9 c10 c11
        have CC : Hid (∀ W, Calls Try.prog 19 #[.string xb, .int .i64 24] W fun e w' => e = .returned (.string (cutE xb)) ∧ W = w') := fun W => cut_any xb 24 W hII (by omega)
        have HTL : Hid (evCells (fewEv l (i + 1)) = evCells (fewEv l i) ++ [.int .i64 xkind, .int .i64 xid, .int .i64 xn, .int .i64 xtick, .string (cutE xb), .int .i64 xe, .int .i64 xt1, .int .i64 xt2, .int .i64 xt3, .int .i64 xt4, .int .i64 xt5, .int .i64 xt6]) := by rw [Hid, hTK, evCells_append]; rfl
        obtain ⟨cb, hcb⟩ : ∃ y, cutE xb = y := ⟨_, rfl⟩
        rw [hcb] at CC HTL
        have hi2 : (i : Int) < (n : Int) := by omega
        have hm2 : (i : Int) < (most : Int) := by omega
        clear hget hTK hII hiv hc hcc hli hcb
        go_upto_region 6 with fail
        obtain ⟨w2, hw2⟩ : ∃ W, wr.alloc (.cells #[.int .i64 xkind, .int .i64 xid, .int .i64 xn, .int .i64 xtick, .string xb, .int .i64 xe, .int .i64 xt1, .int .i64 xt2, .int .i64 xt3, .int .i64 xt4, .int .i64 xt5, .int .i64 xt6] 72) = W := ⟨_, rfl⟩
        have HI2 : Hid (Blk w2 wr.heap.size 72 #[.int .i64 xkind, .int .i64 xid, .int .i64 xn, .int .i64 xtick, .string xb, .int .i64 xe, .int .i64 xt1, .int .i64 xt2, .int .i64 xt3, .int .i64 xt4, .int .i64 xt5, .int .i64 xt6]) := by rw [← hw2]; exact Blk.new _ _ _
        have HB2 : Hid (Below wr.heap.size wr w2) := by rw [← hw2]; exact (Below.refl _ _).alloc (Nat.le_refl _) _
        rw [hw2]
        clear hw2 c0 c1 c2 c3 c4 c5 c6 c7 c8 c9 c10 c11 hbl
        have HO2 := hid (own_below HO.out HB2.out)
        have HB3 := hid (HB.out.trans (HB2.out.mono HB.out.size))
        have HNE : Hid (∀ k, (Value.slice (some ⟨ga, 0, none⟩) i c').ownBlock = some k → k ≠ wr.heap.size) := fun k hk e => by have := (HO.out.lt k hk).2; omega
        have HSW : Hid (w.heap.size ≤ wr.heap.size) := HB.out.size
        obtain ⟨gi, hgi⟩ : ∃ y, wr.heap.size = y := ⟨_, rfl⟩
        rw [hgi] at HI2 HNE HSW ⊢
        obtain ⟨i0, i1, i2, i3, i4, i5, i6, i7, i8, i9, i10, i11⟩ := fact12 HI2.out
        have y4 := HI2.out.frozen 4
        have hlI := HI2.out.lt
        clear hgi HB HO HB2
        go_wp2_with fail
        refine (CC.out _).mono ?_
        rintro en w2' ⟨rfl, rfl⟩
        go_upto_region 7 with fail
        obtain ⟨w3, hw3, hb3, hk3⟩ := Blk.putE HI2.out 4 (.string cb)
        rw [hw3]
        have HI3 : Hid (Blk w3 gi 72 #[.int .i64 xkind, .int .i64 xid, .int .i64 xn, .int .i64 xtick, .string cb, .int .i64 xe, .int .i64 xt1, .int .i64 xt2, .int .i64 xt3, .int .i64 xt4, .int .i64 xt5, .int .i64 xt6]) := hb3
        have HO3 : Hid (w3.ownsRow gb 72 12 (.slice (some ⟨ga, 0, none⟩) i c') i (evCells (fewEv l i))) := hk3.out.own HO2.out (fun k hv e => HNE.out k hv e)
        have HB4 : Hid (Below w.heap.size w w3) := HB3.out.trans (hk3.out.below HB3.out.size (fun k (e : k = gi) => by rw [e]; exact HSW.out))
        have hs3 : gb ≤ w3.heap.size := by have := HB4.out.size; have := HGB.out; omega
        clear hw3 hb3 hk3 i0 i1 i2 i3 i4 i5 i6 i7 i8 i9 i10 i11 y4 hlI HI2 HO2 HB3 HNE CC HSZ
        obtain ⟨i0, i1, i2, i3, i4, i5, i6, i7, i8, i9, i10, i11⟩ := fact12 HI3.out
        have hlI := HI3.out.lt
        go_wp2_with (at_builtin; refine wpList_append1K _ rfl _ _ 22 rfl gb 72 _ 12 104 Try.underlying22 Try.infoEv rfl (by decide) _ _ _ rfl HO3.out 1 [.int .i64 xkind, .int .i64 xid, .int .i64 xn, .int .i64 xtick, .string cb, .int .i64 xe, .int .i64 xt1, .int .i64 xt2, .int .i64 xt3, .int .i64 xt4, .int .i64 xt5, .int .i64 xt6] rfl rfl rfl ?_ (by decide) hs3 ?_)
        · omega
        intro g5 c5 w5 hown5 hk5 hf5
        have HO5 : Hid (w5.ownsRow gb 72 12 (.slice (some ⟨g5, 0, none⟩) (i + 1) c5) (i + 1) (evCells (fewEv l (i + 1)))) := by
          rw [Hid, HTL.out]; exact hown5
        have HB5 : Hid (Below w.heap.size w w5) := HB4.out.trans (hk5.below HB4.out.size (fun k hk => by have := (HO3.out.lt k hk).1; have := HGB.out; omega))
        clear hown5 hk5 hf5 HO3 HB4 hs3 HTL HI3 i0 i1 i2 i3 i4 i5 i6 i7 i8 i9 i10 i11 hlI HSW
        go_wp2_with fail
        go_roundw
        case rel => exact ⟨i + 1, c5, g5, by omega, by omega, by go_num, rfl, HO5.out, HB5.out⟩
        case measure => simp [intOf]; omega
      · have hi2 : (i : Int) < (n : Int) := by omega
        have hm2 : ¬ (i : Int) < (most : Int) := by omega
        have HRN : Hid (R = fewEv l i ∧ R.length = i) := by
          have e : i = most := by omega
          have e2 : R = fewEv l i := by rw [HF.out, e]; rfl
          exact ⟨e2, by rw [e2]; unfold fewEv; rw [List.length_map, List.length_take, HL.out]; omega⟩
        go_wp2_with fail
        go_ret
        rw [HRN.out.2, HRN.out.1]
        exact ⟨ga, c', rfl, by rw [HGB.out]; exact HO.out, HB.out⟩
    · have hi2 : ¬ (i : Int) < (n : Int) := by omega
      have HRN : Hid (R = fewEv l i ∧ R.length = i) := by
        have e2 : R = fewEv l i := by rw [HF.out]; unfold fewEv; rw [List.take_of_length_le (show l.length ≤ most by rw [HL.out]; omega), List.take_of_length_le (show l.length ≤ i by rw [HL.out]; omega)]
        exact ⟨e2, by rw [e2]; unfold fewEv; rw [List.length_map, List.length_take, HL.out]; omega⟩
      go_wp2_with fail
      go_ret
      rw [HRN.out.2, HRN.out.1]
      exact ⟨ga, c', rfl, by rw [HGB.out]; exact HO.out, HB.out⟩
end Go.Proofs.Ytpkkfdmhbbipoaa
