/- Walks: package heap: put. -/
import Derived.Test.YtdhoedohchbagaaHf
namespace Go.Proofs.Ytdhoedohchbagaa
open Go.RowKit

theorem HpR.cell_ent {w : World} {g gw m ge c n : Nat} {L : List Ent} {wh : List Int} (h : HpR w g gw m (.slice (some ⟨ge, 0, none⟩) n c) n L wh) {i : Nat} (hi : i < n) :
    w.cell? ⟨ge, i * 2, none⟩ = some (.int .i64 (eg L i).t) ∧ w.cell? ⟨ge, i * 2 + 1, none⟩ = some (.int .i64 ((eg L i).id : Int)) ∧ w.frozen? ⟨ge, i * 2, none⟩ = false ∧ w.frozen? ⟨ge, i * 2 + 1, none⟩ = false := by
  have hl := h.len
  have h0 := entCells_get L i (by omega) 0 (by omega)
  have h1 := entCells_get L i (by omega) 1 (by omega)
  refine ⟨?_, ?_, h.row.frozenAt _, h.row.frozenAt _⟩
  · exact (h.row.cellAt (i * 2) (by omega)).trans h0
  · exact (h.row.cellAt (i * 2 + 1) (by omega)).trans h1
theorem HpR.cell_wh {w : World} {g gw m n : Nat} {v : Value} {L : List Ent} {wh : List Int} (h : HpR w g gw m v n L wh) {i : Nat} (hi : i < m) :
    w.cell? ⟨gw, i, none⟩ = some (.int .i64 (wg wh i)) ∧ w.frozen? ⟨gw, i, none⟩ = false := by
  have hl := h.wlen
  refine ⟨(h.whe.cellAt i (by omega)).trans ?_, h.whe.frozenAt _⟩
  rw [intCells_get _ _ (by omega)]
  have := wg_some (wh := wh) (i := i) (by omega)
  rw [List.getElem?_eq_getElem (by omega)] at this
  injection this with this
  rw [this]
theorem HpR.fields {w : World} {g gw m n : Nat} {v : Value} {L : List Ent} {wh : List Int} (h : HpR w g gw m v n L wh) :
    w.cell? ⟨g, 0, none⟩ = some v ∧ w.cell? ⟨g, 1, none⟩ = some (.slice (some ⟨gw, 0, none⟩) m m) ∧ w.frozen? ⟨g, 0, none⟩ = false :=
  ⟨h.blk.cell 0, h.blk.cell 1, h.blk.frozen 0⟩
theorem HpR.ne {w : World} {g gw m ge c n : Nat} {L : List Ent} {wh : List Int} (h : HpR w g gw m (.slice (some ⟨ge, 0, none⟩) n c) n L wh) : g ≠ ge ∧ g ≠ gw ∧ ge ≠ gw ∧ g < w.heap.size ∧ gw < w.heap.size ∧ ge < w.heap.size := by
  have h1 : (Value.slice (some ⟨ge, 0, none⟩) n c).ownBlock ≠ some g := blk_ne h.blk h.row (by decide)
  have h2 : (Value.slice (some ⟨gw, 0, none⟩) m m).ownBlock ≠ some g := blk_ne h.blk h.whe (by decide)
  have h3 := own_ne h.row h.whe (by decide)
  refine ⟨fun e => h1 (by simp [Value.ownBlock, e]), fun e => h2 (by simp [Value.ownBlock, e]), by simpa [Value.ownBlock] using h3, h.blk.lt, (h.whe.lt gw rfl).2, (h.row.lt ge rfl).2⟩

set_option maxRecDepth 20000 in
set_option maxHeartbeats 400000 in
theorem put_any (g gw m ge c n : Nat) (L : List Ent) (wh : List Int) (i : Nat) (e : Ent) (w : World) (h : HpR w g gw m (.slice (some ⟨ge, 0, none⟩) n c) n L wh) (hi : i < n) (he : e.id < m) :
    Calls Try.prog 106 #[.pointer (some ⟨g, 0, none⟩), .int .i64 (i : Int), .agg #[.int .i64 e.t, .int .i64 (e.id : Int)]] w fun en w' => en = .returned (.tuple #[]) ∧
      HpR w' g gw m (.slice (some ⟨ge, 0, none⟩) n c) n (L.set i e) (wh.set e.id (i : Int)) ∧ Keep (HpF g gw (.slice (some ⟨ge, 0, none⟩) n c)) w w' := by
  have H1 := h.below ((Below.refl w.heap.size w).alloc (Nat.le_refl _) (.cells #[.int .i64 e.t, .int .i64 (e.id : Int)] 38))
  have H2 := hid ((H1.setEnt i e).setWh e.id (i : Int))
  obtain ⟨e1, e2, e3, e4⟩ := h.cell_ent hi
  obtain ⟨q1, q2⟩ := h.cell_wh he
  obtain ⟨f0, f1, f2⟩ := h.fields
  obtain ⟨n1, n2, n3, n4, n5, n6⟩ := h.ne
  clear h H1
  go_enter Try.func106, Try.ntmps106
  go_wp2_with fail
  refine wp_region_tail 7 (by kernel_rfl) (by kernel_rfl) ?_
  simp only [List.take_succ_cons, List.take_zero, List.drop_succ_cons, List.drop_zero]
  repeat still_step
  refine wpStill_nil ?_
  go_wp2_with fail
  refine wp_region_tail 8 (by kernel_rfl) (by kernel_rfl) ?_
  simp only [List.take_succ_cons, List.take_zero, List.drop_succ_cons, List.drop_zero]
  repeat still_step
  refine wpStill_nil ?_
  go_wp2_with fail
  go_end0
  refine ⟨rfl, H2.out.below (drewN_below _ 2), ?_⟩
  have k1 : Keep (HpF g gw (.slice (some ⟨ge, 0, none⟩) n c)) w _ := Keep.alloc _ w (.cells #[.int .i64 e.t, .int .i64 (e.id : Int)] 38)
  have hge : HpF g gw (.slice (some ⟨ge, 0, none⟩) n c) ge := .inr (.inr rfl)
  have k2 := k1.trans (Keep.setCell _ _ ⟨ge, i * 2, none⟩ (.int .i64 e.t) hge) (fun _ => .inl)
  have k3 := k2.trans (Keep.setCell _ _ ⟨ge, i * 2 + 1, none⟩ (.int .i64 (e.id : Int)) hge) (fun _ => .inl)
  have k4 := k3.trans (Keep.setCell _ _ ⟨gw, e.id, none⟩ (.int .i64 (i : Int)) (.inr (.inl rfl))) (fun _ => .inl)
  exact k4.trans (Keep.drewN _ _ 2) (fun _ => .inl)
end Go.Proofs.Ytdhoedohchbagaa
