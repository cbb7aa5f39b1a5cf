/- Walks: package heap: pop of an empty heap, Pop. -/
import Derived.Test.YtdhoedohchbagaaHl
namespace Go.Proofs.Ytdhoedohchbagaa
open Go.RowKit

set_option maxHeartbeats 400000 in
theorem pop0_none (g gw m : Nat) (v : Value) (w : World) (h : HpI w g gw m v []) :
    Calls Try.prog 81 #[.pointer (some ⟨g, 0, none⟩)] w fun en w' => en = .returned (.tuple #[.agg #[.int .i64 0, .int .i64 0], .bool false]) ∧ Below w.heap.size w w' := by
  have HI := hid h
  clear h
  go_enter Try.func81, Try.ntmps81
  go_wp2_with fail
  have H1 := hid (HI.out.below ((Below.refl _ _).alloc (Nat.le_refl _) (.cells #[.int .i64 0, .int .i64 0] 38)))
  refine (minNone_any g gw m v _ H1.out).mono ?_
  rintro en w1 ⟨rfl, hb1⟩
  have hs1 := hb1.size
  rw [World.size_alloc] at hs1
  have B1 : Hid (Below w.heap.size w w1) := ((Below.refl _ _).alloc (Nat.le_refl _) _).trans (hb1.mono (by simp))
  have t0 : w1.cell? ⟨w.heap.size, 0, none⟩ = some (.int .i64 0) := (hb1.cell (p := ⟨w.heap.size, 0, none⟩) (by simp)).trans ((Blk.new w _ _).cell 0)
  have t1 : w1.cell? ⟨w.heap.size, 1, none⟩ = some (.int .i64 0) := (hb1.cell (p := ⟨w.heap.size, 1, none⟩) (by simp)).trans ((Blk.new w _ _).cell 1)
  have t2 := (hb1.frozen (p := ⟨w.heap.size, 0, none⟩) (by simp)).trans ((Blk.new w _ _).frozen 0)
  have t3 := (hb1.frozen (p := ⟨w.heap.size, 1, none⟩) (by simp)).trans ((Blk.new w _ _).frozen 1)
  have hne : w.heap.size ≠ w1.heap.size := by omega
  have hlt : w.heap.size < w1.heap.size := by omega
  have s0 : (w1.setCell ⟨w.heap.size, 0, none⟩ (.int .i64 0)).cell? ⟨w.heap.size, 0, none⟩ = some (.int .i64 0) := cell_set_same t0
  have HB : Hid (∀ o u0 u1, Below w.heap.size w (((w1.setCell ⟨w.heap.size, 0, none⟩ u0).setCell ⟨w.heap.size, 1, none⟩ u1).alloc o)) := fun o u0 u1 => ((B1.out.setCell (Nat.le_refl _) _).setCell (Nat.le_refl _) _).alloc (by simp; omega) _
  clear hb1 H1
  go_wp2_with fail
  exact bodyPost_ret (v := .tuple #[.agg #[.int .i64 0, .int .i64 0], .bool false]) (by simp [results, Try.results81, go_sem, s0, t1, hlt]) rfl ⟨rfl, HB.out _ _ _⟩

set_option maxHeartbeats 400000 in
theorem pop_none (g gw m : Nat) (v : Value) (w : World) (h : HpI w g gw m v []) :
    Calls Try.prog 28 #[.pointer (some ⟨g, 0, none⟩)] w fun en w' => en = .returned (.tuple #[.agg #[.int .i64 0, .int .i64 0], .bool false]) ∧ Below w.heap.size w w' := by
  have HI := hid h
  clear h
  go_enter Try.func28, Try.ntmps28
  go_wp2_with fail
  have H1 := hid (HI.out.below ((Below.refl _ _).alloc (Nat.le_refl _) (.cells #[.int .i64 0, .int .i64 0] 38)))
  refine (pop0_none g gw m v _ H1.out).mono ?_
  rintro en w1 ⟨rfl, hb1⟩
  have hs1 := hb1.size
  rw [World.size_alloc] at hs1
  have B1 : Hid (Below w.heap.size w w1) := ((Below.refl _ _).alloc (Nat.le_refl _) _).trans (hb1.mono (by simp))
  have t0 : w1.cell? ⟨w.heap.size, 0, none⟩ = some (.int .i64 0) := (hb1.cell (p := ⟨w.heap.size, 0, none⟩) (by simp)).trans ((Blk.new w _ _).cell 0)
  have t1 : w1.cell? ⟨w.heap.size, 1, none⟩ = some (.int .i64 0) := (hb1.cell (p := ⟨w.heap.size, 1, none⟩) (by simp)).trans ((Blk.new w _ _).cell 1)
  have t2 := (hb1.frozen (p := ⟨w.heap.size, 0, none⟩) (by simp)).trans ((Blk.new w _ _).frozen 0)
  have t3 := (hb1.frozen (p := ⟨w.heap.size, 1, none⟩) (by simp)).trans ((Blk.new w _ _).frozen 1)
  have s0 : (w1.setCell ⟨w.heap.size, 0, none⟩ (.int .i64 0)).cell? ⟨w.heap.size, 0, none⟩ = some (.int .i64 0) := cell_set_same t0
  have HB : Hid (∀ u0 u1, Below w.heap.size w ((w1.setCell ⟨w.heap.size, 0, none⟩ u0).setCell ⟨w.heap.size, 1, none⟩ u1)) := fun u0 u1 => (B1.out.setCell (Nat.le_refl _) _).setCell (Nat.le_refl _) _
  clear hb1 H1
  go_wp2_with fail
  exact bodyPost_ret (v := .tuple #[.agg #[.int .i64 0, .int .i64 0], .bool false]) (by simp [results, Try.results28, go_sem, s0, t1]) rfl ⟨rfl, HB.out _ _⟩

set_option maxHeartbeats 400000 in
theorem pop_some (g gw m : Nat) (v : Value) (x : Ent) (l : List Ent) (w : World) (h : HpI w g gw m v (x :: l)) :
    Calls Try.prog 28 #[.pointer (some ⟨g, 0, none⟩)] w fun en w' => en = .returned (.tuple #[.agg #[.int .i64 x.t, .int .i64 (x.id : Int)], .bool true]) ∧ HpPost g gw m v l w w' := by
  have HI := hid h
  clear h
  go_enter Try.func28, Try.ntmps28
  go_wp2_with fail
  have H1 := hid (HI.out.below ((Below.refl _ _).alloc (Nat.le_refl _) (.cells #[.int .i64 0, .int .i64 0] 38)))
  have hn0 : ¬ HpF g gw v w.heap.size := fun h => absurd (HI.out.lt _ h) (Nat.lt_irrefl _)
  refine (pop0_some g gw m v x l _ H1.out).mono ?_
  rintro en w1 ⟨rfl, hp⟩
  have hk := hp.choose_spec.2.1
  have hlt0 : w.heap.size < (w.alloc (.cells #[.int .i64 0, .int .i64 0] 38)).heap.size := by simp
  have t0 : w1.cell? ⟨w.heap.size, 0, none⟩ = some (.int .i64 0) := (hk.cell (o := 0) hlt0 hn0).trans ((Blk.new w _ _).cell 0)
  have t1 : w1.cell? ⟨w.heap.size, 1, none⟩ = some (.int .i64 0) := (hk.cell (o := 1) hlt0 hn0).trans ((Blk.new w _ _).cell 1)
  have t2 := (hk.frozen (o := 0) hlt0 hn0).trans ((Blk.new w _ _).frozen 0)
  have t3 := (hk.frozen (o := 1) hlt0 hn0).trans ((Blk.new w _ _).frozen 1)
  have HP : Hid (HpPost g gw m v l w ((w1.setCell ⟨w.heap.size, 0, none⟩ (.int .i64 x.t)).setCell ⟨w.heap.size, 1, none⟩ (.int .i64 (x.id : Int)))) :=
    hp.box ((Below.refl _ _).alloc (Nat.le_refl _) _) (Nat.le_refl _) (by simp) hn0 (keep_box2 _ _ _ _)
  have s0 : (w1.setCell ⟨w.heap.size, 0, none⟩ (.int .i64 x.t)).cell? ⟨w.heap.size, 0, none⟩ = some (.int .i64 x.t) := cell_set_same t0
  clear hp hk H1
  go_wp2_with fail
  exact bodyPost_ret (v := .tuple #[.agg #[.int .i64 x.t, .int .i64 (x.id : Int)], .bool true]) (by simp [results, Try.results28, go_sem, s0, t1]) rfl ⟨rfl, HP.out⟩
end Go.Proofs.Ytdhoedohchbagaa
