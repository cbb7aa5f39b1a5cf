/- The law HeapNil: its walk. -/
import Derived.Test.YtdhoedohchbagaaHq
namespace Go.Proofs.Ytdhoedohchbagaa
open Go.RowKit

theorem atNil_any (w : World) (id : Int) : Calls Try.prog 22 #[.pointer none, .int .i64 id] w fun e w' => e = .returned (.tuple #[.int .i64 0, .bool false]) ∧ Below w.heap.size w w' := by
  go_enter Try.func22, Try.ntmps22
  go_wp2_with (go_at_call 74; refine (mayNil_any _ _).mono ?_; rintro e w1 ⟨rfl, rfl⟩)
  go_ret2
  exact ⟨rfl, Below.refl _ _⟩
theorem setNil_any (w : World) (id : Int) (at_ : Int) : Calls Try.prog 20 #[.pointer none, .int .i64 id, .int .i64 at_] w fun e w' => e = .returned (.bool false) ∧ Below w.heap.size w w' := by
  go_enter Try.func20, Try.ntmps20
  go_wp2_with (go_at_call 74; refine (mayNil_any _ _).mono ?_; rintro e w1 ⟨rfl, rfl⟩)
  go_ret
  exact ⟨rfl, Below.refl _ _⟩
theorem cutNil_any (w : World) (id : Int) : Calls Try.prog 67 #[.pointer none, .int .i64 id] w fun e w' => e = .returned (.bool false) ∧ Below w.heap.size w w' := by
  go_enter Try.func67, Try.ntmps67
  go_wp2_with (go_at_call 74; refine (mayNil_any _ _).mono ?_; rintro e w1 ⟨rfl, rfl⟩)
  go_ret
  exact ⟨rfl, Below.refl _ _⟩
theorem listNil_any (w : World) : Calls Try.prog 72 #[.pointer none] w fun e w' => e = .returned (.slice none 0 0) ∧ Below w.heap.size w w' := by
  go_enter Try.func72, Try.ntmps72
  go_wp2
  go_ret
  exact ⟨rfl, Below.refl _ _⟩
theorem lenNil_any (w : World) : Calls Try.prog 25 #[.pointer none] w fun e w' => e = .returned (.int .i64 0) ∧ Below w.heap.size w w' := by
  go_enter Try.func25, Try.ntmps25
  go_wp2
  go_ret
  exact ⟨rfl, Below.refl _ _⟩
theorem mostNil_any (w : World) : Calls Try.prog 65 #[.pointer none] w fun e w' => e = .returned (.int .i64 0) ∧ Below w.heap.size w w' := by
  go_enter Try.func65, Try.ntmps65
  go_wp2
  go_ret
  exact ⟨rfl, Below.refl _ _⟩
set_option maxHeartbeats 400000 in
theorem minNil_any (w : World) : Calls Try.prog 71 #[.pointer none] w fun e w' => e = .returned (.tuple #[.agg #[.int .i64 0, .int .i64 0], .bool false]) ∧ Below w.heap.size w w' := by
  go_enter Try.func71, Try.ntmps71
  go_wp2
  exact bodyPost_ret (v := .tuple #[.agg #[.int .i64 0, .int .i64 0], .bool false]) (by simp [results, Try.results71, go_sem]) rfl ⟨rfl, (Below.refl _ _).alloc (Nat.le_refl _) _⟩
set_option maxHeartbeats 400000 in
theorem pop0Nil_any (w : World) : Calls Try.prog 81 #[.pointer none] w fun e w' => e = .returned (.tuple #[.agg #[.int .i64 0, .int .i64 0], .bool false]) ∧ Below w.heap.size w w' := by
  go_enter Try.func81, Try.ntmps81
  go_wp2_with fail
  refine (minNil_any _).mono ?_
  rintro en w1 ⟨rfl, hb1⟩
  have hs1 := hb1.size
  rw [World.size_alloc] at hs1
  have B1 : Hid (Below w.heap.size w w1) := ((Below.refl _ _).alloc (Nat.le_refl _) _).trans (hb1.mono (by simp))
  have t0 : w1.cell? ⟨w.heap.size, 0, none⟩ = some (.int .i64 0) := (hb1.cell (p := ⟨w.heap.size, 0, none⟩) (by simp)).trans ((Blk.new w _ _).cell 0)
  have t1 : w1.cell? ⟨w.heap.size, 1, none⟩ = some (.int .i64 0) := (hb1.cell (p := ⟨w.heap.size, 1, none⟩) (by simp)).trans ((Blk.new w _ _).cell 1)
  have t2 := (hb1.frozen (p := ⟨w.heap.size, 0, none⟩) (by simp)).trans ((Blk.new w _ _).frozen 0)
  have t3 := (hb1.frozen (p := ⟨w.heap.size, 1, none⟩) (by simp)).trans ((Blk.new w _ _).frozen 1)
  have hne : w.heap.size ≠ w1.heap.size := by omega
  have hlt : w.heap.size < w1.heap.size := by omega
  have s0 : (w1.setCell ⟨w.heap.size, 0, none⟩ (.int .i64 0)).cell? ⟨w.heap.size, 0, none⟩ = some (.int .i64 0) := cell_set_same t0
  have HB : Hid (∀ o u0 u1, Below w.heap.size w (((w1.setCell ⟨w.heap.size, 0, none⟩ u0).setCell ⟨w.heap.size, 1, none⟩ u1).alloc o)) := fun o u0 u1 => ((B1.out.setCell (Nat.le_refl _) _).setCell (Nat.le_refl _) _).alloc (by simp; omega) _
  clear hb1
  go_wp2_with fail
  exact bodyPost_ret (v := .tuple #[.agg #[.int .i64 0, .int .i64 0], .bool false]) (by simp [results, Try.results81, go_sem, s0, t1, hlt]) rfl ⟨rfl, HB.out _ _ _⟩
set_option maxHeartbeats 400000 in
theorem popNil_any (w : World) : Calls Try.prog 28 #[.pointer none] w fun e w' => e = .returned (.tuple #[.agg #[.int .i64 0, .int .i64 0], .bool false]) ∧ Below w.heap.size w w' := by
  go_enter Try.func28, Try.ntmps28
  go_wp2_with fail
  refine (pop0Nil_any _).mono ?_
  rintro en w1 ⟨rfl, hb1⟩
  have hs1 := hb1.size
  rw [World.size_alloc] at hs1
  have B1 : Hid (Below w.heap.size w w1) := ((Below.refl _ _).alloc (Nat.le_refl _) _).trans (hb1.mono (by simp))
  have t0 : w1.cell? ⟨w.heap.size, 0, none⟩ = some (.int .i64 0) := (hb1.cell (p := ⟨w.heap.size, 0, none⟩) (by simp)).trans ((Blk.new w _ _).cell 0)
  have t1 : w1.cell? ⟨w.heap.size, 1, none⟩ = some (.int .i64 0) := (hb1.cell (p := ⟨w.heap.size, 1, none⟩) (by simp)).trans ((Blk.new w _ _).cell 1)
  have t2 := (hb1.frozen (p := ⟨w.heap.size, 0, none⟩) (by simp)).trans ((Blk.new w _ _).frozen 0)
  have t3 := (hb1.frozen (p := ⟨w.heap.size, 1, none⟩) (by simp)).trans ((Blk.new w _ _).frozen 1)
  have hne : w.heap.size ≠ w1.heap.size := by omega
  have hlt : w.heap.size < w1.heap.size := by omega
  have s0 : (w1.setCell ⟨w.heap.size, 0, none⟩ (.int .i64 0)).cell? ⟨w.heap.size, 0, none⟩ = some (.int .i64 0) := cell_set_same t0
  have HB : Hid (∀ u0 u1, Below w.heap.size w ((w1.setCell ⟨w.heap.size, 0, none⟩ u0).setCell ⟨w.heap.size, 1, none⟩ u1)) := fun u0 u1 => (B1.out.setCell (Nat.le_refl _) _).setCell (Nat.le_refl _) _
  clear hb1
  go_wp2_with fail
  exact bodyPost_ret (v := .tuple #[.agg #[.int .i64 0, .int .i64 0], .bool false]) (by simp [results, Try.results28, go_sem, s0, t1, hlt]) rfl ⟨rfl, HB.out _ _⟩
set_option maxHeartbeats 400000 in
theorem dueNil_any (w : World) (now : Int) : Calls Try.prog 21 #[.pointer none, .int .i64 now] w fun e w' => e = .returned (.slice none 0 0) ∧ Below w.heap.size w w' := by
  go_enter Try.func21, Try.ntmps21
  go_wp2_with fail
  refine (minNil_any _).mono ?_
  rintro en w1 ⟨rfl, hb1⟩
  have HB := hid (hb1.alloc hb1.size (.cells #[.int .i64 0, .int .i64 0] 38))
  clear hb1
  go_wp2_with fail
  go_loopw [5, 7] (fun o ok wr => o = .slice none 0 0 ∧ ok = .bool false ∧ Below w.heap.size w wr) (fun _ _ _ => 0)
  case atStart => exact ⟨rfl, rfl, HB.out⟩
  case round =>
    obtain ⟨rfl, rfl, hb⟩ := hrel
    have HB2 := hid hb
    clear hb HB
    go_wp2_with fail
    go_ret
    exact ⟨rfl, HB2.out⟩

set_option maxRecDepth 20000 in
set_option maxHeartbeats 800000 in
theorem heapNil_any (id at_ : Int) (w : World) (_ : Lit.wf (.int .i64 id) = true) (_ : Lit.wf (.int .i64 at_) = true) :
    Calls Try.prog 13 #[.int .i64 id, .int .i64 at_] w fun e w' => e = .returned (.bool true) ∧ Below w.heap.size w w' := by
  go_enter Try.func13, Try.ntmps13
  go_wp2_with fail
  refine (atNil_any _ id).mono ?_
  rintro e w1 ⟨rfl, hb1⟩
  have HB1 := hid ((Below.refl w.heap.size w).trans (hb1.mono (Below.refl w.heap.size w).size))
  clear hb1
  go_wp2_with fail
  refine (minNil_any _).mono ?_
  rintro e w2 ⟨rfl, hb2⟩
  have HB2 := hid ((HB1.out).trans (hb2.mono (HB1.out).size))
  have HC2 := hid (HB2.out.alloc HB2.out.size (.cells #[.int .i64 0, .int .i64 0] 38))
  clear hb2
  go_wp2_with fail
  refine (popNil_any _).mono ?_
  rintro e w3 ⟨rfl, hb3⟩
  have HB3 := hid ((HC2.out).trans (hb3.mono (HC2.out).size))
  have HC3 := hid (HB3.out.alloc HB3.out.size (.cells #[.int .i64 0, .int .i64 0] 38))
  clear hb3
  go_wp2_with fail
  refine (setNil_any _ id at_).mono ?_
  rintro e w4 ⟨rfl, hb4⟩
  have HB4 := hid ((HC3.out).trans (hb4.mono (HC3.out).size))
  clear hb4
  go_wp2_with fail
  refine (cutNil_any _ id).mono ?_
  rintro e w5 ⟨rfl, hb5⟩
  have HB5 := hid ((HB4.out).trans (hb5.mono (HB4.out).size))
  clear hb5
  go_wp2_with fail
  refine (dueNil_any _ at_).mono ?_
  rintro e w6 ⟨rfl, hb6⟩
  have HB6 := hid ((HB5.out).trans (hb6.mono (HB5.out).size))
  clear hb6
  go_wp2_with fail
  refine (listNil_any _).mono ?_
  rintro e w7 ⟨rfl, hb7⟩
  have HB7 := hid ((HB6.out).trans (hb7.mono (HB6.out).size))
  clear hb7
  go_wp2_with fail
  refine (lenNil_any _).mono ?_
  rintro e w8 ⟨rfl, hb8⟩
  have HB8 := hid ((HB7.out).trans (hb8.mono (HB7.out).size))
  clear hb8
  go_wp2_with fail
  refine (mostNil_any _).mono ?_
  rintro e w9 ⟨rfl, hb9⟩
  have HB9 := hid ((HB8.out).trans (hb9.mono (HB8.out).size))
  clear hb9
  go_wp2_with fail
  refine (lives5_any _).mono ?_
  rintro e w10 ⟨rfl, hb10⟩
  have HB10 := hid ((HB9.out).trans (hb10.mono (HB9.out).size))
  clear hb10
  go_wp2_with fail
  go_ret
  exact ⟨rfl, HB10.out⟩
end Go.Proofs.Ytdhoedohchbagaa
