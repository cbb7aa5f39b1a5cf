/- The law SlotsNil: its walk. -/
import Derived.Test.YtdhoedohchbagaaSh
namespace Go.Proofs.Ytdhoedohchbagaa
open Go.RowKit Go.Maps

set_option maxRecDepth 20000 in
theorem openNil_any (w : World) : Calls Try.prog 51 #[.pointer none] w fun e w' => e = .returned (.tuple #[.int .i64 0, .int .i64 0, .bool false]) ∧ Below w.heap.size w w' := by
  go_enter Try.func51, Try.ntmps51
  go_wp2_with fail
  go_quiet (fail)
  go_wp2_with fail
  go_ret3
  exact ⟨rfl, ⟨rfl, rfl, rfl, Nat.le_refl _, fun _ _ => rfl⟩⟩
theorem slotNil_any (w : World) (id : Int) : Calls Try.prog 63 #[.pointer none, .int .i64 id] w fun e w' => e = .returned (.tuple #[.int .i64 0, .bool false]) ∧ Below w.heap.size w w' := by
  go_enter Try.func63, Try.ntmps63
  go_wp2
  go_ret2
  exact ⟨rfl, Below.refl _ _⟩
theorem whoNil_any (w : World) (id : Int) : Calls Try.prog 50 #[.pointer none, .int .i64 id] w fun e w' => e = .returned (.tuple #[.int .i64 0, .bool false]) ∧ Below w.heap.size w w' := by
  go_enter Try.func50, Try.ntmps50
  go_wp2
  go_ret2
  exact ⟨rfl, Below.refl _ _⟩
theorem skipNil_any (w : World) : Calls Try.prog 59 #[.pointer none] w fun e w' => e = .returned (.int .i64 (-1)) ∧ Below w.heap.size w w' := by
  go_enter Try.func59, Try.ntmps59
  go_wp2
  go_ret
  exact ⟨rfl, Below.refl _ _⟩
theorem closeNil_any (w : World) (id : Int) : Calls Try.prog 53 #[.pointer none, .int .i64 id] w fun e w' => e = .returned (.bool false) ∧ Below w.heap.size w w' := by
  go_enter Try.func53, Try.ntmps53
  go_wp2_with fail
  refine (slotNil_any _ id).mono ?_
  rintro e w1 ⟨rfl, hb1⟩
  go_wp2_with fail
  go_ret
  exact ⟨rfl, hb1⟩
theorem liveNil_any (w : World) : Calls Try.prog 54 #[.pointer none] w fun e w' => e = .returned (.slice none 0 0) ∧ Below w.heap.size w w' := by
  go_enter Try.func54, Try.ntmps54
  go_wp2
  go_ret
  exact ⟨rfl, Below.refl _ _⟩
theorem freeNil_any (w : World) : Calls Try.prog 55 #[.pointer none] w fun e w' => e = .returned (.int .i64 0) ∧ Below w.heap.size w w' := by
  go_enter Try.func55, Try.ntmps55
  go_wp2
  go_ret
  exact ⟨rfl, Below.refl _ _⟩
theorem nextNil_any (w : World) : Calls Try.prog 64 #[.pointer none] w fun e w' => e = .returned (.int .i64 0) ∧ Below w.heap.size w w' := by
  go_enter Try.func64, Try.ntmps64
  go_wp2
  go_ret
  exact ⟨rfl, Below.refl _ _⟩

set_option maxRecDepth 20000 in
set_option maxHeartbeats 800000 in
theorem slotsNil_any (id : Int) (w : World) (_ : Lit.wf (.int .i64 id) = true) :
    Calls Try.prog 11 #[.int .i64 id] w fun e w' => e = .returned (.bool true) ∧ Below w.heap.size w w' := by
  go_enter Try.func11, Try.ntmps11
  go_wp2_with fail
  refine (openNil_any _).mono ?_
  rintro e w1 ⟨rfl, hb1⟩
  have HB1 := hid ((Below.refl w.heap.size w).trans (hb1.mono (Below.refl w.heap.size w).size))
  clear hb1
  go_wp2_with fail
  refine (slotNil_any _ id).mono ?_
  rintro e w2 ⟨rfl, hb2⟩
  have HB2 := hid ((HB1.out).trans (hb2.mono (HB1.out).size))
  clear hb2
  go_wp2_with fail
  refine (whoNil_any _ id).mono ?_
  rintro e w3 ⟨rfl, hb3⟩
  have HB3 := hid ((HB2.out).trans (hb3.mono (HB2.out).size))
  clear hb3
  go_wp2_with fail
  refine (skipNil_any _).mono ?_
  rintro e w4 ⟨rfl, hb4⟩
  have HB4 := hid ((HB3.out).trans (hb4.mono (HB3.out).size))
  clear hb4
  go_wp2_with fail
  refine (closeNil_any _ id).mono ?_
  rintro e w5 ⟨rfl, hb5⟩
  have HB5 := hid ((HB4.out).trans (hb5.mono (HB4.out).size))
  clear hb5
  go_wp2_with fail
  refine (liveNil_any _).mono ?_
  rintro e w6 ⟨rfl, hb6⟩
  have HB6 := hid ((HB5.out).trans (hb6.mono (HB5.out).size))
  clear hb6
  go_wp2_with fail
  refine (freeNil_any _).mono ?_
  rintro e w7 ⟨rfl, hb7⟩
  have HB7 := hid ((HB6.out).trans (hb7.mono (HB6.out).size))
  clear hb7
  go_wp2_with fail
  refine (nextNil_any _).mono ?_
  rintro e w8 ⟨rfl, hb8⟩
  have HB8 := hid ((HB7.out).trans (hb8.mono (HB7.out).size))
  clear hb8
  go_wp2_with fail
  refine (lives28_any _).mono ?_
  rintro e w9 ⟨rfl, hb9⟩
  have HB9 := hid ((HB8.out).trans (hb9.mono (HB8.out).size))
  clear hb9
  go_wp2_with fail
  go_ret
  exact ⟨rfl, HB9.out⟩
end Go.Proofs.Ytdhoedohchbagaa
