/- Walks: package slots: Open of full slots; 'lives' of layer 28. -/
import Derived.Test.YtdhoedohchbagaaSg
namespace Go.Proofs.Ytdhoedohchbagaa
open Go.RowKit Go.Maps

set_option maxRecDepth 20000 in
set_option maxHeartbeats 800000 in
theorem openFull_any (g gw gm base m : Nat) (who : List Int) (next n : Nat) (D : DataW Unit) (w : World) (h : SlP w g gw gm base m who next n D) (hn : next < 4096) (hs : Maps.size D = m) :
    Calls Try.prog 51 #[.pointer (some ⟨g, 0, none⟩)] w fun e w' => e = .returned (.tuple #[.int .i64 0, .int .i64 0, .bool false]) ∧ Below w.heap.size w w' := by
  obtain ⟨hb, ho, hmp, hbg, hbw, hbm, hne1, hne2, hne3⟩ := h
  have c0 := hb.cell 0
  have c1 := hb.cell 1
  have c2 := hb.cell 2
  simp only [List.getElem?_toArray] at c0 c1 c2
  have hlen : ∀ q ty, (Builtin.len_ #[140] ty #[.map (some gm)]).run Try.prog (w.drewN q) = .ok (.int .i64 (m : Int)) (w.drewN q) := fun q ty => by
    rw [World.ownsMap.len (w := w.drewN q) hmp Try.underlying140 ty, hs]
  have hd : decide ((4096 : Int) ≤ (next : Int)) = false := by simp; omega
  clear hb ho hmp hs
  go_enter Try.func51, Try.ntmps51
  go_wp2_with fail
  go_quiet (fail)
  go_wp2_with fail
  go_ret3
  exact ⟨rfl, ⟨rfl, rfl, rfl, Nat.le_refl _, fun _ _ => rfl⟩⟩

theorem SlP.below {w w' : World} {g gw gm base m : Nat} {who : List Int} {next n : Nat} {D : DataW Unit} (h : SlP w g gw gm base m who next n D) (hb : Below w.heap.size w w') : SlP w' g gw gm base m who next n D := by
  obtain ⟨h1, h2, h3, h4, h5, h6, h7, h8, h9⟩ := h
  refine ⟨h1.below hb h1.lt, own_below h2 hb, ?_, h4, h5, h6, h7, h8, h9⟩
  exact h3.kept (row := none) ⟨hb.os, hb.tape, hb.output, hb.size, fun q hq _ => hb.block q hq⟩ (by simp)

def dk (a : Int) : Lit := .int .i64 a
def dv (a : Int) : DataW Unit := .lit (.int .i64 a)
theorem live28_a : Maps.size ((.map [] : DataW Unit)) = 0 := rfl
theorem live28_b : Maps.size (((.map [] : DataW Unit).put (dk 0) (dv 0))) = 1 := rfl
theorem live28_c : Maps.size ((((.map [] : DataW Unit).put (dk 0) (dv 0)).put (dk 1) (dv 1))) = 2 := rfl
theorem live28_d : Maps.has ((((.map [] : DataW Unit).put (dk 0) (dv 0)).put (dk 1) (dv 1))) (dk 0) = true := rfl
theorem live28_e : ((((.map [] : DataW Unit).put (dk 0) (dv 0)).put (dk 1) (dv 1))).atKey (dk 0) (dv 0) = dv 0 := rfl
theorem live28_f : Maps.size ((((.map [] : DataW Unit).put (dk 0) (dv 0)).put (dk 1) (dv 1)).del (dk 0)) = 1 := rfl

set_option maxRecDepth 20000 in
set_option maxHeartbeats 800000 in
theorem lives28_any (w : World) : Calls Try.prog 56 #[] w fun e w' => e = .returned (.bool true) ∧ Below w.heap.size w w' := by
  go_enter Try.func56, Try.ntmps56
  go_wp2_with fail
  refine (new_any 2 (by omega) (by omega) _).mono ?_
  rintro e w1 ⟨g, gw, gm, rfl, hs1, hb1⟩
  have HB1 := hid hb1
  have C1 := hid (openOk_any g gw gm _ 2 _ 0 0 0 _ w1 hs1 (by omega) (by rw [live28_a]; omega) (by omega) (by omega) (by decide) (by omega))
  clear hs1 hb1
  go_wp2_with fail
  refine C1.out.mono ?_
  rintro e w2 ⟨rfl, hs2, hb2⟩
  have HB2 := hid (HB1.out.trans hb2)
  have C2 := hid (openOk_any g gw gm _ 2 _ 1 1 1 _ w2 hs2 (by omega) (by have := live28_b; unfold dk dv at this; rw [show ((0 : Nat) : Int) = 0 from rfl, this]; omega) (by omega) (by omega) (by decide) (by omega))
  clear hs2 hb2 C1
  go_wp2_with fail
  refine C2.out.mono ?_
  rintro e w3 ⟨rfl, hs3, hb3⟩
  have HB3 := hid (HB2.out.trans hb3)
  have HS3 := hid hs3
  have C3 := hid (openFull_any g gw gm _ 2 _ 2 2 _ w3 hs3 (by omega) live28_c)
  clear hs3 hb3 C2
  go_wp2_with fail
  refine C3.out.mono ?_
  rintro e w4 ⟨rfl, hb4⟩
  have HB4 := hid (HB3.out.trans (hb4.mono HB3.out.size))
  have hs4 := HS3.out.below hb4
  have C4 := hid (closeYes_any g gw gm _ 2 _ 2 2 _ 0 0 w4 hs4 (by decide) live28_d live28_e (by omega))
  clear hb4 hs4 C3 HS3
  go_wp2_with fail
  refine C4.out.mono ?_
  rintro e w5 ⟨rfl, hs5, hb5⟩
  have HB5 := hid (HB4.out.trans hb5)
  have C5 := hid (skip_any g gw gm _ 2 _ 2 2 _ w5 hs5 (by omega))
  clear hs5 hb5 C4
  go_wp2_with fail
  refine C5.out.mono ?_
  rintro e w6 ⟨rfl, hs6, hb6⟩
  have HB6 := hid (HB5.out.trans hb6)
  have C6 := hid (openOk_any g gw gm _ 2 _ 3 2 0 _ w6 hs6 (by omega) (by have := live28_f; unfold dk dv at this; exact fun h => by rw [show ((0 : Nat) : Int) = 0 from rfl, show ((1 : Nat) : Int) = 1 from rfl, this] at h; omega) (by omega) (by omega) (by decide) (by omega))
  clear hs6 hb6 C5
  go_wp2_with fail
  refine C6.out.mono ?_
  rintro e w7 ⟨rfl, hs7, hb7⟩
  have HB7 := hid (HB6.out.trans hb7)
  clear hs7 hb7 C6
  go_wp2_with fail
  go_ret
  exact ⟨rfl, HB7.out⟩
end Go.Proofs.Ytdhoedohchbagaa
