/- Walks: package slots: Slot. -/
import Derived.Test.YtdhoedohchbagaaSb
namespace Go.Proofs.Ytdhoedohchbagaa
open Go.RowKit Go.Maps

theorem Try.zeroInt (w : World) : (zeroValue 3).run Try.prog w = .ok (.int .i64 0) w := by kernel_rfl
theorem Try.keyInt : Keyed Try.prog 3 := int_keyed Try.underlying3

set_option maxHeartbeats 400000 in
theorem slot_any (g gw gm base m : Nat) (who : List Int) (next n : Nat) (D : DataW Unit) (id : Int) (w : World) (h : SlP w g gw gm base m who next n D) (hid' : (Lit.int .i64 id).wf = true) :
    Calls Try.prog 63 #[.pointer (some ⟨g, 0, none⟩), .int .i64 id] w fun e w' => ∃ c : Int, e = .returned (.tuple #[.int .i64 c, .bool (Maps.has D (.int .i64 id))]) ∧ D.atKey (.int .i64 id) (.lit (.int .i64 0)) = .lit (.int .i64 c) ∧ w = w' := by
  obtain ⟨hb, _, hm, _⟩ := h
  have c1 := hb.cell 1
  simp only [List.getElem?_toArray] at c1
  have HM := hid hm
  clear hb hm
  go_enter Try.func63, Try.ntmps63
  go_wp2_with (at_lookup; refine wpList_lookup_own_ok_int _ rfl _ _ 140 rfl 3 3 .i64 Try.keyInt Try.underlying140 Try.underlying3 (Try.zeroInt _) gm n D rfl HM.out _ _ rfl (keyOf_int_mk Try.underlying3 hid') ?_)
  intro c hat _
  go_wp2_with fail
  go_ret2
  exact ⟨c, rfl, hat, rfl⟩
end Go.Proofs.Ytdhoedohchbagaa
