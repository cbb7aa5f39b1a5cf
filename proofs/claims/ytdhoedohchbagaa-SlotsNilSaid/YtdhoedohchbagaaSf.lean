/- Walks: package slots: Open where there is no number left. -/
import Derived.Test.YtdhoedohchbagaaSe
import Derived.BigQuiet
import Derived.Deep.QuietTactic
namespace Go.Proofs.Ytdhoedohchbagaa
open Go.RowKit Go.Maps

set_option maxRecDepth 20000 in
set_option maxHeartbeats 400000 in
theorem openEnd_any (g gw gm base m : Nat) (who : List Int) (n : Nat) (D : DataW Unit) (w : World) (h : SlP w g gw gm base m who 4096 n D) :
    Calls Try.prog 51 #[.pointer (some ⟨g, 0, none⟩)] w fun e w' => e = .returned (.tuple #[.int .i64 0, .int .i64 0, .bool false]) ∧ Below w.heap.size w w' := by
  obtain ⟨hb, _⟩ := h
  have c2 := hb.cell 2
  simp only [List.getElem?_toArray] at c2
  clear hb
  go_enter Try.func51, Try.ntmps51
  go_wp2_with fail
  go_quiet (fail)
  go_wp2_with fail
  go_ret3
  exact ⟨rfl, ⟨rfl, rfl, rfl, Nat.le_refl _, fun _ _ => rfl⟩⟩
end Go.Proofs.Ytdhoedohchbagaa
