/- Walks: package slots: Close. -/
import Derived.Test.YtdhoedohchbagaaSc
namespace Go.Proofs.Ytdhoedohchbagaa
open Go.RowKit Go.Maps

theorem SlP.turned {w w' : World} {g gw gm base m : Nat} {who : List Int} {next n n' : Nat} {D D' : DataW Unit} (h : SlP w g gw gm base m who next n D) (ht : w.grownBy w' (some gm)) (hm : w'.ownsMap Try.prog 3 (plainElem Try.prog 3) gm n' D') :
    SlP w' g gw gm base m who next n' D' := by
  obtain ⟨h1, h2, h3, h4, h5, h6, h7, h8, h9⟩ := h
  refine ⟨?_, h2.kept (row := some gm) ht (by simp [Value.ownBlock]; exact Ne.symm h8), hm, h4, h5, h6, h7, h8, h9⟩
  exact (ht.block g h1.lt (by simp; exact Ne.symm h9)).trans h1

set_option maxHeartbeats 400000 in
theorem closeNo_any (g gw gm base m : Nat) (who : List Int) (next n : Nat) (D : DataW Unit) (id : Int) (w : World) (h : SlP w g gw gm base m who next n D) (hw : (Lit.int .i64 id).wf = true) (hno : Maps.has D (.int .i64 id) = false) :
    Calls Try.prog 53 #[.pointer (some ⟨g, 0, none⟩), .int .i64 id] w fun e w' => e = .returned (.bool false) ∧ w = w' := by
  have HN := hid hno
  clear hno
  go_enter Try.func53, Try.ntmps53
  go_wp2_with fail
  refine (slot_any g gw gm base m who next n D id _ h hw).mono ?_
  rw [HN.out]
  rintro e w1 ⟨c, rfl, _, rfl⟩
  go_wp2_with fail
  go_ret
  exact ⟨rfl, rfl⟩
end Go.Proofs.Ytdhoedohchbagaa
