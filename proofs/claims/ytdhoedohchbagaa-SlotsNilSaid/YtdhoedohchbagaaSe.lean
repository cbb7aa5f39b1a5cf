/- Walks: package slots: Close of one who is there. -/
import Derived.Test.YtdhoedohchbagaaSd
namespace Go.Proofs.Ytdhoedohchbagaa
open Go.RowKit Go.Maps

set_option maxHeartbeats 400000 in
theorem closeYes_any (g gw gm base m : Nat) (who : List Int) (next n : Nat) (D : DataW Unit) (id : Int) (k : Nat) (w : World) (h : SlP w g gw gm base m who next n D) (hw : (Lit.int .i64 id).wf = true) (hy : Maps.has D (.int .i64 id) = true)
    (hk : D.atKey (.int .i64 id) (.lit (.int .i64 0)) = .lit (.int .i64 (k : Int))) (hkm : k < m) :
    Calls Try.prog 53 #[.pointer (some ⟨g, 0, none⟩), .int .i64 id] w fun e w' => e = .returned (.bool true) ∧ SlP w' g gw gm base m (who.set k (-1)) next n (D.del (.int .i64 id)) ∧ Below base w w' := by
  have HY := hid hy; have HK := hid hk; have HH := hid h
  clear hy hk
  go_enter Try.func53, Try.ntmps53
  go_wp2_with fail
  refine (slot_any g gw gm base m who next n D id _ h hw).mono ?_
  rw [HY.out]
  rintro e w1 ⟨c, rfl, hat, rfl⟩
  have hck : c = (k : Int) := by
    rw [HK.out] at hat; injection hat with h1; injection h1 with _ h2; exact h2.symm
  subst hck
  have HSW := hid (h.setWho k (-1))
  have hlen := h.len
  obtain ⟨h1, h2, h3, hbg, hbw, hbm, _, _, h9⟩ := h
  have c0 := h1.cell 0
  have c1 := h1.cell 1
  have q1 := h2.frozenAt k
  have q2 := (h2.cellAt k (by omega)).trans (intCells_get who k (by omega))
  have HM := hid HSW.out.2.2.1
  have HB : Hid (Below base w (w.setCell ⟨gw, k, none⟩ (.int .i64 (-1)))) := (Below.refl base w).setCell hbw _
  have hne := HSW.out.2.2.2.2.2.2.1
  simp only [List.getElem?_toArray] at c0 c1
  clear h1 h2 h3 hat
  go_wp2_with (at_delete; refine wpList_delete_own _ rfl _ _ 140 3 rfl 3 Try.keyInt Try.underlying140 _ gm n D rfl HM.out _ _ rfl (keyOf_int_mk Try.underlying3 hw) ?_)
  intro w2 hm2 ht2
  have HS2 := hid (HSW.out.turned ht2.grown hm2)
  have hb2 : Below base w w2 := HB.out.grown ht2.grown (Nat.le_trans hbm (Nat.le_of_lt HM.out.lt)) (fun k hk => by cases hk; exact hbm)
  go_wp2_with fail
  go_ret
  exact ⟨rfl, HS2.out, hb2⟩
end Go.Proofs.Ytdhoedohchbagaa
