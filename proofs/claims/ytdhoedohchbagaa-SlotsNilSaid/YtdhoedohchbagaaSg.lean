/- Walks: package slots: Open of the next one. -/
import Derived.Test.YtdhoedohchbagaaSf
namespace Go.Proofs.Ytdhoedohchbagaa
open Go.RowKit Go.Maps

set_option maxRecDepth 20000 in
set_option maxHeartbeats 800000 in
theorem openOk_any (g gw gm base m : Nat) (who : List Int) (next n k : Nat) (D : DataW Unit) (w : World) (h : SlP w g gw gm base m who next n D) (hn : next < 4096) (hs : Maps.size D ≠ m) (hm : m ≤ 1024) (hnn : n ≤ 100000) (hk : idxI (-1) who = some k) (hkm : k < m) :
    Calls Try.prog 51 #[.pointer (some ⟨g, 0, none⟩)] w fun e w' => e = .returned (.tuple #[.int .i64 (next : Int), .int .i64 (k : Int), .bool true]) ∧
      SlP w' g gw gm base m (who.set k (next : Int)) (next + 1) (n + 1) (D.put (.int .i64 (next : Int)) (.lit (.int .i64 (k : Int)))) ∧ Below base w w' := by
  have HH := hid h
  have hwl := h.len
  obtain ⟨hb, ho, hmp, hbg, hbw, hbm, hne1, hne2, hne3⟩ := h
  have c0 := hb.cell 0
  have c1 := hb.cell 1
  have c2 := hb.cell 2
  simp only [List.getElem?_toArray] at c0 c1 c2
  have hlen : ∀ q ty, (Builtin.len_ #[140] ty #[.map (some gm)]).run Try.prog (w.drewN q) = .ok (.int .i64 (Maps.size D)) (w.drewN q) := fun q ty => World.ownsMap.len (w := w.drewN q) hmp Try.underlying140 ty
  have hd : decide ((4096 : Int) ≤ (next : Int)) = false := by simp; omega
  have hszne : ((Maps.size D : Int) == (m : Int)) = false := by simp; omega
  go_enter Try.func51, Try.ntmps51
  go_wp2_with fail
  go_quiet (fail)
  have HI : Hid (Rd (w.drewN nq) (some ⟨gw, 0, none⟩) (intCells who)) := Rd_of_own ho
  have HK := hid hk
  have HW := hid hwl
  have HHn : Hid (SlP (w.drewN nq) g gw gm base m who next n D) := HH.out
  have f2 := hb.frozen 2
  have q1 := ho.frozenAt k
  have q2 := (ho.cellAt k (by omega)).trans (intCells_get who k (by omega))
  clear hb ho hmp hlen hk
  go_wp2_with fail
  refine (indexI_any _ m m who (-1) _ HW.out (by omega) HI.out).mono ?_
  rw [HK.out]
  rintro e w1 ⟨rfl, rfl⟩
  simp only [optI]
  have HS2 := hid (HHn.out.setNext (next + 1))
  have HS3 := hid (HS2.out.setWho k (next : Int))
  have HM := hid HS3.out.2.2.1
  go_wp2_with (at_mapUpdate; refine wpList_mapUpdate_own _ rfl _ _ _ 140 rfl 3 3 Try.keyInt Try.underlying140 _ gm n D rfl HM.out (by unfold maxLen; omega) _ _ _ rfl rfl (keyOf_int_mk Try.underlying3 (WalkArith.wf_i64 (by omega))) _ [] (plainElem_int Try.underlying3 (WalkArith.wf_i64 (by omega))) ?_)
  intro w5 hm5 hg5
  have HS5 := hid (HS3.out.turned hg5 hm5)
  have HB : Hid (Below base w (((w.drewN nq).setCell ⟨g, 2, none⟩ (.int .i64 ((next + 1 : Nat) : Int))).setCell ⟨gw, k, none⟩ (.int .i64 (next : Int)))) :=
    ((show Below base w (w.drewN nq) from ⟨rfl, rfl, rfl, Nat.le_refl _, fun _ _ => rfl⟩).setCell hbg _).setCell hbw _
  have hb5 : Below base w w5 := HB.out.grown hg5 (Nat.le_trans hbm (Nat.le_of_lt HM.out.lt)) (fun k hk => by cases hk; exact hbm)
  go_wp2_with fail
  go_ret3
  exact ⟨rfl, HS5.out, hb5⟩
end Go.Proofs.Ytdhoedohchbagaa
