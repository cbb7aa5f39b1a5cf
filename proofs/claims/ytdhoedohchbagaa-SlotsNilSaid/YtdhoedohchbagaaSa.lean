/- Walks: package slots: New, Skip, Next. -/
import Derived.Test.YtdhoedohchbagaaTyp
import Derived.Test.YtdhoedohchbagaaPlain
import Derived.Maps.OwnSet
namespace Go.Proofs.Ytdhoedohchbagaa
open Go.RowKit Go.Maps

/-- Slots in memory: a struct of three cells, its row, its map. -/
def SlP (w : World) (g gw gm base m : Nat) (who : List Int) (next n : Nat) (D : DataW Unit) : Prop :=
  Blk w g 142 #[.slice (some ⟨gw, 0, none⟩) m m, .map (some gm), .int .i64 (next : Int)] ∧ w.ownsRow base 3 1 (.slice (some ⟨gw, 0, none⟩) m m) m (intCells who) ∧
  w.ownsMap Try.prog 3 (plainElem Try.prog 3) gm n D ∧ base ≤ g ∧ base ≤ gw ∧ base ≤ gm ∧ g ≠ gw ∧ gm ≠ gw ∧ gm ≠ g

theorem intCells_set (l : List Int) (i : Nat) (v : Int) : (intCells l).set i (.int .i64 v) = intCells (l.set i v) := by simp [intCells, List.map_set]
theorem grown_set (w : World) (a : Addr) (u : Value) : w.grownBy (w.setCell a u) (some a.block) :=
  ⟨rfl, rfl, rfl, by simp, fun q _ hne => Below.heap_setCell w a u q (fun e => hne (by rw [e]))⟩
theorem SlP.setWho {w : World} {g gw gm base m : Nat} {who : List Int} {next n : Nat} {D : DataW Unit} (h : SlP w g gw gm base m who next n D) (k : Nat) (v : Int) :
    SlP (w.setCell ⟨gw, k, none⟩ (.int .i64 v)) g gw gm base m (who.set k v) next n D := by
  obtain ⟨h1, h2, h3, h4, h5, h6, h7, h8, h9⟩ := h
  have hs := (h2.stored k (.int .i64 v)).1
  rw [intCells_set] at hs
  exact ⟨h1.set_far h7, hs, h3.setCell h8 _, h4, h5, h6, h7, h8, h9⟩
theorem SlP.setNext {w : World} {g gw gm base m : Nat} {who : List Int} {next n : Nat} {D : DataW Unit} (h : SlP w g gw gm base m who next n D) (next' : Nat) :
    SlP (w.setCell ⟨g, 2, none⟩ (.int .i64 (next' : Int))) g gw gm base m who next' n D := by
  obtain ⟨h1, h2, h3, h4, h5, h6, h7, h8, h9⟩ := h
  refine ⟨h1.set 2 _, ?_, h3.setCell h9 _, h4, h5, h6, h7, h8, h9⟩
  exact h2.kept (row := some g) (grown_set w ⟨g, 2, none⟩ _) (by simp [Value.ownBlock]; exact Ne.symm h7)
theorem SlP.len {w : World} {g gw gm base m : Nat} {who : List Int} {next n : Nat} {D : DataW Unit} (h : SlP w g gw gm base m who next n D) : who.length = m := by
  have := h.2.1.1; rwa [intCells_length, Nat.mul_one] at this

set_option maxHeartbeats 400000 in
theorem next_any (g gw gm base m : Nat) (who : List Int) (next n : Nat) (D : DataW Unit) (w : World) (h : SlP w g gw gm base m who next n D) :
    Calls Try.prog 64 #[.pointer (some ⟨g, 0, none⟩)] w fun e w' => e = .returned (.int .i64 (next : Int)) ∧ w = w' := by
  obtain ⟨hb, _⟩ := h
  have c2 := hb.cell 2
  simp only [List.getElem?_toArray] at c2
  go_enter Try.func64, Try.ntmps64
  go_wp2
  go_ret
  exact ⟨rfl, rfl⟩

set_option maxHeartbeats 400000 in
theorem new_any (most : Nat) (h1 : 1 ≤ most) (h2 : most ≤ 1024) (w : World) :
    Calls Try.prog 49 #[.int .i64 (most : Int)] w fun e w' => ∃ g gw gm, e = .returned (.pointer (some ⟨g, 0, none⟩)) ∧ SlP w' g gw gm w.heap.size most (List.replicate most (-1)) 0 0 (.map []) ∧ Below w.heap.size w w' := by
  have hmm := @run_makeMap Try.prog
  go_enter Try.func49, Try.ntmps49
  go_wp2_with (at_make; refine wpList_make1 _ rfl _ _ 77 rfl w.heap.size 3 _ 8 Try.underlying77 Try.infoInt rfl .i64 .i64 _ _ most rfl rfl (by omega) (by omega) (by omega) (by omega) (Nat.le_refl _) ?_)
  intro w1 hown1 hg1
  have hsz1 := hg1.size
  have hwl := hown1.lt w.heap.size rfl
  have HB1 := hid ((Below.refl w.heap.size w).grown hg1 (Nat.le_refl _) (by simp))
  have HSL : Hid (SlP ((w1.alloc (.map #[] 0)).alloc (.cells #[.slice (some ⟨w.heap.size, 0, none⟩) most most, .map (some w1.heap.size), .int .i64 0] 142)) (w1.heap.size + 1) w.heap.size w1.heap.size w.heap.size most (List.replicate 0 (-1) ++ List.replicate (most - 0) 0) 0 0 (.map [])) := by
    refine ⟨?_, ?_, (World.ownsMap_made w1 _ _ _).alloc _, by omega, by omega, by omega, by omega, by omega, by omega⟩
    · have := Blk.new (w1.alloc (.map #[] 0)) 142 #[.slice (some ⟨w.heap.size, 0, none⟩) most most, .map (some w1.heap.size), .int .i64 0]
      rwa [World.size_alloc] at this
    · have := own_below hown1 (((Below.refl w1.heap.size w1).alloc (Nat.le_refl _) (.map #[] 0)).alloc (by simp) (.cells #[.slice (some ⟨w.heap.size, 0, none⟩) most most, .map (some w1.heap.size), .int .i64 0] 142))
      simpa [intCells] using this
  have HB2 : Hid (Below w.heap.size w ((w1.alloc (.map #[] 0)).alloc (.cells #[.slice (some ⟨w.heap.size, 0, none⟩) most most, .map (some w1.heap.size), .int .i64 0] 142))) := (HB1.out.alloc hsz1 _).alloc (by simp; omega) _
  clear hown1 hg1
  go_wp2_with fail
  go_loopw [17] (fun i wr => ∃ (k : Nat), k ≤ most ∧ i = .int .i64 k ∧ SlP wr (w1.heap.size + 1) w.heap.size w1.heap.size w.heap.size most (List.replicate k (-1) ++ List.replicate (most - k) 0) 0 0 (.map []) ∧ Below w.heap.size w wr) (fun i _ => most - (intOf i).toNat)
  case atStart => exact ⟨0, by omega, rfl, HSL.out, HB2.out⟩
  case round =>
    obtain ⟨k, hk, rfl, hsl, hb⟩ := hrel
    have HS := hid hsl
    have HB := hid hb
    by_cases hlt : k < most
    · have HSW := hid (hsl.setWho k (-1))
      have HE : Hid ((List.replicate k (-1) ++ List.replicate (most - k) 0 : List Int).set k (-1) = List.replicate (k + 1) (-1) ++ List.replicate (most - (k + 1)) 0) := by
        rw [Hid, List.set_append_right _ _ (by simp), List.length_replicate, Nat.sub_self, show most - k = (most - (k + 1)) + 1 from by omega, List.replicate_succ, List.set_cons_zero, List.replicate_succ']
        simp
      obtain ⟨h1, h2', _⟩ := hsl
      have c0 := h1.cell 0
      have c1 := h2'.frozenAt k
      have c2 := (h2'.cellAt k (by omega)).trans (intCells_get _ k (by simp; omega))
      clear h1 h2' hb HSL HB2
      go_wp2_with fail
      go_roundw
      case rel => exact ⟨k + 1, by omega, by go_num, by rw [← HE.out]; exact HSW.out, HB.out.setCell (Nat.le_refl _) _⟩
      case measure => simp [intOf]; omega
    · have hkm : k = most := by omega
      subst hkm
      rw [Nat.sub_self, List.replicate_zero, List.append_nil] at hsl
      have HS2 := hid hsl
      clear hsl HSL HB2
      go_wp2_with fail
      go_ret
      exact ⟨_, _, _, rfl, HS2.out, HB.out⟩

set_option maxRecDepth 20000 in
set_option maxHeartbeats 400000 in
theorem skip_any (g gw gm base m : Nat) (who : List Int) (next n : Nat) (D : DataW Unit) (w : World) (h : SlP w g gw gm base m who next n D) (hn : next < 4096) :
    Calls Try.prog 59 #[.pointer (some ⟨g, 0, none⟩)] w fun e w' => e = .returned (.int .i64 (next : Int)) ∧ SlP w' g gw gm base m who (next + 1) n D ∧ Below base w w' := by
  have HS := hid (h.setNext (next + 1))
  have hbg := h.2.2.2.1
  obtain ⟨hb, _⟩ := h
  have c2 := hb.cell 2
  have f2 := hb.frozen 2
  simp only [List.getElem?_toArray] at c2
  have HB : Hid (∀ u, Below base w (w.setCell ⟨g, 2, none⟩ u)) := fun u => (Below.refl base w).setCell hbg u
  clear hb
  go_enter Try.func59, Try.ntmps59
  go_wp2_with fail
  go_ret
  exact ⟨by first | rfl | (show Ending.returned (.int .i64 _) = _; congr 2; omega), HS.out, HB.out _⟩

set_option maxRecDepth 20000 in
set_option maxHeartbeats 400000 in
theorem skipEnd_any (g gw gm base m : Nat) (who : List Int) (n : Nat) (D : DataW Unit) (w : World) (h : SlP w g gw gm base m who 4096 n D) :
    Calls Try.prog 59 #[.pointer (some ⟨g, 0, none⟩)] w fun e w' => e = .returned (.int .i64 (-1)) ∧ w = w' := by
  obtain ⟨hb, _⟩ := h
  have c2 := hb.cell 2
  simp only [List.getElem?_toArray] at c2
  clear hb
  go_enter Try.func59, Try.ntmps59
  go_wp2_with fail
  go_ret
  exact ⟨rfl, rfl⟩
end Go.Proofs.Ytdhoedohchbagaa
