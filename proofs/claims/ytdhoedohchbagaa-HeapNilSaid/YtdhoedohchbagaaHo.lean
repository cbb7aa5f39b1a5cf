/- Walks: package heap: Set in one contract, New, Due. -/
import Derived.Test.YtdhoedohchbagaaHn
namespace Go.Proofs.Ytdhoedohchbagaa
open Go.RowKit

theorem neverB (t : Int) : (t == 9223372036854775807) = decide (t = neverT) := by unfold neverT; rw [Bool.eq_iff_iff]; simp
theorem setH_any (g gw m : Nat) (v : Value) (l : List Ent) (k : Nat) (at_ : Int) (w : World) (h : HpI w g gw m v l) (hk : k < m) :
    Calls Try.prog 20 #[.pointer (some ⟨g, 0, none⟩), .int .i64 (k : Int), .int .i64 at_] w fun en w' => en = .returned (.bool true) ∧ HpPost g gw m v (setE l k at_) w w' := by
  have hc : hasE l k = false → cutE l k = l := fun hno => cutE_none (fun e he e2 => by
    simp only [hasE, List.any_eq_false, beq_iff_eq] at hno
    exact hno e he e2)
  by_cases ha : at_ = neverT
  · have hat : (at_ == 9223372036854775807) = true := by rw [neverB]; simp [ha]
    unfold setE; rw [if_pos ha]
    cases hh : hasE l k
    · rw [hc hh]
      exact (set_none g gw m v l k w h hk hh at_ hat).mono (fun _ _ ⟨h1, h2⟩ => ⟨h1, h.post h2⟩)
    · exact set_gone g gw m v l k w h hk hh at_ hat
  · have hat : (at_ == 9223372036854775807) = false := by rw [neverB]; simp [ha]
    unfold setE; rw [if_neg ha]
    cases hh : hasE l k
    · rw [hc hh]; exact set_new g gw m v l k w h hk hh at_ hat
    · exact set_old g gw m v l k w h hk hh at_ hat

theorem intCells_set2 (l : List Int) (i : Nat) (v : Int) : (intCells l).set i (.int .i64 v) = intCells (l.set i v) := by simp [intCells, List.map_set]
def clampM (most : Int) : Nat := (max (min (max most 1) 1024) 0).toNat
set_option maxRecDepth 20000 in
set_option maxHeartbeats 400000 in
theorem hNew_any (m : Nat) (h1 : 1 ≤ m) (h2 : m ≤ 1024) (w : World) :
    Calls Try.prog 19 #[.int .i64 (m : Int)] w fun e w' => ∃ g gw, e = .returned (.pointer (some ⟨g, 0, none⟩)) ∧ HpI w' g gw m (.slice none 0 0) [] ∧ Below w.heap.size w w' ∧ w.heap.size ≤ g ∧ w.heap.size ≤ gw := by
  go_enter Try.func19, Try.ntmps19
  go_wp2_with (at_make; refine wpList_make1 _ rfl _ _ 77 rfl w.heap.size 3 _ 8 Try.underlying77 Try.infoInt rfl .i64 .i64 _ _ m rfl rfl (by omega) (by omega) (by omega) (by omega) (Nat.le_refl _) ?_)
  intro w1 hown1 hg1
  have hsz1 := hg1.size
  have hwl := hown1.lt w.heap.size rfl
  have HB1 := hid ((Below.refl w.heap.size w).grown hg1 (Nat.le_refl _) (by simp))
  have HR1 : Hid (HpR (w1.alloc (.cells #[.slice none 0 0, .slice (some ⟨w.heap.size, 0, none⟩) m m] 118)) w1.heap.size w.heap.size m (.slice none 0 0) 0 [] (List.replicate 0 (-1) ++ List.replicate (m - 0) 0)) := by
    refine ⟨Blk.new w1 _ _, World.ownsRow_nil _ _ _ _, ?_⟩
    have := (own_base hown1 (Nat.zero_le _)).alloc (.cells #[.slice none 0 0, .slice (some ⟨w.heap.size, 0, none⟩) m m] 118)
    simpa [intCells] using this
  have HB2 : Hid (Below w.heap.size w (w1.alloc (.cells #[.slice none 0 0, .slice (some ⟨w.heap.size, 0, none⟩) m m] 118))) := HB1.out.alloc hsz1 _
  clear hown1 hg1
  go_wp2_with fail
  go_loopw [16] (fun i wr => ∃ (k : Nat), k ≤ m ∧ i = .int .i64 k ∧ HpR wr w1.heap.size w.heap.size m (.slice none 0 0) 0 [] (List.replicate k (-1) ++ List.replicate (m - k) 0) ∧ Below w.heap.size w wr) (fun i _ => m - (intOf i).toNat)
  case atStart => exact ⟨0, by omega, rfl, HR1.out, HB2.out⟩
  case round =>
    obtain ⟨k, hk, rfl, hr, hb⟩ := hrel
    have HB := hid hb
    obtain ⟨f0, f1, f2⟩ := hr.fields
    have hlt0 := hr.blk.lt
    by_cases hlt : k < m
    · have HS := hid (hr.setWh k (-1))
      have HE : Hid ((List.replicate k (-1) ++ List.replicate (m - k) 0 : List Int).set k (-1) = List.replicate (k + 1) (-1) ++ List.replicate (m - (k + 1)) 0) := by
        rw [Hid, List.set_append_right _ _ (by simp), List.length_replicate, Nat.sub_self, show m - k = (m - (k + 1)) + 1 from by omega, List.replicate_succ, List.set_cons_zero, List.replicate_succ']
        simp
      obtain ⟨q1, q2⟩ := hr.cell_wh hlt
      clear hr hb HR1 HB2
      go_wp2_with fail
      go_roundw
      case rel => exact ⟨k + 1, by omega, by go_num, by rw [← HE.out]; exact HS.out, HB.out.setCell (Nat.le_refl _) _⟩
      case measure => simp [intOf]; omega
    · have hkm : k = m := by omega
      subst hkm
      rw [Nat.sub_self, List.replicate_zero, List.append_nil] at hr
      have HI : Hid (HpI wr w1.heap.size w.heap.size k (.slice none 0 0) []) := ⟨0, [], _, hr, heapIs_new k, rfl, by omega, by omega⟩
      clear hr HR1 HB2 hb
      go_wp2_with fail
      go_ret
      exact ⟨_, _, rfl, HI.out, HB.out, by omega, Nat.le_refl _⟩
end Go.Proofs.Ytdhoedohchbagaa
