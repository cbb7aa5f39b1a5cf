/- Walks. -/
import Derived.Test.YtmcacdegikgmnaaRows
import Derived.Test.YtmcacdegikgmnaaBase
namespace Go.Proofs.Ytmcacdegikgmnaa
open Go.RowKit

theorem Try.infoItem : (Try.prog.info? 42).map (fun i => (i.zero, i.size, i.bytes)) = some (some (.agg #[.bool false, .int .u64 0, .int .u64 0, .int .u64 0, .int .u64 0]), 5, 40) := by kernel_rfl

set_option maxHeartbeats 400000 in
theorem few_any (A : Option Addr) (n c : Nat) (l : List Item) (m : Nat) (w : World) (hl : l.length = n) (hn : n ≤ 9223372036854775807) (hr : Rd w A (itemCells l)) (hm : m ≤ 1000) :
    Calls Try.prog 12 #[.slice A n c, .int .i64 m] w fun e w' => ∃ g c', e = .returned (.slice (some ⟨g, 0, none⟩) (min m n) c') ∧
      w'.ownsRow w.heap.size 42 5 (.slice (some ⟨g, 0, none⟩) (min m n) c') (min m n) (itemCells (l.take m)) ∧ Below w.heap.size w w' := by
  have HL := hid hl; clear hl
  go_enter Try.func12, Try.ntmps12
  go_wp2
  go_loopw [5, 6] (fun v i wr => ∃ (k g c' : Nat), k ≤ n ∧ k ≤ m ∧ i = .int .i64 k ∧ v = .slice (some ⟨g, 0, none⟩) k c' ∧ wr.ownsRow w.heap.size 42 5 (.slice (some ⟨g, 0, none⟩) k c') k (itemCells (l.take k)) ∧ Below w.heap.size w wr) (fun _ i _ => n - (intOf i).toNat)
  case atStart => exact ⟨0, _, _, by omega, by omega, rfl, rfl, World.ownsRow_made _ _ _ (Nat.le_refl _) (by simp [maxLen]) (by simp), (Below.refl _ _).alloc (Nat.le_refl _) _⟩
  case round =>
    obtain ⟨k, A', c', hk, hkm, rfl, rfl, hown, hb⟩ := hrel
    have hsz := hb.size
    by_cases hlt : k < n ∧ k < m
    · obtain ⟨h1, h2⟩ := hlt
      obtain ⟨b, off, rfl, hbl, hc⟩ := (hr.below hb).at (by rw [itemCells_length, HL.out]; omega)
      have HK : Hid (k < l.length) := by rw [HL.out]; exact h1
      obtain ⟨c0, c1, c2, c3, c4⟩ := item_at hc k HK.out
      clear hc hr
      have HS : Hid (itemCells (l.take (k + 1)) = itemCells (l.take k) ++ (l[k]'HK.out).cells) := by
        unfold Hid
        rw [List.take_succ_eq_append_getElem HK.out, itemCells_append]; simp [itemCells]
      go_wp2_with (at_builtin; refine wpList_append1g _ rfl _ _ 22 rfl w.heap.size 42 _ 5 40 Try.underlying22 Try.infoItem rfl (by decide) _ _ _ rfl hown 1 (Item.cells (l[k]'HK.out)) rfl rfl rfl ?_ (by decide) hsz ?_)
      · omega
      intro A2 d2 w1 hown1 hg1
      have hb1 := below_grown hb hown hg1 (Nat.le_refl _) hsz
      clear hown hb c0 c1 c2 c3 c4 hg1
      go_wp2
      go_roundw
      case rel => exact ⟨k + 1, A2, d2, by omega, by omega, by go_num, rfl, by rw [HS.out]; exact hown1, hb1⟩
      case measure => simp [intOf]; omega
    · go_wp2
      all_goals
        go_ret
        have hkk : min m n = k := by omega
        have e : l.take m = l.take k := by rw [List.take_eq_take_iff, HL.out]; omega
        rw [hkk, e]
        exact ⟨A', c', rfl, hown, hb⟩

/-- The same where nothing is cut. -/
theorem few_all (A : Option Addr) (n c : Nat) (l : List Item) (m : Nat) (w : World) (hl : l.length = n) (hn : n ≤ m) (hr : Rd w A (itemCells l)) (hm : m ≤ 1000) :
    Calls Try.prog 12 #[.slice A n c, .int .i64 m] w fun e w' => ∃ g c', e = .returned (.slice (some ⟨g, 0, none⟩) n c') ∧
      w'.ownsRow w.heap.size 42 5 (.slice (some ⟨g, 0, none⟩) n c') n (itemCells l) ∧ Below w.heap.size w w' := by
  have h := few_any A n c l m w hl (by omega) hr hm
  rw [show min m n = n from by omega, show l.take m = l from List.take_of_length_le (by omega)] at h
  exact h
end Go.Proofs.Ytmcacdegikgmnaa
