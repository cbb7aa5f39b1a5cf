/- Walks. -/
import Derived.Test.YtpkkfdmhbbipoaaTyp
import Derived.Test.YtpkkfdmhbbipoaaMod
import Derived.Deep.RegionHeld3
namespace Go.Proofs.Ytpkkfdmhbbipoaa
open Go.RowKit


theorem cut_any (s : ByteArray) (m : Nat) (w : World) (_hs : s.size ≤ 9223372036854775807) (_hm : m ≤ 1000000) :
    Calls Try.prog 19 #[.string s, .int .i64 m] w fun e w' => e = .returned (.string (if m < s.size then s.extract 0 m else s)) ∧ w = w' := by
  by_cases h : m < s.size
  · go_enter Try.func19, Try.ntmps19
    go_wp2
    go_ret
    exact ⟨rfl, rfl⟩
  · go_enter Try.func19, Try.ntmps19
    go_wp2
    go_ret
    exact ⟨rfl, rfl⟩

set_option maxHeartbeats 400000 in
theorem has_any (s : BSet) (b : Nat) (hb : b < 256) (w : World) :
    Calls Try.prog 104 #[s.val, .int .u8 (b : Int)] w fun e w' => e = .returned (.bool (s.has b)) ∧ Below w.heap.size w w' := by
  have hcell : (w.alloc (.cells #[w64 s.w0, w64 s.w1, w64 s.w2, w64 s.w3] 156)).cell? ⟨w.heap.size, b / 64, none⟩ = some (.int .u64 ((s.word (b / 64)).toNat : Int)) := by
    rw [cell_of_row _ w.heap.size (b / 64) _ _ (0, 0) (heap_alloc_new w _)]
    have h4 : b / 64 < 4 := by omega
    generalize b / 64 = k at h4
    match k, h4 with
    | 0, _ => rfl
    | 1, _ => rfl
    | 2, _ => rfl
    | 3, _ => rfl
  have hw := (s.word (b / 64)).isLt
  unfold BSet.val BSet.has
  generalize s.word (b / 64) = x at *
  go_enter Try.func104, Try.ntmps104
  go_wp2
  go_ret
  exact ⟨by rw [← bit_of]; rfl, (Below.refl _ _).alloc (Nat.le_refl _) _⟩

set_option maxHeartbeats 400000 in
theorem hasC_any (s : BSet) (b : Nat) (hb : b < 256) (w : World) :
    Calls Try.prog 90 #[s.val, .int .u8 (b : Int)] w fun e w' => e = .returned (.bool (s.has b)) ∧ Below w.heap.size w w' := by
  unfold BSet.val
  go_enter Try.func90, Try.ntmps90
  go_wp2_with (go_at_call 104; refine (has_any s b hb _).mono ?_; rintro e w1 ⟨rfl, hb1⟩)
  go_ret
  exact ⟨rfl, ((Below.refl _ _).alloc (Nat.le_refl _) _).trans (hb1.mono (by simp))⟩

theorem Below.get {w w' : World} (h : Below w.heap.size w w') {b off : Nat} (hb : b < w.heap.size) : w'.cell? ⟨b, off, none⟩ = w.cell? ⟨b, off, none⟩ := h.cell (p := ⟨b, off, none⟩) hb

end Go.Proofs.Ytpkkfdmhbbipoaa
