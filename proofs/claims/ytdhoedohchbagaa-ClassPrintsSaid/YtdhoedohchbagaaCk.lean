/- Walks: the reference's Span. -/
import Derived.Test.YtdhoedohchbagaaCj
import Derived.Test.YtdhoedohchbagaaWg
import Derived.Test.YtdhoedohchbagaaWi
namespace Go.Proofs.Ytdhoedohchbagaa
open Go.RowKit PopT

/-- The flags of some bytes from one on. -/
def spanFl (a : Nat) : Nat → List Bool
  | 0 => List.replicate 256 false
  | k + 1 => (spanFl a k).set (a + k) true
theorem spanFl_length (a k : Nat) : (spanFl a k).length = 256 := by
  induction k with
  | zero => exact List.length_replicate
  | succ k ih => rw [spanFl, List.length_set]; exact ih
theorem spanFl_get (a k c : Nat) (h : a + k ≤ 256) (hc : c < 256) : (spanFl a k).getD c false = decide (a ≤ c ∧ c < a + k) := by
  induction k with
  | zero => rw [spanFl, List.getD, List.getElem?_replicate, if_pos hc]; exact (decide_eq_false (by omega)).symm
  | succ k ih =>
    have ih := ih (by omega)
    rw [spanFl]
    rw [List.getD] at ih ⊢
    rw [List.getElem?_set]
    split
    · rw [if_pos (by rw [spanFl_length]; omega)]; simp; omega
    · rw [ih]; congr 1; exact propext ⟨fun _ => by omega, fun _ => by omega⟩
theorem make_spanFl (a k : Nat) (h : a + k ≤ 256) : makeM (spanFl a k) = spanTo a k :=
  BSet.ext_has fun c hc => by rw [has_makeM _ _ hc, spanFl_get a k c h hc, has_spanTo a k c h hc]

set_option maxRecDepth 20000 in
set_option maxHeartbeats 1000000 in
theorem spanR_any (a b : Nat) (ha : a < 256) (hb : b < 256) (w : World) :
    Calls Try.prog 38 #[.int .i64 (a : Int), .int .i64 (b : Int)] w fun e w' => e = .returned (spanTo a (b + 1 - a)).val ∧ Below w.heap.size w w' := by
  have HM := hid (make_spanFl a (b + 1 - a) (by omega))
  obtain ⟨t, ht⟩ : ∃ t, spanTo a (b + 1 - a) = t := ⟨_, rfl⟩
  rw [ht] at HM ⊢
  obtain ⟨r0, r1, r2, r3⟩ := t
  unfold BSet.val
  clear ht
  go_enter Try.func38, Try.ntmps38
  go_wp2_with fail
  refine (none_any _).mono ?_
  rintro e w1 ⟨A1, c1, rfl, hown, hbl⟩
  simp only [World.size_alloc] at hown hbl
  have hz1 := (Blk.new w 51 #[.int .u64 0, .int .u64 0, .int .u64 0, .int .u64 0]).below hbl (by simp)
  have hb1 := ((Below.refl w.heap.size w).alloc (Nat.le_refl _) (.cells #[.int .u64 0, .int .u64 0, .int .u64 0, .int .u64 0] 51)).trans (hbl.mono (by simp))
  have hsz1 := hbl.size
  simp only [World.size_alloc] at hsz1
  have HZ1 := hid hz1
  obtain ⟨g, cap, hA1, hgb⟩ : ∃ g cap, Value.slice A1 256 c1 = .slice (some ⟨g, 0, none⟩) 256 cap ∧ w.heap.size + 1 ≤ g := by
    rcases hown.2 with ⟨_, h0⟩ | ⟨g, cap, cur, hv, hbg, _⟩
    · exact absurd h0 (by omega)
    · exact ⟨g, cap, hv, hbg⟩
  injection hA1 with hA1 _ hc1
  subst hA1 hc1
  clear hbl hz1
  have HO1 := hid hown
  have HB1 := hid hb1
  clear hown hb1
  go_wp2_with fail
  go_loopw [6] (fun i wr => ∃ (k : Nat), (k = 0 ∨ a + k ≤ b + 1) ∧ i = .int .i64 ((a + k : Nat) : Int) ∧ wr.ownsRow (w.heap.size + 1) 4 1 (.slice (some ⟨g, 0, none⟩) 256 c1) 256 (boolCells (spanFl a k)) ∧
      Blk wr w.heap.size 51 #[.int .u64 0, .int .u64 0, .int .u64 0, .int .u64 0] ∧ Below w.heap.size w wr ∧ w.heap.size + 1 ≤ wr.heap.size) (fun i _ => b + 1 - (intOf i).toNat)
  case atStart => exact ⟨0, .inl rfl, rfl, by simpa [spanFl, boolCells] using HO1.out, HZ1.out, HB1.out, hsz1⟩
  case round =>
    obtain ⟨k, hk, rfl, hown2, hz2, hb2, hsz2⟩ := hrel
    have HZ2 := hid hz2
    have HB2 := hid hb2
    clear hz2 hb2
    have hol := spanFl_length a k
    by_cases hlt : a + k ≤ b
    · have hcl : wr.cell? ⟨g, a + k, none⟩ = some (.bool ((spanFl a k).getD (a + k) false)) := by
        rw [hown2.cellAt _ (by omega), boolCells_get _ _ (by omega)]
        have hby : a + k < 256 := by omega
        simp [List.getD, hol, hby]
      have hfr := hown2.frozenAt (a + k)
      have HST := hid (hown2.stored (a + k) (.bool true))
      obtain ⟨i, hi⟩ : ∃ i, a + k = i := ⟨_, rfl⟩
      rw [hi] at hcl hfr HST hlt ⊢
      have HI := hid hi
      clear hown2 hol hi
      go_wp2_with fail
      go_roundw
      case rel =>
        refine ⟨k + 1, .inr (by have := HI.out; omega), by have := HI.out; go_num, ?_, HZ2.out.set_far (by omega), HB2.out.setCell (by simp; omega) _, by simpa using hsz2⟩
        rw [spanFl, HI.out, ← boolCells_set]; exact HST.out.1
      case measure => simp [intOf]; omega
    · have hkk : boolCells (spanFl a k) = boolCells (spanFl a (b + 1 - a)) := by
        rcases hk with rfl | hk
        · rw [show b + 1 - a = 0 by omega]
        · rw [show b + 1 - a = k by omega]
      rw [hkk] at hown2
      have HOWN := hid hown2
      clear hkk hown2
      go_wp2_with fail
      refine (make_any _ c1 (spanFl a (b + 1 - a)) _ (spanFl_length _ _) (Rd_of_own HOWN.out)).mono ?_
      rintro e w3 ⟨rfl, hb3⟩
      have HZ3 := hid (HZ2.out.below hb3 HZ2.out.lt)
      have HB3 : Hid (Below w.heap.size w w3) := HB2.out.trans (hb3.mono (by omega))
      rw [HM.out]
      unfold BSet.val
      obtain ⟨d0, d1, d2, d3, g0, g1, g2, g3⟩ := blk4 HZ3.out
      have HP := hid (blk_put4 (b0 := w64 r0) (b1 := w64 r1) (b2 := w64 r2) (b3 := w64 r3) HZ3.out)
      obtain ⟨e0, e1, e2, e3, -, -, -, -⟩ := blk4 HP.out
      have HR := hid (below_put4 (g := w.heap.size) HB3.out (Nat.le_refl _) (w64 r0) (w64 r1) (w64 r2) (w64 r3))
      clear hb3
      go_wp2_with fail
      exact bodyPost_ret (v := .agg #[w64 r0, w64 r1, w64 r2, w64 r3]) (by simp [results, Try.results38, go_sem, e0, e1, e2, e3]) rfl ⟨rfl, HR.out⟩
end Go.Proofs.Ytdhoedohchbagaa
