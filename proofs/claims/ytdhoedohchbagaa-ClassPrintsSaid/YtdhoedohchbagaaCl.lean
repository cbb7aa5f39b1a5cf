/- Walks: the reference's Not. -/
import Derived.Test.YtdhoedohchbagaaCk
namespace Go.Proofs.Ytdhoedohchbagaa
open Go.RowKit PopT

/-- The flags, of which the first k are already the new ones. -/
def updFl (F G : Nat → Bool) (k : Nat) : List Bool := (List.range 256).map fun c => if c < k then G c else F c
theorem updFl_length (F G : Nat → Bool) (k : Nat) : (updFl F G k).length = 256 := by rw [updFl, List.length_map, List.length_range]
theorem updFl_get (F G : Nat → Bool) (k c : Nat) (h : c < 256) : (updFl F G k)[c]? = some (if c < k then G c else F c) := by
  rw [updFl, List.getElem?_map, List.getElem?_range h]; rfl
theorem updFl_set (F G : Nat → Bool) (k : Nat) (v : Bool) (hv : v = G k) (h : k < 256) : (updFl F G k).set k v = updFl F G (k + 1) := by
  subst hv
  refine List.ext_getElem? fun c => ?_
  by_cases hc : c < 256
  · rw [List.getElem?_set, updFl_length, updFl_get _ _ _ _ hc, updFl_get _ _ _ _ hc]
    split
    · subst c; rw [if_pos (by omega)]
    · congr 1
      by_cases hk : c < k
      · rw [if_pos hk, if_pos (by omega)]
      · rw [if_neg hk, if_neg (by omega)]
  · rw [List.getElem?_eq_none (by rw [List.length_set, updFl_length]; omega), List.getElem?_eq_none (by rw [updFl_length]; omega)]
theorem updFl_zero (x : BSet) (G : Nat → Bool) : updFl x.has G 0 = flagsM x := by
  unfold updFl flagsM
  exact List.map_congr_left fun c _ => if_neg (by omega)
theorem make_updFl (F G : Nat → Bool) (y : BSet) (h : ∀ c, c < 256 → y.has c = G c) : makeM (updFl F G 256) = y :=
  BSet.ext_has fun c hc => by rw [has_makeM _ _ hc, List.getD, updFl_get _ _ _ _ hc, if_pos hc, h c hc]; rfl

set_option maxRecDepth 20000 in
set_option maxHeartbeats 1000000 in
theorem notR_any (x : BSet) (w : World) :
    Calls Try.prog 40 #[x.val] w fun e w' => e = .returned (notM x).val ∧ Below w.heap.size w w' := by
  have HM := hid (make_updFl x.has (fun c => !x.has c) (notM x) (fun c hc => has_notM x c hc))
  have HF0 := hid (updFl_zero x (fun c => !x.has c))
  have HFL := hid (fun W => flags_any x W)
  obtain ⟨t, ht⟩ : ∃ t, notM x = t := ⟨_, rfl⟩
  rw [ht] at HM ⊢
  obtain ⟨r0, r1, r2, r3⟩ := t
  unfold BSet.val at HFL ⊢
  clear ht
  go_enter Try.func40, Try.ntmps40
  go_wp2_with fail
  refine (HFL.out _).mono ?_
  rintro e w1 ⟨A1, c1, rfl, hown, hbl⟩
  simp only [World.size_alloc] at hown hbl
  have HZ1 := hid ((Blk.new (w.alloc (.cells #[w64 x.w0, w64 x.w1, w64 x.w2, w64 x.w3] 51)) 51 #[.int .u64 0, .int .u64 0, .int .u64 0, .int .u64 0]).below hbl (by simp))
  have HB1 := hid ((((Below.refl w.heap.size w).alloc (Nat.le_refl _) (.cells #[w64 x.w0, w64 x.w1, w64 x.w2, w64 x.w3] 51)).alloc (by simp) (.cells #[.int .u64 0, .int .u64 0, .int .u64 0, .int .u64 0] 51)).trans (hbl.mono (by omega)))
  have hsz1 := hbl.size
  simp only [World.size_alloc] at hsz1
  rw [World.size_alloc] at HZ1
  obtain ⟨g, cap, hA1, hgb⟩ : ∃ g cap, Value.slice A1 256 c1 = .slice (some ⟨g, 0, none⟩) 256 cap ∧ w.heap.size + 2 ≤ g := by
    rcases hown.2 with ⟨_, h0⟩ | ⟨g, cap, cur, hv, hbg, _⟩
    · exact absurd h0 (by omega)
    · exact ⟨g, cap, hv, by omega⟩
  injection hA1 with hA1 _ hc1
  subst hA1 hc1
  rw [← HF0.out] at hown
  have HO1 := hid hown
  clear hown hbl
  go_wp2_with fail
  go_loopw [4] (fun i wr => ∃ (k : Nat), k ≤ 256 ∧ i = .int .i64 (k : Int) ∧ wr.ownsRow (w.heap.size + 2) 4 1 (.slice (some ⟨g, 0, none⟩) 256 c1) 256 (boolCells (updFl x.has (fun c => !x.has c) k)) ∧
      Blk wr (w.heap.size + 1) 51 #[.int .u64 0, .int .u64 0, .int .u64 0, .int .u64 0] ∧ Below w.heap.size w wr ∧ w.heap.size + 2 ≤ wr.heap.size) (fun i _ => 256 - (intOf i).toNat)
  case atStart => exact ⟨0, by omega, rfl, HO1.out, HZ1.out, HB1.out, by omega⟩
  case round =>
    obtain ⟨k, hk, rfl, hown2, hz2, hb2, hsz2⟩ := hrel
    have HZ2 := hid hz2
    have HB2 := hid hb2
    clear hz2 hb2
    by_cases hlt : k < 256
    · have hcl : wr.cell? ⟨g, k, none⟩ = some (.bool (x.has k)) := by
        rw [hown2.cellAt _ (by omega), boolCells, List.getElem?_map, updFl_get _ _ _ _ hlt, if_neg (by omega)]; rfl
      have hfr := hown2.frozenAt k
      have HST := hid (hown2.stored k (.bool (!x.has k)))
      clear hown2
      go_wp2_with fail
      go_roundw
      case rel =>
        refine ⟨k + 1, by omega, by go_num, ?_, HZ2.out.set_far (by omega), HB2.out.setCell (by simp; omega) _, by simpa using hsz2⟩
        rw [← updFl_set _ _ _ _ rfl hlt, ← boolCells_set]; exact HST.out.1
      case measure => simp [intOf]; omega
    · obtain rfl : k = 256 := by omega
      have HOWN := hid hown2
      clear hown2
      go_wp2_with fail
      refine (make_any _ c1 (updFl x.has (fun c => !x.has c) 256) _ (updFl_length _ _ _) (Rd_of_own HOWN.out)).mono ?_
      rintro e w3 ⟨rfl, hb3⟩
      have HZ3 := hid (HZ2.out.below hb3 HZ2.out.lt)
      have HB3 : Hid (Below w.heap.size w w3) := HB2.out.trans (hb3.mono (by omega))
      rw [HM.out]
      unfold BSet.val
      obtain ⟨d0, d1, d2, d3, g0, g1, g2, g3⟩ := blk4 HZ3.out
      have HP := hid (blk_put4 (b0 := w64 r0) (b1 := w64 r1) (b2 := w64 r2) (b3 := w64 r3) HZ3.out)
      obtain ⟨e0, e1, e2, e3, -, -, -, -⟩ := blk4 HP.out
      have HR := hid (below_put4 (g := w.heap.size + 1) HB3.out (by omega) (w64 r0) (w64 r1) (w64 r2) (w64 r3))
      clear hb3
      go_wp2_with fail
      exact bodyPost_ret (v := .agg #[w64 r0, w64 r1, w64 r2, w64 r3]) (by simp [results, Try.results40, go_sem, e0, e1, e2, e3]) rfl ⟨rfl, HR.out⟩
end Go.Proofs.Ytdhoedohchbagaa
