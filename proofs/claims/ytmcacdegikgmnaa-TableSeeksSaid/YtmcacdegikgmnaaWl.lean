/- Walks: where a pattern ends, starts, occurs first: the reference's, and what of package lang is left. -/
import Derived.Test.YtmcacdegikgmnaaWk
import Derived.Test.YtmcacdegikgmnaaWd
namespace Go.Proofs.Ytmcacdegikgmnaa
open Go.RowKit

/-- The starts of what ends at 'to'; none where 'to' is no place of the text. -/
def startsZ (l : List Item) (w : List UInt8) (to : Int) : List Nat := if 0 ≤ to ∧ to ≤ w.length then startsM l w to.toNat else []
/-- The ends. -/
def endsTo (l : List Item) (w : List UInt8) (k : Nat) : List Nat := (List.range k).filter fun i => (endsAll l w).getD i false
def endsL (l : List Item) (w : List UInt8) : List Nat := endsTo l w (w.length + 1)
theorem endsTo_succ (l : List Item) (w : List UInt8) (k : Nat) : endsTo l w (k + 1) = endsTo l w k ++ if (endsAll l w).getD k false then [k] else [] := by
  unfold endsTo; rw [List.range_succ, List.filter_append]; simp only [List.filter_cons, List.filter_nil]
theorem endsTo_length (l : List Item) (w : List UInt8) (k : Nat) : (endsTo l w k).length ≤ k := Nat.le_trans (List.length_filter_le _ _) (by simp)
theorem ends_starts (l : List Item) (w : List UInt8) (k : Nat) (h : k ≤ w.length) : (endsAll l w).getD k false = decide (0 < (startsM l w k).length) := by
  rw [Bool.eq_iff_iff, endsAll_spec l w k h, decide_eq_true_iff, List.length_pos_iff_exists_mem]
  constructor
  · rintro ⟨i, hi, hm⟩; exact ⟨i, (mem_startsM l w k i).2 ⟨hi, hm⟩⟩
  · rintro ⟨i, hi⟩; exact ⟨i, (mem_startsM l w k i).1 hi⟩
theorem first_none (l : List Item) (w : List UInt8) (h : ∀ j, j < w.length + 1 → (startsM l w j).length = 0) : firstM l w = (0, 0, false) := by
  have : idxB true (endsAll l w) = none := by
    cases hi : idxB true (endsAll l w) with
    | none => rfl
    | some to =>
      obtain ⟨h1, h2⟩ := starts_some l w to hi
      exact absurd (List.eq_nil_of_length_eq_zero (h to (by omega))) h2
  unfold firstM; rw [this]
theorem first_is (l : List Item) (w : List UInt8) (k : Nat) (hk : k ≤ w.length) (h : ∀ j, j < k → (startsM l w j).length = 0) (hs : 0 < (startsM l w k).length) : firstM l w = ((startsM l w k).headD 0, k, true) := by
  have : idxB true (endsAll l w) = some k := by
    rw [idxB_some]
    refine ⟨by rw [endsAll_length]; omega, ?_, fun j hj => ?_⟩
    · have := ends_starts l w k hk
      rw [decide_eq_true hs] at this
      exact this
    · have h1 := ends_starts l w j (by omega)
      have h2 := h j hj
      rw [h2] at h1
      have hjl : j < (endsAll l w).length := by rw [endsAll_length]; omega
      rw [List.getD, List.getElem?_eq_getElem hjl] at h1 ⊢
      simp at h1 ⊢; exact h1
  unfold firstM; rw [this]

set_option maxHeartbeats 800000 in
theorem startsRn_any (A : Option Addr) (n c : Nat) (l : List Item) (s : ByteArray) (to : Nat) (w : World) (hl : l.length = n) (hn : n ≤ 1000000) (hr : Rd w A (itemCells l)) (hs : s.size ≤ 1000000) (ht : to ≤ s.size) :
    Calls Try.prog 32 #[.slice A n c, .string s, .int .i64 (to : Int)] w fun e w' => ∃ A' c', e = .returned (.slice A' (startsM l s.data.toList to).length c') ∧
      w'.ownsRow w.heap.size 3 1 (.slice A' (startsM l s.data.toList to).length c') (startsM l s.data.toList to).length (intCells ((startsM l s.data.toList to).map Int.ofNat)) ∧ Below w.heap.size w w' := by
  have HL := hid hl; clear hl
  go_enter Try.func32, Try.ntmps32
  go_wp2
  go_loopw [7, 8] (fun v i wr => ∃ k A' c', k ≤ to + 1 ∧ i = .int .i64 k ∧ v = .slice A' (startsTo l s.data.toList to k).length c' ∧
     wr.ownsRow w.heap.size 3 1 (.slice A' (startsTo l s.data.toList to k).length c') (startsTo l s.data.toList to k).length (intCells ((startsTo l s.data.toList to k).map Int.ofNat)) ∧ Below w.heap.size w wr) (fun _ i _ => to + 1 - (intOf i).toNat)
  case atStart => exact ⟨0, _, _, by omega, rfl, rfl, World.ownsRow_made _ _ _ (Nat.le_refl _) (by simp [maxLen]) (by simp), (Below.refl _ _).alloc (Nat.le_refl _) _⟩
  case round =>
    obtain ⟨k, A', c', hk, rfl, rfl, hown, hb⟩ := hrel
    have hsz := hb.size
    have hlen := startsTo_length l s.data.toList to k
    by_cases hlt : k < to + 1
    · have HS : Hid ((s.extract k to).data.toList = sub s.data.toList k to) := by simp [Hid, sub]
      have HSS := hid (startsTo_succ l s.data.toList to k)
      go_wp2_with fail
      refine (matchesR_any A n c l (s.extract k to) _ HL.out hn (hr.below hb) (by simp; omega)).mono ?_
      rintro e w1 ⟨rfl, hb1⟩
      rw [HS.out]
      have hown1 := own_below hown hb1
      have hb2 := hb.trans (hb1.mono hsz)
      have hsz2 := hb2.size
      clear hown hb hb1
      cases hm : matchM l (sub s.data.toList k to)
      · have HE : Hid (startsTo l s.data.toList to (k + 1) = startsTo l s.data.toList to k) := by rw [Hid, HSS.out, hm]; simp
        clear HSS hm
        go_wp2
        go_roundw
        case rel => exact ⟨k + 1, A', c', by omega, by go_num, by rw [HE.out], by rw [HE.out]; exact hown1, hb2⟩
        case measure => simp [intOf]; omega
      · have HE : Hid (startsTo l s.data.toList to (k + 1) = startsTo l s.data.toList to k ++ [k]) := by rw [Hid, HSS.out, hm]; simp
        clear HSS hm
        go_wp2_with (at_builtin; refine wpList_append1 _ rfl _ _ 46 rfl w.heap.size 3 _ 1 8 Try.underlying46 Try.infoInt rfl (by decide) _ _ _ rfl hown1 1 [.int .i64 (k : Int)] rfl rfl rfl ?_ (by decide) hsz2 ?_)
        · omega
        intro A2 d2 w3 hown3 hg3
        have hb3 := below_grown hb2 hown1 hg3 (Nat.le_refl _) hsz2
        clear hown1 hb2 hg3
        go_wp2
        go_roundw
        case rel => exact ⟨k + 1, A2, d2, by omega, by go_num, by rw [HE.out]; simp, by rw [HE.out]; simpa [intCells] using hown3, hb3⟩
        case measure => simp [intOf]; omega
    · go_wp2
      go_ret
      have hkk : k = to + 1 := by omega
      rw [hkk] at hown
      exact ⟨A', c', by rw [hkk]; rfl, hown, hb⟩

set_option maxHeartbeats 400000 in
theorem startsR_any (A : Option Addr) (n c : Nat) (l : List Item) (s : ByteArray) (to : Int) (w : World) (hl : l.length = n) (hn : n ≤ 1000000) (hr : Rd w A (itemCells l)) (hs : s.size ≤ 1000000) (h1 : -9223372036854775808 ≤ to) (h2 : to ≤ 9223372036854775807) :
    Calls Try.prog 32 #[.slice A n c, .string s, .int .i64 to] w fun e w' => ∃ A' c', e = .returned (.slice A' (startsZ l s.data.toList to).length c') ∧
      w'.ownsRow w.heap.size 3 1 (.slice A' (startsZ l s.data.toList to).length c') (startsZ l s.data.toList to).length (intCells ((startsZ l s.data.toList to).map Int.ofNat)) ∧ Below w.heap.size w w' := by
  by_cases hin : 0 ≤ to ∧ to ≤ s.size
  · obtain ⟨t, rfl⟩ : ∃ t : Nat, to = t := ⟨to.toNat, by omega⟩
    have e : startsZ l s.data.toList (t : Int) = startsM l s.data.toList t := by unfold startsZ; rw [if_pos (by rw [size_list]; exact hin)]; rfl
    rw [e]
    exact startsRn_any A n c l s t w hl hn hr hs (by omega)
  · have e : startsZ l s.data.toList to = [] := by unfold startsZ; rw [if_neg (by rw [size_list]; exact hin)]
    rw [e]
    go_enter Try.func32, Try.ntmps32
    go_wp2
    go_loopw [7, 8] (fun v i wr => i = .int .i64 0 ∧ v = .slice (some ⟨w.heap.size, 0, none⟩) 0 0 ∧ wr.ownsRow w.heap.size 3 1 (.slice (some ⟨w.heap.size, 0, none⟩) 0 0) 0 [] ∧ Below w.heap.size w wr) (fun _ _ _ => 0)
    case atStart => exact ⟨rfl, rfl, World.ownsRow_made _ _ _ (Nat.le_refl _) (by simp [maxLen]) (by simp), (Below.refl _ _).alloc (Nat.le_refl _) _⟩
    case round =>
      obtain ⟨rfl, rfl, hown, hb⟩ := hrel
      by_cases h0 : 0 ≤ to
      · have h3 : ¬ to ≤ s.size := fun h => hin ⟨h0, h⟩
        go_wp2
        go_ret
        exact ⟨_, _, rfl, hown, hb⟩
      · go_wp2
        go_ret
        exact ⟨_, _, rfl, hown, hb⟩

set_option maxHeartbeats 400000 in
theorem startsC_any (A : Option Addr) (n c : Nat) (l : List Item) (s : ByteArray) (to : Int) (w : World) (hl : l.length = n) (hn : n ≤ 1000000) (hr : Rd w A (itemCells l)) (hs : s.size ≤ 1000000) (h1 : -9223372036854775808 ≤ to) (h2 : to ≤ 9223372036854775807) :
    Calls Try.prog 31 #[.slice A n c, .string s, .int .i64 to] w fun e w' => ∃ A' c', e = .returned (.slice A' (startsZ l s.data.toList to).length c') ∧
      w'.ownsRow w.heap.size 3 1 (.slice A' (startsZ l s.data.toList to).length c') (startsZ l s.data.toList to).length (intCells ((startsZ l s.data.toList to).map Int.ofNat)) ∧ Below w.heap.size w w' := by
  have HL := hid hl; clear hl
  by_cases hin : 0 ≤ to ∧ to ≤ s.size
  · obtain ⟨t, rfl⟩ : ∃ t : Nat, to = t := ⟨to.toNat, by omega⟩
    have e : startsZ l s.data.toList (t : Int) = startsM l s.data.toList t := by unfold startsZ; rw [if_pos (by rw [size_list]; exact hin)]; rfl
    rw [e]
    have ht : t ≤ s.size := by omega
    clear hin e
    go_enter Try.func31, Try.ntmps31
    go_wp2_with fail
    refine (starts_any A n c l s t _ HL.out hn hr hs ht).mono ?_
    rintro e w1 ⟨A1, c1, rfl, hown, hb⟩
    have HO := hid hown
    clear hown
    go_wp2
    go_ret
    exact ⟨_, _, rfl, HO.out, hb⟩
  · have e : startsZ l s.data.toList to = [] := by unfold startsZ; rw [if_neg (by rw [size_list]; exact hin)]
    rw [e]
    go_enter Try.func31, Try.ntmps31
    by_cases h0 : 0 ≤ to
    · have h3 : ¬ to ≤ s.size := fun h => hin ⟨h0, h⟩
      go_wp2
      go_ret
      exact ⟨none, 0, rfl, World.ownsRow_nil _ _ _ _, Below.refl _ _⟩
    · go_wp2
      go_ret
      exact ⟨none, 0, rfl, World.ownsRow_nil _ _ _ _, Below.refl _ _⟩

set_option maxHeartbeats 800000 in
theorem endsR_any (A : Option Addr) (n c : Nat) (l : List Item) (s : ByteArray) (w : World) (hl : l.length = n) (hn : n ≤ 1000000) (hr : Rd w A (itemCells l)) (hs : s.size ≤ 1000000) :
    Calls Try.prog 30 #[.slice A n c, .string s] w fun e w' => ∃ A' c', e = .returned (.slice A' (endsL l s.data.toList).length c') ∧
      w'.ownsRow w.heap.size 3 1 (.slice A' (endsL l s.data.toList).length c') (endsL l s.data.toList).length (intCells ((endsL l s.data.toList).map Int.ofNat)) ∧ Below w.heap.size w w' := by
  have HL := hid hl; clear hl
  have HSZ := hid (size_list s)
  go_enter Try.func30, Try.ntmps30
  go_wp2
  go_loopw [5, 6] (fun v i wr => ∃ k A' c', k ≤ s.size + 1 ∧ i = .int .i64 k ∧ v = .slice A' (endsTo l s.data.toList k).length c' ∧
     wr.ownsRow w.heap.size 3 1 (.slice A' (endsTo l s.data.toList k).length c') (endsTo l s.data.toList k).length (intCells ((endsTo l s.data.toList k).map Int.ofNat)) ∧ Below w.heap.size w wr) (fun _ i _ => s.size + 1 - (intOf i).toNat)
  case atStart => exact ⟨0, _, _, by omega, rfl, rfl, World.ownsRow_made _ _ _ (Nat.le_refl _) (by simp [maxLen]) (by simp), (Below.refl _ _).alloc (Nat.le_refl _) _⟩
  case round =>
    obtain ⟨k, A', c', hk, rfl, rfl, hown, hb⟩ := hrel
    have hsz := hb.size
    have hlen := endsTo_length l s.data.toList k
    by_cases hlt : k < s.size + 1
    · have HSS := hid (endsTo_succ l s.data.toList k)
      have hes := ends_starts l s.data.toList k (by rw [HSZ.out]; omega)
      have HES := hid hes
      have hml := startsTo_length l s.data.toList k (k + 1)
      rw [show startsTo l s.data.toList k (k + 1) = startsM l s.data.toList k from rfl] at hml
      clear hes
      go_wp2_with fail
      refine (startsRn_any A n c l s k _ HL.out hn (hr.below hb) hs (by omega)).mono ?_
      rintro e w1 ⟨A1, c1, rfl, _, hb1⟩
      have hown1 := own_below hown hb1
      have hb2 := hb.trans (hb1.mono hsz)
      have hsz2 := hb2.size
      clear hown hb hb1
      generalize startsM l s.data.toList k = L at *
      by_cases hm : 0 < L.length
      · have HE : Hid (endsTo l s.data.toList (k + 1) = endsTo l s.data.toList k ++ [k]) := by rw [Hid, HSS.out, HES.out]; simp [hm]
        clear HSS HES
        go_wp2_with (at_builtin; refine wpList_append1 _ rfl _ _ 46 rfl w.heap.size 3 _ 1 8 Try.underlying46 Try.infoInt rfl (by decide) _ _ _ rfl hown1 1 [.int .i64 (k : Int)] rfl rfl rfl ?_ (by decide) hsz2 ?_)
        · omega
        intro A2 d2 w3 hown3 hg3
        have hb3 := below_grown hb2 hown1 hg3 (Nat.le_refl _) hsz2
        clear hown1 hb2 hg3
        go_wp2
        go_roundw
        case rel => exact ⟨k + 1, A2, d2, by omega, by go_num, by rw [HE.out]; simp, by rw [HE.out]; simpa [intCells] using hown3, hb3⟩
        case measure => simp [intOf]; omega
      · have HE : Hid (endsTo l s.data.toList (k + 1) = endsTo l s.data.toList k) := by rw [Hid, HSS.out, HES.out]; simp [hm]
        clear HSS HES
        go_wp2
        go_roundw
        case rel => exact ⟨k + 1, A', c', by omega, by go_num, by rw [HE.out], by rw [HE.out]; exact hown1, hb2⟩
        case measure => simp [intOf]; omega
    · go_wp2
      go_ret
      have hkk : k = s.size + 1 := by omega
      have e : endsTo l s.data.toList k = endsL l s.data.toList := by rw [hkk]; unfold endsL; rw [HSZ.out]
      rw [e] at hown
      exact ⟨A', c', by rw [e]; rfl, hown, hb⟩

set_option maxHeartbeats 400000 in
theorem firstR_any (A : Option Addr) (n c : Nat) (l : List Item) (s : ByteArray) (w : World) (hl : l.length = n) (hn : n ≤ 1000000) (hr : Rd w A (itemCells l)) (hs : s.size ≤ 1000000) :
    Calls Try.prog 27 #[.slice A n c, .string s] w fun e w' => e = .returned (.tuple #[.int .i64 ((firstM l s.data.toList).1 : Int), .int .i64 ((firstM l s.data.toList).2.1 : Int), .bool (firstM l s.data.toList).2.2]) ∧ Below w.heap.size w w' := by
  have HL := hid hl; clear hl
  have HSZ := hid (size_list s)
  go_enter Try.func27, Try.ntmps27
  go_wp2
  go_loopw [7] (fun i wr => ∃ k, k ≤ s.size + 1 ∧ i = .int .i64 k ∧ (∀ j, j < k → (startsM l s.data.toList j).length = 0) ∧ Below w.heap.size w wr) (fun i _ => s.size + 1 - (intOf i).toNat)
  case atStart => exact ⟨0, by omega, rfl, fun j hj => by omega, Below.refl _ _⟩
  case round =>
    obtain ⟨k, hk, rfl, hz, hb⟩ := hrel
    have hsz := hb.size
    by_cases hlt : k < s.size + 1
    · have HF := hid (first_is l s.data.toList k (by rw [HSZ.out]; omega) hz)
      have HZ := hid hz
      have hml := startsTo_length l s.data.toList k (k + 1)
      rw [show startsTo l s.data.toList k (k + 1) = startsM l s.data.toList k from rfl] at hml
      clear hz
      go_wp2_with fail
      refine (startsRn_any A n c l s k _ HL.out hn (hr.below hb) hs (by omega)).mono ?_
      rintro e w1 ⟨A1, c1, rfl, hown1, hb1⟩
      have hb2 := hb.trans (hb1.mono hsz)
      have hr4 := Rd_of_own hown1
      clear hown1 hb hb1
      by_cases hm : 0 < (startsM l s.data.toList k).length
      · have HFF := hid (HF.out hm)
        obtain ⟨b, off, rfl, hbl, hc⟩ := hr4.at (by rw [intCells_length]; simpa using hm)
        have h0 : w1.cell? ⟨b, off, none⟩ = some (.int .i64 (((startsM l s.data.toList k).headD 0 : Nat) : Int)) := by
          refine hc 0 _ ?_
          cases hq : startsM l s.data.toList k with
          | nil => rw [hq] at hm; simp at hm
          | cons q r => simp [intCells]
        clear hc hr4 HF HZ
        generalize (startsM l s.data.toList k).headD 0 = q at *
        generalize startsM l s.data.toList k = L at *
        go_wp2
        go_ret3
        exact ⟨by rw [HFF.out]; rfl, hb2⟩
      · have HZ0 : Hid ((startsM l s.data.toList k).length = 0) := by simp only [Hid]; omega
        clear HF hr4
        have HLL : Hid (startsM l s.data.toList k = startsM l s.data.toList k) := rfl
        obtain ⟨L, hLL⟩ : ∃ L, startsM l s.data.toList k = L := ⟨_, rfl⟩
        rw [hLL]
        have hm0 : L.length = 0 := by rw [← hLL]; exact HZ0.out
        have HLL := hid hLL
        rw [hm0]
        clear hm hLL hml
        go_wp2
        go_roundw
        case rel => exact ⟨k + 1, by omega, by go_num, fun j hj => by
          rcases Nat.lt_or_ge j k with h | h
          · exact HZ.out j h
          · obtain rfl : j = k := by omega
            exact HZ0.out, hb2⟩
        case measure => simp [intOf]; omega
    · have hkk : k = s.size + 1 := by omega
      have HF := hid (first_none l s.data.toList (by rw [HSZ.out, ← hkk]; exact hz))
      clear hz
      go_wp2
      go_ret3
      exact ⟨by rw [HF.out]; rfl, hb⟩

set_option maxHeartbeats 800000 in
theorem endsC_any (A : Option Addr) (n c : Nat) (l : List Item) (s : ByteArray) (w : World) (hl : l.length = n) (hn : n ≤ 1000000) (hr : Rd w A (itemCells l)) (hs : s.size ≤ 1000000) :
    Calls Try.prog 29 #[.slice A n c, .string s] w fun e w' => ∃ A' c', e = .returned (.slice A' (endsL l s.data.toList).length c') ∧
      w'.ownsRow w.heap.size 3 1 (.slice A' (endsL l s.data.toList).length c') (endsL l s.data.toList).length (intCells ((endsL l s.data.toList).map Int.ofNat)) ∧ Below w.heap.size w w' := by
  have HL := hid hl; clear hl
  have HSZ := hid (size_list s)
  have HEA : Hid (endsAll l s.data.toList = endsM l s.data.toList (placesM (s.size + 1) 0 true)) := by unfold endsAll; rw [size_list]; rfl
  have hel := endsAll_length l s.data.toList
  rw [size_list] at hel
  have HEL := hid hel
  clear hel
  go_enter Try.func29, Try.ntmps29
  go_wp2_with fail
  refine (places_any s 0 true _ hs).mono ?_
  rintro e w1 ⟨A1, c1, rfl, hr1, hb1⟩
  go_wp2_with fail
  refine (ends_any A n c l s A1 c1 _ _ HL.out hn (hr.below hb1) hs hr1 (by simp [placesM])).mono ?_
  rintro e w2 ⟨A2, c2, rfl, hr2, hb2⟩
  rw [← HEA.out] at hr2
  have hb3 := hb1.trans (hb2.mono hb1.size)
  clear hb1 hb2 hr1 hr
  obtain ⟨b1, off1, rfl, hb1l, hat1⟩ := Rd_bool hr2 HEL.out (by omega)
  have HAT := hid hat1
  have HB3 := hid hb3
  clear hr2 hat1 hb3
  go_wp2
  go_loopw [5, 14] (fun v i wr => ∃ k A' c', k ≤ s.size + 1 ∧ i = .int .i64 k ∧ v = .slice A' (endsTo l s.data.toList k).length c' ∧
     wr.ownsRow w2.heap.size 3 1 (.slice A' (endsTo l s.data.toList k).length c') (endsTo l s.data.toList k).length (intCells ((endsTo l s.data.toList k).map Int.ofNat)) ∧ Below w2.heap.size w2 wr) (fun _ i _ => s.size + 1 - (intOf i).toNat)
  case atStart => exact ⟨0, none, 0, by omega, rfl, rfl, World.ownsRow_nil _ _ _ _, Below.refl _ _⟩
  case round =>
    obtain ⟨k, A', c', hk, rfl, rfl, hown, hb⟩ := hrel
    have hsz := hb.size
    have hlen := endsTo_length l s.data.toList k
    by_cases hlt : k < s.size + 1
    · have HSS := hid (endsTo_succ l s.data.toList k)
      have hck := (hb.cell (p := ⟨b1, off1 + k, none⟩) (by simp; omega)).trans (HAT.out k hlt)
      cases hg : (endsAll l s.data.toList).getD k false
      · rw [hg] at hck HSS
        have HE : Hid (endsTo l s.data.toList (k + 1) = endsTo l s.data.toList k) := by rw [Hid, HSS.out]; simp
        clear hg HSS
        have HO := hid hown
        clear hown
        go_wp2
        go_roundw
        case rel => exact ⟨k + 1, A', c', by omega, by go_num, by rw [HE.out], by rw [HE.out]; exact HO.out, hb⟩
        case measure => simp [intOf]; omega
      · rw [hg] at hck HSS
        have HE : Hid (endsTo l s.data.toList (k + 1) = endsTo l s.data.toList k ++ [k]) := by rw [Hid, HSS.out]; simp
        clear hg HSS
        go_wp2_with (at_builtin; refine wpList_append1 _ rfl _ _ 46 rfl w2.heap.size 3 _ 1 8 Try.underlying46 Try.infoInt rfl (by decide) _ _ _ rfl hown 1 [.int .i64 (k : Int)] rfl rfl rfl ?_ (by decide) hsz ?_)
        · omega
        intro A2 d2 w3 hown3 hg3
        have hb4 := below_grown hb hown hg3 (Nat.le_refl _) hsz
        have HO := hid hown3
        clear hown hb hg3 hown3
        go_wp2
        go_roundw
        case rel => exact ⟨k + 1, A2, d2, by omega, by go_num, by rw [HE.out]; simp, by rw [HE.out]; simpa [intCells] using HO.out, hb4⟩
        case measure => simp [intOf]; omega
    · have hkk : k = s.size + 1 := by omega
      have e : endsTo l s.data.toList k = endsL l s.data.toList := by rw [hkk]; unfold endsL; rw [HSZ.out]
      rw [e] at hown ⊢
      have HO := hid hown
      clear hown hlen e
      go_wp2
      go_ret
      exact ⟨A', c', rfl, own_base HO.out HB3.out.size, HB3.out.trans (hb.mono HB3.out.size)⟩
end Go.Proofs.Ytmcacdegikgmnaa
