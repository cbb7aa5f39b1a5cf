/- Walks: the rest of package lang. -/
import Derived.Test.YtmcacdegikgmnaaWc
import Derived.Test.YtmcacdegikgmnaaPlain
namespace Go.Proofs.Ytmcacdegikgmnaa
open Go.RowKit

theorem size_list (s : ByteArray) : s.data.toList.length = s.size := by simp

set_option maxHeartbeats 400000 in
theorem matches_any (A : Option Addr) (n c : Nat) (l : List Item) (s : ByteArray) (w : World) (hl : l.length = n) (hn : n ≤ 1000000) (hr : Rd w A (itemCells l)) (hs : s.size ≤ 1000000) :
    Calls Try.prog 49 #[.slice A n c, .string s] w fun e w' => e = .returned (.bool (matchM l s.data.toList)) ∧ Below w.heap.size w w' := by
  have HL := hid hl; clear hl
  have hszl := size_list s
  have HM : Hid (matchM l s.data.toList = (endsM l s.data.toList (placesM (s.size + 1) 0 false)).getD s.size false) := by unfold matchM; rw [hszl]; rfl
  clear hszl
  go_enter Try.func49, Try.ntmps49
  go_wp2_with fail
  refine (places_any s 0 false _ hs).mono ?_
  rintro e w1 ⟨A1, c1, rfl, hr1, hb1⟩
  go_wp2_with fail
  refine (ends_any A n c l s A1 c1 _ _ HL.out hn (hr.below hb1) hs hr1 (by simp [placesM])).mono ?_
  rintro e w2 ⟨A2, c2, rfl, hr2, hb2⟩
  have hlen := endsM_length l s.data.toList (placesM (s.size + 1) 0 false) (by simp [placesM])
  generalize endsM l s.data.toList (placesM (s.size + 1) 0 false) = L at *
  rw [size_list] at hlen
  obtain ⟨b, off, rfl, hbl, hc⟩ := hr2.at (by rw [boolCells_length]; omega)
  have h0 := hc s.size _ (boolCells_get L s.size (by omega))
  have HL2 : Hid (L[s.size]'(by omega) = L.getD s.size false) := by simp [Hid, List.getD, hlen]
  clear hc hr2 hr1
  go_wp2
  go_ret
  exact ⟨by rw [HM.out, ← HL2.out]; rfl, hb1.trans (hb2.mono hb1.size)⟩

set_option maxHeartbeats 400000 in
theorem matchesC_any (A : Option Addr) (n c : Nat) (l : List Item) (s : ByteArray) (w : World) (hl : l.length = n) (hn : n ≤ 1000000) (hr : Rd w A (itemCells l)) (hs : s.size ≤ 1000000) :
    Calls Try.prog 16 #[.slice A n c, .string s] w fun e w' => e = .returned (.bool (matchM l s.data.toList)) ∧ Below w.heap.size w w' := by
  have HL := hid hl; clear hl
  go_enter Try.func16, Try.ntmps16
  go_wp2_with fail
  refine (matches_any A n c l s _ HL.out hn hr hs).mono ?_
  rintro e w1 ⟨rfl, hb1⟩
  go_wp2
  go_ret
  exact ⟨rfl, hb1⟩

set_option maxHeartbeats 400000 in
theorem indexB_any (A : Option Addr) (n c : Nat) (L : List Bool) (v : Bool) (w : World) (hl : L.length = n) (hn : n ≤ 1000001) (hr : Rd w A (boolCells L)) :
    Calls Try.prog 50 #[.slice A n c, .bool v] w fun e w' => e = .returned (.int .i64 (optI (idxB v L))) ∧ w = w' := by
  have HL := hid hl; clear hl
  go_enter Try.func50, Try.ntmps50
  go_wp2
  go_loop [8] (fun i => ∃ k, k ≤ n ∧ i = .int .i64 k ∧ idxB v L = (idxB v (L.drop k)).map (· + k)) (fun i => n - (intOf i).toNat)
  case atStart => exact ⟨0, by omega, rfl, by simp⟩
  case round =>
    obtain ⟨k, hk, rfl, hi⟩ := hrel
    have HI := hid hi; clear hi
    by_cases hlt : k < n
    · have hkl : k < L.length := by rw [HL.out]; exact hlt
      obtain ⟨b, off, rfl, hbl, hc⟩ := hr.at (by rw [boolCells_length]; omega)
      have h0 := hc k _ (boolCells_get L k hkl)
      have HD := hid (idxB_drop v L k hkl)
      generalize L[k]'hkl = x at *
      clear hc hkl
      by_cases hx : v = x
      · subst hx
        go_wp2
        go_ret
        have e : idxB v L = some k := by rw [HI.out, HD.out]; simp
        rw [e]; exact ⟨rfl, rfl⟩
      · have hx2 : (v == x) = false := by simpa using hx
        clear hx
        go_wp2
        go_round
        case rel => exact ⟨k + 1, by omega, by go_num, by
          have : (x == v) = false := by rw [← hx2]; cases x <;> cases v <;> rfl
          rw [HI.out, HD.out, this]
          simp only [Bool.false_eq_true, if_false, Option.map_map]
          congr 1; funext q; simp; omega⟩
        case measure => simp [intOf]; omega
    · go_wp2
      go_ret
      have e : idxB v L = none := by rw [HI.out, List.drop_of_length_le (by rw [HL.out]; omega)]; rfl
      rw [e]; exact ⟨rfl, rfl⟩

set_option maxHeartbeats 800000 in
theorem starts_any (A : Option Addr) (n c : Nat) (l : List Item) (s : ByteArray) (to : Nat) (w : World) (hl : l.length = n) (hn : n ≤ 1000000) (hr : Rd w A (itemCells l)) (hs : s.size ≤ 1000000) (ht : to ≤ s.size) :
    Calls Try.prog 53 #[.slice A n c, .string s, .int .i64 (to : Int)] w fun e w' => ∃ A' c', e = .returned (.slice A' (startsM l s.data.toList to).length c') ∧
      w'.ownsRow w.heap.size 3 1 (.slice A' (startsM l s.data.toList to).length c') (startsM l s.data.toList to).length (intCells ((startsM l s.data.toList to).map Int.ofNat)) ∧ Below w.heap.size w w' := by
  have HL := hid hl; clear hl
  go_enter Try.func53, Try.ntmps53
  go_wp2
  go_loopw [7, 11] (fun v i wr => ∃ k A' c', k ≤ to + 1 ∧ i = .int .i64 k ∧ v = .slice A' (startsTo l s.data.toList to k).length c' ∧
     wr.ownsRow w.heap.size 3 1 (.slice A' (startsTo l s.data.toList to k).length c') (startsTo l s.data.toList to k).length (intCells ((startsTo l s.data.toList to k).map Int.ofNat)) ∧ Below w.heap.size w wr) (fun _ i _ => to + 1 - (intOf i).toNat)
  case atStart => exact ⟨0, none, 0, by omega, rfl, rfl, World.ownsRow_nil _ _ _ _, Below.refl _ _⟩
  case round =>
    obtain ⟨k, A', c', hk, rfl, rfl, hown, hb⟩ := hrel
    have hsz := hb.size
    have hlen := startsTo_length l s.data.toList to k
    by_cases hlt : k < to + 1
    · have HS : Hid ((s.extract k to).data.toList = sub s.data.toList k to) := by simp [Hid, sub]
      have HSS := hid (startsTo_succ l s.data.toList to k)
      go_wp2_with fail
      refine (matches_any A n c l (s.extract k to) _ HL.out hn (hr.below hb) (by simp; omega)).mono ?_
      rintro e w1 ⟨rfl, hb1⟩
      rw [HS.out]
      have hown1 := own_below hown hb1
      have hb2 := hb.trans (hb1.mono hsz)
      have hsz2 := hb2.size
      clear hown hb hb1
      cases hm : matchM l (sub s.data.toList k to)
      · have HE : Hid (startsTo l s.data.toList to (k + 1) = startsTo l s.data.toList to k) := by rw [Hid, HSS.out, hm]; simp
        clear HSS hm
        go_wp2
        go_roundw
        case rel => exact ⟨k + 1, A', c', by omega, by go_num, by rw [HE.out], by rw [HE.out]; exact hown1, hb2⟩
        case measure => simp [intOf]; omega
      · have HE : Hid (startsTo l s.data.toList to (k + 1) = startsTo l s.data.toList to k ++ [k]) := by rw [Hid, HSS.out, hm]; simp
        clear HSS hm
        go_wp2_with (at_builtin; refine wpList_append1 _ rfl _ _ 46 rfl w.heap.size 3 _ 1 8 Try.underlying46 Try.infoInt rfl (by decide) _ _ _ rfl hown1 1 [.int .i64 (k : Int)] rfl rfl rfl ?_ (by decide) hsz2 ?_)
        · omega
        intro A2 d2 w3 hown3 hg3
        have hb3 := below_grown hb2 hown1 hg3 (Nat.le_refl _) hsz2
        clear hown1 hb2 hg3
        go_wp2
        go_roundw
        case rel => exact ⟨k + 1, A2, d2, by omega, by go_num, by rw [HE.out]; simp, by rw [HE.out]; simpa [intCells] using hown3, hb3⟩
        case measure => simp [intOf]; omega
    · go_wp2
      go_ret
      have hkk : k = to + 1 := by omega
      rw [hkk] at hown
      exact ⟨A', c', by rw [hkk]; rfl, hown, hb⟩

set_option maxHeartbeats 400000 in
theorem first_any (A : Option Addr) (n c : Nat) (l : List Item) (s : ByteArray) (w : World) (hl : l.length = n) (hn : n ≤ 1000000) (hr : Rd w A (itemCells l)) (hs : s.size ≤ 1000000) :
    Calls Try.prog 17 #[.slice A n c, .string s] w fun e w' => e = .returned (.tuple #[.int .i64 ((firstM l s.data.toList).1 : Int), .int .i64 ((firstM l s.data.toList).2.1 : Int), .bool (firstM l s.data.toList).2.2]) ∧ Below w.heap.size w w' := by
  have HL := hid hl; clear hl
  have HM := hid (show firstM l s.data.toList = _ from rfl)
  have HST := hid (starts_some l s.data.toList)
  have HEA : Hid (endsAll l s.data.toList = endsM l s.data.toList (placesM (s.size + 1) 0 true)) := by unfold endsAll; rw [size_list]; rfl
  go_enter Try.func17, Try.ntmps17
  go_wp2_with fail
  refine (places_any s 0 true _ hs).mono ?_
  rintro e w1 ⟨A1, c1, rfl, hr1, hb1⟩
  go_wp2_with fail
  refine (ends_any A n c l s A1 c1 _ _ HL.out hn (hr.below hb1) hs hr1 (by simp [placesM])).mono ?_
  rintro e w2 ⟨A2, c2, rfl, hr2, hb2⟩
  rw [← HEA.out] at hr2
  have hb3 := hb1.trans (hb2.mono hb1.size)
  clear hb1 hb2 hr1
  go_wp2_with fail
  refine (indexB_any A2 _ c2 _ true _ (by rw [endsAll_length, size_list]) (by omega) hr2).mono ?_
  rintro e w3 ⟨rfl, rfl⟩
  clear hr2 HEA
  cases hi : idxB true (endsAll l s.data.toList) with
  | none =>
    have HF : Hid (firstM l s.data.toList = (0, 0, false)) := by unfold firstM Hid; rw [hi]
    clear hi HM HST
    simp only [optI]
    go_wp2
    go_ret3
    exact ⟨by rw [HF.out]; rfl, hb3⟩
  | some to =>
    have HF : Hid (firstM l s.data.toList = ((startsM l s.data.toList to).headD 0, to, true)) := by unfold firstM Hid; rw [hi]
    obtain ⟨ht, hne⟩ := HST.out to hi
    rw [size_list] at ht
    have HNE := hid hne
    clear hi HM HST hne
    simp only [optI]
    go_wp2_with fail
    refine (starts_any A n c l s to _ HL.out hn (hr.below hb3) hs ht).mono ?_
    rintro e w4 ⟨A4, c4, rfl, hown4, hb4⟩
    have hb5 := hb3.trans (hb4.mono hb3.size)
    have hlen : 0 < (startsM l s.data.toList to).length := List.length_pos_iff.2 HNE.out
    have hr4 := Rd_of_own hown4
    obtain ⟨b, off, rfl, hbl, hc⟩ := hr4.at (by rw [intCells_length]; simpa using hlen)
    have h0 : w4.cell? ⟨b, off, none⟩ = some (.int .i64 (((startsM l s.data.toList to).headD 0 : Nat) : Int)) := by
      refine hc 0 _ ?_
      cases hq : startsM l s.data.toList to with
      | nil => rw [hq] at hlen; simp at hlen
      | cons q r => simp [intCells]
    clear hc hr4 hown4 hb3 hb4
    generalize (startsM l s.data.toList to).headD 0 = q at *
    go_wp2
    go_ret3
    exact ⟨by rw [HF.out]; rfl, hb5⟩
end Go.Proofs.Ytmcacdegikgmnaa
