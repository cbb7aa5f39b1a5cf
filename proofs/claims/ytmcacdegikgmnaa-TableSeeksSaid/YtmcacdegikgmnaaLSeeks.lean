/- The law TableSeeks: its walk. -/
import Derived.Test.YtmcacdegikgmnaaWq
import Derived.Test.YtmcacdegikgmnaaWl
import Derived.Test.YtmcacdegikgmnaaWa
namespace Go.Proofs.Ytmcacdegikgmnaa
open Go.RowKit

set_option maxRecDepth 100000 in
set_option maxHeartbeats 2000000 in
theorem tableSeeks_any (A : Option Addr) (n c : Nat) (l : List Item) (s : ByteArray) (w : World) (hl : l.length = n) (hn : n ≤ 9223372036854775807) (hr : Rd w A (itemCells l)) (hs : s.size ≤ 9223372036854775807) :
    Calls Try.prog 9 #[.slice A n c, .string s] w fun e w' => e = .returned (.bool true) ∧ Below w.heap.size w w' := by
  go_enter Try.func9, Try.ntmps9
  go_wp2_with fail
  refine (few_any A n c l 6 _ hl hn hr (by omega)).mono ?_
  rintro e w1 ⟨g1, d1, rfl, hown1, hb1⟩
  have hl1 : (l.take 6).length = min 6 n := by rw [List.length_take, hl]
  have hn5 : min 6 n ≤ 6 := by omega
  generalize l.take 6 = l1 at *
  generalize min 6 n = n1 at *
  clear hr hl
  have HL1 := hid hl1
  have hr1 := Rd_of_own hown1
  clear hl1 hown1
  generalize (some (⟨g1, 0, none⟩ : Addr)) = A1 at *
  go_wp2_with fail
  refine (cut_any s 12 _ hs (by omega)).mono ?_
  have hs1 : (if 12 < s.size then s.extract 0 12 else s).size ≤ 12 := by split <;> (try simp) <;> omega
  generalize (if 12 < s.size then s.extract 0 12 else s) = s1 at *
  rintro e w3 ⟨rfl, rfl⟩
  have hsz1 := hb1.size
  have HB1 := hid hb1; have HR1 := hid hr1
  clear hb1 hr1
  go_wp2_with fail
  refine (few_all _ n1 d1 l1 6 _ HL1.out (by omega) HR1.out (by omega)).mono ?_
  rintro e w2 ⟨g2, d2, rfl, hown2, hb2⟩
  have hr2 := Rd_of_own hown2
  have HB2 := hid (HB1.out.trans (hb2.mono hsz1))
  have HR2 := hid (HR1.out.below hb2)
  clear hown2 hb2
  go_wp2_with fail
  refine (compile_any _ n1 d2 l1 _ HL1.out (by omega) hr2).mono ?_
  rintro e w3 ⟨hcase, hb3⟩
  have HB3 := hid (HB2.out.trans (hb3.mono HB2.out.size))
  have HR3 := hid (HR2.out.below hb3)
  clear hr2 hb3
  rcases hcase with ⟨hg, rfl⟩ | ⟨hg, hm, rfl⟩ | ⟨hg, hm, g, rfl, ht⟩
  · -- no pattern
    have HG := hid hg
    clear hg
    go_wp2_with fail
    refine (goodRef_any _ n1 d1 l1 _ HL1.out (by omega) HR3.out).mono ?_
    rw [HG.out]
    rintro e w4 ⟨rfl, rfl⟩
    go_wp2_with fail
    refine (lives9_any _).mono ?_
    rintro e w5 ⟨rfl, hb5⟩
    go_wp2
    go_ret
    exact ⟨rfl, HB3.out.trans (hb5.mono HB3.out.size)⟩
  · -- matches the empty text
    have HG := hid hg
    have HLZ : Hid (leastM l1 = 0) := by
      have := least_le l1 [] (by rw [← matchM_eq]; exact hm)
      simp only [Hid, List.length_nil] at this ⊢; omega
    clear hg hm
    go_wp2_with fail
    refine (goodRef_any _ n1 d1 l1 _ HL1.out (by omega) HR3.out).mono ?_
    rw [HG.out]
    rintro e w4 ⟨rfl, rfl⟩
    go_wp2_with fail
    refine (leastR_any _ n1 d1 l1 _ HL1.out (by omega) HR3.out).mono ?_
    rw [HLZ.out]
    rintro e w4 ⟨rfl, hb4⟩
    have HB4 := hid (HB3.out.trans (hb4.mono HB3.out.size))
    clear hb4
    go_wp2_with fail
    refine (lives9_any _).mono ?_
    rintro e w5 ⟨rfl, hb5⟩
    go_wp2
    go_ret
    exact ⟨rfl, HB4.out.trans (hb5.mono HB4.out.size)⟩
  · have HG := hid hg
    have HTB := hid ht
    have hgh := good_has l1 hg
    have HGH := hid hgh.1
    have HN := hid hgh.2
    have hlz : 0 < leastM l1 := by
      rcases Nat.eq_zero_or_pos (leastM l1) with h | h
      · have h1 : (l1.any fun x => !x.run) = false := by
          unfold leastM at h
          have h2 := List.eq_nil_of_length_eq_zero h
          cases hx : l1.any fun x => !x.run with
          | false => rfl
          | true =>
            obtain ⟨y, hy1, hy2⟩ := List.any_eq_true.1 hx
            have : y ∈ l1.filter fun x => !x.run := List.mem_filter.2 ⟨hy1, hy2⟩
            rw [h2] at this; cases this
        rw [matchM_eq, matchR_nil, h1] at hm; cases hm
      · exact h
    have HLE : Hid (leastM l1 ≤ n1) := by
      unfold leastM; have := List.length_filter_le (fun x : Item => !x.run) l1; have := HL1.out; simp only [Hid]; omega
    clear hg hm ht hgh
    go_wp2_with fail
    refine (goodRef_any _ n1 d1 l1 _ HL1.out (by omega) HR3.out).mono ?_
    rw [HG.out]
    rintro e w4 ⟨rfl, rfl⟩
    go_wp2_with fail
    refine (leastR_any _ n1 d1 l1 _ HL1.out (by omega) HR3.out).mono ?_
    have hle2 := HLE.out
    generalize leastM l1 = q at *
    rintro e w4 ⟨rfl, hb4⟩
    have HB4 := hid (HB3.out.trans (hb4.mono HB3.out.size))
    have HT4 := hid (HTB.out.below hb4)
    have HR4 := hid (HR3.out.below hb4)
    clear hb4
    go_wp2_with fail
    refine (startC_any g l1 _ (by have := HN.out; omega) HT4.out).mono ?_
    rintro e w5 ⟨rfl, rfl⟩
    have HSZ := hid (size_list s1)
    have HST := hid (start_state l1 s1.data.toList)
    generalize startW l1 = x0 at *
    obtain ⟨wo, rfl⟩ : ∃ wo : World, wo = w4 := ⟨w4, rfl⟩
    go_wp2_with fail
    go_loopw [7, 8] (fun v i wr => ∃ (k : Nat) (x : BitVec 64), k ≤ s1.size ∧ i = .int .i64 k ∧ v = w64 x ∧ Hid (StateAt l1 s1.data.toList k x) ∧ Below wo.heap.size wo wr) (fun _ i _ => s1.size - (intOf i).toNat)
    case atStart => exact ⟨0, x0, by omega, rfl, rfl, HST, Below.refl _ _⟩
    case round =>
      obtain ⟨k, x, hk, rfl, rfl, HX, hb⟩ := hrel
      have HB := hid hb
      by_cases hlt : k < s1.size
      · have HTK := hid (HT4.out.below hb)
        have HRK := hid (HR4.out.below hb)
        have hks : k < s1.data.toList.length := by rw [HSZ.out]; exact hlt
        have hby : (s1[k]).toNat < 256 := (s1[k]).toNat_lt
        have HSS : Hid (StateAt l1 s1.data.toList (k + 1) (seekW l1 x (s1[k]).toNat)) := seek_state l1 s1.data.toList k x (by have := HN.out; omega) HGH.out hks HX.out
        clear hb
        go_wp2_with fail
        refine (seek_any g l1 x (s1[k]).toNat _ (by have := HN.out; omega) hby HTK.out).mono ?_
        rintro e w6 ⟨rfl, hb6⟩
        have HB6 := hid (HB.out.trans (hb6.mono HB.out.size))
        have HT6 := hid (HTK.out.below hb6)
        have HR6 := hid (HRK.out.below hb6)
        clear hb6
        have HDS : Hid (doneW l1 (seekW l1 x (s1[k]).toNat) = decide (0 < (startsM l1 s1.data.toList (k + 1)).length)) := by
          rw [Hid, done_state l1 s1.data.toList (k + 1) _ (by have := HN.out; omega) (by omega) HSS.out, ends_starts l1 s1.data.toList (k + 1) (by omega)]
        generalize seekW l1 x (s1[k]).toNat = y at *
        go_wp2_with fail
        refine (done_any g l1 y _ (by have := HN.out; omega) HT6.out).mono ?_
        rw [HDS.out]
        rintro e w7 ⟨rfl, hb7⟩
        have HB7 := hid (HB6.out.trans (hb7.mono HB6.out.size))
        have HR7 := hid (HR6.out.below hb7)
        clear hb7
        go_wp2_with fail
        refine (startsRn_any _ n1 d1 l1 s1 (k + 1) _ HL1.out (by omega) HR7.out (by omega) (by omega)).mono ?_
        rintro e w8 ⟨A8, c8, rfl, _, hb8⟩
        have HB8 := hid (HB7.out.trans (hb8.mono HB7.out.size))
        have hml := startsTo_length l1 s1.data.toList (k + 1) (k + 1 + 1)
        rw [show startsTo l1 s1.data.toList (k + 1) (k + 1 + 1) = startsM l1 s1.data.toList (k + 1) from rfl] at hml
        clear hb8 HDS
        generalize (startsM l1 s1.data.toList (k + 1)).length = m at *
        by_cases hm : 0 < m
        · go_wp2_with fail
          go_roundw
          case rel => exact ⟨k + 1, y, by omega, by go_num, rfl, HSS, HB8.out⟩
          case measure => simp [intOf]; omega
        · have hm0 : m = 0 := by omega
          subst hm0
          go_wp2_with fail
          go_roundw
          case rel => exact ⟨k + 1, y, by omega, by go_num, rfl, HSS, HB8.out⟩
          case measure => simp [intOf]; omega
      · go_wp2_with fail
        refine (lives9_any _).mono ?_
        rintro e w9 ⟨rfl, hb9⟩
        go_wp2
        go_ret
        exact ⟨rfl, HB4.out.trans ((HB.out.trans (hb9.mono HB.out.size)).mono HB4.out.size)⟩
end Go.Proofs.Ytmcacdegikgmnaa
