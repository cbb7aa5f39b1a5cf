/- The law LangLeast: its walk. -/
import Derived.Test.YtmcacdegikgmnaaWi
import Derived.Test.YtmcacdegikgmnaaWh
import Derived.Test.YtmcacdegikgmnaaWa
namespace Go.Proofs.Ytmcacdegikgmnaa
open Go.RowKit

theorem shortOf_length (x : Item) : (shortOf x).length ≤ 1 := by
  unfold shortOf; split
  · simp
  · rw [List.length_drop]; omega
theorem shortM_length (l : List Item) : (shortM l).length ≤ l.length := by
  induction l with
  | nil => simp [shortM]
  | cons x l ih =>
    have := shortOf_length x
    have e : shortM (x :: l) = shortOf x ++ shortM l := rfl
    rw [e, List.length_append, List.length_cons]; omega
theorem shortM_succ (l : List Item) (k : Nat) (h : k < l.length) : shortM (l.take (k + 1)) = shortM (l.take k) ++ shortOf l[k] := by
  unfold shortM; rw [List.take_succ_eq_append_getElem h, List.flatMap_append]; simp only [List.flatMap_cons, List.flatMap_nil, List.append_nil]
theorem runs_succ (l : List Item) (k : Nat) (h : k < l.length) : (l.take (k + 1)).any (fun x => x.run) = ((l.take k).any (fun x => x.run) || (l[k]).run) := by
  rw [List.take_succ_eq_append_getElem h, List.any_append]; simp only [List.any_cons, List.any_nil, Bool.or_false]
theorem str_of (b : ByteArray) (l : List UInt8) (h : b.data.toList = l) : b = ⟨l.toArray⟩ := by subst h; rfl

set_option maxRecDepth 100000 in
set_option maxHeartbeats 2000000 in
theorem langLeast_any (A : Option Addr) (n c : Nat) (l : List Item) (s : ByteArray) (w : World) (hl : l.length = n) (hn : n ≤ 9223372036854775807) (hr : Rd w A (itemCells l)) (hs : s.size ≤ 9223372036854775807) :
    Calls Try.prog 6 #[.slice A n c, .string s] w fun e w' => e = .returned (.bool true) ∧ Below w.heap.size w w' := by
  go_enter Try.func6, Try.ntmps6
  go_wp2_with fail
  refine (few_any A n c l 8 _ hl hn hr (by omega)).mono ?_
  rintro e w1 ⟨g1, d1, rfl, hown1, hb1⟩
  have hl1 : (l.take 8).length = min 8 n := by rw [List.length_take, hl]
  have hn5 : min 8 n ≤ 8 := by omega
  generalize l.take 8 = l1 at *
  generalize min 8 n = n1 at *
  clear hr hl
  have HL1 := hid hl1
  have hr1 := Rd_of_own hown1
  clear hl1 hown1
  generalize (some (⟨g1, 0, none⟩ : Addr)) = A1 at *
  go_wp2_with fail
  refine (cut_any s 12 _ hs (by omega)).mono ?_
  have hs1 : (if 12 < s.size then s.extract 0 12 else s).size ≤ 12 := by split <;> (try simp) <;> omega
  generalize (if 12 < s.size then s.extract 0 12 else s) = s1 at *
  rintro e w3 ⟨rfl, rfl⟩
  have hsz1 := hb1.size
  go_wp2_with fail
  refine (goodRef_any _ n1 d1 l1 _ HL1.out (by omega) hr1).mono ?_
  rintro e w3 ⟨rfl, rfl⟩
  have HB1 := hid hb1; have HR1 := hid hr1
  clear hb1 hr1
  cases hg : goodM l1
  · clear hg
    go_wp2_with fail
    refine (lives8_any _).mono ?_
    rintro e w4 ⟨rfl, hb4⟩
    go_wp2
    go_ret
    exact ⟨rfl, HB1.out.trans (hb4.mono hsz1)⟩
  clear hg
  obtain ⟨wo, rfl⟩ : ∃ wo : World, wo = w1 := ⟨w1, rfl⟩
  go_wp2_with fail
  go_loopw [5, 6, 7] (fun sv rv i wr => ∃ (k : Nat) (S : ByteArray), k ≤ n1 ∧ i = .int .i64 k ∧ sv = .string S ∧ S.data.toList = shortM (l1.take k) ∧ rv = .bool ((l1.take k).any (fun x => x.run)) ∧ Below wo.heap.size wo wr) (fun _ _ i _ => n1 - (intOf i).toNat)
  case atStart => exact ⟨0, ⟨#[]⟩, by omega, rfl, rfl, rfl, rfl, Below.refl _ _⟩
  case round =>
    obtain ⟨k, S, hk, rfl, rfl, hS, rfl, hb⟩ := hrel
    have HS := hid hS; clear hS
    by_cases hlt : k < n1
    · obtain ⟨b, off, rfl, hbl, hc⟩ := (HR1.out.below hb).at (by rw [itemCells_length, HL1.out]; omega)
      have HK : Hid (k < l1.length) := by rw [HL1.out]; exact hlt
      obtain ⟨d0, d1', d2, d3, d4⟩ := item_at hc k HK.out
      have HSS := hid (shortM_succ l1 k HK.out)
      have HRS := hid (runs_succ l1 k HK.out)
      have HSL : Hid (S.size ≤ 8) := by
        have h1 := shortM_length (l1.take k)
        have h2 := congrArg List.length HS.out
        rw [size_list] at h2
        rw [List.length_take] at h1
        simp only [Hid]; omega
      generalize l1[k]'HK.out = x at *
      generalize (l1.take k).any (fun x => x.run) = rv at *
      have HB := hid hb
      clear hc hb
      cases hrun : x.run
      · rw [hrun] at d0 HRS
        have HSO : Hid (shortOf x = (bytesM x.set).drop ((bytesM x.set).length - 1)) := by unfold Hid shortOf; rw [if_neg (by simp [hrun])]
        clear hrun
        cases rv
        all_goals
          go_wp2_with fail
          refine (bytesR_any x.set _).mono ?_
          rintro e w5 ⟨rfl, hb5⟩
          have q0 := (hb5.cell (p := ⟨b, off + k * 5, none⟩) hbl).trans d0
          have HB5 := hid (HB.out.trans (hb5.mono HB.out.size))
          clear d0 d1' d2 d3 d4 hb5
          have hst := isEmpty_str (bytesM x.set)
          have HBL : Hid ((bytesM x.set).length ≤ 256) := bytesTo_length x.set 256
          obtain ⟨Bs, HBs⟩ : ∃ Bs : ByteArray, Hid (Bs = ⟨(bytesM x.set).toArray⟩) := ⟨_, rfl⟩
          rw [← HBs.out] at hst ⊢
          have HBD : Hid (Bs.data.toList = bytesM x.set) := by rw [HBs.out]; rfl
          have hbs2 : Bs.size ≤ 256 := by have := HBL.out; rw [← HBD.out, size_list] at this; exact this
          generalize bytesM x.set = bl at *
          cases hem : bl.isEmpty
          · rw [hem] at hst
            have hbs1 : 1 ≤ Bs.size := by
              rcases Nat.eq_zero_or_pos Bs.size with h0 | h0
              · have h1 := HBD.out
                have h2 := size_list Bs
                rw [h1, h0] at h2
                rw [List.eq_nil_of_length_eq_zero h2] at hem; simp at hem
              · exact h0
            have hsl := HSL.out
            clear hem
            go_wp2
            go_roundw
            case rel =>
              refine ⟨k + 1, _, by omega, by go_num, rfl, ?_, by rw [HRS.out]; rfl, HB5.out⟩
              rw [HSS.out, HSO.out, ByteArray.data_append, Array.toList_append, HS.out]
              have h1 := size_list Bs
              rw [HBD.out] at h1
              rw [h1, ← HBD.out]
              simp
              rw [List.take_of_length_le (by simp)]
            case measure => simp [intOf]; omega
          · rw [hem] at hst
            have HE : Hid (shortOf x = []) := by rw [Hid, HSO.out]; have : bl = [] := by simpa using hem
                                                 rw [this]; rfl
            clear hem
            go_wp2
            go_roundw
            case rel => exact ⟨k + 1, S, by omega, by go_num, rfl, by rw [HSS.out, HE.out, List.append_nil]; exact HS.out, by rw [HRS.out]; rfl, HB5.out⟩
            case measure => simp [intOf]; omega
      · rw [hrun] at d0 HRS
        have HSO : Hid (shortOf x = []) := by unfold Hid shortOf; rw [if_pos hrun]
        clear hrun
        cases rv
        all_goals
          go_wp2_with fail
          refine (bytesR_any x.set _).mono ?_
          rintro e w5 ⟨rfl, hb5⟩
          have q0 := (hb5.cell (p := ⟨b, off + k * 5, none⟩) hbl).trans d0
          have HB5 := hid (HB.out.trans (hb5.mono HB.out.size))
          clear d0 d1' d2 d3 d4 hb5
          go_wp2
          go_roundw
          case rel => exact ⟨k + 1, S, by omega, by go_num, rfl, by rw [HSS.out, HSO.out, List.append_nil]; exact HS.out, by rw [HRS.out]; rfl, HB5.out⟩
          case measure => simp [intOf]; omega
    · have hkk : l1.take k = l1 := List.take_of_length_le (by rw [HL1.out]; omega)
      rw [hkk] at HS ⊢
      have HB := hid hb
      have HSS : Hid (S.size = (shortM l1).length) := by rw [Hid, ← HS.out, size_list]
      have hss : S.size ≤ 8 := by have := shortM_length l1; rw [HSS.out]; rw [HL1.out] at this; omega
      clear hkk hb
      have HEX := hid (exact_length l1 s1.data.toList)
      cases hru : l1.any (fun x => x.run)
      · have HRU := hid hru
        clear hru
        go_wp2_with fail
        refine (voidR_any _ n1 d1 l1 _ HL1.out (by omega) (HR1.out.below HB.out)).mono ?_
        rintro e w5 ⟨rfl, hb5⟩
        have HB5 := hid (HB.out.trans (hb5.mono HB.out.size))
        clear hb5 HB
        cases hv : voidM l1
        · have HSM := hid (short_matches l1 hv)
          clear hv
          go_wp2_with fail
          refine (few_all _ n1 d1 l1 8 _ HL1.out (by omega) (HR1.out.below HB5.out) (by omega)).mono ?_
          rintro e w3a ⟨g3, d3, rfl, hown3, hb3⟩
          have hr3 := Rd_of_own hown3
          have HB3a := hid (HB5.out.trans (hb3.mono HB5.out.size))
          clear hown3 hb3
          go_wp2_with fail
          refine (matchesC_any _ n1 d3 l1 S _ HL1.out (by omega) hr3 (by omega)).mono ?_
          rw [HS.out, matchM_eq, HSM.out.1]
          rintro e w4a ⟨rfl, hb4⟩
          have HB4a := hid (HB3a.out.trans (hb4.mono HB3a.out.size))
          clear hb4 hr3
          go_wp2_with fail
          refine (few_all _ n1 d1 l1 8 _ HL1.out (by omega) (HR1.out.below HB4a.out) (by omega)).mono ?_
          rintro e w2a ⟨g2, d2, rfl, hown2, hb2⟩
          have hr2 := Rd_of_own hown2
          have HB2a := hid (HB4a.out.trans (hb2.mono HB4a.out.size))
          clear hown2 hb2
          go_wp2_with fail
          refine (least_any _ n1 d2 l1 _ HL1.out (by omega) hr2).mono ?_
          rw [← HSM.out.2, ← HSS.out]
          rintro e w5a ⟨rfl, hb5a⟩
          have HB5a := hid (HB2a.out.trans (hb5a.mono HB2a.out.size))
          clear hb5a hr2
          go_wp2_with fail
          refine (few_all _ n1 d1 l1 8 _ HL1.out (by omega) (HR1.out.below HB5a.out) (by omega)).mono ?_
          rintro e w6a ⟨g6, d6, rfl, hown6, hb6⟩
          have hr6 := Rd_of_own hown6
          have HB6a := hid (HB5a.out.trans (hb6.mono HB5a.out.size))
          clear hown6 hb6
          go_wp2_with fail
          refine (matchesC_any _ n1 d6 l1 s1 _ HL1.out (by omega) hr6 (by omega)).mono ?_
          rintro e w7a ⟨rfl, hb7⟩
          have HB7a := hid (HB6a.out.trans (hb7.mono HB6a.out.size))
          clear hb7 hr6
          cases hmm : matchM l1 s1.data.toList
          · clear hmm HEX
            go_wp2_with fail
            refine (lives8_any _).mono ?_
            rintro e wz ⟨rfl, hbz⟩
            go_wp2
            go_ret
            exact ⟨rfl, HB1.out.trans ((HB7a.out.trans (hbz.mono HB7a.out.size)).mono hsz1)⟩
          · have HE2 : Hid (leastM l1 = s1.size) := by rw [Hid, ← HEX.out HRU.out (by rw [← matchM_eq]; exact hmm), size_list]
            clear hmm HEX
            go_wp2_with fail
            refine (few_all _ n1 d1 l1 8 _ HL1.out (by omega) (HR1.out.below HB7a.out) (by omega)).mono ?_
            rintro e w8a ⟨g8, d8, rfl, hown8, hb8⟩
            have hr8 := Rd_of_own hown8
            have HB8a := hid (HB7a.out.trans (hb8.mono HB7a.out.size))
            clear hown8 hb8
            go_wp2_with fail
            refine (least_any _ n1 d8 l1 _ HL1.out (by omega) hr8).mono ?_
            rw [HE2.out]
            rintro e w9a ⟨rfl, hb9⟩
            have HB9a := hid (HB8a.out.trans (hb9.mono HB8a.out.size))
            clear hb9 hr8
            go_wp2_with fail
            refine (lives8_any _).mono ?_
            rintro e wz ⟨rfl, hbz⟩
            go_wp2
            go_ret
            exact ⟨rfl, HB1.out.trans ((HB9a.out.trans (hbz.mono HB9a.out.size)).mono hsz1)⟩
        · clear hv
          go_wp2_with fail
          refine (few_all _ n1 d1 l1 8 _ HL1.out (by omega) (HR1.out.below HB5.out) (by omega)).mono ?_
          rintro e w6a ⟨g6, d6, rfl, hown6, hb6⟩
          have hr6 := Rd_of_own hown6
          have HB6a := hid (HB5.out.trans (hb6.mono HB5.out.size))
          clear hown6 hb6
          go_wp2_with fail
          refine (matchesC_any _ n1 d6 l1 s1 _ HL1.out (by omega) hr6 (by omega)).mono ?_
          rintro e w7a ⟨rfl, hb7⟩
          have HB7a := hid (HB6a.out.trans (hb7.mono HB6a.out.size))
          clear hb7 hr6
          cases hmm : matchM l1 s1.data.toList
          · clear hmm HEX
            go_wp2_with fail
            refine (lives8_any _).mono ?_
            rintro e wz ⟨rfl, hbz⟩
            go_wp2
            go_ret
            exact ⟨rfl, HB1.out.trans ((HB7a.out.trans (hbz.mono HB7a.out.size)).mono hsz1)⟩
          · have HE2 : Hid (leastM l1 = s1.size) := by rw [Hid, ← HEX.out HRU.out (by rw [← matchM_eq]; exact hmm), size_list]
            clear hmm HEX
            go_wp2_with fail
            refine (few_all _ n1 d1 l1 8 _ HL1.out (by omega) (HR1.out.below HB7a.out) (by omega)).mono ?_
            rintro e w8a ⟨g8, d8, rfl, hown8, hb8⟩
            have hr8 := Rd_of_own hown8
            have HB8a := hid (HB7a.out.trans (hb8.mono HB7a.out.size))
            clear hown8 hb8
            go_wp2_with fail
            refine (least_any _ n1 d8 l1 _ HL1.out (by omega) hr8).mono ?_
            rw [HE2.out]
            rintro e w9a ⟨rfl, hb9⟩
            have HB9a := hid (HB8a.out.trans (hb9.mono HB8a.out.size))
            clear hb9 hr8
            go_wp2_with fail
            refine (lives8_any _).mono ?_
            rintro e wz ⟨rfl, hbz⟩
            go_wp2
            go_ret
            exact ⟨rfl, HB1.out.trans ((HB9a.out.trans (hbz.mono HB9a.out.size)).mono hsz1)⟩
      · have HRU := hid hru
        clear hru
        go_wp2_with fail
        refine (voidR_any _ n1 d1 l1 _ HL1.out (by omega) (HR1.out.below HB.out)).mono ?_
        rintro e w5 ⟨rfl, hb5⟩
        have HB5 := hid (HB.out.trans (hb5.mono HB.out.size))
        clear hb5 HB
        cases hv : voidM l1
        · have HSM := hid (short_matches l1 hv)
          clear hv
          go_wp2_with fail
          refine (few_all _ n1 d1 l1 8 _ HL1.out (by omega) (HR1.out.below HB5.out) (by omega)).mono ?_
          rintro e w3a ⟨g3, d3, rfl, hown3, hb3⟩
          have hr3 := Rd_of_own hown3
          have HB3a := hid (HB5.out.trans (hb3.mono HB5.out.size))
          clear hown3 hb3
          go_wp2_with fail
          refine (matchesC_any _ n1 d3 l1 S _ HL1.out (by omega) hr3 (by omega)).mono ?_
          rw [HS.out, matchM_eq, HSM.out.1]
          rintro e w4a ⟨rfl, hb4⟩
          have HB4a := hid (HB3a.out.trans (hb4.mono HB3a.out.size))
          clear hb4 hr3
          go_wp2_with fail
          refine (few_all _ n1 d1 l1 8 _ HL1.out (by omega) (HR1.out.below HB4a.out) (by omega)).mono ?_
          rintro e w2a ⟨g2, d2, rfl, hown2, hb2⟩
          have hr2 := Rd_of_own hown2
          have HB2a := hid (HB4a.out.trans (hb2.mono HB4a.out.size))
          clear hown2 hb2
          go_wp2_with fail
          refine (least_any _ n1 d2 l1 _ HL1.out (by omega) hr2).mono ?_
          rw [← HSM.out.2, ← HSS.out]
          rintro e w5a ⟨rfl, hb5a⟩
          have HB5a := hid (HB2a.out.trans (hb5a.mono HB2a.out.size))
          clear hb5a hr2
          go_wp2_with fail
          refine (lives8_any _).mono ?_
          rintro e wz ⟨rfl, hbz⟩
          go_wp2
          go_ret
          exact ⟨rfl, HB1.out.trans ((HB5a.out.trans (hbz.mono HB5a.out.size)).mono hsz1)⟩
        · clear hv
          go_wp2_with fail
          refine (lives8_any _).mono ?_
          rintro e wz ⟨rfl, hbz⟩
          go_wp2
          go_ret
          exact ⟨rfl, HB1.out.trans ((HB5.out.trans (hbz.mono HB5.out.size)).mono hsz1)⟩
end Go.Proofs.Ytmcacdegikgmnaa
