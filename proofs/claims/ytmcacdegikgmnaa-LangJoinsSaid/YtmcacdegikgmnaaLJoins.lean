/- The law LangJoins: its walk. -/
import Derived.Test.YtmcacdegikgmnaaWh
import Derived.Test.YtmcacdegikgmnaaWa
import Derived.Test.YtmcacdegikgmnaaMix
namespace Go.Proofs.Ytmcacdegikgmnaa
open Go.RowKit

set_option maxRecDepth 20000 in
set_option maxHeartbeats 2000000 in
theorem langJoins_any (A B : Option Addr) (n c p d : Nat) (l m : List Item) (s : ByteArray) (w : World) (hl : l.length = n) (hn : n ≤ 9223372036854775807) (hr : Rd w A (itemCells l))
    (hm : m.length = p) (hp : p ≤ 9223372036854775807) (hq : Rd w B (itemCells m)) (hs : s.size ≤ 9223372036854775807) :
    Calls Try.prog 3 #[.slice A n c, .slice B p d, .string s] w fun e w' => e = .returned (.bool true) ∧ Below w.heap.size w w' := by
  go_enter Try.func3, Try.ntmps3
  go_wp2_with fail
  refine (few_any A n c l 5 _ hl hn hr (by omega)).mono ?_
  rintro e w1 ⟨g1, d1, rfl, hown1, hb1⟩
  go_wp2_with fail
  refine (few_any B p d m 5 _ hm hp (hq.below hb1) (by omega)).mono ?_
  rintro e w2 ⟨g2, d2, rfl, hown2, hb2⟩
  have hown1b := own_below hown1 hb2
  have hb3 := hb1.trans (hb2.mono hb1.size)
  have hown2b := own_base hown2 hb1.size
  have hl1 : (l.take 5).length = min 5 n := by rw [List.length_take, hl]
  have hm1 : (m.take 5).length = min 5 p := by rw [List.length_take, hm]
  have hn5 : min 5 n ≤ 5 := by omega
  have hp5 : min 5 p ≤ 5 := by omega
  generalize l.take 5 = l1 at *
  generalize m.take 5 = m1 at *
  generalize min 5 n = n1 at *
  generalize min 5 p = p1 at *
  clear hown1 hown2 hb1 hb2 hr hq hl hm
  go_wp2_with fail
  refine (cut_any s 10 _ hs (by omega)).mono ?_
  have hs1 : (if 10 < s.size then s.extract 0 10 else s).size ≤ 10 := by split <;> (try simp) <;> omega
  generalize (if 10 < s.size then s.extract 0 10 else s) = s1 at *
  rintro e w3 ⟨rfl, rfl⟩
  have HL1 := hid hl1; have HM1 := hid hm1
  have hr1 := Rd_of_own hown1b
  have hq1 := Rd_of_own hown2b
  have hsz3 := hb3.size
  clear hl1 hm1
  go_wp2_with fail
  refine (goodRef_any _ n1 d1 l1 _ HL1.out (by omega) hr1).mono ?_
  rintro e w3 ⟨rfl, rfl⟩
  cases hg : goodM l1
  · go_wp2_with fail
    refine (lives8_any _).mono ?_
    rintro e w4 ⟨rfl, hb4⟩
    go_wp2
    go_ret
    exact ⟨rfl, hb3.trans (hb4.mono hsz3)⟩
  go_wp2_with fail
  refine (goodRef_any _ p1 d2 m1 _ HM1.out (by omega) hq1).mono ?_
  rintro e w3 ⟨rfl, rfl⟩
  cases hg2 : goodM m1
  · go_wp2_with fail
    refine (lives8_any _).mono ?_
    rintro e w4 ⟨rfl, hb4⟩
    go_wp2
    go_ret
    exact ⟨rfl, hb3.trans (hb4.mono hsz3)⟩
  clear hg hg2
  have HO1 := hid hown1b; have HO2 := hid hown2b; have HR1 := hid hr1; have HQ1 := hid hq1; have HB3 := hid hb3
  clear hown1b hown2b hr1 hq1 hb3
  obtain ⟨wo, hwo⟩ : ∃ wo, wo = w2 := ⟨_, rfl⟩
  subst hwo
  go_wp2_with fail
  go_loopw [7, 8] (fun v i wr => ∃ (k : Nat), k ≤ s1.size + 1 ∧ i = .int .i64 k ∧ v = .bool (anyTo l1 m1 s1.data.toList k) ∧ Below wo.heap.size wo wr) (fun _ i _ => s1.size + 1 - (intOf i).toNat)
  case atStart => exact ⟨0, by omega, rfl, rfl, Below.refl _ _⟩
  case round =>
    obtain ⟨k, hk, rfl, rfl, hb⟩ := hrel
    have HB := hid hb
    have HAN := hid (anyTo_succ l1 m1 s1.data.toList k)
    clear hb
    by_cases hlt : k < s1.size + 1
    · have HT : Hid ((s1.extract 0 k).data.toList = s1.data.toList.take k) := by simp [Hid]
      have HD : Hid ((s1.extract k s1.size).data.toList = s1.data.toList.drop k) := by
        rw [Hid]; simp; rw [List.take_of_length_le (by simp)]
      cases hav : anyTo l1 m1 s1.data.toList k
      · rw [hav] at HAN
        clear hav
        cases hml : matchM l1 (s1.data.toList.take k)
        · rw [hml] at HAN
          have HML := hid hml; clear hml
          go_wp2_with fail
          refine wp_region_mix [(0, true), (1, true), (2, true), (4, true), (5, true), (6, true), (3, false), (7, false), (8, true), (9, true), (11, true), (12, true), (13, true), (10, false), (14, false), (15, true), (16, true), (17, true)] (by kernel_rfl) (by kernel_rfl) ?_
          repeat (refine wpMix_val rfl ?_; go_big_quiet_step (fail); refine wpQuiet_nil ?_)
          refine wpMix_op rfl ?_
          go_wp2_with fail
          refine (few_all _ n1 d1 l1 5 _ HL1.out (by omega) (HR1.out.below HB.out.drew) (by omega)).mono ?_
          rintro e w5 ⟨g5, d5, rfl, hown5, hb5⟩
          have hr5 := Rd_of_own hown5
          have hb5' := HB.out.drew.trans (hb5.mono HB.out.size)
          clear hown5 hb5
          go_wp2_with fail
          refine wpMix_op rfl ?_
          go_wp2_with fail
          refine (matchesC_any _ n1 d5 l1 (s1.extract 0 k) _ HL1.out (by omega) hr5 (by simp; omega)).mono ?_
          rw [HT.out, HML.out]
          rintro e w6 ⟨rfl, hb6⟩
          have HB6 := hid (hb5'.trans (hb6.mono hb5'.size))
          clear hb6 hb5' hr5
          go_wp2_with fail
          repeat (refine wpMix_val rfl ?_; go_big_quiet_step (fail); refine wpQuiet_nil ?_)
          refine wpMix_op rfl ?_
          go_wp2_with fail
          refine wpMix_op rfl ?_
          go_wp2_with fail
          repeat (refine wpMix_val rfl ?_; go_big_quiet_step (fail); refine wpQuiet_nil ?_)
          refine wpMix_nil ?_
          go_wp2
          go_roundw
          case rel => exact ⟨k + 1, by omega, by go_num, by rw [HAN.out]; rfl, HB6.out⟩
          case measure => simp [intOf]; omega
        · rw [hml] at HAN
          have HML := hid hml; clear hml
          go_wp2_with fail
          refine wp_region_mix [(0, true), (1, true), (2, true), (4, true), (5, true), (6, true), (3, false), (7, false), (8, true), (9, true), (11, true), (12, true), (13, true), (10, false), (14, false), (15, true), (16, true), (17, true)] (by kernel_rfl) (by kernel_rfl) ?_
          repeat (refine wpMix_val rfl ?_; go_big_quiet_step (fail); refine wpQuiet_nil ?_)
          refine wpMix_op rfl ?_
          go_wp2_with fail
          refine (few_all _ n1 d1 l1 5 _ HL1.out (by omega) (HR1.out.below HB.out.drew) (by omega)).mono ?_
          rintro e w5 ⟨g5, d5, rfl, hown5, hb5⟩
          have hr5 := Rd_of_own hown5
          have hb5' := HB.out.drew.trans (hb5.mono HB.out.size)
          clear hown5 hb5
          go_wp2_with fail
          refine wpMix_op rfl ?_
          go_wp2_with fail
          refine (matchesC_any _ n1 d5 l1 (s1.extract 0 k) _ HL1.out (by omega) hr5 (by simp; omega)).mono ?_
          rw [HT.out, HML.out]
          rintro e w6 ⟨rfl, hb6⟩
          have HB6 := hid (hb5'.trans (hb6.mono hb5'.size))
          clear hb6 hb5' hr5
          go_wp2_with fail
          repeat (refine wpMix_val rfl ?_; go_big_quiet_step (fail); refine wpQuiet_nil ?_)
          refine wpMix_op rfl ?_
          go_wp2_with fail
          refine (few_all _ p1 d2 m1 5 _ HM1.out (by omega) (HQ1.out.below HB6.out) (by omega)).mono ?_
          rintro e w7 ⟨g7, d7, rfl, hown7, hb7⟩
          have hr7 := Rd_of_own hown7
          have hb7' := HB6.out.trans (hb7.mono HB6.out.size)
          clear hown7 hb7
          go_wp2_with fail
          refine wpMix_op rfl ?_
          go_wp2_with fail
          refine (matchesC_any _ p1 d7 m1 (s1.extract k s1.size) _ HM1.out (by omega) hr7 (by simp; omega)).mono ?_
          rw [HD.out]
          rintro e w8 ⟨rfl, hb8⟩
          have HB8 := hid (hb7'.trans (hb8.mono hb7'.size))
          clear hb8 hb7' hr7
          go_wp2_with fail
          repeat (refine wpMix_val rfl ?_; go_big_quiet_step (fail); refine wpQuiet_nil ?_)
          refine wpMix_nil ?_
          go_wp2
          go_roundw
          case rel => exact ⟨k + 1, by omega, by go_num, by rw [HAN.out]; rfl, HB8.out⟩
          case measure => simp [intOf]; omega
      · rw [hav] at HAN
        clear hav
        go_wp2_with fail
        refine wp_region_mix [(0, true), (1, true), (2, true), (4, true), (5, true), (6, true), (3, false), (7, false), (8, true), (9, true), (11, true), (12, true), (13, true), (10, false), (14, false), (15, true), (16, true), (17, true)] (by kernel_rfl) (by kernel_rfl) ?_
        repeat (refine wpMix_val rfl ?_; go_big_quiet_step (fail); refine wpQuiet_nil ?_)
        refine wpMix_op rfl ?_
        go_wp2_with fail
        refine wpMix_op rfl ?_
        go_wp2_with fail
        repeat (refine wpMix_val rfl ?_; go_big_quiet_step (fail); refine wpQuiet_nil ?_)
        refine wpMix_op rfl ?_
        go_wp2_with fail
        refine wpMix_op rfl ?_
        go_wp2_with fail
        repeat (refine wpMix_val rfl ?_; go_big_quiet_step (fail); refine wpQuiet_nil ?_)
        refine wpMix_nil ?_
        go_wp2
        go_roundw
        case rel => exact ⟨k + 1, by omega, by go_num, by rw [HAN.out]; rfl, HB.out.drew⟩
        case measure => simp [intOf]; omega
    · go_wp2_with fail
      refine (few_all _ n1 d1 l1 5 _ HL1.out (by omega) (HR1.out.below HB.out) (by omega)).mono ?_
      rintro e w5 ⟨g5, d5, rfl, hown5, hb5⟩
      have hb5' := HB.out.trans (hb5.mono HB.out.size)
      have hq5 := own_below HO2.out hb5'
      obtain ⟨i0, hi, hz0, hz1, hz2⟩ := info_parts Try.infoItem
      have HCS := hid (hq5.cells (g := g2) rfl)
      have HQ5 := hid hq5
      have HO5 := hid hown5
      have HB5 := hid hb5'
      have hsz5 := hb5.size
      have hszr := HB.out.size
      clear hq5 hown5 hb5 hb5'
      go_wp2_with (at_builtin; refine wpList_append_own _ rfl _ _ 22 rfl wr.heap.size 42 i0 _ 5 40 Try.underlying22 hi hz0 hz1 hz2 rfl (by decide) _ _ _ rfl HO5.out ⟨g2, 0, none⟩ p1 d2 (itemCells m1) rfl ?_ HCS.out (itemCells_one m1) ?_ ?_ hsz5 ?_)
      · rw [itemCells_length, HM1.out]
      · unfold maxLen; omega
      · omega
      intro v6 w6 hown6 hg6 _
      obtain ⟨A6, d6, rfl, hr6⟩ := own_shape hown6
      have hb6 := HB5.out.trans ((below_grown (Below.refl wr.heap.size w5) HO5.out hg6 (Nat.le_refl _) hsz5).mono hszr)
      rw [← itemCells_append] at hr6
      have HJ := hid (joins_law l1 m1 s1.data.toList)
      have HKK : Hid (k = s1.data.toList.length + 1) := by rw [Hid, size_list]; omega
      rw [← HKK.out] at HJ
      clear hown6 hg6 hi hz0 hz1 hz2
      go_wp2_with fail
      refine (matchesC_any A6 _ d6 (l1 ++ m1) s1 _ (by rw [List.length_append, HL1.out, HM1.out]) (by omega) hr6 (by omega)).mono ?_
      rw [HJ.out]
      rintro e w7 ⟨rfl, hb7⟩
      have HB7 := hid (hb6.trans (hb7.mono hb6.size))
      clear hr6 hb6 hb7
      generalize anyTo l1 m1 s1.data.toList k = v at *
      have hv : (v == v) = true := by simp
      go_wp2_with fail
      refine (lives8_any _).mono ?_
      rintro e w8 ⟨rfl, hb8⟩
      have HB8 := hid (HB7.out.trans (hb8.mono HB7.out.size))
      clear hb8
      go_wp2
      go_ret
      exact ⟨rfl, HB3.out.trans (HB8.out.mono hsz3)⟩
end Go.Proofs.Ytmcacdegikgmnaa
