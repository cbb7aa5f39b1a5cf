/- The law TableMakes: its walk. -/
import Derived.Test.YtmcacdegikgmnaaWs
import Derived.Test.YtmcacdegikgmnaaWq
import Derived.Test.YtmcacdegikgmnaaWa
namespace Go.Proofs.Ytmcacdegikgmnaa
open Go.RowKit

theorem int_u64 (x : Int) (h : Lit.wf (.int .u64 x) = true) : ∃ y : BitVec 64, x = (y.toNat : Int) := by
  have hb : 0 ≤ x ∧ x < 18446744073709551616 := by
    simp [Lit.wf, IntKind.min, IntKind.max, IntKind.signed, IntKind.bits] at h
    omega
  refine ⟨BitVec.ofNat 64 x.toNat, ?_⟩
  rw [BitVec.toNat_ofNat, Nat.mod_eq_of_lt (by omega)]
  omega
theorem int_u8 (x : Int) (h : Lit.wf (.int .u8 x) = true) : ∃ y : Nat, x = (y : Int) ∧ y < 256 := by
  have hb : 0 ≤ x ∧ x < 256 := by
    simp [Lit.wf, IntKind.min, IntKind.max, IntKind.signed, IntKind.bits] at h
    omega
  exact ⟨x.toNat, by omega, by omega⟩

set_option maxRecDepth 100000 in
set_option maxHeartbeats 2000000 in
theorem tableMakes_any (A : Option Addr) (n c : Nat) (l : List Item) (xi bi : Int) (w : World) (hl : l.length = n) (hn : n ≤ 9223372036854775807) (hr : Rd w A (itemCells l)) (hx : Lit.wf (.int .u64 xi) = true) (hb : Lit.wf (.int .u8 bi) = true) :
    Calls Try.prog 10 #[.slice A n c, .int .u64 xi, .int .u8 bi] w fun e w' => e = .returned (.bool true) ∧ Below w.heap.size w w' := by
  obtain ⟨x, rfl⟩ := int_u64 xi hx
  obtain ⟨b, rfl, hb8⟩ := int_u8 bi hb
  clear hx hb
  go_enter Try.func10, Try.ntmps10
  go_wp2_with fail
  refine (few_any A n c l 62 _ hl hn hr (by omega)).mono ?_
  rintro e w1 ⟨g1, d1, rfl, hown1, hb1⟩
  have hl1 : (l.take 62).length = min 62 n := by rw [List.length_take, hl]
  have hn5 : min 62 n ≤ 62 := by omega
  generalize l.take 62 = l1 at *
  generalize min 62 n = n1 at *
  clear hr hl
  have HL1 := hid hl1
  have hr1 := Rd_of_own hown1
  clear hl1 hown1
  generalize (some (⟨g1, 0, none⟩ : Addr)) = A1 at *
  have hsz1 := hb1.size
  have HB1 := hid hb1; have HR1 := hid hr1
  clear hb1 hr1
  go_wp2_with fail
  refine (few_all _ n1 d1 l1 62 _ HL1.out (by omega) HR1.out (by omega)).mono ?_
  rintro e w2 ⟨g2, d2, rfl, hown2, hb2⟩
  have hr2 := Rd_of_own hown2
  have HB2 := hid (HB1.out.trans (hb2.mono hsz1))
  have HR2 := hid (HR1.out.below hb2)
  clear hown2 hb2
  go_wp2_with fail
  refine (compile_any _ n1 d2 l1 _ HL1.out (by omega) hr2).mono ?_
  rintro e w3 ⟨hcase, hb3⟩
  have HB3 := hid (HB2.out.trans (hb3.mono HB2.out.size))
  have HR3 := hid (HR2.out.below hb3)
  clear hr2 hb3
  rcases hcase with ⟨hg, rfl⟩ | ⟨hg, hm, rfl⟩ | ⟨hg, hm, g, rfl, ht⟩
  · have HG := hid hg
    clear hg
    go_wp2_with fail
    refine (goodRef_any _ n1 d1 l1 _ HL1.out (by omega) HR3.out).mono ?_
    rw [HG.out]
    rintro e w4 ⟨rfl, rfl⟩
    go_wp2_with fail
    refine (lives9_any _).mono ?_
    rintro e w5 ⟨rfl, hb5⟩
    go_wp2
    go_ret
    exact ⟨rfl, HB3.out.trans (hb5.mono HB3.out.size)⟩
  · have HG := hid hg
    have HLZ : Hid (leastM l1 = 0) := by
      have := least_le l1 [] (by rw [← matchM_eq]; exact hm)
      simp only [Hid, List.length_nil] at this ⊢; omega
    clear hg hm
    go_wp2_with fail
    refine (goodRef_any _ n1 d1 l1 _ HL1.out (by omega) HR3.out).mono ?_
    rw [HG.out]
    rintro e w4 ⟨rfl, rfl⟩
    go_wp2_with fail
    refine (leastR_any _ n1 d1 l1 _ HL1.out (by omega) HR3.out).mono ?_
    rw [HLZ.out]
    rintro e w4 ⟨rfl, hb4⟩
    have HB4 := hid (HB3.out.trans (hb4.mono HB3.out.size))
    clear hb4
    go_wp2_with fail
    refine (lives9_any _).mono ?_
    rintro e w5 ⟨rfl, hb5⟩
    go_wp2
    go_ret
    exact ⟨rfl, HB4.out.trans (hb5.mono HB4.out.size)⟩
  · have HG := hid hg
    have HTB := hid ht
    have hgh := good_has l1 hg
    have HGH := hid hgh.1
    have HN : Hid (l1.length ≤ 60) := by have := hgh.2; simp only [Hid]; omega
    have HN1 : Hid (n1 ≤ 60) := by rw [Hid, ← HL1.out]; exact HN.out
    have hlz : 0 < leastM l1 := by
      rcases Nat.eq_zero_or_pos (leastM l1) with h | h
      · have h1 : (l1.any fun x => !x.run) = false := by
          unfold leastM at h
          have h2 := List.eq_nil_of_length_eq_zero h
          cases hx : l1.any fun x => !x.run with
          | false => rfl
          | true =>
            obtain ⟨y, hy1, hy2⟩ := List.any_eq_true.1 hx
            have : y ∈ l1.filter fun x => !x.run := List.mem_filter.2 ⟨hy1, hy2⟩
            rw [h2] at this; cases this
        rw [matchM_eq, matchR_nil, h1] at hm; cases hm
      · exact h
    have HLE : Hid (leastM l1 ≤ n1) := by
      unfold leastM; have := List.length_filter_le (fun x : Item => !x.run) l1; have := HL1.out; simp only [Hid]; omega
    clear hg hm ht hgh
    go_wp2_with fail
    refine (goodRef_any _ n1 d1 l1 _ HL1.out (by omega) HR3.out).mono ?_
    rw [HG.out]
    rintro e w4 ⟨rfl, rfl⟩
    go_wp2_with fail
    refine (leastR_any _ n1 d1 l1 _ HL1.out (by omega) HR3.out).mono ?_
    have hle2 := HLE.out
    generalize leastM l1 = q at *
    rintro e w4 ⟨rfl, hb4⟩
    have HB4 := hid (HB3.out.trans (hb4.mono HB3.out.size))
    have HT4 := hid (HTB.out.below hb4)
    have HR4 := hid (HR3.out.below hb4)
    clear hb4 HLE
    go_wp2_with fail
    refine (len_any g l1 _ HT4.out).mono ?_
    rw [HL1.out]
    rintro e w5 ⟨rfl, rfl⟩
    go_wp2_with fail
    refine (startC_any g l1 _ HN.out HT4.out).mono ?_
    rintro e w5 ⟨rfl, rfl⟩
    go_wp2_with fail
    refine (startR_any _ n1 d1 l1 _ HL1.out HN1.out HR4.out).mono ?_
    generalize startW l1 = x0 at *
    rintro e w6 ⟨rfl, hb6⟩
    have HB6 := hid (HB4.out.trans (hb6.mono HB4.out.size))
    have HT6 := hid (HT4.out.below hb6)
    have HR6 := hid (HR4.out.below hb6)
    clear hb6
    go_wp2_with fail
    refine (stepC_any g l1 x b _ HN.out hb8 HT6.out).mono ?_
    rintro e w7 ⟨rfl, hb7⟩
    have HB7 := hid (HB6.out.trans (hb7.mono HB6.out.size))
    have HT7 := hid (HT6.out.below hb7)
    have HR7 := hid (HR6.out.below hb7)
    clear hb7
    go_wp2_with fail
    refine (stepR_any _ n1 d1 l1 x b _ HL1.out HN1.out HR7.out hb8 HGH.out).mono ?_
    generalize stepW l1 x b = x1 at *
    rintro e w8 ⟨rfl, hb8'⟩
    have HB8 := hid (HB7.out.trans (hb8'.mono HB7.out.size))
    have HT8 := hid (HT7.out.below hb8')
    have HR8 := hid (HR7.out.below hb8')
    clear hb8'
    go_wp2_with fail
    refine (seek_any g l1 x b _ HN.out hb8 HT8.out).mono ?_
    rintro e w9 ⟨rfl, hb9⟩
    have HB9 := hid (HB8.out.trans (hb9.mono HB8.out.size))
    have HT9 := hid (HT8.out.below hb9)
    have HR9 := hid (HR8.out.below hb9)
    clear hb9
    go_wp2_with fail
    refine (seekR_any _ n1 d1 l1 x b _ HL1.out HN1.out HR9.out hb8 HGH.out).mono ?_
    generalize seekW l1 x b = x2 at *
    rintro e wa ⟨rfl, hba⟩
    have HBa := hid (HB9.out.trans (hba.mono HB9.out.size))
    have HTa := hid (HT9.out.below hba)
    have HRa := hid (HR9.out.below hba)
    clear hba
    go_wp2_with fail
    refine (done_any g l1 x _ HN.out HTa.out).mono ?_
    rintro e wb ⟨rfl, hbb⟩
    have HBb := hid (HBa.out.trans (hbb.mono HBa.out.size))
    have HRb := hid (HRa.out.below hbb)
    clear hbb
    go_wp2_with fail
    refine (doneR_any _ n1 d1 l1 x _ HL1.out HN1.out HRb.out).mono ?_
    generalize doneW l1 x = x3 at *
    rintro e wc ⟨rfl, hbc⟩
    have HBc := hid (HBb.out.trans (hbc.mono HBb.out.size))
    clear hbc
    go_wp2_with fail
    refine (lives9_any _).mono ?_
    rintro e wd ⟨rfl, hbd⟩
    go_wp2
    go_ret
    exact ⟨rfl, HBc.out.trans (hbd.mono HBc.out.size)⟩
end Go.Proofs.Ytmcacdegikgmnaa
