/- The law LangMatches: its walk. -/
import Derived.Test.YtmcacdegikgmnaaWk
import Derived.Test.YtmcacdegikgmnaaWm
import Derived.Test.YtmcacdegikgmnaaWh
import Derived.Test.YtmcacdegikgmnaaWa
namespace Go.Proofs.Ytmcacdegikgmnaa
open Go.RowKit

set_option maxRecDepth 100000 in
set_option maxHeartbeats 2000000 in
theorem langMatches_any (A : Option Addr) (n c : Nat) (l : List Item) (s : ByteArray) (w : World) (hl : l.length = n) (hn : n ≤ 9223372036854775807) (hr : Rd w A (itemCells l)) (hs : s.size ≤ 9223372036854775807) :
    Calls Try.prog 8 #[.slice A n c, .string s] w fun e w' => e = .returned (.bool true) ∧ Below w.heap.size w w' := by
  go_enter Try.func8, Try.ntmps8
  go_wp2_with fail
  refine (few_any A n c l 8 _ hl hn hr (by omega)).mono ?_
  rintro e w1 ⟨g1, d1, rfl, hown1, hb1⟩
  have hl1 : (l.take 8).length = min 8 n := by rw [List.length_take, hl]
  have hn5 : min 8 n ≤ 8 := by omega
  generalize l.take 8 = l1 at *
  generalize min 8 n = n1 at *
  clear hr hl
  have HL1 := hid hl1
  have hr1 := Rd_of_own hown1
  clear hl1 hown1
  generalize (some (⟨g1, 0, none⟩ : Addr)) = A1 at *
  go_wp2_with fail
  refine (cut_any s 14 _ hs (by omega)).mono ?_
  have hs1 : (if 14 < s.size then s.extract 0 14 else s).size ≤ 14 := by split <;> (try simp) <;> omega
  generalize (if 14 < s.size then s.extract 0 14 else s) = s1 at *
  rintro e w3 ⟨rfl, rfl⟩
  have hsz1 := hb1.size
  go_wp2_with fail
  refine (goodRef_any _ n1 d1 l1 _ HL1.out (by omega) hr1).mono ?_
  rintro e w3 ⟨rfl, rfl⟩
  have HB1 := hid hb1; have HR1 := hid hr1
  clear hb1 hr1
  cases hg : goodM l1
  · clear hg
    go_wp2_with fail
    refine (lives8_any _).mono ?_
    rintro e w4 ⟨rfl, hb4⟩
    go_wp2
    go_ret
    exact ⟨rfl, HB1.out.trans (hb4.mono hsz1)⟩
  clear hg
  go_wp2_with fail
  refine (few_all _ n1 d1 l1 8 _ HL1.out (by omega) HR1.out (by omega)).mono ?_
  rintro e w2 ⟨g2, d2, rfl, hown2, hb2⟩
  have hr2 := Rd_of_own hown2
  have HB2 := hid (HB1.out.trans (hb2.mono hsz1))
  have HR2 := hid (HR1.out.below hb2)
  clear hown2 hb2
  go_wp2_with fail
  refine (matchesC_any _ n1 d2 l1 s1 _ HL1.out (by omega) hr2 (by omega)).mono ?_
  rintro e w3 ⟨rfl, hb3⟩
  have HB3 := hid (HB2.out.trans (hb3.mono HB2.out.size))
  have HR3 := hid (HR2.out.below hb3)
  clear hr2 hb3
  go_wp2_with fail
  refine (matchesR_any _ n1 d1 l1 s1 _ HL1.out (by omega) HR3.out (by omega)).mono ?_
  rintro e w4 ⟨rfl, hb4⟩
  have HB4 := hid (HB3.out.trans (hb4.mono HB3.out.size))
  have HR4 := hid (HR3.out.below hb4)
  clear hb4
  have HVN : Hid (matchM l1 s1.data.toList = true → voidM l1 = false) := fun h => void_none l1 s1.data.toList (by rw [← matchM_eq]; exact h)
  have HLE : Hid (matchM l1 s1.data.toList = true → leastM l1 ≤ s1.size) := fun h => by have := least_le l1 s1.data.toList (by rw [← matchM_eq]; exact h); rwa [size_list] at this
  have HLL : Hid (leastM l1 ≤ n1) := by
    unfold leastM; have := List.length_filter_le (fun x : Item => !x.run) l1; have := HL1.out; simp only [Hid]; omega
  generalize matchM l1 s1.data.toList = mm at *
  go_wp2_with fail
  refine (few_all _ n1 d1 l1 8 _ HL1.out (by omega) HR4.out (by omega)).mono ?_
  rintro e w5 ⟨g5, d5, rfl, hown5, hb5⟩
  have hr5 := Rd_of_own hown5
  have HB5 := hid (HB4.out.trans (hb5.mono HB4.out.size))
  have HR5 := hid (HR4.out.below hb5)
  clear hown5 hb5
  go_wp2_with fail
  refine (least_any _ n1 d5 l1 _ HL1.out (by omega) hr5).mono ?_
  rintro e w6 ⟨rfl, hb6⟩
  have HB6 := hid (HB5.out.trans (hb6.mono HB5.out.size))
  have HR6 := hid (HR5.out.below hb6)
  clear hb6 hr5
  go_wp2_with fail
  refine (leastR_any _ n1 d1 l1 _ HL1.out (by omega) HR6.out).mono ?_
  rintro e w7 ⟨rfl, hb7⟩
  have HB7 := hid (HB6.out.trans (hb7.mono HB6.out.size))
  have HR7 := hid (HR6.out.below hb7)
  clear hb7
  have CL : Hid (∀ W, Rd W A1 (itemCells l1) → Calls Try.prog 34 #[.slice A1 n1 d1] W fun e w' => e = .returned (.int .i64 (leastM l1 : Int)) ∧ Below W.heap.size W w') := fun W h => leastR_any _ n1 d1 l1 W HL1.out (by omega) h
  generalize leastM l1 = q at *
  go_wp2_with fail
  refine (few_all _ n1 d1 l1 8 _ HL1.out (by omega) HR7.out (by omega)).mono ?_
  rintro e w8 ⟨g8, d8, rfl, hown8, hb8⟩
  have hr8 := Rd_of_own hown8
  have HB8 := hid (HB7.out.trans (hb8.mono HB7.out.size))
  have HR8 := hid (HR7.out.below hb8)
  clear hown8 hb8
  go_wp2_with fail
  refine (voidC_any _ n1 d8 l1 _ HL1.out (by omega) hr8).mono ?_
  rintro e w9 ⟨rfl, hb9⟩
  have HB9 := hid (HB8.out.trans (hb9.mono HB8.out.size))
  have HR9 := hid (HR8.out.below hb9)
  clear hb9 hr8
  go_wp2_with fail
  refine (voidR_any _ n1 d1 l1 _ HL1.out (by omega) HR9.out).mono ?_
  rintro e wa ⟨rfl, hba⟩
  have HBa := hid (HB9.out.trans (hba.mono HB9.out.size))
  have HRa := hid (HR9.out.below hba)
  clear hba
  have CV : Hid (∀ W, Rd W A1 (itemCells l1) → Calls Try.prog 25 #[.slice A1 n1 d1] W fun e w' => e = .returned (.bool (voidM l1)) ∧ Below W.heap.size W w') := fun W h => voidR_any _ n1 d1 l1 W HL1.out (by omega) h
  generalize voidM l1 = vv at *
  go_wp2_with fail
  refine (few_all _ n1 d1 l1 8 _ HL1.out (by omega) HRa.out (by omega)).mono ?_
  rintro e wb ⟨gb, db, rfl, hownb, hbb⟩
  have hrb := Rd_of_own hownb
  have HBb := hid (HBa.out.trans (hbb.mono HBa.out.size))
  have HRb := hid (HRa.out.below hbb)
  clear hownb hbb
  go_wp2_with fail
  refine (emptyC_any _ n1 db l1 _ HL1.out (by omega) hrb).mono ?_
  rintro e wc ⟨rfl, hbc⟩
  have HBc := hid (HBb.out.trans (hbc.mono HBb.out.size))
  have HRc := hid (HRb.out.below hbc)
  clear hbc hrb
  go_wp2_with fail
  refine (matchesR_any _ n1 d1 l1 ⟨#[]⟩ _ HL1.out (by omega) HRc.out (by decide)).mono ?_
  rw [show (⟨#[]⟩ : ByteArray).data.toList = [] from rfl]
  rintro e wd ⟨rfl, hbd⟩
  have HBd := hid (HBc.out.trans (hbd.mono HBc.out.size))
  have HRd := hid (HRc.out.below hbd)
  clear hbd
  generalize matchM l1 [] = m0 at *
  cases mm
  · go_wp2_with fail
    refine (lives8_any _).mono ?_
    rintro e wz ⟨rfl, hbz⟩
    go_wp2
    go_ret
    exact ⟨rfl, HBd.out.trans (hbz.mono HBd.out.size)⟩
  · have hvv := HVN.out rfl
    subst hvv
    have hqs := HLE.out rfl
    go_wp2_with fail
    refine (CL.out _ HRd.out).mono ?_
    rintro e we ⟨rfl, hbe⟩
    have HBe := hid (HBd.out.trans (hbe.mono HBd.out.size))
    have HRe := hid (HRd.out.below hbe)
    clear hbe
    go_wp2_with fail
    refine (CV.out _ HRe.out).mono ?_
    rintro e wf ⟨rfl, hbf⟩
    have HBf := hid (HBe.out.trans (hbf.mono HBe.out.size))
    clear hbf
    go_wp2_with fail
    refine (lives8_any _).mono ?_
    rintro e wz ⟨rfl, hbz⟩
    go_wp2
    go_ret
    exact ⟨rfl, HBf.out.trans (hbz.mono HBf.out.size)⟩
end Go.Proofs.Ytmcacdegikgmnaa
