/- The law LangFinds: its walk. -/
import Derived.Test.YtmcacdegikgmnaaWl
import Derived.Test.YtmcacdegikgmnaaWm
import Derived.Test.YtmcacdegikgmnaaWh
import Derived.Test.YtmcacdegikgmnaaWa
namespace Go.Proofs.Ytmcacdegikgmnaa
open Go.RowKit

theorem startsZ_length (l : List Item) (w : List UInt8) (to : Int) : (startsZ l w to).length ≤ w.length + 1 := by
  unfold startsZ; split
  · have := startsTo_length l w to.toNat (to.toNat + 1)
    unfold startsM; omega
  · simp

set_option maxRecDepth 100000 in
set_option maxHeartbeats 2000000 in
theorem langFinds_any (A : Option Addr) (n c : Nat) (l : List Item) (s : ByteArray) (to : Int) (w : World) (hl : l.length = n) (hn : n ≤ 9223372036854775807) (hr : Rd w A (itemCells l)) (hs : s.size ≤ 9223372036854775807) (ht : Lit.wf (.int .i64 to) = true) :
    Calls Try.prog 7 #[.slice A n c, .string s, .int .i64 to] w fun e w' => e = .returned (.bool true) ∧ Below w.heap.size w w' := by
  have hto : -9223372036854775808 ≤ to ∧ to ≤ 9223372036854775807 := by
    simp [Lit.wf, IntKind.min, IntKind.max, IntKind.signed, IntKind.bits] at ht
    omega
  have HTO := hid hto
  clear ht hto
  go_enter Try.func7, Try.ntmps7
  go_wp2_with fail
  refine (few_any A n c l 6 _ hl hn hr (by omega)).mono ?_
  rintro e w1 ⟨g1, d1, rfl, hown1, hb1⟩
  have hl1 : (l.take 6).length = min 6 n := by rw [List.length_take, hl]
  have hn5 : min 6 n ≤ 6 := by omega
  generalize l.take 6 = l1 at *
  generalize min 6 n = n1 at *
  clear hr hl
  have HL1 := hid hl1
  have hr1 := Rd_of_own hown1
  clear hl1 hown1
  generalize (some (⟨g1, 0, none⟩ : Addr)) = A1 at *
  go_wp2_with fail
  refine (cut_any s 12 _ hs (by omega)).mono ?_
  have hs1 : (if 12 < s.size then s.extract 0 12 else s).size ≤ 12 := by split <;> (try simp) <;> omega
  generalize (if 12 < s.size then s.extract 0 12 else s) = s1 at *
  rintro e w3 ⟨rfl, rfl⟩
  have hsz1 := hb1.size
  go_wp2_with fail
  refine (goodRef_any _ n1 d1 l1 _ HL1.out (by omega) hr1).mono ?_
  rintro e w3 ⟨rfl, rfl⟩
  have HB1 := hid hb1; have HR1 := hid hr1
  clear hb1 hr1
  cases hg : goodM l1
  · clear hg
    go_wp2_with fail
    refine (lives8_any _).mono ?_
    rintro e w4 ⟨rfl, hb4⟩
    go_wp2
    go_ret
    exact ⟨rfl, HB1.out.trans (hb4.mono hsz1)⟩
  clear hg
  go_wp2_with fail
  refine (few_all _ n1 d1 l1 6 _ HL1.out (by omega) HR1.out (by omega)).mono ?_
  rintro e w2 ⟨g2, d2, rfl, hown2, hb2⟩
  have hr2 := Rd_of_own hown2
  have HB2 := hid (HB1.out.trans (hb2.mono hsz1))
  have HR2 := hid (HR1.out.below hb2)
  clear hown2 hb2
  go_wp2_with fail
  refine (first_any _ n1 d2 l1 s1 _ HL1.out (by omega) hr2 (by omega)).mono ?_
  rintro e w3 ⟨rfl, hb3⟩
  have HB3 := hid (HB2.out.trans (hb3.mono HB2.out.size))
  have HR3 := hid (HR2.out.below hb3)
  clear hr2 hb3
  go_wp2_with fail
  refine (firstR_any _ n1 d1 l1 s1 _ HL1.out (by omega) HR3.out (by omega)).mono ?_
  rintro e w4 ⟨rfl, hb4⟩
  have HB4 := hid (HB3.out.trans (hb4.mono HB3.out.size))
  have HR4 := hid (HR3.out.below hb4)
  clear hb4
  generalize (firstM l1 s1.data.toList).1 = fa at *
  generalize (firstM l1 s1.data.toList).2.1 = fb at *
  generalize (firstM l1 s1.data.toList).2.2 = fc at *
  go_wp2_with fail
  refine (few_all _ n1 d1 l1 6 _ HL1.out (by omega) HR4.out (by omega)).mono ?_
  rintro e w5 ⟨g5, d5, rfl, hown5, hb5⟩
  have hr5 := Rd_of_own hown5
  have HB5 := hid (HB4.out.trans (hb5.mono HB4.out.size))
  have HR5 := hid (HR4.out.below hb5)
  clear hown5 hb5
  go_wp2_with fail
  refine (endsC_any _ n1 d5 l1 s1 _ HL1.out (by omega) hr5 (by omega)).mono ?_
  rintro e w6 ⟨A6, c6, rfl, hown6, hb6⟩
  have HI6 := hid (Rd_of_own hown6)
  have HB6 := hid (HB5.out.trans (hb6.mono HB5.out.size))
  have HR6 := hid (HR5.out.below hb6)
  clear hown6 hb6 hr5
  go_wp2_with fail
  refine (endsR_any _ n1 d1 l1 s1 _ HL1.out (by omega) HR6.out (by omega)).mono ?_
  rintro e w7 ⟨A7, c7, rfl, hown7, hb7⟩
  have HI7 := hid (Rd_of_own hown7)
  have HJ7 := hid (HI6.out.below hb7)
  have HB7 := hid (HB6.out.trans (hb7.mono HB6.out.size))
  have HR7 := hid (HR6.out.below hb7)
  clear hown7 hb7
  have HEL := hid (endsTo_length l1 s1.data.toList (s1.data.toList.length + 1))
  have HSZ := hid (size_list s1)
  go_wp2_with fail
  refine (same_any _ _ _ _ _ ((endsL l1 s1.data.toList).map Int.ofNat) _ (by simp) (by have := HEL.out; have := HSZ.out; unfold endsL; omega) HJ7.out HI7.out).mono ?_
  rintro e w8 ⟨rfl, hb8⟩
  have HB8 := hid (HB7.out.trans (hb8.mono HB7.out.size))
  have HR8 := hid (HR7.out.below hb8)
  clear hb8
  go_wp2_with fail
  refine (few_all _ n1 d1 l1 6 _ HL1.out (by omega) HR8.out (by omega)).mono ?_
  rintro e w9 ⟨g9, d9, rfl, hown9, hb9⟩
  have hr9 := Rd_of_own hown9
  have HB9 := hid (HB8.out.trans (hb9.mono HB8.out.size))
  have HR9 := hid (HR8.out.below hb9)
  clear hown9 hb9
  go_wp2_with fail
  refine (startsC_any _ n1 d9 l1 s1 to _ HL1.out (by omega) hr9 (by omega) HTO.out.1 HTO.out.2).mono ?_
  rintro e wa ⟨Aa, ca, rfl, howna, hba⟩
  have HIa := hid (Rd_of_own howna)
  have HBa := hid (HB9.out.trans (hba.mono HB9.out.size))
  have HRa := hid (HR9.out.below hba)
  clear howna hba hr9
  go_wp2_with fail
  refine (startsR_any _ n1 d1 l1 s1 to _ HL1.out (by omega) HRa.out (by omega) HTO.out.1 HTO.out.2).mono ?_
  rintro e wb ⟨Ab, cb, rfl, hownb, hbb⟩
  have HIb := hid (Rd_of_own hownb)
  have HJb := hid (HIa.out.below hbb)
  have HBb := hid (HBa.out.trans (hbb.mono HBa.out.size))
  clear hownb hbb
  have HZL := hid (startsZ_length l1 s1.data.toList to)
  go_wp2_with fail
  refine (same_any _ _ _ _ _ ((startsZ l1 s1.data.toList to).map Int.ofNat) _ (by simp) (by have := HZL.out; have := HSZ.out; omega) HJb.out HIb.out).mono ?_
  rintro e wc ⟨rfl, hbc⟩
  have HBc := hid (HBb.out.trans (hbc.mono HBb.out.size))
  clear hbc
  go_wp2_with fail
  refine (lives8_any _).mono ?_
  rintro e wz ⟨rfl, hbz⟩
  go_wp2
  go_ret
  exact ⟨rfl, HBc.out.trans (hbz.mono HBc.out.size)⟩
end Go.Proofs.Ytmcacdegikgmnaa
