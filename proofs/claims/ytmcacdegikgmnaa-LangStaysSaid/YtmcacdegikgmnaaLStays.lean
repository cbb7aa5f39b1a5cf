/- The law LangStays: its walk. -/
import Derived.Test.YtmcacdegikgmnaaWh
import Derived.Test.YtmcacdegikgmnaaWa
namespace Go.Proofs.Ytmcacdegikgmnaa
open Go.RowKit

theorem data_append (a b : ByteArray) : (a ++ b).data.toList = a.data.toList ++ b.data.toList := by simp

set_option maxRecDepth 20000 in
set_option maxHeartbeats 2000000 in
theorem langStays_any (A : Option Addr) (n c : Nat) (l : List Item) (s t : ByteArray) (w : World) (hl : l.length = n) (hn : n ≤ 9223372036854775807) (hr : Rd w A (itemCells l))
    (hs : s.size ≤ 9223372036854775807) (ht : t.size ≤ 9223372036854775807) :
    Calls Try.prog 4 #[.slice A n c, .string s, .string t] w fun e w' => e = .returned (.bool true) ∧ Below w.heap.size w w' := by
  go_enter Try.func4, Try.ntmps4
  go_wp2_with fail
  refine (few_any A n c l 6 _ hl hn hr (by omega)).mono ?_
  rintro e w1 ⟨g1, d1, rfl, hown1, hb1⟩
  have hl1 : (l.take 6).length = min 6 n := by rw [List.length_take, hl]
  have hn5 : min 6 n ≤ 6 := by omega
  generalize l.take 6 = l1 at *
  generalize min 6 n = n1 at *
  clear hr hl
  have HL1 := hid hl1
  have hr1 := Rd_of_own hown1
  clear hl1 hown1
  go_wp2_with fail
  refine (cut_any s 10 _ hs (by omega)).mono ?_
  have hs1 : (if 10 < s.size then s.extract 0 10 else s).size ≤ 10 := by split <;> (try simp) <;> omega
  generalize (if 10 < s.size then s.extract 0 10 else s) = s1 at *
  rintro e w3 ⟨rfl, rfl⟩
  go_wp2_with fail
  refine (cut_any t 6 _ ht (by omega)).mono ?_
  have ht1 : (if 6 < t.size then t.extract 0 6 else t).size ≤ 6 := by split <;> (try simp) <;> omega
  generalize (if 6 < t.size then t.extract 0 6 else t) = t1 at *
  rintro e w3 ⟨rfl, rfl⟩
  have hsz1 := hb1.size
  go_wp2_with fail
  refine (goodRef_any _ n1 d1 l1 _ HL1.out (by omega) hr1).mono ?_
  rintro e w3 ⟨rfl, rfl⟩
  have HB1 := hid hb1; have HR1 := hid hr1
  clear hb1 hr1
  cases hg : goodM l1
  · clear hg
    go_wp2_with fail
    refine (lives8_any _).mono ?_
    rintro e w4 ⟨rfl, hb4⟩
    go_wp2
    go_ret
    exact ⟨rfl, HB1.out.trans (hb4.mono hsz1)⟩
  clear hg
  go_wp2_with fail
  refine (few_all _ n1 d1 l1 6 _ HL1.out (by omega) HR1.out (by omega)).mono ?_
  rintro e w5 ⟨g5, d5, rfl, hown5, hb5⟩
  have hr5 := Rd_of_own hown5
  have HB5 := hid hb5
  clear hown5 hb5
  go_wp2_with fail
  refine (first_any _ n1 d5 l1 s1 _ HL1.out (by omega) hr5 (by omega)).mono ?_
  rintro e w6 ⟨rfl, hb6⟩
  have HB6 := hid (HB5.out.trans (hb6.mono HB5.out.size))
  clear hr5 hb6
  go_wp2_with fail
  refine (few_all _ n1 d1 l1 6 _ HL1.out (by omega) (HR1.out.below HB6.out) (by omega)).mono ?_
  rintro e w7 ⟨g7, d7, rfl, hown7, hb7⟩
  have hr7 := Rd_of_own hown7
  have HB7 := hid (HB6.out.trans (hb7.mono HB6.out.size))
  clear hown7 hb7
  have hsum : s1.size + t1.size ≤ 9223372036854775807 := by omega
  go_wp2_with fail
  refine (first_any _ n1 d7 l1 (s1 ++ t1) _ HL1.out (by omega) hr7 (by simp; omega)).mono ?_
  rintro e w8 ⟨rfl, hb8⟩
  have HB8 := hid (HB7.out.trans (hb8.mono HB7.out.size))
  clear hr7 hb8
  rw [data_append]
  have HLAW := hid (stays_law l1 s1.data.toList t1.data.toList)
  have HSZ := hid (size_list s1)
  rw [HSZ.out] at HLAW
  generalize firstM l1 s1.data.toList = F1 at *
  generalize firstM l1 (s1.data.toList ++ t1.data.toList) = F2 at *
  obtain ⟨a, b, ok⟩ := F1
  obtain ⟨a2, b2, ok2⟩ := F2
  cases ok
  · cases ok2
    · go_wp2_with fail
      refine (lives8_any _).mono ?_
      rintro e w9 ⟨rfl, hb9⟩
      go_wp2
      go_ret
      exact ⟨rfl, HB1.out.trans ((HB8.out.trans (hb9.mono HB8.out.size)).mono hsz1)⟩
    · have hlt : s1.size < b2 := HLAW.out.2 rfl rfl
      go_wp2_with fail
      refine (lives8_any _).mono ?_
      rintro e w9 ⟨rfl, hb9⟩
      go_wp2
      go_ret
      exact ⟨rfl, HB1.out.trans ((HB8.out.trans (hb9.mono HB8.out.size)).mono hsz1)⟩
  · have hE := HLAW.out.1 rfl
    injection hE with h1 h2
    injection h2 with h2 h3
    subst h1 h2 h3
    go_wp2_with fail
    refine (lives8_any _).mono ?_
    rintro e w9 ⟨rfl, hb9⟩
    go_wp2
    go_ret
    exact ⟨rfl, HB1.out.trans ((HB8.out.trans (hb9.mono HB8.out.size)).mono hsz1)⟩
end Go.Proofs.Ytmcacdegikgmnaa
