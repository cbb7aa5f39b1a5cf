/- ReplayParts: the walk. -/
import Derived.Test.YtpkkfdmhbbipoaaEvh
namespace Go.Proofs.Ytpkkfdmhbbipoaa
open Go.RowKit

set_option maxRecDepth 20000 in
set_option maxHeartbeats 4000000 in
theorem replayParts_any (A : Option Addr) (n c : Nat) (B : Option Addr) (m d : Nat) (a b : List EvV) (w : World) (ha : a.length = n) (_hn : n ≤ 9223372036854775807) (hra : Rd w A (evCells a)) (hia : ∀ i ∈ a, i.ok) (hb : b.length = m) (_hm : m ≤ 9223372036854775807) (hrb : Rd w B (evCells b)) (hib : ∀ i ∈ b, i.ok) :
    Calls Try.prog 3 #[.slice A n c, .slice B m d] w fun e w' => e = .returned (.bool true) ∧ Below w.heap.size w w' := by
  have C1 := hid (few30_any A n c a 10 w ha hra hia (by omega))
  have HRB : Hid (∀ W, Below w.heap.size w W → Calls Try.prog 6 #[.slice B m d, .int .i64 ((10 : Nat) : Int)] W fun e w' => ∃ g c', e = .returned (.slice (some ⟨g, 0, none⟩) (fewEv b 10).length c') ∧ w'.ownsRow W.heap.size 72 12 (.slice (some ⟨g, 0, none⟩) (fewEv b 10).length c') (fewEv b 10).length (evCells (fewEv b 10)) ∧ Below W.heap.size W w') := fun W hW => few30_any B m d b 10 W hb (hrb.below hW) hib (by omega)
  have HL1 : Hid ((fewEv a 10).length ≤ 1000 ∧ (fewEv b 10).length ≤ 1000) := by have h1 := fewEv_length a 10; have h2 := fewEv_length b 10; rw [Hid]; omega
  obtain ⟨fa, hfa⟩ : ∃ y, fewEv a 10 = y := ⟨_, rfl⟩
  obtain ⟨fb, hfb⟩ : ∃ y, fewEv b 10 = y := ⟨_, rfl⟩
  rw [hfa] at C1 HL1
  rw [hfb] at HRB HL1
  obtain ⟨na, hna⟩ : ∃ y, fa.length = y := ⟨_, rfl⟩
  obtain ⟨nb, hnb⟩ : ∃ y, fb.length = y := ⟨_, rfl⟩
  have HNA := hid hna; have HNB := hid hnb
  rw [hna] at C1 HL1
  rw [hnb] at HRB HL1
  clear ha hra hia hb hrb hib hfa hfb hna hnb
  go_enter Try.func3, Try.ntmps3
  go_wp2_with fail
  refine C1.out.mono ?_
  rintro en w1 ⟨g1, c1, rfl, ho1, hb1⟩
  have C2 := hid (HRB.out w1 hb1)
  have HR1 := hid (Rd_of_own ho1); have HB1 := hid hb1
  clear ho1 hb1 C1 HRB
  go_wp2_with fail
  refine C2.out.mono ?_
  rintro en w2 ⟨g2, c2, rfl, ho2, hb2⟩
  have HR1b := hid (HR1.out.below hb2); have HR2 := hid (Rd_of_own ho2)
  have HB2 : Hid (Below w.heap.size w w2) := HB1.out.trans (hb2.mono HB1.out.size)
  clear ho2 hb2 C2 HR1 HB1
  have C3 := hid (apart_any (some ⟨g1, 0, none⟩) (some ⟨g2, 0, none⟩) na c1 nb c2 fa fb w2 HNA.out HNB.out HL1.out.1 HL1.out.2 HR1b.out HR2.out)
  go_wp2_with fail
  refine C3.out.mono ?_
  rintro en w3 ⟨⟨k, hk, r, hr, rfl⟩, hb3⟩
  have HR1c := hid (HR1b.out.below hb3); have HR2c := hid (HR2.out.below hb3)
  have HB3 : Hid (Below w.heap.size w w3) := HB2.out.trans (hb3.mono HB2.out.size)
  have HK := hid hk; have HRR := hid hr
  clear hk hr hb3 C3 HR1b HR2 HB2
  have C4 := hid (rApart_any (some ⟨g1, 0, none⟩) (some ⟨g2, 0, none⟩) na c1 nb c2 fa fb w3 HNA.out HNB.out HL1.out.1 HL1.out.2 HR1c.out HR2c.out)
  go_wp2_with fail
  refine C4.out.mono ?_
  rintro en w4 ⟨⟨k2, hk2, r2, hr2, rfl⟩, hb4⟩
  have HR1d := hid (HR1c.out.below hb4); have HR2d := hid (HR2c.out.below hb4)
  have HB4 : Hid (Below w.heap.size w w4) := HB3.out.trans (hb4.mono HB3.out.size)
  have HR2R := hid hr2; have HK2 := hid hk2
  clear hk2 hr2 hb4 C4 HR1c HR2c HB3
  have C5 := hid (rSame29_any (some ⟨g1, 0, none⟩) (some ⟨g2, 0, none⟩) na c1 nb c2 fa fb w4 HNA.out HNB.out HL1.out.1 HL1.out.2 HR1d.out HR2d.out)
  have CLV := hid (fun W => lives40_any W)
  have HE : Hid (∃ (D : Bool) (p : Nat), (D = true → fa = fb) ∧ (D = false → fa ≠ fb) ∧ r = (if D then (0, false) else (p, true)) ∧ r2 = (if D then -1 else (p : Int)) ∧ decide (fa = fb) = D) := by
    by_cases h : fa = fb
    · exact ⟨true, 0, fun _ => h, fun h2 => (by cases h2), by rw [HRR.out, if_pos h]; rfl, by rw [HR2R.out, if_pos h]; rfl, decide_eq_true h⟩
    · exact ⟨false, k, fun h2 => (by cases h2), fun _ => h, by rw [HRR.out, if_neg h]; rfl, by rw [HR2R.out, if_neg h, HK.out.one HK2.out]; rfl, decide_eq_false h⟩
  obtain ⟨D, p, -, -, hr, hr2, hd⟩ := HE.out
  have HD := hid hd
  clear HE HRR HR2R HK HK2 hd HR1d HR2d HL1 HNA HNB
  subst hr hr2
  cases D
  · have h0 : (0 : Int) ≤ (p : Int) := by omega
    go_wp2_with fail
    refine C5.out.mono ?_
    rintro en w5 ⟨⟨q, hq, rfl⟩, hb5⟩
    rw [HD.out] at hq
    subst hq
    have HB5 : Hid (Below w.heap.size w w5) := HB4.out.trans (hb5.mono HB4.out.size)
    clear hb5 C5
    go_wp2_with fail
    refine (CLV.out w5).mono ?_
    rintro en w6 ⟨rfl, hb6⟩
    go_wp2_with fail
    go_ret
    exact ⟨rfl, HB5.out.trans (hb6.mono HB5.out.size)⟩
  · go_wp2_with fail
    refine C5.out.mono ?_
    rintro en w5 ⟨⟨q, hq, rfl⟩, hb5⟩
    rw [HD.out] at hq
    subst hq
    have HB5 : Hid (Below w.heap.size w w5) := HB4.out.trans (hb5.mono HB4.out.size)
    clear hb5 C5
    go_wp2_with fail
    refine (CLV.out w5).mono ?_
    rintro en w6 ⟨rfl, hb6⟩
    go_wp2_with fail
    go_ret
    exact ⟨rfl, HB5.out.trans (hb6.mono HB5.out.size)⟩
end Go.Proofs.Ytpkkfdmhbbipoaa
