/- ArmsFeeds: for every patterns, text and place of Reset the law answers true. No condition. -/
import Derived.Test.YtgiffdgicmdmgaaMm
import Derived.Test.YtgiffdgicmdmgaaMo
import Derived.Test.YtgiffdgicmdmgaaMi
namespace Go.Proofs.Ytgiffdgicmdmgaa
open Go.RowKit PopT

theorem newM_err (ps : List ByteArray) : ((newM ps).2.2 ≠ 0 → (newM ps).1 = []) ∧ ((newM ps).2.2 = 0 → (newM ps).2.1 = 0) := by
  unfold newM
  by_cases h8 : 8 < ps.length
  · rw [if_pos h8]; exact ⟨fun _ => rfl, fun _ => rfl⟩
  · rw [if_neg h8]
    have key : ∀ (ps : List ByteArray) (i : Nat) (acc : List (List Item)), ((newGo ps i acc).2.2 ≠ 0 → (newGo ps i acc).1 = []) ∧ ((newGo ps i acc).2.2 = 0 → (newGo ps i acc).2.1 = 0) := by
      intro ps
      induction ps with
      | nil => intro i acc; exact ⟨fun h => absurd rfl h, fun _ => rfl⟩
      | cons p ps ih =>
        intro i acc
        rw [newGo_check]
        by_cases he : (checkM p).2.2 ≠ 0
        · rw [if_pos he]; exact ⟨fun _ => rfl, fun h => absurd h he⟩
        · rw [if_neg he]; exact ih _ _
    exact key _ _ _

set_option maxRecDepth 20000 in
set_option maxHeartbeats 4000000 in
theorem armsMakes_any (A : Option Addr) (n c : Nat) (ps : List ByteArray) (w : World) (hl : ps.length = n) (hs : ∀ p ∈ ps, p.size ≤ 9223372036854775807) (hr : Rd w A (textCells ps)) :
    Calls Try.prog 3 #[.slice A n c] w fun e w' => e = .returned (.bool true) ∧ Below w.heap.size w w' := by
  have C0 := hid (fewT_any A n c ps 10 20 w hl hr hs (by omega) (by omega))
  have HQL := hid (fewTM_length ps 10 20)
  have HQS := hid (fewTM_size ps 10 20)
  have HTW := hid (fewTM_twice ps 10 20)
  obtain ⟨q, hq⟩ : ∃ q, fewTM ps 10 20 = q := ⟨_, rfl⟩
  rw [hq] at C0 HQL HQS HTW
  obtain ⟨m, hm⟩ : ∃ m, q.length = m := ⟨_, rfl⟩
  have HM := hid hm
  rw [hm] at C0 HQL
  have hm10 : m ≤ 10 := HQL.out
  have HSZ : Hid (∀ p ∈ q, p.size ≤ 1000000) := fun p hp => by have := HQS.out p hp; omega
  clear hq hm hl hs hr
  go_enter Try.func3, Try.ntmps3
  go_wp2_with fail
  refine C0.out.mono ?_
  rintro en w1 ⟨A1, c1, rfl, hown1, hb1⟩
  have HO1 := hid hown1; have HB1 := hid hb1
  have C1 := hid (fewT_any A1 m c1 q 10 20 w1 HM.out (Rd_of_own hown1) (fun p hp => by have := HQS.out p hp; omega) (by omega) (by omega))
  rw [HTW.out, HM.out] at C1
  clear C0 hown1 hb1
  go_wp2_with fail
  refine C1.out.mono ?_
  rintro en w2 ⟨A2, c2, rfl, hown2, hb2⟩
  have HO2 := hid (own_below HO1.out hb2)
  have HB2 := hid (HB1.out.trans (hb2.mono HB1.out.size))
  have C2 := hid (new_any A2 m c2 q w2 HM.out HSZ.out (Rd_of_own hown2))
  clear C1 hown2 hb2 HO1 HB1
  have HERR := hid (newM_err q)
  obtain ⟨⟨ls, i, e⟩, hR⟩ : ∃ R, newM q = R := ⟨_, rfl⟩
  have C3 := hid (fun W => newF_any A1 m c1 q W HM.out (by omega) HSZ.out)
  rw [hR] at C2 HERR C3
  clear hR
  go_wp2_with fail
  refine C2.out.mono ?_
  rintro en w3 ⟨hb3, hres⟩
  have HO3 := hid (own_below HO2.out hb3)
  have HB3 := hid (HB2.out.trans (hb3.mono HB2.out.size))
  have C4 := hid (C3.out w3 (Rd_of_own HO3.out))
  clear C2 C3 HO2 HB2 hb3
  have KEY : ∃ pv, en = .returned (.tuple #[.pointer pv, .int .i64 (i : Nat), .int .i64 (e : Nat)]) ∧ Hid ((e = 0 ↔ ∃ x, pv = some x) ∧ (∀ W, Below w3.heap.size w3 W → Calls Try.prog 16 #[.pointer pv] W fun e w' => e = .returned (.int .i64 (ls.length : Int)) ∧ W = w') ∧
      (∀ W, Below w3.heap.size w3 W → Calls Try.prog 17 #[.pointer pv] W fun e w' => e = .returned (.int .i64 0) ∧ W = w')) := by
    rcases hres with ⟨he, rfl⟩ | ⟨he, b, ar, rfl, hat, hmm, -⟩
    · have e0 : ls = [] := HERR.out.1 he
      refine ⟨none, rfl, ⟨fun h => absurd h he, fun ⟨x, hx⟩ => by cases hx⟩, fun W _ => ?_, fun W _ => fedN_any W⟩
      rw [e0]; exact lenN2_any W
    · have e0 : e = 0 := he
      subst e0
      refine ⟨some ⟨b, 0, none⟩, ?_, ⟨fun _ => ⟨_, rfl⟩, fun _ => rfl⟩, fun W hW => ?_, fun W hW => fed_any _ b ar 0 W (hat.below hW)⟩
      · have hi : i = 0 := HERR.out.2 rfl
        rw [hi]; rfl
      · have : ar.length = ls.length := by have := congrArg List.length hmm; rwa [List.length_map] at this
        rw [← this]; exact alen_any _ b ar 0 W (hat.below hW)
  obtain ⟨pv, rfl, hkey⟩ := KEY
  clear hres HERR
  have HK := hkey
  clear hkey
  go_wp2_with fail
  refine C4.out.mono ?_
  rintro en w4 ⟨A4, c4, vs, rfl, hrd4, hls4, hb4⟩
  have HB4 := hid (HB3.out.trans (hb4.mono HB3.out.size))
  have HO4 := hid (own_below HO3.out hb4)
  have C5 := hid (HK.out.2.1 w4 hb4)
  have C6 := hid (HK.out.2.2 w4 hb4)
  have HPV := hid HK.out.1
  clear C4 hrd4 hls4 hb4 HO3 HB3 HK
  simp only
  obtain ⟨z, hz⟩ : ∃ z, ls.length = z := ⟨_, rfl⟩
  rw [hz] at C5
  simp only [hz]
  clear hz
  cases pv with
  | none =>
    have he : e ≠ 0 := fun h => by obtain ⟨x, hx⟩ := HPV.out.1 h; cases hx
    have he0 : ((e : Int) == 0) = false := by rw [beq_eq_false_iff_ne]; omega
    have he1 : ((e : Int) != 0) = true := by rw [bne, he0]; rfl
    clear HPV
    go_wp2_with fail
    refine C5.out.mono ?_
    rintro en w5 ⟨rfl, rfl⟩
    clear C5
    go_wp2_with fail
    refine C6.out.mono ?_
    rintro en w5 ⟨rfl, rfl⟩
    clear C6
    go_wp2_with fail
    go_loopw [9] (fun iv wr => ∃ (k : Nat), k ≤ m ∧ iv = .int .i64 (k : Int) ∧ wr.ownsRow w.heap.size 9 1 (.slice A1 m c1) m (textCells q) ∧ Below w.heap.size w wr) (fun iv _ => m - (intOf iv).toNat)
    case atStart => exact ⟨0, by omega, rfl, HO4.out, HB4.out⟩
    case round =>
      obtain ⟨k, hk, rfl, hown, hb⟩ := hrel
      have HO := hid hown; have HB := hid hb
      clear HO4 HB4 hown hb
      by_cases hlt : k < m
      · have HK : Hid (k < q.length) := by rw [Hid, HM.out]; exact hlt
        obtain ⟨b, off, rfl, hbl, hc⟩ := (Rd_of_own HO.out).at (by rw [textCells, List.length_map, HM.out]; omega)
        have HRD := hid (Rd_of_own HO.out)
        have d0 : wr.cell? ⟨b, off + k, none⟩ = some (.string (q[k]'HK.out)) := hc k _ (by rw [textCells, List.getElem?_map, List.getElem?_eq_getElem HK.out]; rfl)
        have D1 : Hid (∀ W, Below wr.heap.size wr W → W.cell? ⟨b, off + k, none⟩ = some (.string (q[k]'HK.out))) := fun W hW => (hW.cell (p := ⟨b, off + k, none⟩) hbl).trans d0
        have C7 := hid (check10_any (q[k]'HK.out) (HSZ.out _ (List.getElem_mem HK.out)) wr)
        have C8 := hid (fun W => checkR_any (q[k]'HK.out) (HSZ.out _ (List.getElem_mem HK.out)) W)
        obtain ⟨p, hpp⟩ : ∃ p, q[k]'HK.out = p := ⟨_, rfl⟩
        rw [hpp] at d0 C7 C8 D1
        obtain ⟨⟨l, a, e⟩, hPM⟩ : ∃ P, checkM p = P := ⟨_, rfl⟩
        rw [hPM] at C7 C8
        simp only at C7
        clear hpp hPM hc
        go_wp2_with fail
        refine C7.out.mono ?_
        rintro en w6 ⟨rfl, hb6⟩
        have HB6 := hid (HB.out.trans (hb6.mono HB.out.size))
        have d1 := D1.out w6 hb6
        have HO6 := hid (own_below HO.out hb6)
        clear d0 C7 hb6
        have hbl6 : b < w6.heap.size := World.block_lt_of_cell? w6 _ d1
        go_wp2_with fail
        refine (C8.out w6).mono ?_
        rintro en w7 ⟨A7, c7, rfl, hown7, hb7⟩
        have HB7 := hid (HB6.out.trans (hb7.mono HB6.out.size))
        have HO7 := hid (own_below HO6.out hb7)
        clear hown7 hb7 d1 C8 D1 HB6 HO6 HB HO HRD
        simp only
        go_wp2_with fail
        go_roundw
        case rel => exact ⟨k + 1, by omega, by go_num, HO7.out, HB7.out⟩
        case measure => simp [intOf]; omega
      · go_wp2_with fail
        refine (lives10_any wr).mono ?_
        rintro en w6 ⟨rfl, hb6⟩
        have HB6 := hid (HB.out.trans (hb6.mono HB.out.size))
        clear hb6 HB
        go_wp2_with fail
        go_ret
        exact ⟨rfl, HB6.out⟩
  | some x =>
    obtain rfl : e = 0 := HPV.out.2 ⟨_, rfl⟩
    clear HPV
    go_wp2_with fail
    refine C5.out.mono ?_
    rintro en w5 ⟨rfl, rfl⟩
    clear C5
    go_wp2_with fail
    refine C6.out.mono ?_
    rintro en w5 ⟨rfl, rfl⟩
    clear C6
    go_wp2_with fail
    go_loopw [9] (fun iv wr => ∃ (k : Nat), k ≤ m ∧ iv = .int .i64 (k : Int) ∧ wr.ownsRow w.heap.size 9 1 (.slice A1 m c1) m (textCells q) ∧ Below w.heap.size w wr) (fun iv _ => m - (intOf iv).toNat)
    case atStart => exact ⟨0, by omega, rfl, HO4.out, HB4.out⟩
    case round =>
      obtain ⟨k, hk, rfl, hown, hb⟩ := hrel
      have HO := hid hown; have HB := hid hb
      clear HO4 HB4 hown hb
      by_cases hlt : k < m
      · have HK : Hid (k < q.length) := by rw [Hid, HM.out]; exact hlt
        obtain ⟨b, off, rfl, hbl, hc⟩ := (Rd_of_own HO.out).at (by rw [textCells, List.length_map, HM.out]; omega)
        have HRD := hid (Rd_of_own HO.out)
        have d0 : wr.cell? ⟨b, off + k, none⟩ = some (.string (q[k]'HK.out)) := hc k _ (by rw [textCells, List.getElem?_map, List.getElem?_eq_getElem HK.out]; rfl)
        have D1 : Hid (∀ W, Below wr.heap.size wr W → W.cell? ⟨b, off + k, none⟩ = some (.string (q[k]'HK.out))) := fun W hW => (hW.cell (p := ⟨b, off + k, none⟩) hbl).trans d0
        have C7 := hid (check10_any (q[k]'HK.out) (HSZ.out _ (List.getElem_mem HK.out)) wr)
        have C8 := hid (fun W => checkR_any (q[k]'HK.out) (HSZ.out _ (List.getElem_mem HK.out)) W)
        obtain ⟨p, hpp⟩ : ∃ p, q[k]'HK.out = p := ⟨_, rfl⟩
        rw [hpp] at d0 C7 C8 D1
        obtain ⟨⟨l, a, e⟩, hPM⟩ : ∃ P, checkM p = P := ⟨_, rfl⟩
        rw [hPM] at C7 C8
        simp only at C7
        clear hpp hPM hc
        go_wp2_with fail
        refine C7.out.mono ?_
        rintro en w6 ⟨rfl, hb6⟩
        have HB6 := hid (HB.out.trans (hb6.mono HB.out.size))
        have d1 := D1.out w6 hb6
        have HO6 := hid (own_below HO.out hb6)
        clear d0 C7 hb6
        have hbl6 : b < w6.heap.size := World.block_lt_of_cell? w6 _ d1
        go_wp2_with fail
        refine (C8.out w6).mono ?_
        rintro en w7 ⟨A7, c7, rfl, hown7, hb7⟩
        have HB7 := hid (HB6.out.trans (hb7.mono HB6.out.size))
        have HO7 := hid (own_below HO6.out hb7)
        clear hown7 hb7 d1 C8 D1 HB6 HO6 HB HO HRD
        simp only
        go_wp2_with fail
        go_roundw
        case rel => exact ⟨k + 1, by omega, by go_num, HO7.out, HB7.out⟩
        case measure => simp [intOf]; omega
      · go_wp2_with fail
        refine (lives10_any wr).mono ?_
        rintro en w6 ⟨rfl, hb6⟩
        have HB6 := hid (HB.out.trans (hb6.mono HB.out.size))
        clear hb6 HB
        go_wp2_with fail
        go_ret
        exact ⟨rfl, HB6.out⟩
end Go.Proofs.Ytgiffdgicmdmgaa
namespace Go.Proofs.Ytgiffdgicmdmgaa
open Go.RowKit PopT

theorem cutC_any (s : ByteArray) (m : Nat) (w : World) (hs : s.size ≤ 9223372036854775807) (hm : m ≤ 1000000) :
    Calls Try.prog 21 #[.string s, .int .i64 (m : Int)] w fun e w' => e = .returned (.string (cutM m s)) ∧ w = w' := cut_any s m w hs hm
/-- Both News, of the same texts: either both tell the same error, or there are patterns. -/
def Both (ls : List (List Item)) (e : Nat) (base : Nat) (pv : Option Addr) (V : Value) (w : World) : Prop :=
  (∃ A c vs, V = .slice A ls.length c ∧ Rd w A vs ∧ Lists base w ls vs) ∧ (e = 0 → ∃ b ar, pv = some ⟨b, 0, none⟩ ∧ ArmsAt base w b ar 0 ∧ ar.map ArmS.l = ls ∧ ∀ a ∈ ar, a.x = startW a.l)

set_option maxRecDepth 20000 in
set_option maxHeartbeats 4000000 in
theorem armsFinds_any (A : Option Addr) (n c : Nat) (ps : List ByteArray) (s1 s2 : ByteArray) (w : World) (hl : ps.length = n) (hs : ∀ p ∈ ps, p.size ≤ 9223372036854775807) (hr : Rd w A (textCells ps)) (h1 : s1.size ≤ 9223372036854775807) (h2 : s2.size ≤ 9223372036854775807) :
    Calls Try.prog 6 #[.slice A n c, .string s1, .string s2] w fun e w' => e = .returned (.bool true) ∧ Below w.heap.size w w' := by
  have C0 := hid (fewT_any A n c ps 4 9 w hl hr hs (by omega) (by omega))
  have HQL := hid (fewTM_length ps 4 9)
  have HQS := hid (fewTM_size ps 4 9)
  have HTW := hid (fewTM_twice ps 4 9)
  obtain ⟨q, hq⟩ : ∃ q, fewTM ps 4 9 = q := ⟨_, rfl⟩
  rw [hq] at C0 HQL HQS HTW
  obtain ⟨m, hm⟩ : ∃ m, q.length = m := ⟨_, rfl⟩
  have HM := hid hm
  rw [hm] at C0 HQL
  have hm10 : m ≤ 4 := HQL.out
  have HSZ : Hid (∀ p ∈ q, p.size ≤ 1000000) := fun p hp => by have := HQS.out p hp; omega
  have K1 := hid (fun W => cutC_any s1 12 W h1 (by omega))
  have K2 := hid (fun W => cutC_any s2 5 W h2 (by omega))
  have hz1 := cutM_size 12 s1
  have hz2 := cutM_size 5 s2
  obtain ⟨t, ht⟩ : ∃ t, cutM 12 s1 = t := ⟨_, rfl⟩
  obtain ⟨u, hu⟩ : ∃ u, cutM 5 s2 = u := ⟨_, rfl⟩
  rw [ht] at K1 hz1
  rw [hu] at K2 hz2
  clear hq hm hl hs hr h1 h2 ht hu
  go_enter Try.func6, Try.ntmps6
  go_wp2_with fail
  refine C0.out.mono ?_
  rintro en w1 ⟨A1, c1, rfl, hown1, hb1⟩
  have HO1 := hid hown1; have HB1 := hid hb1
  have C1 := hid (fewT_any A1 m c1 q 4 9 w1 HM.out (Rd_of_own hown1) (fun p hp => by have := HQS.out p hp; omega) (by omega) (by omega))
  rw [HTW.out, HM.out] at C1
  clear C0 hown1 hb1
  go_wp2_with fail
  refine (K1.out _).mono ?_
  rintro en w1' ⟨rfl, rfl⟩
  go_wp2_with fail
  refine (K2.out _).mono ?_
  rintro en w1' ⟨rfl, rfl⟩
  clear K1 K2
  go_wp2_with fail
  refine C1.out.mono ?_
  rintro en w2 ⟨A2, c2, rfl, hown2, hb2⟩
  have HO2 := hid (own_below HO1.out hb2)
  have HB2 := hid (HB1.out.trans (hb2.mono HB1.out.size))
  have C2 := hid (new_any A2 m c2 q w2 HM.out HSZ.out (Rd_of_own hown2))
  clear C1 hown2 hb2 HO1 HB1
  have HERR := hid (newM_err q)
  have HGD := hid (newM_good q)
  have HFEW := hid (newM_few q)
  obtain ⟨⟨ls, i, e⟩, hR⟩ : ∃ R, newM q = R := ⟨_, rfl⟩
  have C3 := hid (fun W => newF_any A1 m c1 q W HM.out (by omega) HSZ.out)
  rw [hR] at C2 HERR C3 HGD HFEW
  clear hR
  go_wp2_with fail
  refine C2.out.mono ?_
  rintro en w3 ⟨hb3, hres⟩
  have HO3 := hid (own_below HO2.out hb3)
  have HB3 := hid (HB2.out.trans (hb3.mono HB2.out.size))
  have C4 := hid (C3.out w3 (Rd_of_own HO3.out))
  have HS2 := hid HB2.out.size
  clear C2 C3 HO2 HB2 hb3
  have KEY : ∃ pv, en = .returned (.tuple #[.pointer pv, .int .i64 (i : Nat), .int .i64 (e : Nat)]) ∧ Hid (e = 0 → ∃ b ar, pv = some ⟨b, 0, none⟩ ∧ ArmsAt w2.heap.size w3 b ar 0 ∧ ar.map ArmS.l = ls ∧ ∀ a ∈ ar, a.x = startW a.l) := by
    rcases hres with ⟨he, rfl⟩ | ⟨he, b, ar, rfl, hat, hmm, hx⟩
    · exact ⟨none, rfl, fun h => absurd h he⟩
    · have e0 : e = 0 := he
      subst e0
      refine ⟨some ⟨b, 0, none⟩, ?_, fun _ => ⟨b, ar, rfl, hat, hmm, fun a ha => (hx a ha).1⟩⟩
      have hi : i = 0 := HERR.out.2 rfl
      rw [hi]; rfl
  obtain ⟨pv, rfl, hkey⟩ := KEY
  have HK := hkey
  clear hres HERR hkey
  go_wp2_with fail
  refine C4.out.mono ?_
  rintro en w4 ⟨A4, c4, vs, rfl, hrd4, hls4, hb4⟩
  have HB4 := hid (HB3.out.trans (hb4.mono HB3.out.size))
  have HRD4 := hid (Rd_of_own hrd4)
  have HLS4 := hid hls4
  have HK4 : Hid (e = 0 → ∃ b ar, pv = some ⟨b, 0, none⟩ ∧ ArmsAt w2.heap.size w4 b ar 0 ∧ ar.map ArmS.l = ls ∧ ∀ a ∈ ar, a.x = startW a.l) := by
    intro h
    obtain ⟨b, ar, h1, h2, h3, h4⟩ := HK.out h
    exact ⟨b, ar, h1, h2.below hb4, h3, h4⟩
  clear C4 hrd4 hls4 hb4 HO3 HB3 HK
  simp only at HLS4 HGD HFEW ⊢
  obtain ⟨z, hz⟩ : ∃ z, ls.length = z := ⟨_, rfl⟩
  have HZ := hid hz
  rw [hz] at HFEW
  have hz8 : z ≤ 8 := HFEW.out
  simp only [hz]
  clear hz HFEW
  by_cases he : e = 0
  · obtain ⟨b, ar, rfl, hat, hmap, -⟩ := HK4.out he
    subst he
    have HAT := hid hat
    have HMAP := hid hmap
    have HAL : Hid (ar.length ≤ 8) := by have := congrArg List.length hmap; rw [List.length_map, HZ.out] at this; rw [Hid]; omega
    have HAG : Hid (∀ a ∈ ar, GoodP a.l) := fun a ha => HGD.out _ (by rw [← hmap]; exact List.mem_map_of_mem ha)
    have C5 := hid (find10_any _ b ar 0 t w4 hat HAG.out HAL.out (by omega))
    rw [hmap] at C5
    have C6 := hid (fun W (h1 : Rd W A4 vs) (h2 : Lists w3.heap.size W ls vs) => findR10_any w3.heap.size A4 z c4 vs ls t W HZ.out hz8 h1 h2 (by omega) (fun l hl => (HGD.out l hl).2.2))
    have HLEAST := hid (find_least ls t.data.toList HGD.out)
    have HAPP := hid (findM_app ls t.data.toList u.data.toList)
    obtain ⟨⟨k, N, ok⟩, hF⟩ : ∃ F, findM ls t.data.toList = F := ⟨_, rfl⟩
    rw [hF] at C5 C6 HLEAST HAPP
    clear hF hat hmap HK4
    go_wp2_with fail
    refine C5.out.mono ?_
    rintro en w5 ⟨rfl, hb5⟩
    have HB5 := hid (HB4.out.trans (hb5.mono HB4.out.size))
    have HRD5 := hid (HRD4.out.below hb5)
    have HLS5 := hid (HLS4.out.below hb5 (Nat.le_refl _))
    have HAT5 := hid (HAT.out.below hb5)
    have C7 := hid (C6.out w5 HRD5.out HLS5.out)
    clear hb5 C5 C6 HB4 HRD4 HLS4 HAT
    go_wp2_with fail
    refine C7.out.mono ?_
    rintro en w6 ⟨rfl, hb6⟩
    have HB6 := hid (HB5.out.trans (hb6.mono HB5.out.size))
    have HRD6 := hid (HRD5.out.below hb6)
    have HLS6 := hid (HLS5.out.below hb6 (Nat.le_refl _))
    have HAT6 := hid (HAT5.out.below hb6)
    clear hb6 C7 HB5 HRD5 HLS5 HAT5
    simp only
    have hok : (ok != ok) = false := by cases ok <;> rfl
    go_wp2_with fail
    go_loopw [19] (fun iv wr => ∃ (j : Nat), j ≤ z ∧ iv = .int .i64 (j : Int) ∧ Rd wr A4 vs ∧ Lists w3.heap.size wr ls vs ∧ ArmsAt w2.heap.size wr b ar 0 ∧ Below w.heap.size w wr) (fun iv _ => z - (intOf iv).toNat)
    case atStart => exact ⟨0, by omega, rfl, HRD6.out, HLS6.out, HAT6.out, HB6.out⟩
    case round =>
      obtain ⟨j, hj, rfl, hrd, hls, hat, hb⟩ := hrel
      have HRD := hid hrd; have HLS := hid hls; have HAT := hid hat; have HB := hid hb
      clear hrd hls hat hb HRD6 HLS6 HAT6 HB6
      by_cases hlt : j < z
      · have HJ : Hid (j < ls.length) := by rw [Hid, HZ.out]; exact hlt
        obtain ⟨A7, c7, hv, ho⟩ := HLS.out.2 j (ls[j]'HJ.out) (List.getElem?_eq_getElem HJ.out)
        have hvl : j < vs.length := by rw [HLS.out.1, HZ.out]; exact hlt
        have hrd := HRD.out
        obtain ⟨b8, off, rfl, hbl, hc⟩ := HRD.out.at (by omega)
        have d0 := hc j _ hv
        have HG := hid (HGD.out _ (List.getElem_mem HJ.out))
        have HL := hid (HLEAST.out j _ (List.getElem?_eq_getElem HJ.out))
        have HO := hid ho
        obtain ⟨l, hl'⟩ : ∃ l, ls[j]'HJ.out = l := ⟨_, rfl⟩
        rw [hl'] at d0 HG HL HO
        obtain ⟨r, hr⟩ : ∃ r, l.length = r := ⟨_, rfl⟩
        have HR := hid hr
        rw [hr] at d0 HO
        have hr60 : r ≤ 60 := by have := HG.out.2.2; omega
        have C8 := hid (firstR_any A7 r c7 l t wr HR.out (by omega) (Rd_of_own HO.out) (by omega))
        obtain ⟨⟨f1, f2, some⟩, hf⟩ : ∃ F, firstM l t.data.toList = F := ⟨_, rfl⟩
        rw [hf] at C8 HL
        simp only at C8 HL
        clear hl' hr hf hv ho hc hrd hvl HO HG
        go_wp2_with fail
        refine C8.out.mono ?_
        rintro en w9 ⟨rfl, hb9⟩
        have HB9 := hid (HB.out.trans (hb9.mono HB.out.size))
        have HRD9 := hid (HRD.out.below hb9)
        have HLS9 := hid (HLS.out.below hb9 (Nat.le_refl _))
        have HAT9 := hid (HAT.out.below hb9)
        clear hb9 C8 d0 HB HRD HLS HAT
        cases some
        · clear HL
          go_wp2_with fail
          go_roundw
          case rel => exact ⟨j + 1, by omega, by go_num, HRD9.out, HLS9.out, HAT9.out, HB9.out⟩
          case measure => simp [intOf]; omega
        · obtain ⟨h1, h2, h3⟩ := HL.out rfl
          have h1' : ok = true := h1
          have h2' : N ≤ f2 := h2
          have h3' : N = f2 → k ≤ j := h3
          subst h1'
          clear h1 h2 h3 HL
          by_cases hN : f2 = N
          · have h4 : ((f2 : Int) == (N : Int)) = true := by rw [beq_iff_eq]; omega
            have h5 : k ≤ j := h3' hN.symm
            have h6 : ¬ (j < k) := by omega
            have h7 : N ≤ f2 ∧ f2 ≤ N := by omega
            have h8 : ¬ (f2 < N) := by omega
            clear hN h3'
            go_wp2_with fail
            go_roundw
            case rel => exact ⟨j + 1, by omega, by go_num, HRD9.out, HLS9.out, HAT9.out, HB9.out⟩
            case measure => simp [intOf]; omega
          · have h4 : ((f2 : Int) == (N : Int)) = false := by rw [beq_eq_false_iff_ne]; omega
            have h8 : ¬ (f2 < N) := by omega
            clear hN h3'
            go_wp2_with fail
            go_roundw
            case rel => exact ⟨j + 1, by omega, by go_num, HRD9.out, HLS9.out, HAT9.out, HB9.out⟩
            case measure => simp [intOf]; omega
      · have HTU : Hid ((t ++ u).data.toList = t.data.toList ++ u.data.toList) := by simp [Hid]
        have C9 := hid (find10_any _ b ar 0 (t ++ u) wr HAT.out HAG.out HAL.out (by simp; omega))
        rw [HMAP.out, HTU.out] at C9
        cases ok
        · obtain ⟨⟨k2, N2, ok2⟩, hF2⟩ : ∃ F, findM ls (t.data.toList ++ u.data.toList) = F := ⟨_, rfl⟩
          rw [hF2] at C9
          clear hF2 HTU HAPP
          go_wp2_with fail
          refine C9.out.mono ?_
          rintro en w9 ⟨rfl, hb9⟩
          have HB9 := hid (HB.out.trans (hb9.mono HB.out.size))
          clear hb9 C9
          go_wp2_with fail
          refine (lives10_any w9).mono ?_
          rintro en w10 ⟨rfl, hb10⟩
          have HB10 := hid (HB9.out.trans (hb10.mono HB9.out.size))
          clear hb10
          go_wp2_with fail
          go_ret
          exact ⟨rfl, HB10.out⟩
        · rw [HAPP.out rfl] at C9
          clear HTU HAPP
          go_wp2_with fail
          refine C9.out.mono ?_
          rintro en w9 ⟨rfl, hb9⟩
          have HB9 := hid (HB.out.trans (hb9.mono HB.out.size))
          clear hb9 C9
          go_wp2_with fail
          refine (lives10_any w9).mono ?_
          rintro en w10 ⟨rfl, hb10⟩
          have HB10 := hid (HB9.out.trans (hb10.mono HB9.out.size))
          clear hb10
          go_wp2_with fail
          go_ret
          exact ⟨rfl, HB10.out⟩
  · have he0 : ((e : Int) == 0) = false := by rw [beq_eq_false_iff_ne]; omega
    have he1 : ((e : Int) != 0) = true := by rw [bne, he0]; rfl
    clear HK4
    go_wp2_with fail
    refine (lives10_any w4).mono ?_
    rintro en w10 ⟨rfl, hb10⟩
    have HB10 := hid (HB4.out.trans (hb10.mono HB4.out.size))
    clear hb10
    go_wp2_with fail
    go_ret
    exact ⟨rfl, HB10.out⟩
end Go.Proofs.Ytgiffdgicmdmgaa
namespace Go.Proofs.Ytgiffdgicmdmgaa
open Go.RowKit PopT

set_option maxRecDepth 20000 in
set_option maxHeartbeats 4000000 in
theorem armsFeeds_any (A : Option Addr) (n c : Nat) (ps : List ByteArray) (s1 : ByteArray) (x : Int) (w : World) (hl : ps.length = n) (hs : ∀ p ∈ ps, p.size ≤ 9223372036854775807) (hr : Rd w A (textCells ps)) (h1 : s1.size ≤ 9223372036854775807) (h2 : Lit.wf (.int .u8 x) = true) :
    Calls Try.prog 8 #[.slice A n c, .string s1, .int .u8 x] w fun e w' => e = .returned (.bool true) ∧ Below w.heap.size w w' := by
  have C0 := hid (fewT_any A n c ps 4 9 w hl hr hs (by omega) (by omega))
  have HQL := hid (fewTM_length ps 4 9)
  have HQS := hid (fewTM_size ps 4 9)
  have HTW := hid (fewTM_twice ps 4 9)
  obtain ⟨q, hq⟩ : ∃ q, fewTM ps 4 9 = q := ⟨_, rfl⟩
  rw [hq] at C0 HQL HQS HTW
  obtain ⟨m, hm⟩ : ∃ m, q.length = m := ⟨_, rfl⟩
  have HM := hid hm
  rw [hm] at C0 HQL
  have hm10 : m ≤ 4 := HQL.out
  have HSZ : Hid (∀ p ∈ q, p.size ≤ 1000000) := fun p hp => by have := HQS.out p hp; omega
  have K1 := hid (fun W => cutC_any s1 14 W h1 (by omega))
  have hz1 := cutM_size 14 s1
  obtain ⟨t, ht⟩ : ∃ t, cutM 14 s1 = t := ⟨_, rfl⟩
  rw [ht] at K1 hz1
  have hx0 : 0 ≤ x ∧ x < 256 := by
    simp [Lit.wf, IntKind.min, IntKind.max, IntKind.signed, IntKind.bits] at h2
    omega
  obtain ⟨r, rfl⟩ : ∃ r : Nat, x = r := ⟨x.toNat, by omega⟩
  have hr256 : r < 256 := by omega
  obtain ⟨y, hy⟩ : ∃ y, r % 16 = y := ⟨_, rfl⟩
  have HY : Hid (((r : Int) % 16) = (y : Int) ∧ Int.tmod (r : Int) 16 = (y : Int)) := by rw [Hid, Int.tmod_eq_emod_of_nonneg (by omega)]; omega
  have hy16 : y < 16 := by omega
  clear hq hm hl hs hr h1 h2 ht hx0 hy
  go_enter Try.func8, Try.ntmps8
  go_wp2_with fail
  refine C0.out.mono ?_
  rintro en w1 ⟨A1, c1, rfl, hown1, hb1⟩
  have HO1 := hid hown1; have HB1 := hid hb1
  have C1 := hid (fewT_any A1 m c1 q 4 9 w1 HM.out (Rd_of_own hown1) (fun p hp => by have := HQS.out p hp; omega) (by omega) (by omega))
  rw [HTW.out, HM.out] at C1
  clear C0 hown1 hb1
  go_wp2_with fail
  refine (K1.out _).mono ?_
  rintro en w1' ⟨rfl, rfl⟩
  go_wp2_with fail
  clear K1
  refine C1.out.mono ?_
  rintro en w2 ⟨A2, c2, rfl, hown2, hb2⟩
  have HO2 := hid (own_below HO1.out hb2)
  have HB2 := hid (HB1.out.trans (hb2.mono HB1.out.size))
  have C2 := hid (new_any A2 m c2 q w2 HM.out HSZ.out (Rd_of_own hown2))
  clear C1 hown2 hb2 HO1 HB1
  have HERR := hid (newM_err q)
  have HGD := hid (newM_good q)
  have HFEW := hid (newM_few q)
  obtain ⟨⟨ls, i, e⟩, hR⟩ : ∃ R, newM q = R := ⟨_, rfl⟩
  have C3 := hid (fun W => newF_any A1 m c1 q W HM.out (by omega) HSZ.out)
  rw [hR] at C2 HERR C3 HGD HFEW
  clear hR
  go_wp2_with fail
  refine C2.out.mono ?_
  rintro en w3 ⟨hb3, hres⟩
  have HO3 := hid (own_below HO2.out hb3)
  have HB3 := hid (HB2.out.trans (hb3.mono HB2.out.size))
  have HB23 := hid hb3
  have C4 := hid (C3.out w3 (Rd_of_own HO3.out))
  have HS2 := hid HB2.out.size
  clear C2 C3 HO2 HB2 hb3
  have KEY : ∃ pv, en = .returned (.tuple #[.pointer pv, .int .i64 (i : Nat), .int .i64 (e : Nat)]) ∧ Hid (e = 0 → ∃ b ar, pv = some ⟨b, 0, none⟩ ∧ ArmsAt w2.heap.size w3 b ar 0 ∧ ar.map ArmS.l = ls ∧ ∀ a ∈ ar, a.x = startW a.l) := by
    rcases hres with ⟨he, rfl⟩ | ⟨he, b, ar, rfl, hat, hmm, hx⟩
    · exact ⟨none, rfl, fun h => absurd h he⟩
    · have e0 : e = 0 := he
      subst e0
      refine ⟨some ⟨b, 0, none⟩, ?_, fun _ => ⟨b, ar, rfl, hat, hmm, fun a ha => (hx a ha).1⟩⟩
      have hi : i = 0 := HERR.out.2 rfl
      rw [hi]; rfl
  obtain ⟨pv, rfl, hkey⟩ := KEY
  have HK := hkey
  clear hres HERR hkey
  go_wp2_with fail
  refine C4.out.mono ?_
  rintro en w4 ⟨A4, c4, vs, rfl, hrd4, hls4, hb4⟩
  have HB4 := hid (HB3.out.trans (hb4.mono HB3.out.size))
  have HB24 := hid (HB23.out.trans (hb4.mono HB23.out.size))
  have HRD4 := hid hrd4
  have HLS4 := hid hls4
  have HK4 : Hid (e = 0 → ∃ b ar, pv = some ⟨b, 0, none⟩ ∧ ArmsAt w2.heap.size w4 b ar 0 ∧ ar.map ArmS.l = ls ∧ ∀ a ∈ ar, a.x = startW a.l) := by
    intro h
    obtain ⟨b, ar, h1, h2, h3, h4⟩ := HK.out h
    exact ⟨b, ar, h1, h2.below hb4, h3, h4⟩
  clear C4 hrd4 hls4 hb4 HO3 HB3 HK
  simp only at HLS4 HRD4 HGD HFEW ⊢
  obtain ⟨z, hz⟩ : ∃ z, ls.length = z := ⟨_, rfl⟩
  have HZ := hid hz
  rw [hz] at HFEW HRD4
  have hz8 : z ≤ 8 := HFEW.out
  simp only [hz]
  clear hz HFEW
  by_cases he : e = 0
  · obtain ⟨b, ar, rfl, hat, hmap, hx0⟩ := HK4.out he
    have HX0 := hid hx0
    subst he
    have HAT := hid hat
    have HMAP := hid hmap
    have HAL : Hid (ar.length ≤ 8) := by have := congrArg List.length hmap; rw [List.length_map, HZ.out] at this; rw [Hid]; omega
    have HAG : Hid (∀ a ∈ ar, GoodP a.l) := fun a ha => HGD.out _ (by rw [← hmap]; exact List.mem_map_of_mem ha)
    have HBW : Hid (w2.heap.size ≤ w4.heap.size ∧ w.heap.size ≤ w2.heap.size) := ⟨HB24.out.size, HS2.out⟩
    have HAT0 : Hid (ArmsAt w2.heap.size w4 b (armsTo ar (t.data.toList.drop 0) 0) ((0 : Nat) : Int)) := by
      have h1 : ar.map freshA = ar := by
        conv => rhs; rw [← List.map_id ar]
        refine List.map_congr_left fun a ha => ?_
        obtain ⟨g1, l1, x1⟩ := a
        have := HX0.out _ ha
        simp only at this
        rw [freshA, this]; rfl
      rw [Hid, armsTo_zero, h1]; exact hat
    have HTS := hid (size_list t)
    clear hmap HK4 hat HAT hx0
    simp only [show ((0 : Nat) : Int) = (0 : Int) from rfl]
    go_wp2_with fail
    go_loopw [13, 14] (fun fv iv wr => ∃ (f g : Nat), f ≤ g ∧ g ≤ t.size ∧ fv = .int .i64 (f : Int) ∧ iv = .int .i64 (g : Int) ∧ wr.ownsRow w3.heap.size 34 1 (.slice A4 z c4) z vs ∧ Lists w3.heap.size wr ls vs ∧ ArmsAt w2.heap.size wr b (armsTo ar (t.data.toList.drop f) (g - f)) ((g - f : Nat) : Int) ∧ Below w2.heap.size w2 wr ∧ Below w.heap.size w wr) (fun _ iv _ => t.size - (intOf iv).toNat)
    case atStart => exact ⟨0, 0, by omega, by omega, rfl, rfl, HRD4.out, HLS4.out, HAT0.out, HB24.out, HB4.out⟩
    case round =>
      obtain ⟨f, g, hfg, hgt, rfl, rfl, hrd, hls, hat, hb2, hb⟩ := hrel
      have HRD := hid hrd; have HLS := hid hls; have HAT := hid hat; have HB := hid hb; have HB2 := hid hb2
      clear hrd hls hat hb hb2 HRD4 HLS4 HAT0 HB4 HB24
      by_cases hlt : g < t.size
      · by_cases hry : ((g : Int) == ((r : Int) % 16)) = true
        · go_wp2_with fail
          refine (reset_any w2.heap.size b _ _ wr HAT.out (fun a ha => by obtain ⟨a', ha', rfl⟩ := List.mem_map.1 ha; rw [(stepsA_l _ _).1]; exact (HAG.out a' ha').2.2) (by rw [armsTo_length]; exact HAL.out) HB2.out.size).mono ?_
          rintro en w0 ⟨rfl, hat0, hb0⟩
          have HB' := hid (HB.out.trans (hb0.1.mono HBW.out.2))
          have HB2' := hid (HB2.out.trans hb0.1)
          have HRD' := hid (own_fb HRD.out hb0 (by decide) (by decide))
          have HLS' := hid (HLS.out.fb hb0)
          have HAT' : Hid (ArmsAt w2.heap.size w0 b (armsTo ar (t.data.toList.drop g) (g - g)) ((g - g : Nat) : Int)) := by
            have e := armsTo_fresh ar (t.data.toList.drop f) (t.data.toList.drop g) (g - f) 0
            rw [armsTo_zero] at e
            rw [Nat.sub_self, ← e]; exact hat0
          clear hat0 hb0 HB HB2 HRD HLS HAT
          rename Hid (Below w.heap.size w w0) => HB
          rename Hid (Below w2.heap.size w2 w0) => HB2
          rename Hid (w0.ownsRow w3.heap.size 34 1 (.slice A4 z c4) z vs) => HRD
          rename Hid (Lists w3.heap.size w0 ls vs) => HLS
          rename Hid (ArmsAt w2.heap.size w0 b (armsTo ar (t.data.toList.drop g) (g - g)) ((g - g : Nat) : Int)) => HAT
          go_wp2_with fail
          have C5 := hid (find10_any _ b _ _ t w0 HAT.out (fun a ha => by obtain ⟨a', ha', rfl⟩ := List.mem_map.1 ha; rw [(stepsA_l _ _).1]; exact HAG.out a' ha') (by rw [armsTo_length]; exact HAL.out) (by omega))
          refine C5.out.mono ?_
          rintro en v1 ⟨rfl, hv1⟩
          have HB1 := hid (HB.out.trans (hv1.mono HB.out.size))
          have HB21 := hid (HB2.out.trans (hv1.mono HB2.out.size))
          have HRD1 := hid (own_below HRD.out hv1)
          have HLS1 := hid (HLS.out.below hv1 (Nat.le_refl _))
          have HAT1 := hid (HAT.out.below hv1)
          clear hv1 C5 HB HB2 HRD HLS HAT
          have HKD : Hid (g - g < (t.data.toList.drop g).length) := by rw [Hid, List.length_drop, HTS.out]; omega
          have C6 := hid (feed_any w2.heap.size b (armsTo ar (t.data.toList.drop g) (g - g)) (g - g) ((t.data.toList.drop g)[g - g]'HKD.out).toNat v1 HAT1.out (fun a ha => by obtain ⟨a', ha', rfl⟩ := List.mem_map.1 ha; rw [(stepsA_l _ _).1]; exact (HAG.out a' ha').2.2) (by rw [armsTo_length]; exact HAL.out) (by omega) (UInt8.toNat_lt _) HB21.out.size)
          rw [armsTo_succ ar (t.data.toList.drop g) (g - g) HKD.out, armsTo_done ar (t.data.toList.drop g) (g - g + 1) (by have := HKD.out; omega) (fun a ha => (HAG.out a ha).1), HMAP.out] at C6
          have HIX : Hid ((t.data.toList.drop g)[g - g]'HKD.out = t[g]'hlt) := by
            rw [Hid, List.getElem_drop]
            have e : g + (g - g) = g := by omega
            simp only [e]
            rfl
          rw [HIX.out] at C6
          have HS : Hid ((t.extract g (g + 1)).data.toList = (t.data.toList.drop g).take (g - g + 1)) := by
            have e : g + 1 - g = g - g + 1 := by omega
            simp only [Hid, ByteArray.data_extract, Array.toList_extract, List.extract_eq_take_drop, e]
          have HN : Hid (hereI ls (t.extract g (g + 1)).data.toList = if (dsM ls (t.data.toList.drop g) (g - g + 1)).any id = true then (toldA (dsM ls (t.data.toList.drop g) (g - g + 1)) : Int) else -1) := by
            rw [Hid, HS.out, hereI, dsM_take _ _ _ (by have := HKD.out; omega)]
          obtain ⟨D, hD⟩ : ∃ D, g - g + 1 = D := ⟨_, rfl⟩
          rw [hD] at C6 HN
          have HDG : Hid (g + 1 - g = D ∧ g ≤ g) := ⟨by omega, by omega⟩
          have hD1 : ((D : Int) == ((g : Int) + 1 - (g : Int))) = true := by rw [beq_iff_eq]; omega
          have hD2 : ((D : Int) != ((g : Int) + 1 - (g : Int))) = false := by rw [bne, hD1]; rfl
          obtain ⟨ds, hds⟩ : ∃ ds, dsM ls (t.data.toList.drop g) D = ds := ⟨_, rfl⟩
          rw [hds] at C6 HN
          have hfg1 : g ≤ g + 1 := by omega
          clear hD hds HIX HS
          go_wp2_with fail
          refine C6.out.mono ?_
          rintro en v2 ⟨rfl, hat2, hv2⟩
          have HB3' := hid (HB1.out.trans (hv2.1.mono HBW.out.2))
          have HB22 := hid (HB21.out.trans hv2.1)
          have HAT2 := hid hat2
          have HRD2 := hid (own_fb HRD1.out hv2 (by decide) (by decide))
          have HLS2 := hid (HLS1.out.fb hv2)
          clear hat2 hv2 C6 HB1 HB21 HRD1 HLS1 HAT1 HKD
          have C7 := hid (hereR_any w3.heap.size A4 z c4 vs ls (t.extract g (g + 1)) v2 HZ.out hz8 (Rd_of_own HRD2.out) HLS2.out (by simp; omega) (fun l hl => (HGD.out l hl).2.2))
          obtain ⟨zz, hzz⟩ : ∃ zz, hereI ls (t.extract g (g + 1)).data.toList = zz := ⟨_, rfl⟩
          rw [hzz] at C7 HN
          clear hzz
          go_wp2_with fail
          refine C7.out.mono ?_
          rintro en v3 ⟨rfl, hv3⟩
          have HB4' := hid (HB3'.out.trans (hv3.mono HB3'.out.size))
          have HB23' := hid (HB22.out.trans (hv3.mono HB22.out.size))
          have HRD3 := hid (own_below HRD2.out hv3)
          have HLS3 := hid (HLS2.out.below hv3 (Nat.le_refl _))
          have HAT3 := hid (HAT2.out.below hv3)
          have C8 := hid (fed_any _ b _ _ v3 HAT3.out)
          clear hv3 C7 HB3' HB22 HRD2 HLS2 HAT2
          by_cases hany : ds.any id = true
          · have hzz : zz = ((toldA ds : Nat) : Int) := by have := HN.out; rwa [if_pos hany] at this
            subst hzz
            rw [hany]
            obtain ⟨td, htd⟩ : ∃ td, toldA ds = td := ⟨_, rfl⟩
            rw [htd]
            clear HN hany htd
            go_wp2_with fail
            refine C8.out.mono ?_
            rintro en v4 ⟨rfl, rfl⟩
            clear C8
            go_wp2_with fail
            go_roundw
            case rel => exact ⟨g, g + 1, by omega, by omega, by trivial, by go_num, HRD3.out, HLS3.out, by rw [HDG.out.1]; exact HAT3.out, HB23'.out, HB4'.out⟩
            case measure => simp [intOf]; omega
          · have hzz : zz = -1 := by have := HN.out; rwa [if_neg hany] at this
            have htd : toldA ds = 0 := by rw [toldA, if_neg hany]
            have hany' : ds.any id = false := by simpa using hany
            subst hzz
            rw [hany', htd]
            clear HN hany htd hany'
            go_wp2_with fail
            refine C8.out.mono ?_
            rintro en v4 ⟨rfl, rfl⟩
            clear C8
            go_wp2_with fail
            go_roundw
            case rel => exact ⟨g, g + 1, by omega, by omega, by trivial, by go_num, HRD3.out, HLS3.out, by rw [HDG.out.1]; exact HAT3.out, HB23'.out, HB4'.out⟩
            case measure => simp [intOf]; omega
        · have hry' : ((g : Int) == ((r : Int) % 16)) = false := by simpa using hry
          clear hry
          go_wp2_with fail
          have C5 := hid (find10_any _ b _ _ t wr HAT.out (fun a ha => by obtain ⟨a', ha', rfl⟩ := List.mem_map.1 ha; rw [(stepsA_l _ _).1]; exact HAG.out a' ha') (by rw [armsTo_length]; exact HAL.out) (by omega))
          refine C5.out.mono ?_
          rintro en v1 ⟨rfl, hv1⟩
          have HB1 := hid (HB.out.trans (hv1.mono HB.out.size))
          have HB21 := hid (HB2.out.trans (hv1.mono HB2.out.size))
          have HRD1 := hid (own_below HRD.out hv1)
          have HLS1 := hid (HLS.out.below hv1 (Nat.le_refl _))
          have HAT1 := hid (HAT.out.below hv1)
          clear hv1 C5 HB HB2 HRD HLS HAT
          have HKD : Hid (g - f < (t.data.toList.drop f).length) := by rw [Hid, List.length_drop, HTS.out]; omega
          have C6 := hid (feed_any w2.heap.size b (armsTo ar (t.data.toList.drop f) (g - f)) (g - f) ((t.data.toList.drop f)[g - f]'HKD.out).toNat v1 HAT1.out (fun a ha => by obtain ⟨a', ha', rfl⟩ := List.mem_map.1 ha; rw [(stepsA_l _ _).1]; exact (HAG.out a' ha').2.2) (by rw [armsTo_length]; exact HAL.out) (by omega) (UInt8.toNat_lt _) HB21.out.size)
          rw [armsTo_succ ar (t.data.toList.drop f) (g - f) HKD.out, armsTo_done ar (t.data.toList.drop f) (g - f + 1) (by have := HKD.out; omega) (fun a ha => (HAG.out a ha).1), HMAP.out] at C6
          have HIX : Hid ((t.data.toList.drop f)[g - f]'HKD.out = t[g]'hlt) := by
            rw [Hid, List.getElem_drop]
            have e : f + (g - f) = g := by omega
            simp only [e]
            rfl
          rw [HIX.out] at C6
          have HS : Hid ((t.extract f (g + 1)).data.toList = (t.data.toList.drop f).take (g - f + 1)) := by
            have e : g + 1 - f = g - f + 1 := by omega
            simp only [Hid, ByteArray.data_extract, Array.toList_extract, List.extract_eq_take_drop, e]
          have HN : Hid (hereI ls (t.extract f (g + 1)).data.toList = if (dsM ls (t.data.toList.drop f) (g - f + 1)).any id = true then (toldA (dsM ls (t.data.toList.drop f) (g - f + 1)) : Int) else -1) := by
            rw [Hid, HS.out, hereI, dsM_take _ _ _ (by have := HKD.out; omega)]
          obtain ⟨D, hD⟩ : ∃ D, g - f + 1 = D := ⟨_, rfl⟩
          rw [hD] at C6 HN
          have HDG : Hid (g + 1 - f = D ∧ f ≤ g) := ⟨by omega, by omega⟩
          have hD1 : ((D : Int) == ((g : Int) + 1 - (f : Int))) = true := by rw [beq_iff_eq]; omega
          have hD2 : ((D : Int) != ((g : Int) + 1 - (f : Int))) = false := by rw [bne, hD1]; rfl
          obtain ⟨ds, hds⟩ : ∃ ds, dsM ls (t.data.toList.drop f) D = ds := ⟨_, rfl⟩
          rw [hds] at C6 HN
          have hfg1 : f ≤ g + 1 := by omega
          clear hD hds HIX HS
          go_wp2_with fail
          refine C6.out.mono ?_
          rintro en v2 ⟨rfl, hat2, hv2⟩
          have HB3' := hid (HB1.out.trans (hv2.1.mono HBW.out.2))
          have HB22 := hid (HB21.out.trans hv2.1)
          have HAT2 := hid hat2
          have HRD2 := hid (own_fb HRD1.out hv2 (by decide) (by decide))
          have HLS2 := hid (HLS1.out.fb hv2)
          clear hat2 hv2 C6 HB1 HB21 HRD1 HLS1 HAT1 HKD
          have C7 := hid (hereR_any w3.heap.size A4 z c4 vs ls (t.extract f (g + 1)) v2 HZ.out hz8 (Rd_of_own HRD2.out) HLS2.out (by simp; omega) (fun l hl => (HGD.out l hl).2.2))
          obtain ⟨zz, hzz⟩ : ∃ zz, hereI ls (t.extract f (g + 1)).data.toList = zz := ⟨_, rfl⟩
          rw [hzz] at C7 HN
          clear hzz
          go_wp2_with fail
          refine C7.out.mono ?_
          rintro en v3 ⟨rfl, hv3⟩
          have HB4' := hid (HB3'.out.trans (hv3.mono HB3'.out.size))
          have HB23' := hid (HB22.out.trans (hv3.mono HB22.out.size))
          have HRD3 := hid (own_below HRD2.out hv3)
          have HLS3 := hid (HLS2.out.below hv3 (Nat.le_refl _))
          have HAT3 := hid (HAT2.out.below hv3)
          have C8 := hid (fed_any _ b _ _ v3 HAT3.out)
          clear hv3 C7 HB3' HB22 HRD2 HLS2 HAT2
          by_cases hany : ds.any id = true
          · have hzz : zz = ((toldA ds : Nat) : Int) := by have := HN.out; rwa [if_pos hany] at this
            subst hzz
            rw [hany]
            obtain ⟨td, htd⟩ : ∃ td, toldA ds = td := ⟨_, rfl⟩
            rw [htd]
            clear HN hany htd
            go_wp2_with fail
            refine C8.out.mono ?_
            rintro en v4 ⟨rfl, rfl⟩
            clear C8
            go_wp2_with fail
            go_roundw
            case rel => exact ⟨f, g + 1, by omega, by omega, by trivial, by go_num, HRD3.out, HLS3.out, by rw [HDG.out.1]; exact HAT3.out, HB23'.out, HB4'.out⟩
            case measure => simp [intOf]; omega
          · have hzz : zz = -1 := by have := HN.out; rwa [if_neg hany] at this
            have htd : toldA ds = 0 := by rw [toldA, if_neg hany]
            have hany' : ds.any id = false := by simpa using hany
            subst hzz
            rw [hany', htd]
            clear HN hany htd hany'
            go_wp2_with fail
            refine C8.out.mono ?_
            rintro en v4 ⟨rfl, rfl⟩
            clear C8
            go_wp2_with fail
            go_roundw
            case rel => exact ⟨f, g + 1, by omega, by omega, by trivial, by go_num, HRD3.out, HLS3.out, by rw [HDG.out.1]; exact HAT3.out, HB23'.out, HB4'.out⟩
            case measure => simp [intOf]; omega
      · go_wp2_with fail
        refine (lives10_any wr).mono ?_
        rintro en w10 ⟨rfl, hb10⟩
        have HB10 := hid (HB.out.trans (hb10.mono HB.out.size))
        clear hb10
        go_wp2_with fail
        go_ret
        exact ⟨rfl, HB10.out⟩
  · have he0 : ((e : Int) == 0) = false := by rw [beq_eq_false_iff_ne]; omega
    have he1 : ((e : Int) != 0) = true := by rw [bne, he0]; rfl
    clear HK4
    go_wp2_with fail
    refine (lives10_any w4).mono ?_
    rintro en w10 ⟨rfl, hb10⟩
    have HB10 := hid (HB4.out.trans (hb10.mono HB4.out.size))
    clear hb10
    go_wp2_with fail
    go_ret
    exact ⟨rfl, HB10.out⟩
end Go.Proofs.Ytgiffdgicmdmgaa
namespace Go.Proofs.Ytgiffdgicmdmgaa
open Go.ChangeShapes Go.WideShapes Go.ChangeAt Go.RowKit Go.WideElems Go.Deep
open Go.ChangeMaps (open_string shut_string)

set_option maxRecDepth 100000 in
theorem armsFeeds_lifted (os : Os) (started : os.Started) (H : Type) (enc : TypeId × Value → H) :
    ReturnsInHanded {} Try.checked os 8 .any (Rows.armsFeedsSpec.pre6 enc Try.prog Try.f8 [] false) (Rows.armsFeedsSpec.post enc Try.prog Try.f8 false true false false) := by
  refine law_lifted 8 Try.f8 Rows.armsFeedsSpec os started H enc Try.func8 (by kernel_rfl) (by kernel_rfl) (by kernel_rfl) rfl (fun ds h => ?_)
    (ChangeSpec.witness6 (enc := enc) (C := Try.checked) false ⟨#[], #[.slice none 0 0, .string ⟨#[]⟩, .int .u8 0], []⟩ 8 (by kernel_rfl) (by kernel_rfl) (by kernel_rfl) (by kernel_rfl)) ?_
  · have hn : ds.length = 3 := h
    match ds, hn with
    | [d0, d1, d2], _ => rfl
  · intro W args ds p base hval hA _ _
    rw [show Try.f8.params.toList = [22, 9, 5] from by rw [Try.params8]] at hval hA
    obtain ⟨v0, _, d0, _, p0, _, rfl, rfl, rfl, h0, hA⟩ := all_cons hA
    obtain ⟨v1, _, d1, _, p1, _, rfl, rfl, rfl, h1, hA⟩ := all_cons hA
    obtain ⟨v2, _, d2, _, p2, _, rfl, rfl, rfl, h2, hA⟩ := all_cons hA
    obtain rfl := all_nil hA
    obtain ⟨A0, n0, c0, l0, rfl, hl0, hn0, hr0⟩ := open_strs (hval 0 _ v0 rfl rfl) h0
    obtain ⟨s1, rfl, _, _, hs1⟩ := open_string Try.underlying9 (hval 1 _ v1 rfl rfl) h1
    obtain ⟨x2, rfl, rfl, rfl, hw2⟩ := open_int Try.underlying5 (hval 2 _ v2 rfl rfl) h2
    exact armsFeeds_any A0 n0 c0 l0 s1 x2 W hl0 hn0 hr0 hs1 hw2

theorem armsFeeds_holds : Rows.ArmsFeedsSaid :=
  OpenClaim.holds_of_wide 8 Try.f8 rfl rfl rfl rfl rfl rfl rfl ⟨rfl, rfl, rfl, rfl, rfl⟩ rfl rfl rfl rfl rfl (by kernel_rfl) Try.func8 (by kernel_rfl)
    (of_decide_eq_true (by kernel_rfl)) (by unfold Func.isWrapper; first | (rw [if_pos (by decide +kernel)]; kernel_rfl) | (rw [if_neg (by decide +kernel)]; exact ⟨rfl, rfl⟩))
    (fun os started H enc _ => armsFeeds_lifted os started H enc)
#print axioms armsFeeds_holds
end Go.Proofs.Ytgiffdgicmdmgaa
