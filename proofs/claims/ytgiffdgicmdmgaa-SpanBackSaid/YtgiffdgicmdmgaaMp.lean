/- The walk of ArmsMakes. The walk of ArmsFinds. -/
import Derived.Test.YtgiffdgicmdmgaaMm
import Derived.Test.YtgiffdgicmdmgaaMo
namespace Go.Proofs.Ytgiffdgicmdmgaa
open Go.RowKit PopT

theorem newM_err (ps : List ByteArray) : ((newM ps).2.2 ≠ 0 → (newM ps).1 = []) ∧ ((newM ps).2.2 = 0 → (newM ps).2.1 = 0) := by
  unfold newM
  by_cases h8 : 8 < ps.length
  · rw [if_pos h8]; exact ⟨fun _ => rfl, fun _ => rfl⟩
  · rw [if_neg h8]
    have key : ∀ (ps : List ByteArray) (i : Nat) (acc : List (List Item)), ((newGo ps i acc).2.2 ≠ 0 → (newGo ps i acc).1 = []) ∧ ((newGo ps i acc).2.2 = 0 → (newGo ps i acc).2.1 = 0) := by
      intro ps
      induction ps with
      | nil => intro i acc; exact ⟨fun h => absurd rfl h, fun _ => rfl⟩
      | cons p ps ih =>
        intro i acc
        rw [newGo_check]
        by_cases he : (checkM p).2.2 ≠ 0
        · rw [if_pos he]; exact ⟨fun _ => rfl, fun h => absurd h he⟩
        · rw [if_neg he]; exact ih _ _
    exact key _ _ _

set_option maxRecDepth 20000 in
set_option maxHeartbeats 4000000 in
theorem armsMakes_any (A : Option Addr) (n c : Nat) (ps : List ByteArray) (w : World) (hl : ps.length = n) (hs : ∀ p ∈ ps, p.size ≤ 9223372036854775807) (hr : Rd w A (textCells ps)) :
    Calls Try.prog 3 #[.slice A n c] w fun e w' => e = .returned (.bool true) ∧ Below w.heap.size w w' := by
  have C0 := hid (fewT_any A n c ps 10 20 w hl hr hs (by omega) (by omega))
  have HQL := hid (fewTM_length ps 10 20)
  have HQS := hid (fewTM_size ps 10 20)
  have HTW := hid (fewTM_twice ps 10 20)
  obtain ⟨q, hq⟩ : ∃ q, fewTM ps 10 20 = q := ⟨_, rfl⟩
  rw [hq] at C0 HQL HQS HTW
  obtain ⟨m, hm⟩ : ∃ m, q.length = m := ⟨_, rfl⟩
  have HM := hid hm
  rw [hm] at C0 HQL
  have hm10 : m ≤ 10 := HQL.out
  have HSZ : Hid (∀ p ∈ q, p.size ≤ 1000000) := fun p hp => by have := HQS.out p hp; omega
  clear hq hm hl hs hr
  go_enter Try.func3, Try.ntmps3
  go_wp2_with fail
  refine C0.out.mono ?_
  rintro en w1 ⟨A1, c1, rfl, hown1, hb1⟩
  have HO1 := hid hown1; have HB1 := hid hb1
  have C1 := hid (fewT_any A1 m c1 q 10 20 w1 HM.out (Rd_of_own hown1) (fun p hp => by have := HQS.out p hp; omega) (by omega) (by omega))
  rw [HTW.out, HM.out] at C1
  clear C0 hown1 hb1
  go_wp2_with fail
  refine C1.out.mono ?_
  rintro en w2 ⟨A2, c2, rfl, hown2, hb2⟩
  have HO2 := hid (own_below HO1.out hb2)
  have HB2 := hid (HB1.out.trans (hb2.mono HB1.out.size))
  have C2 := hid (new_any A2 m c2 q w2 HM.out HSZ.out (Rd_of_own hown2))
  clear C1 hown2 hb2 HO1 HB1
  have HERR := hid (newM_err q)
  obtain ⟨⟨ls, i, e⟩, hR⟩ : ∃ R, newM q = R := ⟨_, rfl⟩
  have C3 := hid (fun W => newF_any A1 m c1 q W HM.out (by omega) HSZ.out)
  rw [hR] at C2 HERR C3
  clear hR
  go_wp2_with fail
  refine C2.out.mono ?_
  rintro en w3 ⟨hb3, hres⟩
  have HO3 := hid (own_below HO2.out hb3)
  have HB3 := hid (HB2.out.trans (hb3.mono HB2.out.size))
  have C4 := hid (C3.out w3 (Rd_of_own HO3.out))
  clear C2 C3 HO2 HB2 hb3
  have KEY : ∃ pv, en = .returned (.tuple #[.pointer pv, .int .i64 (i : Nat), .int .i64 (e : Nat)]) ∧ Hid ((e = 0 ↔ ∃ x, pv = some x) ∧ (∀ W, Below w3.heap.size w3 W → Calls Try.prog 16 #[.pointer pv] W fun e w' => e = .returned (.int .i64 (ls.length : Int)) ∧ W = w') ∧
      (∀ W, Below w3.heap.size w3 W → Calls Try.prog 17 #[.pointer pv] W fun e w' => e = .returned (.int .i64 0) ∧ W = w')) := by
    rcases hres with ⟨he, rfl⟩ | ⟨he, b, ar, rfl, hat, hmm, -⟩
    · have e0 : ls = [] := HERR.out.1 he
      refine ⟨none, rfl, ⟨fun h => absurd h he, fun ⟨x, hx⟩ => by cases hx⟩, fun W _ => ?_, fun W _ => fedN_any W⟩
      rw [e0]; exact lenN2_any W
    · have e0 : e = 0 := he
      subst e0
      refine ⟨some ⟨b, 0, none⟩, ?_, ⟨fun _ => ⟨_, rfl⟩, fun _ => rfl⟩, fun W hW => ?_, fun W hW => fed_any _ b ar 0 W (hat.below hW)⟩
      · have hi : i = 0 := HERR.out.2 rfl
        rw [hi]; rfl
      · have : ar.length = ls.length := by have := congrArg List.length hmm; rwa [List.length_map] at this
        rw [← this]; exact alen_any _ b ar 0 W (hat.below hW)
  obtain ⟨pv, rfl, hkey⟩ := KEY
  clear hres HERR
  have HK := hkey
  clear hkey
  go_wp2_with fail
  refine C4.out.mono ?_
  rintro en w4 ⟨A4, c4, vs, rfl, hrd4, hls4, hb4⟩
  have HB4 := hid (HB3.out.trans (hb4.mono HB3.out.size))
  have HO4 := hid (own_below HO3.out hb4)
  have C5 := hid (HK.out.2.1 w4 hb4)
  have C6 := hid (HK.out.2.2 w4 hb4)
  have HPV := hid HK.out.1
  clear C4 hrd4 hls4 hb4 HO3 HB3 HK
  simp only
  obtain ⟨z, hz⟩ : ∃ z, ls.length = z := ⟨_, rfl⟩
  rw [hz] at C5
  simp only [hz]
  clear hz
  cases pv with
  | none =>
    have he : e ≠ 0 := fun h => by obtain ⟨x, hx⟩ := HPV.out.1 h; cases hx
    have he0 : ((e : Int) == 0) = false := by rw [beq_eq_false_iff_ne]; omega
    have he1 : ((e : Int) != 0) = true := by rw [bne, he0]; rfl
    clear HPV
    go_wp2_with fail
    refine C5.out.mono ?_
    rintro en w5 ⟨rfl, rfl⟩
    clear C5
    go_wp2_with fail
    refine C6.out.mono ?_
    rintro en w5 ⟨rfl, rfl⟩
    clear C6
    go_wp2_with fail
    go_loopw [9] (fun iv wr => ∃ (k : Nat), k ≤ m ∧ iv = .int .i64 (k : Int) ∧ wr.ownsRow w.heap.size 9 1 (.slice A1 m c1) m (textCells q) ∧ Below w.heap.size w wr) (fun iv _ => m - (intOf iv).toNat)
    case atStart => exact ⟨0, by omega, rfl, HO4.out, HB4.out⟩
    case round =>
      obtain ⟨k, hk, rfl, hown, hb⟩ := hrel
      have HO := hid hown; have HB := hid hb
      clear HO4 HB4 hown hb
      by_cases hlt : k < m
      · have HK : Hid (k < q.length) := by rw [Hid, HM.out]; exact hlt
        obtain ⟨b, off, rfl, hbl, hc⟩ := (Rd_of_own HO.out).at (by rw [textCells, List.length_map, HM.out]; omega)
        have HRD := hid (Rd_of_own HO.out)
        have d0 : wr.cell? ⟨b, off + k, none⟩ = some (.string (q[k]'HK.out)) := hc k _ (by rw [textCells, List.getElem?_map, List.getElem?_eq_getElem HK.out]; rfl)
        have D1 : Hid (∀ W, Below wr.heap.size wr W → W.cell? ⟨b, off + k, none⟩ = some (.string (q[k]'HK.out))) := fun W hW => (hW.cell (p := ⟨b, off + k, none⟩) hbl).trans d0
        have C7 := hid (check10_any (q[k]'HK.out) (HSZ.out _ (List.getElem_mem HK.out)) wr)
        have C8 := hid (fun W => checkR_any (q[k]'HK.out) (HSZ.out _ (List.getElem_mem HK.out)) W)
        obtain ⟨p, hpp⟩ : ∃ p, q[k]'HK.out = p := ⟨_, rfl⟩
        rw [hpp] at d0 C7 C8 D1
        obtain ⟨⟨l, a, e⟩, hPM⟩ : ∃ P, checkM p = P := ⟨_, rfl⟩
        rw [hPM] at C7 C8
        simp only at C7
        clear hpp hPM hc
        go_wp2_with fail
        refine C7.out.mono ?_
        rintro en w6 ⟨rfl, hb6⟩
        have HB6 := hid (HB.out.trans (hb6.mono HB.out.size))
        have d1 := D1.out w6 hb6
        have HO6 := hid (own_below HO.out hb6)
        clear d0 C7 hb6
        have hbl6 : b < w6.heap.size := World.block_lt_of_cell? w6 _ d1
        go_wp2_with fail
        refine (C8.out w6).mono ?_
        rintro en w7 ⟨A7, c7, rfl, hown7, hb7⟩
        have HB7 := hid (HB6.out.trans (hb7.mono HB6.out.size))
        have HO7 := hid (own_below HO6.out hb7)
        clear hown7 hb7 d1 C8 D1 HB6 HO6 HB HO HRD
        simp only
        go_wp2_with fail
        go_roundw
        case rel => exact ⟨k + 1, by omega, by go_num, HO7.out, HB7.out⟩
        case measure => simp [intOf]; omega
      · go_wp2_with fail
        refine (lives10_any wr).mono ?_
        rintro en w6 ⟨rfl, hb6⟩
        have HB6 := hid (HB.out.trans (hb6.mono HB.out.size))
        clear hb6 HB
        go_wp2_with fail
        go_ret
        exact ⟨rfl, HB6.out⟩
  | some x =>
    obtain rfl : e = 0 := HPV.out.2 ⟨_, rfl⟩
    clear HPV
    go_wp2_with fail
    refine C5.out.mono ?_
    rintro en w5 ⟨rfl, rfl⟩
    clear C5
    go_wp2_with fail
    refine C6.out.mono ?_
    rintro en w5 ⟨rfl, rfl⟩
    clear C6
    go_wp2_with fail
    go_loopw [9] (fun iv wr => ∃ (k : Nat), k ≤ m ∧ iv = .int .i64 (k : Int) ∧ wr.ownsRow w.heap.size 9 1 (.slice A1 m c1) m (textCells q) ∧ Below w.heap.size w wr) (fun iv _ => m - (intOf iv).toNat)
    case atStart => exact ⟨0, by omega, rfl, HO4.out, HB4.out⟩
    case round =>
      obtain ⟨k, hk, rfl, hown, hb⟩ := hrel
      have HO := hid hown; have HB := hid hb
      clear HO4 HB4 hown hb
      by_cases hlt : k < m
      · have HK : Hid (k < q.length) := by rw [Hid, HM.out]; exact hlt
        obtain ⟨b, off, rfl, hbl, hc⟩ := (Rd_of_own HO.out).at (by rw [textCells, List.length_map, HM.out]; omega)
        have HRD := hid (Rd_of_own HO.out)
        have d0 : wr.cell? ⟨b, off + k, none⟩ = some (.string (q[k]'HK.out)) := hc k _ (by rw [textCells, List.getElem?_map, List.getElem?_eq_getElem HK.out]; rfl)
        have D1 : Hid (∀ W, Below wr.heap.size wr W → W.cell? ⟨b, off + k, none⟩ = some (.string (q[k]'HK.out))) := fun W hW => (hW.cell (p := ⟨b, off + k, none⟩) hbl).trans d0
        have C7 := hid (check10_any (q[k]'HK.out) (HSZ.out _ (List.getElem_mem HK.out)) wr)
        have C8 := hid (fun W => checkR_any (q[k]'HK.out) (HSZ.out _ (List.getElem_mem HK.out)) W)
        obtain ⟨p, hpp⟩ : ∃ p, q[k]'HK.out = p := ⟨_, rfl⟩
        rw [hpp] at d0 C7 C8 D1
        obtain ⟨⟨l, a, e⟩, hPM⟩ : ∃ P, checkM p = P := ⟨_, rfl⟩
        rw [hPM] at C7 C8
        simp only at C7
        clear hpp hPM hc
        go_wp2_with fail
        refine C7.out.mono ?_
        rintro en w6 ⟨rfl, hb6⟩
        have HB6 := hid (HB.out.trans (hb6.mono HB.out.size))
        have d1 := D1.out w6 hb6
        have HO6 := hid (own_below HO.out hb6)
        clear d0 C7 hb6
        have hbl6 : b < w6.heap.size := World.block_lt_of_cell? w6 _ d1
        go_wp2_with fail
        refine (C8.out w6).mono ?_
        rintro en w7 ⟨A7, c7, rfl, hown7, hb7⟩
        have HB7 := hid (HB6.out.trans (hb7.mono HB6.out.size))
        have HO7 := hid (own_below HO6.out hb7)
        clear hown7 hb7 d1 C8 D1 HB6 HO6 HB HO HRD
        simp only
        go_wp2_with fail
        go_roundw
        case rel => exact ⟨k + 1, by omega, by go_num, HO7.out, HB7.out⟩
        case measure => simp [intOf]; omega
      · go_wp2_with fail
        refine (lives10_any wr).mono ?_
        rintro en w6 ⟨rfl, hb6⟩
        have HB6 := hid (HB.out.trans (hb6.mono HB.out.size))
        clear hb6 HB
        go_wp2_with fail
        go_ret
        exact ⟨rfl, HB6.out⟩
end Go.Proofs.Ytgiffdgicmdmgaa
namespace Go.Proofs.Ytgiffdgicmdmgaa
open Go.RowKit PopT

theorem cutC_any (s : ByteArray) (m : Nat) (w : World) (hs : s.size ≤ 9223372036854775807) (hm : m ≤ 1000000) :
    Calls Try.prog 21 #[.string s, .int .i64 (m : Int)] w fun e w' => e = .returned (.string (cutM m s)) ∧ w = w' := cut_any s m w hs hm
/-- Both News, of the same texts: either both tell the same error, or there are patterns. -/
def Both (ls : List (List Item)) (e : Nat) (base : Nat) (pv : Option Addr) (V : Value) (w : World) : Prop :=
  (∃ A c vs, V = .slice A ls.length c ∧ Rd w A vs ∧ Lists base w ls vs) ∧ (e = 0 → ∃ b ar, pv = some ⟨b, 0, none⟩ ∧ ArmsAt base w b ar 0 ∧ ar.map ArmS.l = ls ∧ ∀ a ∈ ar, a.x = startW a.l)

set_option maxRecDepth 20000 in
set_option maxHeartbeats 4000000 in
theorem armsFinds_any (A : Option Addr) (n c : Nat) (ps : List ByteArray) (s1 s2 : ByteArray) (w : World) (hl : ps.length = n) (hs : ∀ p ∈ ps, p.size ≤ 9223372036854775807) (hr : Rd w A (textCells ps)) (h1 : s1.size ≤ 9223372036854775807) (h2 : s2.size ≤ 9223372036854775807) :
    Calls Try.prog 6 #[.slice A n c, .string s1, .string s2] w fun e w' => e = .returned (.bool true) ∧ Below w.heap.size w w' := by
  have C0 := hid (fewT_any A n c ps 4 9 w hl hr hs (by omega) (by omega))
  have HQL := hid (fewTM_length ps 4 9)
  have HQS := hid (fewTM_size ps 4 9)
  have HTW := hid (fewTM_twice ps 4 9)
  obtain ⟨q, hq⟩ : ∃ q, fewTM ps 4 9 = q := ⟨_, rfl⟩
  rw [hq] at C0 HQL HQS HTW
  obtain ⟨m, hm⟩ : ∃ m, q.length = m := ⟨_, rfl⟩
  have HM := hid hm
  rw [hm] at C0 HQL
  have hm10 : m ≤ 4 := HQL.out
  have HSZ : Hid (∀ p ∈ q, p.size ≤ 1000000) := fun p hp => by have := HQS.out p hp; omega
  have K1 := hid (fun W => cutC_any s1 12 W h1 (by omega))
  have K2 := hid (fun W => cutC_any s2 5 W h2 (by omega))
  have hz1 := cutM_size 12 s1
  have hz2 := cutM_size 5 s2
  obtain ⟨t, ht⟩ : ∃ t, cutM 12 s1 = t := ⟨_, rfl⟩
  obtain ⟨u, hu⟩ : ∃ u, cutM 5 s2 = u := ⟨_, rfl⟩
  rw [ht] at K1 hz1
  rw [hu] at K2 hz2
  clear hq hm hl hs hr h1 h2 ht hu
  go_enter Try.func6, Try.ntmps6
  go_wp2_with fail
  refine C0.out.mono ?_
  rintro en w1 ⟨A1, c1, rfl, hown1, hb1⟩
  have HO1 := hid hown1; have HB1 := hid hb1
  have C1 := hid (fewT_any A1 m c1 q 4 9 w1 HM.out (Rd_of_own hown1) (fun p hp => by have := HQS.out p hp; omega) (by omega) (by omega))
  rw [HTW.out, HM.out] at C1
  clear C0 hown1 hb1
  go_wp2_with fail
  refine (K1.out _).mono ?_
  rintro en w1' ⟨rfl, rfl⟩
  go_wp2_with fail
  refine (K2.out _).mono ?_
  rintro en w1' ⟨rfl, rfl⟩
  clear K1 K2
  go_wp2_with fail
  refine C1.out.mono ?_
  rintro en w2 ⟨A2, c2, rfl, hown2, hb2⟩
  have HO2 := hid (own_below HO1.out hb2)
  have HB2 := hid (HB1.out.trans (hb2.mono HB1.out.size))
  have C2 := hid (new_any A2 m c2 q w2 HM.out HSZ.out (Rd_of_own hown2))
  clear C1 hown2 hb2 HO1 HB1
  have HERR := hid (newM_err q)
  have HGD := hid (newM_good q)
  have HFEW := hid (newM_few q)
  obtain ⟨⟨ls, i, e⟩, hR⟩ : ∃ R, newM q = R := ⟨_, rfl⟩
  have C3 := hid (fun W => newF_any A1 m c1 q W HM.out (by omega) HSZ.out)
  rw [hR] at C2 HERR C3 HGD HFEW
  clear hR
  go_wp2_with fail
  refine C2.out.mono ?_
  rintro en w3 ⟨hb3, hres⟩
  have HO3 := hid (own_below HO2.out hb3)
  have HB3 := hid (HB2.out.trans (hb3.mono HB2.out.size))
  have C4 := hid (C3.out w3 (Rd_of_own HO3.out))
  have HS2 := hid HB2.out.size
  clear C2 C3 HO2 HB2 hb3
  have KEY : ∃ pv, en = .returned (.tuple #[.pointer pv, .int .i64 (i : Nat), .int .i64 (e : Nat)]) ∧ Hid (e = 0 → ∃ b ar, pv = some ⟨b, 0, none⟩ ∧ ArmsAt w2.heap.size w3 b ar 0 ∧ ar.map ArmS.l = ls ∧ ∀ a ∈ ar, a.x = startW a.l) := by
    rcases hres with ⟨he, rfl⟩ | ⟨he, b, ar, rfl, hat, hmm, hx⟩
    · exact ⟨none, rfl, fun h => absurd h he⟩
    · have e0 : e = 0 := he
      subst e0
      refine ⟨some ⟨b, 0, none⟩, ?_, fun _ => ⟨b, ar, rfl, hat, hmm, fun a ha => (hx a ha).1⟩⟩
      have hi : i = 0 := HERR.out.2 rfl
      rw [hi]; rfl
  obtain ⟨pv, rfl, hkey⟩ := KEY
  have HK := hkey
  clear hres HERR hkey
  go_wp2_with fail
  refine C4.out.mono ?_
  rintro en w4 ⟨A4, c4, vs, rfl, hrd4, hls4, hb4⟩
  have HB4 := hid (HB3.out.trans (hb4.mono HB3.out.size))
  have HRD4 := hid (Rd_of_own hrd4)
  have HLS4 := hid hls4
  have HK4 : Hid (e = 0 → ∃ b ar, pv = some ⟨b, 0, none⟩ ∧ ArmsAt w2.heap.size w4 b ar 0 ∧ ar.map ArmS.l = ls ∧ ∀ a ∈ ar, a.x = startW a.l) := by
    intro h
    obtain ⟨b, ar, h1, h2, h3, h4⟩ := HK.out h
    exact ⟨b, ar, h1, h2.below hb4, h3, h4⟩
  clear C4 hrd4 hls4 hb4 HO3 HB3 HK
  simp only at HLS4 HGD HFEW ⊢
  obtain ⟨z, hz⟩ : ∃ z, ls.length = z := ⟨_, rfl⟩
  have HZ := hid hz
  rw [hz] at HFEW
  have hz8 : z ≤ 8 := HFEW.out
  simp only [hz]
  clear hz HFEW
  by_cases he : e = 0
  · obtain ⟨b, ar, rfl, hat, hmap, -⟩ := HK4.out he
    subst he
    have HAT := hid hat
    have HMAP := hid hmap
    have HAL : Hid (ar.length ≤ 8) := by have := congrArg List.length hmap; rw [List.length_map, HZ.out] at this; rw [Hid]; omega
    have HAG : Hid (∀ a ∈ ar, GoodP a.l) := fun a ha => HGD.out _ (by rw [← hmap]; exact List.mem_map_of_mem ha)
    have C5 := hid (find10_any _ b ar 0 t w4 hat HAG.out HAL.out (by omega))
    rw [hmap] at C5
    have C6 := hid (fun W (h1 : Rd W A4 vs) (h2 : Lists w3.heap.size W ls vs) => findR10_any w3.heap.size A4 z c4 vs ls t W HZ.out hz8 h1 h2 (by omega) (fun l hl => (HGD.out l hl).2.2))
    have HLEAST := hid (find_least ls t.data.toList HGD.out)
    have HAPP := hid (findM_app ls t.data.toList u.data.toList)
    obtain ⟨⟨k, N, ok⟩, hF⟩ : ∃ F, findM ls t.data.toList = F := ⟨_, rfl⟩
    rw [hF] at C5 C6 HLEAST HAPP
    clear hF hat hmap HK4
    go_wp2_with fail
    refine C5.out.mono ?_
    rintro en w5 ⟨rfl, hb5⟩
    have HB5 := hid (HB4.out.trans (hb5.mono HB4.out.size))
    have HRD5 := hid (HRD4.out.below hb5)
    have HLS5 := hid (HLS4.out.below hb5 (Nat.le_refl _))
    have HAT5 := hid (HAT.out.below hb5)
    have C7 := hid (C6.out w5 HRD5.out HLS5.out)
    clear hb5 C5 C6 HB4 HRD4 HLS4 HAT
    go_wp2_with fail
    refine C7.out.mono ?_
    rintro en w6 ⟨rfl, hb6⟩
    have HB6 := hid (HB5.out.trans (hb6.mono HB5.out.size))
    have HRD6 := hid (HRD5.out.below hb6)
    have HLS6 := hid (HLS5.out.below hb6 (Nat.le_refl _))
    have HAT6 := hid (HAT5.out.below hb6)
    clear hb6 C7 HB5 HRD5 HLS5 HAT5
    simp only
    have hok : (ok != ok) = false := by cases ok <;> rfl
    go_wp2_with fail
    go_loopw [19] (fun iv wr => ∃ (j : Nat), j ≤ z ∧ iv = .int .i64 (j : Int) ∧ Rd wr A4 vs ∧ Lists w3.heap.size wr ls vs ∧ ArmsAt w2.heap.size wr b ar 0 ∧ Below w.heap.size w wr) (fun iv _ => z - (intOf iv).toNat)
    case atStart => exact ⟨0, by omega, rfl, HRD6.out, HLS6.out, HAT6.out, HB6.out⟩
    case round =>
      obtain ⟨j, hj, rfl, hrd, hls, hat, hb⟩ := hrel
      have HRD := hid hrd; have HLS := hid hls; have HAT := hid hat; have HB := hid hb
      clear hrd hls hat hb HRD6 HLS6 HAT6 HB6
      by_cases hlt : j < z
      · have HJ : Hid (j < ls.length) := by rw [Hid, HZ.out]; exact hlt
        obtain ⟨A7, c7, hv, ho⟩ := HLS.out.2 j (ls[j]'HJ.out) (List.getElem?_eq_getElem HJ.out)
        have hvl : j < vs.length := by rw [HLS.out.1, HZ.out]; exact hlt
        have hrd := HRD.out
        obtain ⟨b8, off, rfl, hbl, hc⟩ := HRD.out.at (by omega)
        have d0 := hc j _ hv
        have HG := hid (HGD.out _ (List.getElem_mem HJ.out))
        have HL := hid (HLEAST.out j _ (List.getElem?_eq_getElem HJ.out))
        have HO := hid ho
        obtain ⟨l, hl'⟩ : ∃ l, ls[j]'HJ.out = l := ⟨_, rfl⟩
        rw [hl'] at d0 HG HL HO
        obtain ⟨r, hr⟩ : ∃ r, l.length = r := ⟨_, rfl⟩
        have HR := hid hr
        rw [hr] at d0 HO
        have hr60 : r ≤ 60 := by have := HG.out.2.2; omega
        have C8 := hid (firstR_any A7 r c7 l t wr HR.out (by omega) (Rd_of_own HO.out) (by omega))
        obtain ⟨⟨f1, f2, some⟩, hf⟩ : ∃ F, firstM l t.data.toList = F := ⟨_, rfl⟩
        rw [hf] at C8 HL
        simp only at C8 HL
        clear hl' hr hf hv ho hc hrd hvl HO HG
        go_wp2_with fail
        refine C8.out.mono ?_
        rintro en w9 ⟨rfl, hb9⟩
        have HB9 := hid (HB.out.trans (hb9.mono HB.out.size))
        have HRD9 := hid (HRD.out.below hb9)
        have HLS9 := hid (HLS.out.below hb9 (Nat.le_refl _))
        have HAT9 := hid (HAT.out.below hb9)
        clear hb9 C8 d0 HB HRD HLS HAT
        cases some
        · clear HL
          go_wp2_with fail
          go_roundw
          case rel => exact ⟨j + 1, by omega, by go_num, HRD9.out, HLS9.out, HAT9.out, HB9.out⟩
          case measure => simp [intOf]; omega
        · obtain ⟨h1, h2, h3⟩ := HL.out rfl
          have h1' : ok = true := h1
          have h2' : N ≤ f2 := h2
          have h3' : N = f2 → k ≤ j := h3
          subst h1'
          clear h1 h2 h3 HL
          by_cases hN : f2 = N
          · have h4 : ((f2 : Int) == (N : Int)) = true := by rw [beq_iff_eq]; omega
            have h5 : k ≤ j := h3' hN.symm
            have h6 : ¬ (j < k) := by omega
            have h7 : N ≤ f2 ∧ f2 ≤ N := by omega
            have h8 : ¬ (f2 < N) := by omega
            clear hN h3'
            go_wp2_with fail
            go_roundw
            case rel => exact ⟨j + 1, by omega, by go_num, HRD9.out, HLS9.out, HAT9.out, HB9.out⟩
            case measure => simp [intOf]; omega
          · have h4 : ((f2 : Int) == (N : Int)) = false := by rw [beq_eq_false_iff_ne]; omega
            have h8 : ¬ (f2 < N) := by omega
            clear hN h3'
            go_wp2_with fail
            go_roundw
            case rel => exact ⟨j + 1, by omega, by go_num, HRD9.out, HLS9.out, HAT9.out, HB9.out⟩
            case measure => simp [intOf]; omega
      · have HTU : Hid ((t ++ u).data.toList = t.data.toList ++ u.data.toList) := by simp [Hid]
        have C9 := hid (find10_any _ b ar 0 (t ++ u) wr HAT.out HAG.out HAL.out (by simp; omega))
        rw [HMAP.out, HTU.out] at C9
        cases ok
        · obtain ⟨⟨k2, N2, ok2⟩, hF2⟩ : ∃ F, findM ls (t.data.toList ++ u.data.toList) = F := ⟨_, rfl⟩
          rw [hF2] at C9
          clear hF2 HTU HAPP
          go_wp2_with fail
          refine C9.out.mono ?_
          rintro en w9 ⟨rfl, hb9⟩
          have HB9 := hid (HB.out.trans (hb9.mono HB.out.size))
          clear hb9 C9
          go_wp2_with fail
          refine (lives10_any w9).mono ?_
          rintro en w10 ⟨rfl, hb10⟩
          have HB10 := hid (HB9.out.trans (hb10.mono HB9.out.size))
          clear hb10
          go_wp2_with fail
          go_ret
          exact ⟨rfl, HB10.out⟩
        · rw [HAPP.out rfl] at C9
          clear HTU HAPP
          go_wp2_with fail
          refine C9.out.mono ?_
          rintro en w9 ⟨rfl, hb9⟩
          have HB9 := hid (HB.out.trans (hb9.mono HB.out.size))
          clear hb9 C9
          go_wp2_with fail
          refine (lives10_any w9).mono ?_
          rintro en w10 ⟨rfl, hb10⟩
          have HB10 := hid (HB9.out.trans (hb10.mono HB9.out.size))
          clear hb10
          go_wp2_with fail
          go_ret
          exact ⟨rfl, HB10.out⟩
  · have he0 : ((e : Int) == 0) = false := by rw [beq_eq_false_iff_ne]; omega
    have he1 : ((e : Int) != 0) = true := by rw [bne, he0]; rfl
    clear HK4
    go_wp2_with fail
    refine (lives10_any w4).mono ?_
    rintro en w10 ⟨rfl, hb10⟩
    have HB10 := hid (HB4.out.trans (hb10.mono HB4.out.size))
    clear hb10
    go_wp2_with fail
    go_ret
    exact ⟨rfl, HB10.out⟩
end Go.Proofs.Ytgiffdgicmdmgaa
