/- ArmsMakes: for every list of texts the law answers true. No condition. -/
import Derived.Test.YtgiffdgicmdmgaaMm
import Derived.Test.YtgiffdgicmdmgaaMi
namespace Go.Proofs.Ytgiffdgicmdmgaa
open Go.RowKit PopT

theorem newM_err (ps : List ByteArray) : ((newM ps).2.2 ≠ 0 → (newM ps).1 = []) ∧ ((newM ps).2.2 = 0 → (newM ps).2.1 = 0) := by
  unfold newM
  by_cases h8 : 8 < ps.length
  · rw [if_pos h8]; exact ⟨fun _ => rfl, fun _ => rfl⟩
  · rw [if_neg h8]
    have key : ∀ (ps : List ByteArray) (i : Nat) (acc : List (List Item)), ((newGo ps i acc).2.2 ≠ 0 → (newGo ps i acc).1 = []) ∧ ((newGo ps i acc).2.2 = 0 → (newGo ps i acc).2.1 = 0) := by
      intro ps
      induction ps with
      | nil => intro i acc; exact ⟨fun h => absurd rfl h, fun _ => rfl⟩
      | cons p ps ih =>
        intro i acc
        rw [newGo_check]
        by_cases he : (checkM p).2.2 ≠ 0
        · rw [if_pos he]; exact ⟨fun _ => rfl, fun h => absurd h he⟩
        · rw [if_neg he]; exact ih _ _
    exact key _ _ _

set_option maxRecDepth 20000 in
set_option maxHeartbeats 4000000 in
theorem armsMakes_any (A : Option Addr) (n c : Nat) (ps : List ByteArray) (w : World) (hl : ps.length = n) (hs : ∀ p ∈ ps, p.size ≤ 9223372036854775807) (hr : Rd w A (textCells ps)) :
    Calls Try.prog 3 #[.slice A n c] w fun e w' => e = .returned (.bool true) ∧ Below w.heap.size w w' := by
  have C0 := hid (fewT_any A n c ps 10 20 w hl hr hs (by omega) (by omega))
  have HQL := hid (fewTM_length ps 10 20)
  have HQS := hid (fewTM_size ps 10 20)
  have HTW := hid (fewTM_twice ps 10 20)
  obtain ⟨q, hq⟩ : ∃ q, fewTM ps 10 20 = q := ⟨_, rfl⟩
  rw [hq] at C0 HQL HQS HTW
  obtain ⟨m, hm⟩ : ∃ m, q.length = m := ⟨_, rfl⟩
  have HM := hid hm
  rw [hm] at C0 HQL
  have hm10 : m ≤ 10 := HQL.out
  have HSZ : Hid (∀ p ∈ q, p.size ≤ 1000000) := fun p hp => by have := HQS.out p hp; omega
  clear hq hm hl hs hr
  go_enter Try.func3, Try.ntmps3
  go_wp2_with fail
  refine C0.out.mono ?_
  rintro en w1 ⟨A1, c1, rfl, hown1, hb1⟩
  have HO1 := hid hown1; have HB1 := hid hb1
  have C1 := hid (fewT_any A1 m c1 q 10 20 w1 HM.out (Rd_of_own hown1) (fun p hp => by have := HQS.out p hp; omega) (by omega) (by omega))
  rw [HTW.out, HM.out] at C1
  clear C0 hown1 hb1
  go_wp2_with fail
  refine C1.out.mono ?_
  rintro en w2 ⟨A2, c2, rfl, hown2, hb2⟩
  have HO2 := hid (own_below HO1.out hb2)
  have HB2 := hid (HB1.out.trans (hb2.mono HB1.out.size))
  have C2 := hid (new_any A2 m c2 q w2 HM.out HSZ.out (Rd_of_own hown2))
  clear C1 hown2 hb2 HO1 HB1
  have HERR := hid (newM_err q)
  obtain ⟨⟨ls, i, e⟩, hR⟩ : ∃ R, newM q = R := ⟨_, rfl⟩
  have C3 := hid (fun W => newF_any A1 m c1 q W HM.out (by omega) HSZ.out)
  rw [hR] at C2 HERR C3
  clear hR
  go_wp2_with fail
  refine C2.out.mono ?_
  rintro en w3 ⟨hb3, hres⟩
  have HO3 := hid (own_below HO2.out hb3)
  have HB3 := hid (HB2.out.trans (hb3.mono HB2.out.size))
  have C4 := hid (C3.out w3 (Rd_of_own HO3.out))
  clear C2 C3 HO2 HB2 hb3
  have KEY : ∃ pv, en = .returned (.tuple #[.pointer pv, .int .i64 (i : Nat), .int .i64 (e : Nat)]) ∧ Hid ((e = 0 ↔ ∃ x, pv = some x) ∧ (∀ W, Below w3.heap.size w3 W → Calls Try.prog 16 #[.pointer pv] W fun e w' => e = .returned (.int .i64 (ls.length : Int)) ∧ W = w') ∧
      (∀ W, Below w3.heap.size w3 W → Calls Try.prog 17 #[.pointer pv] W fun e w' => e = .returned (.int .i64 0) ∧ W = w')) := by
    rcases hres with ⟨he, rfl⟩ | ⟨he, b, ar, rfl, hat, hmm, -⟩
    · have e0 : ls = [] := HERR.out.1 he
      refine ⟨none, rfl, ⟨fun h => absurd h he, fun ⟨x, hx⟩ => by cases hx⟩, fun W _ => ?_, fun W _ => fedN_any W⟩
      rw [e0]; exact lenN2_any W
    · have e0 : e = 0 := he
      subst e0
      refine ⟨some ⟨b, 0, none⟩, ?_, ⟨fun _ => ⟨_, rfl⟩, fun _ => rfl⟩, fun W hW => ?_, fun W hW => fed_any _ b ar 0 W (hat.below hW)⟩
      · have hi : i = 0 := HERR.out.2 rfl
        rw [hi]; rfl
      · have : ar.length = ls.length := by have := congrArg List.length hmm; rwa [List.length_map] at this
        rw [← this]; exact alen_any _ b ar 0 W (hat.below hW)
  obtain ⟨pv, rfl, hkey⟩ := KEY
  clear hres HERR
  have HK := hkey
  clear hkey
  go_wp2_with fail
  refine C4.out.mono ?_
  rintro en w4 ⟨A4, c4, vs, rfl, hrd4, hls4, hb4⟩
  have HB4 := hid (HB3.out.trans (hb4.mono HB3.out.size))
  have HO4 := hid (own_below HO3.out hb4)
  have C5 := hid (HK.out.2.1 w4 hb4)
  have C6 := hid (HK.out.2.2 w4 hb4)
  have HPV := hid HK.out.1
  clear C4 hrd4 hls4 hb4 HO3 HB3 HK
  simp only
  obtain ⟨z, hz⟩ : ∃ z, ls.length = z := ⟨_, rfl⟩
  rw [hz] at C5
  simp only [hz]
  clear hz
  cases pv with
  | none =>
    have he : e ≠ 0 := fun h => by obtain ⟨x, hx⟩ := HPV.out.1 h; cases hx
    have he0 : ((e : Int) == 0) = false := by rw [beq_eq_false_iff_ne]; omega
    have he1 : ((e : Int) != 0) = true := by rw [bne, he0]; rfl
    clear HPV
    go_wp2_with fail
    refine C5.out.mono ?_
    rintro en w5 ⟨rfl, rfl⟩
    clear C5
    go_wp2_with fail
    refine C6.out.mono ?_
    rintro en w5 ⟨rfl, rfl⟩
    clear C6
    go_wp2_with fail
    go_loopw [9] (fun iv wr => ∃ (k : Nat), k ≤ m ∧ iv = .int .i64 (k : Int) ∧ wr.ownsRow w.heap.size 9 1 (.slice A1 m c1) m (textCells q) ∧ Below w.heap.size w wr) (fun iv _ => m - (intOf iv).toNat)
    case atStart => exact ⟨0, by omega, rfl, HO4.out, HB4.out⟩
    case round =>
      obtain ⟨k, hk, rfl, hown, hb⟩ := hrel
      have HO := hid hown; have HB := hid hb
      clear HO4 HB4 hown hb
      by_cases hlt : k < m
      · have HK : Hid (k < q.length) := by rw [Hid, HM.out]; exact hlt
        obtain ⟨b, off, rfl, hbl, hc⟩ := (Rd_of_own HO.out).at (by rw [textCells, List.length_map, HM.out]; omega)
        have HRD := hid (Rd_of_own HO.out)
        have d0 : wr.cell? ⟨b, off + k, none⟩ = some (.string (q[k]'HK.out)) := hc k _ (by rw [textCells, List.getElem?_map, List.getElem?_eq_getElem HK.out]; rfl)
        have D1 : Hid (∀ W, Below wr.heap.size wr W → W.cell? ⟨b, off + k, none⟩ = some (.string (q[k]'HK.out))) := fun W hW => (hW.cell (p := ⟨b, off + k, none⟩) hbl).trans d0
        have C7 := hid (check10_any (q[k]'HK.out) (HSZ.out _ (List.getElem_mem HK.out)) wr)
        have C8 := hid (fun W => checkR_any (q[k]'HK.out) (HSZ.out _ (List.getElem_mem HK.out)) W)
        obtain ⟨p, hpp⟩ : ∃ p, q[k]'HK.out = p := ⟨_, rfl⟩
        rw [hpp] at d0 C7 C8 D1
        obtain ⟨⟨l, a, e⟩, hPM⟩ : ∃ P, checkM p = P := ⟨_, rfl⟩
        rw [hPM] at C7 C8
        simp only at C7
        clear hpp hPM hc
        go_wp2_with fail
        refine C7.out.mono ?_
        rintro en w6 ⟨rfl, hb6⟩
        have HB6 := hid (HB.out.trans (hb6.mono HB.out.size))
        have d1 := D1.out w6 hb6
        have HO6 := hid (own_below HO.out hb6)
        clear d0 C7 hb6
        have hbl6 : b < w6.heap.size := World.block_lt_of_cell? w6 _ d1
        go_wp2_with fail
        refine (C8.out w6).mono ?_
        rintro en w7 ⟨A7, c7, rfl, hown7, hb7⟩
        have HB7 := hid (HB6.out.trans (hb7.mono HB6.out.size))
        have HO7 := hid (own_below HO6.out hb7)
        clear hown7 hb7 d1 C8 D1 HB6 HO6 HB HO HRD
        simp only
        go_wp2_with fail
        go_roundw
        case rel => exact ⟨k + 1, by omega, by go_num, HO7.out, HB7.out⟩
        case measure => simp [intOf]; omega
      · go_wp2_with fail
        refine (lives10_any wr).mono ?_
        rintro en w6 ⟨rfl, hb6⟩
        have HB6 := hid (HB.out.trans (hb6.mono HB.out.size))
        clear hb6 HB
        go_wp2_with fail
        go_ret
        exact ⟨rfl, HB6.out⟩
  | some x =>
    obtain rfl : e = 0 := HPV.out.2 ⟨_, rfl⟩
    clear HPV
    go_wp2_with fail
    refine C5.out.mono ?_
    rintro en w5 ⟨rfl, rfl⟩
    clear C5
    go_wp2_with fail
    refine C6.out.mono ?_
    rintro en w5 ⟨rfl, rfl⟩
    clear C6
    go_wp2_with fail
    go_loopw [9] (fun iv wr => ∃ (k : Nat), k ≤ m ∧ iv = .int .i64 (k : Int) ∧ wr.ownsRow w.heap.size 9 1 (.slice A1 m c1) m (textCells q) ∧ Below w.heap.size w wr) (fun iv _ => m - (intOf iv).toNat)
    case atStart => exact ⟨0, by omega, rfl, HO4.out, HB4.out⟩
    case round =>
      obtain ⟨k, hk, rfl, hown, hb⟩ := hrel
      have HO := hid hown; have HB := hid hb
      clear HO4 HB4 hown hb
      by_cases hlt : k < m
      · have HK : Hid (k < q.length) := by rw [Hid, HM.out]; exact hlt
        obtain ⟨b, off, rfl, hbl, hc⟩ := (Rd_of_own HO.out).at (by rw [textCells, List.length_map, HM.out]; omega)
        have HRD := hid (Rd_of_own HO.out)
        have d0 : wr.cell? ⟨b, off + k, none⟩ = some (.string (q[k]'HK.out)) := hc k _ (by rw [textCells, List.getElem?_map, List.getElem?_eq_getElem HK.out]; rfl)
        have D1 : Hid (∀ W, Below wr.heap.size wr W → W.cell? ⟨b, off + k, none⟩ = some (.string (q[k]'HK.out))) := fun W hW => (hW.cell (p := ⟨b, off + k, none⟩) hbl).trans d0
        have C7 := hid (check10_any (q[k]'HK.out) (HSZ.out _ (List.getElem_mem HK.out)) wr)
        have C8 := hid (fun W => checkR_any (q[k]'HK.out) (HSZ.out _ (List.getElem_mem HK.out)) W)
        obtain ⟨p, hpp⟩ : ∃ p, q[k]'HK.out = p := ⟨_, rfl⟩
        rw [hpp] at d0 C7 C8 D1
        obtain ⟨⟨l, a, e⟩, hPM⟩ : ∃ P, checkM p = P := ⟨_, rfl⟩
        rw [hPM] at C7 C8
        simp only at C7
        clear hpp hPM hc
        go_wp2_with fail
        refine C7.out.mono ?_
        rintro en w6 ⟨rfl, hb6⟩
        have HB6 := hid (HB.out.trans (hb6.mono HB.out.size))
        have d1 := D1.out w6 hb6
        have HO6 := hid (own_below HO.out hb6)
        clear d0 C7 hb6
        have hbl6 : b < w6.heap.size := World.block_lt_of_cell? w6 _ d1
        go_wp2_with fail
        refine (C8.out w6).mono ?_
        rintro en w7 ⟨A7, c7, rfl, hown7, hb7⟩
        have HB7 := hid (HB6.out.trans (hb7.mono HB6.out.size))
        have HO7 := hid (own_below HO6.out hb7)
        clear hown7 hb7 d1 C8 D1 HB6 HO6 HB HO HRD
        simp only
        go_wp2_with fail
        go_roundw
        case rel => exact ⟨k + 1, by omega, by go_num, HO7.out, HB7.out⟩
        case measure => simp [intOf]; omega
      · go_wp2_with fail
        refine (lives10_any wr).mono ?_
        rintro en w6 ⟨rfl, hb6⟩
        have HB6 := hid (HB.out.trans (hb6.mono HB.out.size))
        clear hb6 HB
        go_wp2_with fail
        go_ret
        exact ⟨rfl, HB6.out⟩
end Go.Proofs.Ytgiffdgicmdmgaa
namespace Go.Proofs.Ytgiffdgicmdmgaa
open Go.ChangeShapes Go.WideShapes Go.ChangeAt Go.RowKit Go.WideElems Go.Deep
open Go.ChangeMaps (open_string shut_string)

set_option maxRecDepth 100000 in
theorem armsMakes_lifted (os : Os) (started : os.Started) (H : Type) (enc : TypeId × Value → H) :
    ReturnsInHanded {} Try.checked os 3 .any (Rows.armsMakesSpec.pre6 enc Try.prog Try.f3 [] false) (Rows.armsMakesSpec.post enc Try.prog Try.f3 false true false false) := by
  refine law_lifted 3 Try.f3 Rows.armsMakesSpec os started H enc Try.func3 (by kernel_rfl) (by kernel_rfl) (by kernel_rfl) rfl (fun ds h => ?_)
    (ChangeSpec.witness6 (enc := enc) (C := Try.checked) false ⟨#[], #[.slice none 0 0], []⟩ 8 (by kernel_rfl) (by kernel_rfl) (by kernel_rfl) (by kernel_rfl)) ?_
  · have hn : ds.length = 1 := h
    match ds, hn with
    | [d0], _ => rfl
  · intro W args ds p base hval hA _ _
    rw [show Try.f3.params.toList = [22] from by rw [Try.params3]] at hval hA
    obtain ⟨v0, _, d0, _, p0, _, rfl, rfl, rfl, h0, hA⟩ := all_cons hA
    obtain rfl := all_nil hA
    obtain ⟨A0, n0, c0, l0, rfl, hl0, hn0, hr0⟩ := open_strs (hval 0 _ v0 rfl rfl) h0
    exact armsMakes_any A0 n0 c0 l0 W hl0 hn0 hr0

theorem armsMakes_holds : Rows.ArmsMakesSaid :=
  OpenClaim.holds_of_wide 3 Try.f3 rfl rfl rfl rfl rfl rfl rfl ⟨rfl, rfl, rfl, rfl, rfl⟩ rfl rfl rfl rfl rfl (by kernel_rfl) Try.func3 (by kernel_rfl)
    (of_decide_eq_true (by kernel_rfl)) (by unfold Func.isWrapper; first | (rw [if_pos (by decide +kernel)]; kernel_rfl) | (rw [if_neg (by decide +kernel)]; exact ⟨rfl, rfl⟩))
    (fun os started H enc _ => armsMakes_lifted os started H enc)
#print axioms armsMakes_holds
end Go.Proofs.Ytgiffdgicmdmgaa
