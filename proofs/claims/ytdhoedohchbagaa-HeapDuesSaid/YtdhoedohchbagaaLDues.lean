/- The law HeapDues: its walk. -/
import Derived.Test.YtdhoedohchbagaaHq
namespace Go.Proofs.Ytdhoedohchbagaa
open Go.RowKit

theorem dues_rest_nil (now : Int) (l : List Ent) : duesE now (restE now l) = [] := by
  cases h : restE now l with
  | nil => rfl
  | cons x r => rw [duesE_cons, restE_head now l x r h]; rfl

set_option maxRecDepth 20000 in
set_option maxHeartbeats 2000000 in
theorem heapDues_small (A : Option Addr) (n c : Nat) (ats : List Int) (now : Int) (w : World) (hl : ats.length = n) (hn : n ≤ 9223372036854775807) (hr : Rd w A (intCells ats)) (hN : n ≤ 32) :
    Calls Try.prog 4 #[.slice A n c, .int .i64 now] w fun e w' => e = .returned (.bool true) ∧ Below w.heap.size w w' := by
  have HL := hid hl; have HR := hid hr
  clear hl hr
  go_enter Try.func4, Try.ntmps4
  go_wp2_with fail
  refine (hNew_any 32 (by omega) (by omega) _).mono ?_
  rintro e w1 ⟨g, gw, rfl, hi1, hb1, hg, hgw⟩
  have HB1 := hid hb1
  have HI1 := hid hi1
  have F1 : Hid (∀ k, HpF g gw (.slice none 0 0) k → w.heap.size ≤ k) := by
    rintro k (h | h | h)
    · omega
    · omega
    · simp [Value.ownBlock] at h
  clear hi1 hb1
  go_wp2_with fail
  go_loopw [6, 7] (fun nv iv wr => ∃ (k cnt : Nat) (v : Value) (l : List Ent), k ≤ n ∧ cnt ≤ k ∧ nv = .int .i64 (cnt : Int) ∧ iv = .int .i64 (k : Int) ∧ HpI wr g gw 32 v l ∧ Hid (AllSet ats k l cnt) ∧ Below w.heap.size w wr ∧ Hid (∀ k, HpF g gw v k → w.heap.size ≤ k)) (fun _ iv _ => 100 - (intOf iv).toNat)
  case atStart => exact ⟨0, 0, _, [], by omega, by omega, rfl, rfl, HI1.out, allSet_zero ats, HB1.out, F1⟩
  case round =>
    obtain ⟨k, cnt, v, l, hk, hck, rfl, rfl, hi, HS, hb, HF⟩ := hrel
    have HI := hid hi
    have HB := hid hb
    clear hi hb HI1 HB1 F1
    by_cases hkK : k < n
    · have h32 : k < 32 := by omega
      obtain ⟨b, off, rfl, hbl, hc⟩ := HR.out.at (by rw [intCells_length, HL.out]; omega)
      have hkl : k < ats.length := by rw [HL.out]; omega
      have cw := hc k _ (intCells_get ats k hkl)
      have hkn : k < n := by omega
      obtain ⟨a, ha⟩ : ∃ a, ats.getD k 0 = a := ⟨_, rfl⟩
      have hak : ats[k]'hkl = a := by rw [← ha]; simp [List.getD, hkl]
      rw [hak] at cw
      have c0 := (HB.out.cell (p := ⟨b, off + k, none⟩) hbl).trans cw
      have HST := hid HS.out.step
      rw [ha] at HST
      have HC := hid (setH_any g gw 32 v l k a wr HI.out (by omega))
      clear hc ha hak hkl
      by_cases hnev : a = neverT
      · have hne : (a != 9223372036854775807) = false := by unfold neverT at hnev; simp [hnev]
        rw [if_pos hnev] at HST
        clear hnev
        go_wp2_with fail
        refine HC.out.mono ?_
        rintro e w2 ⟨rfl, hp⟩
        obtain ⟨b2, v2, hi2, f2⟩ := hp.lower HB.out.size HF.out
        have HB2 := hid (HB.out.trans b2)
        have HI2 := hid hi2; have HF2 := hid f2
        have c1 := (HB2.out.cell (p := ⟨b, off + k, none⟩) hbl).trans cw
        clear hp b2 hi2 f2 HC c0 cw
        go_wp2_with fail
        go_roundw
        case rel => exact ⟨k + 1, cnt, v2, _, by omega, by omega, rfl, by go_num, HI2.out, HST, HB2.out, HF2⟩
        case measure => simp [intOf]; omega
      · have hne : (a != 9223372036854775807) = true := by unfold neverT at hnev; simp [hnev]
        rw [if_neg hnev] at HST
        clear hnev
        go_wp2_with fail
        refine HC.out.mono ?_
        rintro e w2 ⟨rfl, hp⟩
        obtain ⟨b2, v2, hi2, f2⟩ := hp.lower HB.out.size HF.out
        have HB2 := hid (HB.out.trans b2)
        have HI2 := hid hi2; have HF2 := hid f2
        have c1 := (HB2.out.cell (p := ⟨b, off + k, none⟩) hbl).trans cw
        clear hp b2 hi2 f2 HC c0 cw
        go_wp2_with fail
        go_roundw
        case rel => exact ⟨k + 1, cnt + 1, v2, _, by omega, by omega, by go_num, by go_num, HI2.out, HST, HB2.out, HF2⟩
        case measure => simp [intOf]; omega
    · obtain rfl : n = k := by omega
      have HC := hid (hDue_any g gw 32 v l now wr HI.out)
      have hsorted : SortedE l := by obtain ⟨_, _, _, _, hh, _⟩ := HI.out; exact hh.sorted
      have HSO := hid hsorted
      obtain ⟨d, hd⟩ : ∃ d, duesE now l = d := ⟨_, rfl⟩
      obtain ⟨rs, hrs⟩ : ∃ rs, restE now l = rs := ⟨_, rfl⟩
      rw [hd, hrs] at HC
      have HD := hid hd; have HRS := hid hrs
      have hlen : (cnt : Int) - (d.length : Int) = (rs.length : Int) := by
        have h1 := HS.out.len
        have h2 := dues_rest now l
        rw [hd, hrs] at h2
        rw [← h2, List.length_append] at h1
        omega
      have hdl : d.length ≤ 32 := by
        have h1 := HS.out.len
        have h2 := dues_rest now l
        rw [hd, hrs] at h2
        rw [← h2, List.length_append] at h1
        omega
      obtain ⟨nd, hnd⟩ : ∃ nd, d.length = nd := ⟨_, rfl⟩
      rw [hnd] at HC hlen hdl
      have HND := hid hnd
      have HLEN := hid hlen
      clear hd hrs hsorted hnd hlen
      go_wp2_with fail
      refine HC.out.mono ?_
      rintro e w6 ⟨A2, c2, rfl, v6, hi6, hk6, hv6, ho6, hd6⟩
      rw [HND.out] at ho6
      have HR6 : Hid (Rd w6 A2 (entCells d)) := Rd_of_own ho6
      have HI6 := hid hi6
      have B6 := hid (hk6.below HB.out.size HF.out)
      have HB6 := hid (HB.out.trans B6.out)
      have HF6 : Hid (∀ k, HpF g gw v6 k → w.heap.size ≤ k) := by
        rintro k (h | h | h)
        · exact HF.out k (.inl h)
        · exact HF.out k (.inr (.inl h))
        · rcases hv6 k h with h | h
          · exact HF.out k (.inr (.inr h))
          · have := HB.out.size; omega
      clear hi6 hk6 hv6 ho6 hd6 HC
      obtain ⟨wo, rfl⟩ : ∃ wo : World, wo = wr := ⟨wr, rfl⟩
      go_wp2_with fail
      go_loopw [9] (fun iv w7 => ∃ k : Nat, k ≤ nd ∧ iv = .int .i64 (k : Int) ∧ Below w6.heap.size w6 w7) (fun iv _ => nd - (intOf iv).toNat)
      case atStart => exact ⟨0, by omega, rfl, Below.refl _ _⟩
      case round =>
        obtain ⟨q, hq, rfl, hb7⟩ := hrel
        have HB7 := hid hb7
        clear hb7
        by_cases hqn : q < nd
        · obtain ⟨b2, off2, rfl, hbl2, hc2⟩ := (HR6.out.below HB7.out).at (by rw [entCells_length, HND.out]; omega)
          obtain ⟨x1, x2⟩ := rd_ent hc2 q (by rw [HND.out]; exact hqn)
          obtain ⟨x, hx⟩ : ∃ x, eg d q = x := ⟨_, rfl⟩
          have hxd : x ∈ duesE now l := by rw [HD.out, ← hx]; exact eg_mem (by rw [HND.out]; exact hqn)
          rw [hx] at x1 x2
          obtain ⟨hxK, hxdue⟩ := HS.out.due hxd
          have hno := HS.out.has_rest (now := now) HSO.out hxK
          rw [hxdue, HRS.out] at hno
          have HNO : Hid (hasE rs x.id = false) := by rw [Hid, hno]; rfl
          obtain ⟨b, off, rfl, hbl, hc⟩ := HR.out.at (by rw [intCells_length, HL.out]; omega)
          have hkl : x.id < ats.length := by rw [HL.out]; omega
          have cw := hc x.id _ (intCells_get ats x.id hkl)
          obtain ⟨a, ha⟩ : ∃ a, ats.getD x.id 0 = a := ⟨_, rfl⟩
          have hak : ats[x.id]'hkl = a := by rw [← ha]; simp [List.getD, hkl]
          rw [hak] at cw
          rw [ha] at hxdue
          have HDUE := hid hxdue
          have hxn : x.id < n := by omega
          have hxn2 : decide (n ≤ x.id) = false := by simp; omega
          have hs67 := HB7.out.size
          have hblr : b < wr.heap.size := Nat.lt_of_lt_of_le hbl (Nat.le_trans HB6.out.size hs67)
          have c0 := ((HB6.out.trans (HB7.out.mono HB6.out.size)).cell (p := ⟨b, off + x.id, none⟩) hbl).trans cw
          have HA := hid (at_no g gw 32 v6 rs (x.id : Int) wr (HI6.out.below HB7.out) (.inr (.inr (by simpa using HNO.out))))
          clear hc2 hc cw ha hak hno hxdue hxd hx hkl
          go_wp2_with (first
            | (go_at_call 22; refine HA.out.mono ?_; rintro e w8 ⟨rfl, hb8⟩; obtain ⟨hc8, hf8⟩ := bcell hb8; have HB8 := hid (HB7.out.trans (hb8.mono HB7.out.size)); clear hb8)
            | (go_at_call 23; refine (dueR_any _ _ _).mono ?_; rw [HDUE.out]; rintro e w8 ⟨rfl, rfl⟩))
          go_roundw
          case rel => exact ⟨q + 1, by omega, by go_num, HB8.out⟩
          case measure => simp [intOf]; omega
        · obtain ⟨wo7, rfl⟩ : ∃ wo : World, wo = wr := ⟨wr, rfl⟩
          go_wp2_with fail
          go_loopw [12] (fun iv w7 => ∃ k : Nat, k ≤ n ∧ iv = .int .i64 (k : Int) ∧ Below w6.heap.size w6 w7) (fun iv _ => 100 - (intOf iv).toNat)
          case atStart => exact ⟨0, by omega, rfl, HB7.out⟩
          case round =>
            obtain ⟨k, hk, rfl, hb9⟩ := hrel
            have HB9 := hid hb9
            clear hb9
            by_cases hkK : k < n
            · have h32 : k < 32 := by omega
              have hkl : k < ats.length := by rw [HL.out]; omega
              have hno := HS.out.has_rest (now := now) HSO.out hkK
              rw [HRS.out] at hno
              obtain ⟨b, off, rfl, hbl, hc⟩ := HR.out.at (by rw [intCells_length, HL.out]; omega)
              have cw := hc k _ (intCells_get ats k hkl)
              obtain ⟨a, ha⟩ : ∃ a, ats.getD k 0 = a := ⟨_, rfl⟩
              have hak : ats[k]'hkl = a := by rw [← ha]; simp [List.getD, hkl]
              rw [hak] at cw
              rw [ha] at hno
              have hxn : k < n := by omega
              have hblr : b < wr.heap.size := Nat.lt_of_lt_of_le hbl (Nat.le_trans HB6.out.size HB9.out.size)
              have c0 := ((HB6.out.trans (HB9.out.mono HB6.out.size)).cell (p := ⟨b, off + k, none⟩) hbl).trans cw
              have HHA := hid ha
              clear hc cw ha hak hkl
              cases hdue : dueT a now
              · cases hnv : (a == 9223372036854775807)
                · have hnv2 : decide (a = neverT) = false := by rw [← neverB]; exact hnv
                  rw [hdue, hnv2] at hno
                  obtain ⟨e, he, hek⟩ := hasE_iff.1 (show hasE rs k = true from hno)
                  have het : e.t = ownT a := by
                    have hl2 : e ∈ l := by rw [← dues_rest now l, HRS.out]; exact List.mem_append_right _ he
                    have := ((HS.out.mem e).1 hl2).2.2
                    rw [this, hek, HHA.out]
                  have HA := hid (at_yes g gw 32 v6 rs e wr (HI6.out.below HB9.out) he)
                  rw [hek, het] at HA
                  have HDUE := hid hdue
                  clear hno he hek het hnv2 hdue
                  go_wp2_with (first
                    | (go_at_call 22; refine HA.out.mono ?_; rintro e w8 ⟨rfl, hb8⟩; obtain ⟨hc8, hf8⟩ := bcell hb8; have HB8 := hid (HB9.out.trans (hb8.mono HB9.out.size)); clear hb8)
                    | (go_at_call 23; refine (dueR_any _ _ _).mono ?_; rw [HDUE.out]; rintro e w8 ⟨rfl, rfl⟩)
                    | (go_at_call 24; refine (ownR_any _ _).mono ?_; rintro e w8 ⟨rfl, rfl⟩))
                  go_roundw
                  case rel => exact ⟨k + 1, by omega, by go_num, HB8.out⟩
                  case measure => simp [intOf]; omega
                · have hnv2 : decide (a = neverT) = true := by rw [← neverB]; exact hnv
                  rw [hdue, hnv2] at hno
                  have HA := hid (at_no g gw 32 v6 rs (k : Int) wr (HI6.out.below HB9.out) (.inr (.inr (by simpa using hno))))
                  have HDUE := hid hdue
                  clear hno hnv2 hdue
                  go_wp2_with (first
                    | (go_at_call 22; refine HA.out.mono ?_; rintro e w8 ⟨rfl, hb8⟩; obtain ⟨hc8, hf8⟩ := bcell hb8; have HB8 := hid (HB9.out.trans (hb8.mono HB9.out.size)); clear hb8)
                    | (go_at_call 23; refine (dueR_any _ _ _).mono ?_; rw [HDUE.out]; rintro e w8 ⟨rfl, rfl⟩)
                    | (go_at_call 24; refine (ownR_any _ _).mono ?_; rintro e w8 ⟨rfl, rfl⟩))
                  go_roundw
                  case rel => exact ⟨k + 1, by omega, by go_num, HB8.out⟩
                  case measure => simp [intOf]; omega
              · rw [hdue] at hno
                have HA := hid (at_no g gw 32 v6 rs (k : Int) wr (HI6.out.below HB9.out) (.inr (.inr (by simpa using hno))))
                have HDUE := hid hdue
                clear hno hdue
                go_wp2_with (first
                  | (go_at_call 22; refine HA.out.mono ?_; rintro e w8 ⟨rfl, hb8⟩; obtain ⟨hc8, hf8⟩ := bcell hb8; have HB8 := hid (HB9.out.trans (hb8.mono HB9.out.size)); clear hb8)
                  | (go_at_call 23; refine (dueR_any _ _ _).mono ?_; rw [HDUE.out]; rintro e w8 ⟨rfl, rfl⟩))
                go_roundw
                case rel => exact ⟨k + 1, by omega, by go_num, HB8.out⟩
                case measure => simp [intOf]; omega
            · obtain rfl : n = k := by omega
              have HI9 := hid (HI6.out.below HB9.out)
              have HLN := hid (len_any g gw 32 v6 rs wr HI9.out)
              have HDU := hid (hDue_any g gw 32 v6 rs now wr HI9.out)
              rw [show duesE now rs = [] from by rw [← HRS.out]; exact dues_rest_nil now l] at HDU
              have hlen := HLEN.out
              have HBB := hid (HB6.out.trans (HB9.out.mono HB6.out.size))
              go_wp2_with fail
              refine HLN.out.mono ?_
              rintro e w8 ⟨rfl, rfl⟩
              go_wp2_with fail
              refine HDU.out.mono ?_
              rintro e w10 ⟨A3, c3, he, hdp⟩
              have he2 : e = .returned (.slice A3 0 c3) := he
              subst he2
              have HB10 : Hid (Below w.heap.size w w10) := by
                obtain ⟨v10, _, hk10, _⟩ := hdp
                exact HBB.out.trans (hk10.below HBB.out.size HF6.out)
              clear hdp HDU HLN
              go_wp2_with fail
              refine (lives5_any _).mono ?_
              rintro e w11 ⟨rfl, hb11⟩
              have HB11 := hid (HB10.out.trans (hb11.mono HB10.out.size))
              clear hb11
              go_wp2_with fail
              go_ret
              exact ⟨rfl, HB11.out⟩

set_option maxRecDepth 20000 in
set_option maxHeartbeats 2000000 in
theorem heapDues_big (A : Option Addr) (n c : Nat) (ats : List Int) (now : Int) (w : World) (hl : ats.length = n) (hn : n ≤ 9223372036854775807) (hr : Rd w A (intCells ats)) (hN : 32 < n) :
    Calls Try.prog 4 #[.slice A n c, .int .i64 now] w fun e w' => e = .returned (.bool true) ∧ Below w.heap.size w w' := by
  have HL := hid hl; have HR := hid hr
  clear hl hr
  go_enter Try.func4, Try.ntmps4
  go_wp2_with fail
  refine (hNew_any 32 (by omega) (by omega) _).mono ?_
  rintro e w1 ⟨g, gw, rfl, hi1, hb1, hg, hgw⟩
  have HB1 := hid hb1
  have HI1 := hid hi1
  have F1 : Hid (∀ k, HpF g gw (.slice none 0 0) k → w.heap.size ≤ k) := by
    rintro k (h | h | h)
    · omega
    · omega
    · simp [Value.ownBlock] at h
  clear hi1 hb1
  go_wp2_with fail
  go_loopw [6, 7] (fun nv iv wr => ∃ (k cnt : Nat) (v : Value) (l : List Ent), k ≤ 32 ∧ cnt ≤ k ∧ nv = .int .i64 (cnt : Int) ∧ iv = .int .i64 (k : Int) ∧ HpI wr g gw 32 v l ∧ Hid (AllSet ats k l cnt) ∧ Below w.heap.size w wr ∧ Hid (∀ k, HpF g gw v k → w.heap.size ≤ k)) (fun _ iv _ => 100 - (intOf iv).toNat)
  case atStart => exact ⟨0, 0, _, [], by omega, by omega, rfl, rfl, HI1.out, allSet_zero ats, HB1.out, F1⟩
  case round =>
    obtain ⟨k, cnt, v, l, hk, hck, rfl, rfl, hi, HS, hb, HF⟩ := hrel
    have HI := hid hi
    have HB := hid hb
    clear hi hb HI1 HB1 F1
    by_cases hkK : k < 32
    · have h32 : k < n := by omega
      obtain ⟨b, off, rfl, hbl, hc⟩ := HR.out.at (by rw [intCells_length, HL.out]; omega)
      have hkl : k < ats.length := by rw [HL.out]; omega
      have cw := hc k _ (intCells_get ats k hkl)
      have hkn : k < n := by omega
      obtain ⟨a, ha⟩ : ∃ a, ats.getD k 0 = a := ⟨_, rfl⟩
      have hak : ats[k]'hkl = a := by rw [← ha]; simp [List.getD, hkl]
      rw [hak] at cw
      have c0 := (HB.out.cell (p := ⟨b, off + k, none⟩) hbl).trans cw
      have HST := hid HS.out.step
      rw [ha] at HST
      have HC := hid (setH_any g gw 32 v l k a wr HI.out (by omega))
      clear hc ha hak hkl
      by_cases hnev : a = neverT
      · have hne : (a != 9223372036854775807) = false := by unfold neverT at hnev; simp [hnev]
        rw [if_pos hnev] at HST
        clear hnev
        go_wp2_with fail
        refine HC.out.mono ?_
        rintro e w2 ⟨rfl, hp⟩
        obtain ⟨b2, v2, hi2, f2⟩ := hp.lower HB.out.size HF.out
        have HB2 := hid (HB.out.trans b2)
        have HI2 := hid hi2; have HF2 := hid f2
        have c1 := (HB2.out.cell (p := ⟨b, off + k, none⟩) hbl).trans cw
        clear hp b2 hi2 f2 HC c0 cw
        go_wp2_with fail
        go_roundw
        case rel => exact ⟨k + 1, cnt, v2, _, by omega, by omega, rfl, by go_num, HI2.out, HST, HB2.out, HF2⟩
        case measure => simp [intOf]; omega
      · have hne : (a != 9223372036854775807) = true := by unfold neverT at hnev; simp [hnev]
        rw [if_neg hnev] at HST
        clear hnev
        go_wp2_with fail
        refine HC.out.mono ?_
        rintro e w2 ⟨rfl, hp⟩
        obtain ⟨b2, v2, hi2, f2⟩ := hp.lower HB.out.size HF.out
        have HB2 := hid (HB.out.trans b2)
        have HI2 := hid hi2; have HF2 := hid f2
        have c1 := (HB2.out.cell (p := ⟨b, off + k, none⟩) hbl).trans cw
        clear hp b2 hi2 f2 HC c0 cw
        go_wp2_with fail
        go_roundw
        case rel => exact ⟨k + 1, cnt + 1, v2, _, by omega, by omega, by go_num, by go_num, HI2.out, HST, HB2.out, HF2⟩
        case measure => simp [intOf]; omega
    · obtain rfl : 32 = k := by omega
      have HC := hid (hDue_any g gw 32 v l now wr HI.out)
      have hsorted : SortedE l := by obtain ⟨_, _, _, _, hh, _⟩ := HI.out; exact hh.sorted
      have HSO := hid hsorted
      obtain ⟨d, hd⟩ : ∃ d, duesE now l = d := ⟨_, rfl⟩
      obtain ⟨rs, hrs⟩ : ∃ rs, restE now l = rs := ⟨_, rfl⟩
      rw [hd, hrs] at HC
      have HD := hid hd; have HRS := hid hrs
      have hlen : (cnt : Int) - (d.length : Int) = (rs.length : Int) := by
        have h1 := HS.out.len
        have h2 := dues_rest now l
        rw [hd, hrs] at h2
        rw [← h2, List.length_append] at h1
        omega
      have hdl : d.length ≤ 32 := by
        have h1 := HS.out.len
        have h2 := dues_rest now l
        rw [hd, hrs] at h2
        rw [← h2, List.length_append] at h1
        omega
      obtain ⟨nd, hnd⟩ : ∃ nd, d.length = nd := ⟨_, rfl⟩
      rw [hnd] at HC hlen hdl
      have HND := hid hnd
      have HLEN := hid hlen
      clear hd hrs hsorted hnd hlen
      go_wp2_with fail
      refine HC.out.mono ?_
      rintro e w6 ⟨A2, c2, rfl, v6, hi6, hk6, hv6, ho6, hd6⟩
      rw [HND.out] at ho6
      have HR6 : Hid (Rd w6 A2 (entCells d)) := Rd_of_own ho6
      have HI6 := hid hi6
      have B6 := hid (hk6.below HB.out.size HF.out)
      have HB6 := hid (HB.out.trans B6.out)
      have HF6 : Hid (∀ k, HpF g gw v6 k → w.heap.size ≤ k) := by
        rintro k (h | h | h)
        · exact HF.out k (.inl h)
        · exact HF.out k (.inr (.inl h))
        · rcases hv6 k h with h | h
          · exact HF.out k (.inr (.inr h))
          · have := HB.out.size; omega
      clear hi6 hk6 hv6 ho6 hd6 HC
      obtain ⟨wo, rfl⟩ : ∃ wo : World, wo = wr := ⟨wr, rfl⟩
      go_wp2_with fail
      go_loopw [9] (fun iv w7 => ∃ k : Nat, k ≤ nd ∧ iv = .int .i64 (k : Int) ∧ Below w6.heap.size w6 w7) (fun iv _ => nd - (intOf iv).toNat)
      case atStart => exact ⟨0, by omega, rfl, Below.refl _ _⟩
      case round =>
        obtain ⟨q, hq, rfl, hb7⟩ := hrel
        have HB7 := hid hb7
        clear hb7
        by_cases hqn : q < nd
        · obtain ⟨b2, off2, rfl, hbl2, hc2⟩ := (HR6.out.below HB7.out).at (by rw [entCells_length, HND.out]; omega)
          obtain ⟨x1, x2⟩ := rd_ent hc2 q (by rw [HND.out]; exact hqn)
          obtain ⟨x, hx⟩ : ∃ x, eg d q = x := ⟨_, rfl⟩
          have hxd : x ∈ duesE now l := by rw [HD.out, ← hx]; exact eg_mem (by rw [HND.out]; exact hqn)
          rw [hx] at x1 x2
          obtain ⟨hxK, hxdue⟩ := HS.out.due hxd
          have hno := HS.out.has_rest (now := now) HSO.out hxK
          rw [hxdue, HRS.out] at hno
          have HNO : Hid (hasE rs x.id = false) := by rw [Hid, hno]; rfl
          obtain ⟨b, off, rfl, hbl, hc⟩ := HR.out.at (by rw [intCells_length, HL.out]; omega)
          have hkl : x.id < ats.length := by rw [HL.out]; omega
          have cw := hc x.id _ (intCells_get ats x.id hkl)
          obtain ⟨a, ha⟩ : ∃ a, ats.getD x.id 0 = a := ⟨_, rfl⟩
          have hak : ats[x.id]'hkl = a := by rw [← ha]; simp [List.getD, hkl]
          rw [hak] at cw
          rw [ha] at hxdue
          have HDUE := hid hxdue
          have hxn : x.id < n := by omega
          have hxn2 : decide (n ≤ x.id) = false := by simp; omega
          have hs67 := HB7.out.size
          have hblr : b < wr.heap.size := Nat.lt_of_lt_of_le hbl (Nat.le_trans HB6.out.size hs67)
          have c0 := ((HB6.out.trans (HB7.out.mono HB6.out.size)).cell (p := ⟨b, off + x.id, none⟩) hbl).trans cw
          have HA := hid (at_no g gw 32 v6 rs (x.id : Int) wr (HI6.out.below HB7.out) (.inr (.inr (by simpa using HNO.out))))
          clear hc2 hc cw ha hak hno hxdue hxd hx hkl
          go_wp2_with (first
            | (go_at_call 22; refine HA.out.mono ?_; rintro e w8 ⟨rfl, hb8⟩; obtain ⟨hc8, hf8⟩ := bcell hb8; have HB8 := hid (HB7.out.trans (hb8.mono HB7.out.size)); clear hb8)
            | (go_at_call 23; refine (dueR_any _ _ _).mono ?_; rw [HDUE.out]; rintro e w8 ⟨rfl, rfl⟩))
          go_roundw
          case rel => exact ⟨q + 1, by omega, by go_num, HB8.out⟩
          case measure => simp [intOf]; omega
        · obtain ⟨wo7, rfl⟩ : ∃ wo : World, wo = wr := ⟨wr, rfl⟩
          go_wp2_with fail
          go_loopw [12] (fun iv w7 => ∃ k : Nat, k ≤ 32 ∧ iv = .int .i64 (k : Int) ∧ Below w6.heap.size w6 w7) (fun iv _ => 100 - (intOf iv).toNat)
          case atStart => exact ⟨0, by omega, rfl, HB7.out⟩
          case round =>
            obtain ⟨k, hk, rfl, hb9⟩ := hrel
            have HB9 := hid hb9
            clear hb9
            by_cases hkK : k < 32
            · have h32 : k < n := by omega
              have hkl : k < ats.length := by rw [HL.out]; omega
              have hno := HS.out.has_rest (now := now) HSO.out hkK
              rw [HRS.out] at hno
              obtain ⟨b, off, rfl, hbl, hc⟩ := HR.out.at (by rw [intCells_length, HL.out]; omega)
              have cw := hc k _ (intCells_get ats k hkl)
              obtain ⟨a, ha⟩ : ∃ a, ats.getD k 0 = a := ⟨_, rfl⟩
              have hak : ats[k]'hkl = a := by rw [← ha]; simp [List.getD, hkl]
              rw [hak] at cw
              rw [ha] at hno
              have hxn : k < n := by omega
              have hblr : b < wr.heap.size := Nat.lt_of_lt_of_le hbl (Nat.le_trans HB6.out.size HB9.out.size)
              have c0 := ((HB6.out.trans (HB9.out.mono HB6.out.size)).cell (p := ⟨b, off + k, none⟩) hbl).trans cw
              have HHA := hid ha
              clear hc cw ha hak hkl
              cases hdue : dueT a now
              · cases hnv : (a == 9223372036854775807)
                · have hnv2 : decide (a = neverT) = false := by rw [← neverB]; exact hnv
                  rw [hdue, hnv2] at hno
                  obtain ⟨e, he, hek⟩ := hasE_iff.1 (show hasE rs k = true from hno)
                  have het : e.t = ownT a := by
                    have hl2 : e ∈ l := by rw [← dues_rest now l, HRS.out]; exact List.mem_append_right _ he
                    have := ((HS.out.mem e).1 hl2).2.2
                    rw [this, hek, HHA.out]
                  have HA := hid (at_yes g gw 32 v6 rs e wr (HI6.out.below HB9.out) he)
                  rw [hek, het] at HA
                  have HDUE := hid hdue
                  clear hno he hek het hnv2 hdue
                  go_wp2_with (first
                    | (go_at_call 22; refine HA.out.mono ?_; rintro e w8 ⟨rfl, hb8⟩; obtain ⟨hc8, hf8⟩ := bcell hb8; have HB8 := hid (HB9.out.trans (hb8.mono HB9.out.size)); clear hb8)
                    | (go_at_call 23; refine (dueR_any _ _ _).mono ?_; rw [HDUE.out]; rintro e w8 ⟨rfl, rfl⟩)
                    | (go_at_call 24; refine (ownR_any _ _).mono ?_; rintro e w8 ⟨rfl, rfl⟩))
                  go_roundw
                  case rel => exact ⟨k + 1, by omega, by go_num, HB8.out⟩
                  case measure => simp [intOf]; omega
                · have hnv2 : decide (a = neverT) = true := by rw [← neverB]; exact hnv
                  rw [hdue, hnv2] at hno
                  have HA := hid (at_no g gw 32 v6 rs (k : Int) wr (HI6.out.below HB9.out) (.inr (.inr (by simpa using hno))))
                  have HDUE := hid hdue
                  clear hno hnv2 hdue
                  go_wp2_with (first
                    | (go_at_call 22; refine HA.out.mono ?_; rintro e w8 ⟨rfl, hb8⟩; obtain ⟨hc8, hf8⟩ := bcell hb8; have HB8 := hid (HB9.out.trans (hb8.mono HB9.out.size)); clear hb8)
                    | (go_at_call 23; refine (dueR_any _ _ _).mono ?_; rw [HDUE.out]; rintro e w8 ⟨rfl, rfl⟩)
                    | (go_at_call 24; refine (ownR_any _ _).mono ?_; rintro e w8 ⟨rfl, rfl⟩))
                  go_roundw
                  case rel => exact ⟨k + 1, by omega, by go_num, HB8.out⟩
                  case measure => simp [intOf]; omega
              · rw [hdue] at hno
                have HA := hid (at_no g gw 32 v6 rs (k : Int) wr (HI6.out.below HB9.out) (.inr (.inr (by simpa using hno))))
                have HDUE := hid hdue
                clear hno hdue
                go_wp2_with (first
                  | (go_at_call 22; refine HA.out.mono ?_; rintro e w8 ⟨rfl, hb8⟩; obtain ⟨hc8, hf8⟩ := bcell hb8; have HB8 := hid (HB9.out.trans (hb8.mono HB9.out.size)); clear hb8)
                  | (go_at_call 23; refine (dueR_any _ _ _).mono ?_; rw [HDUE.out]; rintro e w8 ⟨rfl, rfl⟩))
                go_roundw
                case rel => exact ⟨k + 1, by omega, by go_num, HB8.out⟩
                case measure => simp [intOf]; omega
            · obtain rfl : 32 = k := by omega
              have HI9 := hid (HI6.out.below HB9.out)
              have HLN := hid (len_any g gw 32 v6 rs wr HI9.out)
              have HDU := hid (hDue_any g gw 32 v6 rs now wr HI9.out)
              rw [show duesE now rs = [] from by rw [← HRS.out]; exact dues_rest_nil now l] at HDU
              have hlen := HLEN.out
              have HBB := hid (HB6.out.trans (HB9.out.mono HB6.out.size))
              go_wp2_with fail
              refine HLN.out.mono ?_
              rintro e w8 ⟨rfl, rfl⟩
              go_wp2_with fail
              refine HDU.out.mono ?_
              rintro e w10 ⟨A3, c3, he, hdp⟩
              have he2 : e = .returned (.slice A3 0 c3) := he
              subst he2
              have HB10 : Hid (Below w.heap.size w w10) := by
                obtain ⟨v10, _, hk10, _⟩ := hdp
                exact HBB.out.trans (hk10.below HBB.out.size HF6.out)
              clear hdp HDU HLN
              go_wp2_with fail
              refine (lives5_any _).mono ?_
              rintro e w11 ⟨rfl, hb11⟩
              have HB11 := hid (HB10.out.trans (hb11.mono HB10.out.size))
              clear hb11
              go_wp2_with fail
              go_ret
              exact ⟨rfl, HB11.out⟩

theorem heapDues_any (A : Option Addr) (n c : Nat) (ats : List Int) (now : Int) (w : World) (hl : ats.length = n) (hn : n ≤ 9223372036854775807) (hr : Rd w A (intCells ats)) (_ : Lit.wf (.int .i64 now) = true) :
    Calls Try.prog 4 #[.slice A n c, .int .i64 now] w fun e w' => e = .returned (.bool true) ∧ Below w.heap.size w w' := by
  by_cases h : n ≤ 32
  · exact heapDues_small A n c ats now w hl hn hr h
  · exact heapDues_big A n c ats now w hl hn hr (by omega)
end Go.Proofs.Ytdhoedohchbagaa
