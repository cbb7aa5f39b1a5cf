/- Walks: class.parts. -/
import Derived.Test.YtdhoedohchbagaaCp
namespace Go.Proofs.Ytdhoedohchbagaa
open Go.RowKit

theorem u8_at {w : World} {A : Option Addr} {l : List Nat} (hr : Rd w A (u8Cells l)) (k : Nat) (hk : k < l.length) :
    ∃ b off, A = some ⟨b, off, none⟩ ∧ b < w.heap.size ∧ ∀ j, j < l.length → w.cell? ⟨b, off + j, none⟩ = some (.int .u8 (l.getD j 0 : Nat)) := by
  obtain ⟨b, off, hA, hb, hc⟩ := hr.at (by rw [u8Cells_length]; omega)
  refine ⟨b, off, hA, hb, fun j hj => hc j _ ?_⟩
  rw [u8Cells, List.getElem?_map, List.getElem?_eq_getElem hj]
  simp [List.getD, hj]

set_option maxRecDepth 20000 in
set_option maxHeartbeats 2000000 in
theorem parts_any (N : Nat → Prop) (B b : Nat) (A : Option Addr) (n c : Nat) (l0 l : List Nat) (w : World) (hl : l.length = n) (hn : n ≤ 256) (h256 : ∀ j, j < l.length → l.getD j 0 < 256) (hA : ∀ a, A = some a → N a.block)
    (hr : Rd w A (u8Cells l)) (h : BldN N B b (u8Cells l0) w) (hlen : l0.length ≤ 1000) :
    Calls Try.prog 88 #[.pointer (some ⟨b, 0, none⟩), .slice A n c] w fun e w' => e = .returned (.tuple #[]) ∧ BldN N B b (u8Cells (l0 ++ partsA l 0)) w' ∧ Keep (fun k => ¬ N k) w w' ∧ Below B w w' := by
  have HL := hid hl; have HR := hid hr; have HH := hid h; have H256 := hid h256; have HA := hid hA
  clear hl hr h h256 hA
  go_enter Try.func88, Try.ntmps88
  go_wp2_with fail
  go_loopw [4, 5] (fun iv v wr => ∃ (i : Nat) (d : List Nat), i ≤ n ∧ iv = .int .i64 (i : Int) ∧ d ++ partsA l i = partsA l 0 ∧ d.length ≤ 5 * i ∧ BldN N B b (u8Cells (l0 ++ d)) wr ∧ Keep (fun k => ¬ N k) w wr ∧ Below B w wr) (fun i _ _ => n - (intOf i).toNat)
  case atStart => exact ⟨0, [], by omega, rfl, rfl, by simp, by simpa using HH.out, Keep.refl _ w, Below.refl B w⟩
  case round =>
    obtain ⟨i, d, hi, rfl, hd, hdl, hB, hkp, hbl⟩ := hrel
    have HD := hid hd; have HB := hid hB; have HK := hid hkp; have HBL := hid hbl; have HDL := hid hdl
    have HRR := hid (hkp.rd HR.out (fun a ha => fun hn => hn (HA.out a ha)))
    clear hd hB hkp hbl hdl
    by_cases hlt : i < n
    · obtain ⟨g, off, rfl, hg, hc⟩ := u8_at HRR.out i (by rw [HL.out]; exact hlt)
      obtain ⟨vi, hvi⟩ : ∃ v, l.getD i 0 = v := ⟨_, rfl⟩
      have ci := hc i (by rw [HL.out]; exact hlt)
      rw [hvi] at ci
      have HVI := hid hvi
      have HC := hid hc
      clear hc hvi
      go_wp2_with fail
      go_loopw [5] (fun v wr2 => ∃ (k q : Nat), i + 1 ≤ k ∧ k ≤ n ∧ v = .int .i64 (k : Int) ∧ runK l l.length k = runK l l.length (i + 1) ∧ wr2 = wr.drewN q) (fun v _ => n - (intOf v).toNat)
      case atStart => exact ⟨i + 1, 0, by omega, by omega, by go_num, rfl, rfl⟩
      case round =>
        obtain ⟨k, q, hk1, hk2, rfl, hrk, rfl⟩ := hrel
        have HRK := hid hrk
        clear hrk
        by_cases hkn : k < n
        · have q1 := HC.out k (by rw [HL.out]; exact hkn)
          have q2 := HC.out (k - 1) (by rw [HL.out]; omega)
          have z1 := H256.out k (by rw [HL.out]; exact hkn)
          have z2 := H256.out (k - 1) (by rw [HL.out]; omega)
          have HS := hid (runK_step l k (by rw [HL.out]; exact hkn))
          have HT := hid (runK_stop l k)
          obtain ⟨x, hx⟩ : ∃ x, l.getD k 0 = x := ⟨_, rfl⟩
          obtain ⟨y, hy⟩ : ∃ y, l.getD (k - 1) 0 = y := ⟨_, rfl⟩
          rw [hx] at q1 z1 HS HT
          rw [hy] at q2 z2 HS HT
          clear hx hy
          by_cases he : x = (y + 1) % 256
          · have e1 : ((x : Int) == ((y : Int) + 1) % 256) = true := by rw [beq_iff_eq]; omega
            have HS2 := hid (HS.out he)
            clear he HS HT
            go_wp2_with fail
            go_quiet (fail)
            go_wp2_with fail
            go_roundw
            case rel => exact ⟨k + 1, _, by omega, by omega, by go_num, HS2.out.symm.trans HRK.out, rfl⟩
            case measure => simp [intOf]; omega
          · have e1 : ((x : Int) == ((y : Int) + 1) % 256) = false := by rw [beq_eq_false_iff_ne]; omega
            have HK2 := hid (HRK.out.symm.trans (HT.out (fun h => he h.2)))
            clear he HS HT HRK
            by_cases h3 : 3 ≤ k - i
            · have e3 : (3 : Int) ≤ (k : Int) - (i : Int) := by omega
              obtain ⟨y2, hy2⟩ : ∃ v, l.getD (k - 1) 0 = v := ⟨_, rfl⟩
              have cy := HC.out (k - 1) (by rw [HL.out]; omega)
              rw [hy2] at cy
              have HP : Hid (partsA l i = signM vi ++ ([45] ++ (signM y2 ++ partsA l k))) := by
                have := partsA_long l i (by rw [HL.out]; exact hlt) (by rw [HK2.out]; exact h3)
                rw [HK2.out, HVI.out, hy2] at this; exact this
              have HS1 := hid (fun Q => signN N B b (l0 ++ d) vi (wr.drewN Q) (show BldN N B b _ (wr.drewN Q) from HB.out) (by have := HDL.out; rw [List.length_append]; omega))
              clear hy2 h3
              go_wp2_with fail
              go_quiet (fail)
              go_wp2_with fail
              refine (HS1.out _).mono ?_
              rintro e w2 ⟨rfl, hB2, hk2', hb2⟩
              have cy2 := (hk2'.cell (b := g) (o := off + (k - 1)) hg (fun hn => hn (HA.out _ rfl))).trans cy
              have HW1 := hid (writeByteN N B b _ 45 w2 hB2 (by have := HDL.out; have := signM_le vi; rw [u8Cells_length, List.length_append, List.length_append]; omega))
              have HKK2 := hid ((HK.out.trans (Keep.drewN (fun k => ¬ N k) wr _) (fun _ => .inl)).trans hk2' (fun _ => .inl))
              have HBB2 := hid (HBL.out.trans ((⟨rfl, rfl, rfl, Nat.le_refl _, fun _ _ => rfl⟩ : Below B wr (wr.drewN _)).trans hb2))
              have hg2 : g < w2.heap.size := Nat.lt_of_lt_of_le hg hk2'.size
              clear hB2 hk2' hb2 HS1
              go_wp2_with fail
              refine HW1.out.mono ?_
              rintro e w3 ⟨rfl, hB3, hk3, hb3⟩
              have cy3 := (hk3.cell (b := g) (o := off + (k - 1)) hg2 (fun hn => hn (HA.out _ rfl))).trans cy2
              have hB3' : BldN N B b (u8Cells (l0 ++ d ++ signM vi ++ [45])) w3 := by rw [u8Cells_append (l0 ++ d ++ signM vi)]; exact hB3
              have HS3 := hid (signN N B b _ y2 w3 hB3' (by have := HDL.out; have := signM_le vi; rw [List.length_append, List.length_append, List.length_append]; simp; omega))
              have HKK3 := hid (HKK2.out.trans hk3 (fun _ => .inl))
              have HBB3 := hid (HBB2.out.trans hb3)
              clear hB3 hB3' hk3 hb3 HW1
              go_wp2_with fail
              refine HS3.out.mono ?_
              rintro e w4 ⟨rfl, hB4, hk4, hb4⟩
              have HB4 : Hid (BldN N B b (u8Cells (l0 ++ (d ++ (signM vi ++ ([45] ++ signM y2))))) w4) := by simpa only [Hid, List.append_assoc] using hB4
              have HKK4 := hid (HKK3.out.trans hk4 (fun _ => .inl))
              have HBB4 := hid (HBB3.out.trans hb4)
              clear hB4 hk4 hb4 HS3
              go_wp2_with fail
              go_roundw
              case rel => exact ⟨k, d ++ (signM vi ++ ([45] ++ signM y2)), by omega, by go_num, by rw [← HD.out, HP.out]; simp only [List.append_assoc], by have := HDL.out; have := signM_le vi; have := signM_le y2; simp only [List.length_append, List.length_cons, List.length_nil]; omega, HB4.out, HKK4.out, HBB4.out⟩
              case measure => simp [intOf]; omega
            · have e3 : ¬ (3 : Int) ≤ (k : Int) - (i : Int) := by omega
              have HP : Hid (partsA l i = signM vi ++ partsA l (i + 1)) := by
                have := partsA_short l i (by rw [HL.out]; exact hlt) (by rw [HK2.out]; exact h3)
                rw [HVI.out] at this; exact this
              have HS1 := hid (fun Q => signN N B b (l0 ++ d) vi (wr.drewN Q) (show BldN N B b _ (wr.drewN Q) from HB.out) (by have := HDL.out; rw [List.length_append]; omega))
              clear h3
              go_wp2_with fail
              go_quiet (fail)
              go_wp2_with fail
              refine (HS1.out _).mono ?_
              rintro e w2 ⟨rfl, hB2, hk2', hb2⟩
              have HB2 : Hid (BldN N B b (u8Cells (l0 ++ (d ++ signM vi))) w2) := by rw [Hid, ← List.append_assoc]; exact hB2
              have HKK2 := hid ((HK.out.trans (Keep.drewN (fun k => ¬ N k) wr _) (fun _ => .inl)).trans hk2' (fun _ => .inl))
              have HBB2 := hid (HBL.out.trans ((⟨rfl, rfl, rfl, Nat.le_refl _, fun _ _ => rfl⟩ : Below B wr (wr.drewN _)).trans hb2))
              clear hB2 hk2' hb2 HS1
              go_wp2_with fail
              go_roundw
              case rel => exact ⟨i + 1, d ++ signM vi, by omega, by go_num, by rw [List.append_assoc, ← HP.out]; exact HD.out, by have := HDL.out; have := signM_le vi; rw [List.length_append]; omega, HB2.out, HKK2.out, HBB2.out⟩
              case measure => simp [intOf]; omega
        · have HK2 := hid (HRK.out.symm.trans (runK_stop l k (fun h => by have := h.1; rw [HL.out] at this; omega)))
          clear HRK
          by_cases h3 : 3 ≤ k - i
          · have e3 : (3 : Int) ≤ (k : Int) - (i : Int) := by omega
            obtain ⟨y2, hy2⟩ : ∃ v, l.getD (k - 1) 0 = v := ⟨_, rfl⟩
            have cy := HC.out (k - 1) (by rw [HL.out]; omega)
            rw [hy2] at cy
            have HP : Hid (partsA l i = signM vi ++ ([45] ++ (signM y2 ++ partsA l k))) := by
              have := partsA_long l i (by rw [HL.out]; exact hlt) (by rw [HK2.out]; exact h3)
              rw [HK2.out, HVI.out, hy2] at this; exact this
            have HS1 := hid (fun Q => signN N B b (l0 ++ d) vi (wr.drewN Q) (show BldN N B b _ (wr.drewN Q) from HB.out) (by have := HDL.out; rw [List.length_append]; omega))
            clear hy2 h3
            go_wp2_with fail
            go_quiet (fail)
            go_wp2_with fail
            refine (HS1.out _).mono ?_
            rintro e w2 ⟨rfl, hB2, hk2', hb2⟩
            have cy2 := (hk2'.cell (b := g) (o := off + (k - 1)) hg (fun hn => hn (HA.out _ rfl))).trans cy
            have HW1 := hid (writeByteN N B b _ 45 w2 hB2 (by have := HDL.out; have := signM_le vi; rw [u8Cells_length, List.length_append, List.length_append]; omega))
            have HKK2 := hid ((HK.out.trans (Keep.drewN (fun k => ¬ N k) wr _) (fun _ => .inl)).trans hk2' (fun _ => .inl))
            have HBB2 := hid (HBL.out.trans ((⟨rfl, rfl, rfl, Nat.le_refl _, fun _ _ => rfl⟩ : Below B wr (wr.drewN _)).trans hb2))
            have hg2 : g < w2.heap.size := Nat.lt_of_lt_of_le hg hk2'.size
            clear hB2 hk2' hb2 HS1
            go_wp2_with fail
            refine HW1.out.mono ?_
            rintro e w3 ⟨rfl, hB3, hk3, hb3⟩
            have cy3 := (hk3.cell (b := g) (o := off + (k - 1)) hg2 (fun hn => hn (HA.out _ rfl))).trans cy2
            have hB3' : BldN N B b (u8Cells (l0 ++ d ++ signM vi ++ [45])) w3 := by rw [u8Cells_append (l0 ++ d ++ signM vi)]; exact hB3
            have HS3 := hid (signN N B b _ y2 w3 hB3' (by have := HDL.out; have := signM_le vi; rw [List.length_append, List.length_append, List.length_append]; simp; omega))
            have HKK3 := hid (HKK2.out.trans hk3 (fun _ => .inl))
            have HBB3 := hid (HBB2.out.trans hb3)
            clear hB3 hB3' hk3 hb3 HW1
            go_wp2_with fail
            refine HS3.out.mono ?_
            rintro e w4 ⟨rfl, hB4, hk4, hb4⟩
            have HB4 : Hid (BldN N B b (u8Cells (l0 ++ (d ++ (signM vi ++ ([45] ++ signM y2))))) w4) := by simpa only [Hid, List.append_assoc] using hB4
            have HKK4 := hid (HKK3.out.trans hk4 (fun _ => .inl))
            have HBB4 := hid (HBB3.out.trans hb4)
            clear hB4 hk4 hb4 HS3
            go_wp2_with fail
            go_roundw
            case rel => exact ⟨k, d ++ (signM vi ++ ([45] ++ signM y2)), by omega, by go_num, by rw [← HD.out, HP.out]; simp only [List.append_assoc], by have := HDL.out; have := signM_le vi; have := signM_le y2; simp only [List.length_append, List.length_cons, List.length_nil]; omega, HB4.out, HKK4.out, HBB4.out⟩
            case measure => simp [intOf]; omega
          · have e3 : ¬ (3 : Int) ≤ (k : Int) - (i : Int) := by omega
            have HP : Hid (partsA l i = signM vi ++ partsA l (i + 1)) := by
              have := partsA_short l i (by rw [HL.out]; exact hlt) (by rw [HK2.out]; exact h3)
              rw [HVI.out] at this; exact this
            have HS1 := hid (fun Q => signN N B b (l0 ++ d) vi (wr.drewN Q) (show BldN N B b _ (wr.drewN Q) from HB.out) (by have := HDL.out; rw [List.length_append]; omega))
            clear h3
            go_wp2_with fail
            go_quiet (fail)
            go_wp2_with fail
            refine (HS1.out _).mono ?_
            rintro e w2 ⟨rfl, hB2, hk2', hb2⟩
            have HB2 : Hid (BldN N B b (u8Cells (l0 ++ (d ++ signM vi))) w2) := by rw [Hid, ← List.append_assoc]; exact hB2
            have HKK2 := hid ((HK.out.trans (Keep.drewN (fun k => ¬ N k) wr _) (fun _ => .inl)).trans hk2' (fun _ => .inl))
            have HBB2 := hid (HBL.out.trans ((⟨rfl, rfl, rfl, Nat.le_refl _, fun _ _ => rfl⟩ : Below B wr (wr.drewN _)).trans hb2))
            clear hB2 hk2' hb2 HS1
            go_wp2_with fail
            go_roundw
            case rel => exact ⟨i + 1, d ++ signM vi, by omega, by go_num, by rw [List.append_assoc, ← HP.out]; exact HD.out, by have := HDL.out; have := signM_le vi; rw [List.length_append]; omega, HB2.out, HKK2.out, HBB2.out⟩
            case measure => simp [intOf]; omega
    · obtain rfl : i = n := by omega
      have HE := hid (partsA_end l i (by rw [HL.out]; omega))
      have HD2 : Hid (d = partsA l 0) := by rw [Hid, ← HD.out, HE.out, List.append_nil]
      go_wp2_with fail
      go_end0
      exact ⟨rfl, by rw [← HD2.out]; exact HB.out, HK.out, HBL.out⟩
end Go.Proofs.Ytdhoedohchbagaa
