/- The law SlotsEnd: its walk. -/
import Derived.Test.YtmcacdegikgmnaaSh
namespace Go.Proofs.Ytmcacdegikgmnaa
open Go.RowKit Go.Maps

theorem one_del (a : Int) (d : DataW Unit) : ((.map [] : DataW Unit).put (.int .i64 a) d).del (.int .i64 a) = .map [] := by
  show DataW.map (List.filter (fun p => !p.1.sameKey (.int .i64 a)) [((.int .i64 a : Lit), d)]) = .map []
  simp [Lit.sameKey]
theorem one_has (a : Int) (d : DataW Unit) : Maps.has ((.map [] : DataW Unit).put (.int .i64 a) d) (.int .i64 a) = true := by
  show List.any [((.int .i64 a : Lit), d)] (fun p => p.1.sameKey (.int .i64 a)) = true
  simp [Lit.sameKey]
theorem one_at (a : Int) (d z : DataW Unit) : ((.map [] : DataW Unit).put (.int .i64 a) d).atKey (.int .i64 a) z = d := by
  simp [DataW.put, DataW.atKey, DataW.insert, Lit.sameKey]
def four : List Int := [-1, -1, -1, -1]

set_option maxRecDepth 20000 in
set_option maxHeartbeats 1000000 in
theorem slotsEnd_any (xi : Int) (w : World) (hw : Lit.wf (.int .u8 xi) = true) :
    Calls Try.prog 5 #[.int .u8 xi] w fun e w' => e = .returned (.bool true) ∧ Below w.heap.size w w' := by
  obtain ⟨x, rfl, hx⟩ : ∃ x : Nat, xi = (x : Int) ∧ x < 256 := by
    have hb : 0 ≤ xi ∧ xi < 256 := by
      simp [Lit.wf, IntKind.min, IntKind.max, IntKind.signed, IntKind.bits] at hw
      omega
    exact ⟨xi.toNat, by omega, by omega⟩
  clear hw
  go_enter Try.func5, Try.ntmps5
  go_wp2_with fail
  refine (new_any 4 (by omega) (by omega) _).mono ?_
  rintro e w1 ⟨g, gw, gm, rfl, hs1, hb1⟩
  rw [show List.replicate 4 (-1 : Int) = four from rfl] at hs1
  have HS1 := hid hs1
  have HB1 := hid hb1
  clear hs1 hb1
  go_wp2_with fail
  go_loopw [4] (fun i wr => ∃ k : Nat, k ≤ 4090 ∧ i = .int .i64 k ∧ SlP wr g gw gm w.heap.size 4 four k 0 (.map []) ∧ Below w.heap.size w wr) (fun i _ => 4090 - (intOf i).toNat)
  case atStart => exact ⟨0, by omega, rfl, HS1.out, HB1.out⟩
  case round =>
    obtain ⟨k, hk, rfl, hs, hb⟩ := hrel
    have HS := hid hs
    have HB := hid hb
    clear hs hb HS1 HB1
    by_cases hlt : k < 4090
    · go_wp2_with fail
      refine (skip_any g gw gm _ 4 four k 0 _ _ HS.out (by omega)).mono ?_
      rintro e w2 ⟨rfl, hs2, hb2⟩
      have HS2 := hid hs2
      have HB2 := hid (HB.out.trans hb2)
      clear hs2 hb2
      go_wp2_with fail
      go_roundw
      case rel => exact ⟨k + 1, by omega, by go_num, HS2.out, HB2.out⟩
      case measure => simp [intOf]; omega
    · have hkk : k = 4090 := by omega
      rw [hkk] at HS
      clear hkk
      obtain ⟨wo, rfl⟩ : ∃ wo : World, wo = wr := ⟨wr, rfl⟩
      go_wp2_with fail
      go_loopw [5] (fun i wr => ∃ (k next q : Nat), k ≤ 12 ∧ i = .int .i64 k ∧ Hid (next = 4090 + min k 6) ∧ Hid (k ≤ x % 12) ∧ q ≤ k ∧ SlP wr g gw gm w.heap.size 4 four next q (.map []) ∧ Below w.heap.size w wr) (fun i _ => 12 - (intOf i).toNat)
      case atStart => exact ⟨0, 4090, 0, by omega, rfl, rfl, Nat.zero_le _, by omega, HS.out, HB.out⟩
      case round =>
        obtain ⟨j, next, q, hk12, rfl, HN, HKX, hq, hs, hb⟩ := hrel
        have HS := hid hs
        have HB := hid hb
        clear hs hb
        have h12 : x % 12 < 12 := Nat.mod_lt _ (by omega)
        by_cases hlt2 : j < x % 12
        · by_cases h6 : j < 6
          · have hnx : next = 4090 + j := by rw [HN.out]; omega
            subst hnx
            go_wp2_with fail
            refine (openOk_any g gw gm _ 4 four (4090 + j) q 0 _ _ HS.out (by omega) (by show (0 : Nat) ≠ 4; omega) (by omega) (by omega) (by decide) (by omega)).mono ?_
            rintro e w2 ⟨rfl, hs2, hb2⟩
            have HC := hid (closeYes_any g gw gm _ 4 _ _ _ _ ((4090 + j : Nat) : Int) 0 w2 hs2 (WalkArith.wf_i64 (by omega)) (one_has _ _) (one_at _ _ _) (by omega))
            have HB2 := hid (HB.out.trans hb2)
            rw [one_del] at HC
            clear hs2 hb2
            go_wp2_with fail
            refine HC.out.mono ?_
            rintro e w3 ⟨rfl, hs3, hb3⟩
            have HS3 : Hid (SlP w3 g gw gm w.heap.size 4 four (4090 + j + 1) (q + 1) (.map [])) := hs3
            have HB3 := hid (HB2.out.trans hb3)
            have HN2 : Hid (4090 + j + 1 = 4090 + min (j + 1) 6) := by simp only [Hid]; omega
            clear hs3 hb3 HC
            go_wp2_with fail
            go_roundw
            case rel => exact ⟨j + 1, 4090 + j + 1, q + 1, by omega, by go_num, HN2, by simp only [Hid]; omega, by omega, HS3.out, HB3.out⟩
            case measure => simp [intOf]; omega
          · have hnx : next = 4096 := by rw [HN.out]; omega
            subst hnx
            go_wp2_with fail
            refine (openEnd_any g gw gm _ 4 four q _ _ HS.out).mono ?_
            rintro e w2 ⟨rfl, hb2⟩
            have HS2 := hid (HS.out.below hb2)
            have HB2 := hid (HB.out.trans (hb2.mono HB.out.size))
            have HC := hid (closeNo_any g gw gm _ 4 _ _ _ _ 0 w2 HS2.out (by decide) rfl)
            clear hb2
            go_wp2_with fail
            refine HC.out.mono ?_
            rintro e w3 ⟨rfl, rfl⟩
            have HN2 : Hid (4096 = 4090 + min (j + 1) 6) := by simp only [Hid]; omega
            go_wp2_with fail
            go_roundw
            case rel => exact ⟨j + 1, 4096, q, by omega, by go_num, HN2, by simp only [Hid]; omega, by omega, HS2.out, HB2.out⟩
            case measure => simp [intOf]; omega
        · have hkx : x % 12 = j := by have := HKX.out; omega
          by_cases h6 : j < 6
          · have h66 : x % 12 < 6 := by omega
            go_wp2_with fail
            refine (lives28_any _).mono ?_
            rintro e w9 ⟨rfl, hb9⟩
            go_wp2_with fail
            go_ret
            exact ⟨rfl, HB.out.trans (hb9.mono HB.out.size)⟩
          · have h66 : ¬ x % 12 < 6 := by omega
            have hnx : next = 4096 := by rw [HN.out]; omega
            subst hnx
            go_wp2_with fail
            refine (skipEnd_any g gw gm _ 4 four q _ _ HS.out).mono ?_
            rintro e w2 ⟨rfl, rfl⟩
            go_wp2_with fail
            refine (next_any g gw gm _ 4 four 4096 q _ _ HS.out).mono ?_
            rintro e w2 ⟨rfl, rfl⟩
            go_wp2_with fail
            refine (lives28_any _).mono ?_
            rintro e w9 ⟨rfl, hb9⟩
            go_wp2_with fail
            go_ret
            exact ⟨rfl, HB.out.trans (hb9.mono HB.out.size)⟩
end Go.Proofs.Ytmcacdegikgmnaa
