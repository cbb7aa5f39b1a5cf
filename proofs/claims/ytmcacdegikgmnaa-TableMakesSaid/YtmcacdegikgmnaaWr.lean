/- Walks: the reference's states. -/
import Derived.Test.YtmcacdegikgmnaaTac
import Derived.Test.YtmcacdegikgmnaaWk
namespace Go.Proofs.Ytmcacdegikgmnaa
open Go.RowKit

theorem in_bit (x : BitVec 64) (k : Nat) : ((((x.toNat / 2 ^ k : Nat) : Int) % 2) == 1) = x.getLsbD k := by
  rw [BitVec.getLsbD, Nat.testBit_eq_decide_div_mod_eq, Bool.eq_iff_iff]
  simp only [beq_iff_eq, decide_eq_true_eq]
  omega

set_option maxHeartbeats 400000 in
theorem in_any (x : BitVec 64) (k : Nat) (w : World) (hk : k ≤ 1000000) :
    Calls Try.prog 73 #[w64 x, .int .i64 (k : Int)] w fun e w' => e = .returned (.bool (x.getLsbD k)) ∧ w = w' := by
  have HB := hid (in_bit x k)
  have hx := x.isLt
  go_enter Try.func73, Try.ntmps73
  go_wp2
  go_loop [0, 1] (fun v i => ∃ j : Nat, j ≤ k ∧ i = .int .i64 ((k - j : Nat) : Int) ∧ v = .int .u64 ((x.toNat / 2 ^ j : Nat) : Int)) (fun _ i => (intOf i).toNat)
  case atStart => exact ⟨0, by omega, by simp, by simp⟩
  case round =>
    obtain ⟨j, hj, rfl, rfl⟩ := hrel
    have hle : x.toNat / 2 ^ j ≤ x.toNat := Nat.div_le_self _ _
    have HS : Hid (x.toNat / 2 ^ (j + 1) = x.toNat / 2 ^ j / 2) := by rw [Hid, Nat.pow_succ, Nat.div_div_eq_div_mul]
    by_cases hlt : j < k
    · obtain ⟨m, hm⟩ : ∃ m, k - j = m + 1 := ⟨k - j - 1, by omega⟩
      rw [hm]
      have HM : Hid (k - (j + 1) = m) := by simp only [Hid]; omega
      generalize x.toNat / 2 ^ j = q at *
      go_wp2
      go_round
      case rel => exact ⟨j + 1, by omega, by rw [HM.out]; try go_num, by rw [HS.out]; try go_num⟩
      case measure => simp [intOf]
    · have hjk : k - j = 0 := by omega
      rw [hjk]
      have hjk2 : j = k := by omega
      rw [hjk2] at hle ⊢
      generalize x.toNat / 2 ^ k = q at *
      go_wp2
      go_ret
      exact ⟨by rw [← HB.out]; rfl, rfl⟩

set_option maxHeartbeats 1000000 in
theorem numbers_any (A : Option Addr) (n c : Nat) (l : List Item) (x : BitVec 64) (w : World) (hl : l.length = n) (hn : n ≤ 1000000) (hr : Rd w A (itemCells l)) :
    Calls Try.prog 67 #[.slice A n c, w64 x] w fun e w' => ∃ A' c', e = .returned (.slice A' (n + 1) c') ∧ w'.ownsRow w.heap.size 4 1 (.slice A' (n + 1) c') (n + 1) (boolCells (numsW l x)) ∧ Below w.heap.size w w' := by
  have HL := hid hl; clear hl
  have HNL := hid (numsW_length l x)
  rw [HL.out] at HNL
  go_enter Try.func67, Try.ntmps67
  go_wp2
  go_loopw [5, 6] (fun v i wr => ∃ (k : Nat) (A' : Option Addr) (c' : Nat), k ≤ n + 1 ∧ i = .int .i64 k ∧ v = .slice A' k c' ∧ wr.ownsRow w.heap.size 4 1 (.slice A' k c') k (boolCells ((numsW l x).take k)) ∧ Below w.heap.size w wr) (fun _ i _ => n + 1 - (intOf i).toNat)
  case atStart => exact ⟨0, _, _, by omega, rfl, rfl, World.ownsRow_made _ _ _ (Nat.le_refl _) (by simp [maxLen]) (by simp), (Below.refl _ _).alloc (Nat.le_refl _) _⟩
  case round =>
    obtain ⟨k, A', c', hk, rfl, rfl, hown, hb⟩ := hrel
    have hsz := hb.size
    by_cases hlt : k < n + 1
    · have HTS := hid (boolCells_take_succ (numsW l x) k (by rw [HNL.out]; exact hlt))
      rw [numsW_get l x k (by rw [HL.out]; omega)] at HTS
      have HO := hid hown; have HB := hid hb
      clear hown
      go_wp2_with fail
      refine (in_any x k _ (by omega)).mono ?_
      rintro e w1 ⟨rfl, rfl⟩
      rcases Nat.eq_zero_or_pos k with h0 | h0
      · subst h0
        have HV : Hid (clo (runB l) x.getLsbD 0 = x.getLsbD 0) := rfl
        rw [HV.out] at HTS
        generalize x.getLsbD 0 = bv0 at *
        have hown := HO.out
        cases bv0
        all_goals
          go_wp2_with (at_builtin; refine wpList_append1 _ rfl _ _ 64 rfl w.heap.size 4 _ 1 1 Try.underlying64 Try.infoBool rfl (by decide) _ _ _ rfl hown 1 [.bool _] rfl rfl rfl ?_ (by decide) hsz ?_)
          · omega
          intro A2 d2 w3 hown3 hg3
          have hb3 := below_grown hb hown hg3 (Nat.le_refl _) hsz
          have HO3 := hid hown3
          clear hown hown3 hg3 hb
          go_wp2_with fail
          go_roundw
          case rel => exact ⟨0 + 1, A2, d2, by omega, by go_num, rfl, by rw [HTS.out]; exact HO3.out, hb3⟩
          case measure => simp [intOf]; try omega
      · obtain ⟨j, rfl⟩ : ∃ j, k = j + 1 := ⟨k - 1, by omega⟩
        have hjl : j < l.length := by rw [HL.out]; omega
        obtain ⟨b, off, rfl, hbl, hc⟩ := (hr.below hb).at (by rw [itemCells_length, HL.out]; omega)
        obtain ⟨d0, d1, d2, d3, d4⟩ := item_at hc j hjl
        rw [← runB_at l j hjl] at d0
        have HV : Hid (clo (runB l) x.getLsbD (j + 1) = (x.getLsbD (j + 1) || (clo (runB l) x.getLsbD j && runB l j))) := rfl
        rw [HV.out] at HTS
        have hr5 := Rd_of_own HO.out
        obtain ⟨b1, off1, rfl, hb1l, hat1⟩ := Rd_bool hr5 (by rw [List.length_take, HNL.out]; try omega) (by omega)
        have g1 := hat1 j (by omega)
        have HJ : Hid (((numsW l x).take (j + 1)).getD j false = clo (runB l) x.getLsbD j) := by
          rw [Hid, ← numsW_get l x j (by rw [HL.out]; omega)]
          simp only [List.getD]
          rw [List.getElem?_take_of_lt (by omega)]
        rw [HJ.out] at g1
        clear hr5 hat1 hc hr d1 d2 d3 d4 HV HJ
        have hown := HO.out
        generalize x.getLsbD (j + 1) = v1 at *
        generalize clo (runB l) x.getLsbD j = v2 at *
        generalize runB l j = v3 at *
        have hj0 : (0 : Int) < (j : Int) + 1 := by omega
        cases v1 <;> cases v2
        all_goals
          go_wp2_with (at_builtin; refine wpList_append1 _ rfl _ _ 64 rfl w.heap.size 4 _ 1 1 Try.underlying64 Try.infoBool rfl (by decide) _ _ _ rfl hown 1 [.bool _] rfl rfl rfl ?_ (by decide) hsz ?_)
          · omega
          intro A2 d2 w3 hown3 hg3
          have hb3 := below_grown hb hown hg3 (Nat.le_refl _) hsz
          have HO3 := hid hown3
          clear hown hown3 hg3 hb
          go_wp2_with fail
          go_roundw
          case rel => exact ⟨j + 1 + 1, A2, d2, by omega, by go_num, rfl, by rw [HTS.out]; exact HO3.out, hb3⟩
          case measure => simp [intOf]; try omega
    · have hkn : k = n + 1 := by omega
      rw [hkn, List.take_of_length_le (by rw [HNL.out]; omega)] at hown
      have HO := hid hown
      clear hown
      go_wp2_with fail
      go_ret
      exact ⟨A', c', by rw [hkn]; rfl, HO.out, hb⟩

set_option maxHeartbeats 400000 in
theorem pack_any (A : Option Addr) (n c : Nat) (L : List Bool) (w : World) (hl : L.length = n) (hn : n ≤ 64) (hr : Rd w A (boolCells L)) :
    Calls Try.prog 66 #[.slice A n c] w fun e w' => e = .returned (w64 (packW L)) ∧ w = w' := by
  have HPA := hid (packN_all L (by omega))
  have HL := hid hl; clear hl
  rw [HL.out] at HPA
  go_enter Try.func66, Try.ntmps66
  go_wp2
  go_loop [3, 4] (fun v i => ∃ m : Nat, m ≤ n ∧ i = .int .i64 ((n : Int) - 1 - (m : Int)) ∧ v = .int .u64 ((packN L m : Nat) : Int)) (fun _ i => (intOf i + 1).toNat)
  case atStart => exact ⟨0, by omega, by go_num, rfl⟩
  case round =>
    obtain ⟨m, hm, rfl, rfl⟩ := hrel
    have HPL := hid (packN_lt L m)
    by_cases hlt : m < n
    · obtain ⟨j, hj⟩ : ∃ j, n = m + 1 + j := ⟨n - m - 1, by omega⟩
      have hij : ((n : Int) - 1 - (m : Int)) = (j : Int) := by omega
      rw [hij]
      obtain ⟨b1, off1, rfl, hb1l, hat1⟩ := Rd_bool hr HL.out (by omega)
      have g1 := hat1 j (by omega)
      have HPS : Hid (packN L (m + 1) = 2 * packN L m + b2n (L.getD j false)) := by
        simp only [Hid, packN]; rw [HL.out, show n - 1 - m = j from by omega]
      have hpb : packN L m < 9223372036854775808 := by
        have h1 := HPL.out
        have h2 : 2 ^ m ≤ 2 ^ 63 := Nat.pow_le_pow_right (by omega) (by omega)
        have h3 : (2 : Nat) ^ 63 = 9223372036854775808 := by decide +kernel
        omega
      generalize packN L m = q at *
      have HIJ : Hid ((n : Int) - 1 - ((m + 1 : Nat) : Int) = (j : Int) - 1) := by simp only [Hid]; omega
      clear hat1 hr HPL
      cases hv : L.getD j false
      · rw [hv] at g1 HPS
        clear hv
        go_wp2
        go_round
        case rel => exact ⟨m + 1, by omega, by rw [HIJ.out]; try go_num, by rw [HPS.out]; simp only [b2n]; go_num⟩
        case measure => simp [intOf] <;> try omega
      · rw [hv] at g1 HPS
        clear hv
        go_wp2
        go_round
        case rel => exact ⟨m + 1, by omega, by rw [HIJ.out]; try go_num, by rw [HPS.out]; simp only [b2n]; go_num⟩
        case measure => simp [intOf] <;> try omega
    · have hmn : m = n := by omega
      have hij : ((n : Int) - 1 - (m : Int)) = -1 := by omega
      rw [hij, hmn, HPA.out]
      clear HPL
      go_wp2
      go_ret
      exact ⟨rfl, rfl⟩
end Go.Proofs.Ytmcacdegikgmnaa
