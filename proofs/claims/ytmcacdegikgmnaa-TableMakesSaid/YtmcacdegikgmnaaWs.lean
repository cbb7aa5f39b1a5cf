/- Walks: the reference's Start, Step, Seek, Done. -/
import Derived.Test.YtmcacdegikgmnaaWr
import Derived.Test.YtmcacdegikgmnaaWi
import Derived.Test.YtmcacdegikgmnaaWg
namespace Go.Proofs.Ytmcacdegikgmnaa
open Go.RowKit

theorem numsW_zero (l : List Item) : numsW l 0 = List.replicate (l.length + 1) false := by
  have h : ∀ k, clo (runB l) (0 : BitVec 64).getLsbD k = false := by
    intro k
    induction k with
    | zero => simp [clo]
    | succ k ih => simp only [clo, ih, Bool.false_and, Bool.or_false]; simp
  refine List.ext_getElem (by simp [numsW]) fun i h1 h2 => ?_
  simp only [numsW, List.getElem_map, List.getElem_range, List.getElem_replicate]
  exact h i

set_option maxHeartbeats 400000 in
theorem startR_any (A : Option Addr) (n c : Nat) (l : List Item) (w : World) (hl : l.length = n) (hn : n ≤ 60) (hr : Rd w A (itemCells l)) :
    Calls Try.prog 43 #[.slice A n c] w fun e w' => e = .returned (w64 (startW l)) ∧ Below w.heap.size w w' := by
  have HL := hid hl; clear hl
  have HNL := hid (numsW_length l 1)
  rw [HL.out] at HNL
  have HC : Hid (∀ W, Rd W A (itemCells l) → Calls Try.prog 67 #[.slice A n c, .int .u64 1] W fun e w' => ∃ A' c', e = .returned (.slice A' (n + 1) c') ∧ w'.ownsRow W.heap.size 4 1 (.slice A' (n + 1) c') (n + 1) (boolCells (numsW l 1)) ∧ Below W.heap.size W w') :=
    fun W h => numbers_any A n c l 1 W HL.out (by omega) h
  have HP := hid (pack_nums l 1)
  go_enter Try.func43, Try.ntmps43
  go_wp2_with fail
  refine (HC.out _ hr).mono ?_
  rintro e w1 ⟨A1, c1, rfl, hown, hb1⟩
  have hr1 := Rd_of_own hown
  clear hown
  go_wp2_with fail
  refine (pack_any A1 (n + 1) c1 (numsW l 1) _ HNL.out (by omega) hr1).mono ?_
  rw [HP.out]
  rintro e w2 ⟨rfl, rfl⟩
  go_wp2
  go_ret
  exact ⟨rfl, hb1⟩

set_option maxHeartbeats 400000 in
theorem doneR_any (A : Option Addr) (n c : Nat) (l : List Item) (x : BitVec 64) (w : World) (hl : l.length = n) (hn : n ≤ 60) (hr : Rd w A (itemCells l)) :
    Calls Try.prog 47 #[.slice A n c, w64 x] w fun e w' => e = .returned (.bool (doneW l x)) ∧ Below w.heap.size w w' := by
  have HL := hid hl; clear hl
  have HNL := hid (numsW_length l x)
  rw [HL.out] at HNL
  have HD := hid (done_nums l x (by rw [HL.out]; omega))
  rw [HL.out] at HD
  go_enter Try.func47, Try.ntmps47
  go_wp2_with fail
  refine (numbers_any A n c l x _ HL.out (by omega) hr).mono ?_
  rintro e w1 ⟨A1, c1, rfl, hown, hb1⟩
  obtain ⟨b1, off1, rfl, hb1l, hat1⟩ := Rd_bool (Rd_of_own hown) HNL.out (by omega)
  have g1 := hat1 n (by omega)
  rw [HD.out] at g1
  clear hown hat1
  go_wp2_with fail
  go_ret
  exact ⟨rfl, hb1⟩

set_option maxRecDepth 20000 in
set_option maxHeartbeats 1000000 in
theorem stepR_any (A : Option Addr) (n c : Nat) (l : List Item) (x : BitVec 64) (b : Nat) (w : World) (hl : l.length = n) (hn : n ≤ 60) (hr : Rd w A (itemCells l)) (hb : b < 256) (hg : ∀ k, runB l k = true → ∀ b, hasB l b k = false) :
    Calls Try.prog 45 #[.slice A n c, w64 x, .int .u8 (b : Int)] w fun e w' => e = .returned (w64 (stepW l x b)) ∧ Below w.heap.size w w' := by
  have HL := hid hl; clear hl
  have HNL := hid (numsW_length l x)
  rw [HL.out] at HNL
  have HSE := hid (step_eq l x b hg)
  rw [HL.out] at HSE
  have HC : Hid (∀ W, Rd W A (itemCells l) → Calls Try.prog 67 #[.slice A n c, .int .u64 0] W fun e w' => ∃ A' c', e = .returned (.slice A' (n + 1) c') ∧ w'.ownsRow W.heap.size 4 1 (.slice A' (n + 1) c') (n + 1) (boolCells (numsW l 0)) ∧ Below W.heap.size W w') :=
    fun W h => numbers_any A n c l 0 W HL.out (by omega) h
  go_enter Try.func45, Try.ntmps45
  go_wp2_with fail
  refine (numbers_any A n c l x _ HL.out (by omega) hr).mono ?_
  rintro e w1 ⟨A1, c1, rfl, hown1, hb1⟩
  have HR1 := hid (hr.below hb1)
  have HW1 := hid (Rd_of_own hown1)
  have HB1 := hid hb1
  have hsz1 := hb1.size
  clear hown1 hr hb1
  go_wp2_with fail
  refine (HC.out _ HR1.out).mono ?_
  rw [numsW_zero, HL.out]
  rintro e w2 ⟨A2, c2, rfl, hown2, hb2⟩
  have HM0 : Hid (marks l (numsW l x) b 0 = List.replicate (n + 1) false) := by rw [Hid, ← HL.out]; rfl
  rw [← HM0.out] at hown2
  have HML : Hid (∀ k, (marks l (numsW l x) b k).length = n + 1) := fun k => by rw [marks_length, HL.out]
  obtain ⟨g, rfl, hgb, _⟩ := boolsCell hown2 (by omega)
  have HB2 := hid hb2
  have HO2 := hid hown2
  clear hb2 hown2
  go_wp2_with fail
  go_loopw [9] (fun i wr => ∃ (k : Nat), k ≤ n ∧ i = .int .i64 k ∧ wr.ownsRow w1.heap.size 4 1 (.slice (some ⟨g, 0, none⟩) (n + 1) c2) (n + 1) (boolCells (marks l (numsW l x) b k)) ∧ Below w1.heap.size w1 wr) (fun i _ => n - (intOf i).toNat)
  case atStart => exact ⟨0, by omega, rfl, HO2.out, HB2.out⟩
  case round =>
    obtain ⟨k, hk, rfl, hown, hbw⟩ := hrel
    have hszw := hbw.size
    by_cases hlt : k < n
    · obtain ⟨bi, off, rfl, hbl, hc⟩ := HR1.out.at (by rw [itemCells_length, HL.out]; omega)
      have HK : Hid (k < l.length) := by rw [HL.out]; exact hlt
      obtain ⟨d0, d1, d2, d3, d4⟩ := item_at hc k HK.out
      have d0 := (hbw.cell (p := ⟨bi, off + k * 5, none⟩) hbl).trans d0
      have d1 := (hbw.cell (p := ⟨bi, off + k * 5 + 1, none⟩) hbl).trans d1
      have d2 := (hbw.cell (p := ⟨bi, off + k * 5 + 2, none⟩) hbl).trans d2
      have d3 := (hbw.cell (p := ⟨bi, off + k * 5 + 3, none⟩) hbl).trans d3
      have d4 := (hbw.cell (p := ⟨bi, off + k * 5 + 4, none⟩) hbl).trans d4
      have HRA := hid (runB_at l k HK.out)
      have HHA := hid (hasB_at l b k HK.out)
      generalize l[k]'HK.out = it at *
      obtain ⟨b1, off1, rfl, hb1l, hat1⟩ := Rd_bool HW1.out HNL.out (by omega)
      have g1 := (hbw.cell (p := ⟨b1, off1 + k, none⟩) hb1l).trans (hat1 k (by omega))
      have hn1 : ¬ b1 = g := by omega
      have hn2 : ¬ bi = g := by omega
      have HMS : Hid (marks l (numsW l x) b (k + 1) = (let m := if (numsW l x).getD k false && runB l k then (marks l (numsW l x) b k).set k true else marks l (numsW l x) b k
          if (numsW l x).getD k false && !runB l k && hasB l b k then m.set (k + 1) true else m)) := rfl
      have hml := HML.out k
      have hcl : ∀ j, j < n + 1 → wr.cell? ⟨g, j, none⟩ = some (.bool ((marks l (numsW l x) b k).getD j false)) := by
        intro j hj
        rw [hown.cellAt _ (by omega), boolCells_get _ _ (by omega)]
        simp [List.getD, hml, hj]
      have hf0 := hown.frozenAt k
      have hf1 := hown.frozenAt (k + 1)
      have hc0 := hcl k (by omega)
      have hc1 := hcl (k + 1) (by omega)
      have HS0 := hid (hown.stored k (.bool true)).1
      have HS1 := hid (hown.stored (k + 1) (.bool true)).1
      rw [boolCells_set] at HS0 HS1
      have HO := hid hown
      have HBW := hid hbw
      generalize (numsW l x).getD k false = v at *
      rw [HRA.out, HHA.out] at HMS
      clear hc hat1 hown hbw hcl hml HRA HHA
      have hgw : w1.heap.size ≤ g := hgb
      cases hrun : it.run <;> cases v <;> rw [hrun] at d0 HMS
      · -- not marked
        clear hrun
        go_wp2_with fail
        go_roundw
        case rel => exact ⟨k + 1, by omega, by go_num, by rw [HMS.out]; exact HO.out, HBW.out⟩
        case measure => simp [intOf]; omega
      · clear hrun
        go_wp2_with fail
        refine (hasR_any it.set b hb _).mono ?_
        rintro e w5 ⟨rfl, hb5⟩
        have HO5 := hid (own_below HO.out hb5)
        have HS5 := hid ((own_below HO.out hb5).stored (k + 1) (.bool true)).1
        rw [boolCells_set] at HS5
        have f1 := (own_below HO.out hb5).frozenAt (k + 1)
        have q1 := (hb5.cell (p := ⟨g, k + 1, none⟩) (World.block_lt_of_cell? _ _ hc1)).trans hc1
        have HB5 := hid (HBW.out.trans (hb5.mono hszw))
        clear hb5 hc0 hc1 hf0 hf1 d0 d1 d2 d3 d4 g1
        cases hh : it.set.has b <;> rw [hh] at HMS
        · clear hh
          go_wp2_with fail
          go_roundw
          case rel => exact ⟨k + 1, by omega, by go_num, by rw [HMS.out]; exact HO5.out, HB5.out⟩
          case measure => simp [intOf]; omega
        · clear hh
          go_wp2_with fail
          go_roundw
          case rel => exact ⟨k + 1, by omega, by go_num, by rw [HMS.out]; exact HS5.out, HB5.out.setCell hgw _⟩
          case measure => simp [intOf]; omega
      · clear hrun
        go_wp2_with fail
        go_roundw
        case rel => exact ⟨k + 1, by omega, by go_num, by rw [HMS.out]; exact HO.out, HBW.out⟩
        case measure => simp [intOf]; omega
      · clear hrun
        go_wp2_with fail
        go_roundw
        case rel => exact ⟨k + 1, by omega, by go_num, by rw [HMS.out]; exact HS0.out, HBW.out.setCell hgw _⟩
        case measure => simp [intOf]; omega
    · have hkn : k = n := by omega
      rw [hkn] at hown
      have HRA := hid (HR1.out.below hbw)
      have hrn := Rd_of_own hown
      have HBW := hid (HB1.out.trans (hbw.mono hsz1))
      clear hown hbw
      go_wp2_with fail
      refine (pack_any _ (n + 1) c2 _ _ (HML.out n) (by omega) hrn).mono ?_
      rintro e w5 ⟨rfl, rfl⟩
      have HNL2 := hid (numsW_length l (packW (marks l (numsW l x) b n)))
      rw [HL.out] at HNL2
      have HPN := hid (pack_nums l (packW (marks l (numsW l x) b n)))
      rw [HSE.out] at HPN
      generalize packW (marks l (numsW l x) b n) = z at *
      go_wp2_with fail
      refine (numbers_any A n c l z _ HL.out (by omega) HRA.out).mono ?_
      rintro e w6 ⟨A6, c6, rfl, hown6, hb6⟩
      have hr6 := Rd_of_own hown6
      clear hown6
      go_wp2_with fail
      refine (pack_any _ (n + 1) c6 _ _ HNL2.out (by omega) hr6).mono ?_
      rw [HPN.out]
      rintro e w7 ⟨rfl, rfl⟩
      go_wp2
      go_ret
      exact ⟨rfl, HBW.out.trans (hb6.mono HBW.out.size)⟩

set_option maxRecDepth 20000 in
set_option maxHeartbeats 1000000 in
theorem seekR_any (A : Option Addr) (n c : Nat) (l : List Item) (x : BitVec 64) (b : Nat) (w : World) (hl : l.length = n) (hn : n ≤ 60) (hr : Rd w A (itemCells l)) (hb : b < 256) (hg : ∀ k, runB l k = true → ∀ b, hasB l b k = false) :
    Calls Try.prog 46 #[.slice A n c, w64 x, .int .u8 (b : Int)] w fun e w' => e = .returned (w64 (seekW l x b)) ∧ Below w.heap.size w w' := by
  have HL := hid hl; clear hl
  have HSE := hid (seek_eq l x b)
  rw [HL.out] at HSE
  have HC : Hid (∀ W, Rd W A (itemCells l) → Calls Try.prog 67 #[.slice A n c, .int .u64 1] W fun e w' => ∃ A' c', e = .returned (.slice A' (n + 1) c') ∧ w'.ownsRow W.heap.size 4 1 (.slice A' (n + 1) c') (n + 1) (boolCells (numsW l 1)) ∧ Below W.heap.size W w') :=
    fun W h => numbers_any A n c l 1 W HL.out (by omega) h
  go_enter Try.func46, Try.ntmps46
  go_wp2_with fail
  refine (stepR_any A n c l x b _ HL.out hn hr hb hg).mono ?_
  rintro e w1 ⟨rfl, hb1⟩
  have HR1 := hid (hr.below hb1)
  have HB1 := hid hb1
  have HLA := hid (numsW_length l (stepW l x b))
  have HLC := hid (numsW_length l 1)
  rw [HL.out] at HLA HLC
  generalize stepW l x b = s1 at *
  clear hr hb1 hg
  go_wp2_with fail
  refine (numbers_any A n c l s1 _ HL.out (by omega) HR1.out).mono ?_
  rintro e w2 ⟨A2, c2, rfl, hown2, hb2⟩
  have HR2 := hid (HR1.out.below hb2)
  have HB2 := hid (HB1.out.trans (hb2.mono HB1.out.size))
  have hsz1 := HB1.out.size
  obtain ⟨g, rfl, hgb, hgat⟩ := boolsCell hown2 (by omega)
  have hgl : g < w2.heap.size := World.block_lt_of_cell? _ _ (hgat 0 (by omega))
  clear hb2 hgat
  go_wp2_with fail
  refine (HC.out _ HR2.out).mono ?_
  rintro e w3 ⟨A3, c3, rfl, hown3, hb3⟩
  have hown2 := own_below hown2 hb3
  have HB3 := hid (HB2.out.trans (hb3.mono HB2.out.size))
  obtain ⟨h, rfl, hhb, hhat⟩ := boolsCell hown3 (by omega)
  have HAT := hid hhat
  rw [← orTo_zero (numsW l s1) (numsW l 1)] at hown2
  have HO2 := hid hown2
  have hne : ¬ h = g := by omega
  have hgw : w.heap.size ≤ g := by omega
  have hsz2 := HB2.out.size
  clear hown2 hown3 hb3 hhat
  go_wp2_with fail
  go_loopw [9] (fun i wr => ∃ (k : Nat), k ≤ n + 1 ∧ i = .int .i64 k ∧ wr.ownsRow w1.heap.size 4 1 (.slice (some ⟨g, 0, none⟩) (n + 1) c2) (n + 1) (boolCells (orTo (numsW l s1) (numsW l 1) k)) ∧
      (∀ j, j < n + 1 → wr.cell? ⟨h, j, none⟩ = some (.bool ((numsW l 1).getD j false))) ∧ Below w.heap.size w wr) (fun i _ => n + 1 - (intOf i).toNat)
  case atStart => exact ⟨0, by omega, rfl, HO2.out, HAT.out, HB3.out⟩
  case round =>
    obtain ⟨k, hk, rfl, hown, hat, hbw⟩ := hrel
    have hol : (orTo (numsW l s1) (numsW l 1) k).length = n + 1 := by rw [orTo_length, HLA.out]
    by_cases hlt : k < n + 1
    · have hc0 : wr.cell? ⟨g, k, none⟩ = some (.bool ((numsW l s1).getD k false)) := by
        rw [hown.cellAt _ (by omega), boolCells_get _ _ (by omega)]
        have h1 := orTo_get (numsW l s1) (numsW l 1) k k (by rw [HLA.out]; exact hlt)
        rw [if_neg (Nat.lt_irrefl k)] at h1
        have e : (orTo (numsW l s1) (numsW l 1) k)[k]'(by omega) = (numsW l s1).getD k false := by
          rw [← h1, List.getD, List.getElem?_eq_getElem (by omega)]; rfl
        rw [e]
      have hc1 := hat k hlt
      have hf0 := hown.frozenAt k
      have HS : Hid (∀ v : Bool, v = ((numsW l s1).getD k false || (numsW l 1).getD k false) → (wr.setCell ⟨g, k, none⟩ (.bool v)).ownsRow w1.heap.size 4 1 (.slice (some ⟨g, 0, none⟩) (n + 1) c2) (n + 1) (boolCells (orTo (numsW l s1) (numsW l 1) (k + 1)))) := by
        intro v hv
        have h1 := (hown.stored k (.bool v)).1
        rw [boolCells_set] at h1
        have h2 := orTo_succ (numsW l s1) (numsW l 1) k (by rw [HLA.out]; exact hlt)
        rw [← h2]
        have h3 : (orTo (numsW l s1) (numsW l 1) k).set k v = (orTo (numsW l s1) (numsW l 1) k).set k ((numsW l s1).getD k false || (numsW l 1).getD k false) := by rw [hv]
        rw [← h3]; exact h1
      have HAT2 : Hid (∀ v : Bool, ∀ j, j < n + 1 → (wr.setCell ⟨g, k, none⟩ (.bool v)).cell? ⟨h, j, none⟩ = some (.bool ((numsW l 1).getD j false))) := fun v j hj => (cell_set_other hne).trans (hat j hj)
      have HBW := hid hbw
      generalize (numsW l s1).getD k false = va at *
      generalize (numsW l 1).getD k false = vc at *
      clear hown hat hol hbw
      cases va
      all_goals
        go_wp2_with fail
        go_roundw
        case rel => exact ⟨k + 1, by omega, by go_num, HS.out _ rfl, HAT2.out _, HBW.out.setCell hgw _⟩
        case measure => simp [intOf]; omega
    · have hkn : k = n + 1 := by omega
      rw [hkn] at hown hol
      have hrn := Rd_of_own hown
      have HOL := hid hol
      clear hown hat hol
      go_wp2_with fail
      refine (pack_any _ (n + 1) c2 _ _ HOL.out (by omega) hrn).mono ?_
      rw [HSE.out]
      rintro e w5 ⟨rfl, rfl⟩
      go_wp2
      go_ret
      exact ⟨rfl, hbw⟩
end Go.Proofs.Ytmcacdegikgmnaa
