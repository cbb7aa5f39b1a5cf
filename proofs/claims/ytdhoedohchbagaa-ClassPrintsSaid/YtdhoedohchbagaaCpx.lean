/- Walks: the reference's Print. -/
import Derived.Test.YtdhoedohchbagaaSgr
import Derived.Test.YtdhoedohchbagaaCl
import Derived.Test.YtdhoedohchbagaaWi
namespace Go.Proofs.Ytdhoedohchbagaa
open Go.RowKit PopT

theorem strOf_append (a b : List Nat) : strOf (a ++ b) = strOf a ++ strOf b := by
  unfold strOf
  rw [List.map_append]
  apply ByteArray.ext
  simp
theorem strOf_size (a : List Nat) : (strOf a).size = a.length := by simp [strOf, ByteArray.size]
/-- The flags of a set, and one more that is false. -/
def flagR (x : BSet) (j : Nat) : Bool := decide (j < 256) && x.has j
theorem flagR_runs (x : BSet) (k : Nat) (h : flagR x k = true) : k < 256 ∧ runEnd x k = runEnd x (k + 1) := by
  unfold flagR at h
  simp at h
  exact ⟨h.1, runEnd_step x k h.1 h.2⟩
theorem flagR_stop (x : BSet) (k : Nat) (h : flagR x k = false) : runEnd x k = k := by
  refine runEnd_stop x k (fun hh => ?_)
  unfold flagR at h
  rw [decide_eq_true hh.1, hh.2] at h
  cases h
theorem flags_cells (x : BSet) (j : Nat) (h : j ≤ 256) : (boolCells (flagsM x) ++ [Value.bool false])[j]? = some (.bool (flagR x j)) := by
  by_cases hj : j < 256
  · rw [List.getElem?_append_left (by rw [boolCells_length, flagsM_length]; exact hj), boolCells, List.getElem?_map, flagsM, List.getElem?_map, List.getElem?_range hj]
    simp [flagR, hj]
  · obtain rfl : j = 256 := by omega
    rw [List.getElem?_append_right (by rw [boolCells_length, flagsM_length]; omega), boolCells_length, flagsM_length]
    simp [flagR]

set_option maxRecDepth 20000 in
set_option maxHeartbeats 4000000 in
theorem printR_any (x : BSet) (w : World) :
    Calls Try.prog 30 #[x.val] w fun e w' => e = .returned (.string (strOf (textM x))) ∧ Below w.heap.size w w' := by
  have HBY := hid (fun W => bytesR_any x W)
  have HPN : Hid (prNot x = ((bytesM x).length == 0 || decide (128 < (bytesM x).length) && decide ((bytesM x).length < 256))) := rfl
  have HT : Hid (textM x = if prNot x = true then [91, 94] ++ prA (notM x) 0 ++ [93] else [91] ++ prA x 0 ++ [93]) := rfl
  have HN := hid (fun W => notR_any x W)
  obtain ⟨T, hT⟩ : ∃ T, textM x = T := ⟨_, rfl⟩
  rw [hT] at HT ⊢
  clear hT
  obtain ⟨BS, hBS⟩ : ∃ B, (⟨(bytesM x).toArray⟩ : ByteArray) = B := ⟨_, rfl⟩
  have hl : (bytesM x).length = BS.size := by rw [← hBS]; rfl
  rw [hBS] at HBY
  rw [hl] at HPN
  have hle : BS.size ≤ 256 := by rw [← hl]; exact bytes_le x
  clear hl hBS
  obtain ⟨y, hy⟩ : ∃ y, notM x = y := ⟨_, rfl⟩
  rw [hy] at HT HN
  clear hy
  unfold BSet.val at *
  by_cases q0 : BS.size = 0
  · have e0 : ((BS.size : Int) == 0) = true := by rw [beq_iff_eq]; omega
    have hp : prNot x = true := by rw [HPN.out]; simp [q0]
    have HP := hid hp
    clear HPN q0 hp
    go_enter Try.func30, Try.ntmps30
    go_wp2_with fail
    refine (HBY.out _).mono ?_
    rintro e w1 ⟨rfl, hb1⟩
    have HX1 : Hid (Blk w1 w.heap.size 51 #[w64 x.w0, w64 x.w1, w64 x.w2, w64 x.w3]) := (Blk.new w 51 #[w64 x.w0, w64 x.w1, w64 x.w2, w64 x.w3]).below hb1 (by simp)
    have HBL1 : Hid (Below w.heap.size w w1) := ((Below.refl w.heap.size w).alloc (Nat.le_refl _) _).trans (hb1.mono (by simp))
    clear hb1 HBY
    obtain ⟨c0, c1, c2, c3, g0, g1, g2, g3⟩ := blk4 HX1.out
    go_wp2_with fail
    refine (HN.out _).mono ?_
    rintro e w2 ⟨rfl, hb2⟩
    have HX2 : Hid (Blk w2 w.heap.size 51 #[w64 x.w0, w64 x.w1, w64 x.w2, w64 x.w3]) := HX1.out.below hb2 HX1.out.lt
    have HBL2 : Hid (Below w.heap.size w w2) := HBL1.out.trans (hb2.mono HBL1.out.size)
    clear hb2 HN HX1 HBL1 c0 c1 c2 c3 g0 g1 g2 g3
    obtain ⟨c0, c1, c2, c3, g0, g1, g2, g3⟩ := blk4 HX2.out
    have HX3 := hid (blk_put4 (b0 := w64 y.w0) (b1 := w64 y.w1) (b2 := w64 y.w2) (b3 := w64 y.w3) HX2.out)
    have HBL3 := hid (below_put4 (g := w.heap.size) HBL2.out (Nat.le_refl _) (w64 y.w0) (w64 y.w1) (w64 y.w2) (w64 y.w3))
    go_upto_region 4 with fail
    obtain ⟨w3, hw3⟩ : ∃ w3, (((w2.setCell ⟨w.heap.size, 0, none⟩ (w64 y.w0)).setCell ⟨w.heap.size, 1, none⟩ (w64 y.w1)).setCell ⟨w.heap.size, 2, none⟩ (w64 y.w2)).setCell ⟨w.heap.size, 3, none⟩ (w64 y.w3) = w3 := ⟨_, rfl⟩
    rw [hw3] at HX3 HBL3 ⊢
    clear hw3 HX2 HBL2 c0 c1 c2 c3 g0 g1 g2 g3
    obtain ⟨c0, c1, c2, c3, -, -, -, -⟩ := blk4 HX3.out
    have HTT : Hid (T = [91, 94] ++ prA y 0 ++ [93]) := by rw [Hid, HT.out, if_pos HP.out]
    clear HT
    have HF := hid (fun W => flags_any y W)
    unfold BSet.val at HF
    go_wp2_with fail
    refine (HF.out _).mono ?_
    rintro e w4 ⟨A, cc, rfl, hown, hbl⟩
    have HBL4 := hid (HBL3.out.trans (hbl.mono HBL3.out.size))
    have hown' := own_base (B := w.heap.size) hown HBL3.out.size
    have hs4 : w.heap.size ≤ w4.heap.size := HBL4.out.size
    clear HF hbl hown HX3 HBL3 c0 c1 c2 c3
    go_wp2_with (at_builtin; refine wpList_append1 _ rfl _ _ 121 rfl w.heap.size 4 _ 1 1 Try.underlying121 Try.infoBool rfl (by decide) _ _ _ rfl hown' 1 [.bool false] rfl rfl rfl ?_ (by decide) hs4 ?_)
    · decide
    intro A2 d2 w5 hown5 hg5
    have HBL5 := hid (below_grown HBL4.out hown' hg5 (by omega) (by omega))
    obtain ⟨g, off, rfl, hg, hcc⟩ := (Rd_of_own hown5).at (by simp)
    have HC := hid (fun j (hj : j ≤ 256) => hcc j _ (flags_cells y j hj))
    clear hcc hown5 hg5 hown' HBL4 hs4
    have hs5 : w.heap.size ≤ w5.heap.size := HBL5.out.size
    go_wp2_with fail
    go_loopw [3, 6, 7] (fun sv bv kv wr => ∃ (b : Nat) (d : List Nat), b ≤ 256 ∧ bv = .int .i64 (b : Int) ∧ sv = .string (strOf ([91, 94] ++ d)) ∧ d ++ prA y b = prA y 0 ∧ d.length ≤ 5 * b ∧ Below w5.heap.size w5 wr) (fun _ b _ _ => 256 - (intOf b).toNat)
    case atStart => exact ⟨0, [], by omega, rfl, rfl, rfl, by simp, Below.refl _ _⟩
    case round =>
      obtain ⟨b, d, hb, rfl, rfl, hd, hdl, hbl⟩ := hrel
      have HD := hid hd; have HBL := hid hbl
      have HCR := hid (fun j (hj : j ≤ 256) => (World.cell?_of_block (hbl.block g hg)).trans (HC.out j hj))
      obtain ⟨SS, hSS⟩ : ∃ SS, strOf ([91, 94] ++ d) = SS := ⟨_, rfl⟩
      have hsz : SS.size ≤ 1400 := by rw [← hSS, strOf_size]; simp only [List.length_append, List.length_cons, List.length_nil]; omega
      have HSS := hid hSS; have HDL := hid hdl
      rw [hSS]
      clear hd hbl hdl hSS
      by_cases hlt : b < 256
      · obtain ⟨wo, rfl⟩ : ∃ wo : World, wo = wr := ⟨_, rfl⟩
        have HST := hid (prA_step y b hlt)
        go_wp2_with fail
        go_loopw [7] (fun kv wr2 => ∃ (k : Nat), b ≤ k ∧ k ≤ 256 ∧ kv = .int .i64 (k : Int) ∧ runEnd y k = runEnd y b ∧ wr2 = wo) (fun k _ => 256 - (intOf k).toNat)
        case atStart => exact ⟨b, by omega, by omega, rfl, rfl, rfl⟩
        case round =>
          obtain ⟨k, hk1, hk2, rfl, hre, rfl⟩ := hrel
          have HRE := hid hre
          have ck := HCR.out k hk2
          clear hre
          cases hf : flagR y k
          · rw [hf] at ck
            have HK : Hid (runEnd y b = k) := by rw [Hid, ← HRE.out]; exact flagR_stop y k hf
            clear hf HRE
            rw [HK.out] at HST
            by_cases h2 : 2 < k - b
            · have h2i : (2 : Int) < (k : Int) - (b : Int) := by omega
              obtain ⟨k1, hk1'⟩ : ∃ k1, k - 1 = k1 := ⟨_, rfl⟩
              have hki : ((k : Int) - 1) = (k1 : Int) := by omega
              have hk256 : k1 < 256 := by omega
              have hkk : k1 + 1 = k := by omega
              rw [hk1'] at HST
              have C1 := hid (fun W => signR_any b hlt W)
              have C2 := hid (fun W => signR_any k1 hk256 W)
              have HD2 : Hid ((d ++ (signM b ++ ([45] ++ signM k1))) ++ prA y k = prA y 0) := by rw [Hid, ← HD.out, HST.out, if_pos h2]; simp only [List.append_assoc]
              have HL2 : Hid ((d ++ (signM b ++ ([45] ++ signM k1))).length ≤ 5 * k) := by
                have := signM_le b; have := signM_le k1; have := HDL.out
                rw [Hid]; simp only [List.length_append, List.length_cons, List.length_nil]; omega
              have HS2 : Hid (strOf ([91, 94] ++ (d ++ (signM b ++ ([45] ++ signM k1)))) = ((SS ++ strOf (signM b)) ++ (⟨#[45]⟩ : ByteArray)) ++ strOf (signM k1)) := by
                rw [Hid, ← List.append_assoc, strOf_append, strOf_append (signM b), strOf_append [45], HSS.out, ByteArray.append_assoc, ByteArray.append_assoc]; rfl
              have z1 : (strOf (signM b)).size ≤ 2 := by rw [strOf_size]; exact signM_le b
              have z2 : (strOf (signM k1)).size ≤ 2 := by rw [strOf_size]; exact signM_le k1
              obtain ⟨S1, hS1⟩ : ∃ S, strOf (signM b) = S := ⟨_, rfl⟩
              obtain ⟨S2, hS2⟩ : ∃ S, strOf (signM k1) = S := ⟨_, rfl⟩
              rw [hS1] at C1 HS2 z1
              rw [hS2] at C2 HS2 z2
              have HKK := hid hkk
              clear hS1 hS2 HST HSS HD HDL hk1' hkk
              go_wp2_with fail
              refine (C1.out _).mono ?_
              rintro e w6 ⟨rfl, hb6⟩
              have HB6 := hid (HBL.out.trans (hb6.mono HBL.out.size))
              clear hb6 C1
              go_wp2_with fail
              refine (C2.out _).mono ?_
              rintro e w7 ⟨rfl, hb7⟩
              have HB7 := hid (HB6.out.trans (hb7.mono HB6.out.size))
              clear hb7 C2
              go_wp2_with fail
              go_roundw
              case rel => exact ⟨k, _, hk2, by have := HKK.out; first | go_num | (congr 1; omega), by rw [HS2.out], HD2.out, HL2.out, HB7.out⟩
              case measure => have := HKK.out; simp [intOf]; omega
            · have h2i : ¬ (2 : Int) < (k : Int) - (b : Int) := by omega
              by_cases h3 : b < k
              · have C1 := hid (fun W => signR_any b hlt W)
                have HD2 : Hid ((d ++ signM b) ++ prA y (b + 1) = prA y 0) := by rw [Hid, ← HD.out, HST.out, if_neg h2, if_pos h3, List.append_assoc]
                have HL2 : Hid ((d ++ signM b).length ≤ 5 * (b + 1)) := by
                  have := signM_le b; have := HDL.out
                  rw [Hid]; simp only [List.length_append]; omega
                have HS2 : Hid (strOf ([91, 94] ++ (d ++ signM b)) = SS ++ strOf (signM b)) := by
                  rw [Hid, ← List.append_assoc, strOf_append, HSS.out]
                have z1 : (strOf (signM b)).size ≤ 2 := by rw [strOf_size]; exact signM_le b
                obtain ⟨S1, hS1⟩ : ∃ S, strOf (signM b) = S := ⟨_, rfl⟩
                rw [hS1] at C1 HS2 z1
                clear hS1 HST HSS HD HDL
                go_wp2_with fail
                refine (C1.out _).mono ?_
                rintro e w6 ⟨rfl, hb6⟩
                have HB6 := hid (HBL.out.trans (hb6.mono HBL.out.size))
                clear hb6 C1
                go_wp2_with fail
                go_roundw
                case rel => exact ⟨b + 1, _, by omega, by go_num, by rw [HS2.out], HD2.out, HL2.out, HB6.out⟩
                case measure => simp [intOf]; omega
              · have HD2 : Hid (d ++ prA y (b + 1) = prA y 0) := by rw [Hid, ← HD.out, HST.out, if_neg h2, if_neg h3]
                have HL2 : Hid (d.length ≤ 5 * (b + 1)) := by have := HDL.out; rw [Hid]; omega
                clear HST
                go_wp2_with fail
                go_roundw
                case rel => exact ⟨b + 1, d, by omega, by go_num, by rw [HSS.out], HD2.out, HL2.out, HBL.out⟩
                case measure => simp [intOf]; omega
          · rw [hf] at ck
            obtain ⟨hk3, hk4⟩ := flagR_runs y k hf
            have HK : Hid (runEnd y (k + 1) = runEnd y b) := by rw [Hid, ← HRE.out, hk4]
            clear hf HRE hk4
            go_wp2_with fail
            go_roundw
            case rel => exact ⟨k + 1, by omega, by omega, by go_num, HK.out, by trivial⟩
            case measure => simp [intOf]; omega
      · obtain rfl : b = 256 := by omega
        go_wp2_with fail
        go_ret
        refine ⟨?_, HBL5.out.trans (HBL.out.mono hs5)⟩
        have hd2 := HD.out
        rw [prA_end y 256 (by omega), List.append_nil] at hd2
        rw [HTT.out, ← hd2, strOf_append _ [93], HSS.out]; rfl
  · have e0 : ((BS.size : Int) == 0) = false := by rw [beq_eq_false_iff_ne]; omega
    by_cases q1 : 128 < BS.size
    · by_cases q2 : BS.size < 256
      · have hp : prNot x = true := by rw [HPN.out]; simp [q1, q2]
        have HP := hid hp
        clear HPN q0 hp
        go_enter Try.func30, Try.ntmps30
        go_wp2_with fail
        refine (HBY.out _).mono ?_
        rintro e w1 ⟨rfl, hb1⟩
        have HX1 : Hid (Blk w1 w.heap.size 51 #[w64 x.w0, w64 x.w1, w64 x.w2, w64 x.w3]) := (Blk.new w 51 #[w64 x.w0, w64 x.w1, w64 x.w2, w64 x.w3]).below hb1 (by simp)
        have HBL1 : Hid (Below w.heap.size w w1) := ((Below.refl w.heap.size w).alloc (Nat.le_refl _) _).trans (hb1.mono (by simp))
        clear hb1 HBY
        obtain ⟨c0, c1, c2, c3, g0, g1, g2, g3⟩ := blk4 HX1.out
        go_wp2_with fail
        refine (HN.out _).mono ?_
        rintro e w2 ⟨rfl, hb2⟩
        have HX2 : Hid (Blk w2 w.heap.size 51 #[w64 x.w0, w64 x.w1, w64 x.w2, w64 x.w3]) := HX1.out.below hb2 HX1.out.lt
        have HBL2 : Hid (Below w.heap.size w w2) := HBL1.out.trans (hb2.mono HBL1.out.size)
        clear hb2 HN HX1 HBL1 c0 c1 c2 c3 g0 g1 g2 g3
        obtain ⟨c0, c1, c2, c3, g0, g1, g2, g3⟩ := blk4 HX2.out
        have HX3 := hid (blk_put4 (b0 := w64 y.w0) (b1 := w64 y.w1) (b2 := w64 y.w2) (b3 := w64 y.w3) HX2.out)
        have HBL3 := hid (below_put4 (g := w.heap.size) HBL2.out (Nat.le_refl _) (w64 y.w0) (w64 y.w1) (w64 y.w2) (w64 y.w3))
        go_upto_region 4 with fail
        obtain ⟨w3, hw3⟩ : ∃ w3, (((w2.setCell ⟨w.heap.size, 0, none⟩ (w64 y.w0)).setCell ⟨w.heap.size, 1, none⟩ (w64 y.w1)).setCell ⟨w.heap.size, 2, none⟩ (w64 y.w2)).setCell ⟨w.heap.size, 3, none⟩ (w64 y.w3) = w3 := ⟨_, rfl⟩
        rw [hw3] at HX3 HBL3 ⊢
        clear hw3 HX2 HBL2 c0 c1 c2 c3 g0 g1 g2 g3
        obtain ⟨c0, c1, c2, c3, -, -, -, -⟩ := blk4 HX3.out
        have HTT : Hid (T = [91, 94] ++ prA y 0 ++ [93]) := by rw [Hid, HT.out, if_pos HP.out]
        clear HT
        have HF := hid (fun W => flags_any y W)
        unfold BSet.val at HF
        go_wp2_with fail
        refine (HF.out _).mono ?_
        rintro e w4 ⟨A, cc, rfl, hown, hbl⟩
        have HBL4 := hid (HBL3.out.trans (hbl.mono HBL3.out.size))
        have hown' := own_base (B := w.heap.size) hown HBL3.out.size
        have hs4 : w.heap.size ≤ w4.heap.size := HBL4.out.size
        clear HF hbl hown HX3 HBL3 c0 c1 c2 c3
        go_wp2_with (at_builtin; refine wpList_append1 _ rfl _ _ 121 rfl w.heap.size 4 _ 1 1 Try.underlying121 Try.infoBool rfl (by decide) _ _ _ rfl hown' 1 [.bool false] rfl rfl rfl ?_ (by decide) hs4 ?_)
        · decide
        intro A2 d2 w5 hown5 hg5
        have HBL5 := hid (below_grown HBL4.out hown' hg5 (by omega) (by omega))
        obtain ⟨g, off, rfl, hg, hcc⟩ := (Rd_of_own hown5).at (by simp)
        have HC := hid (fun j (hj : j ≤ 256) => hcc j _ (flags_cells y j hj))
        clear hcc hown5 hg5 hown' HBL4 hs4
        have hs5 : w.heap.size ≤ w5.heap.size := HBL5.out.size
        go_wp2_with fail
        go_loopw [3, 6, 7] (fun sv bv kv wr => ∃ (b : Nat) (d : List Nat), b ≤ 256 ∧ bv = .int .i64 (b : Int) ∧ sv = .string (strOf ([91, 94] ++ d)) ∧ d ++ prA y b = prA y 0 ∧ d.length ≤ 5 * b ∧ Below w5.heap.size w5 wr) (fun _ b _ _ => 256 - (intOf b).toNat)
        case atStart => exact ⟨0, [], by omega, rfl, rfl, rfl, by simp, Below.refl _ _⟩
        case round =>
          obtain ⟨b, d, hb, rfl, rfl, hd, hdl, hbl⟩ := hrel
          have HD := hid hd; have HBL := hid hbl
          have HCR := hid (fun j (hj : j ≤ 256) => (World.cell?_of_block (hbl.block g hg)).trans (HC.out j hj))
          obtain ⟨SS, hSS⟩ : ∃ SS, strOf ([91, 94] ++ d) = SS := ⟨_, rfl⟩
          have hsz : SS.size ≤ 1400 := by rw [← hSS, strOf_size]; simp only [List.length_append, List.length_cons, List.length_nil]; omega
          have HSS := hid hSS; have HDL := hid hdl
          rw [hSS]
          clear hd hbl hdl hSS
          by_cases hlt : b < 256
          · obtain ⟨wo, rfl⟩ : ∃ wo : World, wo = wr := ⟨_, rfl⟩
            have HST := hid (prA_step y b hlt)
            go_wp2_with fail
            go_loopw [7] (fun kv wr2 => ∃ (k : Nat), b ≤ k ∧ k ≤ 256 ∧ kv = .int .i64 (k : Int) ∧ runEnd y k = runEnd y b ∧ wr2 = wo) (fun k _ => 256 - (intOf k).toNat)
            case atStart => exact ⟨b, by omega, by omega, rfl, rfl, rfl⟩
            case round =>
              obtain ⟨k, hk1, hk2, rfl, hre, rfl⟩ := hrel
              have HRE := hid hre
              have ck := HCR.out k hk2
              clear hre
              cases hf : flagR y k
              · rw [hf] at ck
                have HK : Hid (runEnd y b = k) := by rw [Hid, ← HRE.out]; exact flagR_stop y k hf
                clear hf HRE
                rw [HK.out] at HST
                by_cases h2 : 2 < k - b
                · have h2i : (2 : Int) < (k : Int) - (b : Int) := by omega
                  obtain ⟨k1, hk1'⟩ : ∃ k1, k - 1 = k1 := ⟨_, rfl⟩
                  have hki : ((k : Int) - 1) = (k1 : Int) := by omega
                  have hk256 : k1 < 256 := by omega
                  have hkk : k1 + 1 = k := by omega
                  rw [hk1'] at HST
                  have C1 := hid (fun W => signR_any b hlt W)
                  have C2 := hid (fun W => signR_any k1 hk256 W)
                  have HD2 : Hid ((d ++ (signM b ++ ([45] ++ signM k1))) ++ prA y k = prA y 0) := by rw [Hid, ← HD.out, HST.out, if_pos h2]; simp only [List.append_assoc]
                  have HL2 : Hid ((d ++ (signM b ++ ([45] ++ signM k1))).length ≤ 5 * k) := by
                    have := signM_le b; have := signM_le k1; have := HDL.out
                    rw [Hid]; simp only [List.length_append, List.length_cons, List.length_nil]; omega
                  have HS2 : Hid (strOf ([91, 94] ++ (d ++ (signM b ++ ([45] ++ signM k1)))) = ((SS ++ strOf (signM b)) ++ (⟨#[45]⟩ : ByteArray)) ++ strOf (signM k1)) := by
                    rw [Hid, ← List.append_assoc, strOf_append, strOf_append (signM b), strOf_append [45], HSS.out, ByteArray.append_assoc, ByteArray.append_assoc]; rfl
                  have z1 : (strOf (signM b)).size ≤ 2 := by rw [strOf_size]; exact signM_le b
                  have z2 : (strOf (signM k1)).size ≤ 2 := by rw [strOf_size]; exact signM_le k1
                  obtain ⟨S1, hS1⟩ : ∃ S, strOf (signM b) = S := ⟨_, rfl⟩
                  obtain ⟨S2, hS2⟩ : ∃ S, strOf (signM k1) = S := ⟨_, rfl⟩
                  rw [hS1] at C1 HS2 z1
                  rw [hS2] at C2 HS2 z2
                  have HKK := hid hkk
                  clear hS1 hS2 HST HSS HD HDL hk1' hkk
                  go_wp2_with fail
                  refine (C1.out _).mono ?_
                  rintro e w6 ⟨rfl, hb6⟩
                  have HB6 := hid (HBL.out.trans (hb6.mono HBL.out.size))
                  clear hb6 C1
                  go_wp2_with fail
                  refine (C2.out _).mono ?_
                  rintro e w7 ⟨rfl, hb7⟩
                  have HB7 := hid (HB6.out.trans (hb7.mono HB6.out.size))
                  clear hb7 C2
                  go_wp2_with fail
                  go_roundw
                  case rel => exact ⟨k, _, hk2, by have := HKK.out; first | go_num | (congr 1; omega), by rw [HS2.out], HD2.out, HL2.out, HB7.out⟩
                  case measure => have := HKK.out; simp [intOf]; omega
                · have h2i : ¬ (2 : Int) < (k : Int) - (b : Int) := by omega
                  by_cases h3 : b < k
                  · have C1 := hid (fun W => signR_any b hlt W)
                    have HD2 : Hid ((d ++ signM b) ++ prA y (b + 1) = prA y 0) := by rw [Hid, ← HD.out, HST.out, if_neg h2, if_pos h3, List.append_assoc]
                    have HL2 : Hid ((d ++ signM b).length ≤ 5 * (b + 1)) := by
                      have := signM_le b; have := HDL.out
                      rw [Hid]; simp only [List.length_append]; omega
                    have HS2 : Hid (strOf ([91, 94] ++ (d ++ signM b)) = SS ++ strOf (signM b)) := by
                      rw [Hid, ← List.append_assoc, strOf_append, HSS.out]
                    have z1 : (strOf (signM b)).size ≤ 2 := by rw [strOf_size]; exact signM_le b
                    obtain ⟨S1, hS1⟩ : ∃ S, strOf (signM b) = S := ⟨_, rfl⟩
                    rw [hS1] at C1 HS2 z1
                    clear hS1 HST HSS HD HDL
                    go_wp2_with fail
                    refine (C1.out _).mono ?_
                    rintro e w6 ⟨rfl, hb6⟩
                    have HB6 := hid (HBL.out.trans (hb6.mono HBL.out.size))
                    clear hb6 C1
                    go_wp2_with fail
                    go_roundw
                    case rel => exact ⟨b + 1, _, by omega, by go_num, by rw [HS2.out], HD2.out, HL2.out, HB6.out⟩
                    case measure => simp [intOf]; omega
                  · have HD2 : Hid (d ++ prA y (b + 1) = prA y 0) := by rw [Hid, ← HD.out, HST.out, if_neg h2, if_neg h3]
                    have HL2 : Hid (d.length ≤ 5 * (b + 1)) := by have := HDL.out; rw [Hid]; omega
                    clear HST
                    go_wp2_with fail
                    go_roundw
                    case rel => exact ⟨b + 1, d, by omega, by go_num, by rw [HSS.out], HD2.out, HL2.out, HBL.out⟩
                    case measure => simp [intOf]; omega
              · rw [hf] at ck
                obtain ⟨hk3, hk4⟩ := flagR_runs y k hf
                have HK : Hid (runEnd y (k + 1) = runEnd y b) := by rw [Hid, ← HRE.out, hk4]
                clear hf HRE hk4
                go_wp2_with fail
                go_roundw
                case rel => exact ⟨k + 1, by omega, by omega, by go_num, HK.out, by trivial⟩
                case measure => simp [intOf]; omega
          · obtain rfl : b = 256 := by omega
            go_wp2_with fail
            go_ret
            refine ⟨?_, HBL5.out.trans (HBL.out.mono hs5)⟩
            have hd2 := HD.out
            rw [prA_end y 256 (by omega), List.append_nil] at hd2
            rw [HTT.out, ← hd2, strOf_append _ [93], HSS.out]; rfl
      · have hp : ¬ prNot x = true := by rw [HPN.out]; simp [q0, q2]
        have HP := hid hp
        have q3 : 256 ≤ BS.size := by omega
        clear HPN q0 hp
        go_enter Try.func30, Try.ntmps30
        go_wp2_with fail
        refine (HBY.out _).mono ?_
        rintro e w1 ⟨rfl, hb1⟩
        have HX1 : Hid (Blk w1 w.heap.size 51 #[w64 x.w0, w64 x.w1, w64 x.w2, w64 x.w3]) := (Blk.new w 51 #[w64 x.w0, w64 x.w1, w64 x.w2, w64 x.w3]).below hb1 (by simp)
        have HBL1 : Hid (Below w.heap.size w w1) := ((Below.refl w.heap.size w).alloc (Nat.le_refl _) _).trans (hb1.mono (by simp))
        clear hb1 HBY
        obtain ⟨c0, c1, c2, c3, g0, g1, g2, g3⟩ := blk4 HX1.out
        have HTT : Hid (T = [91] ++ prA x 0 ++ [93]) := by rw [Hid, HT.out, if_neg HP.out]
        clear HT
        have HF := hid (fun W => flags_any x W)
        unfold BSet.val at HF
        go_wp2_with fail
        refine (HF.out _).mono ?_
        rintro e w4 ⟨A, cc, rfl, hown, hbl⟩
        have HBL4 := hid (HBL1.out.trans (hbl.mono HBL1.out.size))
        have hown' := own_base (B := w.heap.size) hown HBL1.out.size
        have hs4 : w.heap.size ≤ w4.heap.size := HBL4.out.size
        clear HF hbl hown HX1 HBL1 c0 c1 c2 c3
        go_wp2_with (at_builtin; refine wpList_append1 _ rfl _ _ 121 rfl w.heap.size 4 _ 1 1 Try.underlying121 Try.infoBool rfl (by decide) _ _ _ rfl hown' 1 [.bool false] rfl rfl rfl ?_ (by decide) hs4 ?_)
        · decide
        intro A2 d2 w5 hown5 hg5
        have HBL5 := hid (below_grown HBL4.out hown' hg5 (by omega) (by omega))
        obtain ⟨g, off, rfl, hg, hcc⟩ := (Rd_of_own hown5).at (by simp)
        have HC := hid (fun j (hj : j ≤ 256) => hcc j _ (flags_cells x j hj))
        clear hcc hown5 hg5 hown' HBL4 hs4
        have hs5 : w.heap.size ≤ w5.heap.size := HBL5.out.size
        go_wp2_with fail
        go_loopw [3, 6, 7] (fun sv bv kv wr => ∃ (b : Nat) (d : List Nat), b ≤ 256 ∧ bv = .int .i64 (b : Int) ∧ sv = .string (strOf ([91] ++ d)) ∧ d ++ prA x b = prA x 0 ∧ d.length ≤ 5 * b ∧ Below w5.heap.size w5 wr) (fun _ b _ _ => 256 - (intOf b).toNat)
        case atStart => exact ⟨0, [], by omega, rfl, rfl, rfl, by simp, Below.refl _ _⟩
        case round =>
          obtain ⟨b, d, hb, rfl, rfl, hd, hdl, hbl⟩ := hrel
          have HD := hid hd; have HBL := hid hbl
          have HCR := hid (fun j (hj : j ≤ 256) => (World.cell?_of_block (hbl.block g hg)).trans (HC.out j hj))
          obtain ⟨SS, hSS⟩ : ∃ SS, strOf ([91] ++ d) = SS := ⟨_, rfl⟩
          have hsz : SS.size ≤ 1400 := by rw [← hSS, strOf_size]; simp only [List.length_append, List.length_cons, List.length_nil]; omega
          have HSS := hid hSS; have HDL := hid hdl
          rw [hSS]
          clear hd hbl hdl hSS
          by_cases hlt : b < 256
          · obtain ⟨wo, rfl⟩ : ∃ wo : World, wo = wr := ⟨_, rfl⟩
            have HST := hid (prA_step x b hlt)
            go_wp2_with fail
            go_loopw [7] (fun kv wr2 => ∃ (k : Nat), b ≤ k ∧ k ≤ 256 ∧ kv = .int .i64 (k : Int) ∧ runEnd x k = runEnd x b ∧ wr2 = wo) (fun k _ => 256 - (intOf k).toNat)
            case atStart => exact ⟨b, by omega, by omega, rfl, rfl, rfl⟩
            case round =>
              obtain ⟨k, hk1, hk2, rfl, hre, rfl⟩ := hrel
              have HRE := hid hre
              have ck := HCR.out k hk2
              clear hre
              cases hf : flagR x k
              · rw [hf] at ck
                have HK : Hid (runEnd x b = k) := by rw [Hid, ← HRE.out]; exact flagR_stop x k hf
                clear hf HRE
                rw [HK.out] at HST
                by_cases h2 : 2 < k - b
                · have h2i : (2 : Int) < (k : Int) - (b : Int) := by omega
                  obtain ⟨k1, hk1'⟩ : ∃ k1, k - 1 = k1 := ⟨_, rfl⟩
                  have hki : ((k : Int) - 1) = (k1 : Int) := by omega
                  have hk256 : k1 < 256 := by omega
                  have hkk : k1 + 1 = k := by omega
                  rw [hk1'] at HST
                  have C1 := hid (fun W => signR_any b hlt W)
                  have C2 := hid (fun W => signR_any k1 hk256 W)
                  have HD2 : Hid ((d ++ (signM b ++ ([45] ++ signM k1))) ++ prA x k = prA x 0) := by rw [Hid, ← HD.out, HST.out, if_pos h2]; simp only [List.append_assoc]
                  have HL2 : Hid ((d ++ (signM b ++ ([45] ++ signM k1))).length ≤ 5 * k) := by
                    have := signM_le b; have := signM_le k1; have := HDL.out
                    rw [Hid]; simp only [List.length_append, List.length_cons, List.length_nil]; omega
                  have HS2 : Hid (strOf ([91] ++ (d ++ (signM b ++ ([45] ++ signM k1)))) = ((SS ++ strOf (signM b)) ++ (⟨#[45]⟩ : ByteArray)) ++ strOf (signM k1)) := by
                    rw [Hid, ← List.append_assoc, strOf_append, strOf_append (signM b), strOf_append [45], HSS.out, ByteArray.append_assoc, ByteArray.append_assoc]; rfl
                  have z1 : (strOf (signM b)).size ≤ 2 := by rw [strOf_size]; exact signM_le b
                  have z2 : (strOf (signM k1)).size ≤ 2 := by rw [strOf_size]; exact signM_le k1
                  obtain ⟨S1, hS1⟩ : ∃ S, strOf (signM b) = S := ⟨_, rfl⟩
                  obtain ⟨S2, hS2⟩ : ∃ S, strOf (signM k1) = S := ⟨_, rfl⟩
                  rw [hS1] at C1 HS2 z1
                  rw [hS2] at C2 HS2 z2
                  have HKK := hid hkk
                  clear hS1 hS2 HST HSS HD HDL hk1' hkk
                  go_wp2_with fail
                  refine (C1.out _).mono ?_
                  rintro e w6 ⟨rfl, hb6⟩
                  have HB6 := hid (HBL.out.trans (hb6.mono HBL.out.size))
                  clear hb6 C1
                  go_wp2_with fail
                  refine (C2.out _).mono ?_
                  rintro e w7 ⟨rfl, hb7⟩
                  have HB7 := hid (HB6.out.trans (hb7.mono HB6.out.size))
                  clear hb7 C2
                  go_wp2_with fail
                  go_roundw
                  case rel => exact ⟨k, _, hk2, by have := HKK.out; first | go_num | (congr 1; omega), by rw [HS2.out], HD2.out, HL2.out, HB7.out⟩
                  case measure => have := HKK.out; simp [intOf]; omega
                · have h2i : ¬ (2 : Int) < (k : Int) - (b : Int) := by omega
                  by_cases h3 : b < k
                  · have C1 := hid (fun W => signR_any b hlt W)
                    have HD2 : Hid ((d ++ signM b) ++ prA x (b + 1) = prA x 0) := by rw [Hid, ← HD.out, HST.out, if_neg h2, if_pos h3, List.append_assoc]
                    have HL2 : Hid ((d ++ signM b).length ≤ 5 * (b + 1)) := by
                      have := signM_le b; have := HDL.out
                      rw [Hid]; simp only [List.length_append]; omega
                    have HS2 : Hid (strOf ([91] ++ (d ++ signM b)) = SS ++ strOf (signM b)) := by
                      rw [Hid, ← List.append_assoc, strOf_append, HSS.out]
                    have z1 : (strOf (signM b)).size ≤ 2 := by rw [strOf_size]; exact signM_le b
                    obtain ⟨S1, hS1⟩ : ∃ S, strOf (signM b) = S := ⟨_, rfl⟩
                    rw [hS1] at C1 HS2 z1
                    clear hS1 HST HSS HD HDL
                    go_wp2_with fail
                    refine (C1.out _).mono ?_
                    rintro e w6 ⟨rfl, hb6⟩
                    have HB6 := hid (HBL.out.trans (hb6.mono HBL.out.size))
                    clear hb6 C1
                    go_wp2_with fail
                    go_roundw
                    case rel => exact ⟨b + 1, _, by omega, by go_num, by rw [HS2.out], HD2.out, HL2.out, HB6.out⟩
                    case measure => simp [intOf]; omega
                  · have HD2 : Hid (d ++ prA x (b + 1) = prA x 0) := by rw [Hid, ← HD.out, HST.out, if_neg h2, if_neg h3]
                    have HL2 : Hid (d.length ≤ 5 * (b + 1)) := by have := HDL.out; rw [Hid]; omega
                    clear HST
                    go_wp2_with fail
                    go_roundw
                    case rel => exact ⟨b + 1, d, by omega, by go_num, by rw [HSS.out], HD2.out, HL2.out, HBL.out⟩
                    case measure => simp [intOf]; omega
              · rw [hf] at ck
                obtain ⟨hk3, hk4⟩ := flagR_runs x k hf
                have HK : Hid (runEnd x (k + 1) = runEnd x b) := by rw [Hid, ← HRE.out, hk4]
                clear hf HRE hk4
                go_wp2_with fail
                go_roundw
                case rel => exact ⟨k + 1, by omega, by omega, by go_num, HK.out, by trivial⟩
                case measure => simp [intOf]; omega
          · obtain rfl : b = 256 := by omega
            go_wp2_with fail
            go_ret
            refine ⟨?_, HBL5.out.trans (HBL.out.mono hs5)⟩
            have hd2 := HD.out
            rw [prA_end x 256 (by omega), List.append_nil] at hd2
            rw [HTT.out, ← hd2, strOf_append _ [93], HSS.out]; rfl
    · have hp : ¬ prNot x = true := by rw [HPN.out]; simp [q0, q1]
      have HP := hid hp
      have q3 : BS.size ≤ 128 := by omega
      clear HPN q0 hp
      go_enter Try.func30, Try.ntmps30
      go_wp2_with fail
      refine (HBY.out _).mono ?_
      rintro e w1 ⟨rfl, hb1⟩
      have HX1 : Hid (Blk w1 w.heap.size 51 #[w64 x.w0, w64 x.w1, w64 x.w2, w64 x.w3]) := (Blk.new w 51 #[w64 x.w0, w64 x.w1, w64 x.w2, w64 x.w3]).below hb1 (by simp)
      have HBL1 : Hid (Below w.heap.size w w1) := ((Below.refl w.heap.size w).alloc (Nat.le_refl _) _).trans (hb1.mono (by simp))
      clear hb1 HBY
      obtain ⟨c0, c1, c2, c3, g0, g1, g2, g3⟩ := blk4 HX1.out
      have HTT : Hid (T = [91] ++ prA x 0 ++ [93]) := by rw [Hid, HT.out, if_neg HP.out]
      clear HT
      have HF := hid (fun W => flags_any x W)
      unfold BSet.val at HF
      go_wp2_with fail
      refine (HF.out _).mono ?_
      rintro e w4 ⟨A, cc, rfl, hown, hbl⟩
      have HBL4 := hid (HBL1.out.trans (hbl.mono HBL1.out.size))
      have hown' := own_base (B := w.heap.size) hown HBL1.out.size
      have hs4 : w.heap.size ≤ w4.heap.size := HBL4.out.size
      clear HF hbl hown HX1 HBL1 c0 c1 c2 c3
      go_wp2_with (at_builtin; refine wpList_append1 _ rfl _ _ 121 rfl w.heap.size 4 _ 1 1 Try.underlying121 Try.infoBool rfl (by decide) _ _ _ rfl hown' 1 [.bool false] rfl rfl rfl ?_ (by decide) hs4 ?_)
      · decide
      intro A2 d2 w5 hown5 hg5
      have HBL5 := hid (below_grown HBL4.out hown' hg5 (by omega) (by omega))
      obtain ⟨g, off, rfl, hg, hcc⟩ := (Rd_of_own hown5).at (by simp)
      have HC := hid (fun j (hj : j ≤ 256) => hcc j _ (flags_cells x j hj))
      clear hcc hown5 hg5 hown' HBL4 hs4
      have hs5 : w.heap.size ≤ w5.heap.size := HBL5.out.size
      go_wp2_with fail
      go_loopw [3, 6, 7] (fun sv bv kv wr => ∃ (b : Nat) (d : List Nat), b ≤ 256 ∧ bv = .int .i64 (b : Int) ∧ sv = .string (strOf ([91] ++ d)) ∧ d ++ prA x b = prA x 0 ∧ d.length ≤ 5 * b ∧ Below w5.heap.size w5 wr) (fun _ b _ _ => 256 - (intOf b).toNat)
      case atStart => exact ⟨0, [], by omega, rfl, rfl, rfl, by simp, Below.refl _ _⟩
      case round =>
        obtain ⟨b, d, hb, rfl, rfl, hd, hdl, hbl⟩ := hrel
        have HD := hid hd; have HBL := hid hbl
        have HCR := hid (fun j (hj : j ≤ 256) => (World.cell?_of_block (hbl.block g hg)).trans (HC.out j hj))
        obtain ⟨SS, hSS⟩ : ∃ SS, strOf ([91] ++ d) = SS := ⟨_, rfl⟩
        have hsz : SS.size ≤ 1400 := by rw [← hSS, strOf_size]; simp only [List.length_append, List.length_cons, List.length_nil]; omega
        have HSS := hid hSS; have HDL := hid hdl
        rw [hSS]
        clear hd hbl hdl hSS
        by_cases hlt : b < 256
        · obtain ⟨wo, rfl⟩ : ∃ wo : World, wo = wr := ⟨_, rfl⟩
          have HST := hid (prA_step x b hlt)
          go_wp2_with fail
          go_loopw [7] (fun kv wr2 => ∃ (k : Nat), b ≤ k ∧ k ≤ 256 ∧ kv = .int .i64 (k : Int) ∧ runEnd x k = runEnd x b ∧ wr2 = wo) (fun k _ => 256 - (intOf k).toNat)
          case atStart => exact ⟨b, by omega, by omega, rfl, rfl, rfl⟩
          case round =>
            obtain ⟨k, hk1, hk2, rfl, hre, rfl⟩ := hrel
            have HRE := hid hre
            have ck := HCR.out k hk2
            clear hre
            cases hf : flagR x k
            · rw [hf] at ck
              have HK : Hid (runEnd x b = k) := by rw [Hid, ← HRE.out]; exact flagR_stop x k hf
              clear hf HRE
              rw [HK.out] at HST
              by_cases h2 : 2 < k - b
              · have h2i : (2 : Int) < (k : Int) - (b : Int) := by omega
                obtain ⟨k1, hk1'⟩ : ∃ k1, k - 1 = k1 := ⟨_, rfl⟩
                have hki : ((k : Int) - 1) = (k1 : Int) := by omega
                have hk256 : k1 < 256 := by omega
                have hkk : k1 + 1 = k := by omega
                rw [hk1'] at HST
                have C1 := hid (fun W => signR_any b hlt W)
                have C2 := hid (fun W => signR_any k1 hk256 W)
                have HD2 : Hid ((d ++ (signM b ++ ([45] ++ signM k1))) ++ prA x k = prA x 0) := by rw [Hid, ← HD.out, HST.out, if_pos h2]; simp only [List.append_assoc]
                have HL2 : Hid ((d ++ (signM b ++ ([45] ++ signM k1))).length ≤ 5 * k) := by
                  have := signM_le b; have := signM_le k1; have := HDL.out
                  rw [Hid]; simp only [List.length_append, List.length_cons, List.length_nil]; omega
                have HS2 : Hid (strOf ([91] ++ (d ++ (signM b ++ ([45] ++ signM k1)))) = ((SS ++ strOf (signM b)) ++ (⟨#[45]⟩ : ByteArray)) ++ strOf (signM k1)) := by
                  rw [Hid, ← List.append_assoc, strOf_append, strOf_append (signM b), strOf_append [45], HSS.out, ByteArray.append_assoc, ByteArray.append_assoc]; rfl
                have z1 : (strOf (signM b)).size ≤ 2 := by rw [strOf_size]; exact signM_le b
                have z2 : (strOf (signM k1)).size ≤ 2 := by rw [strOf_size]; exact signM_le k1
                obtain ⟨S1, hS1⟩ : ∃ S, strOf (signM b) = S := ⟨_, rfl⟩
                obtain ⟨S2, hS2⟩ : ∃ S, strOf (signM k1) = S := ⟨_, rfl⟩
                rw [hS1] at C1 HS2 z1
                rw [hS2] at C2 HS2 z2
                have HKK := hid hkk
                clear hS1 hS2 HST HSS HD HDL hk1' hkk
                go_wp2_with fail
                refine (C1.out _).mono ?_
                rintro e w6 ⟨rfl, hb6⟩
                have HB6 := hid (HBL.out.trans (hb6.mono HBL.out.size))
                clear hb6 C1
                go_wp2_with fail
                refine (C2.out _).mono ?_
                rintro e w7 ⟨rfl, hb7⟩
                have HB7 := hid (HB6.out.trans (hb7.mono HB6.out.size))
                clear hb7 C2
                go_wp2_with fail
                go_roundw
                case rel => exact ⟨k, _, hk2, by have := HKK.out; first | go_num | (congr 1; omega), by rw [HS2.out], HD2.out, HL2.out, HB7.out⟩
                case measure => have := HKK.out; simp [intOf]; omega
              · have h2i : ¬ (2 : Int) < (k : Int) - (b : Int) := by omega
                by_cases h3 : b < k
                · have C1 := hid (fun W => signR_any b hlt W)
                  have HD2 : Hid ((d ++ signM b) ++ prA x (b + 1) = prA x 0) := by rw [Hid, ← HD.out, HST.out, if_neg h2, if_pos h3, List.append_assoc]
                  have HL2 : Hid ((d ++ signM b).length ≤ 5 * (b + 1)) := by
                    have := signM_le b; have := HDL.out
                    rw [Hid]; simp only [List.length_append]; omega
                  have HS2 : Hid (strOf ([91] ++ (d ++ signM b)) = SS ++ strOf (signM b)) := by
                    rw [Hid, ← List.append_assoc, strOf_append, HSS.out]
                  have z1 : (strOf (signM b)).size ≤ 2 := by rw [strOf_size]; exact signM_le b
                  obtain ⟨S1, hS1⟩ : ∃ S, strOf (signM b) = S := ⟨_, rfl⟩
                  rw [hS1] at C1 HS2 z1
                  clear hS1 HST HSS HD HDL
                  go_wp2_with fail
                  refine (C1.out _).mono ?_
                  rintro e w6 ⟨rfl, hb6⟩
                  have HB6 := hid (HBL.out.trans (hb6.mono HBL.out.size))
                  clear hb6 C1
                  go_wp2_with fail
                  go_roundw
                  case rel => exact ⟨b + 1, _, by omega, by go_num, by rw [HS2.out], HD2.out, HL2.out, HB6.out⟩
                  case measure => simp [intOf]; omega
                · have HD2 : Hid (d ++ prA x (b + 1) = prA x 0) := by rw [Hid, ← HD.out, HST.out, if_neg h2, if_neg h3]
                  have HL2 : Hid (d.length ≤ 5 * (b + 1)) := by have := HDL.out; rw [Hid]; omega
                  clear HST
                  go_wp2_with fail
                  go_roundw
                  case rel => exact ⟨b + 1, d, by omega, by go_num, by rw [HSS.out], HD2.out, HL2.out, HBL.out⟩
                  case measure => simp [intOf]; omega
            · rw [hf] at ck
              obtain ⟨hk3, hk4⟩ := flagR_runs x k hf
              have HK : Hid (runEnd x (k + 1) = runEnd x b) := by rw [Hid, ← HRE.out, hk4]
              clear hf HRE hk4
              go_wp2_with fail
              go_roundw
              case rel => exact ⟨k + 1, by omega, by omega, by go_num, HK.out, by trivial⟩
              case measure => simp [intOf]; omega
        · obtain rfl : b = 256 := by omega
          go_wp2_with fail
          go_ret
          refine ⟨?_, HBL5.out.trans (HBL.out.mono hs5)⟩
          have hd2 := HD.out
          rw [prA_end x 256 (by omega), List.append_nil] at hd2
          rw [HTT.out, ← hd2, strOf_append _ [93], HSS.out]; rfl
end Go.Proofs.Ytdhoedohchbagaa
