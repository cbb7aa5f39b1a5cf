/- Walks: the reference's sign. Walks: the reference's Print. Walks: glob.Same; the reference's Print (of patterns). -/
import Derived.Test.YtgiffdgicmdmgaaMe
import Derived.Test.YtgiffdgicmdmgaaMc
import Derived.Test.YtgiffdgicmdmgaaMj
import Derived.Test.YtgiffdgicmdmgaaMh
namespace Go.Proofs.Ytgiffdgicmdmgaa
open Go.RowKit

theorem one_toList (u : UInt8) : (⟨#[u]⟩ : ByteArray).toList = [u] := by
  simp [ByteArray.toList, ByteArray.toList.loop, ByteArray.size, ByteArray.get!]

set_option maxRecDepth 20000 in
set_option maxHeartbeats 1000000 in
theorem signR_any (c : Nat) (hc : c < 256) (w : World) :
    Calls Try.prog 96 #[.int .i64 (c : Int)] w fun e w' => e = .returned (.string (strOf (signM c))) ∧ Below w.heap.size w w' := by
  have HO := World.ownsRow_lit (base := w.heap.size) (e := 5) (size := 1) w #[.int .u8 (c : Int)] 1 (Nat.le_refl _) (by simp [maxLen]) (by simp)
  have hcv := conv_own (P := Try.prog) (src := 85) (dst := 9) [UInt8.ofNat c] Try.underlying85 Try.underlying5 Try.underlying9 (by simpa [UInt8.toNat_ofNat_of_lt' hc, Nat.mod_eq_of_lt hc] using HO)
  have HB : Hid (Below w.heap.size w (w.alloc (.cells #[.int .u8 (c : Int)] 5))) := (Below.refl w.heap.size w).alloc (Nat.le_refl _) _
  clear HO
  obtain ⟨S, hS⟩ : ∃ S, (⟨[UInt8.ofNat c].toArray⟩ : ByteArray) = S := ⟨_, rfl⟩
  rw [hS] at hcv
  have hl : S.toList = [UInt8.ofNat c] := by rw [← hS]; exact one_toList _
  have HS : ∀ d : Nat, d < 256 → ((S.toList = [UInt8.ofNat d]) ↔ c = d) := by
    intro d hd
    rw [hl]
    constructor
    · intro h
      injection h with h _
      have := congrArg UInt8.toNat h
      rwa [UInt8.toNat_ofNat_of_lt' hc, UInt8.toNat_ofNat_of_lt' hd] at this
    · rintro rfl; rfl
  have HST : Hid (strOf [c] = S) := by rw [Hid, ← hS]; rfl
  have HSQ : Hid (strOf [37, c] = (⟨#[37]⟩ : ByteArray) ++ S) := by rw [Hid, ← hS]; rfl
  have k37 := HS 37 (by omega)
  have k93 := HS 93 (by omega)
  have k45 := HS 45 (by omega)
  have k94 := HS 94 (by omega)
  rw [show UInt8.ofNat 37 = 37 from rfl] at k37
  rw [show UInt8.ofNat 93 = 93 from rfl] at k93
  rw [show UInt8.ofNat 45 = 45 from rfl] at k45
  rw [show UInt8.ofNat 94 = 94 from rfl] at k94
  have hz : S.size = 1 := by rw [← hS]; rfl
  clear HS hS hl
  by_cases h0 : c = 37
  · have hr : Hid (signM c = [37, c]) := by rw [Hid, signM, if_pos (by omega)]
    have z37 : S.toList = [37] := k37.2 h0
    clear k37 k93 k45 k94 h0
    go_enter Try.func96, Try.ntmps96
    go_wp2_with fail
    go_ret
    exact ⟨by rw [hr.out, HSQ.out]; rfl, HB.out⟩
  · skip
    by_cases h1 : c = 93
    · have hr : Hid (signM c = [37, c]) := by rw [Hid, signM, if_pos (by omega)]
      have z37 : ¬ S.toList = [37] := fun hh => h0 (k37.1 hh)
      have y37 : (S.toList == [37]) = false := by rw [beq_eq_false_iff_ne]; exact z37
      have z93 : S.toList = [93] := k93.2 h1
      clear k37 k93 k45 k94 h0 h1
      go_enter Try.func96, Try.ntmps96
      go_wp2_with fail
      go_ret
      exact ⟨by rw [hr.out, HSQ.out]; rfl, HB.out⟩
    · skip
      by_cases h2 : c = 45
      · have hr : Hid (signM c = [37, c]) := by rw [Hid, signM, if_pos (by omega)]
        have z37 : ¬ S.toList = [37] := fun hh => h0 (k37.1 hh)
        have y37 : (S.toList == [37]) = false := by rw [beq_eq_false_iff_ne]; exact z37
        have z93 : ¬ S.toList = [93] := fun hh => h1 (k93.1 hh)
        have y93 : (S.toList == [93]) = false := by rw [beq_eq_false_iff_ne]; exact z93
        have z45 : S.toList = [45] := k45.2 h2
        clear k37 k93 k45 k94 h0 h1 h2
        go_enter Try.func96, Try.ntmps96
        go_wp2_with fail
        go_ret
        exact ⟨by rw [hr.out, HSQ.out]; rfl, HB.out⟩
      · skip
        by_cases h3 : c = 94
        · have hr : Hid (signM c = [37, c]) := by rw [Hid, signM, if_pos (by omega)]
          have z37 : ¬ S.toList = [37] := fun hh => h0 (k37.1 hh)
          have y37 : (S.toList == [37]) = false := by rw [beq_eq_false_iff_ne]; exact z37
          have z93 : ¬ S.toList = [93] := fun hh => h1 (k93.1 hh)
          have y93 : (S.toList == [93]) = false := by rw [beq_eq_false_iff_ne]; exact z93
          have z45 : ¬ S.toList = [45] := fun hh => h2 (k45.1 hh)
          have y45 : (S.toList == [45]) = false := by rw [beq_eq_false_iff_ne]; exact z45
          have z94 : S.toList = [94] := k94.2 h3
          clear k37 k93 k45 k94 h0 h1 h2 h3
          go_enter Try.func96, Try.ntmps96
          go_wp2_with fail
          go_ret
          exact ⟨by rw [hr.out, HSQ.out]; rfl, HB.out⟩
        · skip
          have hr : Hid (signM c = [c]) := by rw [Hid, signM, if_neg (by omega)]
          have z37 : ¬ S.toList = [37] := fun hh => h0 (k37.1 hh)
          have y37 : (S.toList == [37]) = false := by rw [beq_eq_false_iff_ne]; exact z37
          have z93 : ¬ S.toList = [93] := fun hh => h1 (k93.1 hh)
          have y93 : (S.toList == [93]) = false := by rw [beq_eq_false_iff_ne]; exact z93
          have z45 : ¬ S.toList = [45] := fun hh => h2 (k45.1 hh)
          have y45 : (S.toList == [45]) = false := by rw [beq_eq_false_iff_ne]; exact z45
          have z94 : ¬ S.toList = [94] := fun hh => h3 (k94.1 hh)
          have y94 : (S.toList == [94]) = false := by rw [beq_eq_false_iff_ne]; exact z94
          clear k37 k93 k45 k94 h0 h1 h2 h3
          go_enter Try.func96, Try.ntmps96
          go_wp2_with fail
          go_ret
          exact ⟨by rw [hr.out, HST.out]; rfl, HB.out⟩
end Go.Proofs.Ytgiffdgicmdmgaa
namespace Go.Proofs.Ytgiffdgicmdmgaa
open Go.RowKit PopT

theorem strOf_append (a b : List Nat) : strOf (a ++ b) = strOf a ++ strOf b := by
  unfold strOf
  rw [List.map_append]
  apply ByteArray.ext
  simp
theorem strOf_size (a : List Nat) : (strOf a).size = a.length := by simp [strOf, ByteArray.size]
/-- The flags of a set, and one more that is false. -/
def flagR (x : BSet) (j : Nat) : Bool := decide (j < 256) && x.has j
theorem flagR_runs (x : BSet) (k : Nat) (h : flagR x k = true) : k < 256 ∧ runEnd x k = runEnd x (k + 1) := by
  unfold flagR at h
  simp at h
  exact ⟨h.1, runEnd_step x k h.1 h.2⟩
theorem flagR_stop (x : BSet) (k : Nat) (h : flagR x k = false) : runEnd x k = k := by
  refine runEnd_stop x k (fun hh => ?_)
  unfold flagR at h
  rw [decide_eq_true hh.1, hh.2] at h
  cases h
theorem flags_cells (x : BSet) (j : Nat) (h : j ≤ 256) : (boolCells (flagsM x) ++ [Value.bool false])[j]? = some (.bool (flagR x j)) := by
  by_cases hj : j < 256
  · rw [List.getElem?_append_left (by rw [boolCells_length, flagsM_length]; exact hj), boolCells, List.getElem?_map, flagsM, List.getElem?_map, List.getElem?_range hj]
    simp [flagR, hj]
  · obtain rfl : j = 256 := by omega
    rw [List.getElem?_append_right (by rw [boolCells_length, flagsM_length]; omega), boolCells_length, flagsM_length]
    simp [flagR]

set_option maxRecDepth 20000 in
set_option maxHeartbeats 4000000 in
theorem printR_any (x : BSet) (w : World) :
    Calls Try.prog 75 #[x.val] w fun e w' => e = .returned (.string (strOf (textM x))) ∧ Below w.heap.size w w' := by
  have HBY := hid (fun W => bytesR_any x W)
  have HPN : Hid (prNot x = ((bytesM x).length == 0 || decide (128 < (bytesM x).length) && decide ((bytesM x).length < 256))) := rfl
  have HT : Hid (textM x = if prNot x = true then [91, 94] ++ prA (notM x) 0 ++ [93] else [91] ++ prA x 0 ++ [93]) := rfl
  have HN := hid (fun W => notR_any x W)
  obtain ⟨T, hT⟩ : ∃ T, textM x = T := ⟨_, rfl⟩
  rw [hT] at HT ⊢
  clear hT
  obtain ⟨BS, hBS⟩ : ∃ B, (⟨(bytesM x).toArray⟩ : ByteArray) = B := ⟨_, rfl⟩
  have hl : (bytesM x).length = BS.size := by rw [← hBS]; rfl
  rw [hBS] at HBY
  rw [hl] at HPN
  have hle : BS.size ≤ 256 := by rw [← hl]; exact bytes_le x
  clear hl hBS
  obtain ⟨y, hy⟩ : ∃ y, notM x = y := ⟨_, rfl⟩
  rw [hy] at HT HN
  clear hy
  unfold BSet.val at *
  by_cases q0 : BS.size = 0
  · have e0 : ((BS.size : Int) == 0) = true := by rw [beq_iff_eq]; omega
    have hp : prNot x = true := by rw [HPN.out]; simp [q0]
    have HP := hid hp
    clear HPN q0 hp
    go_enter Try.func75, Try.ntmps75
    go_wp2_with fail
    refine (HBY.out _).mono ?_
    rintro e w1 ⟨rfl, hb1⟩
    have HX1 : Hid (Blk w1 w.heap.size 50 #[w64 x.w0, w64 x.w1, w64 x.w2, w64 x.w3]) := (Blk.new w 50 #[w64 x.w0, w64 x.w1, w64 x.w2, w64 x.w3]).below hb1 (by simp)
    have HBL1 : Hid (Below w.heap.size w w1) := ((Below.refl w.heap.size w).alloc (Nat.le_refl _) _).trans (hb1.mono (by simp))
    clear hb1 HBY
    obtain ⟨c0, c1, c2, c3, g0, g1, g2, g3⟩ := blk4 HX1.out
    go_wp2_with fail
    refine (HN.out _).mono ?_
    rintro e w2 ⟨rfl, hb2⟩
    have HX2 : Hid (Blk w2 w.heap.size 50 #[w64 x.w0, w64 x.w1, w64 x.w2, w64 x.w3]) := HX1.out.below hb2 HX1.out.lt
    have HBL2 : Hid (Below w.heap.size w w2) := HBL1.out.trans (hb2.mono HBL1.out.size)
    clear hb2 HN HX1 HBL1 c0 c1 c2 c3 g0 g1 g2 g3
    obtain ⟨c0, c1, c2, c3, g0, g1, g2, g3⟩ := blk4 HX2.out
    have HX3 := hid (blk_put4 (b0 := w64 y.w0) (b1 := w64 y.w1) (b2 := w64 y.w2) (b3 := w64 y.w3) HX2.out)
    have HBL3 := hid (below_put4 (g := w.heap.size) HBL2.out (Nat.le_refl _) (w64 y.w0) (w64 y.w1) (w64 y.w2) (w64 y.w3))
    go_upto_region 4 with fail
    obtain ⟨w3, hw3⟩ : ∃ w3, (((w2.setCell ⟨w.heap.size, 0, none⟩ (w64 y.w0)).setCell ⟨w.heap.size, 1, none⟩ (w64 y.w1)).setCell ⟨w.heap.size, 2, none⟩ (w64 y.w2)).setCell ⟨w.heap.size, 3, none⟩ (w64 y.w3) = w3 := ⟨_, rfl⟩
    rw [hw3] at HX3 HBL3 ⊢
    clear hw3 HX2 HBL2 c0 c1 c2 c3 g0 g1 g2 g3
    obtain ⟨c0, c1, c2, c3, -, -, -, -⟩ := blk4 HX3.out
    have HTT : Hid (T = [91, 94] ++ prA y 0 ++ [93]) := by rw [Hid, HT.out, if_pos HP.out]
    clear HT
    have HF := hid (fun W => flags_any y W)
    unfold BSet.val at HF
    go_wp2_with fail
    refine (HF.out _).mono ?_
    rintro e w4 ⟨A, cc, rfl, hown, hbl⟩
    have HBL4 := hid (HBL3.out.trans (hbl.mono HBL3.out.size))
    have hown' := own_base (B := w.heap.size) hown HBL3.out.size
    have hs4 : w.heap.size ≤ w4.heap.size := HBL4.out.size
    clear HF hbl hown HX3 HBL3 c0 c1 c2 c3
    go_wp2_with (at_builtin; refine wpList_append1 _ rfl _ _ 83 rfl w.heap.size 4 _ 1 1 Try.underlying83 Try.infoBool rfl (by decide) _ _ _ rfl hown' 1 [.bool false] rfl rfl rfl ?_ (by decide) hs4 ?_)
    · decide
    intro A2 d2 w5 hown5 hg5
    have HBL5 := hid (below_grown HBL4.out hown' hg5 (by omega) (by omega))
    obtain ⟨g, off, rfl, hg, hcc⟩ := (Rd_of_own hown5).at (by simp)
    have HC := hid (fun j (hj : j ≤ 256) => hcc j _ (flags_cells y j hj))
    clear hcc hown5 hg5 hown' HBL4 hs4
    have hs5 : w.heap.size ≤ w5.heap.size := HBL5.out.size
    go_wp2_with fail
    go_loopw [3, 6, 7] (fun sv bv kv wr => ∃ (b : Nat) (d : List Nat), b ≤ 256 ∧ bv = .int .i64 (b : Int) ∧ sv = .string (strOf ([91, 94] ++ d)) ∧ d ++ prA y b = prA y 0 ∧ d.length ≤ 5 * b ∧ Below w5.heap.size w5 wr) (fun _ b _ _ => 256 - (intOf b).toNat)
    case atStart => exact ⟨0, [], by omega, rfl, rfl, rfl, by simp, Below.refl _ _⟩
    case round =>
      obtain ⟨b, d, hb, rfl, rfl, hd, hdl, hbl⟩ := hrel
      have HD := hid hd; have HBL := hid hbl
      have HCR := hid (fun j (hj : j ≤ 256) => (World.cell?_of_block (hbl.block g hg)).trans (HC.out j hj))
      obtain ⟨SS, hSS⟩ : ∃ SS, strOf ([91, 94] ++ d) = SS := ⟨_, rfl⟩
      have hsz : SS.size ≤ 1400 := by rw [← hSS, strOf_size]; simp only [List.length_append, List.length_cons, List.length_nil]; omega
      have HSS := hid hSS; have HDL := hid hdl
      rw [hSS]
      clear hd hbl hdl hSS
      by_cases hlt : b < 256
      · obtain ⟨wo, rfl⟩ : ∃ wo : World, wo = wr := ⟨_, rfl⟩
        have HST := hid (prA_step y b hlt)
        go_wp2_with fail
        go_loopw [7] (fun kv wr2 => ∃ (k : Nat), b ≤ k ∧ k ≤ 256 ∧ kv = .int .i64 (k : Int) ∧ runEnd y k = runEnd y b ∧ wr2 = wo) (fun k _ => 256 - (intOf k).toNat)
        case atStart => exact ⟨b, by omega, by omega, rfl, rfl, rfl⟩
        case round =>
          obtain ⟨k, hk1, hk2, rfl, hre, rfl⟩ := hrel
          have HRE := hid hre
          have ck := HCR.out k hk2
          clear hre
          cases hf : flagR y k
          · rw [hf] at ck
            have HK : Hid (runEnd y b = k) := by rw [Hid, ← HRE.out]; exact flagR_stop y k hf
            clear hf HRE
            rw [HK.out] at HST
            by_cases h2 : 2 < k - b
            · have h2i : (2 : Int) < (k : Int) - (b : Int) := by omega
              obtain ⟨k1, hk1'⟩ : ∃ k1, k - 1 = k1 := ⟨_, rfl⟩
              have hki : ((k : Int) - 1) = (k1 : Int) := by omega
              have hk256 : k1 < 256 := by omega
              have hkk : k1 + 1 = k := by omega
              rw [hk1'] at HST
              have C1 := hid (fun W => signR_any b hlt W)
              have C2 := hid (fun W => signR_any k1 hk256 W)
              have HD2 : Hid ((d ++ (signM b ++ ([45] ++ signM k1))) ++ prA y k = prA y 0) := by rw [Hid, ← HD.out, HST.out, if_pos h2]; simp only [List.append_assoc]
              have HL2 : Hid ((d ++ (signM b ++ ([45] ++ signM k1))).length ≤ 5 * k) := by
                have := signM_le b; have := signM_le k1; have := HDL.out
                rw [Hid]; simp only [List.length_append, List.length_cons, List.length_nil]; omega
              have HS2 : Hid (strOf ([91, 94] ++ (d ++ (signM b ++ ([45] ++ signM k1)))) = ((SS ++ strOf (signM b)) ++ (⟨#[45]⟩ : ByteArray)) ++ strOf (signM k1)) := by
                rw [Hid, ← List.append_assoc, strOf_append, strOf_append (signM b), strOf_append [45], HSS.out, ByteArray.append_assoc, ByteArray.append_assoc]; rfl
              have z1 : (strOf (signM b)).size ≤ 2 := by rw [strOf_size]; exact signM_le b
              have z2 : (strOf (signM k1)).size ≤ 2 := by rw [strOf_size]; exact signM_le k1
              obtain ⟨S1, hS1⟩ : ∃ S, strOf (signM b) = S := ⟨_, rfl⟩
              obtain ⟨S2, hS2⟩ : ∃ S, strOf (signM k1) = S := ⟨_, rfl⟩
              rw [hS1] at C1 HS2 z1
              rw [hS2] at C2 HS2 z2
              have HKK := hid hkk
              clear hS1 hS2 HST HSS HD HDL hk1' hkk
              go_wp2_with fail
              refine (C1.out _).mono ?_
              rintro e w6 ⟨rfl, hb6⟩
              have HB6 := hid (HBL.out.trans (hb6.mono HBL.out.size))
              clear hb6 C1
              go_wp2_with fail
              refine (C2.out _).mono ?_
              rintro e w7 ⟨rfl, hb7⟩
              have HB7 := hid (HB6.out.trans (hb7.mono HB6.out.size))
              clear hb7 C2
              go_wp2_with fail
              go_roundw
              case rel => exact ⟨k, _, hk2, by have := HKK.out; first | go_num | (congr 1; omega), by rw [HS2.out], HD2.out, HL2.out, HB7.out⟩
              case measure => have := HKK.out; simp [intOf]; omega
            · have h2i : ¬ (2 : Int) < (k : Int) - (b : Int) := by omega
              by_cases h3 : b < k
              · have C1 := hid (fun W => signR_any b hlt W)
                have HD2 : Hid ((d ++ signM b) ++ prA y (b + 1) = prA y 0) := by rw [Hid, ← HD.out, HST.out, if_neg h2, if_pos h3, List.append_assoc]
                have HL2 : Hid ((d ++ signM b).length ≤ 5 * (b + 1)) := by
                  have := signM_le b; have := HDL.out
                  rw [Hid]; simp only [List.length_append]; omega
                have HS2 : Hid (strOf ([91, 94] ++ (d ++ signM b)) = SS ++ strOf (signM b)) := by
                  rw [Hid, ← List.append_assoc, strOf_append, HSS.out]
                have z1 : (strOf (signM b)).size ≤ 2 := by rw [strOf_size]; exact signM_le b
                obtain ⟨S1, hS1⟩ : ∃ S, strOf (signM b) = S := ⟨_, rfl⟩
                rw [hS1] at C1 HS2 z1
                clear hS1 HST HSS HD HDL
                go_wp2_with fail
                refine (C1.out _).mono ?_
                rintro e w6 ⟨rfl, hb6⟩
                have HB6 := hid (HBL.out.trans (hb6.mono HBL.out.size))
                clear hb6 C1
                go_wp2_with fail
                go_roundw
                case rel => exact ⟨b + 1, _, by omega, by go_num, by rw [HS2.out], HD2.out, HL2.out, HB6.out⟩
                case measure => simp [intOf]; omega
              · have HD2 : Hid (d ++ prA y (b + 1) = prA y 0) := by rw [Hid, ← HD.out, HST.out, if_neg h2, if_neg h3]
                have HL2 : Hid (d.length ≤ 5 * (b + 1)) := by have := HDL.out; rw [Hid]; omega
                clear HST
                go_wp2_with fail
                go_roundw
                case rel => exact ⟨b + 1, d, by omega, by go_num, by rw [HSS.out], HD2.out, HL2.out, HBL.out⟩
                case measure => simp [intOf]; omega
          · rw [hf] at ck
            obtain ⟨hk3, hk4⟩ := flagR_runs y k hf
            have HK : Hid (runEnd y (k + 1) = runEnd y b) := by rw [Hid, ← HRE.out, hk4]
            clear hf HRE hk4
            go_wp2_with fail
            go_roundw
            case rel => exact ⟨k + 1, by omega, by omega, by go_num, HK.out, by trivial⟩
            case measure => simp [intOf]; omega
      · obtain rfl : b = 256 := by omega
        go_wp2_with fail
        go_ret
        refine ⟨?_, HBL5.out.trans (HBL.out.mono hs5)⟩
        have hd2 := HD.out
        rw [prA_end y 256 (by omega), List.append_nil] at hd2
        rw [HTT.out, ← hd2, strOf_append _ [93], HSS.out]; rfl
  · have e0 : ((BS.size : Int) == 0) = false := by rw [beq_eq_false_iff_ne]; omega
    by_cases q1 : 128 < BS.size
    · by_cases q2 : BS.size < 256
      · have hp : prNot x = true := by rw [HPN.out]; simp [q1, q2]
        have HP := hid hp
        clear HPN q0 hp
        go_enter Try.func75, Try.ntmps75
        go_wp2_with fail
        refine (HBY.out _).mono ?_
        rintro e w1 ⟨rfl, hb1⟩
        have HX1 : Hid (Blk w1 w.heap.size 50 #[w64 x.w0, w64 x.w1, w64 x.w2, w64 x.w3]) := (Blk.new w 50 #[w64 x.w0, w64 x.w1, w64 x.w2, w64 x.w3]).below hb1 (by simp)
        have HBL1 : Hid (Below w.heap.size w w1) := ((Below.refl w.heap.size w).alloc (Nat.le_refl _) _).trans (hb1.mono (by simp))
        clear hb1 HBY
        obtain ⟨c0, c1, c2, c3, g0, g1, g2, g3⟩ := blk4 HX1.out
        go_wp2_with fail
        refine (HN.out _).mono ?_
        rintro e w2 ⟨rfl, hb2⟩
        have HX2 : Hid (Blk w2 w.heap.size 50 #[w64 x.w0, w64 x.w1, w64 x.w2, w64 x.w3]) := HX1.out.below hb2 HX1.out.lt
        have HBL2 : Hid (Below w.heap.size w w2) := HBL1.out.trans (hb2.mono HBL1.out.size)
        clear hb2 HN HX1 HBL1 c0 c1 c2 c3 g0 g1 g2 g3
        obtain ⟨c0, c1, c2, c3, g0, g1, g2, g3⟩ := blk4 HX2.out
        have HX3 := hid (blk_put4 (b0 := w64 y.w0) (b1 := w64 y.w1) (b2 := w64 y.w2) (b3 := w64 y.w3) HX2.out)
        have HBL3 := hid (below_put4 (g := w.heap.size) HBL2.out (Nat.le_refl _) (w64 y.w0) (w64 y.w1) (w64 y.w2) (w64 y.w3))
        go_upto_region 4 with fail
        obtain ⟨w3, hw3⟩ : ∃ w3, (((w2.setCell ⟨w.heap.size, 0, none⟩ (w64 y.w0)).setCell ⟨w.heap.size, 1, none⟩ (w64 y.w1)).setCell ⟨w.heap.size, 2, none⟩ (w64 y.w2)).setCell ⟨w.heap.size, 3, none⟩ (w64 y.w3) = w3 := ⟨_, rfl⟩
        rw [hw3] at HX3 HBL3 ⊢
        clear hw3 HX2 HBL2 c0 c1 c2 c3 g0 g1 g2 g3
        obtain ⟨c0, c1, c2, c3, -, -, -, -⟩ := blk4 HX3.out
        have HTT : Hid (T = [91, 94] ++ prA y 0 ++ [93]) := by rw [Hid, HT.out, if_pos HP.out]
        clear HT
        have HF := hid (fun W => flags_any y W)
        unfold BSet.val at HF
        go_wp2_with fail
        refine (HF.out _).mono ?_
        rintro e w4 ⟨A, cc, rfl, hown, hbl⟩
        have HBL4 := hid (HBL3.out.trans (hbl.mono HBL3.out.size))
        have hown' := own_base (B := w.heap.size) hown HBL3.out.size
        have hs4 : w.heap.size ≤ w4.heap.size := HBL4.out.size
        clear HF hbl hown HX3 HBL3 c0 c1 c2 c3
        go_wp2_with (at_builtin; refine wpList_append1 _ rfl _ _ 83 rfl w.heap.size 4 _ 1 1 Try.underlying83 Try.infoBool rfl (by decide) _ _ _ rfl hown' 1 [.bool false] rfl rfl rfl ?_ (by decide) hs4 ?_)
        · decide
        intro A2 d2 w5 hown5 hg5
        have HBL5 := hid (below_grown HBL4.out hown' hg5 (by omega) (by omega))
        obtain ⟨g, off, rfl, hg, hcc⟩ := (Rd_of_own hown5).at (by simp)
        have HC := hid (fun j (hj : j ≤ 256) => hcc j _ (flags_cells y j hj))
        clear hcc hown5 hg5 hown' HBL4 hs4
        have hs5 : w.heap.size ≤ w5.heap.size := HBL5.out.size
        go_wp2_with fail
        go_loopw [3, 6, 7] (fun sv bv kv wr => ∃ (b : Nat) (d : List Nat), b ≤ 256 ∧ bv = .int .i64 (b : Int) ∧ sv = .string (strOf ([91, 94] ++ d)) ∧ d ++ prA y b = prA y 0 ∧ d.length ≤ 5 * b ∧ Below w5.heap.size w5 wr) (fun _ b _ _ => 256 - (intOf b).toNat)
        case atStart => exact ⟨0, [], by omega, rfl, rfl, rfl, by simp, Below.refl _ _⟩
        case round =>
          obtain ⟨b, d, hb, rfl, rfl, hd, hdl, hbl⟩ := hrel
          have HD := hid hd; have HBL := hid hbl
          have HCR := hid (fun j (hj : j ≤ 256) => (World.cell?_of_block (hbl.block g hg)).trans (HC.out j hj))
          obtain ⟨SS, hSS⟩ : ∃ SS, strOf ([91, 94] ++ d) = SS := ⟨_, rfl⟩
          have hsz : SS.size ≤ 1400 := by rw [← hSS, strOf_size]; simp only [List.length_append, List.length_cons, List.length_nil]; omega
          have HSS := hid hSS; have HDL := hid hdl
          rw [hSS]
          clear hd hbl hdl hSS
          by_cases hlt : b < 256
          · obtain ⟨wo, rfl⟩ : ∃ wo : World, wo = wr := ⟨_, rfl⟩
            have HST := hid (prA_step y b hlt)
            go_wp2_with fail
            go_loopw [7] (fun kv wr2 => ∃ (k : Nat), b ≤ k ∧ k ≤ 256 ∧ kv = .int .i64 (k : Int) ∧ runEnd y k = runEnd y b ∧ wr2 = wo) (fun k _ => 256 - (intOf k).toNat)
            case atStart => exact ⟨b, by omega, by omega, rfl, rfl, rfl⟩
            case round =>
              obtain ⟨k, hk1, hk2, rfl, hre, rfl⟩ := hrel
              have HRE := hid hre
              have ck := HCR.out k hk2
              clear hre
              cases hf : flagR y k
              · rw [hf] at ck
                have HK : Hid (runEnd y b = k) := by rw [Hid, ← HRE.out]; exact flagR_stop y k hf
                clear hf HRE
                rw [HK.out] at HST
                by_cases h2 : 2 < k - b
                · have h2i : (2 : Int) < (k : Int) - (b : Int) := by omega
                  obtain ⟨k1, hk1'⟩ : ∃ k1, k - 1 = k1 := ⟨_, rfl⟩
                  have hki : ((k : Int) - 1) = (k1 : Int) := by omega
                  have hk256 : k1 < 256 := by omega
                  have hkk : k1 + 1 = k := by omega
                  rw [hk1'] at HST
                  have C1 := hid (fun W => signR_any b hlt W)
                  have C2 := hid (fun W => signR_any k1 hk256 W)
                  have HD2 : Hid ((d ++ (signM b ++ ([45] ++ signM k1))) ++ prA y k = prA y 0) := by rw [Hid, ← HD.out, HST.out, if_pos h2]; simp only [List.append_assoc]
                  have HL2 : Hid ((d ++ (signM b ++ ([45] ++ signM k1))).length ≤ 5 * k) := by
                    have := signM_le b; have := signM_le k1; have := HDL.out
                    rw [Hid]; simp only [List.length_append, List.length_cons, List.length_nil]; omega
                  have HS2 : Hid (strOf ([91, 94] ++ (d ++ (signM b ++ ([45] ++ signM k1)))) = ((SS ++ strOf (signM b)) ++ (⟨#[45]⟩ : ByteArray)) ++ strOf (signM k1)) := by
                    rw [Hid, ← List.append_assoc, strOf_append, strOf_append (signM b), strOf_append [45], HSS.out, ByteArray.append_assoc, ByteArray.append_assoc]; rfl
                  have z1 : (strOf (signM b)).size ≤ 2 := by rw [strOf_size]; exact signM_le b
                  have z2 : (strOf (signM k1)).size ≤ 2 := by rw [strOf_size]; exact signM_le k1
                  obtain ⟨S1, hS1⟩ : ∃ S, strOf (signM b) = S := ⟨_, rfl⟩
                  obtain ⟨S2, hS2⟩ : ∃ S, strOf (signM k1) = S := ⟨_, rfl⟩
                  rw [hS1] at C1 HS2 z1
                  rw [hS2] at C2 HS2 z2
                  have HKK := hid hkk
                  clear hS1 hS2 HST HSS HD HDL hk1' hkk
                  go_wp2_with fail
                  refine (C1.out _).mono ?_
                  rintro e w6 ⟨rfl, hb6⟩
                  have HB6 := hid (HBL.out.trans (hb6.mono HBL.out.size))
                  clear hb6 C1
                  go_wp2_with fail
                  refine (C2.out _).mono ?_
                  rintro e w7 ⟨rfl, hb7⟩
                  have HB7 := hid (HB6.out.trans (hb7.mono HB6.out.size))
                  clear hb7 C2
                  go_wp2_with fail
                  go_roundw
                  case rel => exact ⟨k, _, hk2, by have := HKK.out; first | go_num | (congr 1; omega), by rw [HS2.out], HD2.out, HL2.out, HB7.out⟩
                  case measure => have := HKK.out; simp [intOf]; omega
                · have h2i : ¬ (2 : Int) < (k : Int) - (b : Int) := by omega
                  by_cases h3 : b < k
                  · have C1 := hid (fun W => signR_any b hlt W)
                    have HD2 : Hid ((d ++ signM b) ++ prA y (b + 1) = prA y 0) := by rw [Hid, ← HD.out, HST.out, if_neg h2, if_pos h3, List.append_assoc]
                    have HL2 : Hid ((d ++ signM b).length ≤ 5 * (b + 1)) := by
                      have := signM_le b; have := HDL.out
                      rw [Hid]; simp only [List.length_append]; omega
                    have HS2 : Hid (strOf ([91, 94] ++ (d ++ signM b)) = SS ++ strOf (signM b)) := by
                      rw [Hid, ← List.append_assoc, strOf_append, HSS.out]
                    have z1 : (strOf (signM b)).size ≤ 2 := by rw [strOf_size]; exact signM_le b
                    obtain ⟨S1, hS1⟩ : ∃ S, strOf (signM b) = S := ⟨_, rfl⟩
                    rw [hS1] at C1 HS2 z1
                    clear hS1 HST HSS HD HDL
                    go_wp2_with fail
                    refine (C1.out _).mono ?_
                    rintro e w6 ⟨rfl, hb6⟩
                    have HB6 := hid (HBL.out.trans (hb6.mono HBL.out.size))
                    clear hb6 C1
                    go_wp2_with fail
                    go_roundw
                    case rel => exact ⟨b + 1, _, by omega, by go_num, by rw [HS2.out], HD2.out, HL2.out, HB6.out⟩
                    case measure => simp [intOf]; omega
                  · have HD2 : Hid (d ++ prA y (b + 1) = prA y 0) := by rw [Hid, ← HD.out, HST.out, if_neg h2, if_neg h3]
                    have HL2 : Hid (d.length ≤ 5 * (b + 1)) := by have := HDL.out; rw [Hid]; omega
                    clear HST
                    go_wp2_with fail
                    go_roundw
                    case rel => exact ⟨b + 1, d, by omega, by go_num, by rw [HSS.out], HD2.out, HL2.out, HBL.out⟩
                    case measure => simp [intOf]; omega
              · rw [hf] at ck
                obtain ⟨hk3, hk4⟩ := flagR_runs y k hf
                have HK : Hid (runEnd y (k + 1) = runEnd y b) := by rw [Hid, ← HRE.out, hk4]
                clear hf HRE hk4
                go_wp2_with fail
                go_roundw
                case rel => exact ⟨k + 1, by omega, by omega, by go_num, HK.out, by trivial⟩
                case measure => simp [intOf]; omega
          · obtain rfl : b = 256 := by omega
            go_wp2_with fail
            go_ret
            refine ⟨?_, HBL5.out.trans (HBL.out.mono hs5)⟩
            have hd2 := HD.out
            rw [prA_end y 256 (by omega), List.append_nil] at hd2
            rw [HTT.out, ← hd2, strOf_append _ [93], HSS.out]; rfl
      · have hp : ¬ prNot x = true := by rw [HPN.out]; simp [q0, q2]
        have HP := hid hp
        have q3 : 256 ≤ BS.size := by omega
        clear HPN q0 hp
        go_enter Try.func75, Try.ntmps75
        go_wp2_with fail
        refine (HBY.out _).mono ?_
        rintro e w1 ⟨rfl, hb1⟩
        have HX1 : Hid (Blk w1 w.heap.size 50 #[w64 x.w0, w64 x.w1, w64 x.w2, w64 x.w3]) := (Blk.new w 50 #[w64 x.w0, w64 x.w1, w64 x.w2, w64 x.w3]).below hb1 (by simp)
        have HBL1 : Hid (Below w.heap.size w w1) := ((Below.refl w.heap.size w).alloc (Nat.le_refl _) _).trans (hb1.mono (by simp))
        clear hb1 HBY
        obtain ⟨c0, c1, c2, c3, g0, g1, g2, g3⟩ := blk4 HX1.out
        have HTT : Hid (T = [91] ++ prA x 0 ++ [93]) := by rw [Hid, HT.out, if_neg HP.out]
        clear HT
        have HF := hid (fun W => flags_any x W)
        unfold BSet.val at HF
        go_wp2_with fail
        refine (HF.out _).mono ?_
        rintro e w4 ⟨A, cc, rfl, hown, hbl⟩
        have HBL4 := hid (HBL1.out.trans (hbl.mono HBL1.out.size))
        have hown' := own_base (B := w.heap.size) hown HBL1.out.size
        have hs4 : w.heap.size ≤ w4.heap.size := HBL4.out.size
        clear HF hbl hown HX1 HBL1 c0 c1 c2 c3
        go_wp2_with (at_builtin; refine wpList_append1 _ rfl _ _ 83 rfl w.heap.size 4 _ 1 1 Try.underlying83 Try.infoBool rfl (by decide) _ _ _ rfl hown' 1 [.bool false] rfl rfl rfl ?_ (by decide) hs4 ?_)
        · decide
        intro A2 d2 w5 hown5 hg5
        have HBL5 := hid (below_grown HBL4.out hown' hg5 (by omega) (by omega))
        obtain ⟨g, off, rfl, hg, hcc⟩ := (Rd_of_own hown5).at (by simp)
        have HC := hid (fun j (hj : j ≤ 256) => hcc j _ (flags_cells x j hj))
        clear hcc hown5 hg5 hown' HBL4 hs4
        have hs5 : w.heap.size ≤ w5.heap.size := HBL5.out.size
        go_wp2_with fail
        go_loopw [3, 6, 7] (fun sv bv kv wr => ∃ (b : Nat) (d : List Nat), b ≤ 256 ∧ bv = .int .i64 (b : Int) ∧ sv = .string (strOf ([91] ++ d)) ∧ d ++ prA x b = prA x 0 ∧ d.length ≤ 5 * b ∧ Below w5.heap.size w5 wr) (fun _ b _ _ => 256 - (intOf b).toNat)
        case atStart => exact ⟨0, [], by omega, rfl, rfl, rfl, by simp, Below.refl _ _⟩
        case round =>
          obtain ⟨b, d, hb, rfl, rfl, hd, hdl, hbl⟩ := hrel
          have HD := hid hd; have HBL := hid hbl
          have HCR := hid (fun j (hj : j ≤ 256) => (World.cell?_of_block (hbl.block g hg)).trans (HC.out j hj))
          obtain ⟨SS, hSS⟩ : ∃ SS, strOf ([91] ++ d) = SS := ⟨_, rfl⟩
          have hsz : SS.size ≤ 1400 := by rw [← hSS, strOf_size]; simp only [List.length_append, List.length_cons, List.length_nil]; omega
          have HSS := hid hSS; have HDL := hid hdl
          rw [hSS]
          clear hd hbl hdl hSS
          by_cases hlt : b < 256
          · obtain ⟨wo, rfl⟩ : ∃ wo : World, wo = wr := ⟨_, rfl⟩
            have HST := hid (prA_step x b hlt)
            go_wp2_with fail
            go_loopw [7] (fun kv wr2 => ∃ (k : Nat), b ≤ k ∧ k ≤ 256 ∧ kv = .int .i64 (k : Int) ∧ runEnd x k = runEnd x b ∧ wr2 = wo) (fun k _ => 256 - (intOf k).toNat)
            case atStart => exact ⟨b, by omega, by omega, rfl, rfl, rfl⟩
            case round =>
              obtain ⟨k, hk1, hk2, rfl, hre, rfl⟩ := hrel
              have HRE := hid hre
              have ck := HCR.out k hk2
              clear hre
              cases hf : flagR x k
              · rw [hf] at ck
                have HK : Hid (runEnd x b = k) := by rw [Hid, ← HRE.out]; exact flagR_stop x k hf
                clear hf HRE
                rw [HK.out] at HST
                by_cases h2 : 2 < k - b
                · have h2i : (2 : Int) < (k : Int) - (b : Int) := by omega
                  obtain ⟨k1, hk1'⟩ : ∃ k1, k - 1 = k1 := ⟨_, rfl⟩
                  have hki : ((k : Int) - 1) = (k1 : Int) := by omega
                  have hk256 : k1 < 256 := by omega
                  have hkk : k1 + 1 = k := by omega
                  rw [hk1'] at HST
                  have C1 := hid (fun W => signR_any b hlt W)
                  have C2 := hid (fun W => signR_any k1 hk256 W)
                  have HD2 : Hid ((d ++ (signM b ++ ([45] ++ signM k1))) ++ prA x k = prA x 0) := by rw [Hid, ← HD.out, HST.out, if_pos h2]; simp only [List.append_assoc]
                  have HL2 : Hid ((d ++ (signM b ++ ([45] ++ signM k1))).length ≤ 5 * k) := by
                    have := signM_le b; have := signM_le k1; have := HDL.out
                    rw [Hid]; simp only [List.length_append, List.length_cons, List.length_nil]; omega
                  have HS2 : Hid (strOf ([91] ++ (d ++ (signM b ++ ([45] ++ signM k1)))) = ((SS ++ strOf (signM b)) ++ (⟨#[45]⟩ : ByteArray)) ++ strOf (signM k1)) := by
                    rw [Hid, ← List.append_assoc, strOf_append, strOf_append (signM b), strOf_append [45], HSS.out, ByteArray.append_assoc, ByteArray.append_assoc]; rfl
                  have z1 : (strOf (signM b)).size ≤ 2 := by rw [strOf_size]; exact signM_le b
                  have z2 : (strOf (signM k1)).size ≤ 2 := by rw [strOf_size]; exact signM_le k1
                  obtain ⟨S1, hS1⟩ : ∃ S, strOf (signM b) = S := ⟨_, rfl⟩
                  obtain ⟨S2, hS2⟩ : ∃ S, strOf (signM k1) = S := ⟨_, rfl⟩
                  rw [hS1] at C1 HS2 z1
                  rw [hS2] at C2 HS2 z2
                  have HKK := hid hkk
                  clear hS1 hS2 HST HSS HD HDL hk1' hkk
                  go_wp2_with fail
                  refine (C1.out _).mono ?_
                  rintro e w6 ⟨rfl, hb6⟩
                  have HB6 := hid (HBL.out.trans (hb6.mono HBL.out.size))
                  clear hb6 C1
                  go_wp2_with fail
                  refine (C2.out _).mono ?_
                  rintro e w7 ⟨rfl, hb7⟩
                  have HB7 := hid (HB6.out.trans (hb7.mono HB6.out.size))
                  clear hb7 C2
                  go_wp2_with fail
                  go_roundw
                  case rel => exact ⟨k, _, hk2, by have := HKK.out; first | go_num | (congr 1; omega), by rw [HS2.out], HD2.out, HL2.out, HB7.out⟩
                  case measure => have := HKK.out; simp [intOf]; omega
                · have h2i : ¬ (2 : Int) < (k : Int) - (b : Int) := by omega
                  by_cases h3 : b < k
                  · have C1 := hid (fun W => signR_any b hlt W)
                    have HD2 : Hid ((d ++ signM b) ++ prA x (b + 1) = prA x 0) := by rw [Hid, ← HD.out, HST.out, if_neg h2, if_pos h3, List.append_assoc]
                    have HL2 : Hid ((d ++ signM b).length ≤ 5 * (b + 1)) := by
                      have := signM_le b; have := HDL.out
                      rw [Hid]; simp only [List.length_append]; omega
                    have HS2 : Hid (strOf ([91] ++ (d ++ signM b)) = SS ++ strOf (signM b)) := by
                      rw [Hid, ← List.append_assoc, strOf_append, HSS.out]
                    have z1 : (strOf (signM b)).size ≤ 2 := by rw [strOf_size]; exact signM_le b
                    obtain ⟨S1, hS1⟩ : ∃ S, strOf (signM b) = S := ⟨_, rfl⟩
                    rw [hS1] at C1 HS2 z1
                    clear hS1 HST HSS HD HDL
                    go_wp2_with fail
                    refine (C1.out _).mono ?_
                    rintro e w6 ⟨rfl, hb6⟩
                    have HB6 := hid (HBL.out.trans (hb6.mono HBL.out.size))
                    clear hb6 C1
                    go_wp2_with fail
                    go_roundw
                    case rel => exact ⟨b + 1, _, by omega, by go_num, by rw [HS2.out], HD2.out, HL2.out, HB6.out⟩
                    case measure => simp [intOf]; omega
                  · have HD2 : Hid (d ++ prA x (b + 1) = prA x 0) := by rw [Hid, ← HD.out, HST.out, if_neg h2, if_neg h3]
                    have HL2 : Hid (d.length ≤ 5 * (b + 1)) := by have := HDL.out; rw [Hid]; omega
                    clear HST
                    go_wp2_with fail
                    go_roundw
                    case rel => exact ⟨b + 1, d, by omega, by go_num, by rw [HSS.out], HD2.out, HL2.out, HBL.out⟩
                    case measure => simp [intOf]; omega
              · rw [hf] at ck
                obtain ⟨hk3, hk4⟩ := flagR_runs x k hf
                have HK : Hid (runEnd x (k + 1) = runEnd x b) := by rw [Hid, ← HRE.out, hk4]
                clear hf HRE hk4
                go_wp2_with fail
                go_roundw
                case rel => exact ⟨k + 1, by omega, by omega, by go_num, HK.out, by trivial⟩
                case measure => simp [intOf]; omega
          · obtain rfl : b = 256 := by omega
            go_wp2_with fail
            go_ret
            refine ⟨?_, HBL5.out.trans (HBL.out.mono hs5)⟩
            have hd2 := HD.out
            rw [prA_end x 256 (by omega), List.append_nil] at hd2
            rw [HTT.out, ← hd2, strOf_append _ [93], HSS.out]; rfl
    · have hp : ¬ prNot x = true := by rw [HPN.out]; simp [q0, q1]
      have HP := hid hp
      have q3 : BS.size ≤ 128 := by omega
      clear HPN q0 hp
      go_enter Try.func75, Try.ntmps75
      go_wp2_with fail
      refine (HBY.out _).mono ?_
      rintro e w1 ⟨rfl, hb1⟩
      have HX1 : Hid (Blk w1 w.heap.size 50 #[w64 x.w0, w64 x.w1, w64 x.w2, w64 x.w3]) := (Blk.new w 50 #[w64 x.w0, w64 x.w1, w64 x.w2, w64 x.w3]).below hb1 (by simp)
      have HBL1 : Hid (Below w.heap.size w w1) := ((Below.refl w.heap.size w).alloc (Nat.le_refl _) _).trans (hb1.mono (by simp))
      clear hb1 HBY
      obtain ⟨c0, c1, c2, c3, g0, g1, g2, g3⟩ := blk4 HX1.out
      have HTT : Hid (T = [91] ++ prA x 0 ++ [93]) := by rw [Hid, HT.out, if_neg HP.out]
      clear HT
      have HF := hid (fun W => flags_any x W)
      unfold BSet.val at HF
      go_wp2_with fail
      refine (HF.out _).mono ?_
      rintro e w4 ⟨A, cc, rfl, hown, hbl⟩
      have HBL4 := hid (HBL1.out.trans (hbl.mono HBL1.out.size))
      have hown' := own_base (B := w.heap.size) hown HBL1.out.size
      have hs4 : w.heap.size ≤ w4.heap.size := HBL4.out.size
      clear HF hbl hown HX1 HBL1 c0 c1 c2 c3
      go_wp2_with (at_builtin; refine wpList_append1 _ rfl _ _ 83 rfl w.heap.size 4 _ 1 1 Try.underlying83 Try.infoBool rfl (by decide) _ _ _ rfl hown' 1 [.bool false] rfl rfl rfl ?_ (by decide) hs4 ?_)
      · decide
      intro A2 d2 w5 hown5 hg5
      have HBL5 := hid (below_grown HBL4.out hown' hg5 (by omega) (by omega))
      obtain ⟨g, off, rfl, hg, hcc⟩ := (Rd_of_own hown5).at (by simp)
      have HC := hid (fun j (hj : j ≤ 256) => hcc j _ (flags_cells x j hj))
      clear hcc hown5 hg5 hown' HBL4 hs4
      have hs5 : w.heap.size ≤ w5.heap.size := HBL5.out.size
      go_wp2_with fail
      go_loopw [3, 6, 7] (fun sv bv kv wr => ∃ (b : Nat) (d : List Nat), b ≤ 256 ∧ bv = .int .i64 (b : Int) ∧ sv = .string (strOf ([91] ++ d)) ∧ d ++ prA x b = prA x 0 ∧ d.length ≤ 5 * b ∧ Below w5.heap.size w5 wr) (fun _ b _ _ => 256 - (intOf b).toNat)
      case atStart => exact ⟨0, [], by omega, rfl, rfl, rfl, by simp, Below.refl _ _⟩
      case round =>
        obtain ⟨b, d, hb, rfl, rfl, hd, hdl, hbl⟩ := hrel
        have HD := hid hd; have HBL := hid hbl
        have HCR := hid (fun j (hj : j ≤ 256) => (World.cell?_of_block (hbl.block g hg)).trans (HC.out j hj))
        obtain ⟨SS, hSS⟩ : ∃ SS, strOf ([91] ++ d) = SS := ⟨_, rfl⟩
        have hsz : SS.size ≤ 1400 := by rw [← hSS, strOf_size]; simp only [List.length_append, List.length_cons, List.length_nil]; omega
        have HSS := hid hSS; have HDL := hid hdl
        rw [hSS]
        clear hd hbl hdl hSS
        by_cases hlt : b < 256
        · obtain ⟨wo, rfl⟩ : ∃ wo : World, wo = wr := ⟨_, rfl⟩
          have HST := hid (prA_step x b hlt)
          go_wp2_with fail
          go_loopw [7] (fun kv wr2 => ∃ (k : Nat), b ≤ k ∧ k ≤ 256 ∧ kv = .int .i64 (k : Int) ∧ runEnd x k = runEnd x b ∧ wr2 = wo) (fun k _ => 256 - (intOf k).toNat)
          case atStart => exact ⟨b, by omega, by omega, rfl, rfl, rfl⟩
          case round =>
            obtain ⟨k, hk1, hk2, rfl, hre, rfl⟩ := hrel
            have HRE := hid hre
            have ck := HCR.out k hk2
            clear hre
            cases hf : flagR x k
            · rw [hf] at ck
              have HK : Hid (runEnd x b = k) := by rw [Hid, ← HRE.out]; exact flagR_stop x k hf
              clear hf HRE
              rw [HK.out] at HST
              by_cases h2 : 2 < k - b
              · have h2i : (2 : Int) < (k : Int) - (b : Int) := by omega
                obtain ⟨k1, hk1'⟩ : ∃ k1, k - 1 = k1 := ⟨_, rfl⟩
                have hki : ((k : Int) - 1) = (k1 : Int) := by omega
                have hk256 : k1 < 256 := by omega
                have hkk : k1 + 1 = k := by omega
                rw [hk1'] at HST
                have C1 := hid (fun W => signR_any b hlt W)
                have C2 := hid (fun W => signR_any k1 hk256 W)
                have HD2 : Hid ((d ++ (signM b ++ ([45] ++ signM k1))) ++ prA x k = prA x 0) := by rw [Hid, ← HD.out, HST.out, if_pos h2]; simp only [List.append_assoc]
                have HL2 : Hid ((d ++ (signM b ++ ([45] ++ signM k1))).length ≤ 5 * k) := by
                  have := signM_le b; have := signM_le k1; have := HDL.out
                  rw [Hid]; simp only [List.length_append, List.length_cons, List.length_nil]; omega
                have HS2 : Hid (strOf ([91] ++ (d ++ (signM b ++ ([45] ++ signM k1)))) = ((SS ++ strOf (signM b)) ++ (⟨#[45]⟩ : ByteArray)) ++ strOf (signM k1)) := by
                  rw [Hid, ← List.append_assoc, strOf_append, strOf_append (signM b), strOf_append [45], HSS.out, ByteArray.append_assoc, ByteArray.append_assoc]; rfl
                have z1 : (strOf (signM b)).size ≤ 2 := by rw [strOf_size]; exact signM_le b
                have z2 : (strOf (signM k1)).size ≤ 2 := by rw [strOf_size]; exact signM_le k1
                obtain ⟨S1, hS1⟩ : ∃ S, strOf (signM b) = S := ⟨_, rfl⟩
                obtain ⟨S2, hS2⟩ : ∃ S, strOf (signM k1) = S := ⟨_, rfl⟩
                rw [hS1] at C1 HS2 z1
                rw [hS2] at C2 HS2 z2
                have HKK := hid hkk
                clear hS1 hS2 HST HSS HD HDL hk1' hkk
                go_wp2_with fail
                refine (C1.out _).mono ?_
                rintro e w6 ⟨rfl, hb6⟩
                have HB6 := hid (HBL.out.trans (hb6.mono HBL.out.size))
                clear hb6 C1
                go_wp2_with fail
                refine (C2.out _).mono ?_
                rintro e w7 ⟨rfl, hb7⟩
                have HB7 := hid (HB6.out.trans (hb7.mono HB6.out.size))
                clear hb7 C2
                go_wp2_with fail
                go_roundw
                case rel => exact ⟨k, _, hk2, by have := HKK.out; first | go_num | (congr 1; omega), by rw [HS2.out], HD2.out, HL2.out, HB7.out⟩
                case measure => have := HKK.out; simp [intOf]; omega
              · have h2i : ¬ (2 : Int) < (k : Int) - (b : Int) := by omega
                by_cases h3 : b < k
                · have C1 := hid (fun W => signR_any b hlt W)
                  have HD2 : Hid ((d ++ signM b) ++ prA x (b + 1) = prA x 0) := by rw [Hid, ← HD.out, HST.out, if_neg h2, if_pos h3, List.append_assoc]
                  have HL2 : Hid ((d ++ signM b).length ≤ 5 * (b + 1)) := by
                    have := signM_le b; have := HDL.out
                    rw [Hid]; simp only [List.length_append]; omega
                  have HS2 : Hid (strOf ([91] ++ (d ++ signM b)) = SS ++ strOf (signM b)) := by
                    rw [Hid, ← List.append_assoc, strOf_append, HSS.out]
                  have z1 : (strOf (signM b)).size ≤ 2 := by rw [strOf_size]; exact signM_le b
                  obtain ⟨S1, hS1⟩ : ∃ S, strOf (signM b) = S := ⟨_, rfl⟩
                  rw [hS1] at C1 HS2 z1
                  clear hS1 HST HSS HD HDL
                  go_wp2_with fail
                  refine (C1.out _).mono ?_
                  rintro e w6 ⟨rfl, hb6⟩
                  have HB6 := hid (HBL.out.trans (hb6.mono HBL.out.size))
                  clear hb6 C1
                  go_wp2_with fail
                  go_roundw
                  case rel => exact ⟨b + 1, _, by omega, by go_num, by rw [HS2.out], HD2.out, HL2.out, HB6.out⟩
                  case measure => simp [intOf]; omega
                · have HD2 : Hid (d ++ prA x (b + 1) = prA x 0) := by rw [Hid, ← HD.out, HST.out, if_neg h2, if_neg h3]
                  have HL2 : Hid (d.length ≤ 5 * (b + 1)) := by have := HDL.out; rw [Hid]; omega
                  clear HST
                  go_wp2_with fail
                  go_roundw
                  case rel => exact ⟨b + 1, d, by omega, by go_num, by rw [HSS.out], HD2.out, HL2.out, HBL.out⟩
                  case measure => simp [intOf]; omega
            · rw [hf] at ck
              obtain ⟨hk3, hk4⟩ := flagR_runs x k hf
              have HK : Hid (runEnd x (k + 1) = runEnd x b) := by rw [Hid, ← HRE.out, hk4]
              clear hf HRE hk4
              go_wp2_with fail
              go_roundw
              case rel => exact ⟨k + 1, by omega, by omega, by go_num, HK.out, by trivial⟩
              case measure => simp [intOf]; omega
        · obtain rfl : b = 256 := by omega
          go_wp2_with fail
          go_ret
          refine ⟨?_, HBL5.out.trans (HBL.out.mono hs5)⟩
          have hd2 := HD.out
          rw [prA_end x 256 (by omega), List.append_nil] at hd2
          rw [HTT.out, ← hd2, strOf_append _ [93], HSS.out]; rfl
end Go.Proofs.Ytgiffdgicmdmgaa
namespace Go.Proofs.Ytgiffdgicmdmgaa
open Go.RowKit PopT

set_option maxRecDepth 20000 in
set_option maxHeartbeats 800000 in
theorem equalC_any (A B : Option Addr) (n m c d : Nat) (a b : List Item) (w : World) (ha : a.length = n) (hb : b.length = m) (hn : n ≤ 1000000) (hm : m ≤ 1000000) (hra : Rd w A (itemCells a)) (hrb : Rd w B (itemCells b)) :
    Calls Try.prog 73 #[.slice A n c, .slice B m d] w fun e w' => e = .returned (.bool (sameI a b)) ∧ Below w.heap.size w w' := by
  by_cases hnm : n = m
  · subst hnm
    have HA := hid ha; have HB := hid hb
    clear ha hb
    go_enter Try.func73, Try.ntmps73
    go_wp2_with fail
    go_loopw [13] (fun i wr => ∃ k, k ≤ n ∧ i = .int .i64 k ∧ Hid (a.take k = b.take k) ∧ Below w.heap.size w wr) (fun i _ => n - (intOf i).toNat)
    case atStart => exact ⟨0, by omega, rfl, by simp [Hid], Below.refl _ _⟩
    case round =>
      obtain ⟨k, hk, rfl, HT, hbw⟩ := hrel
      have HBW := hid hbw
      by_cases hlt : k < n
      · obtain ⟨p, o1, rfl, hp, hc1⟩ := (hra.below hbw).at (by rw [itemCells_length, HA.out]; omega)
        obtain ⟨q, o2, rfl, hq, hc2⟩ := (hrb.below hbw).at (by rw [itemCells_length, HB.out]; omega)
        have hka : k < a.length := by rw [HA.out]; exact hlt
        have hkb : k < b.length := by rw [HB.out]; exact hlt
        obtain ⟨x0, x1, x2, x3, x4⟩ := item_at hc1 k hka
        obtain ⟨y0, y1, y2, y3, y4⟩ := item_at hc2 k hkb
        have HEa : Hid (a.take (k + 1) = a.take k ++ [a[k]'hka]) := by rw [Hid, List.take_succ_eq_append_getElem hka]
        have HEb : Hid (b.take (k + 1) = b.take k ++ [b[k]'hkb]) := by rw [Hid, List.take_succ_eq_append_getElem hkb]
        have HX : Hid (a = b → a[k]'hka = b[k]'hkb) := fun e => by subst e; rfl
        obtain ⟨x, hx⟩ : ∃ x, a[k]'hka = x := ⟨_, rfl⟩
        obtain ⟨y, hy⟩ : ∃ y, b[k]'hkb = y := ⟨_, rfl⟩
        rw [hx] at x0 x1 x2 x3 x4 HEa HX
        rw [hy] at y0 y1 y2 y3 y4 HEb HX
        clear hc1 hc2 hra hrb hbw hx hy
        by_cases hxy : x = y
        · have heq : ∀ W, (Op.equalIn 10000 52 (.agg #[.bool x.run, w64 x.set.w0, w64 x.set.w1, w64 x.set.w2, w64 x.set.w3]) (.agg #[.bool y.run, w64 y.set.w0, w64 y.set.w1, w64 y.set.w2, w64 y.set.w3])).run Try.prog W = .ok true W := by
            intro W; rw [Try.eqItem, (eqI_iff x y).2 hxy]
          have HXY := hid hxy
          clear hxy
          go_wp2_with fail
          go_quiet (fail)
          go_wp2_with fail
          go_roundw
          case rel => exact ⟨k + 1, by omega, by go_num, by rw [Hid, HEa.out, HEb.out, HT.out, HXY.out], HBW.out.trans ((drewN_below _ _).mono HBW.out.size)⟩
          case measure => simp [intOf]; omega
        · have heq : ∀ W, (Op.equalIn 10000 52 (.agg #[.bool x.run, w64 x.set.w0, w64 x.set.w1, w64 x.set.w2, w64 x.set.w3]) (.agg #[.bool y.run, w64 y.set.w0, w64 y.set.w1, w64 y.set.w2, w64 y.set.w3])).run Try.prog W = .ok false W := by
            intro W; rw [Try.eqItem, show eqI x y = false from by rw [Bool.eq_false_iff, Ne, eqI_iff]; exact hxy]
          have HS : Hid (sameI a b = false) := sameI_false a b (fun e => hxy (HX.out e))
          clear hxy
          go_wp2_with fail
          go_quiet (fail)
          go_wp2_with fail
          go_ret
          exact ⟨by rw [HS.out]; rfl, HBW.out.trans ((drewN_below _ _).mono HBW.out.size)⟩
      · have HS : Hid (sameI a b = true) := by
          have h1 := HT.out
          rw [List.take_of_length_le (by rw [HA.out]; omega), List.take_of_length_le (by rw [HB.out]; omega)] at h1
          rw [Hid, sameI_iff]; exact h1
        clear hra hrb
        go_wp2_with fail
        go_ret
        exact ⟨by rw [HS.out]; rfl, HBW.out⟩
  · have HS : Hid (sameI a b = false) := sameI_false a b (by rintro rfl; omega)
    have hne : ((n : Int) == (m : Int)) = false := by rw [beq_eq_false_iff_ne]; omega
    clear hra hrb
    go_enter Try.func73, Try.ntmps73
    go_wp2_with fail
    go_ret
    exact ⟨by rw [HS.out]; rfl, Below.refl _ _⟩

set_option maxRecDepth 20000 in
set_option maxHeartbeats 400000 in
theorem sameC_any (A B : Option Addr) (n m c d : Nat) (a b : List Item) (w : World) (ha : a.length = n) (hb : b.length = m) (hn : n ≤ 1000000) (hm : m ≤ 1000000) (hra : Rd w A (itemCells a)) (hrb : Rd w B (itemCells b)) :
    Calls Try.prog 48 #[.slice A n c, .slice B m d] w fun e w' => e = .returned (.bool (sameI a b)) ∧ Below w.heap.size w w' := by
  have HC := hid (equalC_any A B n m c d a b w ha hb hn hm hra hrb)
  clear ha hb hra hrb
  go_enter Try.func48, Try.ntmps48
  go_wp2_with fail
  refine HC.out.mono ?_
  rintro e w1 ⟨rfl, hb1⟩
  have HB1 := hid hb1
  clear hb1
  go_wp2_with fail
  go_ret
  exact ⟨rfl, HB1.out⟩

set_option maxRecDepth 20000 in
set_option maxHeartbeats 4000000 in
theorem gprintR_any (A : Option Addr) (n c : Nat) (l : List Item) (w : World) (hl : l.length = n) (hn : n ≤ 100) (hr : Rd w A (itemCells l)) :
    Calls Try.prog 49 #[.slice A n c] w fun e w' => e = .returned (.string (strOf (l.flatMap printI))) ∧ Below w.heap.size w w' := by
  have HL := hid hl
  have HR := hid hr
  clear hl hr
  go_enter Try.func49, Try.ntmps49
  go_wp2_with fail
  go_loopw [3, 4] (fun sv iv wr => ∃ (k : Nat), k ≤ n ∧ iv = .int .i64 (k : Int) ∧ sv = .string (strOf ((l.take k).flatMap printI)) ∧ Below w.heap.size w wr) (fun _ iv _ => n - (intOf iv).toNat)
  case atStart => exact ⟨0, by omega, rfl, rfl, Below.refl _ _⟩
  case round =>
    obtain ⟨k, hk, rfl, rfl, hb⟩ := hrel
    have HB := hid hb
    obtain ⟨D, hD⟩ : ∃ D, (l.take k).flatMap printI = D := ⟨_, rfl⟩
    by_cases hlt : k < n
    · have hkl : k < l.length := by rw [HL.out]; exact hlt
      obtain ⟨b, off, rfl, hbl, hc⟩ := (HR.out.below hb).at (by rw [itemCells_length, HL.out]; omega)
      obtain ⟨d0, d1, d2, d3, d4⟩ := item_at hc k hkl
      have HSU := hid (flat_succ l k hkl)
      have hdl : (strOf D).size ≤ 129000 := by
        have h1 := flat_len (l.take k)
        rw [List.length_take, hD] at h1
        rw [strOf_size']; omega
      obtain ⟨x, hx⟩ : ∃ x, l[k]'hkl = x := ⟨_, rfl⟩
      rw [hx] at d0 d1 d2 d3 d4 HSU
      rw [hD] at HSU
      rw [hD]
      have HSP := hid hdl
      clear hx hc hb hD
      obtain ⟨run, set⟩ := x
      simp only at d0 d1 d2 d3 d4
      have HAP : Hid (strOf ((l.take (k + 1)).flatMap printI) = strOf D ++ strOf (printI ⟨run, set⟩)) := by rw [Hid, HSU.out, strOf_append']
      obtain ⟨DS, hDS⟩ : ∃ S, strOf D = S := ⟨_, rfl⟩
      rw [hDS] at hdl HAP ⊢
      have C1 := hid (fun W => bytesR_any set W)
      obtain ⟨BS, hBS⟩ : ∃ B, (⟨(bytesM set).toArray⟩ : ByteArray) = B := ⟨_, rfl⟩
      have hq : (bytesM set).length = BS.size := by rw [← hBS]; rfl
      have HBS := hid hBS
      rw [hBS] at C1
      unfold BSet.val at C1
      clear HSU hDS HSP hBS
      go_wp2_with fail
      refine (C1.out _).mono ?_
      rintro e w2 ⟨rfl, hb2⟩
      have HB2 := hid (HB.out.trans (hb2.mono HB.out.size))
      have e0 : w2.cell? ⟨b, off + k * 5, none⟩ = some (.bool run) := (World.cell?_of_block (hb2.block b hbl)).trans d0
      have e1 : w2.cell? ⟨b, off + k * 5 + 1, none⟩ = some (w64 set.w0) := (World.cell?_of_block (hb2.block b hbl)).trans d1
      have e2 : w2.cell? ⟨b, off + k * 5 + 2, none⟩ = some (w64 set.w1) := (World.cell?_of_block (hb2.block b hbl)).trans d2
      have e3 : w2.cell? ⟨b, off + k * 5 + 3, none⟩ = some (w64 set.w2) := (World.cell?_of_block (hb2.block b hbl)).trans d3
      have e4 : w2.cell? ⟨b, off + k * 5 + 4, none⟩ = some (w64 set.w3) := (World.cell?_of_block (hb2.block b hbl)).trans d4
      clear hb2 C1 HB d0 d1 d2 d3 d4 hbl
      obtain ⟨q, hqq⟩ : ∃ q, BS.size = q := ⟨_, rfl⟩
      rw [hqq] at hq
      cases run
      · by_cases h256 : q = 256
        · have e256 : ((q : Int) == 256) = true := by rw [beq_iff_eq]; omega
          have HPI : Hid (strOf ((l.take (k + 1)).flatMap printI) = DS ++ (⟨#[63]⟩ : ByteArray)) := by rw [Hid, HAP.out, printI, if_neg (show ¬ (false = true) by decide), if_pos (by rw [hq]; exact h256)]; rfl
          clear h256 hq HAP
          go_wp2_with fail
          go_roundw
          case rel => exact ⟨k + 1, by omega, by go_num, by rw [HPI.out], HB2.out⟩
          case measure => simp [intOf]; omega
        · have e256 : ((q : Int) == 256) = false := by rw [beq_eq_false_iff_ne]; omega
          by_cases h1 : q = 1
          · have e1' : ((q : Int) == 1) = true := by rw [beq_iff_eq]; omega
            obtain ⟨u, hu⟩ := List.length_eq_one_iff.1 (hq.trans h1)
            have HPI : Hid (strOf ((l.take (k + 1)).flatMap printI) = DS ++ strOf (gsignM u.toNat)) := by
              rw [Hid, HAP.out, printI, if_neg (show ¬ (false = true) by decide), if_neg (by rw [hq]; exact h256), if_pos (by rw [hq]; exact h1), hu]; rfl
            have hBu : strOf [u.toNat] = BS := by
              rw [← HBS.out, hu]
              show (⟨([u.toNat].map UInt8.ofNat).toArray⟩ : ByteArray) = _
              rw [List.map_cons, List.map_nil, UInt8.ofNat_toNat]
            have C2 := hid (fun W => gsignR_any u.toNat (UInt8.toNat_lt u) W)
            rw [hBu] at C2
            have hgl : (strOf (gsignM u.toNat)).size ≤ 2 := by rw [strOf_size']; exact gsignM_le _
            obtain ⟨GS, hGS⟩ : ∃ S, strOf (gsignM u.toNat) = S := ⟨_, rfl⟩
            rw [hGS] at C2 HPI hgl
            clear h1 h256 hq hu hBu hGS HBS HAP
            go_wp2_with fail
            refine (C2.out _).mono ?_
            rintro e w3 ⟨rfl, rfl⟩
            go_wp2_with fail
            go_roundw
            case rel => exact ⟨k + 1, by omega, by go_num, by rw [HPI.out], HB2.out⟩
            case measure => simp [intOf]; omega
          · have e1' : ((q : Int) == 1) = false := by rw [beq_eq_false_iff_ne]; omega
            have HPI : Hid (strOf ((l.take (k + 1)).flatMap printI) = DS ++ strOf (textM set)) := by
              rw [Hid, HAP.out, printI, if_neg (show ¬ (false = true) by decide), if_neg (by rw [hq]; exact h256), if_neg (by rw [hq]; exact h1)]
            have C2 := hid (fun W => printR_any set W)
            have hTl : (strOf (textM set)).size ≤ 1290 := by rw [strOf_size']; exact textM_len2 set
            obtain ⟨TS, hTS⟩ : ∃ T, strOf (textM set) = T := ⟨_, rfl⟩
            rw [hTS] at C2 HPI hTl
            unfold BSet.val at C2
            clear h1 h256 hq hTS HBS HAP
            go_wp2_with fail
            refine (C2.out _).mono ?_
            rintro e w3 ⟨rfl, hb3⟩
            have HB3 := hid (HB2.out.trans (hb3.mono HB2.out.size))
            clear hb3 C2 HB2
            go_wp2_with fail
            go_roundw
            case rel => exact ⟨k + 1, by omega, by go_num, by rw [HPI.out], HB3.out⟩
            case measure => simp [intOf]; omega
      · have HPI : Hid (strOf ((l.take (k + 1)).flatMap printI) = DS ++ (⟨#[42]⟩ : ByteArray)) := by rw [Hid, HAP.out, printI, if_pos rfl]; rfl
        clear hq HAP
        go_wp2_with fail
        go_roundw
        case rel => exact ⟨k + 1, by omega, by go_num, by rw [HPI.out], HB2.out⟩
        case measure => simp [intOf]; omega
    · obtain rfl : k = n := by omega
      have HD2 : Hid (D = l.flatMap printI) := by rw [Hid, ← hD, List.take_of_length_le (by rw [HL.out]; exact Nat.le_refl _)]
      rw [hD]
      clear hD hb
      go_wp2_with fail
      go_ret
      exact ⟨by rw [← HD2.out]; rfl, HB.out⟩
end Go.Proofs.Ytgiffdgicmdmgaa
