/- Walks: 'lang.ends'. Walks: the rest of package lang. Walks: the reference's 'Matches'. Walks: where a pattern ends, starts, occurs first: the reference's, and what of package lang is left. -/
import Derived.Test.YtpkkfdmhbbipoaaMb
import Derived.Test.YtpkkfdmhbbipoaaMa
import Derived.Test.YtpkkfdmhbbipoaaMc
namespace Go.Proofs.Ytpkkfdmhbbipoaa
open Go.RowKit

end Go.Proofs.Ytpkkfdmhbbipoaa
namespace Go.Proofs.Ytpkkfdmhbbipoaa
open Go.RowKit

theorem size_list (s : ByteArray) : s.data.toList.length = s.size := by simp

end Go.Proofs.Ytpkkfdmhbbipoaa
namespace Go.Proofs.Ytpkkfdmhbbipoaa
open Go.RowKit

theorem placesM_one (n : Nat) : placesM (n + 1) 0 false = true :: List.replicate n false := by
  refine List.ext_getElem (by simp [placesM]) fun i h1 h2 => ?_
  cases i with
  | zero => simp [placesM]
  | succ i => simp [placesM]; omega
theorem stepRun_orTo (L : List Bool) (n : Nat) (h : n < L.length) : (stepRun false L).getD n false = (L.take (n + 1)).any id := by
  rw [Bool.eq_iff_iff, stepRun_spec]
  simp only [Bool.false_eq_true, false_or, List.any_eq_true, id]
  constructor
  · rintro ⟨_, k, hk, hv⟩
    refine ⟨true, List.mem_iff_getElem?.2 ⟨k, ?_⟩, rfl⟩
    rw [List.getElem?_take_of_lt (by omega), List.getElem?_eq_getElem (by omega)]
    rw [List.getD, List.getElem?_eq_getElem (by omega)] at hv
    simpa using hv
  · rintro ⟨b, hb, rfl⟩
    obtain ⟨k, hk⟩ := List.mem_iff_getElem?.1 hb
    have hkl := (List.getElem?_eq_some_iff.1 hk).1
    rw [List.length_take] at hkl
    rw [List.getElem?_take_of_lt (by omega)] at hk
    exact ⟨h, k, by omega, by rw [List.getD, hk]; rfl⟩
theorem any_take_succ (L : List Bool) (k : Nat) (h : k < L.length) : (L.take (k + 1)).any id = ((L.take k).any id || L.getD k false) := by
  rw [List.take_succ_eq_append_getElem h, List.any_append]
  simp [List.getD, h]
theorem boolCells_take_succ (L : List Bool) (k : Nat) (h : k < L.length) : boolCells (L.take (k + 1)) = boolCells (L.take k) ++ [.bool (L.getD k false)] := by
  rw [List.take_succ_eq_append_getElem h]
  unfold boolCells
  rw [List.map_append]
  simp [List.getD, h]
theorem Rd_bool {w : World} {A : Option Addr} {L : List Bool} {n : Nat} (h : Rd w A (boolCells L)) (hl : L.length = n) (hn : 0 < n) :
    ∃ b off, A = some ⟨b, off, none⟩ ∧ b < w.heap.size ∧ ∀ j, j < n → w.cell? ⟨b, off + j, none⟩ = some (.bool (L.getD j false)) := by
  obtain ⟨b, off, rfl, hb, hc⟩ := h.at (by rw [boolCells_length]; omega)
  refine ⟨b, off, rfl, hb, fun j hj => hc j _ ?_⟩
  rw [boolCells_get L j (by omega)]; simp [List.getD, hl, hj]

set_option maxRecDepth 100000 in
set_option maxHeartbeats 2000000 in
theorem matchesR_any (A : Option Addr) (n c : Nat) (l : List Item) (s : ByteArray) (w : World) (hl : l.length = n) (hn : n ≤ 1000000) (hr : Rd w A (itemCells l)) (hs : s.size ≤ 1000000) :
    Calls Try.prog 78 #[.slice A n c, .string s] w fun e w' => e = .returned (.bool (matchM l s.data.toList)) ∧ Below w.heap.size w w' := by
  have HL := hid hl; clear hl
  have HSZ := hid (show s.data.toList.length = s.size by simp)
  go_enter Try.func78, Try.ntmps78
  go_wp2
  go_loopw [5, 6] (fun v i wr => ∃ (k : Nat) (A' : Option Addr) (c' : Nat), k ≤ s.size ∧ i = .int .i64 k ∧ v = .slice A' (k + 1) c' ∧
      wr.ownsRow w.heap.size 4 1 (.slice A' (k + 1) c') (k + 1) (boolCells (true :: List.replicate k false)) ∧ Below w.heap.size w wr) (fun _ i _ => s.size - (intOf i).toNat)
  case atStart => exact ⟨0, _, _, by omega, rfl, rfl, by simpa [boolCells] using World.ownsRow_lit (base := w.heap.size) (e := 4) (size := 1) w #[.bool true] 1 (Nat.le_refl _) (by simp [maxLen]) (by simp), (Below.refl _ _).alloc (Nat.le_refl _) _⟩
  case round =>
    obtain ⟨k, A', c', hk, rfl, rfl, hown, hb⟩ := hrel
    have hsz := hb.size
    by_cases hlt : k < s.size
    · have HR : Hid (boolCells (true :: List.replicate (k + 1) false) = boolCells (true :: List.replicate k false) ++ [.bool false]) := by
        rw [Hid, List.replicate_succ']; simp [boolCells]
      go_wp2_with (at_builtin; refine wpList_append1 _ rfl _ _ 166 rfl w.heap.size 4 _ 1 1 Try.underlying166 Try.infoBool rfl (by decide) _ _ _ rfl hown 1 [.bool false] rfl rfl rfl ?_ (by decide) hsz ?_)
      · omega
      intro A2 d2 w3 hown3 hg3
      have hb3 := below_grown hb hown hg3 (Nat.le_refl _) hsz
      have HO := hid hown3
      clear hown hown3 hb hg3
      go_wp2
      go_roundw
      case rel => exact ⟨k + 1, A2, d2, by omega, by go_num, rfl, by rw [HR.out]; exact HO.out, hb3⟩
      case measure => simp [intOf]; omega
    · have hks : k = s.size := by omega
      have HP : Hid (boolCells (endsM (l.take 0) s.data.toList (placesM (s.size + 1) 0 false)) = boolCells (true :: List.replicate k false)) := by
        rw [Hid, placesM_one, hks]; rfl
      have hr0 := Rd_of_own hown
      rw [← HP.out] at hr0
      have HR0 := hid hr0
      have HKS := hid hks
      have HB0 := hid hb
      clear hr0 hown hks hb
      obtain ⟨wo, rfl⟩ : ∃ wo : World, wo = wr := ⟨wr, rfl⟩
      go_wp2
      go_loopw [5, 7] (fun v i wr => ∃ (q : Nat) (A2 : Option Addr) (c2 : Nat), q ≤ n ∧ i = .int .i64 q ∧ v = .slice A2 (k + 1) c2 ∧
          Rd wr A2 (boolCells (endsM (l.take q) s.data.toList (placesM (s.size + 1) 0 false))) ∧ Below w.heap.size w wr) (fun _ i _ => n - (intOf i).toNat)
      case atStart => exact ⟨0, _, _, by omega, rfl, rfl, HR0.out, HB0.out⟩
      case round =>
        obtain ⟨q, A2, c2, hq, rfl, rfl, hra, hb⟩ := hrel
        have hel : (endsM (l.take q) s.data.toList (placesM (s.size + 1) 0 false)).length = k + 1 := by
          rw [endsM_length (l.take q) s.data.toList (placesM (s.size + 1) 0 false) (by rw [HSZ.out]; simp [placesM]), HSZ.out, HKS.out]
        obtain ⟨b1, off1, rfl, hb1l, hat1⟩ := Rd_bool hra hel (by omega)
        by_cases hlt2 : q < n
        · obtain ⟨b, off, rfl, hbl, hc⟩ := (hr.below hb).at (by rw [itemCells_length, HL.out]; omega)
          have HK : Hid (q < l.length) := by rw [HL.out]; exact hlt2
          obtain ⟨d0, d1, d2, d3, d4⟩ := item_at hc q HK.out
          have HES := hid (endsM_succ l s.data.toList (placesM (s.size + 1) 0 false) q HK.out)
          have hsteplen : (stepM (l[q]'HK.out) s.data.toList (endsM (l.take q) s.data.toList (placesM (s.size + 1) 0 false))).length = k + 1 := by
            rw [stepM_length (l[q]'HK.out) s.data.toList (endsM (l.take q) s.data.toList (placesM (s.size + 1) 0 false)) (by rw [HSZ.out, hel, HKS.out]), HSZ.out, HKS.out]
          generalize endsM (l.take q) s.data.toList (placesM (s.size + 1) 0 false) = at1 at *
          generalize l[q]'HK.out = x at *
          have HX : Hid (stepM x s.data.toList at1 = stepM x s.data.toList at1) := rfl
          have HEL := hid hel; have HSL := hid hsteplen; have HAT := hid hat1; have HRA := hid hra; have HB := hid hb
          have hsz1 := hb.size
          obtain ⟨wq, rfl⟩ : ∃ wq : World, wq = wr := ⟨wr, rfl⟩
          clear hc hr hel hsteplen hat1 hra hb HX
          go_wp2
          go_loopw [8, 9] (fun v i wr => ∃ (t : Nat) (A3 : Option Addr) (c3 : Nat), t ≤ k + 1 ∧ i = .int .i64 t ∧ v = .slice A3 t c3 ∧
              wr.ownsRow wq.heap.size 4 1 (.slice A3 t c3) t (boolCells ((stepM x s.data.toList at1).take t)) ∧ Below wq.heap.size wq wr) (fun _ i _ => k + 1 - (intOf i).toNat)
          case atStart => exact ⟨0, _, _, by omega, rfl, rfl, World.ownsRow_made _ _ _ (Nat.le_refl _) (by simp [maxLen]) (by simp), (Below.refl _ _).alloc (Nat.le_refl _) _⟩
          case round =>
            obtain ⟨t, A3, c3, ht, rfl, rfl, hown, hbq⟩ := hrel
            have hszq := hbq.size
            by_cases hlt3 : t < k + 1
            · have h9 : t ≤ s.size := by have := HKS.out; omega
              have HTS := hid (boolCells_take_succ (stepM x s.data.toList at1) t (by rw [HSL.out]; exact hlt3))
              have f0 := (hbq.cell (p := ⟨b, off + q * 5, none⟩) hbl).trans d0
              have f1 := (hbq.cell (p := ⟨b, off + q * 5 + 1, none⟩) hbl).trans d1
              have f2 := (hbq.cell (p := ⟨b, off + q * 5 + 2, none⟩) hbl).trans d2
              have f3 := (hbq.cell (p := ⟨b, off + q * 5 + 3, none⟩) hbl).trans d3
              have f4 := (hbq.cell (p := ⟨b, off + q * 5 + 4, none⟩) hbl).trans d4
              have HATQ : Hid (∀ j, j < k + 1 → wr.cell? ⟨b1, off1 + j, none⟩ = some (.bool (at1.getD j false))) := fun j hj => (hbq.cell (p := ⟨b1, off1 + j, none⟩) hb1l).trans (HAT.out j hj)
              have HO := hid hown; have HBQ := hid hbq
              clear hown hbq d0 d1 d2 d3 d4 HAT
              have fin : ∀ (b : Bool) (wz : World) (A9 : Option Addr) (d9 : Nat), True := fun _ _ _ _ => trivial
              clear fin
              cases hrun : x.run
              · rw [hrun] at f0
                have HR := hid hrun; clear hrun
                rcases Nat.eq_zero_or_pos t with h0 | h0
                · subst h0
                  have HV : Hid ((stepM x s.data.toList at1).getD 0 false = false) := by rw [Hid, List.getD, stepM_set0 x _ _ HR.out]; rfl
                  go_wp2_with fail
                  go_region
                  have HOZ := hid (HO.out.drew); have HBZ := hid HBQ.out.drew
                  have fz : wr.drew.cell? ⟨b, off + q * 5, none⟩ = some (.bool false) := f0
                  clear f0 f1 f2 f3 f4
                  go_wp2_with fail
                  go_loopw [10, 11] (fun v i wy => v = .bool false ∧ i = .int .i64 0 ∧ Below (wr.drew).heap.size (wr.drew) wy) (fun _ _ _ => 0)
                  case atStart => exact ⟨rfl, rfl, Below.refl _ _⟩
                  case round =>
                    obtain ⟨rfl, rfl, hby2⟩ := hrel
                    have fy := (hby2.cell (p := ⟨b, off + q * 5, none⟩) (World.block_lt_of_cell? _ _ fz)).trans fz
                    have hown := own_below HOZ.out hby2
                    have hbw := HBZ.out.trans (hby2.mono HBZ.out.size)
                    have hszw := hbw.size
                    clear fz hby2
                    go_wp2_with (at_builtin; refine wpList_append1 _ rfl _ _ 166 rfl wq.heap.size 4 _ 1 1 Try.underlying166 Try.infoBool rfl (by decide) _ _ _ rfl hown 1 [.bool false] rfl rfl rfl ?_ (by decide) hszw ?_)
                    · omega
                    intro A2 d2 w3 hown3 hg3
                    have hb3 := below_grown hbw hown hg3 (Nat.le_refl _) hszw
                    have HO3 := hid hown3
                    clear hown hown3 hg3 hbw
                    go_wp2_with fail
                    go_roundw
                    case rel => exact ⟨_, A2, d2, by omega, by go_num, rfl, by rw [HTS.out, HV.out]; exact HO3.out, hb3⟩
                    case measure => simp [intOf] <;> omega
                · obtain ⟨j, rfl⟩ : ∃ j, t = j + 1 := ⟨t - 1, by omega⟩
                  have g1 := HATQ.out j (by omega)
                  have hjs : j < s.size := by have := HKS.out; omega
                  have HV1 : Hid ((stepM x s.data.toList at1).getD (j + 1) false = (at1.getD j false && x.set.has (s[j]).toNat)) := by
                    have hjl : j < at1.length := by rw [HEL.out]; omega
                    rw [Hid, List.getD, stepM_set x s.data.toList at1 HR.out j (by simpa using hjs) (by rw [HEL.out, HSZ.out, HKS.out])]
                    simp [List.getD, hjl]; rfl
                  have hby : (s[j]).toNat < 256 := (s[j]).toNat_lt
                  have k1 : IntKind.i64.wrap ((j : Int) + 1 - 1) = (j : Int) := by rw [IntWalk.i64_in _ (by omega)]; omega
                  have k7 : IntKind.i64.wrap (j : Int) = (j : Int) := IntWalk.i64_in _ (by omega)
                  have k2 : (0 : Int) ≤ (j : Int) := by omega
                  have k4 : (0 : Int) ≤ (j : Int) + 1 := by omega
                  have k3 : (j : Int) < (k : Int) + 1 := by omega
                  have k8 : (j : Int) < (s.size : Int) := by omega
                  cases hg : at1.getD j false
                  · rw [hg] at g1 HV1
                    have HV : Hid ((stepM x s.data.toList at1).getD (j + 1) false = false) := by rw [Hid, HV1.out]; rfl
                    clear hg HV1
                    go_wp2_with fail
                    go_region
                    have HOZ := hid (HO.out.drew); have HBZ := hid HBQ.out.drew
                    have fz : wr.drew.cell? ⟨b, off + q * 5, none⟩ = some (.bool false) := f0
                    clear f0 f1 f2 f3 f4 k1 k2 k3 k4 k7 k8 g1
                    go_wp2_with fail
                    go_loopw [10, 11] (fun v i wy => v = .bool false ∧ i = .int .i64 0 ∧ Below (wr.drew).heap.size (wr.drew) wy) (fun _ _ _ => 0)
                    case atStart => exact ⟨rfl, rfl, Below.refl _ _⟩
                    case round =>
                      obtain ⟨rfl, rfl, hby2⟩ := hrel
                      have fy := (hby2.cell (p := ⟨b, off + q * 5, none⟩) (World.block_lt_of_cell? _ _ fz)).trans fz
                      have hown := own_below HOZ.out hby2
                      have hbw := HBZ.out.trans (hby2.mono HBZ.out.size)
                      have hszw := hbw.size
                      clear fz hby2
                      go_wp2_with (at_builtin; refine wpList_append1 _ rfl _ _ 166 rfl wq.heap.size 4 _ 1 1 Try.underlying166 Try.infoBool rfl (by decide) _ _ _ rfl hown 1 [.bool false] rfl rfl rfl ?_ (by decide) hszw ?_)
                      · omega
                      intro A2 d2 w3 hown3 hg3
                      have hb3 := below_grown hbw hown hg3 (Nat.le_refl _) hszw
                      have HO3 := hid hown3
                      clear hown hown3 hg3 hbw
                      go_wp2_with fail
                      go_roundw
                      case rel => exact ⟨_, A2, d2, by omega, by go_num, rfl, by rw [HTS.out, HV.out]; exact HO3.out, hb3⟩
                      case measure => simp [intOf] <;> omega
                  · rw [hg] at g1 HV1
                    have HV : Hid ((stepM x s.data.toList at1).getD (j + 1) false = x.set.has (s[j]).toNat) := by rw [Hid, HV1.out]; rfl
                    clear hg HV1
                    go_wp2_with fail
                    refine wp_region_mix [(0,true),(1,true),(2,true),(3,true),(4,true),(5,true),(6,true),(7,false),(8,true),(9,true),(10,true),(11,true),(12,true),(13,true),(15,true),(16,true),(17,true),(18,true),(19,true),(14,false),(20,false),(21,true),(22,true)] (by kernel_rfl) (by kernel_rfl) ?_
                    repeat (refine wpMix_val rfl ?_; go_big_quiet_step (fail); refine wpQuiet_nil ?_)
                    refine wpMix_op rfl ?_
                    go_wp2_with fail
                    repeat (refine wpMix_val rfl ?_; go_big_quiet_step (fail); refine wpQuiet_nil ?_)
                    refine wpMix_op rfl ?_
                    go_wp2_with fail
                    refine wpMix_op rfl ?_
                    go_wp2_with fail
                    refine (hasR_any x.set _ hby _).mono ?_
                    rintro e w2 ⟨rfl, hb2⟩
                    have HOZ := hid (own_below HO.out.drew hb2); have HBZ := hid (HBQ.out.drew.trans (hb2.mono (by simp; omega)))
                    have fz := (hb2.cell (p := ⟨b, off + q * 5, none⟩) (by simp; omega)).trans f0
                    clear f0 f1 f2 f3 f4 g1
                    go_wp2_with fail
                    repeat (refine wpMix_val rfl ?_; go_big_quiet_step (fail); refine wpQuiet_nil ?_)
                    refine wpMix_nil ?_
                    go_wp2_with fail
                    go_loopw [10, 11] (fun v i wy => v = .bool (x.set.has (s[j]).toNat) ∧ i = .int .i64 0 ∧ Below w2.heap.size w2 wy) (fun _ _ _ => 0)
                    case atStart => exact ⟨rfl, rfl, Below.refl _ _⟩
                    case round =>
                      obtain ⟨rfl, rfl, hby2⟩ := hrel
                      have fy := (hby2.cell (p := ⟨b, off + q * 5, none⟩) (World.block_lt_of_cell? _ _ fz)).trans fz
                      have hown := own_below HOZ.out hby2
                      have hbw := HBZ.out.trans (hby2.mono HBZ.out.size)
                      have hszw := hbw.size
                      clear fz hby2
                      go_wp2_with (at_builtin; refine wpList_append1 _ rfl _ _ 166 rfl wq.heap.size 4 _ 1 1 Try.underlying166 Try.infoBool rfl (by decide) _ _ _ rfl hown 1 [.bool (x.set.has (s[j]).toNat)] rfl rfl rfl ?_ (by decide) hszw ?_)
                      · omega
                      intro A2 d2 w3 hown3 hg3
                      have hb3 := below_grown hbw hown hg3 (Nat.le_refl _) hszw
                      have HO3 := hid hown3
                      clear hown hown3 hg3 hbw
                      go_wp2_with fail
                      go_roundw
                      case rel => exact ⟨_, A2, d2, by omega, by go_num, rfl, by rw [HTS.out, HV.out]; exact HO3.out, hb3⟩
                      case measure => simp [intOf] <;> omega
              · rw [hrun] at f0
                have HR := hid hrun; clear hrun
                have HV : Hid ((stepM x s.data.toList at1).getD t false = (at1.take (t + 1)).any id) := by
                  rw [Hid, stepM, if_pos HR.out, stepRun_orTo _ _ (by rw [HEL.out]; exact hlt3)]
                clear f1 f2 f3 f4
                go_wp2_with fail
                go_loopw [10, 11] (fun v i wy => ∃ (m : Nat) (av : Bool), m ≤ t + 1 ∧ i = .int .i64 m ∧ v = .bool av ∧ Hid ((at1.take m).any id = av) ∧ Below wr.heap.size wr wy) (fun _ i _ => t + 1 - (intOf i).toNat)
                case atStart => exact ⟨0, false, by omega, rfl, rfl, rfl, Below.refl _ _⟩
                case round =>
                  obtain ⟨m, av, hm, rfl, rfl, HAV, hby⟩ := hrel
                  have fz := (hby.cell (p := ⟨b, off + q * 5, none⟩) (by simp; omega)).trans f0
                  by_cases hlt4 : m < t + 1
                  · have g1 := (hby.cell (p := ⟨b1, off1 + m, none⟩) (by simp; omega)).trans (HATQ.out m (by omega))
                    have HAS := hid (any_take_succ at1 m (by rw [HEL.out]; omega))
                    generalize at1.getD m false = gv at *
                    rw [HAV.out] at HAS
                    cases av
                    all_goals
                      go_wp2_with fail
                      go_roundw
                      case rel => exact ⟨m + 1, _, by omega, by go_num, rfl, HAS.out, hby⟩
                      case measure => simp [intOf]; omega
                  · have hmt : m = t + 1 := by omega
                    have HV2 : Hid ((stepM x s.data.toList at1).getD t false = av) := by rw [Hid, HV.out, ← hmt]; exact HAV.out
                    have hown := own_below HO.out hby
                    have hbw := HBQ.out.trans (hby.mono hszq)
                    have hszw := hbw.size
                    go_wp2_with (at_builtin; refine wpList_append1 _ rfl _ _ 166 rfl wq.heap.size 4 _ 1 1 Try.underlying166 Try.infoBool rfl (by decide) _ _ _ rfl hown 1 [.bool av] rfl rfl rfl ?_ (by decide) hszw ?_)
                    · omega
                    intro A2 d2 w3 hown3 hg3
                    have hb3 := below_grown hbw hown hg3 (Nat.le_refl _) hszw
                    have HO3 := hid hown3
                    clear hown hown3 hg3 hbw hby
                    go_wp2_with fail
                    go_roundw
                    case rel => exact ⟨t + 1, A2, d2, by omega, by go_num, rfl, by rw [HTS.out, HV2.out]; exact HO3.out, hb3⟩
                    case measure => simp [intOf]; omega
            · have htk : t = k + 1 := by omega
              have h9 : ¬ t ≤ s.size := by have := HKS.out; omega
              rw [htk, List.take_of_length_le (by rw [HSL.out]; omega)] at hown
              have hr9 := Rd_of_own hown
              clear hown
              go_wp2
              go_roundw
              case rel => exact ⟨q + 1, _, _, by omega, by go_num, by rw [htk], by rw [HES.out]; exact hr9, HB.out.trans (hbq.mono hsz1)⟩
              case measure => simp [intOf]; omega
        · have hqn : l.take q = l := List.take_of_length_le (by rw [HL.out]; omega)
          rw [hqn] at hra hat1
          have HM : Hid (matchM l s.data.toList = (endsM l s.data.toList (placesM (s.size + 1) 0 false)).getD s.size false) := by unfold matchM; rw [HSZ.out]; rfl
          have hcs := hat1 s.size (by rw [HKS.out]; omega)
          rw [← HM.out] at hcs
          have hkss := HKS.out
          go_wp2
          go_ret
          exact ⟨rfl, hb⟩
end Go.Proofs.Ytpkkfdmhbbipoaa
namespace Go.Proofs.Ytpkkfdmhbbipoaa
open Go.RowKit

/-- The starts of what ends at 'to'; none where 'to' is no place of the text. -/
def startsZ (l : List Item) (w : List UInt8) (to : Int) : List Nat := if 0 ≤ to ∧ to ≤ w.length then startsM l w to.toNat else []
theorem ends_starts (l : List Item) (w : List UInt8) (k : Nat) (h : k ≤ w.length) : (endsAll l w).getD k false = decide (0 < (startsM l w k).length) := by
  rw [Bool.eq_iff_iff, endsAll_spec l w k h, decide_eq_true_iff, List.length_pos_iff_exists_mem]
  constructor
  · rintro ⟨i, hi, hm⟩; exact ⟨i, (mem_startsM l w k i).2 ⟨hi, hm⟩⟩
  · rintro ⟨i, hi⟩; exact ⟨i, (mem_startsM l w k i).1 hi⟩
set_option maxHeartbeats 800000 in
theorem startsRn_any (A : Option Addr) (n c : Nat) (l : List Item) (s : ByteArray) (to : Nat) (w : World) (hl : l.length = n) (hn : n ≤ 1000000) (hr : Rd w A (itemCells l)) (hs : s.size ≤ 1000000) (ht : to ≤ s.size) :
    Calls Try.prog 63 #[.slice A n c, .string s, .int .i64 (to : Int)] w fun e w' => ∃ A' c', e = .returned (.slice A' (startsM l s.data.toList to).length c') ∧
      w'.ownsRow w.heap.size 3 1 (.slice A' (startsM l s.data.toList to).length c') (startsM l s.data.toList to).length (intCells ((startsM l s.data.toList to).map Int.ofNat)) ∧ Below w.heap.size w w' := by
  have HL := hid hl; clear hl
  go_enter Try.func63, Try.ntmps63
  go_wp2
  go_loopw [7, 8] (fun v i wr => ∃ k A' c', k ≤ to + 1 ∧ i = .int .i64 k ∧ v = .slice A' (startsTo l s.data.toList to k).length c' ∧
     wr.ownsRow w.heap.size 3 1 (.slice A' (startsTo l s.data.toList to k).length c') (startsTo l s.data.toList to k).length (intCells ((startsTo l s.data.toList to k).map Int.ofNat)) ∧ Below w.heap.size w wr) (fun _ i _ => to + 1 - (intOf i).toNat)
  case atStart => exact ⟨0, _, _, by omega, rfl, rfl, World.ownsRow_made _ _ _ (Nat.le_refl _) (by simp [maxLen]) (by simp), (Below.refl _ _).alloc (Nat.le_refl _) _⟩
  case round =>
    obtain ⟨k, A', c', hk, rfl, rfl, hown, hb⟩ := hrel
    have hsz := hb.size
    have hlen := startsTo_length l s.data.toList to k
    by_cases hlt : k < to + 1
    · have HS : Hid ((s.extract k to).data.toList = sub s.data.toList k to) := by simp [Hid, sub]
      have HSS := hid (startsTo_succ l s.data.toList to k)
      go_wp2_with fail
      refine (matchesR_any A n c l (s.extract k to) _ HL.out hn (hr.below hb) (by simp; omega)).mono ?_
      rintro e w1 ⟨rfl, hb1⟩
      rw [HS.out]
      have hown1 := own_below hown hb1
      have hb2 := hb.trans (hb1.mono hsz)
      have hsz2 := hb2.size
      clear hown hb hb1
      cases hm : matchM l (sub s.data.toList k to)
      · have HE : Hid (startsTo l s.data.toList to (k + 1) = startsTo l s.data.toList to k) := by rw [Hid, HSS.out, hm]; simp
        clear HSS hm
        go_wp2
        go_roundw
        case rel => exact ⟨k + 1, A', c', by omega, by go_num, by rw [HE.out], by rw [HE.out]; exact hown1, hb2⟩
        case measure => simp [intOf]; omega
      · have HE : Hid (startsTo l s.data.toList to (k + 1) = startsTo l s.data.toList to k ++ [k]) := by rw [Hid, HSS.out, hm]; simp
        clear HSS hm
        go_wp2_with (at_builtin; refine wpList_append1 _ rfl _ _ 75 rfl w.heap.size 3 _ 1 8 Try.underlying75 Try.infoInt rfl (by decide) _ _ _ rfl hown1 1 [.int .i64 (k : Int)] rfl rfl rfl ?_ (by decide) hsz2 ?_)
        · omega
        intro A2 d2 w3 hown3 hg3
        have hb3 := below_grown hb2 hown1 hg3 (Nat.le_refl _) hsz2
        clear hown1 hb2 hg3
        go_wp2
        go_roundw
        case rel => exact ⟨k + 1, A2, d2, by omega, by go_num, by rw [HE.out]; simp, by rw [HE.out]; simpa [intCells] using hown3, hb3⟩
        case measure => simp [intOf]; omega
    · go_wp2
      go_ret
      have hkk : k = to + 1 := by omega
      rw [hkk] at hown
      exact ⟨A', c', by rw [hkk]; rfl, hown, hb⟩

set_option maxHeartbeats 400000 in
theorem startsR_any (A : Option Addr) (n c : Nat) (l : List Item) (s : ByteArray) (to : Int) (w : World) (hl : l.length = n) (hn : n ≤ 1000000) (hr : Rd w A (itemCells l)) (hs : s.size ≤ 1000000) (h1 : -9223372036854775808 ≤ to) (h2 : to ≤ 9223372036854775807) :
    Calls Try.prog 63 #[.slice A n c, .string s, .int .i64 to] w fun e w' => ∃ A' c', e = .returned (.slice A' (startsZ l s.data.toList to).length c') ∧
      w'.ownsRow w.heap.size 3 1 (.slice A' (startsZ l s.data.toList to).length c') (startsZ l s.data.toList to).length (intCells ((startsZ l s.data.toList to).map Int.ofNat)) ∧ Below w.heap.size w w' := by
  by_cases hin : 0 ≤ to ∧ to ≤ s.size
  · obtain ⟨t, rfl⟩ : ∃ t : Nat, to = t := ⟨to.toNat, by omega⟩
    have e : startsZ l s.data.toList (t : Int) = startsM l s.data.toList t := by unfold startsZ; rw [if_pos (by rw [size_list]; exact hin)]; rfl
    rw [e]
    exact startsRn_any A n c l s t w hl hn hr hs (by omega)
  · have e : startsZ l s.data.toList to = [] := by unfold startsZ; rw [if_neg (by rw [size_list]; exact hin)]
    rw [e]
    go_enter Try.func63, Try.ntmps63
    go_wp2
    go_loopw [7, 8] (fun v i wr => i = .int .i64 0 ∧ v = .slice (some ⟨w.heap.size, 0, none⟩) 0 0 ∧ wr.ownsRow w.heap.size 3 1 (.slice (some ⟨w.heap.size, 0, none⟩) 0 0) 0 [] ∧ Below w.heap.size w wr) (fun _ _ _ => 0)
    case atStart => exact ⟨rfl, rfl, World.ownsRow_made _ _ _ (Nat.le_refl _) (by simp [maxLen]) (by simp), (Below.refl _ _).alloc (Nat.le_refl _) _⟩
    case round =>
      obtain ⟨rfl, rfl, hown, hb⟩ := hrel
      by_cases h0 : 0 ≤ to
      · have h3 : ¬ to ≤ s.size := fun h => hin ⟨h0, h⟩
        go_wp2
        go_ret
        exact ⟨_, _, rfl, hown, hb⟩
      · go_wp2
        go_ret
        exact ⟨_, _, rfl, hown, hb⟩

end Go.Proofs.Ytpkkfdmhbbipoaa
