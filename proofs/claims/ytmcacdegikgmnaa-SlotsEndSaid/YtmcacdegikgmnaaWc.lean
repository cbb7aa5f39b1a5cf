/- Walks: 'lang.ends'. -/
import Derived.Test.YtmcacdegikgmnaaWb
namespace Go.Proofs.Ytmcacdegikgmnaa
open Go.RowKit

theorem boolv (L : List Bool) (n : Nat) (h : (boolCells L).length = n) (k : Nat) (hk : k < n) : ((boolCells L)[k]'(by omega)) = .bool (L.getD k false) := by
  have : k < L.length := by rw [boolCells_length] at h; omega
  simp [boolCells, List.getD, this]

set_option maxHeartbeats 2000000 in
theorem ends_any (A : Option Addr) (n c : Nat) (l : List Item) (s : ByteArray) (A1 : Option Addr) (c1 : Nat) (at_ : List Bool) (w : World) (hl : l.length = n) (hn : n ≤ 1000000) (hr : Rd w A (itemCells l))
    (hs : s.size ≤ 1000000) (hr1 : Rd w A1 (boolCells at_)) (hat : at_.length = s.size + 1) :
    Calls Try.prog 51 #[.slice A n c, .string s, .slice A1 (s.size + 1) c1] w fun e w' => ∃ A' c', e = .returned (.slice A' (s.size + 1) c') ∧ Rd w' A' (boolCells (endsM l s.data.toList at_)) ∧ Below w.heap.size w w' := by
  have HL := hid hl; clear hl
  have HAT := hid hat; clear hat
  go_enter Try.func51, Try.ntmps51
  go_wp2
  go_loopw [2, 13] (fun v i wr => ∃ k A' c', k ≤ n ∧ i = .int .i64 k ∧ v = .slice A' (s.size + 1) c' ∧ Rd wr A' (boolCells (endsM (l.take k) s.data.toList at_)) ∧ Below w.heap.size w wr) (fun _ i _ => n - (intOf i).toNat)
  case atStart => exact ⟨0, A1, c1, by omega, rfl, rfl, by simpa [endsM] using hr1, Below.refl _ _⟩
  case round =>
    obtain ⟨k, A', c', hk, rfl, rfl, hra, hb⟩ := hrel
    by_cases hlt : k < n
    · obtain ⟨b, off, rfl, hbl, hc⟩ := (hr.below hb).at (by rw [itemCells_length, HL.out]; omega)
      have HK : Hid (k < l.length) := by rw [HL.out]; exact hlt
      obtain ⟨d0, d1, d2, d3, d4⟩ := item_at hc k HK.out
      have HES := hid (endsM_succ l s.data.toList at_ k HK.out)
      have HEL := hid (endsM_length (l.take k) s.data.toList at_ (by rw [HAT.out]; simp))
      generalize endsM (l.take k) s.data.toList at_ = at1 at *
      generalize l[k]'HK.out = x at *
      have HXL := hid (stepM_length x s.data.toList at1 HEL.out)
      have HEL1 : Hid (at1.length = s.size + 1) := by have := HEL.out; simpa [Hid] using this
      obtain ⟨b1, off1, rfl, hb1l, hc1⟩ := hra.at (by rw [boolCells_length, HEL1.out]; omega)
      have hat1 : ∀ j, j < s.size + 1 → wr.cell? ⟨b1, off1 + j, none⟩ = some (.bool (at1.getD j false)) := by
        intro j hj
        refine hc1 j _ ?_
        have hj' : j < at1.length := by rw [HEL1.out]; exact hj
        rw [boolCells_get at1 j hj']
        simp [List.getD, hj']
      have HT := hid hat1
      clear hc hr hc1 hra hat1
      have hsz := hb.size
      go_wp2_with (at_make; refine wpList_make1 _ rfl _ _ 64 rfl w.heap.size 4 _ 1 Try.underlying64 Try.infoBool rfl .i64 .i64 _ _ (s.size + 1) rfl rfl (by omega) (by omega) (by omega) (by omega) (by simp; omega) ?_)
      intro w1 hown1 hg1
      have hsz1 := hg1.size
      simp only [World.size_alloc] at hsz1
      have hbw : Below w.heap.size w w1 := (hb.alloc hsz _).grown hg1 (by simp; omega) (by simp)
      have e0 : w1.cell? ⟨wr.heap.size, 0, none⟩ = some (.bool x.run) := hg1.cell (a := ⟨wr.heap.size, 0, none⟩) (by simp [go_sem]) (by simp)
      have e1 : w1.cell? ⟨wr.heap.size, 1, none⟩ = some (w64 x.set.w0) := hg1.cell (a := ⟨wr.heap.size, 1, none⟩) (by simp [go_sem]) (by simp)
      have e2 : w1.cell? ⟨wr.heap.size, 2, none⟩ = some (w64 x.set.w1) := hg1.cell (a := ⟨wr.heap.size, 2, none⟩) (by simp [go_sem]) (by simp)
      have e3 : w1.cell? ⟨wr.heap.size, 3, none⟩ = some (w64 x.set.w2) := hg1.cell (a := ⟨wr.heap.size, 3, none⟩) (by simp [go_sem]) (by simp)
      have e4 : w1.cell? ⟨wr.heap.size, 4, none⟩ = some (w64 x.set.w3) := hg1.cell (a := ⟨wr.heap.size, 4, none⟩) (by simp [go_sem]) (by simp)
      have HT1 : Hid (∀ j, j < s.size + 1 → w1.cell? ⟨b1, off1 + j, none⟩ = some (.bool (at1.getD j false))) := fun j hj =>
        hg1.cell (a := ⟨b1, off1 + j, none⟩) ((World.cell?_alloc_lt wr _ _ hb1l).trans (HT.out j hj)) (by simp)
      have hbb : b1 < wr.heap.size := hb1l
      clear HT d0 d1 d2 d3 d4 hg1
      obtain ⟨wo, rfl⟩ : ∃ wo : World, wo = wr := ⟨wr, rfl⟩
      have HB : Hid ((boolCells (stepM x s.data.toList at1)).length = s.size + 1) := by rw [boolCells_length, HXL.out]; simp [Hid]
      go_wp2
      go_loopw [22] (fun i wx => ∃ t, t ≤ s.size + 1 ∧ i = .int .i64 t ∧
          wx.ownsRow w.heap.size 4 1 (.slice (some ⟨wo.heap.size + 1, 0, none⟩) (s.size + 1) (s.size + 1)) (s.size + 1) ((boolCells (stepM x s.data.toList at1)).take t ++ List.replicate (s.size + 1 - t) (.bool false)) ∧ Below (wo.heap.size + 1) w1 wx)
        (fun i _ => s.size + 1 - (intOf i).toNat)
      case atStart => exact ⟨0, by omega, rfl, by simpa using hown1, Below.refl _ _⟩
      case round =>
        obtain ⟨t, ht, rfl, hown, hbx⟩ := hrel
        by_cases hlt2 : t < s.size + 1
        · have hf := hown.frozenAt t
          have hcl : wr.cell? ⟨wo.heap.size + 1, t, none⟩ = some (.bool false) := by rw [hown.cellAt t (by omega), fill_get _ _ t _ HB.out hlt2]
          have f0 := (hbx.cell (p := ⟨wo.heap.size, 0, none⟩) (by simp)).trans e0
          have f1 := (hbx.cell (p := ⟨wo.heap.size, 1, none⟩) (by simp)).trans e1
          have f2 := (hbx.cell (p := ⟨wo.heap.size, 2, none⟩) (by simp)).trans e2
          have f3 := (hbx.cell (p := ⟨wo.heap.size, 3, none⟩) (by simp)).trans e3
          have f4 := (hbx.cell (p := ⟨wo.heap.size, 4, none⟩) (by simp)).trans e4
          have HV := hid (boolv _ _ HB.out t hlt2)
          have HST : Hid (∀ v, v = Value.bool ((stepM x s.data.toList at1).getD t false) →
              (wr.setCell ⟨wo.heap.size + 1, t, none⟩ v).ownsRow w.heap.size 4 1 (.slice (some ⟨wo.heap.size + 1, 0, none⟩) (s.size + 1) (s.size + 1)) (s.size + 1) ((boolCells (stepM x s.data.toList at1)).take (t + 1) ++ List.replicate (s.size + 1 - (t + 1)) (.bool false))) := by
            intro v hv
            have := (hown.stored t v).1
            rw [hv, ← HV.out, fill_step _ _ t _ HB.out hlt2] at this
            rw [hv, ← HV.out]; exact this
          have g0 := (hbx.cell (p := ⟨b1, off1 + t, none⟩) (by simp; omega)).trans (HT1.out t hlt2)
          have HX := hid hown
          clear hown
          cases hrun : x.run
          · -- a set
            rw [hrun] at f0
            have HR := hid hrun; clear hrun
            rcases Nat.eq_zero_or_pos t with h0 | h0
            · subst h0
              have hv0 : (stepM x s.data.toList at1).getD 0 false = false := by rw [List.getD, stepM_set0 x _ _ HR.out]; rfl
              have HV0 := hid hv0; clear hv0
              go_wp2
              go_roundw
              case rel =>
                refine ⟨0 + 1, by omega, by go_num, ?_, hbx⟩
                rw [← fill_same _ _ 0 _ HB.out hlt2 (by rw [HV.out, HV0.out])]
                exact HX.out
              case measure => simp [intOf]; try omega
            · obtain ⟨j, rfl⟩ : ∃ j, t = j + 1 := ⟨t - 1, by omega⟩
              have g1 := (hbx.cell (p := ⟨b1, off1 + j, none⟩) (by simp; omega)).trans (HT1.out j (by omega))
              have hjs : j < s.size := by omega
              have HV1 : Hid ((stepM x s.data.toList at1).getD (j + 1) false = (at1.getD j false && x.set.has (s[j]).toNat)) := by
                have hjl : j < at1.length := by rw [HEL1.out]; omega
                rw [Hid, List.getD, stepM_set x s.data.toList at1 HR.out j (by simpa using hjs) HEL.out]
                simp [List.getD, hjl]; rfl
              have hby : (s[j]).toNat < 256 := (s[j]).toNat_lt
              cases hg : at1.getD j false
              · rw [hg] at g1
                have HG := hid hg; clear hg
                go_wp2
                have k1 : IntKind.i64.wrap ((j : Int) + 1 - 1) = (j : Int) := by rw [IntWalk.i64_in _ (by omega)]; omega
                have k7 : IntKind.i64.wrap (j : Int) = (j : Int) := IntWalk.i64_in _ (by omega)
                have k2 : (0 : Int) ≤ (j : Int) := by omega
                have k3 : (j : Int) < (s.size : Int) + 1 := by omega
                have k4 : (0 : Int) ≤ (j : Int) + 1 := by omega
                have k5 : (j : Int) + 1 < (s.size : Int) + 1 := by omega
                have k6 : ((j : Int) + 1).toNat = j + 1 := by omega
                have k8 : (j : Int) < (s.size : Int) := by omega
                go_region
                clear k1 k2 k3 k4 k5 k6 k7 k8 g1 g0 hcl hf f0 f1 f2 f3 f4
                go_wp2
                go_roundw
                case rel => exact ⟨j + 1 + 1, by omega, by go_num, HST.out _ (by rw [HV1.out, HG.out]; rfl), (hbx.setCell (Nat.le_refl _) _).drew⟩
                case measure => simp [intOf]; omega
              · rw [hg] at g1
                have HG := hid hg; clear hg
                have hszr := hbx.size
                have hbl2 : wo.heap.size + 1 < wr.heap.size := World.block_lt_of_cell? _ _ hcl
                go_wp2
                have k1 : IntKind.i64.wrap ((j : Int) + 1 - 1) = (j : Int) := by rw [IntWalk.i64_in _ (by omega)]; omega
                have k7 : IntKind.i64.wrap (j : Int) = (j : Int) := IntWalk.i64_in _ (by omega)
                have k2 : (0 : Int) ≤ (j : Int) := by omega
                have k3 : (j : Int) < (s.size : Int) + 1 := by omega
                have k4 : (0 : Int) ≤ (j : Int) + 1 := by omega
                have k5 : (j : Int) + 1 < (s.size : Int) + 1 := by omega
                have k6 : ((j : Int) + 1).toNat = j + 1 := by omega
                have k8 : (j : Int) < (s.size : Int) := by omega
                go_region_held3 (fun w' => w'.cell? ⟨b1, off1 + j, none⟩ = some (.bool true) ∧ w'.cell? ⟨wo.heap.size, 1, none⟩ = some (w64 x.set.w0) ∧ w'.cell? ⟨wo.heap.size, 2, none⟩ = some (w64 x.set.w1) ∧
                    w'.cell? ⟨wo.heap.size, 3, none⟩ = some (w64 x.set.w2) ∧ w'.cell? ⟨wo.heap.size, 4, none⟩ = some (w64 x.set.w3))
                  (first | exact ⟨g1, f1, f2, f3, f4⟩ | exact ⟨q0, q1, q2, q3, q4⟩ | exact ⟨(cell_set_other (by omega)).trans q0, (cell_set_other (by omega)).trans q1, (cell_set_other (by omega)).trans q2, (cell_set_other (by omega)).trans q3, (cell_set_other (by omega)).trans q4⟩)
                  (first | (go_at_call 62; refine (hasC_any x.set _ hby _).mono ?_; rintro e w2 ⟨rfl, hb2⟩; have q0 := (hb2.cell (p := ⟨b1, off1 + j, none⟩) (by simp; omega)).trans g1; have q1 := (hb2.cell (p := ⟨wo.heap.size, 1, none⟩) (by simp; omega)).trans f1; have q2 := (hb2.cell (p := ⟨wo.heap.size, 2, none⟩) (by simp; omega)).trans f2; have q3 := (hb2.cell (p := ⟨wo.heap.size, 3, none⟩) (by simp; omega)).trans f3; have q4 := (hb2.cell (p := ⟨wo.heap.size, 4, none⟩) (by simp; omega)).trans f4; have q5 := (hb2.cell (p := ⟨wo.heap.size + 1, j + 1, none⟩) (by simp; omega)).trans hcl; have q6 := (hb2.frozen (p := ⟨wo.heap.size + 1, j + 1, none⟩) (by simp; omega)).trans hf))
                clear q0 q1 q2 q3 q4 q5 q6 g1 g0 hcl hf f0 f1 f2 f3 f4
                have hbx2 : Below (wo.heap.size + 1) w1 w2 := hbx.drew.trans (hb2.mono (by simp; omega))
                have hown2 : (w2.setCell ⟨wo.heap.size + 1, j + 1, none⟩ (.bool (x.set.has (s[j]).toNat))).ownsRow w.heap.size 4 1 (.slice (some ⟨wo.heap.size + 1, 0, none⟩) (s.size + 1) (s.size + 1)) (s.size + 1) ((boolCells (stepM x s.data.toList at1)).take (j + 1 + 1) ++ List.replicate (s.size + 1 - (j + 1 + 1)) (.bool false)) := by
                  have hv : Value.bool (x.set.has (s[j]).toNat) = .bool ((stepM x s.data.toList at1).getD (j + 1) false) := by rw [HV1.out, HG.out]; rfl
                  have h2 : w2.ownsRow w.heap.size 4 1 _ _ _ := HX.out.drew.kept (row := none) ⟨hb2.os, hb2.tape, hb2.output, hb2.size, fun q hq _ => hb2.block q hq⟩ (by simp [Value.ownBlock])
                  have := (h2.stored (j + 1) (.bool (x.set.has (s[j]).toNat))).1
                  rw [hv, ← HV.out, fill_step _ _ (j + 1) _ HB.out hlt2] at this
                  rw [hv, ← HV.out]; exact this
                go_wp2
                go_roundw
                case rel => exact ⟨j + 1 + 1, by omega, by go_num, hown2, hbx2.setCell (Nat.le_refl _) _⟩
                case measure => simp [intOf]; omega
          · -- a run
            rw [hrun] at f0
            have HR := hid hrun; clear hrun
            have HV2 : Hid ((stepM x s.data.toList at1).getD t false = (at1.getD t false || (decide (0 < t) && (stepM x s.data.toList at1).getD (t - 1) false))) := by
              have hta : t < at1.length := by rw [HEL1.out]; exact hlt2
              have := stepM_run x s.data.toList at1 HR.out t hta
              rw [Hid, List.getD, this]
              simp [List.getD, hta]
            cases hg : at1.getD t false
            · rw [hg] at g0
              have HG := hid hg; clear hg
              by_cases h0 : t < 1
              · have hd : decide ((0 : Int) < (t : Int)) = false := by simp; omega
                have HD : Hid (decide (0 < t) = false) := by simp [Hid]; omega
                go_wp2
                go_roundw
                case rel => exact ⟨t + 1, by omega, by go_num, HST.out _ (by rw [HV2.out, HG.out, HD.out]; rfl), hbx.setCell (Nat.le_refl _) _⟩
                case measure => simp [intOf]; try omega
              · obtain ⟨j, rfl⟩ : ∃ j, t = j + 1 := ⟨t - 1, by omega⟩
                have hp : wr.cell? ⟨wo.heap.size + 1, j, none⟩ = some (.bool ((stepM x s.data.toList at1).getD j false)) := by
                  rw [HX.out.cellAt j (by omega), fill_old _ _ (j + 1) j _ HB.out hlt2 (by omega), boolv _ _ HB.out j (by omega)]
                have HV3 : Hid (Value.bool ((stepM x s.data.toList at1).getD j false) = Value.bool ((stepM x s.data.toList at1).getD (j + 1) false)) := by rw [Hid, HV2.out, HG.out]; simp
                go_wp2
                go_roundw
                case rel => exact ⟨j + 1 + 1, by omega, by go_num, HST.out _ HV3.out, hbx.setCell (Nat.le_refl _) _⟩
                case measure => simp [intOf]; omega
            · rw [hg] at g0
              have HG := hid hg; clear hg
              go_wp2
              go_roundw
              case rel => exact ⟨t + 1, by omega, by go_num, HST.out _ (by rw [HV2.out, HG.out]; rfl), hbx.setCell (Nat.le_refl _) _⟩
              case measure => simp [intOf]; omega
        · go_wp2
          go_roundw
          case rel =>
            have htt : t = s.size + 1 := by omega
            rw [htt, fill_done _ _ _ HB.out] at hown
            exact ⟨k + 1, _, _, by omega, by go_num, rfl, by rw [HES.out]; exact Rd_of_own hown, hbw.trans (hbx.mono (by omega))⟩
          case measure => simp [intOf]; omega
    · go_wp2
      go_ret
      have hkk : l.take k = l := List.take_of_length_le (by rw [HL.out]; omega)
      rw [hkk] at hra
      exact ⟨_, _, rfl, hra, hb⟩
end Go.Proofs.Ytmcacdegikgmnaa
