/- Walks: the reference of layer 5: Set. -/
import Derived.Test.YtdhoedohchbagaaHr
import Derived.Test.YtdhoedohchbagaaMix2
namespace Go.Proofs.Ytdhoedohchbagaa
open Go.RowKit

theorem addr_add (b o j : Nat) : ((⟨b, o, none⟩ : Addr).add j) = ⟨b, o + j, none⟩ := by unfold Addr.add; split <;> simp_all
theorem x_below {W V : World} {bx : Nat} {cs : List Value} (K : Below W.heap.size W V) (h : bx < W.heap.size) (X : ∀ j u, cs[j]? = some u → W.cell? ((⟨bx, 0, none⟩ : Addr).add j) = some u) : ∀ j u, cs[j]? = some u → V.cell? ((⟨bx, 0, none⟩ : Addr).add j) = some u := by
  intro j u hu
  have := X j u hu
  rw [addr_add] at this ⊢
  exact (K.cell (p := ⟨bx, 0 + j, none⟩) h).trans this
theorem x_keep {F : Nat → Prop} {W V : World} {bx : Nat} {cs : List Value} (K : Keep F W V) (h : bx < W.heap.size) (hf : ¬ F bx) (X : ∀ j u, cs[j]? = some u → W.cell? ((⟨bx, 0, none⟩ : Addr).add j) = some u) : ∀ j u, cs[j]? = some u → V.cell? ((⟨bx, 0, none⟩ : Addr).add j) = some u := by
  intro j u hu
  have := X j u hu
  rw [addr_add] at this ⊢
  exact (K.cell (o := 0 + j) h hf).trans this
theorem entCells_one (l : List Ent) : ∀ u ∈ entCells l, u.oneCell' = true := by
  intro u hu
  obtain ⟨x, _, hx⟩ := List.mem_flatMap.1 hu
  simp only [Ent.cells, List.mem_cons, List.not_mem_nil, or_false] at hx
  rcases hx with rfl | rfl <;> rfl
theorem entCells_drop (l : List Ent) (k : Nat) : entCells (l.drop k) = (entCells l).drop (k * 2) := by
  induction l generalizing k with
  | nil => simp [entCells]
  | cons x l ih =>
    cases k with
    | zero => rfl
    | succ k =>
      rw [List.drop_succ_cons, show entCells (x :: l) = .int .i64 x.t :: .int .i64 (x.id : Int) :: entCells l from rfl, show (k + 1) * 2 = k * 2 + 1 + 1 from by omega, ih k]
      simp only [List.drop_succ_cons]
theorem fin_row {V : World} {B B' m : Nat} {v : Value} {xs : List Value} {L : List Ent} (h : V.ownsRow B 38 2 v m xs) (hB : B' ≤ B) (hx : xs = entCells L) : V.ownsRow B' 38 2 v L.length (entCells L) := by
  have h1 := h.1
  rw [hx, entCells_length] at h1
  obtain rfl : L.length = m := by omega
  rw [← hx]; exact own_base h hB
theorem ent_take_cells {W : World} {B n c g1 : Nat} {L1 : List Ent} (h : W.ownsRow B 38 2 (.slice (some ⟨g1, 0, none⟩) n c) n (entCells L1)) (i : Nat) : ∀ j u, (entCells (L1.take i))[j]? = some u → W.cell? ((⟨g1, 0, none⟩ : Addr).add j) = some u := by
  intro j u hu
  rw [entCells_take, List.getElem?_take] at hu
  split at hu
  · exact h.cells (g := g1) rfl j u hu
  · cases hu
theorem ent_drop_cells {W : World} {B n c g1 : Nat} {L1 : List Ent} (h : W.ownsRow B 38 2 (.slice (some ⟨g1, 0, none⟩) n c) n (entCells L1)) (i : Nat) : ∀ j u, (entCells (L1.drop i))[j]? = some u → W.cell? ((⟨g1, i * 2, none⟩ : Addr).add j) = some u := by
  intro j u hu
  rw [entCells_drop, List.getElem?_drop] at hu
  have := h.cells (g := g1) rfl _ u hu
  rw [addr_add] at this ⊢
  rwa [Nat.zero_add] at this

set_option maxRecDepth 20000 in
set_option maxHeartbeats 400000 in
theorem setR_never (A : Option Addr) (n c : Nat) (l : List Ent) (most k : Nat) (at_ : Int) (w : World) (hl : l.length = n) (hn : n ≤ 100000) (hr : Rd w A (entCells l)) (hk : k < most) (hat : (at_ == 9223372036854775807) = true) :
    Calls Try.prog 27 #[.slice A n c, .int .i64 (most : Int), .int .i64 (k : Int), .int .i64 at_] w fun e w' => ∃ v, e = .returned (.tuple #[v, .bool true]) ∧ w'.ownsRow w.heap.size 38 2 v (cutE l k).length (entCells (cutE l k)) ∧ Below w.heap.size w w' := by
  have HC := hid (cutR_any A n c l (k : Int) w hl hn hr)
  rw [cutZ_nat] at HC
  have hkm : decide (most ≤ k) = false := by simp; omega
  clear hl hr
  go_enter Try.func27, Try.ntmps27
  go_wp2_with fail
  refine HC.out.mono ?_
  rintro e w1 ⟨g1, c1, rfl, ho, hb⟩
  have HO := hid ho; have HB := hid hb
  clear ho hb HC
  go_wp2_with fail
  go_ret2
  exact ⟨_, rfl, HO.out, HB.out⟩

set_option maxRecDepth 20000 in
set_option maxHeartbeats 4000000 in
theorem setR_some (A : Option Addr) (n c : Nat) (l : List Ent) (most k : Nat) (at_ : Int) (w : World) (hl : l.length = n) (hn : n ≤ 100000) (hr : Rd w A (entCells l)) (hk : k < most) (hat : (at_ == 9223372036854775807) = false) :
    Calls Try.prog 27 #[.slice A n c, .int .i64 (most : Int), .int .i64 (k : Int), .int .i64 at_] w fun e w' => ∃ v, e = .returned (.tuple #[v, .bool true]) ∧ w'.ownsRow w.heap.size 38 2 v (insE ⟨ownT at_, k⟩ (cutE l k)).length (entCells (insE ⟨ownT at_, k⟩ (cutE l k))) ∧ Below w.heap.size w w' := by
  have HC := hid (cutR_any A n c l (k : Int) w hl hn hr)
  rw [cutZ_nat] at HC
  have hkm : decide (most ≤ k) = false := by simp; omega
  have hle : (cutE l k).length ≤ n := by rw [← hl]; exact List.length_filter_le _ _
  obtain ⟨L1, hL1⟩ : ∃ L1, cutE l k = L1 := ⟨_, rfl⟩
  obtain ⟨n1, hn1⟩ : ∃ n1, L1.length = n1 := ⟨_, rfl⟩
  obtain ⟨tx, htx⟩ : ∃ tx : Int, ownT at_ = tx := ⟨_, rfl⟩
  rw [hL1, hn1] at HC hle
  rw [hL1, htx]
  have HTX := hid htx
  have HN1 := hid hn1
  clear hl hr hL1 hn1 htx
  go_enter Try.func27, Try.ntmps27
  go_wp2_with fail
  refine HC.out.mono ?_
  rintro e w1 ⟨g1, c1, rfl, ho, hb⟩
  have hc1 : n1 ≤ c1 := by
    rcases ho.2 with ⟨hv, _⟩ | ⟨_, _, _, hv, _, _, hnc, _⟩
    · injection hv with h1 _ _; cases h1
    · injection hv with _ _ h3; omega
  have HO1 := hid ho; have HB1 := hid hb
  have hg1 := (ho.lt g1 rfl)
  clear ho hb HC
  have hs1 := HB1.out.size
  have HW2 := hid (show Below w1.heap.size w1 (w1.alloc (.cells (Ent.cells ⟨tx, k⟩).toArray 38)) from (Below.refl _ _).alloc (Nat.le_refl _) _)
  go_wp2_with (go_at_call 24; refine (ownR_any _ _).mono ?_; rw [HTX.out]; rintro e w2 ⟨rfl, rfl⟩)
  go_loopw [11] (fun iv wr => ∃ i : Nat, i ≤ n1 ∧ iv = .int .i64 (i : Int) ∧ Hid (∀ j, j < i → (eg L1 j).lt ⟨tx, k⟩) ∧ Below w1.heap.size w1 wr ∧ wr.cell? ⟨w1.heap.size, 0, none⟩ = some (.int .i64 tx) ∧ wr.cell? ⟨w1.heap.size, 1, none⟩ = some (.int .i64 (k : Int)) ∧ w1.heap.size < wr.heap.size) (fun iv _ => n1 - (intOf iv).toNat)
  case atStart => exact ⟨0, by omega, rfl, fun j hj => by omega, HW2.out, by go_simp, by go_simp, by simp⟩
  case round =>
    obtain ⟨i, hi, rfl, HJ, hbr, b0, b1, hlr⟩ := hrel
    have HBR := hid hbr
    clear hbr HW2
    have HO2 := hid (own_below HO1.out HBR.out)
    by_cases hin : i < n1
    · have hiL : i < L1.length := by rw [HN1.out]; exact hin
      have e1 := (HO2.out.cellAt (i * 2) (by omega)).trans (entCells_get L1 i hiL 0 (by omega))
      have e2 := (HO2.out.cellAt (i * 2 + 1) (by omega)).trans (entCells_get L1 i hiL 1 (by omega))
      obtain ⟨y, hy⟩ : ∃ y, eg L1 i = y := ⟨_, rfl⟩
      rw [hy] at e1 e2
      have e1' : wr.cell? ⟨g1, i * 2, none⟩ = some (.int .i64 y.t) := e1
      have e2' : wr.cell? ⟨g1, i * 2 + 1, none⟩ = some (.int .i64 (y.id : Int)) := e2
      have HY := hid hy
      clear e1 e2 hy hiL
      have hg1r : g1 < wr.heap.size := by have := HBR.out.size; omega
      have hinD : decide (i < n1) = true := decide_eq_true hin
      go_wp2_with fail
      refine wp_region_tail 10 (by kernel_rfl) (by kernel_rfl) ?_
      simp only [List.take_succ_cons, List.take_zero, List.drop_succ_cons, List.drop_zero]
      repeat still_step
      refine wpStill_nil ?_
      go_wp2_with fail
      refine (before_any y ⟨tx, k⟩ _).mono ?_
      rintro e w9 ⟨rfl, hb9⟩
      have hb9' := below_drewN hb9
      have x09 := (hb9'.cell (p := ⟨w1.heap.size, 0, none⟩) hlr).trans b0
      have x19 := (hb9'.cell (p := ⟨w1.heap.size, 1, none⟩) hlr).trans b1
      have hbx : w1.heap.size < w9.heap.size := Nat.lt_of_lt_of_le hlr hb9'.size
      have HB19 := hid (HBR.out.trans (hb9'.mono HBR.out.size))
      have HB9 := hid (HB1.out.trans (HB19.out.mono HB1.out.size))
      have HO9 := hid (own_below HO2.out hb9')
      clear hb9 hb9' b0 b1 e1' e2'
      by_cases hlt : y.lt ⟨tx, k⟩
      · have hLT : ltE y ⟨tx, k⟩ = true := decide_eq_true hlt
        have HLT := hid (show (eg L1 i).lt ⟨tx, k⟩ from by rw [HY.out]; exact hlt)
        rw [hLT]
        clear hlt hLT
        go_wp2_with fail
        go_roundw
        case rel => exact ⟨i + 1, by omega, by go_num, fun j hj => by
          by_cases e : j = i
          · rw [e]; exact HLT.out
          · exact HJ.out j (by omega), HB19.out, x09, x19, hbx⟩
        case measure => simp [intOf]; omega
      · have hLT : ltE y ⟨tx, k⟩ = false := decide_eq_false hlt
        have HINS : Hid (insE ⟨tx, k⟩ L1 = L1.take i ++ ⟨tx, k⟩ :: L1.drop i) := insE_at ⟨tx, k⟩ L1 i (by have := HN1.out; omega) HJ.out (fun _ => by rw [HY.out]; exact hlt)
        rw [hLT]
        clear hlt hLT
        have hic : i ≤ c1 := by omega
        go_wp2_with fail
        refine wp_region_ord (.val 1 (.val 2 (.val 3 (.val 8 (.val 9 (.val 10 (.two 0 (.two 4 (.op 5 (.op 6 (.op 7 (.op 11 (.val 12 (.val 13 (.nil))))))) 5 (.two 4 (.op 6 (.op 7 (.op 11 (.val 12 (.val 13 (.nil)))))) 6 (.op 4 (.op 7 (.op 11 (.val 12 (.val 13 (.nil)))))))) 5 (.two 0 (.two 4 (.op 6 (.op 7 (.op 11 (.val 12 (.val 13 (.nil)))))) 6 (.op 4 (.op 7 (.op 11 (.val 12 (.val 13 (.nil))))))) 6 (.op 0 (.op 4 (.op 7 (.op 11 (.val 12 (.val 13 (.nil))))))))))))))) (by kernel_rfl) (by kernel_rfl) ?_
        obtain ⟨wd, hwd⟩ : ∃ q, w9.drewN 1 = q := ⟨_, rfl⟩
        have HBd : Hid (Below w9.heap.size w9 wd) := by rw [← hwd]; exact drewN_below _ 1
        have hzd : w9.heap.size ≤ wd.heap.size := HBd.out.size
        rw [hwd]
        clear hwd
        have HOd := hid (own_below HO9.out HBd.out)
        have x0d := (HBd.out.cell (p := ⟨w1.heap.size, 0, none⟩) hbx).trans x09
        have x1d := (HBd.out.cell (p := ⟨w1.heap.size, 1, none⟩) hbx).trans x19
        clear x09 x19
        have hz9 := HB9.out.size
        have hbxd : w1.heap.size < wd.heap.size := by omega
        repeat (refine wpOrd_val rfl ?_; go_big_quiet_step (fail); refine wpQuiet_nil ?_)
        refine wpOrd_two rfl rfl ?_ ?_
        · go_wp2_with fail
          obtain ⟨v1, hw⟩ : ∃ q, wd.alloc (.cells #[] 38) = q := ⟨_, rfl⟩
          have K1 := hid (show Below wd.heap.size wd v1 from by rw [← hw]; exact (Below.refl _ _).alloc (Nat.le_refl _) _)
          have Z1 : wd.heap.size < v1.heap.size := by rw [← hw]; simp
          have R1 := hid (show v1.ownsRow wd.heap.size 38 2 (.slice (some ⟨wd.heap.size, 0, none⟩) 0 0) 0 [] from by rw [← hw]; exact World.ownsRow_made _ _ _ ((Below.refl wd.heap.size wd)).size (by simp [maxLen]) (by simp))
          first | rw [hw] | (simp only [Ent.cells] at hw; rw [hw])
          clear hw
          have T1 := hid (((Below.refl wd.heap.size wd)).trans (K1.out.mono ((Below.refl wd.heap.size wd)).size))
          refine wpOrd_two rfl rfl ?_ ?_
          · have A2 := hid (ent_take_cells (own_below HOd.out T1.out) i)
            go_wp2_with (at_builtin; refine wpList_appendK _ rfl _ _ 33 rfl wd.heap.size 38 _ 2 16 Try.underlying33 Try.infoEntry rfl (by decide) _ _ _ rfl R1.out ⟨g1, 0, none⟩ i c1 (entCells (L1.take i)) (by go_simp) (by rw [entCells_length, List.length_take]; have := HN1.out; omega) A2.out (entCells_one _) (by omega) (by decide) (T1.out).size ?_)
            intro B2 d2 v2 o2 k2 f2
            have T2 := hid ((T1.out).trans (k2.below (B := wd.heap.size) (T1.out).size (fun q h => (World.ownsRow.lt R1.out q h).1)))
            have R2 := hid o2
            clear o2 k2 f2
            refine wpOrd_op rfl ?_
            have y0 := ((T2.out).cell (p := ⟨w1.heap.size, 0, none⟩) hbxd).trans x0d
            have y1 := ((T2.out).cell (p := ⟨w1.heap.size, 1, none⟩) hbxd).trans x1d
            go_wp2_with fail
            refine wpOrd_op rfl ?_
            go_wp2_with fail
            obtain ⟨v4, hw⟩ : ∃ q, v2.alloc (.cells (Ent.cells ⟨tx, k⟩).toArray 38) = q := ⟨_, rfl⟩
            have K4 := hid (show Below v2.heap.size v2 v4 from by rw [← hw]; exact (Below.refl _ _).alloc (Nat.le_refl _) _)
            have Z4 : v2.heap.size < v4.heap.size := by rw [← hw]; simp
            have X4 := hid (show ∀ j u, (Ent.cells ⟨tx, k⟩)[j]? = some u → v4.cell? ((⟨v2.heap.size, 0, none⟩ : Addr).add j) = some u from by rw [← hw]; exact cells_new)
            first | rw [hw] | (simp only [Ent.cells] at hw; rw [hw])
            clear hw
            have T4 := hid ((T2.out).trans (K4.out.mono (T2.out).size))
            have R4 := hid (own_below R2.out K4.out)
            refine wpOrd_op rfl ?_
            go_wp2_with (at_builtin; refine wpList_appendK _ rfl _ _ 33 rfl wd.heap.size 38 _ 2 16 Try.underlying33 Try.infoEntry rfl (by decide) _ _ _ rfl R4.out ⟨v2.heap.size, 0, none⟩ 1 1 (Ent.cells ⟨tx, k⟩) (by go_simp) rfl X4.out (by intro u hu; simp [Ent.cells] at hu; rcases hu with rfl | rfl <;> rfl) (by omega) (by decide) (T4.out).size ?_)
            intro B5 d5 v5 o5 k5 f5
            have T5 := hid ((T4.out).trans (k5.below (B := wd.heap.size) (T4.out).size (fun q h => (World.ownsRow.lt R4.out q h).1)))
            have R5 := hid o5
            clear o5 k5 f5
            refine wpOrd_op rfl ?_
            have A6 := hid (ent_drop_cells (own_below HOd.out T5.out) i)
            go_wp2_with (at_builtin; refine wpList_appendK _ rfl _ _ 33 rfl wd.heap.size 38 _ 2 16 Try.underlying33 Try.infoEntry rfl (by decide) _ _ _ rfl R5.out ⟨g1, i * 2, none⟩ (n1 - i) (c1 - i) (entCells (L1.drop i)) (by go_simp) (by rw [entCells_length, List.length_drop, HN1.out]) A6.out (entCells_one _) (by omega) (by decide) (T5.out).size ?_)
            intro B6 d6 v6 o6 k6 f6
            have T6 := hid ((T5.out).trans (k6.below (B := wd.heap.size) (T5.out).size (fun q h => (World.ownsRow.lt R5.out q h).1)))
            have R6 := hid o6
            clear o6 k6 f6
            repeat (refine wpOrd_val rfl ?_; go_big_quiet_step (fail); refine wpQuiet_nil ?_)
            refine wpOrd_nil ?_
            have HX : Hid (∀ xs, xs = entCells (L1.take i) ++ ((Ent.cells ⟨tx, k⟩) ++ entCells (L1.drop i)) → xs = entCells (insE ⟨tx, k⟩ L1)) := by
              intro xs h
              rw [h, HINS.out, entCells_append]; simp [entCells]
            have HBF := hid (HB9.out.trans ((HBd.out.trans (T6.out.mono hzd)).mono HB9.out.size))
            have HLE : Hid (w.heap.size ≤ wd.heap.size) := by rw [Hid]; omega
            go_wp2_with fail
            go_ret2
            exact ⟨_, rfl, fin_row R6.out HLE.out (HX.out _ (by simp [entCells])), HBF.out⟩
          · have y0 := ((T1.out).cell (p := ⟨w1.heap.size, 0, none⟩) hbxd).trans x0d
            have y1 := ((T1.out).cell (p := ⟨w1.heap.size, 1, none⟩) hbxd).trans x1d
            go_wp2_with fail
            refine wpOrd_two rfl rfl ?_ ?_
            · have A3 := hid (ent_take_cells (own_below HOd.out T1.out) i)
              go_wp2_with (at_builtin; refine wpList_appendK _ rfl _ _ 33 rfl wd.heap.size 38 _ 2 16 Try.underlying33 Try.infoEntry rfl (by decide) _ _ _ rfl R1.out ⟨g1, 0, none⟩ i c1 (entCells (L1.take i)) (by go_simp) (by rw [entCells_length, List.length_take]; have := HN1.out; omega) A3.out (entCells_one _) (by omega) (by decide) (T1.out).size ?_)
              intro B3 d3 v3 o3 k3 f3
              have T3 := hid ((T1.out).trans (k3.below (B := wd.heap.size) (T1.out).size (fun q h => (World.ownsRow.lt R1.out q h).1)))
              have R3 := hid o3
              clear o3 k3 f3
              refine wpOrd_op rfl ?_
              go_wp2_with fail
              obtain ⟨v4, hw⟩ : ∃ q, v3.alloc (.cells (Ent.cells ⟨tx, k⟩).toArray 38) = q := ⟨_, rfl⟩
              have K4 := hid (show Below v3.heap.size v3 v4 from by rw [← hw]; exact (Below.refl _ _).alloc (Nat.le_refl _) _)
              have Z4 : v3.heap.size < v4.heap.size := by rw [← hw]; simp
              have X4 := hid (show ∀ j u, (Ent.cells ⟨tx, k⟩)[j]? = some u → v4.cell? ((⟨v3.heap.size, 0, none⟩ : Addr).add j) = some u from by rw [← hw]; exact cells_new)
              first | rw [hw] | (simp only [Ent.cells] at hw; rw [hw])
              clear hw
              have T4 := hid ((T3.out).trans (K4.out.mono (T3.out).size))
              have R4 := hid (own_below R3.out K4.out)
              refine wpOrd_op rfl ?_
              go_wp2_with (at_builtin; refine wpList_appendK _ rfl _ _ 33 rfl wd.heap.size 38 _ 2 16 Try.underlying33 Try.infoEntry rfl (by decide) _ _ _ rfl R4.out ⟨v3.heap.size, 0, none⟩ 1 1 (Ent.cells ⟨tx, k⟩) (by go_simp) rfl X4.out (by intro u hu; simp [Ent.cells] at hu; rcases hu with rfl | rfl <;> rfl) (by omega) (by decide) (T4.out).size ?_)
              intro B5 d5 v5 o5 k5 f5
              have T5 := hid ((T4.out).trans (k5.below (B := wd.heap.size) (T4.out).size (fun q h => (World.ownsRow.lt R4.out q h).1)))
              have R5 := hid o5
              clear o5 k5 f5
              refine wpOrd_op rfl ?_
              have A6 := hid (ent_drop_cells (own_below HOd.out T5.out) i)
              go_wp2_with (at_builtin; refine wpList_appendK _ rfl _ _ 33 rfl wd.heap.size 38 _ 2 16 Try.underlying33 Try.infoEntry rfl (by decide) _ _ _ rfl R5.out ⟨g1, i * 2, none⟩ (n1 - i) (c1 - i) (entCells (L1.drop i)) (by go_simp) (by rw [entCells_length, List.length_drop, HN1.out]) A6.out (entCells_one _) (by omega) (by decide) (T5.out).size ?_)
              intro B6 d6 v6 o6 k6 f6
              have T6 := hid ((T5.out).trans (k6.below (B := wd.heap.size) (T5.out).size (fun q h => (World.ownsRow.lt R5.out q h).1)))
              have R6 := hid o6
              clear o6 k6 f6
              repeat (refine wpOrd_val rfl ?_; go_big_quiet_step (fail); refine wpQuiet_nil ?_)
              refine wpOrd_nil ?_
              have HX : Hid (∀ xs, xs = entCells (L1.take i) ++ ((Ent.cells ⟨tx, k⟩) ++ entCells (L1.drop i)) → xs = entCells (insE ⟨tx, k⟩ L1)) := by
                intro xs h
                rw [h, HINS.out, entCells_append]; simp [entCells]
              have HBF := hid (HB9.out.trans ((HBd.out.trans (T6.out.mono hzd)).mono HB9.out.size))
              have HLE : Hid (w.heap.size ≤ wd.heap.size) := by rw [Hid]; omega
              go_wp2_with fail
              go_ret2
              exact ⟨_, rfl, fin_row R6.out HLE.out (HX.out _ (by simp [entCells])), HBF.out⟩
            · go_wp2_with fail
              obtain ⟨v3, hw⟩ : ∃ q, v1.alloc (.cells (Ent.cells ⟨tx, k⟩).toArray 38) = q := ⟨_, rfl⟩
              have K3 := hid (show Below v1.heap.size v1 v3 from by rw [← hw]; exact (Below.refl _ _).alloc (Nat.le_refl _) _)
              have Z3 : v1.heap.size < v3.heap.size := by rw [← hw]; simp
              have X3 := hid (show ∀ j u, (Ent.cells ⟨tx, k⟩)[j]? = some u → v3.cell? ((⟨v1.heap.size, 0, none⟩ : Addr).add j) = some u from by rw [← hw]; exact cells_new)
              first | rw [hw] | (simp only [Ent.cells] at hw; rw [hw])
              clear hw
              have T3 := hid ((T1.out).trans (K3.out.mono (T1.out).size))
              have R3 := hid (own_below R1.out K3.out)
              refine wpOrd_op rfl ?_
              have A4 := hid (ent_take_cells (own_below HOd.out T3.out) i)
              go_wp2_with (at_builtin; refine wpList_appendK _ rfl _ _ 33 rfl wd.heap.size 38 _ 2 16 Try.underlying33 Try.infoEntry rfl (by decide) _ _ _ rfl R3.out ⟨g1, 0, none⟩ i c1 (entCells (L1.take i)) (by go_simp) (by rw [entCells_length, List.length_take]; have := HN1.out; omega) A4.out (entCells_one _) (by omega) (by decide) (T3.out).size ?_)
              intro B4 d4 v4 o4 k4 f4
              have T4 := hid ((T3.out).trans (k4.below (B := wd.heap.size) (T3.out).size (fun q h => (World.ownsRow.lt R3.out q h).1)))
              have X4 := hid (x_keep k4 Z3 (fun h => by simp only [Value.ownBlock, Option.some.injEq] at h; omega) X3.out)
              have Y4 : v1.heap.size < v4.heap.size := Nat.lt_of_lt_of_le Z3 k4.size
              have R4 := hid o4
              clear o4 k4 f4
              refine wpOrd_op rfl ?_
              go_wp2_with (at_builtin; refine wpList_appendK _ rfl _ _ 33 rfl wd.heap.size 38 _ 2 16 Try.underlying33 Try.infoEntry rfl (by decide) _ _ _ rfl R4.out ⟨v1.heap.size, 0, none⟩ 1 1 (Ent.cells ⟨tx, k⟩) (by go_simp) rfl X4.out (by intro u hu; simp [Ent.cells] at hu; rcases hu with rfl | rfl <;> rfl) (by omega) (by decide) (T4.out).size ?_)
              intro B5 d5 v5 o5 k5 f5
              have T5 := hid ((T4.out).trans (k5.below (B := wd.heap.size) (T4.out).size (fun q h => (World.ownsRow.lt R4.out q h).1)))
              have R5 := hid o5
              clear o5 k5 f5
              refine wpOrd_op rfl ?_
              have A6 := hid (ent_drop_cells (own_below HOd.out T5.out) i)
              go_wp2_with (at_builtin; refine wpList_appendK _ rfl _ _ 33 rfl wd.heap.size 38 _ 2 16 Try.underlying33 Try.infoEntry rfl (by decide) _ _ _ rfl R5.out ⟨g1, i * 2, none⟩ (n1 - i) (c1 - i) (entCells (L1.drop i)) (by go_simp) (by rw [entCells_length, List.length_drop, HN1.out]) A6.out (entCells_one _) (by omega) (by decide) (T5.out).size ?_)
              intro B6 d6 v6 o6 k6 f6
              have T6 := hid ((T5.out).trans (k6.below (B := wd.heap.size) (T5.out).size (fun q h => (World.ownsRow.lt R5.out q h).1)))
              have R6 := hid o6
              clear o6 k6 f6
              repeat (refine wpOrd_val rfl ?_; go_big_quiet_step (fail); refine wpQuiet_nil ?_)
              refine wpOrd_nil ?_
              have HX : Hid (∀ xs, xs = entCells (L1.take i) ++ ((Ent.cells ⟨tx, k⟩) ++ entCells (L1.drop i)) → xs = entCells (insE ⟨tx, k⟩ L1)) := by
                intro xs h
                rw [h, HINS.out, entCells_append]; simp [entCells]
              have HBF := hid (HB9.out.trans ((HBd.out.trans (T6.out.mono hzd)).mono HB9.out.size))
              have HLE : Hid (w.heap.size ≤ wd.heap.size) := by rw [Hid]; omega
              go_wp2_with fail
              go_ret2
              exact ⟨_, rfl, fin_row R6.out HLE.out (HX.out _ (by simp [entCells])), HBF.out⟩
        · have y0 := (((Below.refl wd.heap.size wd)).cell (p := ⟨w1.heap.size, 0, none⟩) hbxd).trans x0d
          have y1 := (((Below.refl wd.heap.size wd)).cell (p := ⟨w1.heap.size, 1, none⟩) hbxd).trans x1d
          go_wp2_with fail
          refine wpOrd_two rfl rfl ?_ ?_
          · go_wp2_with fail
            obtain ⟨v2, hw⟩ : ∃ q, wd.alloc (.cells #[] 38) = q := ⟨_, rfl⟩
            have K2 := hid (show Below wd.heap.size wd v2 from by rw [← hw]; exact (Below.refl _ _).alloc (Nat.le_refl _) _)
            have Z2 : wd.heap.size < v2.heap.size := by rw [← hw]; simp
            have R2 := hid (show v2.ownsRow wd.heap.size 38 2 (.slice (some ⟨wd.heap.size, 0, none⟩) 0 0) 0 [] from by rw [← hw]; exact World.ownsRow_made _ _ _ ((Below.refl wd.heap.size wd)).size (by simp [maxLen]) (by simp))
            first | rw [hw] | (simp only [Ent.cells] at hw; rw [hw])
            clear hw
            have T2 := hid (((Below.refl wd.heap.size wd)).trans (K2.out.mono ((Below.refl wd.heap.size wd)).size))
            refine wpOrd_two rfl rfl ?_ ?_
            · have A3 := hid (ent_take_cells (own_below HOd.out T2.out) i)
              go_wp2_with (at_builtin; refine wpList_appendK _ rfl _ _ 33 rfl wd.heap.size 38 _ 2 16 Try.underlying33 Try.infoEntry rfl (by decide) _ _ _ rfl R2.out ⟨g1, 0, none⟩ i c1 (entCells (L1.take i)) (by go_simp) (by rw [entCells_length, List.length_take]; have := HN1.out; omega) A3.out (entCells_one _) (by omega) (by decide) (T2.out).size ?_)
              intro B3 d3 v3 o3 k3 f3
              have T3 := hid ((T2.out).trans (k3.below (B := wd.heap.size) (T2.out).size (fun q h => (World.ownsRow.lt R2.out q h).1)))
              have R3 := hid o3
              clear o3 k3 f3
              refine wpOrd_op rfl ?_
              go_wp2_with fail
              obtain ⟨v4, hw⟩ : ∃ q, v3.alloc (.cells (Ent.cells ⟨tx, k⟩).toArray 38) = q := ⟨_, rfl⟩
              have K4 := hid (show Below v3.heap.size v3 v4 from by rw [← hw]; exact (Below.refl _ _).alloc (Nat.le_refl _) _)
              have Z4 : v3.heap.size < v4.heap.size := by rw [← hw]; simp
              have X4 := hid (show ∀ j u, (Ent.cells ⟨tx, k⟩)[j]? = some u → v4.cell? ((⟨v3.heap.size, 0, none⟩ : Addr).add j) = some u from by rw [← hw]; exact cells_new)
              first | rw [hw] | (simp only [Ent.cells] at hw; rw [hw])
              clear hw
              have T4 := hid ((T3.out).trans (K4.out.mono (T3.out).size))
              have R4 := hid (own_below R3.out K4.out)
              refine wpOrd_op rfl ?_
              go_wp2_with (at_builtin; refine wpList_appendK _ rfl _ _ 33 rfl wd.heap.size 38 _ 2 16 Try.underlying33 Try.infoEntry rfl (by decide) _ _ _ rfl R4.out ⟨v3.heap.size, 0, none⟩ 1 1 (Ent.cells ⟨tx, k⟩) (by go_simp) rfl X4.out (by intro u hu; simp [Ent.cells] at hu; rcases hu with rfl | rfl <;> rfl) (by omega) (by decide) (T4.out).size ?_)
              intro B5 d5 v5 o5 k5 f5
              have T5 := hid ((T4.out).trans (k5.below (B := wd.heap.size) (T4.out).size (fun q h => (World.ownsRow.lt R4.out q h).1)))
              have R5 := hid o5
              clear o5 k5 f5
              refine wpOrd_op rfl ?_
              have A6 := hid (ent_drop_cells (own_below HOd.out T5.out) i)
              go_wp2_with (at_builtin; refine wpList_appendK _ rfl _ _ 33 rfl wd.heap.size 38 _ 2 16 Try.underlying33 Try.infoEntry rfl (by decide) _ _ _ rfl R5.out ⟨g1, i * 2, none⟩ (n1 - i) (c1 - i) (entCells (L1.drop i)) (by go_simp) (by rw [entCells_length, List.length_drop, HN1.out]) A6.out (entCells_one _) (by omega) (by decide) (T5.out).size ?_)
              intro B6 d6 v6 o6 k6 f6
              have T6 := hid ((T5.out).trans (k6.below (B := wd.heap.size) (T5.out).size (fun q h => (World.ownsRow.lt R5.out q h).1)))
              have R6 := hid o6
              clear o6 k6 f6
              repeat (refine wpOrd_val rfl ?_; go_big_quiet_step (fail); refine wpQuiet_nil ?_)
              refine wpOrd_nil ?_
              have HX : Hid (∀ xs, xs = entCells (L1.take i) ++ ((Ent.cells ⟨tx, k⟩) ++ entCells (L1.drop i)) → xs = entCells (insE ⟨tx, k⟩ L1)) := by
                intro xs h
                rw [h, HINS.out, entCells_append]; simp [entCells]
              have HBF := hid (HB9.out.trans ((HBd.out.trans (T6.out.mono hzd)).mono HB9.out.size))
              have HLE : Hid (w.heap.size ≤ wd.heap.size) := by rw [Hid]; omega
              go_wp2_with fail
              go_ret2
              exact ⟨_, rfl, fin_row R6.out HLE.out (HX.out _ (by simp [entCells])), HBF.out⟩
            · go_wp2_with fail
              obtain ⟨v3, hw⟩ : ∃ q, v2.alloc (.cells (Ent.cells ⟨tx, k⟩).toArray 38) = q := ⟨_, rfl⟩
              have K3 := hid (show Below v2.heap.size v2 v3 from by rw [← hw]; exact (Below.refl _ _).alloc (Nat.le_refl _) _)
              have Z3 : v2.heap.size < v3.heap.size := by rw [← hw]; simp
              have X3 := hid (show ∀ j u, (Ent.cells ⟨tx, k⟩)[j]? = some u → v3.cell? ((⟨v2.heap.size, 0, none⟩ : Addr).add j) = some u from by rw [← hw]; exact cells_new)
              first | rw [hw] | (simp only [Ent.cells] at hw; rw [hw])
              clear hw
              have T3 := hid ((T2.out).trans (K3.out.mono (T2.out).size))
              have R3 := hid (own_below R2.out K3.out)
              refine wpOrd_op rfl ?_
              have A4 := hid (ent_take_cells (own_below HOd.out T3.out) i)
              go_wp2_with (at_builtin; refine wpList_appendK _ rfl _ _ 33 rfl wd.heap.size 38 _ 2 16 Try.underlying33 Try.infoEntry rfl (by decide) _ _ _ rfl R3.out ⟨g1, 0, none⟩ i c1 (entCells (L1.take i)) (by go_simp) (by rw [entCells_length, List.length_take]; have := HN1.out; omega) A4.out (entCells_one _) (by omega) (by decide) (T3.out).size ?_)
              intro B4 d4 v4 o4 k4 f4
              have T4 := hid ((T3.out).trans (k4.below (B := wd.heap.size) (T3.out).size (fun q h => (World.ownsRow.lt R3.out q h).1)))
              have X4 := hid (x_keep k4 Z3 (fun h => by simp only [Value.ownBlock, Option.some.injEq] at h; omega) X3.out)
              have Y4 : v2.heap.size < v4.heap.size := Nat.lt_of_lt_of_le Z3 k4.size
              have R4 := hid o4
              clear o4 k4 f4
              refine wpOrd_op rfl ?_
              go_wp2_with (at_builtin; refine wpList_appendK _ rfl _ _ 33 rfl wd.heap.size 38 _ 2 16 Try.underlying33 Try.infoEntry rfl (by decide) _ _ _ rfl R4.out ⟨v2.heap.size, 0, none⟩ 1 1 (Ent.cells ⟨tx, k⟩) (by go_simp) rfl X4.out (by intro u hu; simp [Ent.cells] at hu; rcases hu with rfl | rfl <;> rfl) (by omega) (by decide) (T4.out).size ?_)
              intro B5 d5 v5 o5 k5 f5
              have T5 := hid ((T4.out).trans (k5.below (B := wd.heap.size) (T4.out).size (fun q h => (World.ownsRow.lt R4.out q h).1)))
              have R5 := hid o5
              clear o5 k5 f5
              refine wpOrd_op rfl ?_
              have A6 := hid (ent_drop_cells (own_below HOd.out T5.out) i)
              go_wp2_with (at_builtin; refine wpList_appendK _ rfl _ _ 33 rfl wd.heap.size 38 _ 2 16 Try.underlying33 Try.infoEntry rfl (by decide) _ _ _ rfl R5.out ⟨g1, i * 2, none⟩ (n1 - i) (c1 - i) (entCells (L1.drop i)) (by go_simp) (by rw [entCells_length, List.length_drop, HN1.out]) A6.out (entCells_one _) (by omega) (by decide) (T5.out).size ?_)
              intro B6 d6 v6 o6 k6 f6
              have T6 := hid ((T5.out).trans (k6.below (B := wd.heap.size) (T5.out).size (fun q h => (World.ownsRow.lt R5.out q h).1)))
              have R6 := hid o6
              clear o6 k6 f6
              repeat (refine wpOrd_val rfl ?_; go_big_quiet_step (fail); refine wpQuiet_nil ?_)
              refine wpOrd_nil ?_
              have HX : Hid (∀ xs, xs = entCells (L1.take i) ++ ((Ent.cells ⟨tx, k⟩) ++ entCells (L1.drop i)) → xs = entCells (insE ⟨tx, k⟩ L1)) := by
                intro xs h
                rw [h, HINS.out, entCells_append]; simp [entCells]
              have HBF := hid (HB9.out.trans ((HBd.out.trans (T6.out.mono hzd)).mono HB9.out.size))
              have HLE : Hid (w.heap.size ≤ wd.heap.size) := by rw [Hid]; omega
              go_wp2_with fail
              go_ret2
              exact ⟨_, rfl, fin_row R6.out HLE.out (HX.out _ (by simp [entCells])), HBF.out⟩
          · go_wp2_with fail
            obtain ⟨v2, hw⟩ : ∃ q, wd.alloc (.cells (Ent.cells ⟨tx, k⟩).toArray 38) = q := ⟨_, rfl⟩
            have K2 := hid (show Below wd.heap.size wd v2 from by rw [← hw]; exact (Below.refl _ _).alloc (Nat.le_refl _) _)
            have Z2 : wd.heap.size < v2.heap.size := by rw [← hw]; simp
            have X2 := hid (show ∀ j u, (Ent.cells ⟨tx, k⟩)[j]? = some u → v2.cell? ((⟨wd.heap.size, 0, none⟩ : Addr).add j) = some u from by rw [← hw]; exact cells_new)
            first | rw [hw] | (simp only [Ent.cells] at hw; rw [hw])
            clear hw
            have T2 := hid (((Below.refl wd.heap.size wd)).trans (K2.out.mono ((Below.refl wd.heap.size wd)).size))
            refine wpOrd_op rfl ?_
            go_wp2_with fail
            obtain ⟨v3, hw⟩ : ∃ q, v2.alloc (.cells #[] 38) = q := ⟨_, rfl⟩
            have K3 := hid (show Below v2.heap.size v2 v3 from by rw [← hw]; exact (Below.refl _ _).alloc (Nat.le_refl _) _)
            have Z3 : v2.heap.size < v3.heap.size := by rw [← hw]; simp
            have R3 := hid (show v3.ownsRow wd.heap.size 38 2 (.slice (some ⟨v2.heap.size, 0, none⟩) 0 0) 0 [] from by rw [← hw]; exact World.ownsRow_made _ _ _ (T2.out).size (by simp [maxLen]) (by simp))
            first | rw [hw] | (simp only [Ent.cells] at hw; rw [hw])
            clear hw
            have T3 := hid ((T2.out).trans (K3.out.mono (T2.out).size))
            have X3 := hid (x_below K3.out Z2 X2.out)
            have Y3 : wd.heap.size < v3.heap.size := by omega
            refine wpOrd_op rfl ?_
            have A4 := hid (ent_take_cells (own_below HOd.out T3.out) i)
            go_wp2_with (at_builtin; refine wpList_appendK _ rfl _ _ 33 rfl wd.heap.size 38 _ 2 16 Try.underlying33 Try.infoEntry rfl (by decide) _ _ _ rfl R3.out ⟨g1, 0, none⟩ i c1 (entCells (L1.take i)) (by go_simp) (by rw [entCells_length, List.length_take]; have := HN1.out; omega) A4.out (entCells_one _) (by omega) (by decide) (T3.out).size ?_)
            intro B4 d4 v4 o4 k4 f4
            have T4 := hid ((T3.out).trans (k4.below (B := wd.heap.size) (T3.out).size (fun q h => (World.ownsRow.lt R3.out q h).1)))
            have X4 := hid (x_keep k4 Y3 (fun h => by simp only [Value.ownBlock, Option.some.injEq] at h; omega) X3.out)
            have Y4 : wd.heap.size < v4.heap.size := Nat.lt_of_lt_of_le Y3 k4.size
            have R4 := hid o4
            clear o4 k4 f4
            refine wpOrd_op rfl ?_
            go_wp2_with (at_builtin; refine wpList_appendK _ rfl _ _ 33 rfl wd.heap.size 38 _ 2 16 Try.underlying33 Try.infoEntry rfl (by decide) _ _ _ rfl R4.out ⟨wd.heap.size, 0, none⟩ 1 1 (Ent.cells ⟨tx, k⟩) (by go_simp) rfl X4.out (by intro u hu; simp [Ent.cells] at hu; rcases hu with rfl | rfl <;> rfl) (by omega) (by decide) (T4.out).size ?_)
            intro B5 d5 v5 o5 k5 f5
            have T5 := hid ((T4.out).trans (k5.below (B := wd.heap.size) (T4.out).size (fun q h => (World.ownsRow.lt R4.out q h).1)))
            have R5 := hid o5
            clear o5 k5 f5
            refine wpOrd_op rfl ?_
            have A6 := hid (ent_drop_cells (own_below HOd.out T5.out) i)
            go_wp2_with (at_builtin; refine wpList_appendK _ rfl _ _ 33 rfl wd.heap.size 38 _ 2 16 Try.underlying33 Try.infoEntry rfl (by decide) _ _ _ rfl R5.out ⟨g1, i * 2, none⟩ (n1 - i) (c1 - i) (entCells (L1.drop i)) (by go_simp) (by rw [entCells_length, List.length_drop, HN1.out]) A6.out (entCells_one _) (by omega) (by decide) (T5.out).size ?_)
            intro B6 d6 v6 o6 k6 f6
            have T6 := hid ((T5.out).trans (k6.below (B := wd.heap.size) (T5.out).size (fun q h => (World.ownsRow.lt R5.out q h).1)))
            have R6 := hid o6
            clear o6 k6 f6
            repeat (refine wpOrd_val rfl ?_; go_big_quiet_step (fail); refine wpQuiet_nil ?_)
            refine wpOrd_nil ?_
            have HX : Hid (∀ xs, xs = entCells (L1.take i) ++ ((Ent.cells ⟨tx, k⟩) ++ entCells (L1.drop i)) → xs = entCells (insE ⟨tx, k⟩ L1)) := by
              intro xs h
              rw [h, HINS.out, entCells_append]; simp [entCells]
            have HBF := hid (HB9.out.trans ((HBd.out.trans (T6.out.mono hzd)).mono HB9.out.size))
            have HLE : Hid (w.heap.size ≤ wd.heap.size) := by rw [Hid]; omega
            go_wp2_with fail
            go_ret2
            exact ⟨_, rfl, fin_row R6.out HLE.out (HX.out _ (by simp [entCells])), HBF.out⟩
    · obtain rfl : n1 = i := by omega
      have hinD : decide (n1 < n1) = false := by simp
      have HINS : Hid (insE ⟨tx, k⟩ L1 = L1.take n1 ++ ⟨tx, k⟩ :: L1.drop n1) := insE_at ⟨tx, k⟩ L1 n1 (by have := HN1.out; omega) HJ.out (fun h => by have := HN1.out; omega)
      go_wp2_with fail
      go_quiet (fail)
      obtain ⟨w9, hw9⟩ : ∃ q, wr.drewN nq = q := ⟨_, rfl⟩
      have hb9' : Below wr.heap.size wr w9 := by rw [← hw9]; exact drewN_below _ _
      rw [hw9]
      clear hw9
      have x09 := (hb9'.cell (p := ⟨w1.heap.size, 0, none⟩) hlr).trans b0
      have x19 := (hb9'.cell (p := ⟨w1.heap.size, 1, none⟩) hlr).trans b1
      have hbx : w1.heap.size < w9.heap.size := Nat.lt_of_lt_of_le hlr hb9'.size
      have HB19 := hid (HBR.out.trans (hb9'.mono HBR.out.size))
      have HB9 := hid (HB1.out.trans (HB19.out.mono HB1.out.size))
      have HO9 := hid (own_below HO2.out hb9')
      clear hb9' b0 b1
      by_cases hcc : c1 = n1
      · subst hcc
        go_wp2_with fail
        refine wp_region_ord (.val 1 (.val 2 (.val 3 (.val 8 (.val 9 (.val 10 (.two 0 (.two 4 (.op 5 (.op 6 (.op 7 (.op 11 (.val 12 (.val 13 (.nil))))))) 5 (.two 4 (.op 6 (.op 7 (.op 11 (.val 12 (.val 13 (.nil)))))) 6 (.op 4 (.op 7 (.op 11 (.val 12 (.val 13 (.nil)))))))) 5 (.two 0 (.two 4 (.op 6 (.op 7 (.op 11 (.val 12 (.val 13 (.nil)))))) 6 (.op 4 (.op 7 (.op 11 (.val 12 (.val 13 (.nil))))))) 6 (.op 0 (.op 4 (.op 7 (.op 11 (.val 12 (.val 13 (.nil))))))))))))))) (by kernel_rfl) (by kernel_rfl) ?_
        obtain ⟨wd, hwd⟩ : ∃ q, w9.drewN 1 = q := ⟨_, rfl⟩
        have HBd : Hid (Below w9.heap.size w9 wd) := by rw [← hwd]; exact drewN_below _ 1
        have hzd : w9.heap.size ≤ wd.heap.size := HBd.out.size
        rw [hwd]
        clear hwd
        have HOd := hid (own_below HO9.out HBd.out)
        have x0d := (HBd.out.cell (p := ⟨w1.heap.size, 0, none⟩) hbx).trans x09
        have x1d := (HBd.out.cell (p := ⟨w1.heap.size, 1, none⟩) hbx).trans x19
        clear x09 x19
        have hz9 := HB9.out.size
        have hbxd : w1.heap.size < wd.heap.size := by omega
        repeat (refine wpOrd_val rfl ?_; go_big_quiet_step (fail); refine wpQuiet_nil ?_)
        refine wpOrd_two rfl rfl ?_ ?_
        · go_wp2_with fail
          obtain ⟨v1, hw⟩ : ∃ q, wd.alloc (.cells #[] 38) = q := ⟨_, rfl⟩
          have K1 := hid (show Below wd.heap.size wd v1 from by rw [← hw]; exact (Below.refl _ _).alloc (Nat.le_refl _) _)
          have Z1 : wd.heap.size < v1.heap.size := by rw [← hw]; simp
          have R1 := hid (show v1.ownsRow wd.heap.size 38 2 (.slice (some ⟨wd.heap.size, 0, none⟩) 0 0) 0 [] from by rw [← hw]; exact World.ownsRow_made _ _ _ ((Below.refl wd.heap.size wd)).size (by simp [maxLen]) (by simp))
          first | rw [hw] | (simp only [Ent.cells] at hw; rw [hw])
          clear hw
          have T1 := hid (((Below.refl wd.heap.size wd)).trans (K1.out.mono ((Below.refl wd.heap.size wd)).size))
          refine wpOrd_two rfl rfl ?_ ?_
          · have A2 := hid (ent_take_cells (own_below HOd.out T1.out) c1)
            go_wp2_with (at_builtin; refine wpList_appendK _ rfl _ _ 33 rfl wd.heap.size 38 _ 2 16 Try.underlying33 Try.infoEntry rfl (by decide) _ _ _ rfl R1.out ⟨g1, 0, none⟩ c1 c1 (entCells (L1.take c1)) (by go_simp) (by rw [entCells_length, List.length_take]; have := HN1.out; omega) A2.out (entCells_one _) (by omega) (by decide) (T1.out).size ?_)
            intro B2 d2 v2 o2 k2 f2
            have T2 := hid ((T1.out).trans (k2.below (B := wd.heap.size) (T1.out).size (fun q h => (World.ownsRow.lt R1.out q h).1)))
            have R2 := hid o2
            clear o2 k2 f2
            refine wpOrd_op rfl ?_
            have y0 := ((T2.out).cell (p := ⟨w1.heap.size, 0, none⟩) hbxd).trans x0d
            have y1 := ((T2.out).cell (p := ⟨w1.heap.size, 1, none⟩) hbxd).trans x1d
            go_wp2_with fail
            refine wpOrd_op rfl ?_
            go_wp2_with fail
            obtain ⟨v4, hw⟩ : ∃ q, v2.alloc (.cells (Ent.cells ⟨tx, k⟩).toArray 38) = q := ⟨_, rfl⟩
            have K4 := hid (show Below v2.heap.size v2 v4 from by rw [← hw]; exact (Below.refl _ _).alloc (Nat.le_refl _) _)
            have Z4 : v2.heap.size < v4.heap.size := by rw [← hw]; simp
            have X4 := hid (show ∀ j u, (Ent.cells ⟨tx, k⟩)[j]? = some u → v4.cell? ((⟨v2.heap.size, 0, none⟩ : Addr).add j) = some u from by rw [← hw]; exact cells_new)
            first | rw [hw] | (simp only [Ent.cells] at hw; rw [hw])
            clear hw
            have T4 := hid ((T2.out).trans (K4.out.mono (T2.out).size))
            have R4 := hid (own_below R2.out K4.out)
            refine wpOrd_op rfl ?_
            go_wp2_with (at_builtin; refine wpList_appendK _ rfl _ _ 33 rfl wd.heap.size 38 _ 2 16 Try.underlying33 Try.infoEntry rfl (by decide) _ _ _ rfl R4.out ⟨v2.heap.size, 0, none⟩ 1 1 (Ent.cells ⟨tx, k⟩) (by go_simp) rfl X4.out (by intro u hu; simp [Ent.cells] at hu; rcases hu with rfl | rfl <;> rfl) (by omega) (by decide) (T4.out).size ?_)
            intro B5 d5 v5 o5 k5 f5
            have T5 := hid ((T4.out).trans (k5.below (B := wd.heap.size) (T4.out).size (fun q h => (World.ownsRow.lt R4.out q h).1)))
            have R5 := hid o5
            clear o5 k5 f5
            refine wpOrd_op rfl ?_
            go_wp2_with (at_builtin; refine wpList_appendK _ rfl _ _ 33 rfl wd.heap.size 38 _ 2 16 Try.underlying33 Try.infoEntry rfl (by decide) _ _ _ rfl R5.out ⟨g1, 0, none⟩ 0 0 [] (by go_simp) rfl (by intro j u hu; simp at hu) (by intro u hu; simp at hu) (by omega) (by decide) (T5.out).size ?_)
            intro B6 d6 v6 o6 k6 f6
            have T6 := hid ((T5.out).trans (k6.below (B := wd.heap.size) (T5.out).size (fun q h => (World.ownsRow.lt R5.out q h).1)))
            have R6 := hid o6
            clear o6 k6 f6
            repeat (refine wpOrd_val rfl ?_; go_big_quiet_step (fail); refine wpQuiet_nil ?_)
            refine wpOrd_nil ?_
            have HX : Hid (∀ xs, xs = entCells (L1.take c1) ++ ((Ent.cells ⟨tx, k⟩) ++ entCells (L1.drop c1)) → xs = entCells (insE ⟨tx, k⟩ L1)) := by
              intro xs h
              rw [h, HINS.out, entCells_append]; simp [entCells]
            have HBF := hid (HB9.out.trans ((HBd.out.trans (T6.out.mono hzd)).mono HB9.out.size))
            have HLE : Hid (w.heap.size ≤ wd.heap.size) := by rw [Hid]; omega
            go_wp2_with fail
            go_ret2
            exact ⟨_, rfl, fin_row R6.out HLE.out (HX.out _ (by rw [show L1.drop c1 = [] from List.drop_of_length_le (by rw [HN1.out]; omega)]; simp [entCells])), HBF.out⟩
          · have y0 := ((T1.out).cell (p := ⟨w1.heap.size, 0, none⟩) hbxd).trans x0d
            have y1 := ((T1.out).cell (p := ⟨w1.heap.size, 1, none⟩) hbxd).trans x1d
            go_wp2_with fail
            refine wpOrd_two rfl rfl ?_ ?_
            · have A3 := hid (ent_take_cells (own_below HOd.out T1.out) c1)
              go_wp2_with (at_builtin; refine wpList_appendK _ rfl _ _ 33 rfl wd.heap.size 38 _ 2 16 Try.underlying33 Try.infoEntry rfl (by decide) _ _ _ rfl R1.out ⟨g1, 0, none⟩ c1 c1 (entCells (L1.take c1)) (by go_simp) (by rw [entCells_length, List.length_take]; have := HN1.out; omega) A3.out (entCells_one _) (by omega) (by decide) (T1.out).size ?_)
              intro B3 d3 v3 o3 k3 f3
              have T3 := hid ((T1.out).trans (k3.below (B := wd.heap.size) (T1.out).size (fun q h => (World.ownsRow.lt R1.out q h).1)))
              have R3 := hid o3
              clear o3 k3 f3
              refine wpOrd_op rfl ?_
              go_wp2_with fail
              obtain ⟨v4, hw⟩ : ∃ q, v3.alloc (.cells (Ent.cells ⟨tx, k⟩).toArray 38) = q := ⟨_, rfl⟩
              have K4 := hid (show Below v3.heap.size v3 v4 from by rw [← hw]; exact (Below.refl _ _).alloc (Nat.le_refl _) _)
              have Z4 : v3.heap.size < v4.heap.size := by rw [← hw]; simp
              have X4 := hid (show ∀ j u, (Ent.cells ⟨tx, k⟩)[j]? = some u → v4.cell? ((⟨v3.heap.size, 0, none⟩ : Addr).add j) = some u from by rw [← hw]; exact cells_new)
              first | rw [hw] | (simp only [Ent.cells] at hw; rw [hw])
              clear hw
              have T4 := hid ((T3.out).trans (K4.out.mono (T3.out).size))
              have R4 := hid (own_below R3.out K4.out)
              refine wpOrd_op rfl ?_
              go_wp2_with (at_builtin; refine wpList_appendK _ rfl _ _ 33 rfl wd.heap.size 38 _ 2 16 Try.underlying33 Try.infoEntry rfl (by decide) _ _ _ rfl R4.out ⟨v3.heap.size, 0, none⟩ 1 1 (Ent.cells ⟨tx, k⟩) (by go_simp) rfl X4.out (by intro u hu; simp [Ent.cells] at hu; rcases hu with rfl | rfl <;> rfl) (by omega) (by decide) (T4.out).size ?_)
              intro B5 d5 v5 o5 k5 f5
              have T5 := hid ((T4.out).trans (k5.below (B := wd.heap.size) (T4.out).size (fun q h => (World.ownsRow.lt R4.out q h).1)))
              have R5 := hid o5
              clear o5 k5 f5
              refine wpOrd_op rfl ?_
              go_wp2_with (at_builtin; refine wpList_appendK _ rfl _ _ 33 rfl wd.heap.size 38 _ 2 16 Try.underlying33 Try.infoEntry rfl (by decide) _ _ _ rfl R5.out ⟨g1, 0, none⟩ 0 0 [] (by go_simp) rfl (by intro j u hu; simp at hu) (by intro u hu; simp at hu) (by omega) (by decide) (T5.out).size ?_)
              intro B6 d6 v6 o6 k6 f6
              have T6 := hid ((T5.out).trans (k6.below (B := wd.heap.size) (T5.out).size (fun q h => (World.ownsRow.lt R5.out q h).1)))
              have R6 := hid o6
              clear o6 k6 f6
              repeat (refine wpOrd_val rfl ?_; go_big_quiet_step (fail); refine wpQuiet_nil ?_)
              refine wpOrd_nil ?_
              have HX : Hid (∀ xs, xs = entCells (L1.take c1) ++ ((Ent.cells ⟨tx, k⟩) ++ entCells (L1.drop c1)) → xs = entCells (insE ⟨tx, k⟩ L1)) := by
                intro xs h
                rw [h, HINS.out, entCells_append]; simp [entCells]
              have HBF := hid (HB9.out.trans ((HBd.out.trans (T6.out.mono hzd)).mono HB9.out.size))
              have HLE : Hid (w.heap.size ≤ wd.heap.size) := by rw [Hid]; omega
              go_wp2_with fail
              go_ret2
              exact ⟨_, rfl, fin_row R6.out HLE.out (HX.out _ (by rw [show L1.drop c1 = [] from List.drop_of_length_le (by rw [HN1.out]; omega)]; simp [entCells])), HBF.out⟩
            · go_wp2_with fail
              obtain ⟨v3, hw⟩ : ∃ q, v1.alloc (.cells (Ent.cells ⟨tx, k⟩).toArray 38) = q := ⟨_, rfl⟩
              have K3 := hid (show Below v1.heap.size v1 v3 from by rw [← hw]; exact (Below.refl _ _).alloc (Nat.le_refl _) _)
              have Z3 : v1.heap.size < v3.heap.size := by rw [← hw]; simp
              have X3 := hid (show ∀ j u, (Ent.cells ⟨tx, k⟩)[j]? = some u → v3.cell? ((⟨v1.heap.size, 0, none⟩ : Addr).add j) = some u from by rw [← hw]; exact cells_new)
              first | rw [hw] | (simp only [Ent.cells] at hw; rw [hw])
              clear hw
              have T3 := hid ((T1.out).trans (K3.out.mono (T1.out).size))
              have R3 := hid (own_below R1.out K3.out)
              refine wpOrd_op rfl ?_
              have A4 := hid (ent_take_cells (own_below HOd.out T3.out) c1)
              go_wp2_with (at_builtin; refine wpList_appendK _ rfl _ _ 33 rfl wd.heap.size 38 _ 2 16 Try.underlying33 Try.infoEntry rfl (by decide) _ _ _ rfl R3.out ⟨g1, 0, none⟩ c1 c1 (entCells (L1.take c1)) (by go_simp) (by rw [entCells_length, List.length_take]; have := HN1.out; omega) A4.out (entCells_one _) (by omega) (by decide) (T3.out).size ?_)
              intro B4 d4 v4 o4 k4 f4
              have T4 := hid ((T3.out).trans (k4.below (B := wd.heap.size) (T3.out).size (fun q h => (World.ownsRow.lt R3.out q h).1)))
              have X4 := hid (x_keep k4 Z3 (fun h => by simp only [Value.ownBlock, Option.some.injEq] at h; omega) X3.out)
              have Y4 : v1.heap.size < v4.heap.size := Nat.lt_of_lt_of_le Z3 k4.size
              have R4 := hid o4
              clear o4 k4 f4
              refine wpOrd_op rfl ?_
              go_wp2_with (at_builtin; refine wpList_appendK _ rfl _ _ 33 rfl wd.heap.size 38 _ 2 16 Try.underlying33 Try.infoEntry rfl (by decide) _ _ _ rfl R4.out ⟨v1.heap.size, 0, none⟩ 1 1 (Ent.cells ⟨tx, k⟩) (by go_simp) rfl X4.out (by intro u hu; simp [Ent.cells] at hu; rcases hu with rfl | rfl <;> rfl) (by omega) (by decide) (T4.out).size ?_)
              intro B5 d5 v5 o5 k5 f5
              have T5 := hid ((T4.out).trans (k5.below (B := wd.heap.size) (T4.out).size (fun q h => (World.ownsRow.lt R4.out q h).1)))
              have R5 := hid o5
              clear o5 k5 f5
              refine wpOrd_op rfl ?_
              go_wp2_with (at_builtin; refine wpList_appendK _ rfl _ _ 33 rfl wd.heap.size 38 _ 2 16 Try.underlying33 Try.infoEntry rfl (by decide) _ _ _ rfl R5.out ⟨g1, 0, none⟩ 0 0 [] (by go_simp) rfl (by intro j u hu; simp at hu) (by intro u hu; simp at hu) (by omega) (by decide) (T5.out).size ?_)
              intro B6 d6 v6 o6 k6 f6
              have T6 := hid ((T5.out).trans (k6.below (B := wd.heap.size) (T5.out).size (fun q h => (World.ownsRow.lt R5.out q h).1)))
              have R6 := hid o6
              clear o6 k6 f6
              repeat (refine wpOrd_val rfl ?_; go_big_quiet_step (fail); refine wpQuiet_nil ?_)
              refine wpOrd_nil ?_
              have HX : Hid (∀ xs, xs = entCells (L1.take c1) ++ ((Ent.cells ⟨tx, k⟩) ++ entCells (L1.drop c1)) → xs = entCells (insE ⟨tx, k⟩ L1)) := by
                intro xs h
                rw [h, HINS.out, entCells_append]; simp [entCells]
              have HBF := hid (HB9.out.trans ((HBd.out.trans (T6.out.mono hzd)).mono HB9.out.size))
              have HLE : Hid (w.heap.size ≤ wd.heap.size) := by rw [Hid]; omega
              go_wp2_with fail
              go_ret2
              exact ⟨_, rfl, fin_row R6.out HLE.out (HX.out _ (by rw [show L1.drop c1 = [] from List.drop_of_length_le (by rw [HN1.out]; omega)]; simp [entCells])), HBF.out⟩
        · have y0 := (((Below.refl wd.heap.size wd)).cell (p := ⟨w1.heap.size, 0, none⟩) hbxd).trans x0d
          have y1 := (((Below.refl wd.heap.size wd)).cell (p := ⟨w1.heap.size, 1, none⟩) hbxd).trans x1d
          go_wp2_with fail
          refine wpOrd_two rfl rfl ?_ ?_
          · go_wp2_with fail
            obtain ⟨v2, hw⟩ : ∃ q, wd.alloc (.cells #[] 38) = q := ⟨_, rfl⟩
            have K2 := hid (show Below wd.heap.size wd v2 from by rw [← hw]; exact (Below.refl _ _).alloc (Nat.le_refl _) _)
            have Z2 : wd.heap.size < v2.heap.size := by rw [← hw]; simp
            have R2 := hid (show v2.ownsRow wd.heap.size 38 2 (.slice (some ⟨wd.heap.size, 0, none⟩) 0 0) 0 [] from by rw [← hw]; exact World.ownsRow_made _ _ _ ((Below.refl wd.heap.size wd)).size (by simp [maxLen]) (by simp))
            first | rw [hw] | (simp only [Ent.cells] at hw; rw [hw])
            clear hw
            have T2 := hid (((Below.refl wd.heap.size wd)).trans (K2.out.mono ((Below.refl wd.heap.size wd)).size))
            refine wpOrd_two rfl rfl ?_ ?_
            · have A3 := hid (ent_take_cells (own_below HOd.out T2.out) c1)
              go_wp2_with (at_builtin; refine wpList_appendK _ rfl _ _ 33 rfl wd.heap.size 38 _ 2 16 Try.underlying33 Try.infoEntry rfl (by decide) _ _ _ rfl R2.out ⟨g1, 0, none⟩ c1 c1 (entCells (L1.take c1)) (by go_simp) (by rw [entCells_length, List.length_take]; have := HN1.out; omega) A3.out (entCells_one _) (by omega) (by decide) (T2.out).size ?_)
              intro B3 d3 v3 o3 k3 f3
              have T3 := hid ((T2.out).trans (k3.below (B := wd.heap.size) (T2.out).size (fun q h => (World.ownsRow.lt R2.out q h).1)))
              have R3 := hid o3
              clear o3 k3 f3
              refine wpOrd_op rfl ?_
              go_wp2_with fail
              obtain ⟨v4, hw⟩ : ∃ q, v3.alloc (.cells (Ent.cells ⟨tx, k⟩).toArray 38) = q := ⟨_, rfl⟩
              have K4 := hid (show Below v3.heap.size v3 v4 from by rw [← hw]; exact (Below.refl _ _).alloc (Nat.le_refl _) _)
              have Z4 : v3.heap.size < v4.heap.size := by rw [← hw]; simp
              have X4 := hid (show ∀ j u, (Ent.cells ⟨tx, k⟩)[j]? = some u → v4.cell? ((⟨v3.heap.size, 0, none⟩ : Addr).add j) = some u from by rw [← hw]; exact cells_new)
              first | rw [hw] | (simp only [Ent.cells] at hw; rw [hw])
              clear hw
              have T4 := hid ((T3.out).trans (K4.out.mono (T3.out).size))
              have R4 := hid (own_below R3.out K4.out)
              refine wpOrd_op rfl ?_
              go_wp2_with (at_builtin; refine wpList_appendK _ rfl _ _ 33 rfl wd.heap.size 38 _ 2 16 Try.underlying33 Try.infoEntry rfl (by decide) _ _ _ rfl R4.out ⟨v3.heap.size, 0, none⟩ 1 1 (Ent.cells ⟨tx, k⟩) (by go_simp) rfl X4.out (by intro u hu; simp [Ent.cells] at hu; rcases hu with rfl | rfl <;> rfl) (by omega) (by decide) (T4.out).size ?_)
              intro B5 d5 v5 o5 k5 f5
              have T5 := hid ((T4.out).trans (k5.below (B := wd.heap.size) (T4.out).size (fun q h => (World.ownsRow.lt R4.out q h).1)))
              have R5 := hid o5
              clear o5 k5 f5
              refine wpOrd_op rfl ?_
              go_wp2_with (at_builtin; refine wpList_appendK _ rfl _ _ 33 rfl wd.heap.size 38 _ 2 16 Try.underlying33 Try.infoEntry rfl (by decide) _ _ _ rfl R5.out ⟨g1, 0, none⟩ 0 0 [] (by go_simp) rfl (by intro j u hu; simp at hu) (by intro u hu; simp at hu) (by omega) (by decide) (T5.out).size ?_)
              intro B6 d6 v6 o6 k6 f6
              have T6 := hid ((T5.out).trans (k6.below (B := wd.heap.size) (T5.out).size (fun q h => (World.ownsRow.lt R5.out q h).1)))
              have R6 := hid o6
              clear o6 k6 f6
              repeat (refine wpOrd_val rfl ?_; go_big_quiet_step (fail); refine wpQuiet_nil ?_)
              refine wpOrd_nil ?_
              have HX : Hid (∀ xs, xs = entCells (L1.take c1) ++ ((Ent.cells ⟨tx, k⟩) ++ entCells (L1.drop c1)) → xs = entCells (insE ⟨tx, k⟩ L1)) := by
                intro xs h
                rw [h, HINS.out, entCells_append]; simp [entCells]
              have HBF := hid (HB9.out.trans ((HBd.out.trans (T6.out.mono hzd)).mono HB9.out.size))
              have HLE : Hid (w.heap.size ≤ wd.heap.size) := by rw [Hid]; omega
              go_wp2_with fail
              go_ret2
              exact ⟨_, rfl, fin_row R6.out HLE.out (HX.out _ (by rw [show L1.drop c1 = [] from List.drop_of_length_le (by rw [HN1.out]; omega)]; simp [entCells])), HBF.out⟩
            · go_wp2_with fail
              obtain ⟨v3, hw⟩ : ∃ q, v2.alloc (.cells (Ent.cells ⟨tx, k⟩).toArray 38) = q := ⟨_, rfl⟩
              have K3 := hid (show Below v2.heap.size v2 v3 from by rw [← hw]; exact (Below.refl _ _).alloc (Nat.le_refl _) _)
              have Z3 : v2.heap.size < v3.heap.size := by rw [← hw]; simp
              have X3 := hid (show ∀ j u, (Ent.cells ⟨tx, k⟩)[j]? = some u → v3.cell? ((⟨v2.heap.size, 0, none⟩ : Addr).add j) = some u from by rw [← hw]; exact cells_new)
              first | rw [hw] | (simp only [Ent.cells] at hw; rw [hw])
              clear hw
              have T3 := hid ((T2.out).trans (K3.out.mono (T2.out).size))
              have R3 := hid (own_below R2.out K3.out)
              refine wpOrd_op rfl ?_
              have A4 := hid (ent_take_cells (own_below HOd.out T3.out) c1)
              go_wp2_with (at_builtin; refine wpList_appendK _ rfl _ _ 33 rfl wd.heap.size 38 _ 2 16 Try.underlying33 Try.infoEntry rfl (by decide) _ _ _ rfl R3.out ⟨g1, 0, none⟩ c1 c1 (entCells (L1.take c1)) (by go_simp) (by rw [entCells_length, List.length_take]; have := HN1.out; omega) A4.out (entCells_one _) (by omega) (by decide) (T3.out).size ?_)
              intro B4 d4 v4 o4 k4 f4
              have T4 := hid ((T3.out).trans (k4.below (B := wd.heap.size) (T3.out).size (fun q h => (World.ownsRow.lt R3.out q h).1)))
              have X4 := hid (x_keep k4 Z3 (fun h => by simp only [Value.ownBlock, Option.some.injEq] at h; omega) X3.out)
              have Y4 : v2.heap.size < v4.heap.size := Nat.lt_of_lt_of_le Z3 k4.size
              have R4 := hid o4
              clear o4 k4 f4
              refine wpOrd_op rfl ?_
              go_wp2_with (at_builtin; refine wpList_appendK _ rfl _ _ 33 rfl wd.heap.size 38 _ 2 16 Try.underlying33 Try.infoEntry rfl (by decide) _ _ _ rfl R4.out ⟨v2.heap.size, 0, none⟩ 1 1 (Ent.cells ⟨tx, k⟩) (by go_simp) rfl X4.out (by intro u hu; simp [Ent.cells] at hu; rcases hu with rfl | rfl <;> rfl) (by omega) (by decide) (T4.out).size ?_)
              intro B5 d5 v5 o5 k5 f5
              have T5 := hid ((T4.out).trans (k5.below (B := wd.heap.size) (T4.out).size (fun q h => (World.ownsRow.lt R4.out q h).1)))
              have R5 := hid o5
              clear o5 k5 f5
              refine wpOrd_op rfl ?_
              go_wp2_with (at_builtin; refine wpList_appendK _ rfl _ _ 33 rfl wd.heap.size 38 _ 2 16 Try.underlying33 Try.infoEntry rfl (by decide) _ _ _ rfl R5.out ⟨g1, 0, none⟩ 0 0 [] (by go_simp) rfl (by intro j u hu; simp at hu) (by intro u hu; simp at hu) (by omega) (by decide) (T5.out).size ?_)
              intro B6 d6 v6 o6 k6 f6
              have T6 := hid ((T5.out).trans (k6.below (B := wd.heap.size) (T5.out).size (fun q h => (World.ownsRow.lt R5.out q h).1)))
              have R6 := hid o6
              clear o6 k6 f6
              repeat (refine wpOrd_val rfl ?_; go_big_quiet_step (fail); refine wpQuiet_nil ?_)
              refine wpOrd_nil ?_
              have HX : Hid (∀ xs, xs = entCells (L1.take c1) ++ ((Ent.cells ⟨tx, k⟩) ++ entCells (L1.drop c1)) → xs = entCells (insE ⟨tx, k⟩ L1)) := by
                intro xs h
                rw [h, HINS.out, entCells_append]; simp [entCells]
              have HBF := hid (HB9.out.trans ((HBd.out.trans (T6.out.mono hzd)).mono HB9.out.size))
              have HLE : Hid (w.heap.size ≤ wd.heap.size) := by rw [Hid]; omega
              go_wp2_with fail
              go_ret2
              exact ⟨_, rfl, fin_row R6.out HLE.out (HX.out _ (by rw [show L1.drop c1 = [] from List.drop_of_length_le (by rw [HN1.out]; omega)]; simp [entCells])), HBF.out⟩
          · go_wp2_with fail
            obtain ⟨v2, hw⟩ : ∃ q, wd.alloc (.cells (Ent.cells ⟨tx, k⟩).toArray 38) = q := ⟨_, rfl⟩
            have K2 := hid (show Below wd.heap.size wd v2 from by rw [← hw]; exact (Below.refl _ _).alloc (Nat.le_refl _) _)
            have Z2 : wd.heap.size < v2.heap.size := by rw [← hw]; simp
            have X2 := hid (show ∀ j u, (Ent.cells ⟨tx, k⟩)[j]? = some u → v2.cell? ((⟨wd.heap.size, 0, none⟩ : Addr).add j) = some u from by rw [← hw]; exact cells_new)
            first | rw [hw] | (simp only [Ent.cells] at hw; rw [hw])
            clear hw
            have T2 := hid (((Below.refl wd.heap.size wd)).trans (K2.out.mono ((Below.refl wd.heap.size wd)).size))
            refine wpOrd_op rfl ?_
            go_wp2_with fail
            obtain ⟨v3, hw⟩ : ∃ q, v2.alloc (.cells #[] 38) = q := ⟨_, rfl⟩
            have K3 := hid (show Below v2.heap.size v2 v3 from by rw [← hw]; exact (Below.refl _ _).alloc (Nat.le_refl _) _)
            have Z3 : v2.heap.size < v3.heap.size := by rw [← hw]; simp
            have R3 := hid (show v3.ownsRow wd.heap.size 38 2 (.slice (some ⟨v2.heap.size, 0, none⟩) 0 0) 0 [] from by rw [← hw]; exact World.ownsRow_made _ _ _ (T2.out).size (by simp [maxLen]) (by simp))
            first | rw [hw] | (simp only [Ent.cells] at hw; rw [hw])
            clear hw
            have T3 := hid ((T2.out).trans (K3.out.mono (T2.out).size))
            have X3 := hid (x_below K3.out Z2 X2.out)
            have Y3 : wd.heap.size < v3.heap.size := by omega
            refine wpOrd_op rfl ?_
            have A4 := hid (ent_take_cells (own_below HOd.out T3.out) c1)
            go_wp2_with (at_builtin; refine wpList_appendK _ rfl _ _ 33 rfl wd.heap.size 38 _ 2 16 Try.underlying33 Try.infoEntry rfl (by decide) _ _ _ rfl R3.out ⟨g1, 0, none⟩ c1 c1 (entCells (L1.take c1)) (by go_simp) (by rw [entCells_length, List.length_take]; have := HN1.out; omega) A4.out (entCells_one _) (by omega) (by decide) (T3.out).size ?_)
            intro B4 d4 v4 o4 k4 f4
            have T4 := hid ((T3.out).trans (k4.below (B := wd.heap.size) (T3.out).size (fun q h => (World.ownsRow.lt R3.out q h).1)))
            have X4 := hid (x_keep k4 Y3 (fun h => by simp only [Value.ownBlock, Option.some.injEq] at h; omega) X3.out)
            have Y4 : wd.heap.size < v4.heap.size := Nat.lt_of_lt_of_le Y3 k4.size
            have R4 := hid o4
            clear o4 k4 f4
            refine wpOrd_op rfl ?_
            go_wp2_with (at_builtin; refine wpList_appendK _ rfl _ _ 33 rfl wd.heap.size 38 _ 2 16 Try.underlying33 Try.infoEntry rfl (by decide) _ _ _ rfl R4.out ⟨wd.heap.size, 0, none⟩ 1 1 (Ent.cells ⟨tx, k⟩) (by go_simp) rfl X4.out (by intro u hu; simp [Ent.cells] at hu; rcases hu with rfl | rfl <;> rfl) (by omega) (by decide) (T4.out).size ?_)
            intro B5 d5 v5 o5 k5 f5
            have T5 := hid ((T4.out).trans (k5.below (B := wd.heap.size) (T4.out).size (fun q h => (World.ownsRow.lt R4.out q h).1)))
            have R5 := hid o5
            clear o5 k5 f5
            refine wpOrd_op rfl ?_
            go_wp2_with (at_builtin; refine wpList_appendK _ rfl _ _ 33 rfl wd.heap.size 38 _ 2 16 Try.underlying33 Try.infoEntry rfl (by decide) _ _ _ rfl R5.out ⟨g1, 0, none⟩ 0 0 [] (by go_simp) rfl (by intro j u hu; simp at hu) (by intro u hu; simp at hu) (by omega) (by decide) (T5.out).size ?_)
            intro B6 d6 v6 o6 k6 f6
            have T6 := hid ((T5.out).trans (k6.below (B := wd.heap.size) (T5.out).size (fun q h => (World.ownsRow.lt R5.out q h).1)))
            have R6 := hid o6
            clear o6 k6 f6
            repeat (refine wpOrd_val rfl ?_; go_big_quiet_step (fail); refine wpQuiet_nil ?_)
            refine wpOrd_nil ?_
            have HX : Hid (∀ xs, xs = entCells (L1.take c1) ++ ((Ent.cells ⟨tx, k⟩) ++ entCells (L1.drop c1)) → xs = entCells (insE ⟨tx, k⟩ L1)) := by
              intro xs h
              rw [h, HINS.out, entCells_append]; simp [entCells]
            have HBF := hid (HB9.out.trans ((HBd.out.trans (T6.out.mono hzd)).mono HB9.out.size))
            have HLE : Hid (w.heap.size ≤ wd.heap.size) := by rw [Hid]; omega
            go_wp2_with fail
            go_ret2
            exact ⟨_, rfl, fin_row R6.out HLE.out (HX.out _ (by rw [show L1.drop c1 = [] from List.drop_of_length_le (by rw [HN1.out]; omega)]; simp [entCells])), HBF.out⟩
      · have hcc2 : n1 < c1 := by omega
        go_wp2_with fail
        refine wp_region_ord (.val 1 (.val 2 (.val 3 (.val 8 (.val 9 (.val 10 (.two 0 (.two 4 (.op 5 (.op 6 (.op 7 (.op 11 (.val 12 (.val 13 (.nil))))))) 5 (.two 4 (.op 6 (.op 7 (.op 11 (.val 12 (.val 13 (.nil)))))) 6 (.op 4 (.op 7 (.op 11 (.val 12 (.val 13 (.nil)))))))) 5 (.two 0 (.two 4 (.op 6 (.op 7 (.op 11 (.val 12 (.val 13 (.nil)))))) 6 (.op 4 (.op 7 (.op 11 (.val 12 (.val 13 (.nil))))))) 6 (.op 0 (.op 4 (.op 7 (.op 11 (.val 12 (.val 13 (.nil))))))))))))))) (by kernel_rfl) (by kernel_rfl) ?_
        obtain ⟨wd, hwd⟩ : ∃ q, w9.drewN 1 = q := ⟨_, rfl⟩
        have HBd : Hid (Below w9.heap.size w9 wd) := by rw [← hwd]; exact drewN_below _ 1
        have hzd : w9.heap.size ≤ wd.heap.size := HBd.out.size
        rw [hwd]
        clear hwd
        have HOd := hid (own_below HO9.out HBd.out)
        have x0d := (HBd.out.cell (p := ⟨w1.heap.size, 0, none⟩) hbx).trans x09
        have x1d := (HBd.out.cell (p := ⟨w1.heap.size, 1, none⟩) hbx).trans x19
        clear x09 x19
        have hz9 := HB9.out.size
        have hbxd : w1.heap.size < wd.heap.size := by omega
        repeat (refine wpOrd_val rfl ?_; go_big_quiet_step (fail); refine wpQuiet_nil ?_)
        refine wpOrd_two rfl rfl ?_ ?_
        · go_wp2_with fail
          obtain ⟨v1, hw⟩ : ∃ q, wd.alloc (.cells #[] 38) = q := ⟨_, rfl⟩
          have K1 := hid (show Below wd.heap.size wd v1 from by rw [← hw]; exact (Below.refl _ _).alloc (Nat.le_refl _) _)
          have Z1 : wd.heap.size < v1.heap.size := by rw [← hw]; simp
          have R1 := hid (show v1.ownsRow wd.heap.size 38 2 (.slice (some ⟨wd.heap.size, 0, none⟩) 0 0) 0 [] from by rw [← hw]; exact World.ownsRow_made _ _ _ ((Below.refl wd.heap.size wd)).size (by simp [maxLen]) (by simp))
          first | rw [hw] | (simp only [Ent.cells] at hw; rw [hw])
          clear hw
          have T1 := hid (((Below.refl wd.heap.size wd)).trans (K1.out.mono ((Below.refl wd.heap.size wd)).size))
          refine wpOrd_two rfl rfl ?_ ?_
          · have A2 := hid (ent_take_cells (own_below HOd.out T1.out) n1)
            go_wp2_with (at_builtin; refine wpList_appendK _ rfl _ _ 33 rfl wd.heap.size 38 _ 2 16 Try.underlying33 Try.infoEntry rfl (by decide) _ _ _ rfl R1.out ⟨g1, 0, none⟩ n1 c1 (entCells (L1.take n1)) (by go_simp) (by rw [entCells_length, List.length_take]; have := HN1.out; omega) A2.out (entCells_one _) (by omega) (by decide) (T1.out).size ?_)
            intro B2 d2 v2 o2 k2 f2
            have T2 := hid ((T1.out).trans (k2.below (B := wd.heap.size) (T1.out).size (fun q h => (World.ownsRow.lt R1.out q h).1)))
            have R2 := hid o2
            clear o2 k2 f2
            refine wpOrd_op rfl ?_
            have y0 := ((T2.out).cell (p := ⟨w1.heap.size, 0, none⟩) hbxd).trans x0d
            have y1 := ((T2.out).cell (p := ⟨w1.heap.size, 1, none⟩) hbxd).trans x1d
            go_wp2_with fail
            refine wpOrd_op rfl ?_
            go_wp2_with fail
            obtain ⟨v4, hw⟩ : ∃ q, v2.alloc (.cells (Ent.cells ⟨tx, k⟩).toArray 38) = q := ⟨_, rfl⟩
            have K4 := hid (show Below v2.heap.size v2 v4 from by rw [← hw]; exact (Below.refl _ _).alloc (Nat.le_refl _) _)
            have Z4 : v2.heap.size < v4.heap.size := by rw [← hw]; simp
            have X4 := hid (show ∀ j u, (Ent.cells ⟨tx, k⟩)[j]? = some u → v4.cell? ((⟨v2.heap.size, 0, none⟩ : Addr).add j) = some u from by rw [← hw]; exact cells_new)
            first | rw [hw] | (simp only [Ent.cells] at hw; rw [hw])
            clear hw
            have T4 := hid ((T2.out).trans (K4.out.mono (T2.out).size))
            have R4 := hid (own_below R2.out K4.out)
            refine wpOrd_op rfl ?_
            go_wp2_with (at_builtin; refine wpList_appendK _ rfl _ _ 33 rfl wd.heap.size 38 _ 2 16 Try.underlying33 Try.infoEntry rfl (by decide) _ _ _ rfl R4.out ⟨v2.heap.size, 0, none⟩ 1 1 (Ent.cells ⟨tx, k⟩) (by go_simp) rfl X4.out (by intro u hu; simp [Ent.cells] at hu; rcases hu with rfl | rfl <;> rfl) (by omega) (by decide) (T4.out).size ?_)
            intro B5 d5 v5 o5 k5 f5
            have T5 := hid ((T4.out).trans (k5.below (B := wd.heap.size) (T4.out).size (fun q h => (World.ownsRow.lt R4.out q h).1)))
            have R5 := hid o5
            clear o5 k5 f5
            refine wpOrd_op rfl ?_
            go_wp2_with (at_builtin; refine wpList_appendK _ rfl _ _ 33 rfl wd.heap.size 38 _ 2 16 Try.underlying33 Try.infoEntry rfl (by decide) _ _ _ rfl R5.out ⟨g1, n1 * 2, none⟩ 0 (c1 - n1) [] (by go_simp) rfl (by intro j u hu; simp at hu) (by intro u hu; simp at hu) (by omega) (by decide) (T5.out).size ?_)
            intro B6 d6 v6 o6 k6 f6
            have T6 := hid ((T5.out).trans (k6.below (B := wd.heap.size) (T5.out).size (fun q h => (World.ownsRow.lt R5.out q h).1)))
            have R6 := hid o6
            clear o6 k6 f6
            repeat (refine wpOrd_val rfl ?_; go_big_quiet_step (fail); refine wpQuiet_nil ?_)
            refine wpOrd_nil ?_
            have HX : Hid (∀ xs, xs = entCells (L1.take n1) ++ ((Ent.cells ⟨tx, k⟩) ++ entCells (L1.drop n1)) → xs = entCells (insE ⟨tx, k⟩ L1)) := by
              intro xs h
              rw [h, HINS.out, entCells_append]; simp [entCells]
            have HBF := hid (HB9.out.trans ((HBd.out.trans (T6.out.mono hzd)).mono HB9.out.size))
            have HLE : Hid (w.heap.size ≤ wd.heap.size) := by rw [Hid]; omega
            go_wp2_with fail
            go_ret2
            exact ⟨_, rfl, fin_row R6.out HLE.out (HX.out _ (by rw [show L1.drop n1 = [] from List.drop_of_length_le (by rw [HN1.out]; omega)]; simp [entCells])), HBF.out⟩
          · have y0 := ((T1.out).cell (p := ⟨w1.heap.size, 0, none⟩) hbxd).trans x0d
            have y1 := ((T1.out).cell (p := ⟨w1.heap.size, 1, none⟩) hbxd).trans x1d
            go_wp2_with fail
            refine wpOrd_two rfl rfl ?_ ?_
            · have A3 := hid (ent_take_cells (own_below HOd.out T1.out) n1)
              go_wp2_with (at_builtin; refine wpList_appendK _ rfl _ _ 33 rfl wd.heap.size 38 _ 2 16 Try.underlying33 Try.infoEntry rfl (by decide) _ _ _ rfl R1.out ⟨g1, 0, none⟩ n1 c1 (entCells (L1.take n1)) (by go_simp) (by rw [entCells_length, List.length_take]; have := HN1.out; omega) A3.out (entCells_one _) (by omega) (by decide) (T1.out).size ?_)
              intro B3 d3 v3 o3 k3 f3
              have T3 := hid ((T1.out).trans (k3.below (B := wd.heap.size) (T1.out).size (fun q h => (World.ownsRow.lt R1.out q h).1)))
              have R3 := hid o3
              clear o3 k3 f3
              refine wpOrd_op rfl ?_
              go_wp2_with fail
              obtain ⟨v4, hw⟩ : ∃ q, v3.alloc (.cells (Ent.cells ⟨tx, k⟩).toArray 38) = q := ⟨_, rfl⟩
              have K4 := hid (show Below v3.heap.size v3 v4 from by rw [← hw]; exact (Below.refl _ _).alloc (Nat.le_refl _) _)
              have Z4 : v3.heap.size < v4.heap.size := by rw [← hw]; simp
              have X4 := hid (show ∀ j u, (Ent.cells ⟨tx, k⟩)[j]? = some u → v4.cell? ((⟨v3.heap.size, 0, none⟩ : Addr).add j) = some u from by rw [← hw]; exact cells_new)
              first | rw [hw] | (simp only [Ent.cells] at hw; rw [hw])
              clear hw
              have T4 := hid ((T3.out).trans (K4.out.mono (T3.out).size))
              have R4 := hid (own_below R3.out K4.out)
              refine wpOrd_op rfl ?_
              go_wp2_with (at_builtin; refine wpList_appendK _ rfl _ _ 33 rfl wd.heap.size 38 _ 2 16 Try.underlying33 Try.infoEntry rfl (by decide) _ _ _ rfl R4.out ⟨v3.heap.size, 0, none⟩ 1 1 (Ent.cells ⟨tx, k⟩) (by go_simp) rfl X4.out (by intro u hu; simp [Ent.cells] at hu; rcases hu with rfl | rfl <;> rfl) (by omega) (by decide) (T4.out).size ?_)
              intro B5 d5 v5 o5 k5 f5
              have T5 := hid ((T4.out).trans (k5.below (B := wd.heap.size) (T4.out).size (fun q h => (World.ownsRow.lt R4.out q h).1)))
              have R5 := hid o5
              clear o5 k5 f5
              refine wpOrd_op rfl ?_
              go_wp2_with (at_builtin; refine wpList_appendK _ rfl _ _ 33 rfl wd.heap.size 38 _ 2 16 Try.underlying33 Try.infoEntry rfl (by decide) _ _ _ rfl R5.out ⟨g1, n1 * 2, none⟩ 0 (c1 - n1) [] (by go_simp) rfl (by intro j u hu; simp at hu) (by intro u hu; simp at hu) (by omega) (by decide) (T5.out).size ?_)
              intro B6 d6 v6 o6 k6 f6
              have T6 := hid ((T5.out).trans (k6.below (B := wd.heap.size) (T5.out).size (fun q h => (World.ownsRow.lt R5.out q h).1)))
              have R6 := hid o6
              clear o6 k6 f6
              repeat (refine wpOrd_val rfl ?_; go_big_quiet_step (fail); refine wpQuiet_nil ?_)
              refine wpOrd_nil ?_
              have HX : Hid (∀ xs, xs = entCells (L1.take n1) ++ ((Ent.cells ⟨tx, k⟩) ++ entCells (L1.drop n1)) → xs = entCells (insE ⟨tx, k⟩ L1)) := by
                intro xs h
                rw [h, HINS.out, entCells_append]; simp [entCells]
              have HBF := hid (HB9.out.trans ((HBd.out.trans (T6.out.mono hzd)).mono HB9.out.size))
              have HLE : Hid (w.heap.size ≤ wd.heap.size) := by rw [Hid]; omega
              go_wp2_with fail
              go_ret2
              exact ⟨_, rfl, fin_row R6.out HLE.out (HX.out _ (by rw [show L1.drop n1 = [] from List.drop_of_length_le (by rw [HN1.out]; omega)]; simp [entCells])), HBF.out⟩
            · go_wp2_with fail
              obtain ⟨v3, hw⟩ : ∃ q, v1.alloc (.cells (Ent.cells ⟨tx, k⟩).toArray 38) = q := ⟨_, rfl⟩
              have K3 := hid (show Below v1.heap.size v1 v3 from by rw [← hw]; exact (Below.refl _ _).alloc (Nat.le_refl _) _)
              have Z3 : v1.heap.size < v3.heap.size := by rw [← hw]; simp
              have X3 := hid (show ∀ j u, (Ent.cells ⟨tx, k⟩)[j]? = some u → v3.cell? ((⟨v1.heap.size, 0, none⟩ : Addr).add j) = some u from by rw [← hw]; exact cells_new)
              first | rw [hw] | (simp only [Ent.cells] at hw; rw [hw])
              clear hw
              have T3 := hid ((T1.out).trans (K3.out.mono (T1.out).size))
              have R3 := hid (own_below R1.out K3.out)
              refine wpOrd_op rfl ?_
              have A4 := hid (ent_take_cells (own_below HOd.out T3.out) n1)
              go_wp2_with (at_builtin; refine wpList_appendK _ rfl _ _ 33 rfl wd.heap.size 38 _ 2 16 Try.underlying33 Try.infoEntry rfl (by decide) _ _ _ rfl R3.out ⟨g1, 0, none⟩ n1 c1 (entCells (L1.take n1)) (by go_simp) (by rw [entCells_length, List.length_take]; have := HN1.out; omega) A4.out (entCells_one _) (by omega) (by decide) (T3.out).size ?_)
              intro B4 d4 v4 o4 k4 f4
              have T4 := hid ((T3.out).trans (k4.below (B := wd.heap.size) (T3.out).size (fun q h => (World.ownsRow.lt R3.out q h).1)))
              have X4 := hid (x_keep k4 Z3 (fun h => by simp only [Value.ownBlock, Option.some.injEq] at h; omega) X3.out)
              have Y4 : v1.heap.size < v4.heap.size := Nat.lt_of_lt_of_le Z3 k4.size
              have R4 := hid o4
              clear o4 k4 f4
              refine wpOrd_op rfl ?_
              go_wp2_with (at_builtin; refine wpList_appendK _ rfl _ _ 33 rfl wd.heap.size 38 _ 2 16 Try.underlying33 Try.infoEntry rfl (by decide) _ _ _ rfl R4.out ⟨v1.heap.size, 0, none⟩ 1 1 (Ent.cells ⟨tx, k⟩) (by go_simp) rfl X4.out (by intro u hu; simp [Ent.cells] at hu; rcases hu with rfl | rfl <;> rfl) (by omega) (by decide) (T4.out).size ?_)
              intro B5 d5 v5 o5 k5 f5
              have T5 := hid ((T4.out).trans (k5.below (B := wd.heap.size) (T4.out).size (fun q h => (World.ownsRow.lt R4.out q h).1)))
              have R5 := hid o5
              clear o5 k5 f5
              refine wpOrd_op rfl ?_
              go_wp2_with (at_builtin; refine wpList_appendK _ rfl _ _ 33 rfl wd.heap.size 38 _ 2 16 Try.underlying33 Try.infoEntry rfl (by decide) _ _ _ rfl R5.out ⟨g1, n1 * 2, none⟩ 0 (c1 - n1) [] (by go_simp) rfl (by intro j u hu; simp at hu) (by intro u hu; simp at hu) (by omega) (by decide) (T5.out).size ?_)
              intro B6 d6 v6 o6 k6 f6
              have T6 := hid ((T5.out).trans (k6.below (B := wd.heap.size) (T5.out).size (fun q h => (World.ownsRow.lt R5.out q h).1)))
              have R6 := hid o6
              clear o6 k6 f6
              repeat (refine wpOrd_val rfl ?_; go_big_quiet_step (fail); refine wpQuiet_nil ?_)
              refine wpOrd_nil ?_
              have HX : Hid (∀ xs, xs = entCells (L1.take n1) ++ ((Ent.cells ⟨tx, k⟩) ++ entCells (L1.drop n1)) → xs = entCells (insE ⟨tx, k⟩ L1)) := by
                intro xs h
                rw [h, HINS.out, entCells_append]; simp [entCells]
              have HBF := hid (HB9.out.trans ((HBd.out.trans (T6.out.mono hzd)).mono HB9.out.size))
              have HLE : Hid (w.heap.size ≤ wd.heap.size) := by rw [Hid]; omega
              go_wp2_with fail
              go_ret2
              exact ⟨_, rfl, fin_row R6.out HLE.out (HX.out _ (by rw [show L1.drop n1 = [] from List.drop_of_length_le (by rw [HN1.out]; omega)]; simp [entCells])), HBF.out⟩
        · have y0 := (((Below.refl wd.heap.size wd)).cell (p := ⟨w1.heap.size, 0, none⟩) hbxd).trans x0d
          have y1 := (((Below.refl wd.heap.size wd)).cell (p := ⟨w1.heap.size, 1, none⟩) hbxd).trans x1d
          go_wp2_with fail
          refine wpOrd_two rfl rfl ?_ ?_
          · go_wp2_with fail
            obtain ⟨v2, hw⟩ : ∃ q, wd.alloc (.cells #[] 38) = q := ⟨_, rfl⟩
            have K2 := hid (show Below wd.heap.size wd v2 from by rw [← hw]; exact (Below.refl _ _).alloc (Nat.le_refl _) _)
            have Z2 : wd.heap.size < v2.heap.size := by rw [← hw]; simp
            have R2 := hid (show v2.ownsRow wd.heap.size 38 2 (.slice (some ⟨wd.heap.size, 0, none⟩) 0 0) 0 [] from by rw [← hw]; exact World.ownsRow_made _ _ _ ((Below.refl wd.heap.size wd)).size (by simp [maxLen]) (by simp))
            first | rw [hw] | (simp only [Ent.cells] at hw; rw [hw])
            clear hw
            have T2 := hid (((Below.refl wd.heap.size wd)).trans (K2.out.mono ((Below.refl wd.heap.size wd)).size))
            refine wpOrd_two rfl rfl ?_ ?_
            · have A3 := hid (ent_take_cells (own_below HOd.out T2.out) n1)
              go_wp2_with (at_builtin; refine wpList_appendK _ rfl _ _ 33 rfl wd.heap.size 38 _ 2 16 Try.underlying33 Try.infoEntry rfl (by decide) _ _ _ rfl R2.out ⟨g1, 0, none⟩ n1 c1 (entCells (L1.take n1)) (by go_simp) (by rw [entCells_length, List.length_take]; have := HN1.out; omega) A3.out (entCells_one _) (by omega) (by decide) (T2.out).size ?_)
              intro B3 d3 v3 o3 k3 f3
              have T3 := hid ((T2.out).trans (k3.below (B := wd.heap.size) (T2.out).size (fun q h => (World.ownsRow.lt R2.out q h).1)))
              have R3 := hid o3
              clear o3 k3 f3
              refine wpOrd_op rfl ?_
              go_wp2_with fail
              obtain ⟨v4, hw⟩ : ∃ q, v3.alloc (.cells (Ent.cells ⟨tx, k⟩).toArray 38) = q := ⟨_, rfl⟩
              have K4 := hid (show Below v3.heap.size v3 v4 from by rw [← hw]; exact (Below.refl _ _).alloc (Nat.le_refl _) _)
              have Z4 : v3.heap.size < v4.heap.size := by rw [← hw]; simp
              have X4 := hid (show ∀ j u, (Ent.cells ⟨tx, k⟩)[j]? = some u → v4.cell? ((⟨v3.heap.size, 0, none⟩ : Addr).add j) = some u from by rw [← hw]; exact cells_new)
              first | rw [hw] | (simp only [Ent.cells] at hw; rw [hw])
              clear hw
              have T4 := hid ((T3.out).trans (K4.out.mono (T3.out).size))
              have R4 := hid (own_below R3.out K4.out)
              refine wpOrd_op rfl ?_
              go_wp2_with (at_builtin; refine wpList_appendK _ rfl _ _ 33 rfl wd.heap.size 38 _ 2 16 Try.underlying33 Try.infoEntry rfl (by decide) _ _ _ rfl R4.out ⟨v3.heap.size, 0, none⟩ 1 1 (Ent.cells ⟨tx, k⟩) (by go_simp) rfl X4.out (by intro u hu; simp [Ent.cells] at hu; rcases hu with rfl | rfl <;> rfl) (by omega) (by decide) (T4.out).size ?_)
              intro B5 d5 v5 o5 k5 f5
              have T5 := hid ((T4.out).trans (k5.below (B := wd.heap.size) (T4.out).size (fun q h => (World.ownsRow.lt R4.out q h).1)))
              have R5 := hid o5
              clear o5 k5 f5
              refine wpOrd_op rfl ?_
              go_wp2_with (at_builtin; refine wpList_appendK _ rfl _ _ 33 rfl wd.heap.size 38 _ 2 16 Try.underlying33 Try.infoEntry rfl (by decide) _ _ _ rfl R5.out ⟨g1, n1 * 2, none⟩ 0 (c1 - n1) [] (by go_simp) rfl (by intro j u hu; simp at hu) (by intro u hu; simp at hu) (by omega) (by decide) (T5.out).size ?_)
              intro B6 d6 v6 o6 k6 f6
              have T6 := hid ((T5.out).trans (k6.below (B := wd.heap.size) (T5.out).size (fun q h => (World.ownsRow.lt R5.out q h).1)))
              have R6 := hid o6
              clear o6 k6 f6
              repeat (refine wpOrd_val rfl ?_; go_big_quiet_step (fail); refine wpQuiet_nil ?_)
              refine wpOrd_nil ?_
              have HX : Hid (∀ xs, xs = entCells (L1.take n1) ++ ((Ent.cells ⟨tx, k⟩) ++ entCells (L1.drop n1)) → xs = entCells (insE ⟨tx, k⟩ L1)) := by
                intro xs h
                rw [h, HINS.out, entCells_append]; simp [entCells]
              have HBF := hid (HB9.out.trans ((HBd.out.trans (T6.out.mono hzd)).mono HB9.out.size))
              have HLE : Hid (w.heap.size ≤ wd.heap.size) := by rw [Hid]; omega
              go_wp2_with fail
              go_ret2
              exact ⟨_, rfl, fin_row R6.out HLE.out (HX.out _ (by rw [show L1.drop n1 = [] from List.drop_of_length_le (by rw [HN1.out]; omega)]; simp [entCells])), HBF.out⟩
            · go_wp2_with fail
              obtain ⟨v3, hw⟩ : ∃ q, v2.alloc (.cells (Ent.cells ⟨tx, k⟩).toArray 38) = q := ⟨_, rfl⟩
              have K3 := hid (show Below v2.heap.size v2 v3 from by rw [← hw]; exact (Below.refl _ _).alloc (Nat.le_refl _) _)
              have Z3 : v2.heap.size < v3.heap.size := by rw [← hw]; simp
              have X3 := hid (show ∀ j u, (Ent.cells ⟨tx, k⟩)[j]? = some u → v3.cell? ((⟨v2.heap.size, 0, none⟩ : Addr).add j) = some u from by rw [← hw]; exact cells_new)
              first | rw [hw] | (simp only [Ent.cells] at hw; rw [hw])
              clear hw
              have T3 := hid ((T2.out).trans (K3.out.mono (T2.out).size))
              have R3 := hid (own_below R2.out K3.out)
              refine wpOrd_op rfl ?_
              have A4 := hid (ent_take_cells (own_below HOd.out T3.out) n1)
              go_wp2_with (at_builtin; refine wpList_appendK _ rfl _ _ 33 rfl wd.heap.size 38 _ 2 16 Try.underlying33 Try.infoEntry rfl (by decide) _ _ _ rfl R3.out ⟨g1, 0, none⟩ n1 c1 (entCells (L1.take n1)) (by go_simp) (by rw [entCells_length, List.length_take]; have := HN1.out; omega) A4.out (entCells_one _) (by omega) (by decide) (T3.out).size ?_)
              intro B4 d4 v4 o4 k4 f4
              have T4 := hid ((T3.out).trans (k4.below (B := wd.heap.size) (T3.out).size (fun q h => (World.ownsRow.lt R3.out q h).1)))
              have X4 := hid (x_keep k4 Z3 (fun h => by simp only [Value.ownBlock, Option.some.injEq] at h; omega) X3.out)
              have Y4 : v2.heap.size < v4.heap.size := Nat.lt_of_lt_of_le Z3 k4.size
              have R4 := hid o4
              clear o4 k4 f4
              refine wpOrd_op rfl ?_
              go_wp2_with (at_builtin; refine wpList_appendK _ rfl _ _ 33 rfl wd.heap.size 38 _ 2 16 Try.underlying33 Try.infoEntry rfl (by decide) _ _ _ rfl R4.out ⟨v2.heap.size, 0, none⟩ 1 1 (Ent.cells ⟨tx, k⟩) (by go_simp) rfl X4.out (by intro u hu; simp [Ent.cells] at hu; rcases hu with rfl | rfl <;> rfl) (by omega) (by decide) (T4.out).size ?_)
              intro B5 d5 v5 o5 k5 f5
              have T5 := hid ((T4.out).trans (k5.below (B := wd.heap.size) (T4.out).size (fun q h => (World.ownsRow.lt R4.out q h).1)))
              have R5 := hid o5
              clear o5 k5 f5
              refine wpOrd_op rfl ?_
              go_wp2_with (at_builtin; refine wpList_appendK _ rfl _ _ 33 rfl wd.heap.size 38 _ 2 16 Try.underlying33 Try.infoEntry rfl (by decide) _ _ _ rfl R5.out ⟨g1, n1 * 2, none⟩ 0 (c1 - n1) [] (by go_simp) rfl (by intro j u hu; simp at hu) (by intro u hu; simp at hu) (by omega) (by decide) (T5.out).size ?_)
              intro B6 d6 v6 o6 k6 f6
              have T6 := hid ((T5.out).trans (k6.below (B := wd.heap.size) (T5.out).size (fun q h => (World.ownsRow.lt R5.out q h).1)))
              have R6 := hid o6
              clear o6 k6 f6
              repeat (refine wpOrd_val rfl ?_; go_big_quiet_step (fail); refine wpQuiet_nil ?_)
              refine wpOrd_nil ?_
              have HX : Hid (∀ xs, xs = entCells (L1.take n1) ++ ((Ent.cells ⟨tx, k⟩) ++ entCells (L1.drop n1)) → xs = entCells (insE ⟨tx, k⟩ L1)) := by
                intro xs h
                rw [h, HINS.out, entCells_append]; simp [entCells]
              have HBF := hid (HB9.out.trans ((HBd.out.trans (T6.out.mono hzd)).mono HB9.out.size))
              have HLE : Hid (w.heap.size ≤ wd.heap.size) := by rw [Hid]; omega
              go_wp2_with fail
              go_ret2
              exact ⟨_, rfl, fin_row R6.out HLE.out (HX.out _ (by rw [show L1.drop n1 = [] from List.drop_of_length_le (by rw [HN1.out]; omega)]; simp [entCells])), HBF.out⟩
          · go_wp2_with fail
            obtain ⟨v2, hw⟩ : ∃ q, wd.alloc (.cells (Ent.cells ⟨tx, k⟩).toArray 38) = q := ⟨_, rfl⟩
            have K2 := hid (show Below wd.heap.size wd v2 from by rw [← hw]; exact (Below.refl _ _).alloc (Nat.le_refl _) _)
            have Z2 : wd.heap.size < v2.heap.size := by rw [← hw]; simp
            have X2 := hid (show ∀ j u, (Ent.cells ⟨tx, k⟩)[j]? = some u → v2.cell? ((⟨wd.heap.size, 0, none⟩ : Addr).add j) = some u from by rw [← hw]; exact cells_new)
            first | rw [hw] | (simp only [Ent.cells] at hw; rw [hw])
            clear hw
            have T2 := hid (((Below.refl wd.heap.size wd)).trans (K2.out.mono ((Below.refl wd.heap.size wd)).size))
            refine wpOrd_op rfl ?_
            go_wp2_with fail
            obtain ⟨v3, hw⟩ : ∃ q, v2.alloc (.cells #[] 38) = q := ⟨_, rfl⟩
            have K3 := hid (show Below v2.heap.size v2 v3 from by rw [← hw]; exact (Below.refl _ _).alloc (Nat.le_refl _) _)
            have Z3 : v2.heap.size < v3.heap.size := by rw [← hw]; simp
            have R3 := hid (show v3.ownsRow wd.heap.size 38 2 (.slice (some ⟨v2.heap.size, 0, none⟩) 0 0) 0 [] from by rw [← hw]; exact World.ownsRow_made _ _ _ (T2.out).size (by simp [maxLen]) (by simp))
            first | rw [hw] | (simp only [Ent.cells] at hw; rw [hw])
            clear hw
            have T3 := hid ((T2.out).trans (K3.out.mono (T2.out).size))
            have X3 := hid (x_below K3.out Z2 X2.out)
            have Y3 : wd.heap.size < v3.heap.size := by omega
            refine wpOrd_op rfl ?_
            have A4 := hid (ent_take_cells (own_below HOd.out T3.out) n1)
            go_wp2_with (at_builtin; refine wpList_appendK _ rfl _ _ 33 rfl wd.heap.size 38 _ 2 16 Try.underlying33 Try.infoEntry rfl (by decide) _ _ _ rfl R3.out ⟨g1, 0, none⟩ n1 c1 (entCells (L1.take n1)) (by go_simp) (by rw [entCells_length, List.length_take]; have := HN1.out; omega) A4.out (entCells_one _) (by omega) (by decide) (T3.out).size ?_)
            intro B4 d4 v4 o4 k4 f4
            have T4 := hid ((T3.out).trans (k4.below (B := wd.heap.size) (T3.out).size (fun q h => (World.ownsRow.lt R3.out q h).1)))
            have X4 := hid (x_keep k4 Y3 (fun h => by simp only [Value.ownBlock, Option.some.injEq] at h; omega) X3.out)
            have Y4 : wd.heap.size < v4.heap.size := Nat.lt_of_lt_of_le Y3 k4.size
            have R4 := hid o4
            clear o4 k4 f4
            refine wpOrd_op rfl ?_
            go_wp2_with (at_builtin; refine wpList_appendK _ rfl _ _ 33 rfl wd.heap.size 38 _ 2 16 Try.underlying33 Try.infoEntry rfl (by decide) _ _ _ rfl R4.out ⟨wd.heap.size, 0, none⟩ 1 1 (Ent.cells ⟨tx, k⟩) (by go_simp) rfl X4.out (by intro u hu; simp [Ent.cells] at hu; rcases hu with rfl | rfl <;> rfl) (by omega) (by decide) (T4.out).size ?_)
            intro B5 d5 v5 o5 k5 f5
            have T5 := hid ((T4.out).trans (k5.below (B := wd.heap.size) (T4.out).size (fun q h => (World.ownsRow.lt R4.out q h).1)))
            have R5 := hid o5
            clear o5 k5 f5
            refine wpOrd_op rfl ?_
            go_wp2_with (at_builtin; refine wpList_appendK _ rfl _ _ 33 rfl wd.heap.size 38 _ 2 16 Try.underlying33 Try.infoEntry rfl (by decide) _ _ _ rfl R5.out ⟨g1, n1 * 2, none⟩ 0 (c1 - n1) [] (by go_simp) rfl (by intro j u hu; simp at hu) (by intro u hu; simp at hu) (by omega) (by decide) (T5.out).size ?_)
            intro B6 d6 v6 o6 k6 f6
            have T6 := hid ((T5.out).trans (k6.below (B := wd.heap.size) (T5.out).size (fun q h => (World.ownsRow.lt R5.out q h).1)))
            have R6 := hid o6
            clear o6 k6 f6
            repeat (refine wpOrd_val rfl ?_; go_big_quiet_step (fail); refine wpQuiet_nil ?_)
            refine wpOrd_nil ?_
            have HX : Hid (∀ xs, xs = entCells (L1.take n1) ++ ((Ent.cells ⟨tx, k⟩) ++ entCells (L1.drop n1)) → xs = entCells (insE ⟨tx, k⟩ L1)) := by
              intro xs h
              rw [h, HINS.out, entCells_append]; simp [entCells]
            have HBF := hid (HB9.out.trans ((HBd.out.trans (T6.out.mono hzd)).mono HB9.out.size))
            have HLE : Hid (w.heap.size ≤ wd.heap.size) := by rw [Hid]; omega
            go_wp2_with fail
            go_ret2
            exact ⟨_, rfl, fin_row R6.out HLE.out (HX.out _ (by rw [show L1.drop n1 = [] from List.drop_of_length_le (by rw [HN1.out]; omega)]; simp [entCells])), HBF.out⟩

end Go.Proofs.Ytdhoedohchbagaa
