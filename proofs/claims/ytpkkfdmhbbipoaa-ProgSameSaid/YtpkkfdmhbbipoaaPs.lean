/- The shelf's layings at this program (numbers of this seat). Walks: prog.Copy. Walks: which scripts are the same. -/
import Derived.Shelf.SlicesE.Clone
import Derived.Test.YtpkkfdmhbbipoaaPc
import Derived.Test.YtpkkfdmhbbipoaaMh
import Derived.Deep.Cut
import Derived.Test.YtpkkfdmhbbipoaaPb
namespace Go.Proofs.Ytpkkfdmhbbipoaa
open Go.Shelf Go.RowKit
def Try.cloneOp_ren : Go.Shelf.Ren := ⟨fun | 41 => 35 | n => n, fun | 22 => 29 | 23 => 38 | 4 => 4 | n => n, fun | n => n⟩
theorem Try.cloneOp : Go.Proofs.SlLaysE0.n41 Try.prog Try.cloneOp_ren := {
  mixed := by kernel_rfl
  f41 := ⟨Try.f35.name, by decide, Try.func35.trans (congrArg some (by kernel_rfl))⟩
  t4 := Try.underlying4
  a4 := Try.isAgg4
  z4 := Try.sizeOf4
  v4 := Try.zeroValue4
  t22 := Try.underlying29
  a22 := Try.isAgg29
  z22 := Try.sizeOf29
  v22 := Try.zeroValue29 }
def Try.cloneArm_ren : Go.Shelf.Ren := ⟨fun | 41 => 36 | n => n, fun | 22 => 36 | 23 => 40 | 4 => 4 | n => n, fun | n => n⟩
theorem Try.cloneArm : Go.Proofs.SlLaysE0.n41 Try.prog Try.cloneArm_ren := {
  mixed := by kernel_rfl
  f41 := ⟨Try.f36.name, by decide, Try.func36.trans (congrArg some (by kernel_rfl))⟩
  t4 := Try.underlying4
  a4 := Try.isAgg4
  z4 := Try.sizeOf4
  v4 := Try.zeroValue4
  t22 := Try.underlying36
  a22 := Try.isAgg36
  z22 := Try.sizeOf36
  v22 := Try.zeroValue36 }
end Go.Proofs.Ytpkkfdmhbbipoaa
namespace Go.Proofs.Ytpkkfdmhbbipoaa
open Go.RowKit PopT Go.Shelf

theorem Try.sizeOp (w : World) : (Go.sizeOf 38).run Try.prog w = .ok 7 w := by kernel_rfl
theorem Try.sizeArm (w : World) : (Go.sizeOf 40).run Try.prog w = .ok 2 w := by kernel_rfl
theorem opVCells_one (l : List (OpV × Value)) (h : ∀ x ∈ l, x.2.oneCell' = true) : ∀ u ∈ opVCells l, u.oneCell' = true := by
  intro u hu
  obtain ⟨x, hx, hu⟩ := List.mem_flatMap.1 hu
  have h4 := h x hx
  simp [OpV.cells] at hu
  rcases hu with rfl | rfl | rfl | rfl | rfl | rfl | rfl <;> first | rfl | exact h4
theorem armVCells_one (l : List ArmV) : ∀ u ∈ armVCells l, u.oneCell' = true := by
  intro u hu
  obtain ⟨x, hx, hu⟩ := List.mem_flatMap.1 hu
  simp [ArmV.cells] at hu
  rcases hu with rfl | rfl <;> rfl
theorem own_parts {w : World} {b0 e size n c : Nat} {A : Option Addr} {xs : List Value} (h : w.ownsRow b0 e size (.slice A n c) n xs) : (A = none ∧ n = 0 ∧ c = 0) ∨ ∃ g, A = some ⟨g, 0, none⟩ ∧ g < w.heap.size ∧ b0 ≤ g := by
  rcases h.2 with ⟨hv, h0⟩ | ⟨g, cap, cur, hv, hb, _⟩
  · injection hv with h1 _ h3; exact .inl ⟨h1, h0, h3⟩
  · injection hv with h1 _ _; subst h1; exact .inr ⟨g, rfl, (h.lt g rfl).2, hb⟩
theorem own_slice' {W : World} {e : TypeId} {size B' k : Nat} {x : Value} {xs : List Value} (h : W.ownsRow B' e size x k xs) : ∃ A c, x = .slice A k c := by
  rcases h.2 with ⟨hv, h0⟩ | ⟨b, cap, cur, hv, _⟩
  · exact ⟨none, 0, by rw [h0]; exact hv⟩
  · exact ⟨_, _, hv⟩
theorem cloneArms_any (b0 n c : Nat) (A : Option Addr) (l : List ArmV) (w : World) (h : w.ownsRow b0 40 2 (.slice A n c) n (armVCells l)) (hn : n ≤ 1000) :
    Calls Try.prog 36 #[.slice A n c] w fun e w' => ∃ A' c', e = .returned (.slice A' n c') ∧ w'.ownsRow w.heap.size 40 2 (.slice A' n c') n (armVCells l) ∧ Below w.heap.size w w' := by
  obtain ⟨i0, hi, hz0, hz1, hz2⟩ := info_parts Try.infoArmV
  rcases own_parts h with ⟨rfl, rfl, rfl⟩ | ⟨g, rfl, hg, _⟩
  · refine (AnyE.slices_Clone_nil Try.cloneArm 0 0 w).mono ?_
    rintro e w1 ⟨rfl, rfl⟩
    have hl : armVCells l = [] := List.eq_nil_of_length_eq_zero (by have := h.1; omega)
    refine ⟨none, 0, rfl, ?_, Below.refl _ _⟩
    rw [hl]
    exact World.ownsRow_nil _ _ _ _
  · refine (AnyE.slices_Clone Try.cloneArm i0 _ 2 24 hi hz0 hz1 hz2 rfl (by decide) Try.sizeArm g 0 n c (armVCells l) w h.1 (by unfold maxLen; omega) (by omega) (fun j u hu => by
      rw [Nat.zero_add, h.cellAt j (by have := (List.getElem?_eq_some_iff.1 hu).1; have := h.1; omega)]; exact hu) (armVCells_one l)).mono ?_
    rintro e w1 ⟨v', rfl, ho, -, hb⟩
    obtain ⟨A', c', rfl⟩ := own_slice' ho
    exact ⟨A', c', rfl, ho, hb⟩
theorem cloneOps_any (b0 n c : Nat) (A : Option Addr) (l : List (OpV × Value)) (w : World) (h : w.ownsRow b0 38 7 (.slice A n c) n (opVCells l)) (h1 : ∀ x ∈ l, x.2.oneCell' = true) (hn : n ≤ 1000) :
    Calls Try.prog 35 #[.slice A n c] w fun e w' => ∃ A' c', e = .returned (.slice A' n c') ∧ w'.ownsRow w.heap.size 38 7 (.slice A' n c') n (opVCells l) ∧ Below w.heap.size w w' := by
  obtain ⟨i0, hi, hz0, hz1, hz2⟩ := info_parts Try.infoOp
  rcases own_parts h with ⟨rfl, rfl, rfl⟩ | ⟨g, rfl, hg, _⟩
  · refine (AnyE.slices_Clone_nil Try.cloneOp 0 0 w).mono ?_
    rintro e w1 ⟨rfl, rfl⟩
    have hl : opVCells l = [] := List.eq_nil_of_length_eq_zero (by have := h.1; omega)
    refine ⟨none, 0, rfl, ?_, Below.refl _ _⟩
    rw [hl]
    exact World.ownsRow_nil _ _ _ _
  · refine (AnyE.slices_Clone Try.cloneOp i0 _ 7 80 hi hz0 hz1 hz2 rfl (by decide) Try.sizeOp g 0 n c (opVCells l) w h.1 (by unfold maxLen; omega) (by omega) (fun j u hu => by
      rw [Nat.zero_add, h.cellAt j (by have := (List.getElem?_eq_some_iff.1 hu).1; have := h.1; omega)]; exact hu) (opVCells_one l h1)).mono ?_
    rintro e w1 ⟨v', rfl, ho, -, hb⟩
    obtain ⟨A', c', rfl⟩ := own_slice' ho
    exact ⟨A', c', rfl, ho, hb⟩
theorem setO_self (l : List OpV) (i : Nat) (h : i < l.length) : l.set i l[i] = l := by
  apply List.ext_getElem
  · simp
  · intro j h1 h2
    rw [List.getElem_set]
    split
    · rename_i e; subst e; rfl
    · rfl
theorem opVCells_set4 (xs : List (OpV × Value)) (j : Nat) (h : j < xs.length) (v : Value) : (opVCells xs).set (j * 7 + 4) v = opVCells (xs.set j ((xs[j]).1, v)) := by
  induction xs generalizing j with
  | nil => simp at h
  | cons x xs ih =>
    have hx : opVCells (x :: xs) = x.1.cells x.2 ++ opVCells xs := rfl
    have hc : (x.1.cells x.2).length = 7 := rfl
    cases j with
    | zero => rfl
    | succ j =>
      rw [hx, List.set_append_right _ _ (by rw [hc]; omega), hc, show (j + 1) * 7 + 4 - 7 = j * 7 + 4 from by omega, ih j (by simpa using h)]
      rfl

set_option maxRecDepth 20000 in
set_option maxHeartbeats 4000000 in
theorem copyP_any (p : ProgV) (A : Option Addr) (c b0 : Nat) (w : World) (hin : OpsOwn b0 w (.slice A p.ops.length c) p.ops) (hn : p.ops.length ≤ 1000) (ha : ∀ o ∈ p.ops, o.arms.length ≤ 1000) :
    Calls Try.prog 12 #[p.val (.slice A p.ops.length c)] w fun e w' => ∃ A' c', e = .returned (p.val (.slice A' p.ops.length c')) ∧ OpsOwn w.heap.size w' (.slice A' p.ops.length c') p.ops ∧ Below w.heap.size w w' := by
  obtain ⟨nm, dl, jp, ops⟩ := p
  simp only at hin hn ha
  unfold ProgV.val
  simp only
  obtain ⟨xs, hx1, hx2, hx3⟩ := hin
  obtain ⟨n, hN⟩ : ∃ n, ops.length = n := ⟨_, rfl⟩
  rw [hN] at hx2 hn ⊢
  have hxl : xs.length = n := by rw [← hN, ← hx1, List.length_map]
  have h1c : ∀ x ∈ xs, x.2.oneCell' = true := fun x hx => by obtain ⟨A, c, h1, _⟩ := hx3 x hx; rw [h1]; rfl
  have HN := hid hN; have HX1 := hid hx1; have HX3 := hid hx3; have HXL := hid hxl; have HA := hid ha
  have HX2 := hid hx2
  have C1 := hid (fun W (h : W.ownsRow b0 38 7 (.slice A n c) n (opVCells xs)) => cloneOps_any b0 n c A xs W h h1c hn)
  have C2 := hid (fun B n c A l W (h : W.ownsRow B 40 2 (.slice A n c) n (armVCells l)) hn => cloneArms_any B n c A l W h hn)
  have hbw : Hid (b0 ≤ b0) := Nat.le_refl _
  clear hN hx1 hx2 hx3 hxl h1c ha
  go_enter Try.func12, Try.ntmps12
  go_upto_region 1 with fail
  have k1 := (Blk.new w 31 #[.string nm, .int .i64 dl, .int .i64 jp, .slice A n c]).alloc (.cells #[.string ⟨#[]⟩, .int .i64 0, .int .i64 0, .slice none 0 0] 31)
  have k2 := Blk.new (w.alloc (.cells #[.string nm, .int .i64 dl, .int .i64 jp, .slice A n c] 31)) 31 #[.string ⟨#[]⟩, .int .i64 0, .int .i64 0, .slice none 0 0]
  rw [World.size_alloc] at k2
  have k3 := ((Below.refl w.heap.size w).alloc (Nat.le_refl _) (.cells #[.string nm, .int .i64 dl, .int .i64 jp, .slice A n c] 31)).alloc (by simp) (.cells #[.string ⟨#[]⟩, .int .i64 0, .int .i64 0, .slice none 0 0] 31)
  obtain ⟨w0, hw0⟩ : ∃ W, ((w.alloc (.cells #[.string nm, .int .i64 dl, .int .i64 jp, .slice A n c] 31)).alloc (.cells #[.string ⟨#[]⟩, .int .i64 0, .int .i64 0, .slice none 0 0] 31)) = W := ⟨_, rfl⟩
  rw [hw0] at k1 k2 k3
  rw [hw0]
  clear hw0
  obtain ⟨gb, hgb⟩ : ∃ x, w.heap.size = x := ⟨_, rfl⟩
  have HGB := hid hgb
  rw [hgb] at k1 k2 k3 ⊢
  obtain ⟨gz, hgz⟩ : ∃ x, gb + 1 = x := ⟨_, rfl⟩
  rw [hgz] at k2 ⊢
  have hbz : gb < gz := by omega
  have HK1 := hid k1; have HK2 := hid k2; have HK3 := hid k3
  have hx2' : w0.ownsRow b0 38 7 (.slice A n c) n (opVCells xs) := own_below HX2.out k3 (by rw [hgb]; exact Nat.le_refl _)
  have CC := hid (C1.out w0 hx2')
  have HARM : Hid (∀ x ∈ xs, ArmsOwn b0 w0 x.1 x.2) := fun x hx => (HX3.out x hx).below k3 (by rw [hgb]; exact Nat.le_refl _)
  obtain ⟨x0, x1, x2, x3⟩ := fact4 k1
  clear hgb hgz k1 k2 k3 hx2' C1 HX2 HX3
  go_wp2_with fail
  refine CC.out.mono ?_
  rintro en w1 ⟨A1, c1, rfl, ho1, hb1⟩
  have k1 := HK1.out.below hb1 HK1.out.lt
  have HKA := hid k1
  have HKZ := hid (HK2.out.below hb1 HK2.out.lt)
  have HB1 : Hid (Below gb w w1) := hid (HK3.out.trans (hb1.mono (by have := HK3.out.size; have := HGB.out; omega)))
  have HO1 := hid ho1
  have HARM1 : Hid (∀ x ∈ xs, ArmsOwn b0 w1 x.1 x.2) := fun x hx => (HARM.out x hx).below hb1 (Nat.le_refl _)
  have hw01 : Hid (gb ≤ w0.heap.size ∧ gz < w0.heap.size) := ⟨by have := HK3.out.size; have := HGB.out; omega, HK2.out.lt⟩
  clear CC ho1 hb1 k1 x0 x1 x2 x3 HK1 HK2 HK3 HARM
  obtain ⟨x0, x1, x2, x3⟩ := fact4 HKA.out
  have y3 := HKA.out.frozen 3
  have hl1 := HKA.out.lt
  go_upto_region 2 with fail
  obtain ⟨w2, hw2⟩ : ∃ W, w1.setCell ⟨gb, 3, none⟩ (.slice A1 n c1) = W := ⟨_, rfl⟩
  have HKB : Hid (Blk w2 gb 31 #[.string nm, .int .i64 dl, .int .i64 jp, .slice A1 n c1]) := by rw [← hw2]; exact HKA.out.set 3 _
  have HKY : Hid (Blk w2 gz 31 #[.string ⟨#[]⟩, .int .i64 0, .int .i64 0, .slice none 0 0]) := by rw [← hw2]; exact HKZ.out.set_far (by omega)
  have HB2 : Hid (Below gb w w2) := by rw [← hw2]; exact HB1.out.setCell (Nat.le_refl _) _
  have hne1 : (Value.slice A1 n c1).ownBlock ≠ some gb := blk_ne HKA.out HO1.out (by decide)
  have HO2 : Hid (w2.ownsRow gb 38 7 (.slice A1 n c1) n (opVCells xs)) := by rw [Hid, ← hw2]; exact own_base (own_kept_set HO1.out ⟨gb, 3, none⟩ _ hne1) hw01.out.1
  have HARM2 : Hid (∀ x ∈ xs, ArmsOwn b0 w2 x.1 x.2) := fun x hx => by rw [← hw2]; exact (HARM1.out x hx).set HKA.out (by decide)
  rw [hw2]
  clear hw2 hne1 HKA HKZ HB1 HO1 HARM1 x0 x1 x2 x3 y3 hl1
  obtain ⟨x0, x1, x2, x3⟩ := fact4 HKB.out
  go_wp2_with fail
  clear x0 x1 x2 x3
  go_loopw [11] (fun iv wr => ∃ (k : Nat) (ys : List (OpV × Value)), iv = .int .i64 (k : Int) ∧ k ≤ n ∧ ys.map Prod.fst = ops ∧ Blk wr gb 31 #[.string nm, .int .i64 dl, .int .i64 jp, .slice A1 n c1] ∧ Blk wr gz 31 #[.string ⟨#[]⟩, .int .i64 0, .int .i64 0, .slice none 0 0] ∧
      wr.ownsRow gb 38 7 (.slice A1 n c1) n (opVCells ys) ∧ (∀ j (h : j < ys.length), if j < k then ArmsOwn gb wr (ys[j]).1 (ys[j]).2 else ArmsOwn 0 wr (ys[j]).1 (ys[j]).2) ∧ Below gb w wr) (fun iv _ => n - (intOf iv).toNat)
  case atStart => exact ⟨0, xs, rfl, Nat.zero_le _, HX1.out, HKB.out, HKY.out, HO2.out, fun j h => by rw [if_neg (by omega)]; exact (HARM2.out _ (List.getElem_mem h)).base (Nat.zero_le _), HB2.out⟩
  case round =>
    obtain ⟨k, ys, rfl, hk, hys, hB, hZ, hO, hArm, hb⟩ := hrel
    have HYS := hid hys; have HKB := hid hB; have HKY := hid hZ; have HO := hid hO; have HAR := hid hArm; have HB := hid hb
    have hyl : ys.length = n := by rw [← HN.out, ← hys, List.length_map]
    have HYL := hid hyl
    clear hys hB hZ hO hArm hb HO2 HARM2 HB2 hyl
    by_cases hlt : k < n
    · have hkl : k < ys.length := by rw [HYL.out]; exact hlt
      have hgs : ∃ g2, A1 = some ⟨g2, 0, none⟩ ∧ g2 < wr.heap.size ∧ gb ≤ g2 := by
        rcases own_parts HO.out with ⟨-, h, -⟩ | ⟨g, h1, h2, h3⟩
        · omega
        · exact ⟨g, h1, h2, h3⟩
      obtain ⟨g2, rfl, hg2, hg2b⟩ := hgs
      have harm := HAR.out k hkl
      rw [if_neg (Nat.lt_irrefl k)] at harm
      obtain ⟨Aa, ca, hva, hoa⟩ := harm
      have hrow : wr.cell? ⟨g2, k * 7 + 4, none⟩ = some ((ys[k]'hkl).2) := by
        have h1 := HO.out.1
        rw [HO.out.cellAt (k * 7 + 4) (by omega)]
        exact flatMap_get (fun x : OpV × Value => x.1.cells x.2) 7 ys (fun _ _ => rfl) k hkl 4 (by omega)
      rw [hva] at hrow hoa
      have hmem : (ys[k]'hkl).1 ∈ ops := by rw [← HYS.out]; exact List.mem_map.2 ⟨_, List.getElem_mem hkl, rfl⟩
      have hna := HA.out _ hmem
      obtain ⟨o, ho⟩ : ∃ y, (ys[k]'hkl).1 = y := ⟨_, rfl⟩
      rw [ho] at hrow hoa hna
      have HOO := hid ho
      obtain ⟨na, hnaa⟩ : ∃ y, o.arms.length = y := ⟨_, rfl⟩
      rw [hnaa] at hrow hoa hna
      have HNA := hid hnaa
      have hlb := HKB.out.lt
      have hx3 := HKB.out.cell 3
      simp only [List.getElem?_toArray] at hx3
      have T3 : ∀ q : BW wr.heap.size wr, q.1.cell? ⟨gb, 3, none⟩ = some (.slice (some ⟨g2, 0, none⟩) n c1) := fun q => q.cellAt hlb hx3
      have T4 : ∀ q : BW wr.heap.size wr, q.1.cell? ⟨g2, k * 7 + 4, none⟩ = some (.slice Aa na ca) := fun q => q.cellAt hg2 hrow
      have CA := hid (fun W (hW : Below wr.heap.size wr W) => C2.out 0 na ca Aa o.arms W (own_below hoa hW) hna)
      have hy4 := HO.out.frozenAt (k * 7 + 4)
      have HY4 := hid hy4
      clear hx3 hrow hoa hva hmem ho hnaa hy4 hna
      go_upto_region 5 with fail
      refine wp_region_ordT wr.heap.size [12] (.val 0 (.val 1 (.val 2 (.val 3 (.val 4 (.val 5 (.val 6 (.val 7 (.val 8 (.op 9 (.val 10 (.val 11 (.op 12 (.nil)))))))))))))) (by kernel_rfl) (by kernel_rfl) ?_
      obtain ⟨wc, hwc⟩ : ∃ W, wr.drewN 1 = W := ⟨_, rfl⟩
      have HBW : Hid (Below wr.heap.size wr wc) := by rw [← hwc]; exact drewN_below wr 1
      rw [hwc]
      clear hwc
      refine wpOrdT_val rfl rfl ?_
      go_big_quiet_step (fail)
      refine wpQuiet_nil ?_
      refine wpOrdT_load rfl rfl (inBW HBW.out) ?_
      go_big_quiet_step (fail)
      refine wpQuiet_nil ?_
      refine wpOrdT_val rfl rfl ?_
      go_big_quiet_step (fail)
      refine wpQuiet_nil ?_
      refine wpOrdT_val rfl rfl ?_
      go_big_quiet_step (fail)
      refine wpQuiet_nil ?_
      refine wpOrdT_load rfl rfl (inBW HBW.out) ?_
      go_big_quiet_step (fail)
      refine wpQuiet_nil ?_
      refine wpOrdT_val rfl rfl ?_
      go_big_quiet_step (fail)
      refine wpQuiet_nil ?_
      refine wpOrdT_val rfl rfl ?_
      go_big_quiet_step (fail)
      refine wpQuiet_nil ?_
      refine wpOrdT_val rfl rfl ?_
      go_big_quiet_step (fail)
      refine wpQuiet_nil ?_
      refine wpOrdT_load rfl rfl (inBW HBW.out) ?_
      go_big_quiet_step (fail)
      refine wpQuiet_nil ?_
      refine wpOrdT_op rfl ?_
      go_wp2_with fail
      refine (CA.out _ HBW.out).mono ?_
      rintro en wc ⟨A6, c6, rfl, ho6, hb⟩
      have hsz6 := HBW.out.size
      have HO6 := hid (own_base ho6 (show gb ≤ _ from by have := HB.out.size; have := HGB.out; omega))
      replace HBW := hid (HBW.out.trans (hb.mono HBW.out.size))
      clear ho6 hb CA hsz6
      go_wp2_with fail
      refine KT.keep (inBW HBW.out) ?_
      refine wpOrdT_val rfl rfl ?_
      go_big_quiet_step (fail)
      refine wpQuiet_nil ?_
      refine wpOrdT_val rfl rfl ?_
      go_big_quiet_step (fail)
      refine wpQuiet_nil ?_
      refine wpOrdT_op rfl ?_
      have hc12 := (HBW.out.cell (p := ⟨g2, k * 7 + 4, none⟩) hg2).trans (T4 ⟨wr, Below.refl _ _⟩)
      have hy12 := (HBW.out.frozen (p := ⟨g2, k * 7 + 4, none⟩) hg2).trans HY4.out
      go_wp2_with fail
      refine KT.past rfl ?_
      refine wpOrdT_nil ?_
      clear hc12 hy12 T3 T4
      obtain ⟨wd, hwd⟩ : ∃ W, wc.setCell ⟨g2, k * 7 + 4, none⟩ (.slice A6 na c6) = W := ⟨_, rfl⟩
      have hOc := own_below HO.out HBW.out
      have hne2 : gb ≠ g2 := by
        intro e
        have := blk_ne HKB.out HO.out (by decide)
        exact this (by rw [e]; rfl)
      have hne3 : gz ≠ g2 := by
        intro e
        have := blk_ne HKY.out HO.out (by decide)
        exact this (by rw [e]; rfl)
      have K1 : Hid (Blk wd gb 31 #[.string nm, .int .i64 dl, .int .i64 jp, .slice (some ⟨g2, 0, none⟩) n c1]) := by rw [← hwd]; exact (HKB.out.below HBW.out HKB.out.lt).set_far hne2
      have K2 : Hid (Blk wd gz 31 #[.string ⟨#[]⟩, .int .i64 0, .int .i64 0, .slice none 0 0]) := by rw [← hwd]; exact (HKY.out.below HBW.out HKY.out.lt).set_far hne3
      have K3 : Hid (Below gb w wd) := by rw [← hwd]; exact (HB.out.trans (HBW.out.mono (by have := HB.out.size; have := HGB.out; omega))).setCell hg2b _
      have K4 : Hid (wd.ownsRow gb 38 7 (.slice (some ⟨g2, 0, none⟩) n c1) n (opVCells (ys.set k ((ys[k]'hkl).1, .slice A6 na c6)))) := by
        rw [Hid, ← hwd, ← opVCells_set4 ys k hkl]
        exact (hOc.stored (k * 7 + 4) _).1
      have kk : ∀ B (o : OpV) v, ArmsOwn B wc o v → ArmsOwn B wd o v := by
        rintro B o v ⟨A, c, e1, e2⟩
        refine ⟨A, c, e1, ?_⟩
        rw [← hwd]
        refine own_kept_set e2 ⟨g2, _, none⟩ _ ?_
        rcases own_ne e2 hOc (by decide) with h | h
        · rw [h]; simp
        · exact h
      have K5 : Hid (∀ j (h : j < (ys.set k ((ys[k]'hkl).1, .slice A6 na c6)).length), if j < k + 1 then ArmsOwn gb wd ((ys.set k ((ys[k]'hkl).1, .slice A6 na c6))[j]).1 ((ys.set k ((ys[k]'hkl).1, .slice A6 na c6))[j]).2 else ArmsOwn 0 wd ((ys.set k ((ys[k]'hkl).1, .slice A6 na c6))[j]).1 ((ys.set k ((ys[k]'hkl).1, .slice A6 na c6))[j]).2) := by
        intro j hj
        have hj' : j < ys.length := by simpa using hj
        rw [List.getElem_set]
        by_cases hjk : k = j
        · subst hjk
          rw [if_pos rfl, if_pos (by omega)]
          refine kk _ _ _ ⟨A6, c6, ?_, ?_⟩
          · simp only; rw [HOO.out, HNA.out]
          · simp only; rw [HOO.out, HNA.out]; exact HO6.out
        · rw [if_neg hjk]
          have := HAR.out j hj'
          by_cases hj2 : j < k
          · rw [if_pos (by omega)]
            rw [if_pos hj2] at this
            exact kk _ _ _ (this.below HBW.out (Nat.le_refl _))
          · rw [if_neg (by omega)]
            rw [if_neg hj2] at this
            exact kk _ _ _ (this.below HBW.out (Nat.le_refl _))
      have K6 : Hid ((ys.set k ((ys[k]'hkl).1, .slice A6 na c6)).map Prod.fst = ops) := by
        rw [Hid, List.map_set, ← HYS.out]
        have := setO_self (ys.map Prod.fst) k (by simpa using hkl)
        rw [List.getElem_map] at this
        exact this
      rw [hwd]
      obtain ⟨zs, hzs⟩ : ∃ y, ys.set k ((ys[k]'hkl).1, Value.slice A6 na c6) = y := ⟨_, rfl⟩
      rw [hzs] at K4 K5 K6
      clear hwd kk hOc hne2 hne3 hzs HKB HKY HO HAR HB HBW HO6 HYS HOO HYL
      go_wp2_with fail
      go_roundw
      case rel => exact ⟨k + 1, zs, by go_num, by omega, K6.out, K1.out, K2.out, K4.out, K5.out, K3.out⟩
      case measure => simp [intOf]; omega
    · have hkn : k = n := by omega
      subst hkn
      obtain ⟨x0, x1, x2, x3⟩ := fact4 HKB.out
      have z0 := HKY.out.frozen 0; have z1 := HKY.out.frozen 1; have z2 := HKY.out.frozen 2; have z3 := HKY.out.frozen 3
      have hlz := HKY.out.lt
      obtain ⟨q0, q1, q2, q3⟩ := fact4 HKY.out
      go_wp2_with fail
      obtain ⟨w9, hw9⟩ : ∃ W, set4 wr gz (.string nm) (.int .i64 dl) (.int .i64 jp) (.slice A1 k c1) = W := ⟨_, rfl⟩
      have Z1 : Blk w9 gz 31 #[.string nm, .int .i64 dl, .int .i64 jp, .slice A1 k c1] := by rw [← hw9]; exact set4_blk HKY.out _ _ _ _
      have Z2 : OpsOwn gb w9 (.slice A1 k c1) ops := by
        rw [← hw9]
        refine set4_ops ?_ HKY.out _ _ _ _
        refine ⟨ys, HYS.out, by rw [HN.out]; exact HO.out, fun x hx => ?_⟩
        obtain ⟨j, hj, rfl⟩ := List.mem_iff_getElem.1 hx
        have := HAR.out j hj
        rwa [if_pos (by have := HYL.out; omega)] at this
      have Z3 : Below gb w w9 := by rw [← hw9]; exact set4_below HB.out (by omega) _ _ _ _
      unfold set4 at hw9
      rw [hw9]
      obtain ⟨t0, t1, t2, t3⟩ := fact4 Z1
      rw [HGB.out] at *
      exact bodyPost_ret (v := .agg #[.string nm, .int .i64 dl, .int .i64 jp, .slice A1 k c1]) (by simp [results, Try.results12, go_sem, t0, t1, t2, t3]) rfl ⟨A1, c1, rfl, Z2, Z3⟩
end Go.Proofs.Ytpkkfdmhbbipoaa
namespace Go.Proofs.Ytpkkfdmhbbipoaa
open Go.RowKit PopT

set_option maxRecDepth 20000 in
set_option maxHeartbeats 4000000 in
theorem rSameOp_any (a b : OpV) (va vb : Value) (w : World) (ha : ArmsIn w a va) (hb : ArmsIn w b vb) (hn : a.arms.length ≤ 9223372036854775807) : Calls Try.prog 39 #[a.val va, b.val vb] w fun e w' => e = .returned (.bool (sameO a b)) ∧ Below w.heap.size w w' := by
  obtain ⟨A, c, rfl, ha⟩ := ha
  obtain ⟨B, d, rfl, hb⟩ := hb
  obtain ⟨ka, ta, na, oa, la, ua, ea⟩ := a
  obtain ⟨kb, tb, nb, ob, lb, ub, eb⟩ := b
  simp only at ha hb hn
  obtain ⟨n, hln⟩ : ∃ n, la.length = n := ⟨_, rfl⟩
  obtain ⟨m, hlm⟩ : ∃ m, lb.length = m := ⟨_, rfl⟩
  rw [hln] at hn
  show Calls Try.prog 39 #[.agg #[.int .i64 ka, .string ta, .int .i64 na, .int .i64 oa, .slice A la.length c, .int .i64 ua, .int .i64 ea], .agg #[.int .i64 kb, .string tb, .int .i64 nb, .int .i64 ob, .slice B lb.length d, .int .i64 ub, .int .i64 eb]] w fun e w' => e = .returned (.bool (sameO ⟨ka, ta, na, oa, la, ua, ea⟩ ⟨kb, tb, nb, ob, lb, ub, eb⟩)) ∧ Below w.heap.size w w'
  obtain ⟨R, hR⟩ : ∃ R, sameO ⟨ka, ta, na, oa, la, ua, ea⟩ ⟨kb, tb, nb, ob, lb, ub, eb⟩ = R := ⟨_, rfl⟩
  have HR : Hid (R = decide (ka = kb ∧ ta = tb ∧ na = nb ∧ oa = ob ∧ la = lb ∧ ua = ub ∧ ea = eb)) := by rw [Hid, ← hR, sameO, decide_eq_decide]; simp
  rw [hR, hln, hlm]
  have HLN := hid hln; have HLM := hid hlm; have HA := hid ha; have HBR := hid hb
  clear hR hln hlm ha hb
  by_cases c0 : ka = kb
  rotate_left
  · have HF : Hid (R = false) := by rw [Hid, HR.out]; simp [c0]
    have g0 : ((ka : Int) == kb) = false := by simp [c0]
    have k0 : ((ka : Int) != kb) = true := by simp [c0]
    clear HR HLN HLM HA HBR c0
    go_enter Try.func39, Try.ntmps39
    go_wp2_with fail
    go_ret
    rw [HF.out]; exact ⟨rfl, below2 _ _ _⟩
  subst c0
  by_cases c1 : ta = tb
  rotate_left
  · have HF : Hid (R = false) := by rw [Hid, HR.out]; simp [c1]
    have g1 : (ta.toList == tb.toList) = false := by rw [beq_eq_false_iff_ne]; exact str_ne c1
    have k1 : ¬ ta.toList = tb.toList := str_ne c1
    clear HR HLN HLM HA HBR c1
    go_enter Try.func39, Try.ntmps39
    go_wp2_with fail
    go_ret
    rw [HF.out]; exact ⟨rfl, below2 _ _ _⟩
  subst c1
  by_cases c2 : na = nb
  rotate_left
  · have HF : Hid (R = false) := by rw [Hid, HR.out]; simp [c2]
    have g2 : ((na : Int) == nb) = false := by simp [c2]
    have k2 : ((na : Int) != nb) = true := by simp [c2]
    clear HR HLN HLM HA HBR c2
    go_enter Try.func39, Try.ntmps39
    go_wp2_with fail
    go_ret
    rw [HF.out]; exact ⟨rfl, below2 _ _ _⟩
  subst c2
  by_cases c3 : oa = ob
  rotate_left
  · have HF : Hid (R = false) := by rw [Hid, HR.out]; simp [c3]
    have g3 : ((oa : Int) == ob) = false := by simp [c3]
    have k3 : ((oa : Int) != ob) = true := by simp [c3]
    clear HR HLN HLM HA HBR c3
    go_enter Try.func39, Try.ntmps39
    go_wp2_with fail
    go_ret
    rw [HF.out]; exact ⟨rfl, below2 _ _ _⟩
  subst c3
  by_cases c4 : ua = ub
  rotate_left
  · have HF : Hid (R = false) := by rw [Hid, HR.out]; simp [c4]
    have g4 : ((ua : Int) == ub) = false := by simp [c4]
    have k4 : ((ua : Int) != ub) = true := by simp [c4]
    clear HR HLN HLM HA HBR c4
    go_enter Try.func39, Try.ntmps39
    go_wp2_with fail
    go_ret
    rw [HF.out]; exact ⟨rfl, below2 _ _ _⟩
  subst c4
  by_cases c5 : ea = eb
  rotate_left
  · have HF : Hid (R = false) := by rw [Hid, HR.out]; simp [c5]
    have g5 : ((ea : Int) == eb) = false := by simp [c5]
    have k5 : ((ea : Int) != eb) = true := by simp [c5]
    clear HR HLN HLM HA HBR c5
    go_enter Try.func39, Try.ntmps39
    go_wp2_with fail
    go_ret
    rw [HF.out]; exact ⟨rfl, below2 _ _ _⟩
  subst c5
  have HF : Hid (R = decide (la = lb)) := by rw [Hid, HR.out, decide_eq_decide]; simp
  clear HR
  by_cases hnm : n = m
  rotate_left
  · have HE : Hid (R = false) := by rw [Hid, HF.out]; exact decide_eq_false (fun h => hnm (by rw [← HLN.out, ← HLM.out, h]))
    have hne : ((n : Int) != (m : Int)) = true := by simp; omega
    have hne2 : ((n : Int) == (m : Int)) = false := by simp; omega
    clear HF HLN HLM HA HBR hnm
    go_enter Try.func39, Try.ntmps39
    go_wp2_with fail
    go_ret
    rw [HE.out]; exact ⟨rfl, below2 _ _ _⟩
  subst hnm
  have hne : ((n : Int) != (n : Int)) = false := by simp
  go_enter Try.func39, Try.ntmps39
  go_upto_region 1 with fail
  obtain ⟨wb, hwb⟩ : ∃ W, (w.alloc (.cells #[.int .i64 ka, .string ta, .int .i64 na, .int .i64 oa, .slice A n c, .int .i64 ua, .int .i64 ea] 38)).alloc (.cells #[.int .i64 ka, .string ta, .int .i64 na, .int .i64 oa, .slice B n d, .int .i64 ua, .int .i64 ea] 38) = W := ⟨_, rfl⟩
  have HB0 : Hid (Below w.heap.size w wb) := by rw [← hwb]; exact below2 _ _ _
  have HX0 : Hid (Blk wb w.heap.size 38 #[.int .i64 ka, .string ta, .int .i64 na, .int .i64 oa, .slice A n c, .int .i64 ua, .int .i64 ea]) := by rw [← hwb]; exact (Blk.new w _ _).alloc _
  have HY0 : Hid (Blk wb (w.heap.size + 1) 38 #[.int .i64 ka, .string ta, .int .i64 na, .int .i64 oa, .slice B n d, .int .i64 ua, .int .i64 ea]) := by rw [← hwb]; exact new2 _ _ _ _
  rw [hwb]
  clear hwb
  have HA2 := hid (HA.out.below HB0.out); have HB2 := hid (HBR.out.below HB0.out)
  clear HA HBR
  obtain ⟨gx, hgx⟩ : ∃ g, w.heap.size = g := ⟨_, rfl⟩
  have HGX := hid hgx
  rw [hgx] at HX0 HY0 ⊢
  obtain ⟨gy, hgy⟩ : ∃ g, gx + 1 = g := ⟨_, rfl⟩
  rw [hgy] at HY0 ⊢
  clear hgx hgy
  obtain ⟨x0, x1, x2, x3, x4, x5, x6⟩ := fact7 HX0.out
  obtain ⟨y0, y1, y2, y3, y4, y5, y6⟩ := fact7 HY0.out
  have hxl := HX0.out.lt; have hyl := HY0.out.lt
  have HR0 : Hid (R = decide (la.drop 0 = lb.drop 0)) := HF.out
  clear HF
  go_wp2_with fail
  go_loopw [5] (fun iv wr => ∃ i : Nat, i ≤ n ∧ iv = .int .i64 (i : Int) ∧ R = decide (la.drop i = lb.drop i) ∧ Below wb.heap.size wb wr) (fun iv _ => n - (intOf iv).toNat)
  case atStart => exact ⟨0, by omega, rfl, HR0.out, Below.refl _ _⟩
  case round =>
    obtain ⟨i, hi, rfl, hr, hbl⟩ := hrel
    have HRR := hid hr; have HBL := hid hbl
    have HBW : Hid (Below w.heap.size w wr) := HB0.out.trans (hbl.mono HB0.out.size)
    clear hr hbl HR0 x0 x1 x2 x3 x4 x5 x6 y0 y1 y2 y3 y4 y5 y6
    obtain ⟨x0, x1, x2, x3, x4, x5, x6⟩ := fact7 (HX0.out.below HBL.out HX0.out.lt)
    obtain ⟨y0, y1, y2, y3, y4, y5, y6⟩ := fact7 (HY0.out.below HBL.out HY0.out.lt)
    have hxl2 := (HX0.out.below HBL.out HX0.out.lt).lt
    have hyl2 := (HY0.out.below HBL.out HY0.out.lt).lt
    clear hxl hyl
    by_cases hlt : i < n
    · have h1 : i < la.length := by rw [HLN.out]; exact hlt
      have h2 : i < lb.length := by rw [HLM.out]; exact hlt
      obtain ⟨b1, o1, rfl, hbl1, hc1⟩ := (HA2.out.below HBL.out).at (by rw [armVCells_length, HLN.out]; omega)
      obtain ⟨b2, o2, rfl, hbl2, hc2⟩ := (HB2.out.below HBL.out).at (by rw [armVCells_length, HLM.out]; omega)
      obtain ⟨p0, p1⟩ := arm_at hc1 i h1
      obtain ⟨q0, q1⟩ := arm_at hc2 i h2
      have HS : Hid (R = decide (la[i] = lb[i] ∧ la.drop (i + 1) = lb.drop (i + 1))) := by
        rw [Hid, HRR.out, List.drop_eq_getElem_cons h1, List.drop_eq_getElem_cons h2, decide_eq_decide, List.cons.injEq]
      obtain ⟨⟨sa, ra⟩, hxa⟩ : ∃ x, la[i]'h1 = x := ⟨_, rfl⟩
      obtain ⟨⟨sb, rb⟩, hxb⟩ : ∃ x, lb[i]'h2 = x := ⟨_, rfl⟩
      rw [hxa] at p0 p1 HS
      rw [hxb] at q0 q1 HS
      simp only at p0 p1 q0 q1
      clear hxa hxb hc1 hc2 h1 h2 HRR
      by_cases hs : sa = sb
      · subst hs
        by_cases ht : ra = rb
        · subst ht
          have HS2 : Hid (R = decide (la.drop (i + 1) = lb.drop (i + 1))) := by rw [Hid, HS.out]; simp
          clear HS
          go_wp2_with fail
          go_quiet (fail)
          have HB3 := hid (HBL.out.trans ((drewN_below wr nq).mono HBL.out.size))
          go_wp2_with fail
          go_roundw
          case rel => exact ⟨i + 1, by omega, by go_num, HS2.out, HB3.out⟩
          case measure => simp [intOf]; omega
        · have HS2 : Hid (R = false) := by rw [Hid, HS.out]; simp [ht]
          have ht0 : ((ra : Int) == rb) = false := by simp [ht]
          clear HS ht
          go_wp2_with fail
          go_quiet (fail)
          have HB3 := hid (HBW.out.trans ((drewN_below wr nq).mono HBW.out.size))
          go_wp2_with fail
          go_ret
          rw [HS2.out, HGX.out]; exact ⟨rfl, by have := HB3.out; rwa [HGX.out] at this⟩
      · have HS2 : Hid (R = false) := by rw [Hid, HS.out]; simp [hs]
        have hs0 : (sa.toList == sb.toList) = false := by
          rw [beq_eq_false_iff_ne]; exact str_ne hs
        have hs1 : ¬ sa.toList = sb.toList := str_ne hs
        clear HS hs
        go_wp2_with fail
        go_quiet (fail)
        have HB3 := hid (HBW.out.trans ((drewN_below wr nq).mono HBW.out.size))
        go_wp2_with fail
        go_ret
        rw [HS2.out, HGX.out]; exact ⟨rfl, by have := HB3.out; rwa [HGX.out] at this⟩
    · have HS2 : Hid (R = true) := by
        rw [Hid, HRR.out, List.drop_of_length_le (by rw [HLN.out]; omega), List.drop_of_length_le (by rw [HLM.out]; omega)]; rfl
      clear HRR
      go_wp2_with fail
      go_ret
      rw [HS2.out, HGX.out]; exact ⟨rfl, by have := HBW.out; rwa [HGX.out] at this⟩

def sameP (a b : ProgV) : Bool := decide (a = b)

set_option maxRecDepth 20000 in
set_option maxHeartbeats 4000000 in
theorem eqOps_any (A B : Option Addr) (n m c d : Nat) (l k : List OpV) (w : World) (hl : l.length = n) (hk : k.length = m) (hnb : n ≤ 9223372036854775807) (hs : ∀ o ∈ l, o.arms.length ≤ 9223372036854775807) (ha : OpsIn w A l) (hb : OpsIn w B k) :
    Calls Try.prog 37 #[.slice A n c, .slice B m d, .func (.func 38) #[] #[]] w fun e w' => e = .returned (.bool (decide (l = k))) ∧ Below w.heap.size w w' := by
  by_cases hnm : n = m
  rotate_left
  · have HE : Hid (decide (l = k) = false) := decide_eq_false (fun h => hnm (by rw [← hl, ← hk, h]))
    have hne : ((n : Int) != (m : Int)) = true := by simp; omega
    have hne2 : ((n : Int) == (m : Int)) = false := by simp; omega
    clear hl hk ha hb hs
    go_enter Try.func37, Try.ntmps37
    go_wp2_with fail
    go_ret
    rw [HE.out]; exact ⟨rfl, Below.refl _ _⟩
  subst hnm
  have HL := hid hl; have HK := hid hk; have HA := hid ha; have HB := hid hb; have HS := hid hs
  have hne : ((n : Int) != (n : Int)) = false := by simp
  have HEN : Hid (∀ args W, (callFunc 38 args).run Try.prog W = .ok (.enter 38 args) W) := enters_of Try.func38 (by kernel_rfl) rfl
  have CO : Hid (∀ (a b : OpV) (va vb : Value) W, ArmsIn W a va → ArmsIn W b vb → a.arms.length ≤ 9223372036854775807 → Calls Try.prog 38 #[.agg #[.int .i64 a.kind, .string a.text, .int .i64 a.n, .int .i64 a.tt, va, .int .i64 a.onT, .int .i64 a.onE], .agg #[.int .i64 b.kind, .string b.text, .int .i64 b.n, .int .i64 b.tt, vb, .int .i64 b.onT, .int .i64 b.onE]] W fun e w' => e = .returned (.bool (sameO a b)) ∧ Below W.heap.size W w') := fun a b va vb W h1 h2 h3 => sameOp_any a b va vb W h1 h2 h3
  obtain ⟨R, hR⟩ : ∃ R, decide (l = k) = R := ⟨_, rfl⟩
  have HR : Hid (R = decide (l.drop 0 = k.drop 0)) := by rw [Hid, ← hR]; rfl
  rw [hR]
  clear hl hk ha hb hR hs
  have hen : ∀ args W, (callFunc 38 args).run Try.prog W = .ok (.enter 38 args) W := HEN.out
  go_enter Try.func37, Try.ntmps37
  go_wp2_with fail
  go_loopw [17] (fun iv wr => ∃ i : Nat, i ≤ n ∧ iv = .int .i64 (i : Int) ∧ R = decide (l.drop i = k.drop i) ∧ Below w.heap.size w wr) (fun iv _ => n - (intOf iv).toNat)
  case atStart => exact ⟨0, by omega, rfl, HR.out, Below.refl _ _⟩
  case round =>
    obtain ⟨i, hi, rfl, hr, hbl⟩ := hrel
    have HRR := hid hr; have HBL := hid hbl
    clear hr hbl HR
    by_cases hlt : i < n
    · have h1 : i < l.length := by rw [HL.out]; exact hlt
      have h2 : i < k.length := by rw [HK.out]; exact hlt
      obtain ⟨b1, o1, va, rfl, hbl1, hva, p0, p1, p2, p3, p4, p5, p6⟩ := (HA.out.below HBL.out).at i h1
      obtain ⟨b2, o2, vb, rfl, hbl2, hvb, q0, q1, q2, q3, q4, q5, q6⟩ := (HB.out.below HBL.out).at i h2
      have HSS : Hid (R = decide (l[i] = k[i] ∧ l.drop (i + 1) = k.drop (i + 1))) := by
        rw [Hid, HRR.out, List.drop_eq_getElem_cons h1, List.drop_eq_getElem_cons h2, decide_eq_decide, List.cons.injEq]
      have CX : Hid (∀ W, Below wr.heap.size wr W → Calls Try.prog 38 #[.agg #[.int .i64 (l[i]'h1).kind, .string (l[i]'h1).text, .int .i64 (l[i]'h1).n, .int .i64 (l[i]'h1).tt, va, .int .i64 (l[i]'h1).onT, .int .i64 (l[i]'h1).onE], .agg #[.int .i64 (k[i]'h2).kind, .string (k[i]'h2).text, .int .i64 (k[i]'h2).n, .int .i64 (k[i]'h2).tt, vb, .int .i64 (k[i]'h2).onT, .int .i64 (k[i]'h2).onE]] W fun e w' => e = .returned (.bool (sameO (l[i]'h1) (k[i]'h2))) ∧ Below W.heap.size W w') := fun W h => CO.out _ _ va vb W (hva.below h) (hvb.below h) (HS.out _ (List.getElem_mem h1))
      obtain ⟨A1, n1, e1⟩ : ∃ A1 n1, va = .slice A1 (l[i]'h1).arms.length n1 := by obtain ⟨A1, n1, e1, _⟩ := hva; exact ⟨A1, n1, e1⟩
      obtain ⟨A2, n2, e2⟩ : ∃ A2 n2, vb = .slice A2 (k[i]'h2).arms.length n2 := by obtain ⟨A2, n2, e2, _⟩ := hvb; exact ⟨A2, n2, e2⟩
      subst e1; subst e2
      obtain ⟨⟨ka, ta, na, oa, la, ua, ea⟩, hxa⟩ : ∃ x, l[i]'h1 = x := ⟨_, rfl⟩
      obtain ⟨⟨kb, tb, nb, ob, lb, ub, eb⟩, hxb⟩ : ∃ x, k[i]'h2 = x := ⟨_, rfl⟩
      rw [hxa] at p0 p1 p2 p3 p4 p5 p6
      rw [hxb] at q0 q1 q2 q3 q4 q5 q6
      rw [hxa, hxb] at HSS CX
      simp only at p0 p1 p2 p3 p4 p5 p6 q0 q1 q2 q3 q4 q5 q6 CX
      obtain ⟨s1, hs1⟩ : ∃ x, la.length = x := ⟨_, rfl⟩
      obtain ⟨s2, hs2⟩ : ∃ x, lb.length = x := ⟨_, rfl⟩
      rw [hs1] at p4; rw [hs2] at q4; rw [hs1, hs2] at CX
      obtain ⟨q, hq⟩ : ∃ x, sameO ⟨ka, ta, na, oa, la, ua, ea⟩ ⟨kb, tb, nb, ob, lb, ub, eb⟩ = x := ⟨_, rfl⟩
      rw [hq] at CX
      have HQ : Hid (q = decide ((⟨ka, ta, na, oa, la, ua, ea⟩ : OpV) = ⟨kb, tb, nb, ob, lb, ub, eb⟩)) := by rw [Hid, ← hq]; rfl
      clear hxa hxb hs1 hs2 hq hva hvb h1 h2 HRR
      go_upto_region 7 with fail
      obtain ⟨wx, hwx⟩ : ∃ W, (wr.alloc (.cells #[.int .i64 ka, .string ta, .int .i64 na, .int .i64 oa, .slice A1 s1 n1, .int .i64 ua, .int .i64 ea] 38)).alloc (.cells #[.int .i64 kb, .string tb, .int .i64 nb, .int .i64 ob, .slice A2 s2 n2, .int .i64 ub, .int .i64 eb] 38) = W := ⟨_, rfl⟩
      have HBX : Hid (Below wr.heap.size wr wx) := by rw [← hwx]; exact below2 _ _ _
      have HX0 : Hid (Blk wx wr.heap.size 38 #[.int .i64 ka, .string ta, .int .i64 na, .int .i64 oa, .slice A1 s1 n1, .int .i64 ua, .int .i64 ea]) := by rw [← hwx]; exact (Blk.new wr _ _).alloc _
      have HY0 : Hid (Blk wx (wr.heap.size + 1) 38 #[.int .i64 kb, .string tb, .int .i64 nb, .int .i64 ob, .slice A2 s2 n2, .int .i64 ub, .int .i64 eb]) := by rw [← hwx]; exact new2 _ _ _ _
      rw [hwx]
      clear hwx p0 p1 p2 p3 p4 p5 p6 q0 q1 q2 q3 q4 q5 q6
      obtain ⟨gx, hgx⟩ : ∃ g, wr.heap.size = g := ⟨_, rfl⟩
      have HGX := hid hgx
      rw [hgx] at HX0 HY0 ⊢
      obtain ⟨gy, hgy⟩ : ∃ g, gx + 1 = g := ⟨_, rfl⟩
      rw [hgy] at HY0 ⊢
      clear hgx hgy
      obtain ⟨x0, x1, x2, x3, x4, x5, x6⟩ := fact7 HX0.out
      obtain ⟨y0, y1, y2, y3, y4, y5, y6⟩ := fact7 HY0.out
      have hxl := HX0.out.lt; have hyl := HY0.out.lt
      have CY := hid (CX.out wx HBX.out)
      go_wp2_with fail
      refine CY.out.mono ?_
      rintro en w5 ⟨rfl, hb5⟩
      have HB5 : Hid (Below w.heap.size w w5) := HBL.out.trans (HBX.out.mono HBL.out.size |>.trans (hb5.mono (by have := HBX.out.size; have := HBL.out.size; omega)))
      clear hb5 CX CY x0 x1 x2 x3 x4 x5 x6 y0 y1 y2 y3 y4 y5 y6 hxl hyl HX0 HY0 HBX
      cases q
      · have HF : Hid (R = false) := by
          rw [Hid, HSS.out]; exact decide_eq_false (fun h => by have := HQ.out; rw [decide_eq_true h.1] at this; cases this)
        clear HSS HQ
        go_wp2_with fail
        go_ret
        rw [HF.out]; exact ⟨rfl, HB5.out⟩
      · have HF : Hid (R = decide (l.drop (i + 1) = k.drop (i + 1))) := by
          have h := of_decide_eq_true HQ.out.symm
          rw [Hid, HSS.out, decide_eq_decide]
          exact ⟨fun x => x.2, fun x => ⟨h, x⟩⟩
        clear HSS HQ
        go_wp2_with fail
        go_roundw
        case rel => exact ⟨i + 1, by omega, by go_num, HF.out, HB5.out⟩
        case measure => simp [intOf]; omega
    · have HS2 : Hid (R = true) := by
        rw [Hid, HRR.out, List.drop_of_length_le (by rw [HL.out]; omega), List.drop_of_length_le (by rw [HK.out]; omega)]; rfl
      clear HRR
      go_wp2_with fail
      go_ret
      rw [HS2.out]; exact ⟨rfl, HBL.out⟩

set_option maxRecDepth 20000 in
set_option maxHeartbeats 4000000 in
theorem progSame_any (p q : ProgV) (A B : Option Addr) (c d : Nat) (w : World) (ha : OpsIn w A p.ops) (hb : OpsIn w B q.ops) (hn : p.ops.length ≤ 9223372036854775807) (hs : ∀ o ∈ p.ops, o.arms.length ≤ 9223372036854775807) : Calls Try.prog 13 #[p.val (.slice A p.ops.length c), q.val (.slice B q.ops.length d)] w fun e w' => e = .returned (.bool (sameP p q)) ∧ Below w.heap.size w w' := by
  obtain ⟨na, da, ja, la⟩ := p
  obtain ⟨nb, db, jb, lb⟩ := q
  simp only at ha hb hn hs
  obtain ⟨n, hln⟩ : ∃ n, la.length = n := ⟨_, rfl⟩
  obtain ⟨m, hlm⟩ : ∃ m, lb.length = m := ⟨_, rfl⟩
  rw [hln] at hn
  have C := hid (fun W h => eqOps_any A B n m c d la lb W hln hlm hn hs (ha.below h) (hb.below h))
  show Calls Try.prog 13 #[.agg #[.string na, .int .i64 da, .int .i64 ja, .slice A la.length c], .agg #[.string nb, .int .i64 db, .int .i64 jb, .slice B lb.length d]] w fun e w' => e = .returned (.bool (sameP ⟨na, da, ja, la⟩ ⟨nb, db, jb, lb⟩)) ∧ Below w.heap.size w w'
  obtain ⟨R, hR⟩ : ∃ R, sameP ⟨na, da, ja, la⟩ ⟨nb, db, jb, lb⟩ = R := ⟨_, rfl⟩
  have HR : Hid (R = decide (na = nb ∧ da = db ∧ ja = jb ∧ la = lb)) := by rw [Hid, ← hR, sameP, decide_eq_decide]; simp
  rw [hR, hln, hlm]
  clear hR hln hlm ha hb hn hs
  by_cases c0 : na = nb
  rotate_left
  · have HF : Hid (R = false) := by rw [Hid, HR.out]; simp [c0]
    have g0 : (na.toList == nb.toList) = false := by rw [beq_eq_false_iff_ne]; exact str_ne c0
    have k0 : ¬ na.toList = nb.toList := str_ne c0
    clear HR C c0
    go_enter Try.func13, Try.ntmps13
    go_wp2_with fail
    go_ret
    rw [HF.out]; exact ⟨rfl, below2 _ _ _⟩
  subst c0
  by_cases c1 : da = db
  rotate_left
  · have HF : Hid (R = false) := by rw [Hid, HR.out]; simp [c1]
    have g1 : ((da : Int) == db) = false := by simp [c1]
    have k1 : ((da : Int) != db) = true := by simp [c1]
    clear HR C c1
    go_enter Try.func13, Try.ntmps13
    go_wp2_with fail
    go_ret
    rw [HF.out]; exact ⟨rfl, below2 _ _ _⟩
  subst c1
  by_cases c2 : ja = jb
  rotate_left
  · have HF : Hid (R = false) := by rw [Hid, HR.out]; simp [c2]
    have g2 : ((ja : Int) == jb) = false := by simp [c2]
    have k2 : ((ja : Int) != jb) = true := by simp [c2]
    clear HR C c2
    go_enter Try.func13, Try.ntmps13
    go_wp2_with fail
    go_ret
    rw [HF.out]; exact ⟨rfl, below2 _ _ _⟩
  subst c2
  have HF : Hid (R = decide (la = lb)) := by rw [Hid, HR.out, decide_eq_decide]; simp
  clear HR
  go_enter Try.func13, Try.ntmps13
  go_wp2_with fail
  refine (C.out _ (below2 _ _ _)).mono ?_
  rintro en w1 ⟨rfl, hb1⟩
  have HB := hid ((below2 _ _ _).trans (hb1.mono (below2 _ _ _).size))
  clear hb1 C
  obtain ⟨q, hq⟩ : ∃ q, decide (la = lb) = q := ⟨_, rfl⟩
  rw [hq] at HF ⊢
  clear hq
  cases q <;>
  · go_wp2_with fail
    go_ret
    rw [HF.out]; exact ⟨rfl, HB.out⟩

set_option maxRecDepth 20000 in
set_option maxHeartbeats 4000000 in
theorem rSame_any (p q : ProgV) (A B : Option Addr) (c d : Nat) (w : World) (ha : OpsIn w A p.ops) (hb : OpsIn w B q.ops) (hn : p.ops.length ≤ 9223372036854775807) (hs : ∀ o ∈ p.ops, o.arms.length ≤ 9223372036854775807) : Calls Try.prog 14 #[p.val (.slice A p.ops.length c), q.val (.slice B q.ops.length d)] w fun e w' => e = .returned (.bool (sameP p q)) ∧ Below w.heap.size w w' := by
  obtain ⟨na, da, ja, la⟩ := p
  obtain ⟨nb, db, jb, lb⟩ := q
  simp only at ha hb hn hs
  obtain ⟨n, hln⟩ : ∃ n, la.length = n := ⟨_, rfl⟩
  obtain ⟨m, hlm⟩ : ∃ m, lb.length = m := ⟨_, rfl⟩
  rw [hln] at hn
  have HLN := hid hln; have HLM := hid hlm; have HA := hid ha; have HBR := hid hb; have HS := hid hs
  show Calls Try.prog 14 #[.agg #[.string na, .int .i64 da, .int .i64 ja, .slice A la.length c], .agg #[.string nb, .int .i64 db, .int .i64 jb, .slice B lb.length d]] w fun e w' => e = .returned (.bool (sameP ⟨na, da, ja, la⟩ ⟨nb, db, jb, lb⟩)) ∧ Below w.heap.size w w'
  obtain ⟨R, hR⟩ : ∃ R, sameP ⟨na, da, ja, la⟩ ⟨nb, db, jb, lb⟩ = R := ⟨_, rfl⟩
  have HR : Hid (R = decide (na = nb ∧ da = db ∧ ja = jb ∧ la = lb)) := by rw [Hid, ← hR, sameP, decide_eq_decide]; simp
  rw [hR, hln, hlm]
  clear hR hln hlm ha hb hs
  by_cases c0 : na = nb
  rotate_left
  · have HF : Hid (R = false) := by rw [Hid, HR.out]; simp [c0]
    have g0 : (na.toList == nb.toList) = false := by rw [beq_eq_false_iff_ne]; exact str_ne c0
    have k0 : ¬ na.toList = nb.toList := str_ne c0
    clear HR HLN HLM HA HBR HS c0
    go_enter Try.func14, Try.ntmps14
    go_wp2_with fail
    go_ret
    rw [HF.out]; exact ⟨rfl, below2 _ _ _⟩
  subst c0
  by_cases c1 : da = db
  rotate_left
  · have HF : Hid (R = false) := by rw [Hid, HR.out]; simp [c1]
    have g1 : ((da : Int) == db) = false := by simp [c1]
    have k1 : ((da : Int) != db) = true := by simp [c1]
    clear HR HLN HLM HA HBR HS c1
    go_enter Try.func14, Try.ntmps14
    go_wp2_with fail
    go_ret
    rw [HF.out]; exact ⟨rfl, below2 _ _ _⟩
  subst c1
  by_cases c2 : ja = jb
  rotate_left
  · have HF : Hid (R = false) := by rw [Hid, HR.out]; simp [c2]
    have g2 : ((ja : Int) == jb) = false := by simp [c2]
    have k2 : ((ja : Int) != jb) = true := by simp [c2]
    clear HR HLN HLM HA HBR HS c2
    go_enter Try.func14, Try.ntmps14
    go_wp2_with fail
    go_ret
    rw [HF.out]; exact ⟨rfl, below2 _ _ _⟩
  subst c2
  have HF : Hid (R = decide (la = lb)) := by rw [Hid, HR.out, decide_eq_decide]; simp
  clear HR
  by_cases hnm : n = m
  rotate_left
  · have HE : Hid (R = false) := by rw [Hid, HF.out]; exact decide_eq_false (fun h => hnm (by rw [← HLN.out, ← HLM.out, h]))
    have hne : ((n : Int) != (m : Int)) = true := by simp; omega
    have hne2 : ((n : Int) == (m : Int)) = false := by simp; omega
    clear HF HLN HLM HA HBR hnm HS
    go_enter Try.func14, Try.ntmps14
    go_wp2_with fail
    go_ret
    rw [HE.out]; exact ⟨rfl, below2 _ _ _⟩
  subst hnm
  have hne : ((n : Int) != (n : Int)) = false := by simp
  have CO : Hid (∀ (a b : OpV) (va vb : Value) W, ArmsIn W a va → ArmsIn W b vb → a.arms.length ≤ 9223372036854775807 → Calls Try.prog 39 #[.agg #[.int .i64 a.kind, .string a.text, .int .i64 a.n, .int .i64 a.tt, va, .int .i64 a.onT, .int .i64 a.onE], .agg #[.int .i64 b.kind, .string b.text, .int .i64 b.n, .int .i64 b.tt, vb, .int .i64 b.onT, .int .i64 b.onE]] W fun e w' => e = .returned (.bool (sameO a b)) ∧ Below W.heap.size W w') := fun a b va vb W h1 h2 h3 => rSameOp_any a b va vb W h1 h2 h3
  go_enter Try.func14, Try.ntmps14
  go_upto_region 1 with fail
  obtain ⟨wb, hwb⟩ : ∃ W, (w.alloc (.cells #[.string na, .int .i64 da, .int .i64 ja, .slice A n c] 31)).alloc (.cells #[.string na, .int .i64 da, .int .i64 ja, .slice B n d] 31) = W := ⟨_, rfl⟩
  have HB0 : Hid (Below w.heap.size w wb) := by rw [← hwb]; exact below2 _ _ _
  have HX0 : Hid (Blk wb w.heap.size 31 #[.string na, .int .i64 da, .int .i64 ja, .slice A n c]) := by rw [← hwb]; exact (Blk.new w _ _).alloc _
  have HY0 : Hid (Blk wb (w.heap.size + 1) 31 #[.string na, .int .i64 da, .int .i64 ja, .slice B n d]) := by rw [← hwb]; exact new2 _ _ _ _
  rw [hwb]
  clear hwb
  have HA2 := hid (HA.out.below HB0.out); have HB2 := hid (HBR.out.below HB0.out)
  clear HA HBR
  obtain ⟨gx, hgx⟩ : ∃ g, w.heap.size = g := ⟨_, rfl⟩
  have HGX := hid hgx
  rw [hgx] at HX0 HY0 ⊢
  obtain ⟨gy, hgy⟩ : ∃ g, gx + 1 = g := ⟨_, rfl⟩
  rw [hgy] at HY0 ⊢
  clear hgx hgy
  obtain ⟨x0, x1, x2, x3⟩ := fact4 HX0.out
  obtain ⟨y0, y1, y2, y3⟩ := fact4 HY0.out
  have hxl := HX0.out.lt; have hyl := HY0.out.lt
  have HR0 : Hid (R = decide (la.drop 0 = lb.drop 0)) := HF.out
  clear HF
  go_wp2_with fail
  go_loopw [5] (fun iv wr => ∃ i : Nat, i ≤ n ∧ iv = .int .i64 (i : Int) ∧ R = decide (la.drop i = lb.drop i) ∧ Below wb.heap.size wb wr) (fun iv _ => n - (intOf iv).toNat)
  case atStart => exact ⟨0, by omega, rfl, HR0.out, Below.refl _ _⟩
  case round =>
    obtain ⟨i, hi, rfl, hr, hbl⟩ := hrel
    have HRR := hid hr; have HBL := hid hbl
    have HBW : Hid (Below w.heap.size w wr) := HB0.out.trans (hbl.mono HB0.out.size)
    clear hr hbl HR0 x0 x1 x2 x3 y0 y1 y2 y3
    obtain ⟨x0, x1, x2, x3⟩ := fact4 (HX0.out.below HBL.out HX0.out.lt)
    obtain ⟨y0, y1, y2, y3⟩ := fact4 (HY0.out.below HBL.out HY0.out.lt)
    have hxl2 := (HX0.out.below HBL.out HX0.out.lt).lt
    have hyl2 := (HY0.out.below HBL.out HY0.out.lt).lt
    clear hxl hyl
    by_cases hlt : i < n
    · have h1 : i < la.length := by rw [HLN.out]; exact hlt
      have h2 : i < lb.length := by rw [HLM.out]; exact hlt
      obtain ⟨b1, o1, va, rfl, hbl1, hva, p0, p1, p2, p3, p4, p5, p6⟩ := (HA2.out.below HBL.out).at i h1
      obtain ⟨b2, o2, vb, rfl, hbl2, hvb, q0, q1, q2, q3, q4, q5, q6⟩ := (HB2.out.below HBL.out).at i h2
      have HSS : Hid (R = decide (la[i] = lb[i] ∧ la.drop (i + 1) = lb.drop (i + 1))) := by
        rw [Hid, HRR.out, List.drop_eq_getElem_cons h1, List.drop_eq_getElem_cons h2, decide_eq_decide, List.cons.injEq]
      have CX : Hid (∀ q : BW wr.heap.size wr, Calls Try.prog 39 #[.agg #[.int .i64 (la[i]'h1).kind, .string (la[i]'h1).text, .int .i64 (la[i]'h1).n, .int .i64 (la[i]'h1).tt, va, .int .i64 (la[i]'h1).onT, .int .i64 (la[i]'h1).onE], .agg #[.int .i64 (lb[i]'h2).kind, .string (lb[i]'h2).text, .int .i64 (lb[i]'h2).n, .int .i64 (lb[i]'h2).tt, vb, .int .i64 (lb[i]'h2).onT, .int .i64 (lb[i]'h2).onE]] q.1 fun e w' => e = .returned (.bool (sameO (la[i]'h1) (lb[i]'h2))) ∧ Below q.1.heap.size q.1 w') := fun q => CO.out _ _ va vb q.1 (hva.below q.2) (hvb.below q.2) (HS.out _ (List.getElem_mem h1))
      obtain ⟨A1, n1, e1⟩ : ∃ A1 n1, va = .slice A1 (la[i]'h1).arms.length n1 := by obtain ⟨A1, n1, e1, _⟩ := hva; exact ⟨A1, n1, e1⟩
      obtain ⟨A2, n2, e2⟩ : ∃ A2 n2, vb = .slice A2 (lb[i]'h2).arms.length n2 := by obtain ⟨A2, n2, e2, _⟩ := hvb; exact ⟨A2, n2, e2⟩
      subst e1; subst e2
      obtain ⟨⟨ka, ta, ma, oa, ra, ua, ea⟩, hxa⟩ : ∃ x, la[i]'h1 = x := ⟨_, rfl⟩
      obtain ⟨⟨kb, tb, mb, ob, rb, ub, eb⟩, hxb⟩ : ∃ x, lb[i]'h2 = x := ⟨_, rfl⟩
      rw [hxa] at p0 p1 p2 p3 p4 p5 p6
      rw [hxb] at q0 q1 q2 q3 q4 q5 q6
      rw [hxa, hxb] at HSS CX
      simp only at p0 p1 p2 p3 p4 p5 p6 q0 q1 q2 q3 q4 q5 q6 CX
      obtain ⟨s1, hs1⟩ : ∃ x, ra.length = x := ⟨_, rfl⟩
      obtain ⟨s2, hs2⟩ : ∃ x, rb.length = x := ⟨_, rfl⟩
      rw [hs1] at p4; rw [hs2] at q4; rw [hs1, hs2] at CX
      obtain ⟨q, hq⟩ : ∃ x, sameO ⟨ka, ta, ma, oa, ra, ua, ea⟩ ⟨kb, tb, mb, ob, rb, ub, eb⟩ = x := ⟨_, rfl⟩
      rw [hq] at CX
      have HQ : Hid (q = decide ((⟨ka, ta, ma, oa, ra, ua, ea⟩ : OpV) = ⟨kb, tb, mb, ob, rb, ub, eb⟩)) := by rw [Hid, ← hq]; rfl
      clear hxa hxb hs1 hs2 hq hva hvb h1 h2 HRR
      have Tx3 : ∀ q : BW wr.heap.size wr, q.1.cell? ⟨gx, 3, none⟩ = some (.slice (some ⟨b1, o1, none⟩) n c) := fun q => q.cellAt hxl2 x3
      have Ty3 : ∀ q : BW wr.heap.size wr, q.1.cell? ⟨gy, 3, none⟩ = some (.slice (some ⟨b2, o2, none⟩) n d) := fun q => q.cellAt hyl2 y3
      have Tp0 : ∀ q : BW wr.heap.size wr, q.1.cell? ⟨b1, o1 + i * 7, none⟩ = some (.int .i64 ka) := fun q => q.cellAt hbl1 p0
      have Tp1 : ∀ q : BW wr.heap.size wr, q.1.cell? ⟨b1, o1 + i * 7 + 1, none⟩ = some (.string ta) := fun q => q.cellAt hbl1 p1
      have Tp2 : ∀ q : BW wr.heap.size wr, q.1.cell? ⟨b1, o1 + i * 7 + 2, none⟩ = some (.int .i64 ma) := fun q => q.cellAt hbl1 p2
      have Tp3 : ∀ q : BW wr.heap.size wr, q.1.cell? ⟨b1, o1 + i * 7 + 3, none⟩ = some (.int .i64 oa) := fun q => q.cellAt hbl1 p3
      have Tp4 : ∀ q : BW wr.heap.size wr, q.1.cell? ⟨b1, o1 + i * 7 + 4, none⟩ = some (.slice A1 s1 n1) := fun q => q.cellAt hbl1 p4
      have Tp5 : ∀ q : BW wr.heap.size wr, q.1.cell? ⟨b1, o1 + i * 7 + 5, none⟩ = some (.int .i64 ua) := fun q => q.cellAt hbl1 p5
      have Tp6 : ∀ q : BW wr.heap.size wr, q.1.cell? ⟨b1, o1 + i * 7 + 6, none⟩ = some (.int .i64 ea) := fun q => q.cellAt hbl1 p6
      have Tq0 : ∀ q : BW wr.heap.size wr, q.1.cell? ⟨b2, o2 + i * 7, none⟩ = some (.int .i64 kb) := fun q => q.cellAt hbl2 q0
      have Tq1 : ∀ q : BW wr.heap.size wr, q.1.cell? ⟨b2, o2 + i * 7 + 1, none⟩ = some (.string tb) := fun q => q.cellAt hbl2 q1
      have Tq2 : ∀ q : BW wr.heap.size wr, q.1.cell? ⟨b2, o2 + i * 7 + 2, none⟩ = some (.int .i64 mb) := fun q => q.cellAt hbl2 q2
      have Tq3 : ∀ q : BW wr.heap.size wr, q.1.cell? ⟨b2, o2 + i * 7 + 3, none⟩ = some (.int .i64 ob) := fun q => q.cellAt hbl2 q3
      have Tq4 : ∀ q : BW wr.heap.size wr, q.1.cell? ⟨b2, o2 + i * 7 + 4, none⟩ = some (.slice A2 s2 n2) := fun q => q.cellAt hbl2 q4
      have Tq5 : ∀ q : BW wr.heap.size wr, q.1.cell? ⟨b2, o2 + i * 7 + 5, none⟩ = some (.int .i64 ub) := fun q => q.cellAt hbl2 q5
      have Tq6 : ∀ q : BW wr.heap.size wr, q.1.cell? ⟨b2, o2 + i * 7 + 6, none⟩ = some (.int .i64 eb) := fun q => q.cellAt hbl2 q6
      go_wp2_with fail
      refine wp_region_below wr.heap.size (by kernel_rfl) (by kernel_rfl) ?_
      repeat (go_big_quiet_step ((go_at_call 39; exact callBW2 (Nat.le_refl _) CX.out _)))
      refine wpQuiet_nil ?_
      intro w5 hq5
      have HB5 : Hid (Below wr.heap.size wr w5) := by obtain ⟨qq, rfl⟩ := hq5; exact qq.2
      clear hq5 CX Tx3 Ty3 Tp0 Tq0 Tp1 Tq1 Tp2 Tq2 Tp3 Tq3 Tp4 Tq4 Tp5 Tq5 Tp6 Tq6
      have HB6 := hid (HBL.out.trans (HB5.out.mono HBL.out.size))
      have HB7 := hid (HBW.out.trans (HB5.out.mono HBW.out.size))
      cases q
      · have HF : Hid (R = false) := by
          rw [Hid, HSS.out]; exact decide_eq_false (fun h => by have := HQ.out; rw [decide_eq_true h.1] at this; cases this)
        clear HSS HQ
        go_wp2_with fail
        go_ret
        rw [HF.out, HGX.out]; exact ⟨rfl, by have := HB7.out; rwa [HGX.out] at this⟩
      · have HF : Hid (R = decide (la.drop (i + 1) = lb.drop (i + 1))) := by
          have h := of_decide_eq_true HQ.out.symm
          rw [Hid, HSS.out, decide_eq_decide]
          exact ⟨fun x => x.2, fun x => ⟨h, x⟩⟩
        clear HSS HQ
        go_wp2_with fail
        go_roundw
        case rel => exact ⟨i + 1, by omega, by go_num, HF.out, HB6.out⟩
        case measure => simp [intOf]; omega
    · have HS2 : Hid (R = true) := by
        rw [Hid, HRR.out, List.drop_of_length_le (by rw [HLN.out]; omega), List.drop_of_length_le (by rw [HLM.out]; omega)]; rfl
      clear HRR
      go_wp2_with fail
      go_ret
      rw [HS2.out, HGX.out]; exact ⟨rfl, by have := HBW.out; rwa [HGX.out] at this⟩

theorem rWord_any (k : Int) (w : World) : Calls Try.prog 16 #[.int .i64 k] w fun e w' => e = .returned (.string (wordM k)) ∧ Below w.heap.size w w' := by
  by_cases h : k < 1 ∨ 6 < k
  · have HW : Hid (wordM k = ⟨#[]⟩) := by
      unfold wordM
      rw [Hid, if_neg (by omega), if_neg (by omega), if_neg (by omega), if_neg (by omega), if_neg (by omega), if_neg (by omega)]
    rcases h with h | h
    · go_enter Try.func16, Try.ntmps16
      go_wp2_with fail
      go_ret
      rw [HW.out]; exact ⟨rfl, (Below.refl _ _).alloc (Nat.le_refl _) _⟩
    · have h1 : ¬ k < 1 := by omega
      go_enter Try.func16, Try.ntmps16
      go_wp2_with fail
      go_ret
      rw [HW.out]; exact ⟨rfl, (Below.refl _ _).alloc (Nat.le_refl _) _⟩
  · rcases (show k = 1 ∨ k = 2 ∨ k = 3 ∨ k = 4 ∨ k = 5 ∨ k = 6 by omega) with rfl | rfl | rfl | rfl | rfl | rfl <;>
    · clear h
      go_enter Try.func16, Try.ntmps16
      go_wp2_with fail
      go_ret
      exact ⟨rfl, (Below.refl _ _).alloc (Nat.le_refl _) _⟩
end Go.Proofs.Ytpkkfdmhbbipoaa
