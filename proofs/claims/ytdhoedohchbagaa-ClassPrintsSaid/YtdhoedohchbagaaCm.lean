/- Walks: the reference's Both. -/
import Derived.Test.YtdhoedohchbagaaCl
import Derived.Test.YtdhoedohchbagaaMix2
namespace Go.Proofs.Ytdhoedohchbagaa
open Go.RowKit PopT

def bothG (x y : BSet) (o : Bool) (c : Nat) : Bool := (x.has c && y.has c) || (o && (x.has c || y.has c))

theorem flags_cell (y : BSet) (c : Nat) (hc : c < 256) : (boolCells (flagsM y))[c]? = some (.bool (y.has c)) := by
  rw [← updFl_zero y (fun _ => false), boolCells, List.getElem?_map, updFl_get _ _ _ _ hc, if_neg (by omega)]; rfl

theorem bothV {a b c : Bool} (h : a = b) (hb : b = c) : a = c := h.trans hb

theorem both_facts {w W w1 w2 : World} {A1 A2 : Option Addr} {c1 c2 : Nat} {x y : BSet} {t : TypeId} {z : Array Value} (hsz : W.heap.size = w.heap.size + 3) (HW : Below w.heap.size w W) (HZ : Blk W (w.heap.size + 2) t z)
    (h1 : w1.ownsRow W.heap.size 4 1 (.slice A1 256 c1) 256 (boolCells (flagsM x))) (b1 : Below W.heap.size W w1)
    (h2 : w2.ownsRow w1.heap.size 4 1 (.slice A2 256 c2) 256 (boolCells (flagsM y))) (b2 : Below w1.heap.size w1 w2) :
    ∃ g1 g2, A1 = some ⟨g1, 0, none⟩ ∧ A2 = some ⟨g2, 0, none⟩ ∧ w.heap.size + 3 ≤ g1 ∧ g2 ≠ g1 ∧ w2.ownsRow (w.heap.size + 3) 4 1 (.slice (some ⟨g1, 0, none⟩) 256 c1) 256 (boolCells (flagsM x)) ∧
      (∀ c, c < 256 → w2.cell? ⟨g2, c, none⟩ = some (.bool (y.has c))) ∧ Blk w2 (w.heap.size + 2) t z ∧ Below w.heap.size w w2 ∧ w.heap.size + 3 ≤ w2.heap.size := by
  obtain ⟨g1, rfl, hg1, -⟩ := boolsCell h1 (by omega)
  obtain ⟨g2, rfl, hg2, -⟩ := boolsCell h2 (by omega)
  have hlt := (h1.lt g1 rfl).2
  have s1 := b1.size
  have s2 := b2.size
  refine ⟨g1, g2, rfl, rfl, by omega, by omega, hsz ▸ own_below h1 b2, ?_, (HZ.below b1 (by omega)).below b2 (by omega), (HW.trans (b1.mono (by omega))).trans (b2.mono (by omega)), by omega⟩
  intro c hc
  rw [h2.cellAt c (by omega), flags_cell y c hc]

set_option maxRecDepth 20000 in
set_option maxHeartbeats 3000000 in
theorem bothR_false (x y : BSet) (t : BSet) (ht : ∀ c, c < 256 → t.has c = bothG x y false c) (w : World) :
    Calls Try.prog 42 #[x.val, y.val, .bool false] w fun e w' => e = .returned t.val ∧ Below w.heap.size w w' := by
  have HM := hid (make_updFl x.has (bothG x y false) t ht)
  have HF0 := hid (updFl_zero x (bothG x y false))
  have HFX := hid (fun W => flags_any x W)
  have HFY := hid (fun W => flags_any y W)
  obtain ⟨r0, r1, r2, r3⟩ := t
  unfold BSet.val at HFX HFY ⊢
  clear ht
  have HW0 := hid ((((Below.refl w.heap.size w).alloc (Nat.le_refl _) (.cells #[w64 x.w0, w64 x.w1, w64 x.w2, w64 x.w3] 51)).alloc (by simp) (.cells #[w64 y.w0, w64 y.w1, w64 y.w2, w64 y.w3] 51)).alloc (by simp; omega) (.cells #[.int .u64 0, .int .u64 0, .int .u64 0, .int .u64 0] 51))
  have hX := ((Blk.new w 51 #[w64 x.w0, w64 x.w1, w64 x.w2, w64 x.w3]).alloc (.cells #[w64 y.w0, w64 y.w1, w64 y.w2, w64 y.w3] 51)).alloc (.cells #[.int .u64 0, .int .u64 0, .int .u64 0, .int .u64 0] 51)
  have hY := (Blk.new (w.alloc (.cells #[w64 x.w0, w64 x.w1, w64 x.w2, w64 x.w3] 51)) 51 #[w64 y.w0, w64 y.w1, w64 y.w2, w64 y.w3]).alloc (.cells #[.int .u64 0, .int .u64 0, .int .u64 0, .int .u64 0] 51)
  have hZ := Blk.new ((w.alloc (.cells #[w64 x.w0, w64 x.w1, w64 x.w2, w64 x.w3] 51)).alloc (.cells #[w64 y.w0, w64 y.w1, w64 y.w2, w64 y.w3] 51)) 51 #[.int .u64 0, .int .u64 0, .int .u64 0, .int .u64 0]
  simp only [World.size_alloc] at hY hZ
  obtain ⟨c0, c1, c2, c3, -, -, -, -⟩ := blk4 hX
  obtain ⟨d0, d1, d2, d3, -, -, -, -⟩ := blk4 hY
  have HX := hid hX
  have HY := hid hY
  have HZ := hid hZ
  clear hX hY hZ
  go_enter Try.func42, Try.ntmps42
  go_wp2_with fail
  refine wp_region_ord (.two 0 (.two 1 (.op 2 (.op 3 (.val 4 (.val 5 (.nil))))) 2 (.op 1 (.op 3 (.val 4 (.val 5 (.nil)))))) 2 (.op 0 (.op 1 (.op 3 (.val 4 (.val 5 (.nil))))))) (by kernel_rfl) (by kernel_rfl) ?_
  refine wpOrd_two rfl rfl ?_ ?_
  · go_wp2_with fail
    refine wpOrd_two rfl rfl ?_ ?_
    · go_wp2_with fail
      refine (HFX.out _).mono ?_
      rintro e w1 ⟨A1, e1, rfl, hown1, hb1⟩
      have hYY := HY.out.below (below_drewN hb1) (by simp only [World.size_alloc]; omega)
      obtain ⟨k0, k1, k2, k3, -, -, -, -⟩ := blk4 hYY
      have HYY := hid hYY
      clear hYY
      go_wp2_with fail
      refine wpOrd_op rfl ?_
      go_wp2_with fail
      refine wpOrd_op rfl ?_
      go_wp2_with fail
      refine (HFY.out _).mono ?_
      rintro e w2 ⟨A2, e2, rfl, hown2, hb2⟩
      obtain ⟨g1, g2, rfl, rfl, hg1, hne, ho1, hg2, hz, hbb, hss⟩ := both_facts (W := (((w.alloc (.cells #[w64 x.w0, w64 x.w1, w64 x.w2, w64 x.w3] 51)).alloc (.cells #[w64 y.w0, w64 y.w1, w64 y.w2, w64 y.w3] 51)).alloc (.cells #[.int .u64 0, .int .u64 0, .int .u64 0, .int .u64 0] 51))) (by simp) HW0.out HZ.out hown1 (below_drewN hb1) hown2 hb2
      have HO1 := hid ho1; have HG := hid hg2; have HZZ := hid hz; have HBB := hid hbb
      clear ho1 hg2 hz hbb hown1 hb1 hown2 hb2 c0 c1 c2 c3 d0 d1 d2 d3
      go_wp2_with fail
      repeat (refine wpOrd_val rfl ?_; go_big_quiet_step (fail); refine wpQuiet_nil ?_)
      refine wpOrd_nil ?_
      rw [← HF0.out] at HO1
      go_wp2_with fail
      go_loopw [9] (fun i wr => ∃ (k : Nat), k ≤ 256 ∧ i = .int .i64 (k : Int) ∧ wr.ownsRow (w.heap.size + 3) 4 1 (.slice (some ⟨g1, 0, none⟩) 256 e1) 256 (boolCells (updFl x.has (bothG x y false) k)) ∧ (∀ c, c < 256 → wr.cell? ⟨g2, c, none⟩ = some (.bool (y.has c))) ∧
          Blk wr (w.heap.size + 2) 51 #[.int .u64 0, .int .u64 0, .int .u64 0, .int .u64 0] ∧ Below w.heap.size w wr ∧ w.heap.size + 3 ≤ wr.heap.size) (fun i _ => 256 - (intOf i).toNat)
      case atStart => exact ⟨0, by omega, rfl, HO1.out, HG.out, HZZ.out, HBB.out, by omega⟩
      case round =>
        obtain ⟨k, hk, rfl, hown2, hg2, hz2, hb2, hsz2⟩ := hrel
        have HZ2 := hid hz2
        have HB2 := hid hb2
        have HG2 := hid hg2
        clear hz2 hb2 hg2
        by_cases hlt : k < 256
        · have hcl : wr.cell? ⟨g1, k, none⟩ = some (.bool (x.has k)) := by
            rw [hown2.cellAt _ (by omega), boolCells, List.getElem?_map, updFl_get _ _ _ _ hlt, if_neg (by omega)]; rfl
          have hcg := HG2.out k hlt
          have hfr := hown2.frozenAt k
          have HST := hid (hown2.stored k (.bool (bothG x y false k)))
          have HBG : Hid (bothG x y false k = ((x.has k && y.has k) || (false && (x.has k || y.has k)))) := rfl
          clear hown2
          cases hx : x.has k <;> cases hy : y.has k <;> rw [hx] at hcl HBG <;> rw [hy] at hcg HBG
          · have HV := hid (bothV HBG.out rfl)
            clear hx hy HBG
            rw [HV.out] at HST
            go_wp2_with fail
            go_roundw
            case rel =>
              refine ⟨k + 1, by omega, by go_num, ?_, fun c hc => (cell_set_other hne).trans (HG2.out c hc), HZ2.out.set_far (by omega), HB2.out.setCell (by simp; omega) _, by simpa using hsz2⟩
              rw [← updFl_set _ _ _ _ HV.out.symm hlt, ← boolCells_set]; exact HST.out.1
            case measure => simp [intOf]; omega
          · have HV := hid (bothV HBG.out rfl)
            clear hx hy HBG
            rw [HV.out] at HST
            go_wp2_with fail
            go_roundw
            case rel =>
              refine ⟨k + 1, by omega, by go_num, ?_, fun c hc => (cell_set_other hne).trans (HG2.out c hc), HZ2.out.set_far (by omega), HB2.out.setCell (by simp; omega) _, by simpa using hsz2⟩
              rw [← updFl_set _ _ _ _ HV.out.symm hlt, ← boolCells_set]; exact HST.out.1
            case measure => simp [intOf]; omega
          · have HV := hid (bothV HBG.out rfl)
            clear hx hy HBG
            rw [HV.out] at HST
            go_wp2_with fail
            go_roundw
            case rel =>
              refine ⟨k + 1, by omega, by go_num, ?_, fun c hc => (cell_set_other hne).trans (HG2.out c hc), HZ2.out.set_far (by omega), HB2.out.setCell (by simp; omega) _, by simpa using hsz2⟩
              rw [← updFl_set _ _ _ _ HV.out.symm hlt, ← boolCells_set]; exact HST.out.1
            case measure => simp [intOf]; omega
          · have HV := hid (bothV HBG.out rfl)
            clear hx hy HBG
            rw [HV.out] at HST
            go_wp2_with fail
            go_roundw
            case rel =>
              refine ⟨k + 1, by omega, by go_num, ?_, fun c hc => (cell_set_other hne).trans (HG2.out c hc), HZ2.out.set_far (by omega), HB2.out.setCell (by simp; omega) _, by simpa using hsz2⟩
              rw [← updFl_set _ _ _ _ HV.out.symm hlt, ← boolCells_set]; exact HST.out.1
            case measure => simp [intOf]; omega
        · obtain rfl : k = 256 := by omega
          have HOWN := hid hown2
          clear hown2
          go_wp2_with fail
          refine (make_any _ e1 (updFl x.has (bothG x y false) 256) _ (updFl_length _ _ _) (Rd_of_own HOWN.out)).mono ?_
          rintro e w3 ⟨rfl, hb3⟩
          have HZ3 := hid (HZ2.out.below hb3 HZ2.out.lt)
          have HB3 : Hid (Below w.heap.size w w3) := HB2.out.trans (hb3.mono (by omega))
          rw [HM.out]
          unfold BSet.val
          obtain ⟨d0, d1, d2, d3, g0, g1, g2, g3⟩ := blk4 HZ3.out
          have HP := hid (blk_put4 (b0 := w64 r0) (b1 := w64 r1) (b2 := w64 r2) (b3 := w64 r3) HZ3.out)
          obtain ⟨e0, e1, e2, e3, -, -, -, -⟩ := blk4 HP.out
          have HR := hid (below_put4 (g := w.heap.size + 2) HB3.out (by omega) (w64 r0) (w64 r1) (w64 r2) (w64 r3))
          clear hb3
          go_wp2_with fail
          exact bodyPost_ret (v := .agg #[w64 r0, w64 r1, w64 r2, w64 r3]) (by simp [results, Try.results42, go_sem, e0, e1, e2, e3]) rfl ⟨rfl, HR.out⟩
    · go_wp2_with fail
      refine wpOrd_op rfl ?_
      go_wp2_with fail
      refine (HFX.out _).mono ?_
      rintro e w1 ⟨A1, e1, rfl, hown1, hb1⟩
      go_wp2_with fail
      refine wpOrd_op rfl ?_
      go_wp2_with fail
      refine (HFY.out _).mono ?_
      rintro e w2 ⟨A2, e2, rfl, hown2, hb2⟩
      obtain ⟨g1, g2, rfl, rfl, hg1, hne, ho1, hg2, hz, hbb, hss⟩ := both_facts (W := (((w.alloc (.cells #[w64 x.w0, w64 x.w1, w64 x.w2, w64 x.w3] 51)).alloc (.cells #[w64 y.w0, w64 y.w1, w64 y.w2, w64 y.w3] 51)).alloc (.cells #[.int .u64 0, .int .u64 0, .int .u64 0, .int .u64 0] 51))) (by simp) HW0.out HZ.out hown1 (below_drewN hb1) hown2 hb2
      have HO1 := hid ho1; have HG := hid hg2; have HZZ := hid hz; have HBB := hid hbb
      clear ho1 hg2 hz hbb hown1 hb1 hown2 hb2 c0 c1 c2 c3 d0 d1 d2 d3
      go_wp2_with fail
      repeat (refine wpOrd_val rfl ?_; go_big_quiet_step (fail); refine wpQuiet_nil ?_)
      refine wpOrd_nil ?_
      rw [← HF0.out] at HO1
      go_wp2_with fail
      go_loopw [9] (fun i wr => ∃ (k : Nat), k ≤ 256 ∧ i = .int .i64 (k : Int) ∧ wr.ownsRow (w.heap.size + 3) 4 1 (.slice (some ⟨g1, 0, none⟩) 256 e1) 256 (boolCells (updFl x.has (bothG x y false) k)) ∧ (∀ c, c < 256 → wr.cell? ⟨g2, c, none⟩ = some (.bool (y.has c))) ∧
          Blk wr (w.heap.size + 2) 51 #[.int .u64 0, .int .u64 0, .int .u64 0, .int .u64 0] ∧ Below w.heap.size w wr ∧ w.heap.size + 3 ≤ wr.heap.size) (fun i _ => 256 - (intOf i).toNat)
      case atStart => exact ⟨0, by omega, rfl, HO1.out, HG.out, HZZ.out, HBB.out, by omega⟩
      case round =>
        obtain ⟨k, hk, rfl, hown2, hg2, hz2, hb2, hsz2⟩ := hrel
        have HZ2 := hid hz2
        have HB2 := hid hb2
        have HG2 := hid hg2
        clear hz2 hb2 hg2
        by_cases hlt : k < 256
        · have hcl : wr.cell? ⟨g1, k, none⟩ = some (.bool (x.has k)) := by
            rw [hown2.cellAt _ (by omega), boolCells, List.getElem?_map, updFl_get _ _ _ _ hlt, if_neg (by omega)]; rfl
          have hcg := HG2.out k hlt
          have hfr := hown2.frozenAt k
          have HST := hid (hown2.stored k (.bool (bothG x y false k)))
          have HBG : Hid (bothG x y false k = ((x.has k && y.has k) || (false && (x.has k || y.has k)))) := rfl
          clear hown2
          cases hx : x.has k <;> cases hy : y.has k <;> rw [hx] at hcl HBG <;> rw [hy] at hcg HBG
          · have HV := hid (bothV HBG.out rfl)
            clear hx hy HBG
            rw [HV.out] at HST
            go_wp2_with fail
            go_roundw
            case rel =>
              refine ⟨k + 1, by omega, by go_num, ?_, fun c hc => (cell_set_other hne).trans (HG2.out c hc), HZ2.out.set_far (by omega), HB2.out.setCell (by simp; omega) _, by simpa using hsz2⟩
              rw [← updFl_set _ _ _ _ HV.out.symm hlt, ← boolCells_set]; exact HST.out.1
            case measure => simp [intOf]; omega
          · have HV := hid (bothV HBG.out rfl)
            clear hx hy HBG
            rw [HV.out] at HST
            go_wp2_with fail
            go_roundw
            case rel =>
              refine ⟨k + 1, by omega, by go_num, ?_, fun c hc => (cell_set_other hne).trans (HG2.out c hc), HZ2.out.set_far (by omega), HB2.out.setCell (by simp; omega) _, by simpa using hsz2⟩
              rw [← updFl_set _ _ _ _ HV.out.symm hlt, ← boolCells_set]; exact HST.out.1
            case measure => simp [intOf]; omega
          · have HV := hid (bothV HBG.out rfl)
            clear hx hy HBG
            rw [HV.out] at HST
            go_wp2_with fail
            go_roundw
            case rel =>
              refine ⟨k + 1, by omega, by go_num, ?_, fun c hc => (cell_set_other hne).trans (HG2.out c hc), HZ2.out.set_far (by omega), HB2.out.setCell (by simp; omega) _, by simpa using hsz2⟩
              rw [← updFl_set _ _ _ _ HV.out.symm hlt, ← boolCells_set]; exact HST.out.1
            case measure => simp [intOf]; omega
          · have HV := hid (bothV HBG.out rfl)
            clear hx hy HBG
            rw [HV.out] at HST
            go_wp2_with fail
            go_roundw
            case rel =>
              refine ⟨k + 1, by omega, by go_num, ?_, fun c hc => (cell_set_other hne).trans (HG2.out c hc), HZ2.out.set_far (by omega), HB2.out.setCell (by simp; omega) _, by simpa using hsz2⟩
              rw [← updFl_set _ _ _ _ HV.out.symm hlt, ← boolCells_set]; exact HST.out.1
            case measure => simp [intOf]; omega
        · obtain rfl : k = 256 := by omega
          have HOWN := hid hown2
          clear hown2
          go_wp2_with fail
          refine (make_any _ e1 (updFl x.has (bothG x y false) 256) _ (updFl_length _ _ _) (Rd_of_own HOWN.out)).mono ?_
          rintro e w3 ⟨rfl, hb3⟩
          have HZ3 := hid (HZ2.out.below hb3 HZ2.out.lt)
          have HB3 : Hid (Below w.heap.size w w3) := HB2.out.trans (hb3.mono (by omega))
          rw [HM.out]
          unfold BSet.val
          obtain ⟨d0, d1, d2, d3, g0, g1, g2, g3⟩ := blk4 HZ3.out
          have HP := hid (blk_put4 (b0 := w64 r0) (b1 := w64 r1) (b2 := w64 r2) (b3 := w64 r3) HZ3.out)
          obtain ⟨e0, e1, e2, e3, -, -, -, -⟩ := blk4 HP.out
          have HR := hid (below_put4 (g := w.heap.size + 2) HB3.out (by omega) (w64 r0) (w64 r1) (w64 r2) (w64 r3))
          clear hb3
          go_wp2_with fail
          exact bodyPost_ret (v := .agg #[w64 r0, w64 r1, w64 r2, w64 r3]) (by simp [results, Try.results42, go_sem, e0, e1, e2, e3]) rfl ⟨rfl, HR.out⟩
  · go_wp2_with fail
    refine wpOrd_op rfl ?_
    go_wp2_with fail
    refine wpOrd_op rfl ?_
    go_wp2_with fail
    refine (HFX.out _).mono ?_
    rintro e w1 ⟨A1, e1, rfl, hown1, hb1⟩
    go_wp2_with fail
    refine wpOrd_op rfl ?_
    go_wp2_with fail
    refine (HFY.out _).mono ?_
    rintro e w2 ⟨A2, e2, rfl, hown2, hb2⟩
    obtain ⟨g1, g2, rfl, rfl, hg1, hne, ho1, hg2, hz, hbb, hss⟩ := both_facts (W := (((w.alloc (.cells #[w64 x.w0, w64 x.w1, w64 x.w2, w64 x.w3] 51)).alloc (.cells #[w64 y.w0, w64 y.w1, w64 y.w2, w64 y.w3] 51)).alloc (.cells #[.int .u64 0, .int .u64 0, .int .u64 0, .int .u64 0] 51))) (by simp) HW0.out HZ.out hown1 (below_drewN hb1) hown2 hb2
    have HO1 := hid ho1; have HG := hid hg2; have HZZ := hid hz; have HBB := hid hbb
    clear ho1 hg2 hz hbb hown1 hb1 hown2 hb2 c0 c1 c2 c3 d0 d1 d2 d3
    go_wp2_with fail
    repeat (refine wpOrd_val rfl ?_; go_big_quiet_step (fail); refine wpQuiet_nil ?_)
    refine wpOrd_nil ?_
    rw [← HF0.out] at HO1
    go_wp2_with fail
    go_loopw [9] (fun i wr => ∃ (k : Nat), k ≤ 256 ∧ i = .int .i64 (k : Int) ∧ wr.ownsRow (w.heap.size + 3) 4 1 (.slice (some ⟨g1, 0, none⟩) 256 e1) 256 (boolCells (updFl x.has (bothG x y false) k)) ∧ (∀ c, c < 256 → wr.cell? ⟨g2, c, none⟩ = some (.bool (y.has c))) ∧
        Blk wr (w.heap.size + 2) 51 #[.int .u64 0, .int .u64 0, .int .u64 0, .int .u64 0] ∧ Below w.heap.size w wr ∧ w.heap.size + 3 ≤ wr.heap.size) (fun i _ => 256 - (intOf i).toNat)
    case atStart => exact ⟨0, by omega, rfl, HO1.out, HG.out, HZZ.out, HBB.out, by omega⟩
    case round =>
      obtain ⟨k, hk, rfl, hown2, hg2, hz2, hb2, hsz2⟩ := hrel
      have HZ2 := hid hz2
      have HB2 := hid hb2
      have HG2 := hid hg2
      clear hz2 hb2 hg2
      by_cases hlt : k < 256
      · have hcl : wr.cell? ⟨g1, k, none⟩ = some (.bool (x.has k)) := by
          rw [hown2.cellAt _ (by omega), boolCells, List.getElem?_map, updFl_get _ _ _ _ hlt, if_neg (by omega)]; rfl
        have hcg := HG2.out k hlt
        have hfr := hown2.frozenAt k
        have HST := hid (hown2.stored k (.bool (bothG x y false k)))
        have HBG : Hid (bothG x y false k = ((x.has k && y.has k) || (false && (x.has k || y.has k)))) := rfl
        clear hown2
        cases hx : x.has k <;> cases hy : y.has k <;> rw [hx] at hcl HBG <;> rw [hy] at hcg HBG
        · have HV := hid (bothV HBG.out rfl)
          clear hx hy HBG
          rw [HV.out] at HST
          go_wp2_with fail
          go_roundw
          case rel =>
            refine ⟨k + 1, by omega, by go_num, ?_, fun c hc => (cell_set_other hne).trans (HG2.out c hc), HZ2.out.set_far (by omega), HB2.out.setCell (by simp; omega) _, by simpa using hsz2⟩
            rw [← updFl_set _ _ _ _ HV.out.symm hlt, ← boolCells_set]; exact HST.out.1
          case measure => simp [intOf]; omega
        · have HV := hid (bothV HBG.out rfl)
          clear hx hy HBG
          rw [HV.out] at HST
          go_wp2_with fail
          go_roundw
          case rel =>
            refine ⟨k + 1, by omega, by go_num, ?_, fun c hc => (cell_set_other hne).trans (HG2.out c hc), HZ2.out.set_far (by omega), HB2.out.setCell (by simp; omega) _, by simpa using hsz2⟩
            rw [← updFl_set _ _ _ _ HV.out.symm hlt, ← boolCells_set]; exact HST.out.1
          case measure => simp [intOf]; omega
        · have HV := hid (bothV HBG.out rfl)
          clear hx hy HBG
          rw [HV.out] at HST
          go_wp2_with fail
          go_roundw
          case rel =>
            refine ⟨k + 1, by omega, by go_num, ?_, fun c hc => (cell_set_other hne).trans (HG2.out c hc), HZ2.out.set_far (by omega), HB2.out.setCell (by simp; omega) _, by simpa using hsz2⟩
            rw [← updFl_set _ _ _ _ HV.out.symm hlt, ← boolCells_set]; exact HST.out.1
          case measure => simp [intOf]; omega
        · have HV := hid (bothV HBG.out rfl)
          clear hx hy HBG
          rw [HV.out] at HST
          go_wp2_with fail
          go_roundw
          case rel =>
            refine ⟨k + 1, by omega, by go_num, ?_, fun c hc => (cell_set_other hne).trans (HG2.out c hc), HZ2.out.set_far (by omega), HB2.out.setCell (by simp; omega) _, by simpa using hsz2⟩
            rw [← updFl_set _ _ _ _ HV.out.symm hlt, ← boolCells_set]; exact HST.out.1
          case measure => simp [intOf]; omega
      · obtain rfl : k = 256 := by omega
        have HOWN := hid hown2
        clear hown2
        go_wp2_with fail
        refine (make_any _ e1 (updFl x.has (bothG x y false) 256) _ (updFl_length _ _ _) (Rd_of_own HOWN.out)).mono ?_
        rintro e w3 ⟨rfl, hb3⟩
        have HZ3 := hid (HZ2.out.below hb3 HZ2.out.lt)
        have HB3 : Hid (Below w.heap.size w w3) := HB2.out.trans (hb3.mono (by omega))
        rw [HM.out]
        unfold BSet.val
        obtain ⟨d0, d1, d2, d3, g0, g1, g2, g3⟩ := blk4 HZ3.out
        have HP := hid (blk_put4 (b0 := w64 r0) (b1 := w64 r1) (b2 := w64 r2) (b3 := w64 r3) HZ3.out)
        obtain ⟨e0, e1, e2, e3, -, -, -, -⟩ := blk4 HP.out
        have HR := hid (below_put4 (g := w.heap.size + 2) HB3.out (by omega) (w64 r0) (w64 r1) (w64 r2) (w64 r3))
        clear hb3
        go_wp2_with fail
        exact bodyPost_ret (v := .agg #[w64 r0, w64 r1, w64 r2, w64 r3]) (by simp [results, Try.results42, go_sem, e0, e1, e2, e3]) rfl ⟨rfl, HR.out⟩
set_option maxRecDepth 20000 in
set_option maxHeartbeats 3000000 in
theorem bothR_true (x y : BSet) (t : BSet) (ht : ∀ c, c < 256 → t.has c = bothG x y true c) (w : World) :
    Calls Try.prog 42 #[x.val, y.val, .bool true] w fun e w' => e = .returned t.val ∧ Below w.heap.size w w' := by
  have HM := hid (make_updFl x.has (bothG x y true) t ht)
  have HF0 := hid (updFl_zero x (bothG x y true))
  have HFX := hid (fun W => flags_any x W)
  have HFY := hid (fun W => flags_any y W)
  obtain ⟨r0, r1, r2, r3⟩ := t
  unfold BSet.val at HFX HFY ⊢
  clear ht
  have HW0 := hid ((((Below.refl w.heap.size w).alloc (Nat.le_refl _) (.cells #[w64 x.w0, w64 x.w1, w64 x.w2, w64 x.w3] 51)).alloc (by simp) (.cells #[w64 y.w0, w64 y.w1, w64 y.w2, w64 y.w3] 51)).alloc (by simp; omega) (.cells #[.int .u64 0, .int .u64 0, .int .u64 0, .int .u64 0] 51))
  have hX := ((Blk.new w 51 #[w64 x.w0, w64 x.w1, w64 x.w2, w64 x.w3]).alloc (.cells #[w64 y.w0, w64 y.w1, w64 y.w2, w64 y.w3] 51)).alloc (.cells #[.int .u64 0, .int .u64 0, .int .u64 0, .int .u64 0] 51)
  have hY := (Blk.new (w.alloc (.cells #[w64 x.w0, w64 x.w1, w64 x.w2, w64 x.w3] 51)) 51 #[w64 y.w0, w64 y.w1, w64 y.w2, w64 y.w3]).alloc (.cells #[.int .u64 0, .int .u64 0, .int .u64 0, .int .u64 0] 51)
  have hZ := Blk.new ((w.alloc (.cells #[w64 x.w0, w64 x.w1, w64 x.w2, w64 x.w3] 51)).alloc (.cells #[w64 y.w0, w64 y.w1, w64 y.w2, w64 y.w3] 51)) 51 #[.int .u64 0, .int .u64 0, .int .u64 0, .int .u64 0]
  simp only [World.size_alloc] at hY hZ
  obtain ⟨c0, c1, c2, c3, -, -, -, -⟩ := blk4 hX
  obtain ⟨d0, d1, d2, d3, -, -, -, -⟩ := blk4 hY
  have HX := hid hX
  have HY := hid hY
  have HZ := hid hZ
  clear hX hY hZ
  go_enter Try.func42, Try.ntmps42
  go_wp2_with fail
  refine wp_region_ord (.two 0 (.two 1 (.op 2 (.op 3 (.val 4 (.val 5 (.nil))))) 2 (.op 1 (.op 3 (.val 4 (.val 5 (.nil)))))) 2 (.op 0 (.op 1 (.op 3 (.val 4 (.val 5 (.nil))))))) (by kernel_rfl) (by kernel_rfl) ?_
  refine wpOrd_two rfl rfl ?_ ?_
  · go_wp2_with fail
    refine wpOrd_two rfl rfl ?_ ?_
    · go_wp2_with fail
      refine (HFX.out _).mono ?_
      rintro e w1 ⟨A1, e1, rfl, hown1, hb1⟩
      have hYY := HY.out.below (below_drewN hb1) (by simp only [World.size_alloc]; omega)
      obtain ⟨k0, k1, k2, k3, -, -, -, -⟩ := blk4 hYY
      have HYY := hid hYY
      clear hYY
      go_wp2_with fail
      refine wpOrd_op rfl ?_
      go_wp2_with fail
      refine wpOrd_op rfl ?_
      go_wp2_with fail
      refine (HFY.out _).mono ?_
      rintro e w2 ⟨A2, e2, rfl, hown2, hb2⟩
      obtain ⟨g1, g2, rfl, rfl, hg1, hne, ho1, hg2, hz, hbb, hss⟩ := both_facts (W := (((w.alloc (.cells #[w64 x.w0, w64 x.w1, w64 x.w2, w64 x.w3] 51)).alloc (.cells #[w64 y.w0, w64 y.w1, w64 y.w2, w64 y.w3] 51)).alloc (.cells #[.int .u64 0, .int .u64 0, .int .u64 0, .int .u64 0] 51))) (by simp) HW0.out HZ.out hown1 (below_drewN hb1) hown2 hb2
      have HO1 := hid ho1; have HG := hid hg2; have HZZ := hid hz; have HBB := hid hbb
      clear ho1 hg2 hz hbb hown1 hb1 hown2 hb2 c0 c1 c2 c3 d0 d1 d2 d3
      go_wp2_with fail
      repeat (refine wpOrd_val rfl ?_; go_big_quiet_step (fail); refine wpQuiet_nil ?_)
      refine wpOrd_nil ?_
      rw [← HF0.out] at HO1
      go_wp2_with fail
      go_loopw [9] (fun i wr => ∃ (k : Nat), k ≤ 256 ∧ i = .int .i64 (k : Int) ∧ wr.ownsRow (w.heap.size + 3) 4 1 (.slice (some ⟨g1, 0, none⟩) 256 e1) 256 (boolCells (updFl x.has (bothG x y true) k)) ∧ (∀ c, c < 256 → wr.cell? ⟨g2, c, none⟩ = some (.bool (y.has c))) ∧
          Blk wr (w.heap.size + 2) 51 #[.int .u64 0, .int .u64 0, .int .u64 0, .int .u64 0] ∧ Below w.heap.size w wr ∧ w.heap.size + 3 ≤ wr.heap.size) (fun i _ => 256 - (intOf i).toNat)
      case atStart => exact ⟨0, by omega, rfl, HO1.out, HG.out, HZZ.out, HBB.out, by omega⟩
      case round =>
        obtain ⟨k, hk, rfl, hown2, hg2, hz2, hb2, hsz2⟩ := hrel
        have HZ2 := hid hz2
        have HB2 := hid hb2
        have HG2 := hid hg2
        clear hz2 hb2 hg2
        by_cases hlt : k < 256
        · have hcl : wr.cell? ⟨g1, k, none⟩ = some (.bool (x.has k)) := by
            rw [hown2.cellAt _ (by omega), boolCells, List.getElem?_map, updFl_get _ _ _ _ hlt, if_neg (by omega)]; rfl
          have hcg := HG2.out k hlt
          have hfr := hown2.frozenAt k
          have HST := hid (hown2.stored k (.bool (bothG x y true k)))
          have HBG : Hid (bothG x y true k = ((x.has k && y.has k) || (true && (x.has k || y.has k)))) := rfl
          clear hown2
          cases hx : x.has k <;> cases hy : y.has k <;> rw [hx] at hcl HBG <;> rw [hy] at hcg HBG
          · have HV := hid (bothV HBG.out rfl)
            clear hx hy HBG
            rw [HV.out] at HST
            go_wp2_with fail
            go_roundw
            case rel =>
              refine ⟨k + 1, by omega, by go_num, ?_, fun c hc => (cell_set_other hne).trans (HG2.out c hc), HZ2.out.set_far (by omega), HB2.out.setCell (by simp; omega) _, by simpa using hsz2⟩
              rw [← updFl_set _ _ _ _ HV.out.symm hlt, ← boolCells_set]; exact HST.out.1
            case measure => simp [intOf]; omega
          · have HV := hid (bothV HBG.out rfl)
            clear hx hy HBG
            rw [HV.out] at HST
            go_wp2_with fail
            go_roundw
            case rel =>
              refine ⟨k + 1, by omega, by go_num, ?_, fun c hc => (cell_set_other hne).trans (HG2.out c hc), HZ2.out.set_far (by omega), HB2.out.setCell (by simp; omega) _, by simpa using hsz2⟩
              rw [← updFl_set _ _ _ _ HV.out.symm hlt, ← boolCells_set]; exact HST.out.1
            case measure => simp [intOf]; omega
          · have HV := hid (bothV HBG.out rfl)
            clear hx hy HBG
            rw [HV.out] at HST
            go_wp2_with fail
            go_roundw
            case rel =>
              refine ⟨k + 1, by omega, by go_num, ?_, fun c hc => (cell_set_other hne).trans (HG2.out c hc), HZ2.out.set_far (by omega), HB2.out.setCell (by simp; omega) _, by simpa using hsz2⟩
              rw [← updFl_set _ _ _ _ HV.out.symm hlt, ← boolCells_set]; exact HST.out.1
            case measure => simp [intOf]; omega
          · have HV := hid (bothV HBG.out rfl)
            clear hx hy HBG
            rw [HV.out] at HST
            go_wp2_with fail
            go_roundw
            case rel =>
              refine ⟨k + 1, by omega, by go_num, ?_, fun c hc => (cell_set_other hne).trans (HG2.out c hc), HZ2.out.set_far (by omega), HB2.out.setCell (by simp; omega) _, by simpa using hsz2⟩
              rw [← updFl_set _ _ _ _ HV.out.symm hlt, ← boolCells_set]; exact HST.out.1
            case measure => simp [intOf]; omega
        · obtain rfl : k = 256 := by omega
          have HOWN := hid hown2
          clear hown2
          go_wp2_with fail
          refine (make_any _ e1 (updFl x.has (bothG x y true) 256) _ (updFl_length _ _ _) (Rd_of_own HOWN.out)).mono ?_
          rintro e w3 ⟨rfl, hb3⟩
          have HZ3 := hid (HZ2.out.below hb3 HZ2.out.lt)
          have HB3 : Hid (Below w.heap.size w w3) := HB2.out.trans (hb3.mono (by omega))
          rw [HM.out]
          unfold BSet.val
          obtain ⟨d0, d1, d2, d3, g0, g1, g2, g3⟩ := blk4 HZ3.out
          have HP := hid (blk_put4 (b0 := w64 r0) (b1 := w64 r1) (b2 := w64 r2) (b3 := w64 r3) HZ3.out)
          obtain ⟨e0, e1, e2, e3, -, -, -, -⟩ := blk4 HP.out
          have HR := hid (below_put4 (g := w.heap.size + 2) HB3.out (by omega) (w64 r0) (w64 r1) (w64 r2) (w64 r3))
          clear hb3
          go_wp2_with fail
          exact bodyPost_ret (v := .agg #[w64 r0, w64 r1, w64 r2, w64 r3]) (by simp [results, Try.results42, go_sem, e0, e1, e2, e3]) rfl ⟨rfl, HR.out⟩
    · go_wp2_with fail
      refine wpOrd_op rfl ?_
      go_wp2_with fail
      refine (HFX.out _).mono ?_
      rintro e w1 ⟨A1, e1, rfl, hown1, hb1⟩
      go_wp2_with fail
      refine wpOrd_op rfl ?_
      go_wp2_with fail
      refine (HFY.out _).mono ?_
      rintro e w2 ⟨A2, e2, rfl, hown2, hb2⟩
      obtain ⟨g1, g2, rfl, rfl, hg1, hne, ho1, hg2, hz, hbb, hss⟩ := both_facts (W := (((w.alloc (.cells #[w64 x.w0, w64 x.w1, w64 x.w2, w64 x.w3] 51)).alloc (.cells #[w64 y.w0, w64 y.w1, w64 y.w2, w64 y.w3] 51)).alloc (.cells #[.int .u64 0, .int .u64 0, .int .u64 0, .int .u64 0] 51))) (by simp) HW0.out HZ.out hown1 (below_drewN hb1) hown2 hb2
      have HO1 := hid ho1; have HG := hid hg2; have HZZ := hid hz; have HBB := hid hbb
      clear ho1 hg2 hz hbb hown1 hb1 hown2 hb2 c0 c1 c2 c3 d0 d1 d2 d3
      go_wp2_with fail
      repeat (refine wpOrd_val rfl ?_; go_big_quiet_step (fail); refine wpQuiet_nil ?_)
      refine wpOrd_nil ?_
      rw [← HF0.out] at HO1
      go_wp2_with fail
      go_loopw [9] (fun i wr => ∃ (k : Nat), k ≤ 256 ∧ i = .int .i64 (k : Int) ∧ wr.ownsRow (w.heap.size + 3) 4 1 (.slice (some ⟨g1, 0, none⟩) 256 e1) 256 (boolCells (updFl x.has (bothG x y true) k)) ∧ (∀ c, c < 256 → wr.cell? ⟨g2, c, none⟩ = some (.bool (y.has c))) ∧
          Blk wr (w.heap.size + 2) 51 #[.int .u64 0, .int .u64 0, .int .u64 0, .int .u64 0] ∧ Below w.heap.size w wr ∧ w.heap.size + 3 ≤ wr.heap.size) (fun i _ => 256 - (intOf i).toNat)
      case atStart => exact ⟨0, by omega, rfl, HO1.out, HG.out, HZZ.out, HBB.out, by omega⟩
      case round =>
        obtain ⟨k, hk, rfl, hown2, hg2, hz2, hb2, hsz2⟩ := hrel
        have HZ2 := hid hz2
        have HB2 := hid hb2
        have HG2 := hid hg2
        clear hz2 hb2 hg2
        by_cases hlt : k < 256
        · have hcl : wr.cell? ⟨g1, k, none⟩ = some (.bool (x.has k)) := by
            rw [hown2.cellAt _ (by omega), boolCells, List.getElem?_map, updFl_get _ _ _ _ hlt, if_neg (by omega)]; rfl
          have hcg := HG2.out k hlt
          have hfr := hown2.frozenAt k
          have HST := hid (hown2.stored k (.bool (bothG x y true k)))
          have HBG : Hid (bothG x y true k = ((x.has k && y.has k) || (true && (x.has k || y.has k)))) := rfl
          clear hown2
          cases hx : x.has k <;> cases hy : y.has k <;> rw [hx] at hcl HBG <;> rw [hy] at hcg HBG
          · have HV := hid (bothV HBG.out rfl)
            clear hx hy HBG
            rw [HV.out] at HST
            go_wp2_with fail
            go_roundw
            case rel =>
              refine ⟨k + 1, by omega, by go_num, ?_, fun c hc => (cell_set_other hne).trans (HG2.out c hc), HZ2.out.set_far (by omega), HB2.out.setCell (by simp; omega) _, by simpa using hsz2⟩
              rw [← updFl_set _ _ _ _ HV.out.symm hlt, ← boolCells_set]; exact HST.out.1
            case measure => simp [intOf]; omega
          · have HV := hid (bothV HBG.out rfl)
            clear hx hy HBG
            rw [HV.out] at HST
            go_wp2_with fail
            go_roundw
            case rel =>
              refine ⟨k + 1, by omega, by go_num, ?_, fun c hc => (cell_set_other hne).trans (HG2.out c hc), HZ2.out.set_far (by omega), HB2.out.setCell (by simp; omega) _, by simpa using hsz2⟩
              rw [← updFl_set _ _ _ _ HV.out.symm hlt, ← boolCells_set]; exact HST.out.1
            case measure => simp [intOf]; omega
          · have HV := hid (bothV HBG.out rfl)
            clear hx hy HBG
            rw [HV.out] at HST
            go_wp2_with fail
            go_roundw
            case rel =>
              refine ⟨k + 1, by omega, by go_num, ?_, fun c hc => (cell_set_other hne).trans (HG2.out c hc), HZ2.out.set_far (by omega), HB2.out.setCell (by simp; omega) _, by simpa using hsz2⟩
              rw [← updFl_set _ _ _ _ HV.out.symm hlt, ← boolCells_set]; exact HST.out.1
            case measure => simp [intOf]; omega
          · have HV := hid (bothV HBG.out rfl)
            clear hx hy HBG
            rw [HV.out] at HST
            go_wp2_with fail
            go_roundw
            case rel =>
              refine ⟨k + 1, by omega, by go_num, ?_, fun c hc => (cell_set_other hne).trans (HG2.out c hc), HZ2.out.set_far (by omega), HB2.out.setCell (by simp; omega) _, by simpa using hsz2⟩
              rw [← updFl_set _ _ _ _ HV.out.symm hlt, ← boolCells_set]; exact HST.out.1
            case measure => simp [intOf]; omega
        · obtain rfl : k = 256 := by omega
          have HOWN := hid hown2
          clear hown2
          go_wp2_with fail
          refine (make_any _ e1 (updFl x.has (bothG x y true) 256) _ (updFl_length _ _ _) (Rd_of_own HOWN.out)).mono ?_
          rintro e w3 ⟨rfl, hb3⟩
          have HZ3 := hid (HZ2.out.below hb3 HZ2.out.lt)
          have HB3 : Hid (Below w.heap.size w w3) := HB2.out.trans (hb3.mono (by omega))
          rw [HM.out]
          unfold BSet.val
          obtain ⟨d0, d1, d2, d3, g0, g1, g2, g3⟩ := blk4 HZ3.out
          have HP := hid (blk_put4 (b0 := w64 r0) (b1 := w64 r1) (b2 := w64 r2) (b3 := w64 r3) HZ3.out)
          obtain ⟨e0, e1, e2, e3, -, -, -, -⟩ := blk4 HP.out
          have HR := hid (below_put4 (g := w.heap.size + 2) HB3.out (by omega) (w64 r0) (w64 r1) (w64 r2) (w64 r3))
          clear hb3
          go_wp2_with fail
          exact bodyPost_ret (v := .agg #[w64 r0, w64 r1, w64 r2, w64 r3]) (by simp [results, Try.results42, go_sem, e0, e1, e2, e3]) rfl ⟨rfl, HR.out⟩
  · go_wp2_with fail
    refine wpOrd_op rfl ?_
    go_wp2_with fail
    refine wpOrd_op rfl ?_
    go_wp2_with fail
    refine (HFX.out _).mono ?_
    rintro e w1 ⟨A1, e1, rfl, hown1, hb1⟩
    go_wp2_with fail
    refine wpOrd_op rfl ?_
    go_wp2_with fail
    refine (HFY.out _).mono ?_
    rintro e w2 ⟨A2, e2, rfl, hown2, hb2⟩
    obtain ⟨g1, g2, rfl, rfl, hg1, hne, ho1, hg2, hz, hbb, hss⟩ := both_facts (W := (((w.alloc (.cells #[w64 x.w0, w64 x.w1, w64 x.w2, w64 x.w3] 51)).alloc (.cells #[w64 y.w0, w64 y.w1, w64 y.w2, w64 y.w3] 51)).alloc (.cells #[.int .u64 0, .int .u64 0, .int .u64 0, .int .u64 0] 51))) (by simp) HW0.out HZ.out hown1 (below_drewN hb1) hown2 hb2
    have HO1 := hid ho1; have HG := hid hg2; have HZZ := hid hz; have HBB := hid hbb
    clear ho1 hg2 hz hbb hown1 hb1 hown2 hb2 c0 c1 c2 c3 d0 d1 d2 d3
    go_wp2_with fail
    repeat (refine wpOrd_val rfl ?_; go_big_quiet_step (fail); refine wpQuiet_nil ?_)
    refine wpOrd_nil ?_
    rw [← HF0.out] at HO1
    go_wp2_with fail
    go_loopw [9] (fun i wr => ∃ (k : Nat), k ≤ 256 ∧ i = .int .i64 (k : Int) ∧ wr.ownsRow (w.heap.size + 3) 4 1 (.slice (some ⟨g1, 0, none⟩) 256 e1) 256 (boolCells (updFl x.has (bothG x y true) k)) ∧ (∀ c, c < 256 → wr.cell? ⟨g2, c, none⟩ = some (.bool (y.has c))) ∧
        Blk wr (w.heap.size + 2) 51 #[.int .u64 0, .int .u64 0, .int .u64 0, .int .u64 0] ∧ Below w.heap.size w wr ∧ w.heap.size + 3 ≤ wr.heap.size) (fun i _ => 256 - (intOf i).toNat)
    case atStart => exact ⟨0, by omega, rfl, HO1.out, HG.out, HZZ.out, HBB.out, by omega⟩
    case round =>
      obtain ⟨k, hk, rfl, hown2, hg2, hz2, hb2, hsz2⟩ := hrel
      have HZ2 := hid hz2
      have HB2 := hid hb2
      have HG2 := hid hg2
      clear hz2 hb2 hg2
      by_cases hlt : k < 256
      · have hcl : wr.cell? ⟨g1, k, none⟩ = some (.bool (x.has k)) := by
          rw [hown2.cellAt _ (by omega), boolCells, List.getElem?_map, updFl_get _ _ _ _ hlt, if_neg (by omega)]; rfl
        have hcg := HG2.out k hlt
        have hfr := hown2.frozenAt k
        have HST := hid (hown2.stored k (.bool (bothG x y true k)))
        have HBG : Hid (bothG x y true k = ((x.has k && y.has k) || (true && (x.has k || y.has k)))) := rfl
        clear hown2
        cases hx : x.has k <;> cases hy : y.has k <;> rw [hx] at hcl HBG <;> rw [hy] at hcg HBG
        · have HV := hid (bothV HBG.out rfl)
          clear hx hy HBG
          rw [HV.out] at HST
          go_wp2_with fail
          go_roundw
          case rel =>
            refine ⟨k + 1, by omega, by go_num, ?_, fun c hc => (cell_set_other hne).trans (HG2.out c hc), HZ2.out.set_far (by omega), HB2.out.setCell (by simp; omega) _, by simpa using hsz2⟩
            rw [← updFl_set _ _ _ _ HV.out.symm hlt, ← boolCells_set]; exact HST.out.1
          case measure => simp [intOf]; omega
        · have HV := hid (bothV HBG.out rfl)
          clear hx hy HBG
          rw [HV.out] at HST
          go_wp2_with fail
          go_roundw
          case rel =>
            refine ⟨k + 1, by omega, by go_num, ?_, fun c hc => (cell_set_other hne).trans (HG2.out c hc), HZ2.out.set_far (by omega), HB2.out.setCell (by simp; omega) _, by simpa using hsz2⟩
            rw [← updFl_set _ _ _ _ HV.out.symm hlt, ← boolCells_set]; exact HST.out.1
          case measure => simp [intOf]; omega
        · have HV := hid (bothV HBG.out rfl)
          clear hx hy HBG
          rw [HV.out] at HST
          go_wp2_with fail
          go_roundw
          case rel =>
            refine ⟨k + 1, by omega, by go_num, ?_, fun c hc => (cell_set_other hne).trans (HG2.out c hc), HZ2.out.set_far (by omega), HB2.out.setCell (by simp; omega) _, by simpa using hsz2⟩
            rw [← updFl_set _ _ _ _ HV.out.symm hlt, ← boolCells_set]; exact HST.out.1
          case measure => simp [intOf]; omega
        · have HV := hid (bothV HBG.out rfl)
          clear hx hy HBG
          rw [HV.out] at HST
          go_wp2_with fail
          go_roundw
          case rel =>
            refine ⟨k + 1, by omega, by go_num, ?_, fun c hc => (cell_set_other hne).trans (HG2.out c hc), HZ2.out.set_far (by omega), HB2.out.setCell (by simp; omega) _, by simpa using hsz2⟩
            rw [← updFl_set _ _ _ _ HV.out.symm hlt, ← boolCells_set]; exact HST.out.1
          case measure => simp [intOf]; omega
      · obtain rfl : k = 256 := by omega
        have HOWN := hid hown2
        clear hown2
        go_wp2_with fail
        refine (make_any _ e1 (updFl x.has (bothG x y true) 256) _ (updFl_length _ _ _) (Rd_of_own HOWN.out)).mono ?_
        rintro e w3 ⟨rfl, hb3⟩
        have HZ3 := hid (HZ2.out.below hb3 HZ2.out.lt)
        have HB3 : Hid (Below w.heap.size w w3) := HB2.out.trans (hb3.mono (by omega))
        rw [HM.out]
        unfold BSet.val
        obtain ⟨d0, d1, d2, d3, g0, g1, g2, g3⟩ := blk4 HZ3.out
        have HP := hid (blk_put4 (b0 := w64 r0) (b1 := w64 r1) (b2 := w64 r2) (b3 := w64 r3) HZ3.out)
        obtain ⟨e0, e1, e2, e3, -, -, -, -⟩ := blk4 HP.out
        have HR := hid (below_put4 (g := w.heap.size + 2) HB3.out (by omega) (w64 r0) (w64 r1) (w64 r2) (w64 r3))
        clear hb3
        go_wp2_with fail
        exact bodyPost_ret (v := .agg #[w64 r0, w64 r1, w64 r2, w64 r3]) (by simp [results, Try.results42, go_sem, e0, e1, e2, e3]) rfl ⟨rfl, HR.out⟩
end Go.Proofs.Ytdhoedohchbagaa
