/- Walks: class.Read. -/
import Derived.Test.YtdhoedohchbagaaCw
namespace Go.Proofs.Ytdhoedohchbagaa
open Go.RowKit

/-- What class.Read gives. -/
def readC (s : ByteArray) : BSet × Nat × Nat := if (rdWhole s).2.2 = 0 then ((rdWhole s).1, (rdWhole s).2.1, 0) else (BSet.zero, (rdWhole s).2.1, (rdWhole s).2.2)

set_option maxRecDepth 20000 in
set_option maxHeartbeats 1000000 in
theorem readC_any (s : ByteArray) (w : World) (hs : s.size ≤ 1000000) :
    Calls Try.prog 32 #[.string s] w fun x w' => x = .returned (.tuple #[(readC s).1.val, .int .i64 ((readC s).2.1 : Nat), .int .i64 ((readC s).2.2 : Nat)]) ∧ Below w.heap.size w w' := by
  have HP := hid (fun W hW => rdWhole_any s (w.heap.size + 1) W hW hs)
  have HR : Hid (readC s = if (rdWhole s).2.2 = 0 then ((rdWhole s).1, (rdWhole s).2.1, 0) else (BSet.zero, (rdWhole s).2.1, (rdWhole s).2.2)) := rfl
  obtain ⟨⟨y, i, e⟩, hq⟩ : ∃ q, rdWhole s = q := ⟨_, rfl⟩
  rw [hq] at HP HR
  clear hq
  simp only at HP HR
  have HW0 : Hid (Blk ((w.alloc (.cells #[.int .u64 0, .int .u64 0, .int .u64 0, .int .u64 0] 51)).alloc (.cells #[.string s, .int .i64 0, .int .i64 0] 126)) (w.heap.size + 1) 126 #[.string s, .int .i64 0, .int .i64 0]) := by
    have := Blk.new (w.alloc (.cells #[.int .u64 0, .int .u64 0, .int .u64 0, .int .u64 0] 51)) 126 #[.string s, .int .i64 0, .int .i64 0]
    rwa [World.size_alloc] at this
  go_enter Try.func32, Try.ntmps32
  go_wp2_with fail
  refine (HP.out _ HW0.out).mono ?_
  rintro x w1 ⟨rfl, hb1, hk1⟩
  have HB1 := hid hb1
  have HC1 : Hid (Blk w1 w.heap.size 51 #[.int .u64 0, .int .u64 0, .int .u64 0, .int .u64 0]) := hk1.blk ((Blk.new w _ _).alloc _) (by omega)
  have HBL1 : Hid (Below w.heap.size w w1) := (((Below.refl w.heap.size w).alloc (Nat.le_refl _) _).alloc (by simp) _).trans (hk1.below (by simp; omega) (fun k hk => by have hk' : k = w.heap.size + 1 := hk; omega))
  have hlt1 : w.heap.size + 1 < w1.heap.size := HB1.out.lt
  clear hb1 hk1 HP HW0
  have HX2 : Hid (Blk (w1.alloc (.cells #[.int .u64 (y.w0.toNat : Int), .int .u64 (y.w1.toNat : Int), .int .u64 (y.w2.toNat : Int), .int .u64 (y.w3.toNat : Int)] 51)) w1.heap.size 51 #[w64 y.w0, w64 y.w1, w64 y.w2, w64 y.w3]) := Blk.new w1 51 #[w64 y.w0, w64 y.w1, w64 y.w2, w64 y.w3]
  have HB2 : Hid (Blk (w1.alloc (.cells #[.int .u64 (y.w0.toNat : Int), .int .u64 (y.w1.toNat : Int), .int .u64 (y.w2.toNat : Int), .int .u64 (y.w3.toNat : Int)] 51)) (w.heap.size + 1) 126 #[.string s, .int .i64 (i : Int), .int .i64 (e : Int)]) := HB1.out.alloc _
  have HC2 : Hid (Blk (w1.alloc (.cells #[.int .u64 (y.w0.toNat : Int), .int .u64 (y.w1.toNat : Int), .int .u64 (y.w2.toNat : Int), .int .u64 (y.w3.toNat : Int)] 51)) w.heap.size 51 #[.int .u64 0, .int .u64 0, .int .u64 0, .int .u64 0]) := HC1.out.alloc _
  have HBL2 : Hid (Below w.heap.size w (w1.alloc (.cells #[.int .u64 (y.w0.toNat : Int), .int .u64 (y.w1.toNat : Int), .int .u64 (y.w2.toNat : Int), .int .u64 (y.w3.toNat : Int)] 51))) := HBL1.out.alloc (by omega) _
  unfold BSet.val
  obtain ⟨w2, hw2⟩ : ∃ w2, w1.alloc (.cells #[.int .u64 (y.w0.toNat : Int), .int .u64 (y.w1.toNat : Int), .int .u64 (y.w2.toNat : Int), .int .u64 (y.w3.toNat : Int)] 51) = w2 := ⟨_, rfl⟩
  rw [hw2] at HX2 HB2 HC2 HBL2
  obtain ⟨X, hX⟩ : ∃ X, w1.heap.size = X := ⟨_, rfl⟩
  rw [hX] at HX2 hlt1
  have q1 : w2.cell? ⟨w.heap.size + 1, 1, none⟩ = some (.int .i64 (i : Int)) := HB2.out.cell 1
  obtain ⟨x0, x1, x2, x3, -, -, -, -⟩ := blk4 HX2.out
  obtain ⟨c0, c1, c2, c3, g0, g1, g2, g3⟩ := blk4 HC2.out
  by_cases he : e = 0
  · subst he
    have HE : Hid (readC s = (y, i, 0)) := by rw [Hid, HR.out]; rfl
    clear HR
    have q2 : w2.cell? ⟨w.heap.size + 1, 2, none⟩ = some (.int .i64 0) := HB2.out.cell 2
    have HZ := hid (fun (n : Nat) => blk_put4 (b0 := w64 y.w0) (b1 := w64 y.w1) (b2 := w64 y.w2) (b3 := w64 y.w3) (show Blk (w2.drewN n) w.heap.size 51 #[.int .u64 0, .int .u64 0, .int .u64 0, .int .u64 0] from HC2.out))
    have HQ := hid (fun (n : Nat) => below_put4 (g := w.heap.size) (HBL2.out.trans ((drewN_below w2 n).mono HBL2.out.size)) (Nat.le_refl _) (w64 y.w0) (w64 y.w1) (w64 y.w2) (w64 y.w3))
    have HF := hid (fun (n : Nat) => blk_far4 (g' := w.heap.size) (b0 := w64 y.w0) (b1 := w64 y.w1) (b2 := w64 y.w2) (b3 := w64 y.w3) (show Blk (w2.drewN n) (w.heap.size + 1) 126 #[.string s, .int .i64 (i : Int), .int .i64 ((0 : Nat) : Int)] from HB2.out) (by omega))
    have r1 := (HF.out 1).cell 1
    have r2 := (HF.out 1).cell 2
    simp only [List.getElem?_toArray, List.getElem?_cons_succ, List.getElem?_cons_zero] at r1 r2
    go_wp2_with fail
    refine wp_region_ord (.val 1 (.val 2 (.val 3 (.two 0 (.two 4 (.op 5 (.val 6 (.val 7 (.nil)))) 5 (.op 4 (.val 6 (.val 7 (.nil))))) 4 (.op 0 (.op 5 (.val 6 (.val 7 (.nil))))))))) (by kernel_rfl) (by kernel_rfl) ?_
    refine wpOrd_val rfl ?_
    go_big_quiet_step (fail)
    refine wpQuiet_nil ?_
    refine wpOrd_val rfl ?_
    go_big_quiet_step (fail)
    refine wpQuiet_nil ?_
    refine wpOrd_val rfl ?_
    go_big_quiet_step (fail)
    refine wpQuiet_nil ?_
    refine wpOrd_two rfl rfl ?_ ?_
    · go_wp2_with fail
      refine wpOrd_two rfl rfl ?_ ?_
      · go_wp2_with fail
        refine wpOrd_op rfl ?_
        go_wp2_with fail
        refine wpOrd_val rfl ?_
        go_big_quiet_step (fail)
        refine wpQuiet_nil ?_
        refine wpOrd_val rfl ?_
        go_big_quiet_step (fail)
        refine wpQuiet_nil ?_
        refine wpOrd_nil ?_
        go_wp2_with fail
        obtain ⟨z0, z1, z2, z3, -, -, -, -⟩ := blk4 (HZ.out 1)
        exact bodyPost_ret (v := .tuple #[.agg #[w64 y.w0, w64 y.w1, w64 y.w2, w64 y.w3], .int .i64 (i : Int), .int .i64 0]) (by simp [results, Try.results32, go_sem, z0, z1, z2, z3]) rfl ⟨by rw [HE.out]; rfl, HQ.out 1⟩
      · go_wp2_with fail
        refine wpOrd_op rfl ?_
        go_wp2_with fail
        refine wpOrd_val rfl ?_
        go_big_quiet_step (fail)
        refine wpQuiet_nil ?_
        refine wpOrd_val rfl ?_
        go_big_quiet_step (fail)
        refine wpQuiet_nil ?_
        refine wpOrd_nil ?_
        go_wp2_with fail
        obtain ⟨z0, z1, z2, z3, -, -, -, -⟩ := blk4 (HZ.out 1)
        exact bodyPost_ret (v := .tuple #[.agg #[w64 y.w0, w64 y.w1, w64 y.w2, w64 y.w3], .int .i64 (i : Int), .int .i64 0]) (by simp [results, Try.results32, go_sem, z0, z1, z2, z3]) rfl ⟨by rw [HE.out]; rfl, HQ.out 1⟩
    · go_wp2_with fail
      refine wpOrd_op rfl ?_
      go_wp2_with fail
      refine wpOrd_op rfl ?_
      go_wp2_with fail
      refine wpOrd_val rfl ?_
      go_big_quiet_step (fail)
      refine wpQuiet_nil ?_
      refine wpOrd_val rfl ?_
      go_big_quiet_step (fail)
      refine wpQuiet_nil ?_
      refine wpOrd_nil ?_
      go_wp2_with fail
      obtain ⟨z0, z1, z2, z3, -, -, -, -⟩ := blk4 (HZ.out 1)
      exact bodyPost_ret (v := .tuple #[.agg #[w64 y.w0, w64 y.w1, w64 y.w2, w64 y.w3], .int .i64 (i : Int), .int .i64 0]) (by simp [results, Try.results32, go_sem, z0, z1, z2, z3]) rfl ⟨by rw [HE.out]; rfl, HQ.out 1⟩
  · have HE : Hid (readC s = (BSet.zero, i, e)) := by rw [Hid, HR.out, if_neg he]
    clear HR
    have q2 : w2.cell? ⟨w.heap.size + 1, 2, none⟩ = some (.int .i64 (e : Int)) := HB2.out.cell 2
    have he0 : ((e : Int) == 0) = false := by simp; omega
    have HZ := hid (fun (n : Nat) => blk_put4 (b0 := .int .u64 0) (b1 := .int .u64 0) (b2 := .int .u64 0) (b3 := .int .u64 0) (show Blk (w2.drewN n) w.heap.size 51 #[.int .u64 0, .int .u64 0, .int .u64 0, .int .u64 0] from HC2.out))
    have HQ := hid (fun (n : Nat) => below_put4 (g := w.heap.size) (HBL2.out.trans ((drewN_below w2 n).mono HBL2.out.size)) (Nat.le_refl _) (.int .u64 0) (.int .u64 0) (.int .u64 0) (.int .u64 0))
    have HF := hid (fun (n : Nat) => blk_far4 (g' := w.heap.size) (b0 := .int .u64 0) (b1 := .int .u64 0) (b2 := .int .u64 0) (b3 := .int .u64 0) (show Blk (w2.drewN n) (w.heap.size + 1) 126 #[.string s, .int .i64 (i : Int), .int .i64 (e : Int)] from HB2.out) (by omega))
    have r1 := (HF.out 1).cell 1
    have r2 := (HF.out 1).cell 2
    simp only [List.getElem?_toArray, List.getElem?_cons_succ, List.getElem?_cons_zero] at r1 r2
    go_wp2_with fail
    refine wp_region_ord (.val 0 (.val 1 (.val 2 (.val 3 (.val 5 (.val 6 (.val 7 (.three 4 (.two 8 (.op 9 (.val 10 (.val 11 (.nil)))) 9 (.val 10 (.op 8 (.val 11 (.nil))))) 8 (.two 4 (.op 9 (.val 10 (.val 11 (.nil)))) 9 (.op 4 (.val 10 (.val 11 (.nil))))) 9 (.two 4 (.val 10 (.op 8 (.val 11 (.nil)))) 8 (.op 4 (.val 10 (.val 11 (.nil))))))))))))) (by kernel_rfl) (by kernel_rfl) ?_
    refine wpOrd_val rfl ?_
    go_big_quiet_step (fail)
    refine wpQuiet_nil ?_
    refine wpOrd_val rfl ?_
    go_big_quiet_step (fail)
    refine wpQuiet_nil ?_
    refine wpOrd_val rfl ?_
    go_big_quiet_step (fail)
    refine wpQuiet_nil ?_
    refine wpOrd_val rfl ?_
    go_big_quiet_step (fail)
    refine wpQuiet_nil ?_
    refine wpOrd_val rfl ?_
    go_big_quiet_step (fail)
    refine wpQuiet_nil ?_
    refine wpOrd_val rfl ?_
    go_big_quiet_step (fail)
    refine wpQuiet_nil ?_
    refine wpOrd_val rfl ?_
    go_big_quiet_step (fail)
    refine wpQuiet_nil ?_
    refine wpOrd_three rfl rfl rfl ?_ ?_ ?_
    · go_wp2_with fail
      refine wpOrd_two rfl rfl ?_ ?_
      · go_wp2_with fail
        refine wpOrd_op rfl ?_
        go_wp2_with fail
        refine wpOrd_val rfl ?_
        go_big_quiet_step (fail)
        refine wpQuiet_nil ?_
        refine wpOrd_val rfl ?_
        go_big_quiet_step (fail)
        refine wpQuiet_nil ?_
        refine wpOrd_nil ?_
        go_wp2_with fail
        obtain ⟨z0, z1, z2, z3, -, -, -, -⟩ := blk4 (HZ.out 1)
        exact bodyPost_ret (v := .tuple #[.agg #[.int .u64 0, .int .u64 0, .int .u64 0, .int .u64 0], .int .i64 (i : Int), .int .i64 (e : Int)]) (by simp [results, Try.results32, go_sem, z0, z1, z2, z3]) rfl ⟨by rw [HE.out]; rfl, HQ.out 1⟩
      · go_wp2_with fail
        refine wpOrd_val rfl ?_
        go_big_quiet_step (fail)
        refine wpQuiet_nil ?_
        refine wpOrd_op rfl ?_
        go_wp2_with fail
        refine wpOrd_val rfl ?_
        go_big_quiet_step (fail)
        refine wpQuiet_nil ?_
        refine wpOrd_nil ?_
        go_wp2_with fail
        obtain ⟨z0, z1, z2, z3, -, -, -, -⟩ := blk4 (HZ.out 1)
        exact bodyPost_ret (v := .tuple #[.agg #[.int .u64 0, .int .u64 0, .int .u64 0, .int .u64 0], .int .i64 (i : Int), .int .i64 (e : Int)]) (by simp [results, Try.results32, go_sem, z0, z1, z2, z3]) rfl ⟨by rw [HE.out]; rfl, HQ.out 1⟩
    · go_wp2_with fail
      refine wpOrd_two rfl rfl ?_ ?_
      · go_wp2_with fail
        refine wpOrd_op rfl ?_
        go_wp2_with fail
        refine wpOrd_val rfl ?_
        go_big_quiet_step (fail)
        refine wpQuiet_nil ?_
        refine wpOrd_val rfl ?_
        go_big_quiet_step (fail)
        refine wpQuiet_nil ?_
        refine wpOrd_nil ?_
        go_wp2_with fail
        obtain ⟨z0, z1, z2, z3, -, -, -, -⟩ := blk4 (HZ.out 1)
        exact bodyPost_ret (v := .tuple #[.agg #[.int .u64 0, .int .u64 0, .int .u64 0, .int .u64 0], .int .i64 (i : Int), .int .i64 (e : Int)]) (by simp [results, Try.results32, go_sem, z0, z1, z2, z3]) rfl ⟨by rw [HE.out]; rfl, HQ.out 1⟩
      · go_wp2_with fail
        refine wpOrd_op rfl ?_
        go_wp2_with fail
        refine wpOrd_val rfl ?_
        go_big_quiet_step (fail)
        refine wpQuiet_nil ?_
        refine wpOrd_val rfl ?_
        go_big_quiet_step (fail)
        refine wpQuiet_nil ?_
        refine wpOrd_nil ?_
        go_wp2_with fail
        obtain ⟨z0, z1, z2, z3, -, -, -, -⟩ := blk4 (HZ.out 1)
        exact bodyPost_ret (v := .tuple #[.agg #[.int .u64 0, .int .u64 0, .int .u64 0, .int .u64 0], .int .i64 (i : Int), .int .i64 (e : Int)]) (by simp [results, Try.results32, go_sem, z0, z1, z2, z3]) rfl ⟨by rw [HE.out]; rfl, HQ.out 1⟩
    · go_wp2_with fail
      refine wpOrd_two rfl rfl ?_ ?_
      · go_wp2_with fail
        refine wpOrd_val rfl ?_
        go_big_quiet_step (fail)
        refine wpQuiet_nil ?_
        refine wpOrd_op rfl ?_
        go_wp2_with fail
        refine wpOrd_val rfl ?_
        go_big_quiet_step (fail)
        refine wpQuiet_nil ?_
        refine wpOrd_nil ?_
        go_wp2_with fail
        obtain ⟨z0, z1, z2, z3, -, -, -, -⟩ := blk4 (HZ.out 1)
        exact bodyPost_ret (v := .tuple #[.agg #[.int .u64 0, .int .u64 0, .int .u64 0, .int .u64 0], .int .i64 (i : Int), .int .i64 (e : Int)]) (by simp [results, Try.results32, go_sem, z0, z1, z2, z3]) rfl ⟨by rw [HE.out]; rfl, HQ.out 1⟩
      · go_wp2_with fail
        refine wpOrd_op rfl ?_
        go_wp2_with fail
        refine wpOrd_val rfl ?_
        go_big_quiet_step (fail)
        refine wpQuiet_nil ?_
        refine wpOrd_val rfl ?_
        go_big_quiet_step (fail)
        refine wpQuiet_nil ?_
        refine wpOrd_nil ?_
        go_wp2_with fail
        obtain ⟨z0, z1, z2, z3, -, -, -, -⟩ := blk4 (HZ.out 1)
        exact bodyPost_ret (v := .tuple #[.agg #[.int .u64 0, .int .u64 0, .int .u64 0, .int .u64 0], .int .i64 (i : Int), .int .i64 (e : Int)]) (by simp [results, Try.results32, go_sem, z0, z1, z2, z3]) rfl ⟨by rw [HE.out]; rfl, HQ.out 1⟩

/-- class.Read with its results by their names. -/
theorem readC_whole (s : ByteArray) (x : BSet) (n : Nat) (h : rdWhole s = (x, n, 0)) : readC s = (x, n, 0) := by
  rw [readC, h]; rfl
end Go.Proofs.Ytdhoedohchbagaa
