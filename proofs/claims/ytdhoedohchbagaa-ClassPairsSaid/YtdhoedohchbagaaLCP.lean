/- Walks: the law ClassPairs. -/
import Derived.Test.YtdhoedohchbagaaLv6
import Derived.Test.YtdhoedohchbagaaCl
import Derived.Test.YtdhoedohchbagaaCm
import Derived.Test.YtdhoedohchbagaaWi
import Derived.Test.YtdhoedohchbagaaWb
import Derived.Test.YtdhoedohchbagaaBq
namespace Go.Proofs.Ytdhoedohchbagaa
open Go.RowKit PopT

theorem u8_int2 (x : Int) (h : Lit.wf (.int .u8 x) = true) : ∃ y : Nat, x = (y : Int) ∧ y < 256 := by
  simp [Lit.wf, IntKind.min, IntKind.max, IntKind.signed, IntKind.bits] at h
  exact ⟨x.toNat, by omega, by omega⟩

set_option maxRecDepth 20000 in
set_option maxHeartbeats 2000000 in
theorem classPairs_any (x y : BSet) (bi : Int) (w : World) (hb : Lit.wf (.int .u8 bi) = true) :
    Calls Try.prog 8 #[x.val, y.val, .int .u8 bi] w fun e w' => e = .returned (.bool true) ∧ Below w.heap.size w w' := by
  obtain ⟨b, rfl, hb8⟩ := u8_int2 bi hb
  clear hb
  have C1 := hid (fun W => notC_any x W)
  have C2 := hid (fun W => notR_any x W)
  have C3 := hid (fun W => orC_any x y W)
  have C4 := hid (fun W => bothR_true x y (orM x y) (fun c hc => by rw [has_orM _ _ _ hc, bothG]; cases x.has c <;> cases y.has c <;> rfl) W)
  have C5 := hid (fun W => and_any_set x y W)
  have C6 := hid (fun W => bothR_false x y (andM x y) (fun c hc => by rw [has_andM _ _ _ hc, bothG]; cases x.has c <;> cases y.has c <;> rfl) W)
  have C7 := hid (fun W => hasC_any x b hb8 W)
  have C8 := hid (fun W => hasR_any x b hb8 W)
  have C9 := hid (fun W => bytesC_any x W)
  have C10 := hid (fun W => bytesR_any x W)
  have C11 := hid (fun W => lenC_any x W)
  have C12 := hid (fun W => lives06_any W)
  obtain ⟨X, hX⟩ : ∃ X, notM x = X := ⟨_, rfl⟩
  obtain ⟨Y, hY⟩ : ∃ Y, orM x y = Y := ⟨_, rfl⟩
  obtain ⟨Z, hZ⟩ : ∃ Z, andM x y = Z := ⟨_, rfl⟩
  obtain ⟨h, hh⟩ : ∃ h, x.has b = h := ⟨_, rfl⟩
  obtain ⟨T, hT⟩ : ∃ T, (⟨(bytesM x).toArray⟩ : ByteArray) = T := ⟨_, rfl⟩
  have hl : (bytesM x).length = T.size := by rw [← hT]; rfl
  rw [hX] at C1 C2
  rw [hY] at C3 C4
  rw [hZ] at C5 C6
  rw [hh] at C7 C8
  rw [hT] at C9 C10
  rw [hl] at C11
  clear hX hY hZ hh hT hl
  have E1 : ∀ W, (Op.equalIn 10000 51 (.agg #[w64 X.w0, w64 X.w1, w64 X.w2, w64 X.w3]) (.agg #[w64 X.w0, w64 X.w1, w64 X.w2, w64 X.w3])).run Try.prog W = .ok true W := by intro W; have := Try.eqSet X X W; rwa [beq_self_eq_true] at this
  have E2 : ∀ W, (Op.equalIn 10000 51 (.agg #[w64 Y.w0, w64 Y.w1, w64 Y.w2, w64 Y.w3]) (.agg #[w64 Y.w0, w64 Y.w1, w64 Y.w2, w64 Y.w3])).run Try.prog W = .ok true W := by intro W; have := Try.eqSet Y Y W; rwa [beq_self_eq_true] at this
  have E3 : ∀ W, (Op.equalIn 10000 51 (.agg #[w64 Z.w0, w64 Z.w1, w64 Z.w2, w64 Z.w3]) (.agg #[w64 Z.w0, w64 Z.w1, w64 Z.w2, w64 Z.w3])).run Try.prog W = .ok true W := by intro W; have := Try.eqSet Z Z W; rwa [beq_self_eq_true] at this
  unfold BSet.val at *
  have hx0 := (Blk.new w 51 #[w64 x.w0, w64 x.w1, w64 x.w2, w64 x.w3]).alloc (.cells #[w64 y.w0, w64 y.w1, w64 y.w2, w64 y.w3] 51)
  have hy0 := Blk.new (w.alloc (.cells #[w64 x.w0, w64 x.w1, w64 x.w2, w64 x.w3] 51)) 51 #[w64 y.w0, w64 y.w1, w64 y.w2, w64 y.w3]
  rw [World.size_alloc] at hy0
  have HB0 : Hid (Below w.heap.size w ((w.alloc (.cells #[w64 x.w0, w64 x.w1, w64 x.w2, w64 x.w3] 51)).alloc (.cells #[w64 y.w0, w64 y.w1, w64 y.w2, w64 y.w3] 51))) := ((Below.refl w.heap.size w).alloc (Nat.le_refl _) _).alloc (by simp) _
  go_enter Try.func8, Try.ntmps8
  go_wp2_with fail
  obtain ⟨w0, hw0⟩ : ∃ w0, (w.alloc (.cells #[w64 x.w0, w64 x.w1, w64 x.w2, w64 x.w3] 51)).alloc (.cells #[w64 y.w0, w64 y.w1, w64 y.w2, w64 y.w3] 51) = w0 := ⟨_, rfl⟩
  rw [hw0] at hx0 hy0 HB0 ⊢
  have hs0 : w.heap.size + 2 ≤ w0.heap.size := by rw [← hw0]; simp
  clear hw0
  obtain ⟨a0, a1, a2, a3, -, -, -, -⟩ := blk4 hx0
  obtain ⟨b0, b1, b2, b3, -, -, -, -⟩ := blk4 hy0
  have A0 : ∀ q : BW (w.heap.size + 2) w0, q.1.cell? ⟨w.heap.size, 0, none⟩ = some (w64 x.w0) := fun q => q.cellAt (by omega) a0
  have A1 : ∀ q : BW (w.heap.size + 2) w0, q.1.cell? ⟨w.heap.size, 1, none⟩ = some (w64 x.w1) := fun q => q.cellAt (by omega) a1
  have A2 : ∀ q : BW (w.heap.size + 2) w0, q.1.cell? ⟨w.heap.size, 2, none⟩ = some (w64 x.w2) := fun q => q.cellAt (by omega) a2
  have A3 : ∀ q : BW (w.heap.size + 2) w0, q.1.cell? ⟨w.heap.size, 3, none⟩ = some (w64 x.w3) := fun q => q.cellAt (by omega) a3
  have B0 : ∀ q : BW (w.heap.size + 2) w0, q.1.cell? ⟨w.heap.size + 1, 0, none⟩ = some (w64 y.w0) := fun q => q.cellAt (by omega) b0
  have B1 : ∀ q : BW (w.heap.size + 2) w0, q.1.cell? ⟨w.heap.size + 1, 1, none⟩ = some (w64 y.w1) := fun q => q.cellAt (by omega) b1
  have B2 : ∀ q : BW (w.heap.size + 2) w0, q.1.cell? ⟨w.heap.size + 1, 2, none⟩ = some (w64 y.w2) := fun q => q.cellAt (by omega) b2
  have B3 : ∀ q : BW (w.heap.size + 2) w0, q.1.cell? ⟨w.heap.size + 1, 3, none⟩ = some (w64 y.w3) := fun q => q.cellAt (by omega) b3
  have HX := hid hx0
  have HY := hid hy0
  clear hx0 hy0 a0 a1 a2 a3 b0 b1 b2 b3
  refine wp_region_below (w.heap.size + 2) (by kernel_rfl) (by kernel_rfl) ?_
  repeat (go_big_quiet_step (first
    | (go_at_call 39; exact callBW hs0 C1.out _)
    | (go_at_call 40; exact callBW hs0 C2.out _)
    | (go_at_call 41; exact callBW hs0 C3.out _)
    | (go_at_call 42; first | with_reducible exact callBW hs0 C4.out _ | with_reducible exact callBW hs0 C6.out _)
    | (go_at_call 43; exact callBW hs0 C5.out _)
    | (go_at_call 44; exact callBW hs0 C7.out _)
    | (go_at_call 45; exact callBW hs0 C8.out _)))
  refine wpQuiet_nil ?_
  intro w1 hq1
  have hb1 : Below (w.heap.size + 2) w0 w1 := by obtain ⟨q, rfl⟩ := hq1; exact q.2
  clear hq1
  have hs1 : w.heap.size + 2 ≤ w1.heap.size := Nat.le_trans hs0 hb1.size
  have HX1 : Hid (Blk w1 w.heap.size 51 #[w64 x.w0, w64 x.w1, w64 x.w2, w64 x.w3]) := (hb1.block _ (by omega)).trans HX.out
  have HB1 : Hid (Below w.heap.size w w1) := HB0.out.trans (hb1.mono (by omega))
  clear hb1 A0 A1 A2 A3 B0 B1 B2 B3 HX HY HB0 hs0
  obtain ⟨a0, a1, a2, a3, -, -, -, -⟩ := blk4 HX1.out
  have A0 : ∀ q : BW (w.heap.size + 2) w1, q.1.cell? ⟨w.heap.size, 0, none⟩ = some (w64 x.w0) := fun q => q.cellAt (by omega) a0
  have A1 : ∀ q : BW (w.heap.size + 2) w1, q.1.cell? ⟨w.heap.size, 1, none⟩ = some (w64 x.w1) := fun q => q.cellAt (by omega) a1
  have A2 : ∀ q : BW (w.heap.size + 2) w1, q.1.cell? ⟨w.heap.size, 2, none⟩ = some (w64 x.w2) := fun q => q.cellAt (by omega) a2
  have A3 : ∀ q : BW (w.heap.size + 2) w1, q.1.cell? ⟨w.heap.size, 3, none⟩ = some (w64 x.w3) := fun q => q.cellAt (by omega) a3
  clear a0 a1 a2 a3
  go_wp2_with fail
  refine wp_region_below (w.heap.size + 2) (by kernel_rfl) (by kernel_rfl) ?_
  repeat (go_big_quiet_step (first
    | (go_at_call 46; exact callBW hs1 C9.out _)
    | (go_at_call 47; exact callBW hs1 C10.out _)
    | (go_at_call 48; exact callBW hs1 C11.out _)
    | (go_at_call 34; exact callBW hs1 C12.out _)))
  refine wpQuiet_nil ?_
  intro w2 hq2
  have hb2 : Below (w.heap.size + 2) w1 w2 := by obtain ⟨q, rfl⟩ := hq2; exact q.2
  clear hq2
  have HB2 : Hid (Below w.heap.size w w2) := HB1.out.trans (hb2.mono (by omega))
  clear hb2
  go_wp2_with fail
  go_ret
  exact ⟨rfl, HB2.out⟩
end Go.Proofs.Ytdhoedohchbagaa
