/- Walks: class.with, negate, or, And. -/
import Derived.Test.YtdhoedohchbagaaCa
import Derived.Test.YtdhoedohchbagaaKeep
namespace Go.Proofs.Ytdhoedohchbagaa
open Go.RowKit

theorem u_not (x : BitVec 64) : bits .xor .u64 (if IntKind.u64.signed = true then -1 else IntKind.u64.max) (x.toNat : Int) = ((~~~ x).toNat : Int) := by
  have hx := x.isLt
  have h1 : (if IntKind.u64.signed = true then (-1 : Int) else IntKind.u64.max) = ((BitVec.allOnes 64).toNat : Int) := by rfl
  rw [h1, u64_xor_nat _ _ (BitVec.isLt _) hx, ← BitVec.toNat_xor]
  rw [BitVec.allOnes_xor]
theorem keep_box4 (B : Nat) (w : World) (u0 u1 u2 u3 : Value) : Keep (fun k => k = B) w ((((w.setCell ⟨B, 0, none⟩ u0).setCell ⟨B, 1, none⟩ u1).setCell ⟨B, 2, none⟩ u2).setCell ⟨B, 3, none⟩ u3) :=
  (((Keep.setCell (fun k => k = B) w ⟨B, 0, none⟩ u0 rfl).trans (Keep.setCell (fun k => k = B) _ ⟨B, 1, none⟩ u1 rfl) (fun _ => .inl)).trans (Keep.setCell (fun k => k = B) _ ⟨B, 2, none⟩ u2 rfl) (fun _ => .inl)).trans (Keep.setCell (fun k => k = B) _ ⟨B, 3, none⟩ u3 rfl) (fun _ => .inl)

set_option maxRecDepth 20000 in
set_option maxHeartbeats 400000 in
theorem with_any (s : BSet) (b : Nat) (hb : b < 256) (w : World) :
    Calls Try.prog 91 #[s.val, .int .u8 (b : Int)] w fun e w' => e = .returned (withM s b).val ∧ Below w.heap.size w w' := by
  obtain ⟨j, hj⟩ : ∃ j, b % 64 = j := ⟨_, rfl⟩
  have hj64 : j < 64 := by omega
  have hm : (b : Int) % 64 = (j : Int) := by omega
  have HO : Hid (∀ o1 o2, Below w.heap.size w ((w.alloc o1).alloc o2)) := fun o1 o2 => ((Below.refl _ _).alloc (Nat.le_refl _) _).alloc (by simp) _
  have ko := u_one j hj64
  obtain ⟨s0, s1, s2, s3⟩ := s
  have h4 : b / 64 < 4 := by omega
  obtain ⟨i, hi⟩ : ∃ i, b / 64 = i := ⟨_, rfl⟩
  have HM : Hid ((withM ⟨s0, s1, s2, s3⟩ b) = BSet.put ⟨s0, s1, s2, s3⟩ i ((BSet.word ⟨s0, s1, s2, s3⟩ i) ||| bitW j)) := by rw [Hid, withM, hi, hj]
  rw [HM.out]
  rw [hi] at h4
  match i, h4 with
  | 0, _ =>
    have hq : (b : Int) / 64 = 0 := by omega
    have kr := u_or s0 (bitW j)
    clear hi hj HM h4
    show Calls _ _ _ _ fun e w' => e = .returned (.agg #[w64 (s0 ||| bitW j), w64 s1, w64 s2, w64 s3]) ∧ _
    unfold BSet.val
    go_enter Try.func91, Try.ntmps91
    go_wp2_with fail
    exact bodyPost_ret (v := .agg #[w64 (s0 ||| bitW j), w64 s1, w64 s2, w64 s3]) (by simp [results, Try.results91, go_sem]) rfl ⟨rfl, HO.out _ _⟩
  | 1, _ =>
    have hq : (b : Int) / 64 = 1 := by omega
    have kr := u_or s1 (bitW j)
    clear hi hj HM h4
    show Calls _ _ _ _ fun e w' => e = .returned (.agg #[w64 s0, w64 (s1 ||| bitW j), w64 s2, w64 s3]) ∧ _
    unfold BSet.val
    go_enter Try.func91, Try.ntmps91
    go_wp2_with fail
    exact bodyPost_ret (v := .agg #[w64 s0, w64 (s1 ||| bitW j), w64 s2, w64 s3]) (by simp [results, Try.results91, go_sem]) rfl ⟨rfl, HO.out _ _⟩
  | 2, _ =>
    have hq : (b : Int) / 64 = 2 := by omega
    have kr := u_or s2 (bitW j)
    clear hi hj HM h4
    show Calls _ _ _ _ fun e w' => e = .returned (.agg #[w64 s0, w64 s1, w64 (s2 ||| bitW j), w64 s3]) ∧ _
    unfold BSet.val
    go_enter Try.func91, Try.ntmps91
    go_wp2_with fail
    exact bodyPost_ret (v := .agg #[w64 s0, w64 s1, w64 (s2 ||| bitW j), w64 s3]) (by simp [results, Try.results91, go_sem]) rfl ⟨rfl, HO.out _ _⟩
  | 3, _ =>
    have hq : (b : Int) / 64 = 3 := by omega
    have kr := u_or s3 (bitW j)
    clear hi hj HM h4
    show Calls _ _ _ _ fun e w' => e = .returned (.agg #[w64 s0, w64 s1, w64 s2, w64 (s3 ||| bitW j)]) ∧ _
    unfold BSet.val
    go_enter Try.func91, Try.ntmps91
    go_wp2_with fail
    exact bodyPost_ret (v := .agg #[w64 s0, w64 s1, w64 s2, w64 (s3 ||| bitW j)]) (by simp [results, Try.results91, go_sem]) rfl ⟨rfl, HO.out _ _⟩

/-- The words of s, of which the first k are z's. -/
def stage4 (s z : BSet) : Nat → Array Value
  | 0 => #[w64 s.w0, w64 s.w1, w64 s.w2, w64 s.w3]
  | 1 => #[w64 z.w0, w64 s.w1, w64 s.w2, w64 s.w3]
  | 2 => #[w64 z.w0, w64 z.w1, w64 s.w2, w64 s.w3]
  | 3 => #[w64 z.w0, w64 z.w1, w64 z.w2, w64 s.w3]
  | _ => #[w64 z.w0, w64 z.w1, w64 z.w2, w64 z.w3]

set_option maxRecDepth 20000 in
set_option maxHeartbeats 800000 in
theorem negate_any (s : BSet) (w : World) :
    Calls Try.prog 87 #[s.val] w fun e w' => e = .returned (notM s).val ∧ Below w.heap.size w w' := by
  obtain ⟨z, hz⟩ : ∃ z, notM s = z := ⟨_, rfl⟩
  rw [hz]
  have k0 := u_not s.w0
  have k1 := u_not s.w1
  have k2 := u_not s.w2
  have k3 := u_not s.w3
  rw [show ~~~ s.w0 = z.w0 from by rw [← hz]; rfl] at k0
  rw [show ~~~ s.w1 = z.w1 from by rw [← hz]; rfl] at k1
  rw [show ~~~ s.w2 = z.w2 from by rw [← hz]; rfl] at k2
  rw [show ~~~ s.w3 = z.w3 from by rw [← hz]; rfl] at k3
  clear hz
  obtain ⟨s0, s1, s2, s3⟩ := s
  obtain ⟨z0, z1, z2, z3⟩ := z
  simp only at k0 k1 k2 k3
  unfold BSet.val
  go_enter Try.func87, Try.ntmps87
  go_wp2_with fail
  go_loopw [4] (fun i wr => ∃ (k : Nat), k ≤ 4 ∧ i = .int .i64 k ∧ Blk wr w.heap.size 51 (stage4 ⟨s0, s1, s2, s3⟩ ⟨z0, z1, z2, z3⟩ k) ∧ Blk wr (w.heap.size + 1) 51 #[.int .u64 0, .int .u64 0, .int .u64 0, .int .u64 0] ∧ Below w.heap.size w wr) (fun i _ => 4 - (intOf i).toNat)
  case atStart => exact ⟨0, by omega, rfl, (Blk.new w 51 #[w64 s0, w64 s1, w64 s2, w64 s3]).alloc _, by have := Blk.new (w.alloc (.cells #[w64 s0, w64 s1, w64 s2, w64 s3] 51)) 51 #[.int .u64 0, .int .u64 0, .int .u64 0, .int .u64 0]; rwa [World.size_alloc] at this, ((Below.refl _ _).alloc (Nat.le_refl _) _).alloc (by simp) _⟩
  case round =>
    obtain ⟨k, hk, rfl, hb, hb2, hbl⟩ := hrel
    have HBL := hid hbl
    have HB2 := hid hb2
    match k, hk with
    | 0, _ =>
      have c0 : wr.cell? ⟨w.heap.size, 0, none⟩ = some (w64 s0) := hb.cell 0
      have f0 := hb.frozen 0
      have HN : Hid (Blk (wr.setCell ⟨w.heap.size, 0, none⟩ (w64 z0)) w.heap.size 51 (stage4 ⟨s0, s1, s2, s3⟩ ⟨z0, z1, z2, z3⟩ 1)) := hb.set 0 (w64 z0)
      have HZ := hid (HB2.out.set_far (g' := w.heap.size) (i := 0) (u := w64 z0) (by omega))
      clear hb hb2 hbl
      go_wp2_with fail
      go_roundw
      case rel => exact ⟨1, by omega, rfl, HN.out, HZ.out, HBL.out.setCell (Nat.le_refl _) _⟩
      case measure => simp [intOf]
    | 1, _ =>
      have c0 : wr.cell? ⟨w.heap.size, 1, none⟩ = some (w64 s1) := hb.cell 1
      have f0 := hb.frozen 1
      have HN : Hid (Blk (wr.setCell ⟨w.heap.size, 1, none⟩ (w64 z1)) w.heap.size 51 (stage4 ⟨s0, s1, s2, s3⟩ ⟨z0, z1, z2, z3⟩ 2)) := hb.set 1 (w64 z1)
      have HZ := hid (HB2.out.set_far (g' := w.heap.size) (i := 1) (u := w64 z1) (by omega))
      clear hb hb2 hbl
      go_wp2_with fail
      go_roundw
      case rel => exact ⟨2, by omega, rfl, HN.out, HZ.out, HBL.out.setCell (Nat.le_refl _) _⟩
      case measure => simp [intOf]
    | 2, _ =>
      have c0 : wr.cell? ⟨w.heap.size, 2, none⟩ = some (w64 s2) := hb.cell 2
      have f0 := hb.frozen 2
      have HN : Hid (Blk (wr.setCell ⟨w.heap.size, 2, none⟩ (w64 z2)) w.heap.size 51 (stage4 ⟨s0, s1, s2, s3⟩ ⟨z0, z1, z2, z3⟩ 3)) := hb.set 2 (w64 z2)
      have HZ := hid (HB2.out.set_far (g' := w.heap.size) (i := 2) (u := w64 z2) (by omega))
      clear hb hb2 hbl
      go_wp2_with fail
      go_roundw
      case rel => exact ⟨3, by omega, rfl, HN.out, HZ.out, HBL.out.setCell (Nat.le_refl _) _⟩
      case measure => simp [intOf]
    | 3, _ =>
      have c0 : wr.cell? ⟨w.heap.size, 3, none⟩ = some (w64 s3) := hb.cell 3
      have f0 := hb.frozen 3
      have HN : Hid (Blk (wr.setCell ⟨w.heap.size, 3, none⟩ (w64 z3)) w.heap.size 51 (stage4 ⟨s0, s1, s2, s3⟩ ⟨z0, z1, z2, z3⟩ 4)) := hb.set 3 (w64 z3)
      have HZ := hid (HB2.out.set_far (g' := w.heap.size) (i := 3) (u := w64 z3) (by omega))
      clear hb hb2 hbl
      go_wp2_with fail
      go_roundw
      case rel => exact ⟨4, by omega, rfl, HN.out, HZ.out, HBL.out.setCell (Nat.le_refl _) _⟩
      case measure => simp [intOf]
    | 4, _ =>
      have c0 : wr.cell? ⟨w.heap.size, 0, none⟩ = some (w64 z0) := hb.cell 0
      have d0 : wr.cell? ⟨w.heap.size + 1, 0, none⟩ = some (.int .u64 0) := hb2.cell 0
      have f0 := hb2.frozen 0
      have e0 : ((((wr.setCell ⟨w.heap.size + 1, 0, none⟩ (w64 z0)).setCell ⟨w.heap.size + 1, 1, none⟩ (w64 z1)).setCell ⟨w.heap.size + 1, 2, none⟩ (w64 z2)).setCell ⟨w.heap.size + 1, 3, none⟩ (w64 z3)).cell? ⟨w.heap.size + 1, 0, none⟩ = some (w64 z0) := (((((hb2.set 0 (w64 z0)).set 1 (w64 z1)).set 2 (w64 z2)).set 3 (w64 z3)).cell 0)
      have c1 : wr.cell? ⟨w.heap.size, 1, none⟩ = some (w64 z1) := hb.cell 1
      have d1 : wr.cell? ⟨w.heap.size + 1, 1, none⟩ = some (.int .u64 0) := hb2.cell 1
      have f1 := hb2.frozen 1
      have e1 : ((((wr.setCell ⟨w.heap.size + 1, 0, none⟩ (w64 z0)).setCell ⟨w.heap.size + 1, 1, none⟩ (w64 z1)).setCell ⟨w.heap.size + 1, 2, none⟩ (w64 z2)).setCell ⟨w.heap.size + 1, 3, none⟩ (w64 z3)).cell? ⟨w.heap.size + 1, 1, none⟩ = some (w64 z1) := (((((hb2.set 0 (w64 z0)).set 1 (w64 z1)).set 2 (w64 z2)).set 3 (w64 z3)).cell 1)
      have c2 : wr.cell? ⟨w.heap.size, 2, none⟩ = some (w64 z2) := hb.cell 2
      have d2 : wr.cell? ⟨w.heap.size + 1, 2, none⟩ = some (.int .u64 0) := hb2.cell 2
      have f2 := hb2.frozen 2
      have e2 : ((((wr.setCell ⟨w.heap.size + 1, 0, none⟩ (w64 z0)).setCell ⟨w.heap.size + 1, 1, none⟩ (w64 z1)).setCell ⟨w.heap.size + 1, 2, none⟩ (w64 z2)).setCell ⟨w.heap.size + 1, 3, none⟩ (w64 z3)).cell? ⟨w.heap.size + 1, 2, none⟩ = some (w64 z2) := (((((hb2.set 0 (w64 z0)).set 1 (w64 z1)).set 2 (w64 z2)).set 3 (w64 z3)).cell 2)
      have c3 : wr.cell? ⟨w.heap.size, 3, none⟩ = some (w64 z3) := hb.cell 3
      have d3 : wr.cell? ⟨w.heap.size + 1, 3, none⟩ = some (.int .u64 0) := hb2.cell 3
      have f3 := hb2.frozen 3
      have e3 : ((((wr.setCell ⟨w.heap.size + 1, 0, none⟩ (w64 z0)).setCell ⟨w.heap.size + 1, 1, none⟩ (w64 z1)).setCell ⟨w.heap.size + 1, 2, none⟩ (w64 z2)).setCell ⟨w.heap.size + 1, 3, none⟩ (w64 z3)).cell? ⟨w.heap.size + 1, 3, none⟩ = some (w64 z3) := (((((hb2.set 0 (w64 z0)).set 1 (w64 z1)).set 2 (w64 z2)).set 3 (w64 z3)).cell 3)
      have HK : Hid (∀ u0 u1 u2 u3, Below w.heap.size w ((((wr.setCell ⟨w.heap.size + 1, 0, none⟩ u0).setCell ⟨w.heap.size + 1, 1, none⟩ u1).setCell ⟨w.heap.size + 1, 2, none⟩ u2).setCell ⟨w.heap.size + 1, 3, none⟩ u3)) := fun u0 u1 u2 u3 => (((HBL.out.setCell (by simp <;> omega) _).setCell (by simp <;> omega) _).setCell (by simp <;> omega) _).setCell (by simp <;> omega) _
      clear hb hb2 hbl
      go_wp2_with fail
      exact bodyPost_ret (v := .agg #[w64 z0, w64 z1, w64 z2, w64 z3]) (by simp [results, Try.results87, go_sem, e0, e1, e2, e3]) rfl ⟨rfl, HK.out _ _ _ _⟩

set_option maxRecDepth 20000 in
set_option maxHeartbeats 800000 in
theorem or_any_set (s t : BSet) (w : World) :
    Calls Try.prog 95 #[s.val, t.val] w fun e w' => e = .returned (orM s t).val ∧ Below w.heap.size w w' := by
  obtain ⟨z, hz⟩ : ∃ z, orM s t = z := ⟨_, rfl⟩
  rw [hz]
  have k0 := u_or s.w0 t.w0
  have k1 := u_or s.w1 t.w1
  have k2 := u_or s.w2 t.w2
  have k3 := u_or s.w3 t.w3
  rw [show s.w0 ||| t.w0 = z.w0 from by rw [← hz]; rfl] at k0
  rw [show s.w1 ||| t.w1 = z.w1 from by rw [← hz]; rfl] at k1
  rw [show s.w2 ||| t.w2 = z.w2 from by rw [← hz]; rfl] at k2
  rw [show s.w3 ||| t.w3 = z.w3 from by rw [← hz]; rfl] at k3
  clear hz
  obtain ⟨s0, s1, s2, s3⟩ := s
  obtain ⟨t0, t1, t2, t3⟩ := t
  obtain ⟨z0, z1, z2, z3⟩ := z
  simp only at k0 k1 k2 k3
  unfold BSet.val
  go_enter Try.func95, Try.ntmps95
  go_wp2_with fail
  go_loopw [6] (fun i wr => ∃ (k : Nat), k ≤ 4 ∧ i = .int .i64 k ∧ Blk wr w.heap.size 51 (stage4 ⟨s0, s1, s2, s3⟩ ⟨z0, z1, z2, z3⟩ k) ∧ Blk wr (w.heap.size + 1) 51 #[w64 t0, w64 t1, w64 t2, w64 t3] ∧ Blk wr (w.heap.size + 1 + 1) 51 #[.int .u64 0, .int .u64 0, .int .u64 0, .int .u64 0] ∧ Below w.heap.size w wr) (fun i _ => 4 - (intOf i).toNat)
  case atStart => exact ⟨0, by omega, rfl, ((Blk.new w 51 #[w64 s0, w64 s1, w64 s2, w64 s3]).alloc _).alloc _, by have := (Blk.new (w.alloc (.cells #[w64 s0, w64 s1, w64 s2, w64 s3] 51)) 51 #[w64 t0, w64 t1, w64 t2, w64 t3]).alloc (.cells #[.int .u64 0, .int .u64 0, .int .u64 0, .int .u64 0] 51); rwa [World.size_alloc] at this, by have := Blk.new ((w.alloc (.cells #[w64 s0, w64 s1, w64 s2, w64 s3] 51)).alloc (.cells #[w64 t0, w64 t1, w64 t2, w64 t3] 51)) 51 #[.int .u64 0, .int .u64 0, .int .u64 0, .int .u64 0]; rwa [World.size_alloc, World.size_alloc] at this, (((Below.refl _ _).alloc (Nat.le_refl _) _).alloc (by simp) _).alloc (by simp; omega) _⟩
  case round =>
    obtain ⟨k, hk, rfl, hb, ht, hb2, hbl⟩ := hrel
    have HBL := hid hbl
    have HB2 := hid hb2
    have HT := hid ht
    match k, hk with
    | 0, _ =>
      have c0 : wr.cell? ⟨w.heap.size, 0, none⟩ = some (w64 s0) := hb.cell 0
      have f0 := hb.frozen 0
      have c1 : wr.cell? ⟨w.heap.size + 1, 0, none⟩ = some (w64 t0) := ht.cell 0
      have HN : Hid (Blk (wr.setCell ⟨w.heap.size, 0, none⟩ (w64 z0)) w.heap.size 51 (stage4 ⟨s0, s1, s2, s3⟩ ⟨z0, z1, z2, z3⟩ 1)) := hb.set 0 (w64 z0)
      have HZ := hid (HB2.out.set_far (g' := w.heap.size) (i := 0) (u := w64 z0) (by omega))
      have HT2 := hid (HT.out.set_far (g' := w.heap.size) (i := 0) (u := w64 z0) (by omega))
      clear hb hb2 hbl ht
      go_wp2_with fail
      refine wp_region_tail 8 (by kernel_rfl) (by kernel_rfl) ?_
      simp only [List.take_succ_cons, List.take_zero, List.drop_succ_cons, List.drop_zero]
      repeat still_step
      refine wpStill_nil ?_
      go_wp2_with fail
      go_roundw
      case rel => exact ⟨1, by omega, rfl, HN.out, HT2.out, HZ.out, (HBL.out.setCell (Nat.le_refl _) _).trans ((drewN_below _ 1).mono (by have := HBL.out.size; simp; omega))⟩
      case measure => simp [intOf]
    | 1, _ =>
      have c0 : wr.cell? ⟨w.heap.size, 1, none⟩ = some (w64 s1) := hb.cell 1
      have f0 := hb.frozen 1
      have c1 : wr.cell? ⟨w.heap.size + 1, 1, none⟩ = some (w64 t1) := ht.cell 1
      have HN : Hid (Blk (wr.setCell ⟨w.heap.size, 1, none⟩ (w64 z1)) w.heap.size 51 (stage4 ⟨s0, s1, s2, s3⟩ ⟨z0, z1, z2, z3⟩ 2)) := hb.set 1 (w64 z1)
      have HZ := hid (HB2.out.set_far (g' := w.heap.size) (i := 1) (u := w64 z1) (by omega))
      have HT2 := hid (HT.out.set_far (g' := w.heap.size) (i := 1) (u := w64 z1) (by omega))
      clear hb hb2 hbl ht
      go_wp2_with fail
      refine wp_region_tail 8 (by kernel_rfl) (by kernel_rfl) ?_
      simp only [List.take_succ_cons, List.take_zero, List.drop_succ_cons, List.drop_zero]
      repeat still_step
      refine wpStill_nil ?_
      go_wp2_with fail
      go_roundw
      case rel => exact ⟨2, by omega, rfl, HN.out, HT2.out, HZ.out, (HBL.out.setCell (Nat.le_refl _) _).trans ((drewN_below _ 1).mono (by have := HBL.out.size; simp; omega))⟩
      case measure => simp [intOf]
    | 2, _ =>
      have c0 : wr.cell? ⟨w.heap.size, 2, none⟩ = some (w64 s2) := hb.cell 2
      have f0 := hb.frozen 2
      have c1 : wr.cell? ⟨w.heap.size + 1, 2, none⟩ = some (w64 t2) := ht.cell 2
      have HN : Hid (Blk (wr.setCell ⟨w.heap.size, 2, none⟩ (w64 z2)) w.heap.size 51 (stage4 ⟨s0, s1, s2, s3⟩ ⟨z0, z1, z2, z3⟩ 3)) := hb.set 2 (w64 z2)
      have HZ := hid (HB2.out.set_far (g' := w.heap.size) (i := 2) (u := w64 z2) (by omega))
      have HT2 := hid (HT.out.set_far (g' := w.heap.size) (i := 2) (u := w64 z2) (by omega))
      clear hb hb2 hbl ht
      go_wp2_with fail
      refine wp_region_tail 8 (by kernel_rfl) (by kernel_rfl) ?_
      simp only [List.take_succ_cons, List.take_zero, List.drop_succ_cons, List.drop_zero]
      repeat still_step
      refine wpStill_nil ?_
      go_wp2_with fail
      go_roundw
      case rel => exact ⟨3, by omega, rfl, HN.out, HT2.out, HZ.out, (HBL.out.setCell (Nat.le_refl _) _).trans ((drewN_below _ 1).mono (by have := HBL.out.size; simp; omega))⟩
      case measure => simp [intOf]
    | 3, _ =>
      have c0 : wr.cell? ⟨w.heap.size, 3, none⟩ = some (w64 s3) := hb.cell 3
      have f0 := hb.frozen 3
      have c1 : wr.cell? ⟨w.heap.size + 1, 3, none⟩ = some (w64 t3) := ht.cell 3
      have HN : Hid (Blk (wr.setCell ⟨w.heap.size, 3, none⟩ (w64 z3)) w.heap.size 51 (stage4 ⟨s0, s1, s2, s3⟩ ⟨z0, z1, z2, z3⟩ 4)) := hb.set 3 (w64 z3)
      have HZ := hid (HB2.out.set_far (g' := w.heap.size) (i := 3) (u := w64 z3) (by omega))
      have HT2 := hid (HT.out.set_far (g' := w.heap.size) (i := 3) (u := w64 z3) (by omega))
      clear hb hb2 hbl ht
      go_wp2_with fail
      refine wp_region_tail 8 (by kernel_rfl) (by kernel_rfl) ?_
      simp only [List.take_succ_cons, List.take_zero, List.drop_succ_cons, List.drop_zero]
      repeat still_step
      refine wpStill_nil ?_
      go_wp2_with fail
      go_roundw
      case rel => exact ⟨4, by omega, rfl, HN.out, HT2.out, HZ.out, (HBL.out.setCell (Nat.le_refl _) _).trans ((drewN_below _ 1).mono (by have := HBL.out.size; simp; omega))⟩
      case measure => simp [intOf]
    | 4, _ =>
      have c0 : wr.cell? ⟨w.heap.size, 0, none⟩ = some (w64 z0) := hb.cell 0
      have d0 : wr.cell? ⟨w.heap.size + 1 + 1, 0, none⟩ = some (.int .u64 0) := hb2.cell 0
      have f0 := hb2.frozen 0
      have e0 : ((((wr.setCell ⟨w.heap.size + 1 + 1, 0, none⟩ (w64 z0)).setCell ⟨w.heap.size + 1 + 1, 1, none⟩ (w64 z1)).setCell ⟨w.heap.size + 1 + 1, 2, none⟩ (w64 z2)).setCell ⟨w.heap.size + 1 + 1, 3, none⟩ (w64 z3)).cell? ⟨w.heap.size + 1 + 1, 0, none⟩ = some (w64 z0) := (((((hb2.set 0 (w64 z0)).set 1 (w64 z1)).set 2 (w64 z2)).set 3 (w64 z3)).cell 0)
      have c1 : wr.cell? ⟨w.heap.size, 1, none⟩ = some (w64 z1) := hb.cell 1
      have d1 : wr.cell? ⟨w.heap.size + 1 + 1, 1, none⟩ = some (.int .u64 0) := hb2.cell 1
      have f1 := hb2.frozen 1
      have e1 : ((((wr.setCell ⟨w.heap.size + 1 + 1, 0, none⟩ (w64 z0)).setCell ⟨w.heap.size + 1 + 1, 1, none⟩ (w64 z1)).setCell ⟨w.heap.size + 1 + 1, 2, none⟩ (w64 z2)).setCell ⟨w.heap.size + 1 + 1, 3, none⟩ (w64 z3)).cell? ⟨w.heap.size + 1 + 1, 1, none⟩ = some (w64 z1) := (((((hb2.set 0 (w64 z0)).set 1 (w64 z1)).set 2 (w64 z2)).set 3 (w64 z3)).cell 1)
      have c2 : wr.cell? ⟨w.heap.size, 2, none⟩ = some (w64 z2) := hb.cell 2
      have d2 : wr.cell? ⟨w.heap.size + 1 + 1, 2, none⟩ = some (.int .u64 0) := hb2.cell 2
      have f2 := hb2.frozen 2
      have e2 : ((((wr.setCell ⟨w.heap.size + 1 + 1, 0, none⟩ (w64 z0)).setCell ⟨w.heap.size + 1 + 1, 1, none⟩ (w64 z1)).setCell ⟨w.heap.size + 1 + 1, 2, none⟩ (w64 z2)).setCell ⟨w.heap.size + 1 + 1, 3, none⟩ (w64 z3)).cell? ⟨w.heap.size + 1 + 1, 2, none⟩ = some (w64 z2) := (((((hb2.set 0 (w64 z0)).set 1 (w64 z1)).set 2 (w64 z2)).set 3 (w64 z3)).cell 2)
      have c3 : wr.cell? ⟨w.heap.size, 3, none⟩ = some (w64 z3) := hb.cell 3
      have d3 : wr.cell? ⟨w.heap.size + 1 + 1, 3, none⟩ = some (.int .u64 0) := hb2.cell 3
      have f3 := hb2.frozen 3
      have e3 : ((((wr.setCell ⟨w.heap.size + 1 + 1, 0, none⟩ (w64 z0)).setCell ⟨w.heap.size + 1 + 1, 1, none⟩ (w64 z1)).setCell ⟨w.heap.size + 1 + 1, 2, none⟩ (w64 z2)).setCell ⟨w.heap.size + 1 + 1, 3, none⟩ (w64 z3)).cell? ⟨w.heap.size + 1 + 1, 3, none⟩ = some (w64 z3) := (((((hb2.set 0 (w64 z0)).set 1 (w64 z1)).set 2 (w64 z2)).set 3 (w64 z3)).cell 3)
      have HK : Hid (∀ u0 u1 u2 u3, Below w.heap.size w ((((wr.setCell ⟨w.heap.size + 1 + 1, 0, none⟩ u0).setCell ⟨w.heap.size + 1 + 1, 1, none⟩ u1).setCell ⟨w.heap.size + 1 + 1, 2, none⟩ u2).setCell ⟨w.heap.size + 1 + 1, 3, none⟩ u3)) := fun u0 u1 u2 u3 => (((HBL.out.setCell (by simp <;> omega) _).setCell (by simp <;> omega) _).setCell (by simp <;> omega) _).setCell (by simp <;> omega) _
      clear hb hb2 hbl ht
      go_wp2_with fail
      exact bodyPost_ret (v := .agg #[w64 z0, w64 z1, w64 z2, w64 z3]) (by simp [results, Try.results95, go_sem, e0, e1, e2, e3]) rfl ⟨rfl, HK.out _ _ _ _⟩

set_option maxRecDepth 20000 in
set_option maxHeartbeats 800000 in
theorem and_any_set (s t : BSet) (w : World) :
    Calls Try.prog 43 #[s.val, t.val] w fun e w' => e = .returned (andM s t).val ∧ Below w.heap.size w w' := by
  obtain ⟨z, hz⟩ : ∃ z, andM s t = z := ⟨_, rfl⟩
  rw [hz]
  have k0 := u_and s.w0 t.w0
  have k1 := u_and s.w1 t.w1
  have k2 := u_and s.w2 t.w2
  have k3 := u_and s.w3 t.w3
  rw [show s.w0 &&& t.w0 = z.w0 from by rw [← hz]; rfl] at k0
  rw [show s.w1 &&& t.w1 = z.w1 from by rw [← hz]; rfl] at k1
  rw [show s.w2 &&& t.w2 = z.w2 from by rw [← hz]; rfl] at k2
  rw [show s.w3 &&& t.w3 = z.w3 from by rw [← hz]; rfl] at k3
  clear hz
  obtain ⟨s0, s1, s2, s3⟩ := s
  obtain ⟨t0, t1, t2, t3⟩ := t
  obtain ⟨z0, z1, z2, z3⟩ := z
  simp only at k0 k1 k2 k3
  unfold BSet.val
  go_enter Try.func43, Try.ntmps43
  go_wp2_with fail
  go_loopw [6] (fun i wr => ∃ (k : Nat), k ≤ 4 ∧ i = .int .i64 k ∧ Blk wr w.heap.size 51 (stage4 ⟨s0, s1, s2, s3⟩ ⟨z0, z1, z2, z3⟩ k) ∧ Blk wr (w.heap.size + 1) 51 #[w64 t0, w64 t1, w64 t2, w64 t3] ∧ Blk wr (w.heap.size + 1 + 1) 51 #[.int .u64 0, .int .u64 0, .int .u64 0, .int .u64 0] ∧ Below w.heap.size w wr) (fun i _ => 4 - (intOf i).toNat)
  case atStart => exact ⟨0, by omega, rfl, ((Blk.new w 51 #[w64 s0, w64 s1, w64 s2, w64 s3]).alloc _).alloc _, by have := (Blk.new (w.alloc (.cells #[w64 s0, w64 s1, w64 s2, w64 s3] 51)) 51 #[w64 t0, w64 t1, w64 t2, w64 t3]).alloc (.cells #[.int .u64 0, .int .u64 0, .int .u64 0, .int .u64 0] 51); rwa [World.size_alloc] at this, by have := Blk.new ((w.alloc (.cells #[w64 s0, w64 s1, w64 s2, w64 s3] 51)).alloc (.cells #[w64 t0, w64 t1, w64 t2, w64 t3] 51)) 51 #[.int .u64 0, .int .u64 0, .int .u64 0, .int .u64 0]; rwa [World.size_alloc, World.size_alloc] at this, (((Below.refl _ _).alloc (Nat.le_refl _) _).alloc (by simp) _).alloc (by simp; omega) _⟩
  case round =>
    obtain ⟨k, hk, rfl, hb, ht, hb2, hbl⟩ := hrel
    have HBL := hid hbl
    have HB2 := hid hb2
    have HT := hid ht
    match k, hk with
    | 0, _ =>
      have c0 : wr.cell? ⟨w.heap.size, 0, none⟩ = some (w64 s0) := hb.cell 0
      have f0 := hb.frozen 0
      have c1 : wr.cell? ⟨w.heap.size + 1, 0, none⟩ = some (w64 t0) := ht.cell 0
      have HN : Hid (Blk (wr.setCell ⟨w.heap.size, 0, none⟩ (w64 z0)) w.heap.size 51 (stage4 ⟨s0, s1, s2, s3⟩ ⟨z0, z1, z2, z3⟩ 1)) := hb.set 0 (w64 z0)
      have HZ := hid (HB2.out.set_far (g' := w.heap.size) (i := 0) (u := w64 z0) (by omega))
      have HT2 := hid (HT.out.set_far (g' := w.heap.size) (i := 0) (u := w64 z0) (by omega))
      clear hb hb2 hbl ht
      go_wp2_with fail
      refine wp_region_tail 8 (by kernel_rfl) (by kernel_rfl) ?_
      simp only [List.take_succ_cons, List.take_zero, List.drop_succ_cons, List.drop_zero]
      repeat still_step
      refine wpStill_nil ?_
      go_wp2_with fail
      go_roundw
      case rel => exact ⟨1, by omega, rfl, HN.out, HT2.out, HZ.out, (HBL.out.setCell (Nat.le_refl _) _).trans ((drewN_below _ 1).mono (by have := HBL.out.size; simp; omega))⟩
      case measure => simp [intOf]
    | 1, _ =>
      have c0 : wr.cell? ⟨w.heap.size, 1, none⟩ = some (w64 s1) := hb.cell 1
      have f0 := hb.frozen 1
      have c1 : wr.cell? ⟨w.heap.size + 1, 1, none⟩ = some (w64 t1) := ht.cell 1
      have HN : Hid (Blk (wr.setCell ⟨w.heap.size, 1, none⟩ (w64 z1)) w.heap.size 51 (stage4 ⟨s0, s1, s2, s3⟩ ⟨z0, z1, z2, z3⟩ 2)) := hb.set 1 (w64 z1)
      have HZ := hid (HB2.out.set_far (g' := w.heap.size) (i := 1) (u := w64 z1) (by omega))
      have HT2 := hid (HT.out.set_far (g' := w.heap.size) (i := 1) (u := w64 z1) (by omega))
      clear hb hb2 hbl ht
      go_wp2_with fail
      refine wp_region_tail 8 (by kernel_rfl) (by kernel_rfl) ?_
      simp only [List.take_succ_cons, List.take_zero, List.drop_succ_cons, List.drop_zero]
      repeat still_step
      refine wpStill_nil ?_
      go_wp2_with fail
      go_roundw
      case rel => exact ⟨2, by omega, rfl, HN.out, HT2.out, HZ.out, (HBL.out.setCell (Nat.le_refl _) _).trans ((drewN_below _ 1).mono (by have := HBL.out.size; simp; omega))⟩
      case measure => simp [intOf]
    | 2, _ =>
      have c0 : wr.cell? ⟨w.heap.size, 2, none⟩ = some (w64 s2) := hb.cell 2
      have f0 := hb.frozen 2
      have c1 : wr.cell? ⟨w.heap.size + 1, 2, none⟩ = some (w64 t2) := ht.cell 2
      have HN : Hid (Blk (wr.setCell ⟨w.heap.size, 2, none⟩ (w64 z2)) w.heap.size 51 (stage4 ⟨s0, s1, s2, s3⟩ ⟨z0, z1, z2, z3⟩ 3)) := hb.set 2 (w64 z2)
      have HZ := hid (HB2.out.set_far (g' := w.heap.size) (i := 2) (u := w64 z2) (by omega))
      have HT2 := hid (HT.out.set_far (g' := w.heap.size) (i := 2) (u := w64 z2) (by omega))
      clear hb hb2 hbl ht
      go_wp2_with fail
      refine wp_region_tail 8 (by kernel_rfl) (by kernel_rfl) ?_
      simp only [List.take_succ_cons, List.take_zero, List.drop_succ_cons, List.drop_zero]
      repeat still_step
      refine wpStill_nil ?_
      go_wp2_with fail
      go_roundw
      case rel => exact ⟨3, by omega, rfl, HN.out, HT2.out, HZ.out, (HBL.out.setCell (Nat.le_refl _) _).trans ((drewN_below _ 1).mono (by have := HBL.out.size; simp; omega))⟩
      case measure => simp [intOf]
    | 3, _ =>
      have c0 : wr.cell? ⟨w.heap.size, 3, none⟩ = some (w64 s3) := hb.cell 3
      have f0 := hb.frozen 3
      have c1 : wr.cell? ⟨w.heap.size + 1, 3, none⟩ = some (w64 t3) := ht.cell 3
      have HN : Hid (Blk (wr.setCell ⟨w.heap.size, 3, none⟩ (w64 z3)) w.heap.size 51 (stage4 ⟨s0, s1, s2, s3⟩ ⟨z0, z1, z2, z3⟩ 4)) := hb.set 3 (w64 z3)
      have HZ := hid (HB2.out.set_far (g' := w.heap.size) (i := 3) (u := w64 z3) (by omega))
      have HT2 := hid (HT.out.set_far (g' := w.heap.size) (i := 3) (u := w64 z3) (by omega))
      clear hb hb2 hbl ht
      go_wp2_with fail
      refine wp_region_tail 8 (by kernel_rfl) (by kernel_rfl) ?_
      simp only [List.take_succ_cons, List.take_zero, List.drop_succ_cons, List.drop_zero]
      repeat still_step
      refine wpStill_nil ?_
      go_wp2_with fail
      go_roundw
      case rel => exact ⟨4, by omega, rfl, HN.out, HT2.out, HZ.out, (HBL.out.setCell (Nat.le_refl _) _).trans ((drewN_below _ 1).mono (by have := HBL.out.size; simp; omega))⟩
      case measure => simp [intOf]
    | 4, _ =>
      have c0 : wr.cell? ⟨w.heap.size, 0, none⟩ = some (w64 z0) := hb.cell 0
      have d0 : wr.cell? ⟨w.heap.size + 1 + 1, 0, none⟩ = some (.int .u64 0) := hb2.cell 0
      have f0 := hb2.frozen 0
      have e0 : ((((wr.setCell ⟨w.heap.size + 1 + 1, 0, none⟩ (w64 z0)).setCell ⟨w.heap.size + 1 + 1, 1, none⟩ (w64 z1)).setCell ⟨w.heap.size + 1 + 1, 2, none⟩ (w64 z2)).setCell ⟨w.heap.size + 1 + 1, 3, none⟩ (w64 z3)).cell? ⟨w.heap.size + 1 + 1, 0, none⟩ = some (w64 z0) := (((((hb2.set 0 (w64 z0)).set 1 (w64 z1)).set 2 (w64 z2)).set 3 (w64 z3)).cell 0)
      have c1 : wr.cell? ⟨w.heap.size, 1, none⟩ = some (w64 z1) := hb.cell 1
      have d1 : wr.cell? ⟨w.heap.size + 1 + 1, 1, none⟩ = some (.int .u64 0) := hb2.cell 1
      have f1 := hb2.frozen 1
      have e1 : ((((wr.setCell ⟨w.heap.size + 1 + 1, 0, none⟩ (w64 z0)).setCell ⟨w.heap.size + 1 + 1, 1, none⟩ (w64 z1)).setCell ⟨w.heap.size + 1 + 1, 2, none⟩ (w64 z2)).setCell ⟨w.heap.size + 1 + 1, 3, none⟩ (w64 z3)).cell? ⟨w.heap.size + 1 + 1, 1, none⟩ = some (w64 z1) := (((((hb2.set 0 (w64 z0)).set 1 (w64 z1)).set 2 (w64 z2)).set 3 (w64 z3)).cell 1)
      have c2 : wr.cell? ⟨w.heap.size, 2, none⟩ = some (w64 z2) := hb.cell 2
      have d2 : wr.cell? ⟨w.heap.size + 1 + 1, 2, none⟩ = some (.int .u64 0) := hb2.cell 2
      have f2 := hb2.frozen 2
      have e2 : ((((wr.setCell ⟨w.heap.size + 1 + 1, 0, none⟩ (w64 z0)).setCell ⟨w.heap.size + 1 + 1, 1, none⟩ (w64 z1)).setCell ⟨w.heap.size + 1 + 1, 2, none⟩ (w64 z2)).setCell ⟨w.heap.size + 1 + 1, 3, none⟩ (w64 z3)).cell? ⟨w.heap.size + 1 + 1, 2, none⟩ = some (w64 z2) := (((((hb2.set 0 (w64 z0)).set 1 (w64 z1)).set 2 (w64 z2)).set 3 (w64 z3)).cell 2)
      have c3 : wr.cell? ⟨w.heap.size, 3, none⟩ = some (w64 z3) := hb.cell 3
      have d3 : wr.cell? ⟨w.heap.size + 1 + 1, 3, none⟩ = some (.int .u64 0) := hb2.cell 3
      have f3 := hb2.frozen 3
      have e3 : ((((wr.setCell ⟨w.heap.size + 1 + 1, 0, none⟩ (w64 z0)).setCell ⟨w.heap.size + 1 + 1, 1, none⟩ (w64 z1)).setCell ⟨w.heap.size + 1 + 1, 2, none⟩ (w64 z2)).setCell ⟨w.heap.size + 1 + 1, 3, none⟩ (w64 z3)).cell? ⟨w.heap.size + 1 + 1, 3, none⟩ = some (w64 z3) := (((((hb2.set 0 (w64 z0)).set 1 (w64 z1)).set 2 (w64 z2)).set 3 (w64 z3)).cell 3)
      have HK : Hid (∀ u0 u1 u2 u3, Below w.heap.size w ((((wr.setCell ⟨w.heap.size + 1 + 1, 0, none⟩ u0).setCell ⟨w.heap.size + 1 + 1, 1, none⟩ u1).setCell ⟨w.heap.size + 1 + 1, 2, none⟩ u2).setCell ⟨w.heap.size + 1 + 1, 3, none⟩ u3)) := fun u0 u1 u2 u3 => (((HBL.out.setCell (by simp <;> omega) _).setCell (by simp <;> omega) _).setCell (by simp <;> omega) _).setCell (by simp <;> omega) _
      clear hb hb2 hbl ht
      go_wp2_with fail
      exact bodyPost_ret (v := .agg #[w64 z0, w64 z1, w64 z2, w64 z3]) (by simp [results, Try.results43, go_sem, e0, e1, e2, e3]) rfl ⟨rfl, HK.out _ _ _ _⟩
end Go.Proofs.Ytdhoedohchbagaa
