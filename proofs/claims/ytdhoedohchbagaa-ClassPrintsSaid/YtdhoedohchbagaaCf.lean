/- Walks: class.Of, Span, Not, Or, Len, list, Bytes. -/
import Derived.Test.YtdhoedohchbagaaCe
namespace Go.Proofs.Ytdhoedohchbagaa
open Go.RowKit PopT

set_option maxRecDepth 20000 in
set_option maxHeartbeats 800000 in
theorem of_any_set (s : ByteArray) (w : World) (hs : s.size ≤ 1000000) :
    Calls Try.prog 35 #[.string s] w fun e w' => e = .returned (setOf s.data.toList).val ∧ Below w.heap.size w w' := by
  obtain ⟨t, ht⟩ : ∃ t, setOf s.data.toList = t := ⟨_, rfl⟩
  rw [ht]
  obtain ⟨r0, r1, r2, r3⟩ := t
  have HFIN := hid ht
  unfold BSet.val
  clear ht
  go_enter Try.func35, Try.ntmps35
  go_wp2_with fail
  go_loopw [7] (fun i wr => ∃ (k : Nat), k ≤ s.size ∧ i = .int .i64 (k : Int) ∧ Blk wr (w.heap.size + 1) 51 #[w64 (setOf (s.data.toList.take k)).w0, w64 (setOf (s.data.toList.take k)).w1, w64 (setOf (s.data.toList.take k)).w2, w64 (setOf (s.data.toList.take k)).w3] ∧
      Blk wr w.heap.size 51 #[.int .u64 0, .int .u64 0, .int .u64 0, .int .u64 0] ∧ Below w.heap.size w wr) (fun i _ => s.size - (intOf i).toNat)
  case atStart => exact ⟨0, by omega, rfl, by have := Blk.new (w.alloc (.cells #[.int .u64 0, .int .u64 0, .int .u64 0, .int .u64 0] 51)) 51 #[.int .u64 0, .int .u64 0, .int .u64 0, .int .u64 0]; rwa [World.size_alloc] at this, (Blk.new w _ _).alloc _, ((Below.refl _ _).alloc (Nat.le_refl _) _).alloc (by simp) _⟩
  case round =>
    obtain ⟨k, hk, rfl, h1, h0, hbl⟩ := hrel
    have H1 := hid h1; have H0 := hid h0; have HB := hid hbl
    clear h1 h0 hbl
    by_cases hlt : k < s.size
    · have hkl : k < s.data.toList.length := by simpa using hlt
      have HST : Hid (setOf (s.data.toList.take (k + 1)) = withM (setOf (s.data.toList.take k)) (s[k]).toNat) := by
        rw [Hid, List.take_succ_eq_append_getElem hkl, setOf_snoc]; rfl
      obtain ⟨c0, c1, c2, c3, f0, f1, f2, f3⟩ := blk4 H1.out
      obtain ⟨x, hx⟩ : ∃ x, setOf (s.data.toList.take k) = x := ⟨_, rfl⟩
      rw [hx] at c0 c1 c2 c3 HST
      have HW := fun W => with_any x (s[k]).toNat (s[k]).toNat_lt W
      obtain ⟨t, ht⟩ : ∃ t, withM x (s[k]).toNat = t := ⟨_, rfl⟩
      rw [ht] at HST
      simp only [ht] at HW
      unfold BSet.val at HW
      obtain ⟨s0, s1, s2, s3⟩ := x
      obtain ⟨t0, t1, t2, t3⟩ := t
      have HWW := hid HW
      clear hx ht HW
      go_wp2_with fail
      refine wp_region_tail 4 (by kernel_rfl) (by kernel_rfl) ?_
      simp only [List.take_succ_cons, List.take_zero, List.drop_succ_cons, List.drop_zero]
      repeat still_step
      refine wpStill_nil ?_
      go_wp2_with fail
      refine (HWW.out _).mono ?_
      rintro e w2 ⟨rfl, hb2'⟩
      have hb2 := below_drewN hb2'
      have H1b := hid (H1.out.below hb2 H1.out.lt)
      have H0b := hid (H0.out.below hb2 H0.out.lt)
      have HB2 := hid (HB.out.trans (hb2.mono HB.out.size))
      obtain ⟨d0, d1, d2, d3, g0, g1, g2, g3⟩ := blk4 H1b.out
      have HP := hid (blk_put4 (b0 := w64 t0) (b1 := w64 t1) (b2 := w64 t2) (b3 := w64 t3) H1b.out)
      have HQ := hid (blk_far4 (g' := w.heap.size + 1) (b0 := w64 t0) (b1 := w64 t1) (b2 := w64 t2) (b3 := w64 t3) H0b.out (by omega))
      have HR := hid (below_put4 (g := w.heap.size + 1) HB2.out (by omega) (w64 t0) (w64 t1) (w64 t2) (w64 t3))
      clear hb2 hb2' HWW c0 c1 c2 c3 f0 f1 f2 f3 H1b H0b HB2
      go_wp2_with fail
      go_roundw
      case rel => exact ⟨k + 1, by omega, by go_num, by rw [HST.out]; exact HP.out, HQ.out, HR.out⟩
      case measure => simp [intOf]; omega
    · obtain rfl : s.size = k := by omega
      rw [List.take_of_length_le (by simp), HFIN.out] at H1
      simp only at H1
      obtain ⟨c0, c1, c2, c3, f0, f1, f2, f3⟩ := blk4 H1.out
      obtain ⟨d0, d1, d2, d3, g0, g1, g2, g3⟩ := blk4 H0.out
      have HP := hid (blk_put4 (b0 := w64 r0) (b1 := w64 r1) (b2 := w64 r2) (b3 := w64 r3) H0.out)
      obtain ⟨e0, e1, e2, e3, -, -, -, -⟩ := blk4 HP.out
      have HR := hid (below_put4 (g := w.heap.size) HB.out (Nat.le_refl _) (w64 r0) (w64 r1) (w64 r2) (w64 r3))
      go_wp2_with fail
      exact bodyPost_ret (v := .agg #[w64 r0, w64 r1, w64 r2, w64 r3]) (by simp [results, Try.results35, go_sem, e0, e1, e2, e3]) rfl ⟨rfl, HR.out⟩

set_option maxRecDepth 20000 in
set_option maxHeartbeats 400000 in
theorem spanC_any (a : Nat) (b : Nat) (ha : a < 256) (hb : b < 256) (w : World) :
    Calls Try.prog 37 #[.int .u8 (a : Int), .int .u8 (b : Int)] w fun e w' => e = .returned (spanTo a (b + 1 - a)).val ∧ Below w.heap.size w w' := by
  have HC := hid (fun W => span_any a b ha hb W)
  obtain ⟨z, hz⟩ : ∃ z, spanTo a (b + 1 - a) = z := ⟨_, rfl⟩
  simp only [hz] at HC ⊢
  obtain ⟨z0, z1, z2, z3⟩ := z
  unfold BSet.val at *
  clear hz
  have H00 : Hid (Blk (w.alloc (.cells #[.int .u64 0, .int .u64 0, .int .u64 0, .int .u64 0] 51)) (w.heap.size) 51 #[.int .u64 0, .int .u64 0, .int .u64 0, .int .u64 0]) := by
    have := Blk.new w 51 #[.int .u64 0, .int .u64 0, .int .u64 0, .int .u64 0]
    first | exact this | (simp only [World.size_alloc] at this; exact this)
  have HB0 : Hid (Below w.heap.size w (w.alloc (.cells #[.int .u64 0, .int .u64 0, .int .u64 0, .int .u64 0] 51))) := (Below.refl w.heap.size w).alloc (by simp <;> omega) _
  go_enter Try.func37, Try.ntmps37
  go_wp2_with fail
  refine (HC.out _).mono ?_
  rintro e w2 ⟨rfl, hb2⟩
  have H0 := H00.out.below hb2 H00.out.lt
  obtain ⟨d0, d1, d2, d3, g0, g1, g2, g3⟩ := blk4 H0
  obtain ⟨e0, e1, e2, e3, -, -, -, -⟩ := blk4 (blk_put4 (b0 := w64 z0) (b1 := w64 z1) (b2 := w64 z2) (b3 := w64 z3) H0)
  have HR := hid (below_put4 (g := w.heap.size) (HB0.out.trans (hb2.mono HB0.out.size)) (by omega) (w64 z0) (w64 z1) (w64 z2) (w64 z3))
  clear hb2 H0 HC
  go_wp2_with fail
  exact bodyPost_ret (v := .agg #[w64 z0, w64 z1, w64 z2, w64 z3]) (by simp [results, Try.results37, go_sem, e0, e1, e2, e3]) rfl ⟨rfl, HR.out⟩

set_option maxRecDepth 20000 in
set_option maxHeartbeats 400000 in
theorem notC_any (s : BSet) (w : World) :
    Calls Try.prog 39 #[s.val] w fun e w' => e = .returned (notM s).val ∧ Below w.heap.size w w' := by
  have HC := hid (fun W => negate_any s W)
  obtain ⟨z, hz⟩ : ∃ z, notM s = z := ⟨_, rfl⟩
  simp only [hz] at HC ⊢
  obtain ⟨z0, z1, z2, z3⟩ := z
  obtain ⟨s0, s1, s2, s3⟩ := s
  unfold BSet.val at *
  clear hz
  have H00 : Hid (Blk ((w.alloc (.cells #[w64 s0, w64 s1, w64 s2, w64 s3] 51)).alloc (.cells #[.int .u64 0, .int .u64 0, .int .u64 0, .int .u64 0] 51)) (w.heap.size + 1) 51 #[.int .u64 0, .int .u64 0, .int .u64 0, .int .u64 0]) := by
    have := Blk.new (w.alloc (.cells #[w64 s0, w64 s1, w64 s2, w64 s3] 51)) 51 #[.int .u64 0, .int .u64 0, .int .u64 0, .int .u64 0]
    first | exact this | (simp only [World.size_alloc] at this; exact this)
  have HB0 : Hid (Below w.heap.size w ((w.alloc (.cells #[w64 s0, w64 s1, w64 s2, w64 s3] 51)).alloc (.cells #[.int .u64 0, .int .u64 0, .int .u64 0, .int .u64 0] 51))) := ((Below.refl w.heap.size w).alloc (by simp <;> omega) (.cells #[w64 s0, w64 s1, w64 s2, w64 s3] 51)).alloc (by simp <;> omega) _
  go_enter Try.func39, Try.ntmps39
  go_wp2_with fail
  refine (HC.out _).mono ?_
  rintro e w2 ⟨rfl, hb2⟩
  have H0 := H00.out.below hb2 H00.out.lt
  obtain ⟨d0, d1, d2, d3, g0, g1, g2, g3⟩ := blk4 H0
  obtain ⟨e0, e1, e2, e3, -, -, -, -⟩ := blk4 (blk_put4 (b0 := w64 z0) (b1 := w64 z1) (b2 := w64 z2) (b3 := w64 z3) H0)
  have HR := hid (below_put4 (g := w.heap.size + 1) (HB0.out.trans (hb2.mono HB0.out.size)) (by omega) (w64 z0) (w64 z1) (w64 z2) (w64 z3))
  clear hb2 H0 HC
  go_wp2_with fail
  exact bodyPost_ret (v := .agg #[w64 z0, w64 z1, w64 z2, w64 z3]) (by simp [results, Try.results39, go_sem, e0, e1, e2, e3]) rfl ⟨rfl, HR.out⟩

set_option maxRecDepth 20000 in
set_option maxHeartbeats 400000 in
theorem orC_any (s : BSet) (t : BSet) (w : World) :
    Calls Try.prog 41 #[s.val, t.val] w fun e w' => e = .returned (orM s t).val ∧ Below w.heap.size w w' := by
  have HC := hid (fun W => or_any_set s t W)
  obtain ⟨z, hz⟩ : ∃ z, orM s t = z := ⟨_, rfl⟩
  simp only [hz] at HC ⊢
  obtain ⟨z0, z1, z2, z3⟩ := z
  obtain ⟨s0, s1, s2, s3⟩ := s
  obtain ⟨t0, t1, t2, t3⟩ := t
  unfold BSet.val at *
  clear hz
  have H00 : Hid (Blk (((w.alloc (.cells #[w64 s0, w64 s1, w64 s2, w64 s3] 51)).alloc (.cells #[w64 t0, w64 t1, w64 t2, w64 t3] 51)).alloc (.cells #[.int .u64 0, .int .u64 0, .int .u64 0, .int .u64 0] 51)) (w.heap.size + 1 + 1) 51 #[.int .u64 0, .int .u64 0, .int .u64 0, .int .u64 0]) := by
    have := Blk.new ((w.alloc (.cells #[w64 s0, w64 s1, w64 s2, w64 s3] 51)).alloc (.cells #[w64 t0, w64 t1, w64 t2, w64 t3] 51)) 51 #[.int .u64 0, .int .u64 0, .int .u64 0, .int .u64 0]
    first | exact this | (simp only [World.size_alloc] at this; exact this)
  have HB0 : Hid (Below w.heap.size w (((w.alloc (.cells #[w64 s0, w64 s1, w64 s2, w64 s3] 51)).alloc (.cells #[w64 t0, w64 t1, w64 t2, w64 t3] 51)).alloc (.cells #[.int .u64 0, .int .u64 0, .int .u64 0, .int .u64 0] 51))) := (((Below.refl w.heap.size w).alloc (by simp <;> omega) (.cells #[w64 s0, w64 s1, w64 s2, w64 s3] 51)).alloc (by simp <;> omega) (.cells #[w64 t0, w64 t1, w64 t2, w64 t3] 51)).alloc (by simp <;> omega) _
  go_enter Try.func41, Try.ntmps41
  go_wp2_with fail
  refine (HC.out _).mono ?_
  rintro e w2 ⟨rfl, hb2⟩
  have H0 := H00.out.below hb2 H00.out.lt
  obtain ⟨d0, d1, d2, d3, g0, g1, g2, g3⟩ := blk4 H0
  obtain ⟨e0, e1, e2, e3, -, -, -, -⟩ := blk4 (blk_put4 (b0 := w64 z0) (b1 := w64 z1) (b2 := w64 z2) (b3 := w64 z3) H0)
  have HR := hid (below_put4 (g := w.heap.size + 1 + 1) (HB0.out.trans (hb2.mono HB0.out.size)) (by omega) (w64 z0) (w64 z1) (w64 z2) (w64 z3))
  clear hb2 H0 HC
  go_wp2_with fail
  exact bodyPost_ret (v := .agg #[w64 z0, w64 z1, w64 z2, w64 z3]) (by simp [results, Try.results41, go_sem, e0, e1, e2, e3]) rfl ⟨rfl, HR.out⟩

theorem lenC_any (s : BSet) (w : World) :
    Calls Try.prog 48 #[s.val] w fun e w' => e = .returned (.int .i64 ((bytesM s).length : Int)) ∧ Below w.heap.size w w' := by
  have HC := hid (fun W => size_any s W)
  obtain ⟨q, hq⟩ : ∃ q, (bytesM s).length = q := ⟨_, rfl⟩
  simp only [hq] at HC ⊢
  obtain ⟨s0, s1, s2, s3⟩ := s
  unfold BSet.val at *
  clear hq
  go_enter Try.func48, Try.ntmps48
  go_wp2_with fail
  refine (HC.out _).mono ?_
  rintro e w2 ⟨rfl, hb2⟩
  have HB := hid (((Below.refl w.heap.size w).alloc (Nat.le_refl _) _).trans (hb2.mono (by simp)))
  clear hb2 HC
  go_wp2_with fail
  go_ret
  exact ⟨rfl, HB.out⟩
end Go.Proofs.Ytdhoedohchbagaa
