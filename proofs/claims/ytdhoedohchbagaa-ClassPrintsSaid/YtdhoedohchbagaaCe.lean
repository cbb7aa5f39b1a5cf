/- Sets of bytes: spans, the set of a text, all bytes: plain laws and walks: class.span, Span, Of, Not, Or, Len. -/
import Derived.Test.YtdhoedohchbagaaCd
namespace Go.Proofs.Ytdhoedohchbagaa
open Go.RowKit PopT

def spanTo (a : Nat) : Nat → BSet
  | 0 => BSet.zero
  | k + 1 => withM (spanTo a k) (a + k)
theorem has_spanTo (a k c : Nat) (h : a + k ≤ 256) (hc : c < 256) : (spanTo a k).has c = decide (a ≤ c ∧ c < a + k) := by
  induction k with
  | zero => rw [spanTo, has_zero]; symm; rw [decide_eq_false_iff_not]; omega
  | succ k ih =>
    rw [spanTo, has_with _ _ _ (by omega) hc, ih (by omega), Bool.eq_iff_iff]
    simp; omega
def setOf (l : List UInt8) : BSet := l.foldl (fun s c => withM s c.toNat) BSet.zero
theorem setOf_snoc (l : List UInt8) (c : UInt8) : setOf (l ++ [c]) = withM (setOf l) c.toNat := by unfold setOf; rw [List.foldl_append]; rfl
theorem has_setOf (l : List UInt8) (b : Nat) (hb : b < 256) : (setOf l).has b = l.any (fun c => c.toNat == b) := by
  have : ∀ (s : BSet), (l.foldl (fun s c => withM s c.toNat) s).has b = (s.has b || l.any (fun c => c.toNat == b)) := by
    induction l with
    | nil => intro s; simp
    | cons c l ih =>
      intro s
      rw [List.foldl_cons, ih, has_with _ _ _ c.toNat_lt hb, List.any_cons, Bool.or_assoc]
      congr 2
      rw [Bool.eq_iff_iff]; simp; exact eq_comm
  rw [setOf, this, has_zero, Bool.false_or]

theorem blk_put4 {W : World} {g : Nat} {t : TypeId} {a0 a1 a2 a3 b0 b1 b2 b3 : Value} (h : Blk W g t #[a0, a1, a2, a3]) : Blk ((((W.setCell ⟨g, 0, none⟩ b0).setCell ⟨g, 1, none⟩ b1).setCell ⟨g, 2, none⟩ b2).setCell ⟨g, 3, none⟩ b3) g t #[b0, b1, b2, b3] :=
  (((h.set 0 b0).set 1 b1).set 2 b2).set 3 b3
theorem blk_far4 {W : World} {g g' : Nat} {t : TypeId} {cs : Array Value} {b0 b1 b2 b3 : Value} (h : Blk W g t cs) (hne : g ≠ g') : Blk ((((W.setCell ⟨g', 0, none⟩ b0).setCell ⟨g', 1, none⟩ b1).setCell ⟨g', 2, none⟩ b2).setCell ⟨g', 3, none⟩ b3) g t cs :=
  (((h.set_far hne).set_far hne).set_far hne).set_far hne
theorem below_put4 {B : Nat} {w W : World} {g : Nat} (h : Below B w W) (hg : B ≤ g) (b0 b1 b2 b3 : Value) : Below B w ((((W.setCell ⟨g, 0, none⟩ b0).setCell ⟨g, 1, none⟩ b1).setCell ⟨g, 2, none⟩ b2).setCell ⟨g, 3, none⟩ b3) :=
  (((h.setCell hg _).setCell hg _).setCell hg _).setCell hg _
theorem blk4 {W : World} {g : Nat} {t : TypeId} {a0 a1 a2 a3 : Value} (h : Blk W g t #[a0, a1, a2, a3]) : W.cell? ⟨g, 0, none⟩ = some a0 ∧ W.cell? ⟨g, 1, none⟩ = some a1 ∧ W.cell? ⟨g, 2, none⟩ = some a2 ∧ W.cell? ⟨g, 3, none⟩ = some a3 ∧
    W.frozen? ⟨g, 0, none⟩ = false ∧ W.frozen? ⟨g, 1, none⟩ = false ∧ W.frozen? ⟨g, 2, none⟩ = false ∧ W.frozen? ⟨g, 3, none⟩ = false :=
  ⟨h.cell 0, h.cell 1, h.cell 2, h.cell 3, h.frozen 0, h.frozen 1, h.frozen 2, h.frozen 3⟩

set_option maxRecDepth 20000 in
set_option maxHeartbeats 800000 in
theorem span_any (a b : Nat) (ha : a < 256) (hb : b < 256) (w : World) :
    Calls Try.prog 94 #[.int .u8 (a : Int), .int .u8 (b : Int)] w fun e w' => e = .returned (spanTo a (b + 1 - a)).val ∧ Below w.heap.size w w' := by
  obtain ⟨K, hK⟩ : ∃ K, b + 1 - a = K := ⟨_, rfl⟩
  rw [hK]
  obtain ⟨t, ht⟩ : ∃ t, spanTo a K = t := ⟨_, rfl⟩
  rw [ht]
  obtain ⟨r0, r1, r2, r3⟩ := t
  have HFIN := hid ht
  unfold BSet.val
  clear ht
  go_enter Try.func94, Try.ntmps94
  go_wp2_with fail
  go_loopw [6] (fun i wr => ∃ (k n : Nat), k ≤ K ∧ n = a + k ∧ i = .int .i64 (n : Int) ∧ Blk wr (w.heap.size + 1) 51 #[w64 (spanTo a k).w0, w64 (spanTo a k).w1, w64 (spanTo a k).w2, w64 (spanTo a k).w3] ∧
      Blk wr w.heap.size 51 #[.int .u64 0, .int .u64 0, .int .u64 0, .int .u64 0] ∧ Below w.heap.size w wr) (fun i _ => 300 - (intOf i).toNat)
  case atStart => exact ⟨0, a, by omega, by omega, rfl, by have := Blk.new (w.alloc (.cells #[.int .u64 0, .int .u64 0, .int .u64 0, .int .u64 0] 51)) 51 #[.int .u64 0, .int .u64 0, .int .u64 0, .int .u64 0]; rwa [World.size_alloc] at this, (Blk.new w _ _).alloc _, ((Below.refl _ _).alloc (Nat.le_refl _) _).alloc (by simp) _⟩
  case round =>
    obtain ⟨k, n, hk, hn, rfl, h1, h0, hbl⟩ := hrel
    have H1 := hid h1; have H0 := hid h0; have HB := hid hbl
    clear h1 h0 hbl
    by_cases hlt : n ≤ b
    · have hn256 : n < 256 := by omega
      have HST : Hid (spanTo a (k + 1) = withM (spanTo a k) n) := by rw [Hid, hn]; rfl
      obtain ⟨c0, c1, c2, c3, f0, f1, f2, f3⟩ := blk4 H1.out
      obtain ⟨s, hs⟩ : ∃ s, spanTo a k = s := ⟨_, rfl⟩
      rw [hs] at c0 c1 c2 c3 HST
      have HW := hid (with_any s n hn256 wr)
      obtain ⟨t, ht⟩ : ∃ t, withM s n = t := ⟨_, rfl⟩
      rw [ht] at HW HST
      unfold BSet.val at HW
      have HN := hid hn
      have hkK : k < K := by omega
      obtain ⟨s0, s1, s2, s3⟩ := s
      obtain ⟨t0, t1, t2, t3⟩ := t
      clear hs ht hn
      go_wp2_with fail
      refine HW.out.mono ?_
      rintro e w2 ⟨rfl, hb2⟩
      have H1b := hid (H1.out.below hb2 H1.out.lt)
      have H0b := hid (H0.out.below hb2 H0.out.lt)
      have HB2 := hid (HB.out.trans (hb2.mono HB.out.size))
      obtain ⟨d0, d1, d2, d3, g0, g1, g2, g3⟩ := blk4 H1b.out
      have HP := hid (blk_put4 (b0 := w64 t0) (b1 := w64 t1) (b2 := w64 t2) (b3 := w64 t3) H1b.out)
      have HQ := hid (blk_far4 (g' := w.heap.size + 1) (b0 := w64 t0) (b1 := w64 t1) (b2 := w64 t2) (b3 := w64 t3) H0b.out (by omega))
      have HR := hid (below_put4 (g := w.heap.size + 1) HB2.out (by omega) (w64 t0) (w64 t1) (w64 t2) (w64 t3))
      clear hb2 HW c0 c1 c2 c3 f0 f1 f2 f3 H1b H0b HB2
      go_wp2_with fail
      go_roundw
      case rel => exact ⟨k + 1, n + 1, by omega, by have := HN.out; omega, by go_num, by rw [HST.out]; exact HP.out, HQ.out, HR.out⟩
      case measure => simp [intOf]; omega
    · obtain rfl : K = k := by omega
      rw [HFIN.out] at H1
      simp only at H1
      obtain ⟨c0, c1, c2, c3, f0, f1, f2, f3⟩ := blk4 H1.out
      obtain ⟨d0, d1, d2, d3, g0, g1, g2, g3⟩ := blk4 H0.out
      have HP := hid (blk_put4 (b0 := w64 r0) (b1 := w64 r1) (b2 := w64 r2) (b3 := w64 r3) H0.out)
      obtain ⟨e0, e1, e2, e3, -, -, -, -⟩ := blk4 HP.out
      have HR := hid (below_put4 (g := w.heap.size) HB.out (Nat.le_refl _) (w64 r0) (w64 r1) (w64 r2) (w64 r3))
      clear hn
      go_wp2_with fail
      exact bodyPost_ret (v := .agg #[w64 r0, w64 r1, w64 r2, w64 r3]) (by simp [results, Try.results94, go_sem, e0, e1, e2, e3]) rfl ⟨rfl, HR.out⟩
end Go.Proofs.Ytdhoedohchbagaa
