/- Walks: class.reader's part. -/
import Derived.Test.YtdhoedohchbagaaCu
namespace Go.Proofs.Ytdhoedohchbagaa
open Go.RowKit

set_option maxRecDepth 20000 in
set_option maxHeartbeats 1600000 in
theorem rdPart_any (s : ByteArray) (i b : Nat) (w : World) (h : Blk w b 126 #[.string s, .int .i64 (i : Int), .int .i64 0]) (hs : s.size ≤ 1000000) (hi : i ≤ s.size) :
    Calls Try.prog 110 #[.pointer (some ⟨b, 0, none⟩)] w fun x w' => x = .returned (rdPart s i).1.val ∧
      Blk w' b 126 #[.string s, .int .i64 ((rdPart s i).2.1 : Nat), .int .i64 ((rdPart s i).2.2 : Nat)] ∧ Keep (fun k => k = b) w w' := by
  have H := hid h
  have hbw := h.lt
  have hne : b ≠ w.heap.size := by omega
  clear h
  obtain ⟨a, ha⟩ : ∃ a, (rdSign s i 0).1 = a := ⟨_, rfl⟩
  obtain ⟨i1, hi1⟩ : ∃ a, (rdSign s i 0).2.1 = a := ⟨_, rfl⟩
  obtain ⟨e1, he1⟩ : ∃ a, (rdSign s i 0).2.2 = a := ⟨_, rfl⟩
  have ha256 : a < 256 := by rw [← ha]; exact rdSign_byte s i 0
  have hle1 : i1 ≤ s.size := by rw [← hi1]; exact rdSign_le s i 0 hi
  have HR : Hid (rdPart s i = if e1 = 0 ∧ isM s i1 45 = true then
      (if (rdSign s (i1 + 1) 0).2.2 = 0 ∧ (rdSign s (i1 + 1) 0).1 < a then (spanTo a ((rdSign s (i1 + 1) 0).1 + 1 - a), (rdSign s (i1 + 1) 0).2.1 - 1, 12) else (spanTo a ((rdSign s (i1 + 1) 0).1 + 1 - a), (rdSign s (i1 + 1) 0).2.1, (rdSign s (i1 + 1) 0).2.2))
      else (spanTo a 1, i1, e1)) := by rw [Hid, ← ha, ← hi1, ← he1]; rfl
  have HS1 := hid (fun W hW => rdSign_any s i b 0 W hW hs hi)
  rw [ha, hi1, he1] at HS1
  clear ha hi1 he1
  by_cases hz : e1 = 0
  · subst hz
    cases h45 : isM s i1 45
    · have HE : Hid (rdPart s i = (spanTo a 1, i1, 0)) := by rw [Hid, HR.out, if_neg (by rw [h45]; simp)]
      clear HR
      go_enter Try.func110, Try.ntmps110
      go_wp2_with fail
      refine (HS1.out _ (show Blk (w.alloc (.cells #[.int .u64 0, .int .u64 0, .int .u64 0, .int .u64 0] 51)) b 126 #[.string s, .int .i64 (i : Int), .int .i64 ((0 : Nat) : Int)] from H.out.alloc _)).mono ?_
      rintro x w1 ⟨rfl, hb1, hk1⟩
      have HB1 := hid hb1
      have HC1 : Hid (Blk w1 w.heap.size 51 #[.int .u64 0, .int .u64 0, .int .u64 0, .int .u64 0]) := hk1.blk (Blk.new w _ _) (fun e => hne e.symm)
      have HK1 : Hid (Keep (fun k => k = b) w w1) := (Keep.alloc (fun k => k = b) w _).trans hk1 (fun _ => .inl)
      clear hb1 hk1 HS1
      have q1 : w1.cell? ⟨b, 1, none⟩ = some (.int .i64 (i1 : Int)) := HB1.out.cell 1
      have q2 : w1.cell? ⟨b, 2, none⟩ = some (.int .i64 0) := HB1.out.cell 2
      have f1 := HB1.out.frozen 1
      have f2 := HB1.out.frozen 2
      have hlt1 := HB1.out.lt
      go_wp2_with fail
      have HI := hid (fun n => is_quiet HB1.out 45 n)
      rw [h45] at HI
      refine (HI.out 0).mono ?_
      rintro x w0 ⟨rfl, nq, rfl⟩
      go_wp2_with fail
      refine (span_any a a ha256 ha256 (w1.drewN nq)).mono ?_
      rintro x w5 ⟨rfl, hbl⟩
      have HB5 : Hid (Blk w5 b 126 #[.string s, .int .i64 (i1 : Int), .int .i64 ((0 : Nat) : Int)]) := (show Blk (w1.drewN nq) b 126 #[.string s, .int .i64 (i1 : Int), .int .i64 ((0 : Nat) : Int)] from HB1.out).below hbl (show Blk (w1.drewN nq) b 126 #[.string s, .int .i64 (i1 : Int), .int .i64 ((0 : Nat) : Int)] from HB1.out).lt
      have HC5 : Hid (Blk w5 w.heap.size 51 #[.int .u64 0, .int .u64 0, .int .u64 0, .int .u64 0]) := (show Blk (w1.drewN nq) w.heap.size 51 #[.int .u64 0, .int .u64 0, .int .u64 0, .int .u64 0] from HC1.out).below hbl (show Blk (w1.drewN nq) w.heap.size 51 #[.int .u64 0, .int .u64 0, .int .u64 0, .int .u64 0] from HC1.out).lt
      have HK5 : Hid (Keep (fun k => k = b) w w5) := (HK1.out.trans (Keep.drewN (fun k => k = b) w1 nq) (fun _ => .inl)).trans (Keep.of_below (F := fun k => k = b) hbl) (fun _ => .inl)
      clear hbl
      obtain ⟨T0, hT0⟩ : ∃ T0, spanTo a (a + 1 - a) = T0 := ⟨_, rfl⟩
      rw [hT0]
      have HV : Hid (spanTo a (a + 1 - a) = T0) := hT0
      obtain ⟨r0, r1, r2, r3⟩ := T0
      clear hT0
      unfold BSet.val
      obtain ⟨c0, c1, c2, c3, g0, g1, g2, g3⟩ := blk4 HC5.out
      have HP := hid (blk_put4 (b0 := w64 r0) (b1 := w64 r1) (b2 := w64 r2) (b3 := w64 r3) HC5.out)
      obtain ⟨z0, z1, z2, z3, -, -, -, -⟩ := blk4 HP.out
      have HQ := hid (blk_far4 (g' := w.heap.size) (b0 := w64 r0) (b1 := w64 r1) (b2 := w64 r2) (b3 := w64 r3) HB5.out hne)
      have HKK := hid (HK5.out.trans (keep_box4 w.heap.size w5 (w64 r0) (w64 r1) (w64 r2) (w64 r3)) (fun k hk => .inr (by have hk' : k = w.heap.size := hk; omega)))
      go_wp2_with fail
      exact bodyPost_ret (v := .agg #[w64 r0, w64 r1, w64 r2, w64 r3]) (by simp [results, Try.results110, go_sem, z0, z1, z2, z3]) rfl ⟨by rw [HE.out]; simp only [BSet.val, show spanTo a 1 = ⟨r0, r1, r2, r3⟩ from by rw [← HV.out, Nat.add_sub_cancel_left]], by rw [HE.out]; exact HQ.out, HKK.out⟩
    · skip
      go_enter Try.func110, Try.ntmps110
      go_wp2_with fail
      refine (HS1.out _ (show Blk (w.alloc (.cells #[.int .u64 0, .int .u64 0, .int .u64 0, .int .u64 0] 51)) b 126 #[.string s, .int .i64 (i : Int), .int .i64 ((0 : Nat) : Int)] from H.out.alloc _)).mono ?_
      rintro x w1 ⟨rfl, hb1, hk1⟩
      have HB1 := hid hb1
      have HC1 : Hid (Blk w1 w.heap.size 51 #[.int .u64 0, .int .u64 0, .int .u64 0, .int .u64 0]) := hk1.blk (Blk.new w _ _) (fun e => hne e.symm)
      have HK1 : Hid (Keep (fun k => k = b) w w1) := (Keep.alloc (fun k => k = b) w _).trans hk1 (fun _ => .inl)
      clear hb1 hk1 HS1
      have q1 : w1.cell? ⟨b, 1, none⟩ = some (.int .i64 (i1 : Int)) := HB1.out.cell 1
      have q2 : w1.cell? ⟨b, 2, none⟩ = some (.int .i64 0) := HB1.out.cell 2
      have f1 := HB1.out.frozen 1
      have f2 := HB1.out.frozen 2
      have hlt1 := HB1.out.lt
      go_wp2_with fail
      have HI := hid (fun n => is_quiet HB1.out 45 n)
      rw [h45] at HI
      refine (HI.out 0).mono ?_
      rintro x w0 ⟨rfl, nq, rfl⟩
      obtain ⟨j, hj⟩ : ∃ j, i1 + 1 = j := ⟨_, rfl⟩
      have hj2 : ((i1 : Int) + 1) = (j : Int) := by omega
      have hj1 : i1 < s.size := isM_lt h45
      have hjs : j ≤ s.size := by omega
      have HB3 := hid (fun Q => (show Blk (w1.drewN Q) b 126 #[.string s, .int .i64 (i1 : Int), .int .i64 ((0 : Nat) : Int)] from HB1.out).set 1 (.int .i64 (j : Int)))
      have HK3 := hid (fun Q => (HK1.out.trans (Keep.drewN (fun k => k = b) w1 Q) (fun _ => .inl)).trans (Keep.setCell (fun k => k = b) (w1.drewN Q) ⟨b, 1, none⟩ (.int .i64 (j : Int)) rfl) (fun _ => .inl))
      have HC3 := hid (fun Q => (show Blk (w1.drewN Q) w.heap.size 51 #[.int .u64 0, .int .u64 0, .int .u64 0, .int .u64 0] from HC1.out).set_far (i := 1) (u := .int .i64 (j : Int)) (Ne.symm hne))
      go_wp2_with fail
      obtain ⟨w3, hw3⟩ : ∃ w3, (w1.drewN nq).setCell ⟨b, 1, none⟩ (.int .i64 (j : Int)) = w3 := ⟨_, rfl⟩
      have HB4 : Hid (Blk w3 b 126 #[.string s, .int .i64 (j : Int), .int .i64 ((0 : Nat) : Int)]) := by rw [← hw3]; exact HB3.out nq
      have HK4 : Hid (Keep (fun k => k = b) w w3) := by rw [← hw3]; exact HK3.out nq
      have HC4 : Hid (Blk w3 w.heap.size 51 #[.int .u64 0, .int .u64 0, .int .u64 0, .int .u64 0]) := by rw [← hw3]; exact HC3.out nq
      rw [hw3]
      clear hw3 HB3 HK3 HC3 HI HB1 HC1 HK1 q1 q2 f1 f2 hlt1 hj2
      have HJ := hid hj
      rw [hj] at HR
      clear hj
      obtain ⟨t, ht⟩ : ∃ a, (rdSign s j 0).1 = a := ⟨_, rfl⟩
      obtain ⟨i2, hi2⟩ : ∃ a, (rdSign s j 0).2.1 = a := ⟨_, rfl⟩
      obtain ⟨e2, he2⟩ : ∃ a, (rdSign s j 0).2.2 = a := ⟨_, rfl⟩
      have ht256 : t < 256 := by rw [← ht]; exact rdSign_byte s j 0
      have hle2 : i2 ≤ s.size := by rw [← hi2]; exact rdSign_le s j 0 hjs
      have HG : Hid (e2 = 0 → j < i2) := by rw [Hid, ← hi2, ← he2]; exact rdSign_go s j
      have HS2 := hid (rdSign_any s j b 0 w3 HB4.out hs hjs)
      rw [ht, hi2, he2] at HR HS2
      rw [if_pos ⟨by trivial, h45⟩] at HR
      clear ht hi2 he2 h45
      refine HS2.out.mono ?_
      rintro x w4 ⟨rfl, hb4, hk4⟩
      have HB5 := hid hb4
      have HC5 : Hid (Blk w4 w.heap.size 51 #[.int .u64 0, .int .u64 0, .int .u64 0, .int .u64 0]) := hk4.blk HC4.out (fun e => hne e.symm)
      have HK5 : Hid (Keep (fun k => k = b) w w4) := HK4.out.trans hk4 (fun _ => .inl)
      clear hb4 hk4 HS2 HB4 HC4 HK4
      have q1 : w4.cell? ⟨b, 1, none⟩ = some (.int .i64 (i2 : Int)) := HB5.out.cell 1
      have q2 : w4.cell? ⟨b, 2, none⟩ = some (.int .i64 (e2 : Int)) := HB5.out.cell 2
      have f1 := HB5.out.frozen 1
      have f2 := HB5.out.frozen 2
      have hlt1 := HB5.out.lt
      by_cases hz2 : e2 = 0
      · subst hz2
        by_cases hta : t < a
        · have HE : Hid (rdPart s i = (spanTo a (t + 1 - a), i2 - 1, 12)) := by rw [Hid, HR.out, if_pos ⟨by trivial, hta⟩]
          clear HR
          obtain ⟨k, hk⟩ : ∃ k, i2 - 1 = k := ⟨_, rfl⟩
          have hk2 : ((i2 : Int) - 1) = (k : Int) := by have := HG.out rfl; omega
          rw [hk] at HE
          clear hk
          have HB6 : Hid (Blk (w4.setCell ⟨b, 1, none⟩ (.int .i64 (k : Int))) b 126 #[.string s, .int .i64 (k : Int), .int .i64 ((0 : Nat) : Int)]) := HB5.out.set 1 (.int .i64 (k : Int))
          have HB7 : Hid (Blk ((w4.setCell ⟨b, 1, none⟩ (.int .i64 (k : Int))).setCell ⟨b, 2, none⟩ (.int .i64 12)) b 126 #[.string s, .int .i64 (k : Int), .int .i64 12]) := HB6.out.set 2 (.int .i64 12)
          have HC7 : Hid (Blk ((w4.setCell ⟨b, 1, none⟩ (.int .i64 (k : Int))).setCell ⟨b, 2, none⟩ (.int .i64 12)) w.heap.size 51 #[.int .u64 0, .int .u64 0, .int .u64 0, .int .u64 0]) := (HC5.out.set_far (Ne.symm hne)).set_far (Ne.symm hne)
          have HK7 : Hid (Keep (fun k => k = b) w ((w4.setCell ⟨b, 1, none⟩ (.int .i64 (k : Int))).setCell ⟨b, 2, none⟩ (.int .i64 12))) :=
            (HK5.out.trans (Keep.setCell (fun k => k = b) w4 ⟨b, 1, none⟩ (.int .i64 (k : Int)) rfl) (fun _ => .inl)).trans (Keep.setCell (fun k => k = b) _ ⟨b, 2, none⟩ (.int .i64 12) rfl) (fun _ => .inl)
          have f3 := HB6.out.frozen 2
          have hlt3 := HB6.out.lt
          go_wp2_with fail
          obtain ⟨w7, hw7⟩ : ∃ w7, (w4.setCell ⟨b, 1, none⟩ (.int .i64 (k : Int))).setCell ⟨b, 2, none⟩ (.int .i64 12) = w7 := ⟨_, rfl⟩
          rw [hw7] at HB7 HC7 HK7 ⊢
          clear hw7 HB6 f3 hlt3 HB5 HC5 HK5
          refine (span_any a t ha256 ht256 w7).mono ?_
          rintro x w5 ⟨rfl, hbl⟩
          have HB5 : Hid (Blk w5 b 126 #[.string s, .int .i64 (k : Int), .int .i64 12]) := (HB7.out).below hbl (HB7.out).lt
          have HC5 : Hid (Blk w5 w.heap.size 51 #[.int .u64 0, .int .u64 0, .int .u64 0, .int .u64 0]) := (HC7.out).below hbl (HC7.out).lt
          have HK5 : Hid (Keep (fun k => k = b) w w5) := (HK7.out).trans (Keep.of_below (F := fun k => k = b) hbl) (fun _ => .inl)
          clear hbl
          obtain ⟨T0, hT0⟩ : ∃ T0, spanTo a (t + 1 - a) = T0 := ⟨_, rfl⟩
          rw [hT0]
          have HV : Hid (spanTo a (t + 1 - a) = T0) := hT0
          obtain ⟨r0, r1, r2, r3⟩ := T0
          clear hT0
          unfold BSet.val
          obtain ⟨c0, c1, c2, c3, g0, g1, g2, g3⟩ := blk4 HC5.out
          have HP := hid (blk_put4 (b0 := w64 r0) (b1 := w64 r1) (b2 := w64 r2) (b3 := w64 r3) HC5.out)
          obtain ⟨z0, z1, z2, z3, -, -, -, -⟩ := blk4 HP.out
          have HQ := hid (blk_far4 (g' := w.heap.size) (b0 := w64 r0) (b1 := w64 r1) (b2 := w64 r2) (b3 := w64 r3) HB5.out hne)
          have HKK := hid (HK5.out.trans (keep_box4 w.heap.size w5 (w64 r0) (w64 r1) (w64 r2) (w64 r3)) (fun k hk => .inr (by have hk' : k = w.heap.size := hk; omega)))
          go_wp2_with fail
          exact bodyPost_ret (v := .agg #[w64 r0, w64 r1, w64 r2, w64 r3]) (by simp [results, Try.results110, go_sem, z0, z1, z2, z3]) rfl ⟨by rw [HE.out]; simp only [BSet.val, HV.out], by rw [HE.out]; exact HQ.out, HKK.out⟩
        · have HE : Hid (rdPart s i = (spanTo a (t + 1 - a), i2, 0)) := by rw [Hid, HR.out, if_neg (by rintro ⟨-, h'⟩; exact hta h')]
          clear HR
          go_wp2_with fail
          refine (span_any a t ha256 ht256 w4).mono ?_
          rintro x w5 ⟨rfl, hbl⟩
          have HB5 : Hid (Blk w5 b 126 #[.string s, .int .i64 (i2 : Int), .int .i64 ((0 : Nat) : Int)]) := (HB5.out).below hbl (HB5.out).lt
          have HC5 : Hid (Blk w5 w.heap.size 51 #[.int .u64 0, .int .u64 0, .int .u64 0, .int .u64 0]) := (HC5.out).below hbl (HC5.out).lt
          have HK5 : Hid (Keep (fun k => k = b) w w5) := (HK5.out).trans (Keep.of_below (F := fun k => k = b) hbl) (fun _ => .inl)
          clear hbl
          obtain ⟨T0, hT0⟩ : ∃ T0, spanTo a (t + 1 - a) = T0 := ⟨_, rfl⟩
          rw [hT0]
          have HV : Hid (spanTo a (t + 1 - a) = T0) := hT0
          obtain ⟨r0, r1, r2, r3⟩ := T0
          clear hT0
          unfold BSet.val
          obtain ⟨c0, c1, c2, c3, g0, g1, g2, g3⟩ := blk4 HC5.out
          have HP := hid (blk_put4 (b0 := w64 r0) (b1 := w64 r1) (b2 := w64 r2) (b3 := w64 r3) HC5.out)
          obtain ⟨z0, z1, z2, z3, -, -, -, -⟩ := blk4 HP.out
          have HQ := hid (blk_far4 (g' := w.heap.size) (b0 := w64 r0) (b1 := w64 r1) (b2 := w64 r2) (b3 := w64 r3) HB5.out hne)
          have HKK := hid (HK5.out.trans (keep_box4 w.heap.size w5 (w64 r0) (w64 r1) (w64 r2) (w64 r3)) (fun k hk => .inr (by have hk' : k = w.heap.size := hk; omega)))
          go_wp2_with fail
          exact bodyPost_ret (v := .agg #[w64 r0, w64 r1, w64 r2, w64 r3]) (by simp [results, Try.results110, go_sem, z0, z1, z2, z3]) rfl ⟨by rw [HE.out]; simp only [BSet.val, HV.out], by rw [HE.out]; exact HQ.out, HKK.out⟩
      · have HE : Hid (rdPart s i = (spanTo a (t + 1 - a), i2, e2)) := by rw [Hid, HR.out, if_neg (by rintro ⟨h', -⟩; exact hz2 h')]
        clear HR
        have hz3 : ((e2 : Int) == 0) = false := by simp; omega
        go_wp2_with fail
        refine (span_any a t ha256 ht256 w4).mono ?_
        rintro x w5 ⟨rfl, hbl⟩
        have HB5 : Hid (Blk w5 b 126 #[.string s, .int .i64 (i2 : Int), .int .i64 (e2 : Int)]) := (HB5.out).below hbl (HB5.out).lt
        have HC5 : Hid (Blk w5 w.heap.size 51 #[.int .u64 0, .int .u64 0, .int .u64 0, .int .u64 0]) := (HC5.out).below hbl (HC5.out).lt
        have HK5 : Hid (Keep (fun k => k = b) w w5) := (HK5.out).trans (Keep.of_below (F := fun k => k = b) hbl) (fun _ => .inl)
        clear hbl
        obtain ⟨T0, hT0⟩ : ∃ T0, spanTo a (t + 1 - a) = T0 := ⟨_, rfl⟩
        rw [hT0]
        have HV : Hid (spanTo a (t + 1 - a) = T0) := hT0
        obtain ⟨r0, r1, r2, r3⟩ := T0
        clear hT0
        unfold BSet.val
        obtain ⟨c0, c1, c2, c3, g0, g1, g2, g3⟩ := blk4 HC5.out
        have HP := hid (blk_put4 (b0 := w64 r0) (b1 := w64 r1) (b2 := w64 r2) (b3 := w64 r3) HC5.out)
        obtain ⟨z0, z1, z2, z3, -, -, -, -⟩ := blk4 HP.out
        have HQ := hid (blk_far4 (g' := w.heap.size) (b0 := w64 r0) (b1 := w64 r1) (b2 := w64 r2) (b3 := w64 r3) HB5.out hne)
        have HKK := hid (HK5.out.trans (keep_box4 w.heap.size w5 (w64 r0) (w64 r1) (w64 r2) (w64 r3)) (fun k hk => .inr (by have hk' : k = w.heap.size := hk; omega)))
        go_wp2_with fail
        exact bodyPost_ret (v := .agg #[w64 r0, w64 r1, w64 r2, w64 r3]) (by simp [results, Try.results110, go_sem, z0, z1, z2, z3]) rfl ⟨by rw [HE.out]; simp only [BSet.val, HV.out], by rw [HE.out]; exact HQ.out, HKK.out⟩
  · have HE : Hid (rdPart s i = (spanTo a 1, i1, e1)) := by rw [Hid, HR.out, if_neg (by rintro ⟨h', -⟩; exact hz h')]
    clear HR
    have hz1 : ((e1 : Int) == 0) = false := by simp; omega
    go_enter Try.func110, Try.ntmps110
    go_wp2_with fail
    refine (HS1.out _ (show Blk (w.alloc (.cells #[.int .u64 0, .int .u64 0, .int .u64 0, .int .u64 0] 51)) b 126 #[.string s, .int .i64 (i : Int), .int .i64 ((0 : Nat) : Int)] from H.out.alloc _)).mono ?_
    rintro x w1 ⟨rfl, hb1, hk1⟩
    have HB1 := hid hb1
    have HC1 : Hid (Blk w1 w.heap.size 51 #[.int .u64 0, .int .u64 0, .int .u64 0, .int .u64 0]) := hk1.blk (Blk.new w _ _) (fun e => hne e.symm)
    have HK1 : Hid (Keep (fun k => k = b) w w1) := (Keep.alloc (fun k => k = b) w _).trans hk1 (fun _ => .inl)
    clear hb1 hk1 HS1
    have q1 : w1.cell? ⟨b, 1, none⟩ = some (.int .i64 (i1 : Int)) := HB1.out.cell 1
    have q2 : w1.cell? ⟨b, 2, none⟩ = some (.int .i64 (e1 : Int)) := HB1.out.cell 2
    have f1 := HB1.out.frozen 1
    have f2 := HB1.out.frozen 2
    have hlt1 := HB1.out.lt
    go_wp2_with fail
    refine (span_any a a ha256 ha256 w1).mono ?_
    rintro x w5 ⟨rfl, hbl⟩
    have HB5 : Hid (Blk w5 b 126 #[.string s, .int .i64 (i1 : Int), .int .i64 (e1 : Int)]) := (HB1.out).below hbl (HB1.out).lt
    have HC5 : Hid (Blk w5 w.heap.size 51 #[.int .u64 0, .int .u64 0, .int .u64 0, .int .u64 0]) := (HC1.out).below hbl (HC1.out).lt
    have HK5 : Hid (Keep (fun k => k = b) w w5) := (HK1.out).trans (Keep.of_below (F := fun k => k = b) hbl) (fun _ => .inl)
    clear hbl
    obtain ⟨T0, hT0⟩ : ∃ T0, spanTo a (a + 1 - a) = T0 := ⟨_, rfl⟩
    rw [hT0]
    have HV : Hid (spanTo a (a + 1 - a) = T0) := hT0
    obtain ⟨r0, r1, r2, r3⟩ := T0
    clear hT0
    unfold BSet.val
    obtain ⟨c0, c1, c2, c3, g0, g1, g2, g3⟩ := blk4 HC5.out
    have HP := hid (blk_put4 (b0 := w64 r0) (b1 := w64 r1) (b2 := w64 r2) (b3 := w64 r3) HC5.out)
    obtain ⟨z0, z1, z2, z3, -, -, -, -⟩ := blk4 HP.out
    have HQ := hid (blk_far4 (g' := w.heap.size) (b0 := w64 r0) (b1 := w64 r1) (b2 := w64 r2) (b3 := w64 r3) HB5.out hne)
    have HKK := hid (HK5.out.trans (keep_box4 w.heap.size w5 (w64 r0) (w64 r1) (w64 r2) (w64 r3)) (fun k hk => .inr (by have hk' : k = w.heap.size := hk; omega)))
    go_wp2_with fail
    exact bodyPost_ret (v := .agg #[w64 r0, w64 r1, w64 r2, w64 r3]) (by simp [results, Try.results110, go_sem, z0, z1, z2, z3]) rfl ⟨by rw [HE.out]; simp only [BSet.val, show spanTo a 1 = ⟨r0, r1, r2, r3⟩ from by rw [← HV.out, Nat.add_sub_cancel_left]], by rw [HE.out]; exact HQ.out, HKK.out⟩
end Go.Proofs.Ytdhoedohchbagaa
