/- Walks: class.reader's whole. Plain: a set's text, byte by byte, and that it is read back. Plain: a set's text is read back, whatever stands behind it. Walks: class.Read. -/
import Derived.Test.YtdbiodofofnpgaaMd
import Derived.Test.YtdbiodofofnpgaaMa
import Derived.Deep.LoopGhost
import Derived.Deep.CutRange
namespace Go.Proofs.Ytdbiodofofnpgaa
open Go.RowKit

theorem keep_far {b g : Nat} {w w1 : World} (hg : w.heap.size ≤ g) (h : Keep (fun k => k = b) w w1) (u0 u1 u2 u3 : Value) : Keep (fun k => k = b) w ((((w1.setCell ⟨g, 0, none⟩ u0).setCell ⟨g, 1, none⟩ u1).setCell ⟨g, 2, none⟩ u2).setCell ⟨g, 3, none⟩ u3) :=
  h.trans (keep_box4 g w1 u0 u1 u2 u3) (fun k hk => .inr (by have hk' : k = g := hk; omega))

set_option maxRecDepth 20000 in
set_option maxHeartbeats 2000000 in
theorem rdWhole_no (s : ByteArray) (b : Nat) (w : World) (h : Blk w b 285 #[.string s, .int .i64 0, .int .i64 0]) (h91 : isM s 0 91 = false) :
    Calls Try.prog 212 #[.pointer (some ⟨b, 0, none⟩)] w fun x w' => x = .returned BSet.zero.val ∧
      Blk w' b 285 #[.string s, .int .i64 (stopAt s 0 : Nat), .int .i64 (stopE s 0 : Nat)] ∧ Keep (fun k => k = b) w w' := by
  have H := hid h
  have hbw := h.lt
  have hne : b ≠ w.heap.size := by omega
  clear h
  have H1 : Hid (Blk (w.alloc (.cells #[.int .u64 0, .int .u64 0, .int .u64 0, .int .u64 0] 232)) b 285 #[.string s, .int .i64 ((0 : Nat) : Int), .int .i64 0]) := H.out.alloc _
  have HI := hid (fun n => is_quiet H1.out 91 n)
  rw [h91] at HI
  clear h91
  go_enter Try.func212, Try.ntmps212
  go_wp2_with fail
  refine (HI.out 0).mono ?_
  rintro x w0 ⟨rfl, m, rfl⟩
  go_wp2_with fail
  refine (stop_any s 0 b _ ((w.alloc (.cells #[.int .u64 0, .int .u64 0, .int .u64 0, .int .u64 0] 232)).drewN m) H1.out).mono ?_
  rintro x w2 ⟨rfl, hb2, hk2⟩
  have HB2 := hid hb2
  have HK2 : Hid (Keep (fun k => k = b) w w2) := ((Keep.alloc (fun k => k = b) w (.cells #[.int .u64 0, .int .u64 0, .int .u64 0, .int .u64 0] 232)).trans (Keep.drewN (fun k => k = b) _ m) (fun _ => .inl)).trans hk2 (fun _ => .inl)
  have HC2 : Hid (Blk w2 w.heap.size 232 #[.int .u64 0, .int .u64 0, .int .u64 0, .int .u64 0]) := hk2.blk (show Blk ((w.alloc (.cells #[.int .u64 0, .int .u64 0, .int .u64 0, .int .u64 0] 232)).drewN m) w.heap.size 232 #[.int .u64 0, .int .u64 0, .int .u64 0, .int .u64 0] from Blk.new w _ _) (fun e => hne e.symm)
  clear hb2 hk2 HI H1
  obtain ⟨c0, c1, c2, c3, g0, g1, g2, g3⟩ := blk4 HC2.out
  obtain ⟨z0, z1, z2, z3, -, -, -, -⟩ := blk4 (blk_put4 (b0 := .int .u64 0) (b1 := .int .u64 0) (b2 := .int .u64 0) (b3 := .int .u64 0) HC2.out)
  have HQ := hid (blk_far4 (g' := w.heap.size) (b0 := .int .u64 0) (b1 := .int .u64 0) (b2 := .int .u64 0) (b3 := .int .u64 0) HB2.out hne)
  have HKK := hid (keep_far (Nat.le_refl _) HK2.out (.int .u64 0) (.int .u64 0) (.int .u64 0) (.int .u64 0))
  go_wp2_with fail
  exact bodyPost_ret (v := .agg #[.int .u64 0, .int .u64 0, .int .u64 0, .int .u64 0]) (by simp [results, Try.results212, go_sem, z0, z1, z2, z3]) rfl ⟨rfl, HQ.out, HKK.out⟩

set_option maxRecDepth 20000 in
set_option maxHeartbeats 4000000 in
theorem rdWhole_one (s : ByteArray) (b : Nat) (w : World) (h : Blk w b 285 #[.string s, .int .i64 0, .int .i64 0]) (hs : s.size ≤ 1000000) (h91 : isM s 0 91 = true) (h94 : isM s 1 94 = false) (q : BSet × Nat × Nat) (hq : rdGo s (s.size + 1) (rdPart s 1).1 (rdPart s 1).2.1 (rdPart s 1).2.2 = q) (v : BSet) (p : Nat) (hv : (if q.2.2 = 0 then (if isM s 1 94 = true then notM q.1 else q.1) else BSet.zero) = v) (hp : (if q.2.2 = 0 then q.2.1 + 1 else q.2.1) = p) :
    Calls Try.prog 212 #[.pointer (some ⟨b, 0, none⟩)] w fun x w' => x = .returned v.val ∧
      Blk w' b 285 #[.string s, .int .i64 (p : Int), .int .i64 (q.2.2 : Nat)] ∧ Keep (fun k => k = b) w w' := by
  have H := hid h
  have hbw := h.lt
  have hne : b ≠ w.heap.size := by omega
  have hi0 : 1 ≤ s.size := by have := isM_lt h91; omega
  clear h
  have H1 : Hid (Blk (w.alloc (.cells #[.int .u64 0, .int .u64 0, .int .u64 0, .int .u64 0] 232)) b 285 #[.string s, .int .i64 ((0 : Nat) : Int), .int .i64 0]) := H.out.alloc _
  have HI := hid (fun n => is_quiet H1.out 91 n)
  rw [h91] at HI
  have H94 := hid h94; have HV := hid hv; have HPP := hid hp
  clear h91 h94 hv hp
  go_enter Try.func212, Try.ntmps212
  go_wp2_with fail
  refine (HI.out 0).mono ?_
  rintro x w0 ⟨rfl, m, rfl⟩
  obtain ⟨w1, hw1⟩ : ∃ w1, (w.alloc (.cells #[.int .u64 0, .int .u64 0, .int .u64 0, .int .u64 0] 232)).drewN m = w1 := ⟨_, rfl⟩
  have HB1 : Hid (Blk w1 b 285 #[.string s, .int .i64 0, .int .i64 0]) := by rw [← hw1]; exact H1.out
  have HK1 : Hid (Keep (fun k => k = b) w w1) := by rw [← hw1]; exact (Keep.alloc (fun k => k = b) w (.cells #[.int .u64 0, .int .u64 0, .int .u64 0, .int .u64 0] 232)).trans (Keep.drewN (fun k => k = b) _ m) (fun _ => .inl)
  have HC1 : Hid (Blk w1 w.heap.size 232 #[.int .u64 0, .int .u64 0, .int .u64 0, .int .u64 0]) := by rw [← hw1]; exact (show Blk ((w.alloc (.cells #[.int .u64 0, .int .u64 0, .int .u64 0, .int .u64 0] 232)).drewN m) w.heap.size 232 #[.int .u64 0, .int .u64 0, .int .u64 0, .int .u64 0] from Blk.new w _ _)
  rw [hw1]
  clear hw1 HI H1
  have q1 : w1.cell? ⟨b, 1, none⟩ = some (.int .i64 0) := HB1.out.cell 1
  have f1 := HB1.out.frozen 1
  have hlt1 := HB1.out.lt
  have HB2 : Hid (Blk (w1.setCell ⟨b, 1, none⟩ (.int .i64 1)) b 285 #[.string s, .int .i64 ((1 : Nat) : Int), .int .i64 0]) := HB1.out.set 1 (.int .i64 1)
  have HK2 : Hid (Keep (fun k => k = b) w (w1.setCell ⟨b, 1, none⟩ (.int .i64 1))) := HK1.out.trans (Keep.setCell (fun k => k = b) w1 ⟨b, 1, none⟩ (.int .i64 1) rfl) (fun _ => .inl)
  have HC2 : Hid (Blk (w1.setCell ⟨b, 1, none⟩ (.int .i64 1)) w.heap.size 232 #[.int .u64 0, .int .u64 0, .int .u64 0, .int .u64 0]) := HC1.out.set_far (Ne.symm hne)
  go_wp2_with fail
  obtain ⟨w2, hw2⟩ : ∃ w2, w1.setCell ⟨b, 1, none⟩ (.int .i64 1) = w2 := ⟨_, rfl⟩
  rw [hw2] at HB2 HK2 HC2 ⊢
  clear hw2 HB1 HK1 HC1 q1 f1 hlt1
  have HI := hid (fun n => is_quiet HB2.out 94 n)
  rw [H94.out] at HI
  refine (HI.out 0).mono ?_
  rintro x w0 ⟨rfl, m2, rfl⟩
  obtain ⟨w3, hw3⟩ : ∃ w3, w2.drewN m2 = w3 := ⟨_, rfl⟩
  have HB3 : Hid (Blk w3 b 285 #[.string s, .int .i64 1, .int .i64 0]) := by rw [← hw3]; exact HB2.out
  have HK3 : Hid (Keep (fun k => k = b) w w3) := by rw [← hw3]; exact HK2.out.trans (Keep.drewN (fun k => k = b) w2 m2) (fun _ => .inl)
  have HC3 : Hid (Blk w3 w.heap.size 232 #[.int .u64 0, .int .u64 0, .int .u64 0, .int .u64 0]) := by rw [← hw3]; exact (show Blk (w2.drewN m2) w.heap.size 232 #[.int .u64 0, .int .u64 0, .int .u64 0, .int .u64 0] from HC2.out)
  rw [hw3]
  clear hw3 HI HB2 HK2 HC2
  go_wp2_with fail
  obtain ⟨w4, hw4⟩ : ∃ w4, w3 = w4 := ⟨_, rfl⟩
  rw [hw4] at HB3 HK3 HC3 ⊢
  have HB4 : Hid (Blk w4 b 285 #[.string s, .int .i64 ((1 : Nat) : Int), .int .i64 0]) := HB3.out
  have HK4 := HK3
  have HC4 := HC3
  clear hw4 HB3 HK3 HC3
  have HP := hid (rdPart_any s 1 b w4 HB4.out hs hi0)
  have HLE := hid (rdPart_le s 1 hi0)
  have HQ := hid hq
  obtain ⟨y0, hy0⟩ : ∃ y, (rdPart s 1).1 = y := ⟨_, rfl⟩
  obtain ⟨j0, hj0⟩ : ∃ y, (rdPart s 1).2.1 = y := ⟨_, rfl⟩
  obtain ⟨e0, he0⟩ : ∃ y, (rdPart s 1).2.2 = y := ⟨_, rfl⟩
  rw [hy0, hj0, he0] at HP HQ
  rw [hj0] at HLE
  clear hy0 hj0 he0 hq
  refine HP.out.mono ?_
  rintro x w5 ⟨rfl, hb5, hk5⟩
  have HB5 := hid hb5
  have HK5 : Hid (Keep (fun k => k = b) w w5) := HK4.out.trans hk5 (fun _ => .inl)
  have HC5 : Hid (Blk w5 w.heap.size 232 #[.int .u64 0, .int .u64 0, .int .u64 0, .int .u64 0]) := hk5.blk HC4.out (fun e => hne e.symm)
  have hlt5 : b < w5.heap.size := HB5.out.lt
  have hlt5' : w.heap.size < w5.heap.size := HC5.out.lt
  clear hb5 hk5 HP HB4 HK4 HC4
  have HX6 : Hid (Blk (w5.alloc (.cells #[.int .u64 (y0.w0.toNat : Int), .int .u64 (y0.w1.toNat : Int), .int .u64 (y0.w2.toNat : Int), .int .u64 (y0.w3.toNat : Int)] 232)) w5.heap.size 232 #[w64 y0.w0, w64 y0.w1, w64 y0.w2, w64 y0.w3]) := Blk.new w5 232 #[w64 y0.w0, w64 y0.w1, w64 y0.w2, w64 y0.w3]
  have HB6 : Hid (Blk (w5.alloc (.cells #[.int .u64 (y0.w0.toNat : Int), .int .u64 (y0.w1.toNat : Int), .int .u64 (y0.w2.toNat : Int), .int .u64 (y0.w3.toNat : Int)] 232)) b 285 #[.string s, .int .i64 (j0 : Int), .int .i64 (e0 : Int)]) := HB5.out.alloc _
  have HC6 : Hid (Blk (w5.alloc (.cells #[.int .u64 (y0.w0.toNat : Int), .int .u64 (y0.w1.toNat : Int), .int .u64 (y0.w2.toNat : Int), .int .u64 (y0.w3.toNat : Int)] 232)) w.heap.size 232 #[.int .u64 0, .int .u64 0, .int .u64 0, .int .u64 0]) := HC5.out.alloc _
  have HK6 : Hid (Keep (fun k => k = b) w (w5.alloc (.cells #[.int .u64 (y0.w0.toNat : Int), .int .u64 (y0.w1.toNat : Int), .int .u64 (y0.w2.toNat : Int), .int .u64 (y0.w3.toNat : Int)] 232))) := HK5.out.trans (Keep.alloc (fun k => k = b) w5 _) (fun _ => .inl)
  unfold BSet.val
  go_wp2_with fail
  obtain ⟨w6, hw6⟩ : ∃ w6, w5.alloc (.cells #[.int .u64 (y0.w0.toNat : Int), .int .u64 (y0.w1.toNat : Int), .int .u64 (y0.w2.toNat : Int), .int .u64 (y0.w3.toNat : Int)] 232) = w6 := ⟨_, rfl⟩
  rw [hw6] at HX6 HB6 HC6 HK6 ⊢
  obtain ⟨X, hX⟩ : ∃ X, w5.heap.size = X := ⟨_, rfl⟩
  rw [hX] at HX6 hlt5 hlt5' ⊢
  clear hw6 hX HB5 HK5 HC5
  go_loopg [] (s.size + 1) (fun n wr => ∃ (y : BSet) (i e : Nat), i ≤ s.size ∧ rdGo s n y i e = q ∧ (e = 0 → s.size + 1 ≤ i + n) ∧ Blk wr X 232 #[w64 y.w0, w64 y.w1, w64 y.w2, w64 y.w3] ∧
    Blk wr b 285 #[.string s, .int .i64 (i : Int), .int .i64 (e : Int)] ∧ Blk wr w.heap.size 232 #[.int .u64 0, .int .u64 0, .int .u64 0, .int .u64 0] ∧ Keep (fun k => k = b) w wr)
  case atStart => exact ⟨y0, j0, e0, HLE.out, HQ.out, fun _ => by omega, HX6.out, HB6.out, HC6.out, HK6.out⟩
  case round =>
    obtain ⟨y, i, e, hi, hgo, hfu, hX, hB, hC, hK⟩ := hrel
    have HGO := hid hgo; have HX := hid hX; have HB := hid hB; have HC := hid hC; have HK := hid hK; have HFU := hid hfu
    clear hgo hX hB hC hK hfu HX6 HB6 HC6 HK6 HQ HLE
    have q1 : wr.cell? ⟨b, 1, none⟩ = some (.int .i64 (i : Int)) := HB.out.cell 1
    have f1 := HB.out.frozen 1
    obtain ⟨x0, x1, x2, x3, -, -, -, -⟩ := blk4 HX.out
    obtain ⟨c0, c1, c2, c3, g0, g1, g2, g3⟩ := blk4 HC.out
    have hbr := HB.out.lt
    by_cases he : e = 0
    · subst he
      have q2 : wr.cell? ⟨b, 2, none⟩ = some (.int .i64 0) := HB.out.cell 2
      have HI := hid (fun n => is_quiet HB.out 93 n)
      cases h93 : isM s i 93
      · rw [h93] at HI
        have h93' := hid h93
        clear h93
        go_wp2_with fail
        refine (HI.out 0).mono ?_
        rintro x w0 ⟨rfl, m3, rfl⟩
        obtain ⟨w7, hw7⟩ : ∃ w7, wr.drewN m3 = w7 := ⟨_, rfl⟩
        have HX7 : Hid (Blk w7 X 232 #[w64 y.w0, w64 y.w1, w64 y.w2, w64 y.w3]) := by rw [← hw7]; exact HX.out
        have HB7 : Hid (Blk w7 b 285 #[.string s, .int .i64 (i : Int), .int .i64 0]) := by rw [← hw7]; exact HB.out
        have HC7 : Hid (Blk w7 w.heap.size 232 #[.int .u64 0, .int .u64 0, .int .u64 0, .int .u64 0]) := by rw [← hw7]; exact HC.out
        have HK7 : Hid (Keep (fun k => k = b) w w7) := by rw [← hw7]; exact HK.out.trans (Keep.drewN (fun k => k = b) wr m3) (fun _ => .inl)
        rw [hw7]
        clear hw7 HI HX HB HC HK q1 q2 f1 x0 x1 x2 x3 c0 c1 c2 c3 g0 g1 g2 g3 hbr
        go_wp2_with fail
        obtain ⟨gk', hgk⟩ : ∃ gk', gk = gk' + 1 := ⟨gk - 1, by have := HFU.out (by trivial); omega⟩
        subst hgk
        have HGO2 : Hid (rdGo s gk' (orM y (rdPart s i).1) (rdPart s i).2.1 (rdPart s i).2.2 = q) := by rw [Hid, ← HGO.out, rdGo, if_pos ⟨rfl, h93'.out⟩]
        have HP := hid (fun (n : Nat) => rdPart_any s i b (w7.drewN n) HB7.out hs hi)
        have HLE := hid (rdPart_le s i hi)
        have HGT : Hid ((rdPart s i).2.2 = 0 → s.size + 1 ≤ (rdPart s i).2.1 + gk') := fun h => by have := rdPart_go s i h; have := HFU.out (by trivial); omega
        obtain ⟨y1, hy1⟩ : ∃ y, (rdPart s i).1 = y := ⟨_, rfl⟩
        obtain ⟨j1, hj1⟩ : ∃ y, (rdPart s i).2.1 = y := ⟨_, rfl⟩
        obtain ⟨e1, he1⟩ : ∃ y, (rdPart s i).2.2 = y := ⟨_, rfl⟩
        rw [hy1, hj1, he1] at HP HGO2
        rw [hj1] at HLE
        rw [hj1, he1] at HGT
        clear hy1 hj1 he1 HGO h93' HFU
        have HOR := hid (fun W => or_any_set y y1 W)
        obtain ⟨y2, hy2⟩ : ∃ z, orM y y1 = z := ⟨_, rfl⟩
        rw [hy2] at HOR HGO2
        clear hy2
        obtain ⟨r0, r1, r2, r3⟩ := y2
        unfold BSet.val at HOR HP
        obtain ⟨x0, x1, x2, x3, -, -, -, -⟩ := blk4 HX7.out
        refine wp_region_ord (.val 1 (.two 0 (.op 2 (.op 3 (.op 4 .nil))) 2 (.op 0 (.op 3 (.op 4 .nil))))) (by kernel_rfl) (by kernel_rfl) ?_
        refine wpOrd_val rfl ?_
        go_big_quiet_step (fail)
        refine wpQuiet_nil ?_
        refine wpOrd_two rfl rfl ?_ ?_
        · go_wp2_with fail
          refine wpOrd_op rfl ?_
          go_wp2_with fail
          refine (HP.out _).mono ?_
          rintro x w8 ⟨rfl, hb8, hk8⟩
          have HB8 := hid hb8
          have HX8 : Hid (Blk w8 X 232 #[w64 y.w0, w64 y.w1, w64 y.w2, w64 y.w3]) := hk8.blk HX7.out (by omega)
          have HC8 : Hid (Blk w8 w.heap.size 232 #[.int .u64 0, .int .u64 0, .int .u64 0, .int .u64 0]) := hk8.blk HC7.out (fun e => hne e.symm)
          have HK8 : Hid (Keep (fun k => k = b) w w8) := (HK7.out.trans (Keep.drewN (fun k => k = b) w7 _) (fun _ => .inl)).trans hk8 (fun _ => .inl)
          obtain ⟨v0, v1, v2, v3, -, -, -, -⟩ := blk4 HX8.out
          clear hb8 hk8 HP
          go_wp2_with fail
          refine wpOrd_op rfl ?_
          go_wp2_with fail
          refine (HOR.out _).mono ?_
          rintro x w9 ⟨rfl, hbl⟩
          have HB9 : Hid (Blk w9 b 285 #[.string s, .int .i64 (j1 : Int), .int .i64 (e1 : Int)]) := HB8.out.below hbl HB8.out.lt
          have HX9 : Hid (Blk w9 X 232 #[w64 y.w0, w64 y.w1, w64 y.w2, w64 y.w3]) := HX8.out.below hbl HX8.out.lt
          have HC9 : Hid (Blk w9 w.heap.size 232 #[.int .u64 0, .int .u64 0, .int .u64 0, .int .u64 0]) := HC8.out.below hbl HC8.out.lt
          have HK9 : Hid (Keep (fun k => k = b) w w9) := HK8.out.trans (Keep.of_below (F := fun k => k = b) hbl) (fun _ => .inl)
          clear hbl HOR HB8 HX8 HC8 HK8
          obtain ⟨u0, u1, u2, u3, t0, t1, t2, t3⟩ := blk4 HX9.out
          have HXA := hid (blk_put4 (b0 := w64 r0) (b1 := w64 r1) (b2 := w64 r2) (b3 := w64 r3) HX9.out)
          have HBA := hid (blk_far4 (g' := X) (b0 := w64 r0) (b1 := w64 r1) (b2 := w64 r2) (b3 := w64 r3) HB9.out (by omega))
          have HCA := hid (blk_far4 (g' := X) (b0 := w64 r0) (b1 := w64 r1) (b2 := w64 r2) (b3 := w64 r3) HC9.out (by omega))
          have HKA := hid (keep_far (g := X) (by omega) HK9.out (w64 r0) (w64 r1) (w64 r2) (w64 r3))
          go_wp2_with fail
          refine wpOrd_op rfl ?_
          go_wp2_with fail
          refine wpOrd_nil ?_
          go_wp2_with fail
          go_roundg gk'
          case measure => omega
          case rel => exact ⟨⟨r0, r1, r2, r3⟩, j1, e1, HLE.out, HGO2.out, HGT.out, HXA.out, HBA.out, HCA.out, HKA.out⟩
        · go_wp2_with fail
          refine (HP.out _).mono ?_
          rintro x w8 ⟨rfl, hb8, hk8⟩
          have HB8 := hid hb8
          have HX8 : Hid (Blk w8 X 232 #[w64 y.w0, w64 y.w1, w64 y.w2, w64 y.w3]) := hk8.blk HX7.out (by omega)
          have HC8 : Hid (Blk w8 w.heap.size 232 #[.int .u64 0, .int .u64 0, .int .u64 0, .int .u64 0]) := hk8.blk HC7.out (fun e => hne e.symm)
          have HK8 : Hid (Keep (fun k => k = b) w w8) := (HK7.out.trans (Keep.drewN (fun k => k = b) w7 _) (fun _ => .inl)).trans hk8 (fun _ => .inl)
          obtain ⟨v0, v1, v2, v3, -, -, -, -⟩ := blk4 HX8.out
          clear hb8 hk8 HP
          go_wp2_with fail
          refine wpOrd_op rfl ?_
          go_wp2_with fail
          refine wpOrd_op rfl ?_
          go_wp2_with fail
          refine (HOR.out _).mono ?_
          rintro x w9 ⟨rfl, hbl⟩
          have HB9 : Hid (Blk w9 b 285 #[.string s, .int .i64 (j1 : Int), .int .i64 (e1 : Int)]) := HB8.out.below hbl HB8.out.lt
          have HX9 : Hid (Blk w9 X 232 #[w64 y.w0, w64 y.w1, w64 y.w2, w64 y.w3]) := HX8.out.below hbl HX8.out.lt
          have HC9 : Hid (Blk w9 w.heap.size 232 #[.int .u64 0, .int .u64 0, .int .u64 0, .int .u64 0]) := HC8.out.below hbl HC8.out.lt
          have HK9 : Hid (Keep (fun k => k = b) w w9) := HK8.out.trans (Keep.of_below (F := fun k => k = b) hbl) (fun _ => .inl)
          clear hbl HOR HB8 HX8 HC8 HK8
          obtain ⟨u0, u1, u2, u3, t0, t1, t2, t3⟩ := blk4 HX9.out
          have HXA := hid (blk_put4 (b0 := w64 r0) (b1 := w64 r1) (b2 := w64 r2) (b3 := w64 r3) HX9.out)
          have HBA := hid (blk_far4 (g' := X) (b0 := w64 r0) (b1 := w64 r1) (b2 := w64 r2) (b3 := w64 r3) HB9.out (by omega))
          have HCA := hid (blk_far4 (g' := X) (b0 := w64 r0) (b1 := w64 r1) (b2 := w64 r2) (b3 := w64 r3) HC9.out (by omega))
          have HKA := hid (keep_far (g := X) (by omega) HK9.out (w64 r0) (w64 r1) (w64 r2) (w64 r3))
          go_wp2_with fail
          refine wpOrd_op rfl ?_
          go_wp2_with fail
          refine wpOrd_nil ?_
          go_wp2_with fail
          go_roundg gk'
          case measure => omega
          case rel => exact ⟨⟨r0, r1, r2, r3⟩, j1, e1, HLE.out, HGO2.out, HGT.out, HXA.out, HBA.out, HCA.out, HKA.out⟩
      · rw [h93] at HI
        have HE : Hid (q = (y, i, 0)) := by rw [Hid, ← HGO.out, rdGo_shut s gk y i 0 h93]
        clear h93 HGO
        go_wp2_with fail
        refine (HI.out 0).mono ?_
        rintro x w0 ⟨rfl, m3, rfl⟩
        obtain ⟨w7, hw7⟩ : ∃ w7, wr.drewN m3 = w7 := ⟨_, rfl⟩
        have HX7 : Hid (Blk w7 X 232 #[w64 y.w0, w64 y.w1, w64 y.w2, w64 y.w3]) := by rw [← hw7]; exact HX.out
        have HB7 : Hid (Blk w7 b 285 #[.string s, .int .i64 (i : Int), .int .i64 0]) := by rw [← hw7]; exact HB.out
        have HC7 : Hid (Blk w7 w.heap.size 232 #[.int .u64 0, .int .u64 0, .int .u64 0, .int .u64 0]) := by rw [← hw7]; exact HC.out
        have HK7 : Hid (Keep (fun k => k = b) w w7) := by rw [← hw7]; exact HK.out.trans (Keep.drewN (fun k => k = b) wr m3) (fun _ => .inl)
        rw [hw7]
        clear hw7 HI HX HB HC HK q1 q2 f1 x0 x1 x2 x3 c0 c1 c2 c3 g0 g1 g2 g3 hbr
        have q1 : w7.cell? ⟨b, 1, none⟩ = some (.int .i64 (i : Int)) := HB7.out.cell 1
        have q2 : w7.cell? ⟨b, 2, none⟩ = some (.int .i64 0) := HB7.out.cell 2
        have f1 := HB7.out.frozen 1
        have hbr := HB7.out.lt
        obtain ⟨j, hj⟩ : ∃ j, i + 1 = j := ⟨_, rfl⟩
        have hj2 : ((i : Int) + 1) = (j : Int) := by omega
        have HJ := hid hj
        clear hj
        have HB8 : Hid (Blk (w7.setCell ⟨b, 1, none⟩ (.int .i64 (j : Int))) b 285 #[.string s, .int .i64 (j : Int), .int .i64 0]) := HB7.out.set 1 (.int .i64 (j : Int))
        have HX8 : Hid (Blk (w7.setCell ⟨b, 1, none⟩ (.int .i64 (j : Int))) X 232 #[w64 y.w0, w64 y.w1, w64 y.w2, w64 y.w3]) := HX7.out.set_far (by omega)
        have HC8 : Hid (Blk (w7.setCell ⟨b, 1, none⟩ (.int .i64 (j : Int))) w.heap.size 232 #[.int .u64 0, .int .u64 0, .int .u64 0, .int .u64 0]) := HC7.out.set_far (Ne.symm hne)
        have HK8 : Hid (Keep (fun k => k = b) w (w7.setCell ⟨b, 1, none⟩ (.int .i64 (j : Int)))) := HK7.out.trans (Keep.setCell (fun k => k = b) w7 ⟨b, 1, none⟩ (.int .i64 (j : Int)) rfl) (fun _ => .inl)
        obtain ⟨x0, x1, x2, x3, -, -, -, -⟩ := blk4 HX8.out
        obtain ⟨c0, c1, c2, c3, g0, g1, g2, g3⟩ := blk4 HC8.out
        go_upto_region 14 with fail
        obtain ⟨w8, hw8⟩ : ∃ w8, w7.setCell ⟨b, 1, none⟩ (.int .i64 (j : Int)) = w8 := ⟨_, rfl⟩
        rw [hw8] at HB8 HX8 HC8 HK8 x0 x1 x2 x3 c0 c1 c2 c3 g0 g1 g2 g3 ⊢
        clear hw8 HX7 HB7 HC7 HK7 q1 q2 f1 hbr hj2
        have HZ := hid (blk_put4 (b0 := w64 y.w0) (b1 := w64 y.w1) (b2 := w64 y.w2) (b3 := w64 y.w3) HC8.out)
        have HQ := hid (blk_far4 (g' := w.heap.size) (b0 := w64 y.w0) (b1 := w64 y.w1) (b2 := w64 y.w2) (b3 := w64 y.w3) HB8.out hne)
        have HKK := hid (keep_far (Nat.le_refl _) HK8.out (w64 y.w0) (w64 y.w1) (w64 y.w2) (w64 y.w3))
        go_wp2_with fail
        obtain ⟨z0, z1, z2, z3, -, -, -, -⟩ := blk4 HZ.out
        exact bodyPost_ret (v := .agg #[w64 y.w0, w64 y.w1, w64 y.w2, w64 y.w3]) (by simp [results, Try.results212, go_sem, z0, z1, z2, z3]) rfl
          ⟨by rw [← HV.out, HE.out, H94.out]; rfl, by rw [← HPP.out, HE.out]; simp only [if_true]; rw [HJ.out]; exact HQ.out, HKK.out⟩
    · have HE : Hid (q = (y, i, e)) := by rw [Hid, ← HGO.out, rdGo_bad s gk y i e he]
      have q2 : wr.cell? ⟨b, 2, none⟩ = some (.int .i64 (e : Int)) := HB.out.cell 2
      have he0 : ((e : Int) == 0) = false := by simp; omega
      have HZ := hid (blk_put4 (b0 := .int .u64 0) (b1 := .int .u64 0) (b2 := .int .u64 0) (b3 := .int .u64 0) HC.out)
      have HQ := hid (blk_far4 (g' := w.heap.size) (b0 := .int .u64 0) (b1 := .int .u64 0) (b2 := .int .u64 0) (b3 := .int .u64 0) HB.out hne)
      have HKK := hid (keep_far (Nat.le_refl _) HK.out (.int .u64 0) (.int .u64 0) (.int .u64 0) (.int .u64 0))
      go_wp2_with fail
      obtain ⟨z0, z1, z2, z3, -, -, -, -⟩ := blk4 HZ.out
      exact bodyPost_ret (v := .agg #[.int .u64 0, .int .u64 0, .int .u64 0, .int .u64 0]) (by simp [results, Try.results212, go_sem, z0, z1, z2, z3]) rfl
        ⟨by rw [← HV.out, HE.out]; simp only [if_neg he]; rfl, by rw [← HPP.out, HE.out]; simp only [if_neg he]; exact HQ.out, HKK.out⟩

set_option maxRecDepth 20000 in
set_option maxHeartbeats 4000000 in
theorem rdWhole_but (s : ByteArray) (b : Nat) (w : World) (h : Blk w b 285 #[.string s, .int .i64 0, .int .i64 0]) (hs : s.size ≤ 1000000) (h91 : isM s 0 91 = true) (h94 : isM s 1 94 = true) (q : BSet × Nat × Nat) (hq : rdGo s (s.size + 1) (rdPart s 2).1 (rdPart s 2).2.1 (rdPart s 2).2.2 = q) (v : BSet) (p : Nat) (hv : (if q.2.2 = 0 then (if isM s 1 94 = true then notM q.1 else q.1) else BSet.zero) = v) (hp : (if q.2.2 = 0 then q.2.1 + 1 else q.2.1) = p) :
    Calls Try.prog 212 #[.pointer (some ⟨b, 0, none⟩)] w fun x w' => x = .returned v.val ∧
      Blk w' b 285 #[.string s, .int .i64 (p : Int), .int .i64 (q.2.2 : Nat)] ∧ Keep (fun k => k = b) w w' := by
  have H := hid h
  have hbw := h.lt
  have hne : b ≠ w.heap.size := by omega
  have hi0 : 2 ≤ s.size := by have := isM_lt h94; omega
  clear h
  have H1 : Hid (Blk (w.alloc (.cells #[.int .u64 0, .int .u64 0, .int .u64 0, .int .u64 0] 232)) b 285 #[.string s, .int .i64 ((0 : Nat) : Int), .int .i64 0]) := H.out.alloc _
  have HI := hid (fun n => is_quiet H1.out 91 n)
  rw [h91] at HI
  have H94 := hid h94; have HV := hid hv; have HPP := hid hp
  clear h91 h94 hv hp
  go_enter Try.func212, Try.ntmps212
  go_wp2_with fail
  refine (HI.out 0).mono ?_
  rintro x w0 ⟨rfl, m, rfl⟩
  obtain ⟨w1, hw1⟩ : ∃ w1, (w.alloc (.cells #[.int .u64 0, .int .u64 0, .int .u64 0, .int .u64 0] 232)).drewN m = w1 := ⟨_, rfl⟩
  have HB1 : Hid (Blk w1 b 285 #[.string s, .int .i64 0, .int .i64 0]) := by rw [← hw1]; exact H1.out
  have HK1 : Hid (Keep (fun k => k = b) w w1) := by rw [← hw1]; exact (Keep.alloc (fun k => k = b) w (.cells #[.int .u64 0, .int .u64 0, .int .u64 0, .int .u64 0] 232)).trans (Keep.drewN (fun k => k = b) _ m) (fun _ => .inl)
  have HC1 : Hid (Blk w1 w.heap.size 232 #[.int .u64 0, .int .u64 0, .int .u64 0, .int .u64 0]) := by rw [← hw1]; exact (show Blk ((w.alloc (.cells #[.int .u64 0, .int .u64 0, .int .u64 0, .int .u64 0] 232)).drewN m) w.heap.size 232 #[.int .u64 0, .int .u64 0, .int .u64 0, .int .u64 0] from Blk.new w _ _)
  rw [hw1]
  clear hw1 HI H1
  have q1 : w1.cell? ⟨b, 1, none⟩ = some (.int .i64 0) := HB1.out.cell 1
  have f1 := HB1.out.frozen 1
  have hlt1 := HB1.out.lt
  have HB2 : Hid (Blk (w1.setCell ⟨b, 1, none⟩ (.int .i64 1)) b 285 #[.string s, .int .i64 ((1 : Nat) : Int), .int .i64 0]) := HB1.out.set 1 (.int .i64 1)
  have HK2 : Hid (Keep (fun k => k = b) w (w1.setCell ⟨b, 1, none⟩ (.int .i64 1))) := HK1.out.trans (Keep.setCell (fun k => k = b) w1 ⟨b, 1, none⟩ (.int .i64 1) rfl) (fun _ => .inl)
  have HC2 : Hid (Blk (w1.setCell ⟨b, 1, none⟩ (.int .i64 1)) w.heap.size 232 #[.int .u64 0, .int .u64 0, .int .u64 0, .int .u64 0]) := HC1.out.set_far (Ne.symm hne)
  go_wp2_with fail
  obtain ⟨w2, hw2⟩ : ∃ w2, w1.setCell ⟨b, 1, none⟩ (.int .i64 1) = w2 := ⟨_, rfl⟩
  rw [hw2] at HB2 HK2 HC2 ⊢
  clear hw2 HB1 HK1 HC1 q1 f1 hlt1
  have HI := hid (fun n => is_quiet HB2.out 94 n)
  rw [H94.out] at HI
  refine (HI.out 0).mono ?_
  rintro x w0 ⟨rfl, m2, rfl⟩
  obtain ⟨w3, hw3⟩ : ∃ w3, w2.drewN m2 = w3 := ⟨_, rfl⟩
  have HB3 : Hid (Blk w3 b 285 #[.string s, .int .i64 1, .int .i64 0]) := by rw [← hw3]; exact HB2.out
  have HK3 : Hid (Keep (fun k => k = b) w w3) := by rw [← hw3]; exact HK2.out.trans (Keep.drewN (fun k => k = b) w2 m2) (fun _ => .inl)
  have HC3 : Hid (Blk w3 w.heap.size 232 #[.int .u64 0, .int .u64 0, .int .u64 0, .int .u64 0]) := by rw [← hw3]; exact (show Blk (w2.drewN m2) w.heap.size 232 #[.int .u64 0, .int .u64 0, .int .u64 0, .int .u64 0] from HC2.out)
  rw [hw3]
  clear hw3 HI HB2 HK2 HC2
  have q1 : w3.cell? ⟨b, 1, none⟩ = some (.int .i64 1) := HB3.out.cell 1
  have f1 := HB3.out.frozen 1
  have hlt1 := HB3.out.lt
  have HB4 : Hid (Blk (w3.setCell ⟨b, 1, none⟩ (.int .i64 2)) b 285 #[.string s, .int .i64 ((2 : Nat) : Int), .int .i64 0]) := HB3.out.set 1 (.int .i64 2)
  have HK4 : Hid (Keep (fun k => k = b) w (w3.setCell ⟨b, 1, none⟩ (.int .i64 2))) := HK3.out.trans (Keep.setCell (fun k => k = b) w3 ⟨b, 1, none⟩ (.int .i64 2) rfl) (fun _ => .inl)
  have HC4 : Hid (Blk (w3.setCell ⟨b, 1, none⟩ (.int .i64 2)) w.heap.size 232 #[.int .u64 0, .int .u64 0, .int .u64 0, .int .u64 0]) := HC3.out.set_far (Ne.symm hne)
  go_wp2_with fail
  obtain ⟨w4, hw4⟩ : ∃ w4, w3.setCell ⟨b, 1, none⟩ (.int .i64 2) = w4 := ⟨_, rfl⟩
  rw [hw4] at HB4 HK4 HC4 ⊢
  clear hw4 HB3 HK3 HC3 q1 f1 hlt1
  have HP := hid (rdPart_any s 2 b w4 HB4.out hs hi0)
  have HLE := hid (rdPart_le s 2 hi0)
  have HQ := hid hq
  obtain ⟨y0, hy0⟩ : ∃ y, (rdPart s 2).1 = y := ⟨_, rfl⟩
  obtain ⟨j0, hj0⟩ : ∃ y, (rdPart s 2).2.1 = y := ⟨_, rfl⟩
  obtain ⟨e0, he0⟩ : ∃ y, (rdPart s 2).2.2 = y := ⟨_, rfl⟩
  rw [hy0, hj0, he0] at HP HQ
  rw [hj0] at HLE
  clear hy0 hj0 he0 hq
  refine HP.out.mono ?_
  rintro x w5 ⟨rfl, hb5, hk5⟩
  have HB5 := hid hb5
  have HK5 : Hid (Keep (fun k => k = b) w w5) := HK4.out.trans hk5 (fun _ => .inl)
  have HC5 : Hid (Blk w5 w.heap.size 232 #[.int .u64 0, .int .u64 0, .int .u64 0, .int .u64 0]) := hk5.blk HC4.out (fun e => hne e.symm)
  have hlt5 : b < w5.heap.size := HB5.out.lt
  have hlt5' : w.heap.size < w5.heap.size := HC5.out.lt
  clear hb5 hk5 HP HB4 HK4 HC4
  have HX6 : Hid (Blk (w5.alloc (.cells #[.int .u64 (y0.w0.toNat : Int), .int .u64 (y0.w1.toNat : Int), .int .u64 (y0.w2.toNat : Int), .int .u64 (y0.w3.toNat : Int)] 232)) w5.heap.size 232 #[w64 y0.w0, w64 y0.w1, w64 y0.w2, w64 y0.w3]) := Blk.new w5 232 #[w64 y0.w0, w64 y0.w1, w64 y0.w2, w64 y0.w3]
  have HB6 : Hid (Blk (w5.alloc (.cells #[.int .u64 (y0.w0.toNat : Int), .int .u64 (y0.w1.toNat : Int), .int .u64 (y0.w2.toNat : Int), .int .u64 (y0.w3.toNat : Int)] 232)) b 285 #[.string s, .int .i64 (j0 : Int), .int .i64 (e0 : Int)]) := HB5.out.alloc _
  have HC6 : Hid (Blk (w5.alloc (.cells #[.int .u64 (y0.w0.toNat : Int), .int .u64 (y0.w1.toNat : Int), .int .u64 (y0.w2.toNat : Int), .int .u64 (y0.w3.toNat : Int)] 232)) w.heap.size 232 #[.int .u64 0, .int .u64 0, .int .u64 0, .int .u64 0]) := HC5.out.alloc _
  have HK6 : Hid (Keep (fun k => k = b) w (w5.alloc (.cells #[.int .u64 (y0.w0.toNat : Int), .int .u64 (y0.w1.toNat : Int), .int .u64 (y0.w2.toNat : Int), .int .u64 (y0.w3.toNat : Int)] 232))) := HK5.out.trans (Keep.alloc (fun k => k = b) w5 _) (fun _ => .inl)
  unfold BSet.val
  go_wp2_with fail
  obtain ⟨w6, hw6⟩ : ∃ w6, w5.alloc (.cells #[.int .u64 (y0.w0.toNat : Int), .int .u64 (y0.w1.toNat : Int), .int .u64 (y0.w2.toNat : Int), .int .u64 (y0.w3.toNat : Int)] 232) = w6 := ⟨_, rfl⟩
  rw [hw6] at HX6 HB6 HC6 HK6 ⊢
  obtain ⟨X, hX⟩ : ∃ X, w5.heap.size = X := ⟨_, rfl⟩
  rw [hX] at HX6 hlt5 hlt5' ⊢
  clear hw6 hX HB5 HK5 HC5
  go_loopg [] (s.size + 1) (fun n wr => ∃ (y : BSet) (i e : Nat), i ≤ s.size ∧ rdGo s n y i e = q ∧ (e = 0 → s.size + 1 ≤ i + n) ∧ Blk wr X 232 #[w64 y.w0, w64 y.w1, w64 y.w2, w64 y.w3] ∧
    Blk wr b 285 #[.string s, .int .i64 (i : Int), .int .i64 (e : Int)] ∧ Blk wr w.heap.size 232 #[.int .u64 0, .int .u64 0, .int .u64 0, .int .u64 0] ∧ Keep (fun k => k = b) w wr)
  case atStart => exact ⟨y0, j0, e0, HLE.out, HQ.out, fun _ => by omega, HX6.out, HB6.out, HC6.out, HK6.out⟩
  case round =>
    obtain ⟨y, i, e, hi, hgo, hfu, hX, hB, hC, hK⟩ := hrel
    have HGO := hid hgo; have HX := hid hX; have HB := hid hB; have HC := hid hC; have HK := hid hK; have HFU := hid hfu
    clear hgo hX hB hC hK hfu HX6 HB6 HC6 HK6 HQ HLE
    have q1 : wr.cell? ⟨b, 1, none⟩ = some (.int .i64 (i : Int)) := HB.out.cell 1
    have f1 := HB.out.frozen 1
    obtain ⟨x0, x1, x2, x3, -, -, -, -⟩ := blk4 HX.out
    obtain ⟨c0, c1, c2, c3, g0, g1, g2, g3⟩ := blk4 HC.out
    have hbr := HB.out.lt
    by_cases he : e = 0
    · subst he
      have q2 : wr.cell? ⟨b, 2, none⟩ = some (.int .i64 0) := HB.out.cell 2
      have HI := hid (fun n => is_quiet HB.out 93 n)
      cases h93 : isM s i 93
      · rw [h93] at HI
        have h93' := hid h93
        clear h93
        go_wp2_with fail
        refine (HI.out 0).mono ?_
        rintro x w0 ⟨rfl, m3, rfl⟩
        obtain ⟨w7, hw7⟩ : ∃ w7, wr.drewN m3 = w7 := ⟨_, rfl⟩
        have HX7 : Hid (Blk w7 X 232 #[w64 y.w0, w64 y.w1, w64 y.w2, w64 y.w3]) := by rw [← hw7]; exact HX.out
        have HB7 : Hid (Blk w7 b 285 #[.string s, .int .i64 (i : Int), .int .i64 0]) := by rw [← hw7]; exact HB.out
        have HC7 : Hid (Blk w7 w.heap.size 232 #[.int .u64 0, .int .u64 0, .int .u64 0, .int .u64 0]) := by rw [← hw7]; exact HC.out
        have HK7 : Hid (Keep (fun k => k = b) w w7) := by rw [← hw7]; exact HK.out.trans (Keep.drewN (fun k => k = b) wr m3) (fun _ => .inl)
        rw [hw7]
        clear hw7 HI HX HB HC HK q1 q2 f1 x0 x1 x2 x3 c0 c1 c2 c3 g0 g1 g2 g3 hbr
        go_wp2_with fail
        obtain ⟨gk', hgk⟩ : ∃ gk', gk = gk' + 1 := ⟨gk - 1, by have := HFU.out (by trivial); omega⟩
        subst hgk
        have HGO2 : Hid (rdGo s gk' (orM y (rdPart s i).1) (rdPart s i).2.1 (rdPart s i).2.2 = q) := by rw [Hid, ← HGO.out, rdGo, if_pos ⟨rfl, h93'.out⟩]
        have HP := hid (fun (n : Nat) => rdPart_any s i b (w7.drewN n) HB7.out hs hi)
        have HLE := hid (rdPart_le s i hi)
        have HGT : Hid ((rdPart s i).2.2 = 0 → s.size + 1 ≤ (rdPart s i).2.1 + gk') := fun h => by have := rdPart_go s i h; have := HFU.out (by trivial); omega
        obtain ⟨y1, hy1⟩ : ∃ y, (rdPart s i).1 = y := ⟨_, rfl⟩
        obtain ⟨j1, hj1⟩ : ∃ y, (rdPart s i).2.1 = y := ⟨_, rfl⟩
        obtain ⟨e1, he1⟩ : ∃ y, (rdPart s i).2.2 = y := ⟨_, rfl⟩
        rw [hy1, hj1, he1] at HP HGO2
        rw [hj1] at HLE
        rw [hj1, he1] at HGT
        clear hy1 hj1 he1 HGO h93' HFU
        have HOR := hid (fun W => or_any_set y y1 W)
        obtain ⟨y2, hy2⟩ : ∃ z, orM y y1 = z := ⟨_, rfl⟩
        rw [hy2] at HOR HGO2
        clear hy2
        obtain ⟨r0, r1, r2, r3⟩ := y2
        unfold BSet.val at HOR HP
        obtain ⟨x0, x1, x2, x3, -, -, -, -⟩ := blk4 HX7.out
        refine wp_region_ord (.val 1 (.two 0 (.op 2 (.op 3 (.op 4 .nil))) 2 (.op 0 (.op 3 (.op 4 .nil))))) (by kernel_rfl) (by kernel_rfl) ?_
        refine wpOrd_val rfl ?_
        go_big_quiet_step (fail)
        refine wpQuiet_nil ?_
        refine wpOrd_two rfl rfl ?_ ?_
        · go_wp2_with fail
          refine wpOrd_op rfl ?_
          go_wp2_with fail
          refine (HP.out _).mono ?_
          rintro x w8 ⟨rfl, hb8, hk8⟩
          have HB8 := hid hb8
          have HX8 : Hid (Blk w8 X 232 #[w64 y.w0, w64 y.w1, w64 y.w2, w64 y.w3]) := hk8.blk HX7.out (by omega)
          have HC8 : Hid (Blk w8 w.heap.size 232 #[.int .u64 0, .int .u64 0, .int .u64 0, .int .u64 0]) := hk8.blk HC7.out (fun e => hne e.symm)
          have HK8 : Hid (Keep (fun k => k = b) w w8) := (HK7.out.trans (Keep.drewN (fun k => k = b) w7 _) (fun _ => .inl)).trans hk8 (fun _ => .inl)
          obtain ⟨v0, v1, v2, v3, -, -, -, -⟩ := blk4 HX8.out
          clear hb8 hk8 HP
          go_wp2_with fail
          refine wpOrd_op rfl ?_
          go_wp2_with fail
          refine (HOR.out _).mono ?_
          rintro x w9 ⟨rfl, hbl⟩
          have HB9 : Hid (Blk w9 b 285 #[.string s, .int .i64 (j1 : Int), .int .i64 (e1 : Int)]) := HB8.out.below hbl HB8.out.lt
          have HX9 : Hid (Blk w9 X 232 #[w64 y.w0, w64 y.w1, w64 y.w2, w64 y.w3]) := HX8.out.below hbl HX8.out.lt
          have HC9 : Hid (Blk w9 w.heap.size 232 #[.int .u64 0, .int .u64 0, .int .u64 0, .int .u64 0]) := HC8.out.below hbl HC8.out.lt
          have HK9 : Hid (Keep (fun k => k = b) w w9) := HK8.out.trans (Keep.of_below (F := fun k => k = b) hbl) (fun _ => .inl)
          clear hbl HOR HB8 HX8 HC8 HK8
          obtain ⟨u0, u1, u2, u3, t0, t1, t2, t3⟩ := blk4 HX9.out
          have HXA := hid (blk_put4 (b0 := w64 r0) (b1 := w64 r1) (b2 := w64 r2) (b3 := w64 r3) HX9.out)
          have HBA := hid (blk_far4 (g' := X) (b0 := w64 r0) (b1 := w64 r1) (b2 := w64 r2) (b3 := w64 r3) HB9.out (by omega))
          have HCA := hid (blk_far4 (g' := X) (b0 := w64 r0) (b1 := w64 r1) (b2 := w64 r2) (b3 := w64 r3) HC9.out (by omega))
          have HKA := hid (keep_far (g := X) (by omega) HK9.out (w64 r0) (w64 r1) (w64 r2) (w64 r3))
          go_wp2_with fail
          refine wpOrd_op rfl ?_
          go_wp2_with fail
          refine wpOrd_nil ?_
          go_wp2_with fail
          go_roundg gk'
          case measure => omega
          case rel => exact ⟨⟨r0, r1, r2, r3⟩, j1, e1, HLE.out, HGO2.out, HGT.out, HXA.out, HBA.out, HCA.out, HKA.out⟩
        · go_wp2_with fail
          refine (HP.out _).mono ?_
          rintro x w8 ⟨rfl, hb8, hk8⟩
          have HB8 := hid hb8
          have HX8 : Hid (Blk w8 X 232 #[w64 y.w0, w64 y.w1, w64 y.w2, w64 y.w3]) := hk8.blk HX7.out (by omega)
          have HC8 : Hid (Blk w8 w.heap.size 232 #[.int .u64 0, .int .u64 0, .int .u64 0, .int .u64 0]) := hk8.blk HC7.out (fun e => hne e.symm)
          have HK8 : Hid (Keep (fun k => k = b) w w8) := (HK7.out.trans (Keep.drewN (fun k => k = b) w7 _) (fun _ => .inl)).trans hk8 (fun _ => .inl)
          obtain ⟨v0, v1, v2, v3, -, -, -, -⟩ := blk4 HX8.out
          clear hb8 hk8 HP
          go_wp2_with fail
          refine wpOrd_op rfl ?_
          go_wp2_with fail
          refine wpOrd_op rfl ?_
          go_wp2_with fail
          refine (HOR.out _).mono ?_
          rintro x w9 ⟨rfl, hbl⟩
          have HB9 : Hid (Blk w9 b 285 #[.string s, .int .i64 (j1 : Int), .int .i64 (e1 : Int)]) := HB8.out.below hbl HB8.out.lt
          have HX9 : Hid (Blk w9 X 232 #[w64 y.w0, w64 y.w1, w64 y.w2, w64 y.w3]) := HX8.out.below hbl HX8.out.lt
          have HC9 : Hid (Blk w9 w.heap.size 232 #[.int .u64 0, .int .u64 0, .int .u64 0, .int .u64 0]) := HC8.out.below hbl HC8.out.lt
          have HK9 : Hid (Keep (fun k => k = b) w w9) := HK8.out.trans (Keep.of_below (F := fun k => k = b) hbl) (fun _ => .inl)
          clear hbl HOR HB8 HX8 HC8 HK8
          obtain ⟨u0, u1, u2, u3, t0, t1, t2, t3⟩ := blk4 HX9.out
          have HXA := hid (blk_put4 (b0 := w64 r0) (b1 := w64 r1) (b2 := w64 r2) (b3 := w64 r3) HX9.out)
          have HBA := hid (blk_far4 (g' := X) (b0 := w64 r0) (b1 := w64 r1) (b2 := w64 r2) (b3 := w64 r3) HB9.out (by omega))
          have HCA := hid (blk_far4 (g' := X) (b0 := w64 r0) (b1 := w64 r1) (b2 := w64 r2) (b3 := w64 r3) HC9.out (by omega))
          have HKA := hid (keep_far (g := X) (by omega) HK9.out (w64 r0) (w64 r1) (w64 r2) (w64 r3))
          go_wp2_with fail
          refine wpOrd_op rfl ?_
          go_wp2_with fail
          refine wpOrd_nil ?_
          go_wp2_with fail
          go_roundg gk'
          case measure => omega
          case rel => exact ⟨⟨r0, r1, r2, r3⟩, j1, e1, HLE.out, HGO2.out, HGT.out, HXA.out, HBA.out, HCA.out, HKA.out⟩
      · rw [h93] at HI
        have HE : Hid (q = (y, i, 0)) := by rw [Hid, ← HGO.out, rdGo_shut s gk y i 0 h93]
        clear h93 HGO
        go_wp2_with fail
        refine (HI.out 0).mono ?_
        rintro x w0 ⟨rfl, m3, rfl⟩
        obtain ⟨w7, hw7⟩ : ∃ w7, wr.drewN m3 = w7 := ⟨_, rfl⟩
        have HX7 : Hid (Blk w7 X 232 #[w64 y.w0, w64 y.w1, w64 y.w2, w64 y.w3]) := by rw [← hw7]; exact HX.out
        have HB7 : Hid (Blk w7 b 285 #[.string s, .int .i64 (i : Int), .int .i64 0]) := by rw [← hw7]; exact HB.out
        have HC7 : Hid (Blk w7 w.heap.size 232 #[.int .u64 0, .int .u64 0, .int .u64 0, .int .u64 0]) := by rw [← hw7]; exact HC.out
        have HK7 : Hid (Keep (fun k => k = b) w w7) := by rw [← hw7]; exact HK.out.trans (Keep.drewN (fun k => k = b) wr m3) (fun _ => .inl)
        rw [hw7]
        clear hw7 HI HX HB HC HK q1 q2 f1 x0 x1 x2 x3 c0 c1 c2 c3 g0 g1 g2 g3 hbr
        have q1 : w7.cell? ⟨b, 1, none⟩ = some (.int .i64 (i : Int)) := HB7.out.cell 1
        have q2 : w7.cell? ⟨b, 2, none⟩ = some (.int .i64 0) := HB7.out.cell 2
        have f1 := HB7.out.frozen 1
        have hbr := HB7.out.lt
        obtain ⟨j, hj⟩ : ∃ j, i + 1 = j := ⟨_, rfl⟩
        have hj2 : ((i : Int) + 1) = (j : Int) := by omega
        have HJ := hid hj
        clear hj
        have HB8 : Hid (Blk (w7.setCell ⟨b, 1, none⟩ (.int .i64 (j : Int))) b 285 #[.string s, .int .i64 (j : Int), .int .i64 0]) := HB7.out.set 1 (.int .i64 (j : Int))
        have HX8 : Hid (Blk (w7.setCell ⟨b, 1, none⟩ (.int .i64 (j : Int))) X 232 #[w64 y.w0, w64 y.w1, w64 y.w2, w64 y.w3]) := HX7.out.set_far (by omega)
        have HC8 : Hid (Blk (w7.setCell ⟨b, 1, none⟩ (.int .i64 (j : Int))) w.heap.size 232 #[.int .u64 0, .int .u64 0, .int .u64 0, .int .u64 0]) := HC7.out.set_far (Ne.symm hne)
        have HK8 : Hid (Keep (fun k => k = b) w (w7.setCell ⟨b, 1, none⟩ (.int .i64 (j : Int)))) := HK7.out.trans (Keep.setCell (fun k => k = b) w7 ⟨b, 1, none⟩ (.int .i64 (j : Int)) rfl) (fun _ => .inl)
        obtain ⟨x0, x1, x2, x3, -, -, -, -⟩ := blk4 HX8.out
        obtain ⟨c0, c1, c2, c3, g0, g1, g2, g3⟩ := blk4 HC8.out
        have HN := hid (fun W => negate_any y W)
        obtain ⟨y2, hy2⟩ : ∃ z, notM y = z := ⟨_, rfl⟩
        rw [hy2] at HN
        have HY2 := hid hy2
        clear hy2
        obtain ⟨r0, r1, r2, r3⟩ := y2
        unfold BSet.val at HN
        go_wp2_with fail
        obtain ⟨w8, hw8⟩ : ∃ w8, w7.setCell ⟨b, 1, none⟩ (.int .i64 (j : Int)) = w8 := ⟨_, rfl⟩
        rw [hw8] at HB8 HX8 HC8 HK8 x0 x1 x2 x3 c0 c1 c2 c3 g0 g1 g2 g3 ⊢
        clear hw8 HX7 HB7 HC7 HK7 q1 q2 f1 hbr hj2
        refine (HN.out _).mono ?_
        rintro x w9 ⟨rfl, hbl⟩
        have HB9 : Hid (Blk w9 b 285 #[.string s, .int .i64 (j : Int), .int .i64 0]) := HB8.out.below hbl HB8.out.lt
        have HC9 : Hid (Blk w9 w.heap.size 232 #[.int .u64 0, .int .u64 0, .int .u64 0, .int .u64 0]) := HC8.out.below hbl HC8.out.lt
        have HK9 : Hid (Keep (fun k => k = b) w w9) := HK8.out.trans (Keep.of_below (F := fun k => k = b) hbl) (fun _ => .inl)
        clear hbl HN HB8 HC8 HK8 c0 c1 c2 c3 g0 g1 g2 g3
        obtain ⟨c0, c1, c2, c3, g0, g1, g2, g3⟩ := blk4 HC9.out
        obtain ⟨z0, z1, z2, z3, -, -, -, -⟩ := blk4 (blk_put4 (b0 := w64 r0) (b1 := w64 r1) (b2 := w64 r2) (b3 := w64 r3) HC9.out)
        have HQ := hid (blk_far4 (g' := w.heap.size) (b0 := w64 r0) (b1 := w64 r1) (b2 := w64 r2) (b3 := w64 r3) HB9.out hne)
        have HKK := hid (keep_far (Nat.le_refl _) HK9.out (w64 r0) (w64 r1) (w64 r2) (w64 r3))
        go_wp2_with fail
        exact bodyPost_ret (v := .agg #[w64 r0, w64 r1, w64 r2, w64 r3]) (by simp [results, Try.results212, go_sem, z0, z1, z2, z3]) rfl
          ⟨by rw [← HV.out, HE.out, H94.out]; simp only [if_true]; rw [HY2.out]; rfl, by rw [← HPP.out, HE.out]; simp only [if_true]; rw [HJ.out]; exact HQ.out, HKK.out⟩
    · have HE : Hid (q = (y, i, e)) := by rw [Hid, ← HGO.out, rdGo_bad s gk y i e he]
      have q2 : wr.cell? ⟨b, 2, none⟩ = some (.int .i64 (e : Int)) := HB.out.cell 2
      have he0 : ((e : Int) == 0) = false := by simp; omega
      have HZ := hid (blk_put4 (b0 := .int .u64 0) (b1 := .int .u64 0) (b2 := .int .u64 0) (b3 := .int .u64 0) HC.out)
      have HQ := hid (blk_far4 (g' := w.heap.size) (b0 := .int .u64 0) (b1 := .int .u64 0) (b2 := .int .u64 0) (b3 := .int .u64 0) HB.out hne)
      have HKK := hid (keep_far (Nat.le_refl _) HK.out (.int .u64 0) (.int .u64 0) (.int .u64 0) (.int .u64 0))
      go_wp2_with fail
      obtain ⟨z0, z1, z2, z3, -, -, -, -⟩ := blk4 HZ.out
      exact bodyPost_ret (v := .agg #[.int .u64 0, .int .u64 0, .int .u64 0, .int .u64 0]) (by simp [results, Try.results212, go_sem, z0, z1, z2, z3]) rfl
        ⟨by rw [← HV.out, HE.out]; simp only [if_neg he]; rfl, by rw [← HPP.out, HE.out]; simp only [if_neg he]; exact HQ.out, HKK.out⟩

/-- The whole text. -/
theorem rdWhole_any (s : ByteArray) (b : Nat) (w : World) (h : Blk w b 285 #[.string s, .int .i64 0, .int .i64 0]) (hs : s.size ≤ 1000000) :
    Calls Try.prog 212 #[.pointer (some ⟨b, 0, none⟩)] w fun x w' => x = .returned (rdWhole s).1.val ∧
      Blk w' b 285 #[.string s, .int .i64 ((rdWhole s).2.1 : Nat), .int .i64 ((rdWhole s).2.2 : Nat)] ∧ Keep (fun k => k = b) w w' := by
  cases h91 : isM s 0 91
  · refine (rdWhole_no s b w h h91).mono fun x w' ⟨hx, hb, hk⟩ => ?_
    have HE : rdWhole s = (BSet.zero, stopAt s 0, stopE s 0) := by rw [rdWhole, if_neg (by rw [h91]; decide)]
    rw [HE]; exact ⟨hx, hb, hk⟩
  · cases h94 : isM s 1 94
    · refine (rdWhole_one s b w h hs h91 h94 _ rfl _ _ rfl rfl).mono fun x w' ⟨hx, hb, hk⟩ => ?_
      simp only [rdWhole, h91, h94, if_true, Bool.false_eq_true, if_false] at hx ⊢
      split at hx
      · rename_i h0
        rw [if_pos h0] at hb
        rw [if_pos h0]
        rw [h0] at hb
        exact ⟨hx, hb, hk⟩
      · rename_i h0
        rw [if_neg h0] at hb
        rw [if_neg h0]
        exact ⟨hx, hb, hk⟩
    · refine (rdWhole_but s b w h hs h91 h94 _ rfl _ _ rfl rfl).mono fun x w' ⟨hx, hb, hk⟩ => ?_
      simp only [rdWhole, h91, h94, if_true] at hx ⊢
      split at hx
      · rename_i h0
        rw [if_pos h0] at hb
        rw [if_pos h0]
        rw [h0] at hb
        exact ⟨hx, hb, hk⟩
      · rename_i h0
        rw [if_neg h0] at hb
        rw [if_neg h0]
        exact ⟨hx, hb, hk⟩
end Go.Proofs.Ytdbiodofofnpgaa
namespace Go.Proofs.Ytdbiodofofnpgaa
open Go.RowKit

def flagEnd (x : BSet) : Nat → Nat → Nat
  | 0, k => k
  | f + 1, k => if k < 256 ∧ x.has k = true then flagEnd x f (k + 1) else k
/-- Where the run of a set ends that begins at k. -/
def runEnd (x : BSet) (k : Nat) : Nat := flagEnd x (256 - k) k
theorem runEnd_step (x : BSet) (k : Nat) (h : k < 256) (hx : x.has k = true) : runEnd x k = runEnd x (k + 1) := by
  unfold runEnd
  rw [show 256 - k = (256 - (k + 1)) + 1 from by omega, flagEnd, if_pos ⟨h, hx⟩]
theorem runEnd_stop (x : BSet) (k : Nat) (h : ¬ (k < 256 ∧ x.has k = true)) : runEnd x k = k := by
  unfold runEnd
  cases 256 - k with
  | zero => rfl
  | succ f => rw [flagEnd, if_neg h]
theorem runEnd_facts (x : BSet) (n k : Nat) (hn : 256 - k = n) (hk : k ≤ 256) : k ≤ runEnd x k ∧ runEnd x k ≤ 256 ∧ (∀ c, k ≤ c → c < runEnd x k → x.has c = true) ∧ (runEnd x k < 256 → x.has (runEnd x k) = false) := by
  induction n generalizing k with
  | zero =>
    rw [runEnd_stop x k (by omega)]
    exact ⟨Nat.le_refl _, hk, fun c h1 h2 => by omega, fun h => by omega⟩
  | succ n ih =>
    by_cases h : x.has k = true
    · rw [runEnd_step x k (by omega) h]
      obtain ⟨h1, h2, h3, h4⟩ := ih (k + 1) (by omega) (by omega)
      refine ⟨by omega, h2, fun c hc1 hc2 => ?_, h4⟩
      by_cases he : c = k
      · rw [he]; exact h
      · exact h3 c (by omega) hc2
    · rw [runEnd_stop x k (fun hh => h hh.2)]
      exact ⟨Nat.le_refl _, hk, fun c h1 h2 => by omega, fun _ => by simpa using h⟩

def prM (x : BSet) : Nat → Nat → List Nat
  | 0, _ => []
  | f + 1, b =>
    if b < 256 then
      if 2 < runEnd x b - b then signM b ++ ([45] ++ (signM (runEnd x b - 1) ++ prM x f (runEnd x b)))
      else if b < runEnd x b then signM b ++ prM x f (b + 1) else prM x f (b + 1)
    else []
theorem prM_fuel (x : BSet) (f f' b : Nat) (h : 256 - b ≤ f) (h' : 256 - b ≤ f') : prM x f b = prM x f' b := by
  induction f generalizing f' b with
  | zero =>
    cases f' with
    | zero => rfl
    | succ f' => rw [prM, prM, if_neg (by omega)]
  | succ f ih =>
    cases f' with
    | zero => rw [prM, prM, if_neg (by omega)]
    | succ f' =>
      rw [prM, prM]
      split
      · split
        · rw [ih f' _ (by omega) (by omega)]
        · rw [ih f' _ (by omega) (by omega)]
      · rfl
/-- The text of a set's bytes from b on. -/
def prA (x : BSet) (b : Nat) : List Nat := prM x 256 b
theorem prA_end (x : BSet) (b : Nat) (h : 256 ≤ b) : prA x b = [] := by
  unfold prA; rw [prM_fuel x 256 0 b (by omega) (by omega)]; rfl
theorem prA_step (x : BSet) (b : Nat) (h : b < 256) : prA x b =
    if 2 < runEnd x b - b then signM b ++ ([45] ++ (signM (runEnd x b - 1) ++ prA x (runEnd x b)))
    else if b < runEnd x b then signM b ++ prA x (b + 1) else prA x (b + 1) := by
  unfold prA
  rw [prM_fuel x 256 (255 - b + 1) b (by omega) (by omega), prM, if_pos h]
  split
  · rw [prM_fuel x (255 - b) 256 (runEnd x b) (by omega) (by omega)]
  · rw [prM_fuel x (255 - b) 256 (b + 1) (by omega) (by omega)]

/-! The class package's own way: over the list of all bytes. -/
/-- The bytes of a set from b on. -/
def risen (x : BSet) (b : Nat) : List Nat := (List.range' b (256 - b)).filter x.has
theorem risen_end (x : BSet) (b : Nat) (h : 256 ≤ b) : risen x b = [] := by unfold risen; rw [show 256 - b = 0 from by omega]; rfl
theorem risen_step (x : BSet) (b : Nat) (h : b < 256) : risen x b = if x.has b = true then b :: risen x (b + 1) else risen x (b + 1) := by
  unfold risen
  rw [show 256 - b = (256 - (b + 1)) + 1 from by omega, List.range'_succ, List.filter_cons]
theorem risen_le (x : BSet) (b : Nat) : ∀ c ∈ risen x b, b ≤ c ∧ c < 256 := by
  intro c hc
  unfold risen at hc
  rw [List.mem_filter, List.mem_range'_1] at hc
  omega
theorem bytes_risen (x : BSet) : (bytesM x).map UInt8.toNat = risen x 0 := by
  unfold bytesM bytesTo risen
  rw [List.map_map, List.range_eq_range']
  have : ∀ l : List Nat, (∀ c ∈ l, c < 256) → l.map (UInt8.toNat ∘ UInt8.ofNat) = l := by
    intro l hl
    induction l with
    | nil => rfl
    | cons a l ih =>
      rw [List.map_cons, ih (fun c hc => hl c (List.mem_cons_of_mem _ hc))]
      congr 1
      exact UInt8.toNat_ofNat_of_lt' (hl a List.mem_cons_self)
  exact this _ (fun c hc => by rw [List.mem_filter, List.mem_range'_1] at hc; omega)
theorem drop_getD {l : List Nat} {i a : Nat} {r : List Nat} (h : l.drop i = a :: r) : i < l.length ∧ l.getD i 0 = a ∧ l.drop (i + 1) = r := by
  have hi : i < l.length := by
    rcases Nat.lt_or_ge i l.length with h1 | h1
    · exact h1
    · rw [List.drop_eq_nil_of_le h1] at h; cases h
  rw [List.drop_eq_getElem_cons hi] at h
  injection h with h1 h2
  exact ⟨hi, by simp [List.getD, hi, h1], h2⟩
/-- A run of the list is one of the set. -/
theorem runK_risen (x : BSet) (l : List Nat) (n b i : Nat) (hn : 256 - b = n) (hb : b ≤ 256) (hi : 0 < i) (hp : l.getD (i - 1) 0 + 1 = b) (hd : l.drop i = risen x b) :
    runK l l.length i - i = runEnd x b - b ∧ l.drop (runK l l.length i) = risen x (runEnd x b) ∧ l.getD (runK l l.length i - 1) 0 + 1 = runEnd x b := by
  induction n generalizing b i with
  | zero =>
    have h0 : l.drop i = [] := by rw [hd, risen_end x b (by omega)]
    have hl : l.length ≤ i := by rwa [List.drop_eq_nil_iff] at h0
    rw [runK_stop l i (by omega), runEnd_stop x b (by omega)]
    exact ⟨by omega, hd, hp⟩
  | succ n ih =>
    rw [risen_step x b (by omega)] at hd
    by_cases h : x.has b = true
    · rw [if_pos h] at hd
      obtain ⟨h1, h2, h3⟩ := drop_getD hd
      rw [runK_step l i h1 (by rw [h2, hp]; omega), runEnd_step x b (by omega) h]
      obtain ⟨j1, j2, j3⟩ := ih (b + 1) (i + 1) (by omega) (by omega) (by omega) (by rw [Nat.add_sub_cancel, h2]) h3
      have := (runEnd_facts x _ (b + 1) rfl (by omega)).1
      have := runK_ge l l.length (i + 1)
      exact ⟨by omega, j2, j3⟩
    · rw [if_neg h] at hd
      have hne : ¬ (i < l.length ∧ l.getD i 0 = (l.getD (i - 1) 0 + 1) % 256) := by
        rintro ⟨h1, h2⟩
        have hm : l.getD i 0 ∈ risen x (b + 1) := by
          rw [← hd, List.drop_eq_getElem_cons h1, List.getD, List.getElem?_eq_getElem h1]
          exact List.mem_cons_self
        have := risen_le x _ _ hm
        rw [hp] at h2
        omega
      rw [runK_stop l i hne, runEnd_stop x b (fun hh => h hh.2)]
      refine ⟨by omega, ?_, hp⟩
      rw [risen_step x b (by omega), if_neg h]; exact hd
/-- Both ways give one text. -/
theorem parts_prA (x : BSet) (l : List Nat) (n b i : Nat) (hn : 256 - b = n) (hb : b ≤ 256) (hd : l.drop i = risen x b) : partsA l i = prA x b := by
  induction n using Nat.strongRecOn generalizing b i with
  | _ n ih =>
    by_cases hb2 : 256 ≤ b
    · rw [prA_end x b hb2, partsA_end]
      rw [risen_end x b hb2] at hd
      rwa [List.drop_eq_nil_iff] at hd
    · rw [prA_step x b (by omega)]
      rw [risen_step x b (by omega)] at hd
      by_cases h : x.has b = true
      · rw [if_pos h] at hd
        obtain ⟨h1, h2, h3⟩ := drop_getD hd
        obtain ⟨j1, j2, j3⟩ := runK_risen x l _ (b + 1) (i + 1) rfl (by omega) (by omega) (by rw [Nat.add_sub_cancel, h2]) h3
        rw [← runEnd_step x b (by omega) h] at j1 j2 j3
        obtain ⟨f1, f2, -, -⟩ := runEnd_facts x _ (b + 1) rfl (by omega)
        rw [← runEnd_step x b (by omega) h] at f1 f2
        have hge := runK_ge l l.length (i + 1)
        by_cases h3' : 3 ≤ runK l l.length (i + 1) - i
        · rw [partsA_long l i h1 h3', if_pos (by omega), h2, ih (256 - runEnd x b) (by omega) (runEnd x b) _ rfl f2 j2, show l.getD (runK l l.length (i + 1) - 1) 0 = runEnd x b - 1 from by omega]
        · rw [partsA_short l i h1 h3', if_neg (by omega), if_pos (by omega), h2, ih (256 - (b + 1)) (by omega) (b + 1) _ rfl (by omega) h3]
      · rw [if_neg h] at hd
        rw [runEnd_stop x b (fun hh => h hh.2), if_neg (by omega), if_neg (by omega)]
        exact ih (256 - (b + 1)) (by omega) (b + 1) _ rfl (by omega) hd

/-- Whether a set is printed the other way round. -/
def prNot (x : BSet) : Bool := (bytesM x).length == 0 || decide (128 < (bytesM x).length) && decide ((bytesM x).length < 256)
/-- A set's text. -/
def textM (x : BSet) : List Nat := if prNot x = true then [91, 94] ++ prA (notM x) 0 ++ [93] else [91] ++ prA x 0 ++ [93]
theorem parts_bytes (x : BSet) : partsA ((bytesM x).map UInt8.toNat) 0 = prA x 0 := parts_prA x _ 256 0 0 rfl (by omega) (by rw [List.drop_zero, bytes_risen])
end Go.Proofs.Ytdbiodofofnpgaa
namespace Go.Proofs.Ytdbiodofofnpgaa
open Go.RowKit

/-- What stands in a text from a place on. -/
def At (s : ByteArray) (i : Nat) (l : List Nat) : Prop := (s.data.toList.drop i).map UInt8.toNat = l
theorem At.cons {s : ByteArray} {i y : Nat} {r : List Nat} (h : At s i (y :: r)) : i < s.size ∧ (s.data.toList.getD i 0).toNat = y ∧ At s (i + 1) r := by
  unfold At at h
  have hi : i < s.data.toList.length := by
    rcases Nat.lt_or_ge i s.data.toList.length with h1 | h1
    · exact h1
    · rw [List.drop_eq_nil_of_le h1] at h; cases h
  rw [List.drop_eq_getElem_cons hi, List.map_cons] at h
  injection h with h1 h2
  refine ⟨by simpa using hi, ?_, h2⟩
  rw [List.getD, List.getElem?_eq_getElem hi, Option.getD_some, h1]
theorem At.nil {s : ByteArray} {i : Nat} (h : At s i []) : s.size ≤ i := by
  unfold At at h
  rw [List.map_eq_nil_iff, List.drop_eq_nil_iff] at h
  simpa using h
theorem At.is {s : ByteArray} {i y : Nat} {r : List Nat} (h : At s i (y :: r)) (c : Nat) : isM s i c = (y == c) := by
  obtain ⟨h1, h2, -⟩ := h.cons
  rw [isM, decide_eq_true h1, Bool.true_and, h2]
theorem At.is_nil {s : ByteArray} {i : Nat} (h : At s i []) (c : Nat) : isM s i c = false := by
  have := h.nil
  rw [isM, decide_eq_false (by omega), Bool.false_and]
theorem At.append {s : ByteArray} {i : Nat} {l r : List Nat} (h : At s i (l ++ r)) : At s (i + l.length) r := by
  induction l generalizing i with
  | nil => exact h
  | cons a l ih =>
    have := ih h.cons.2.2
    rwa [List.length_cons, show i + (l.length + 1) = i + 1 + l.length from by omega]

theorem rdSign_sign {s : ByteArray} {i c : Nat} {r : List Nat} (h : At s i (signM c ++ r)) : rdSign s i 0 = (c, i + (signM c).length, 0) := by
  unfold signM at h ⊢
  by_cases hc : c = 37 ∨ c = 93 ∨ c = 45 ∨ c = 94
  · rw [if_pos hc] at h ⊢
    have h1 : At s i (37 :: (c :: r)) := h
    obtain ⟨-, -, h2⟩ := h1.cons
    obtain ⟨h3, h4, -⟩ := h2.cons
    rw [rdSign, if_pos (by rw [h1.is]; rfl), if_pos h3, h4]; rfl
  · rw [if_neg hc] at h ⊢
    have h1 : At s i (c :: r) := h
    obtain ⟨h2, h3, -⟩ := h1.cons
    rw [rdSign, if_neg (by rw [h1.is, beq_iff_eq]; omega), if_pos ⟨h2, by rw [h1.is, beq_eq_false_iff_ne]; omega, by rw [h1.is, beq_eq_false_iff_ne]; omega⟩, h3]; rfl
theorem rdPart_long {s : ByteArray} {i a t : Nat} {r : List Nat} (h : At s i (signM a ++ ([45] ++ (signM t ++ r)))) (hat : a ≤ t) :
    rdPart s i = (spanTo a (t + 1 - a), i + (signM a).length + 1 + (signM t).length, 0) := by
  have h1 := rdSign_sign h
  have h2 := h.append
  have h3 : At s (i + (signM a).length) (45 :: (signM t ++ r)) := h2
  have h4 := rdSign_sign h3.cons.2.2
  simp only [rdPart, h1]
  rw [if_pos ⟨trivial, by rw [h3.is]; rfl⟩, h4, if_neg (by simp only; omega)]
theorem rdPart_short {s : ByteArray} {i a : Nat} {r : List Nat} (h : At s i (signM a ++ r)) (hn : isM s (i + (signM a).length) 45 = false) :
    rdPart s i = (spanTo a 1, i + (signM a).length, 0) := by
  have h1 := rdSign_sign h
  simp only [rdPart, h1]
  rw [if_neg (by rw [hn]; simp)]
theorem sign_head (c : Nat) (r : List Nat) : ∃ y r', signM c ++ r = y :: r' ∧ y ≠ 45 ∧ y ≠ 93 ∧ y ≠ 94 := by
  unfold signM
  split
  · exact ⟨37, c :: r, rfl, by decide, by decide, by decide⟩
  · exact ⟨c, r, rfl, by omega, by omega, by omega⟩
theorem prA_head (x : BSet) (n b : Nat) (hn : 256 - b = n) : (prA x b = [] ∧ ∀ c, b ≤ c → c < 256 → x.has c = false) ∨ ∃ y r, prA x b = y :: r ∧ y ≠ 45 ∧ y ≠ 93 ∧ y ≠ 94 := by
  induction n generalizing b with
  | zero => exact .inl ⟨prA_end x b (by omega), fun c _ _ => by omega⟩
  | succ n ih =>
    rw [prA_step x b (by omega)]
    split
    · exact .inr (sign_head _ _)
    · split
      · exact .inr (sign_head _ _)
      · rename_i h1 h2
        rcases ih (b + 1) (by omega) with ⟨h3, h4⟩ | h3
        · refine .inl ⟨h3, fun c hc1 hc2 => ?_⟩
          by_cases he : c = b
          · rw [he]
            cases hx : x.has b
            · rfl
            · exfalso
              have hstep := runEnd_step x b (by omega) hx
              have := (runEnd_facts x _ (b + 1) rfl (by omega)).1
              omega
          · exact h4 c (by omega) hc2
        · exact .inr h3

theorem rdGo_prA (s : ByteArray) (x : BSet) (t : List Nat) (n b i f : Nat) (out : BSet) (hn : 256 - b = n) (hb : b ≤ 256) (h : At s i (prA x b ++ 93 :: t))
    (ho : ∀ c, c < 256 → out.has c = (x.has c && decide (c < b))) (hf : (prA x b).length ≤ f) :
    ∃ y, rdGo s f out i 0 = (y, i + (prA x b).length, 0) ∧ ∀ c, c < 256 → y.has c = x.has c := by
  induction n using Nat.strongRecOn generalizing b i f out with
  | _ n ih =>
    by_cases hb2 : 256 ≤ b
    · rw [prA_end x b hb2] at h ⊢
      have h1 : At s i (93 :: t) := h
      refine ⟨out, rdGo_shut s f out i 0 (by rw [h1.is]; rfl), fun c hc => ?_⟩
      rw [ho c hc, decide_eq_true (by omega), Bool.and_true]
    · by_cases hx : x.has b = true
      · have hstep := runEnd_step x b (by omega) hx
        obtain ⟨f1, f2, f3, f4⟩ := runEnd_facts x _ (b + 1) rfl (by omega)
        rw [← hstep] at f1 f2 f3 f4
        rw [prA_step x b (by omega)] at h hf ⊢
        by_cases hl : 2 < runEnd x b - b
        · rw [if_pos hl] at h hf ⊢
          obtain ⟨k, hk⟩ : ∃ k, runEnd x b = k := ⟨_, rfl⟩
          rw [hk] at h hf f1 f2 f3 f4 hl ⊢
          have h' : At s i (signM b ++ ([45] ++ (signM (k - 1) ++ (prA x k ++ 93 :: t)))) := by simpa [List.append_assoc] using h
          have hp := rdPart_long h' (by omega)
          have h93 : isM s i 93 = false := by
            obtain ⟨y, r', hy, -, h2, -⟩ := sign_head b ([45] ++ (signM (k - 1) ++ (prA x k ++ 93 :: t)))
            rw [hy] at h'
            rw [h'.is, beq_eq_false_iff_ne]; exact h2
          have h2 : At s (i + (signM b).length + 1 + (signM (k - 1)).length) (prA x k ++ 93 :: t) := by
            have := h'.append.cons.2.2
            exact At.append (l := signM (k - 1)) this
          simp only [List.length_append, List.length_cons, List.length_nil] at hf ⊢
          cases f with
          | zero => omega
          | succ f =>
            rw [rdGo, if_pos ⟨rfl, h93⟩, hp]
            obtain ⟨y, hy1, hy2⟩ := ih (256 - k) (by omega) k _ f (orM out (spanTo b (k - 1 + 1 - b))) rfl f2 h2 (fun c hc => by
              rw [has_orM _ _ _ hc, ho c hc, has_spanTo _ _ _ (by omega) hc]
              by_cases c1 : c < b
              · rw [decide_eq_true c1, decide_eq_true (show c < k by omega), decide_eq_false (by omega), Bool.or_false]
              · rw [decide_eq_false c1, Bool.and_false, Bool.false_or]
                by_cases c2 : c < k
                · rw [decide_eq_true c2, Bool.and_true, decide_eq_true (by omega)]
                  by_cases c3 : c = b
                  · rw [c3]; exact hx.symm
                  · exact (f3 c (by omega) c2).symm
                · rw [decide_eq_false c2, Bool.and_false, decide_eq_false (by omega)]) (by omega)
            refine ⟨y, ?_, hy2⟩
            rw [hy1]
            simp only [Prod.mk.injEq, and_true, true_and]; omega
        · rw [if_neg hl, if_pos (by omega)] at h hf ⊢
          have h' : At s i (signM b ++ (prA x (b + 1) ++ 93 :: t)) := by simpa [List.append_assoc] using h
          have h2 : At s (i + (signM b).length) (prA x (b + 1) ++ 93 :: t) := h'.append
          have h45 : isM s (i + (signM b).length) 45 = false := by
            rcases prA_head x _ (b + 1) rfl with ⟨hh, -⟩ | ⟨y, r, hh, hy, -, -⟩
            · rw [hh] at h2
              have h3 : At s (i + (signM b).length) (93 :: t) := h2
              rw [h3.is]; rfl
            · rw [hh] at h2
              have h3 : At s (i + (signM b).length) (y :: (r ++ 93 :: t)) := h2
              rw [h3.is, beq_eq_false_iff_ne]; exact hy
          have hp := rdPart_short h' h45
          have h93 : isM s i 93 = false := by
            obtain ⟨y, r', hy, -, h3, -⟩ := sign_head b (prA x (b + 1) ++ 93 :: t)
            rw [hy] at h'
            rw [h'.is, beq_eq_false_iff_ne]; exact h3
          have hpos : 0 < (signM b).length := by unfold signM; split <;> simp
          simp only [List.length_append] at hf ⊢
          cases f with
          | zero => omega
          | succ f =>
            rw [rdGo, if_pos ⟨rfl, h93⟩, hp]
            obtain ⟨y, hy1, hy2⟩ := ih (256 - (b + 1)) (by omega) (b + 1) _ f (orM out (spanTo b 1)) rfl (by omega) h2 (fun c hc => by
              rw [has_orM _ _ _ hc, ho c hc, has_spanTo _ _ _ (by omega) hc]
              by_cases c1 : c < b
              · rw [decide_eq_true c1, decide_eq_true (show c < b + 1 by omega), decide_eq_false (by omega), Bool.or_false]
              · rw [decide_eq_false c1, Bool.and_false, Bool.false_or]
                by_cases c2 : c < b + 1
                · rw [decide_eq_true c2, Bool.and_true, decide_eq_true (by omega), show c = b from by omega]; exact hx.symm
                · rw [decide_eq_false c2, Bool.and_false, decide_eq_false (by omega)]) (by omega)
            refine ⟨y, ?_, hy2⟩
            rw [hy1]
            simp only [Prod.mk.injEq, and_true, true_and]; omega
      · have hs : prA x b = prA x (b + 1) := by
          rw [prA_step x b (by omega), runEnd_stop x b (fun hh => hx hh.2), if_neg (by omega), if_neg (by omega)]
        rw [hs] at h hf ⊢
        refine ih (256 - (b + 1)) (by omega) (b + 1) i f out rfl (by omega) h (fun c hc => ?_) hf
        rw [ho c hc]
        by_cases c1 : c = b
        · rw [c1, show x.has b = false from by simpa using hx]; rfl
        · rw [show decide (c < b) = decide (c < b + 1) from by rw [decide_eq_decide]; omega]

theorem bytes_none (x : BSet) (h : ∀ c, c < 256 → x.has c = false) : (bytesM x).length = 0 := by
  rw [← List.length_map (f := UInt8.toNat), bytes_risen, risen, List.length_eq_zero_iff, List.filter_eq_nil_iff]
  intro c hc
  rw [List.mem_range'_1] at hc
  rw [h c (by omega)]; simp
theorem bytes_all (x : BSet) (h : ∀ c, c < 256 → x.has c = true) : (bytesM x).length = 256 := by
  rw [← List.length_map (f := UInt8.toNat), bytes_risen, risen, List.filter_eq_self.2, List.length_range']
  intro c hc
  rw [List.mem_range'_1] at hc
  exact h c (by omega)
theorem orM_zero (x : BSet) : orM BSet.zero x = x := by
  refine BSet.ext_has fun c hc => ?_
  rw [has_orM _ _ _ hc, has_zero, Bool.false_or]

theorem rdFirst (s : ByteArray) (i f : Nat) (h : isM s i 93 = false) : rdGo s f (rdPart s i).1 (rdPart s i).2.1 (rdPart s i).2.2 = rdGo s (f + 1) BSet.zero i 0 := by
  rw [rdGo, if_pos ⟨rfl, h⟩, orM_zero]
theorem At.size {s : ByteArray} {l : List Nat} (h : At s 0 l) : s.size = l.length := by
  have := congrArg List.length (show (s.data.toList.drop 0).map UInt8.toNat = l from h)
  rw [List.length_map, List.drop_zero] at this
  simpa using this
/-- A set's text is read back, whatever stands behind it. -/
theorem rdWhole_text (s : ByteArray) (x : BSet) (t : List Nat) (h : At s 0 (textM x ++ t)) : rdWhole s = (x, (textM x).length, 0) := by
  have hsz := h.size
  unfold textM at h hsz ⊢
  by_cases hp : prNot x = true
  · rw [if_pos hp] at h hsz ⊢
    have h0 : At s 0 (91 :: (94 :: (prA (notM x) 0 ++ 93 :: t))) := by simpa [List.append_assoc] using h
    have h1 : At s 1 (94 :: (prA (notM x) 0 ++ 93 :: t)) := h0.cons.2.2
    have h2 : At s 2 (prA (notM x) 0 ++ 93 :: t) := h1.cons.2.2
    have hne : (bytesM x).length ≠ 256 := by
      intro h0
      rw [prNot, h0] at hp
      simp at hp
    rcases prA_head (notM x) _ 0 rfl with ⟨-, hh⟩ | ⟨y, r, hh, -, hy2, hy3⟩
    · exact absurd (bytes_all x (fun c hc => by have := hh c (Nat.zero_le _) hc; rw [has_notM _ _ hc] at this; simpa using this)) hne
    · have h3 : At s 2 (y :: (r ++ 93 :: t)) := by rw [hh] at h2; exact h2
      have h94 : isM s 1 94 = true := by rw [h1.is]; rfl
      have h93 : isM s 2 93 = false := by rw [h3.is, beq_eq_false_iff_ne]; exact hy2
      simp only [List.length_append, List.length_cons, List.length_nil] at hsz ⊢
      obtain ⟨z, hz1, hz2⟩ := rdGo_prA s (notM x) t 256 0 2 (s.size + 1 + 1) BSet.zero rfl (by omega) h2 (fun c _ => by rw [has_zero]; simp) (by omega)
      have he : notM z = x := BSet.ext_has fun c hc => by rw [has_notM _ _ hc, hz2 c hc, has_notM _ _ hc, Bool.not_not]
      simp only [rdWhole, h94, if_true]
      rw [if_pos (by rw [h0.is]; rfl), rdFirst s 2 _ h93, hz1]
      simp only [if_true]
      rw [he, show 2 + (prA (notM x) 0).length + 1 = (0 + 1 + 1) + (prA (notM x) 0).length + (0 + 1) from by omega]
  · rw [if_neg hp] at h hsz ⊢
    have h0 : At s 0 (91 :: (prA x 0 ++ 93 :: t)) := by simpa [List.append_assoc] using h
    have h1 : At s 1 (prA x 0 ++ 93 :: t) := h0.cons.2.2
    have hne : (bytesM x).length ≠ 0 := by
      intro h0
      rw [prNot, h0] at hp
      simp at hp
    rcases prA_head x _ 0 rfl with ⟨-, hh⟩ | ⟨y, r, hh, -, hy2, hy3⟩
    · exact absurd (bytes_none x (fun c hc => hh c (Nat.zero_le _) hc)) hne
    · have h2 : At s 1 (y :: (r ++ 93 :: t)) := by rw [hh] at h1; exact h1
      have h94 : isM s 1 94 = false := by rw [h2.is, beq_eq_false_iff_ne]; exact hy3
      have h93 : isM s 1 93 = false := by rw [h2.is, beq_eq_false_iff_ne]; exact hy2
      simp only [List.length_append, List.length_cons, List.length_nil] at hsz ⊢
      obtain ⟨z, hz1, hz2⟩ := rdGo_prA s x t 256 0 1 (s.size + 1 + 1) BSet.zero rfl (by omega) h1 (fun c _ => by rw [has_zero]; simp) (by omega)
      have he : z = x := BSet.ext_has hz2
      subst he
      simp only [rdWhole, h94, Bool.false_eq_true, if_false]
      rw [if_pos (by rw [h0.is]; rfl), rdFirst s 1 _ h93, hz1]
      simp only [if_true]
end Go.Proofs.Ytdbiodofofnpgaa
namespace Go.Proofs.Ytdbiodofofnpgaa
open Go.RowKit

/-- What class.Read gives. -/
def readC (s : ByteArray) : BSet × Nat × Nat := if (rdWhole s).2.2 = 0 then ((rdWhole s).1, (rdWhole s).2.1, 0) else (BSet.zero, (rdWhole s).2.1, (rdWhole s).2.2)

set_option maxRecDepth 20000 in
set_option maxHeartbeats 1000000 in
theorem readC_any (s : ByteArray) (w : World) (hs : s.size ≤ 1000000) :
    Calls Try.prog 192 #[.string s] w fun x w' => x = .returned (.tuple #[(readC s).1.val, .int .i64 ((readC s).2.1 : Nat), .int .i64 ((readC s).2.2 : Nat)]) ∧ Below w.heap.size w w' := by
  have HP := hid (fun W hW => rdWhole_any s (w.heap.size + 1) W hW hs)
  have HR : Hid (readC s = if (rdWhole s).2.2 = 0 then ((rdWhole s).1, (rdWhole s).2.1, 0) else (BSet.zero, (rdWhole s).2.1, (rdWhole s).2.2)) := rfl
  obtain ⟨⟨y, i, e⟩, hq⟩ : ∃ q, rdWhole s = q := ⟨_, rfl⟩
  rw [hq] at HP HR
  clear hq
  simp only at HP HR
  have HW0 : Hid (Blk ((w.alloc (.cells #[.int .u64 0, .int .u64 0, .int .u64 0, .int .u64 0] 232)).alloc (.cells #[.string s, .int .i64 0, .int .i64 0] 285)) (w.heap.size + 1) 285 #[.string s, .int .i64 0, .int .i64 0]) := by
    have := Blk.new (w.alloc (.cells #[.int .u64 0, .int .u64 0, .int .u64 0, .int .u64 0] 232)) 285 #[.string s, .int .i64 0, .int .i64 0]
    rwa [World.size_alloc] at this
  go_enter Try.func192, Try.ntmps192
  go_wp2_with fail
  refine (HP.out _ HW0.out).mono ?_
  rintro x w1 ⟨rfl, hb1, hk1⟩
  have HB1 := hid hb1
  have HC1 : Hid (Blk w1 w.heap.size 232 #[.int .u64 0, .int .u64 0, .int .u64 0, .int .u64 0]) := hk1.blk ((Blk.new w _ _).alloc _) (by omega)
  have HBL1 : Hid (Below w.heap.size w w1) := (((Below.refl w.heap.size w).alloc (Nat.le_refl _) _).alloc (by simp) _).trans (hk1.below (by simp; omega) (fun k hk => by have hk' : k = w.heap.size + 1 := hk; omega))
  have hlt1 : w.heap.size + 1 < w1.heap.size := HB1.out.lt
  clear hb1 hk1 HP HW0
  have HX2 : Hid (Blk (w1.alloc (.cells #[.int .u64 (y.w0.toNat : Int), .int .u64 (y.w1.toNat : Int), .int .u64 (y.w2.toNat : Int), .int .u64 (y.w3.toNat : Int)] 232)) w1.heap.size 232 #[w64 y.w0, w64 y.w1, w64 y.w2, w64 y.w3]) := Blk.new w1 232 #[w64 y.w0, w64 y.w1, w64 y.w2, w64 y.w3]
  have HB2 : Hid (Blk (w1.alloc (.cells #[.int .u64 (y.w0.toNat : Int), .int .u64 (y.w1.toNat : Int), .int .u64 (y.w2.toNat : Int), .int .u64 (y.w3.toNat : Int)] 232)) (w.heap.size + 1) 285 #[.string s, .int .i64 (i : Int), .int .i64 (e : Int)]) := HB1.out.alloc _
  have HC2 : Hid (Blk (w1.alloc (.cells #[.int .u64 (y.w0.toNat : Int), .int .u64 (y.w1.toNat : Int), .int .u64 (y.w2.toNat : Int), .int .u64 (y.w3.toNat : Int)] 232)) w.heap.size 232 #[.int .u64 0, .int .u64 0, .int .u64 0, .int .u64 0]) := HC1.out.alloc _
  have HBL2 : Hid (Below w.heap.size w (w1.alloc (.cells #[.int .u64 (y.w0.toNat : Int), .int .u64 (y.w1.toNat : Int), .int .u64 (y.w2.toNat : Int), .int .u64 (y.w3.toNat : Int)] 232))) := HBL1.out.alloc (by omega) _
  unfold BSet.val
  obtain ⟨w2, hw2⟩ : ∃ w2, w1.alloc (.cells #[.int .u64 (y.w0.toNat : Int), .int .u64 (y.w1.toNat : Int), .int .u64 (y.w2.toNat : Int), .int .u64 (y.w3.toNat : Int)] 232) = w2 := ⟨_, rfl⟩
  rw [hw2] at HX2 HB2 HC2 HBL2
  obtain ⟨X, hX⟩ : ∃ X, w1.heap.size = X := ⟨_, rfl⟩
  rw [hX] at HX2 hlt1
  have q1 : w2.cell? ⟨w.heap.size + 1, 1, none⟩ = some (.int .i64 (i : Int)) := HB2.out.cell 1
  obtain ⟨x0, x1, x2, x3, -, -, -, -⟩ := blk4 HX2.out
  obtain ⟨c0, c1, c2, c3, g0, g1, g2, g3⟩ := blk4 HC2.out
  by_cases he : e = 0
  · subst he
    have HE : Hid (readC s = (y, i, 0)) := by rw [Hid, HR.out]; rfl
    clear HR
    have q2 : w2.cell? ⟨w.heap.size + 1, 2, none⟩ = some (.int .i64 0) := HB2.out.cell 2
    have HZ := hid (fun (n : Nat) => blk_put4 (b0 := w64 y.w0) (b1 := w64 y.w1) (b2 := w64 y.w2) (b3 := w64 y.w3) (show Blk (w2.drewN n) w.heap.size 232 #[.int .u64 0, .int .u64 0, .int .u64 0, .int .u64 0] from HC2.out))
    have HQ := hid (fun (n : Nat) => below_put4 (g := w.heap.size) (HBL2.out.trans ((drewN_below w2 n).mono HBL2.out.size)) (Nat.le_refl _) (w64 y.w0) (w64 y.w1) (w64 y.w2) (w64 y.w3))
    have HF := hid (fun (n : Nat) => blk_far4 (g' := w.heap.size) (b0 := w64 y.w0) (b1 := w64 y.w1) (b2 := w64 y.w2) (b3 := w64 y.w3) (show Blk (w2.drewN n) (w.heap.size + 1) 285 #[.string s, .int .i64 (i : Int), .int .i64 ((0 : Nat) : Int)] from HB2.out) (by omega))
    have r1 := (HF.out 1).cell 1
    have r2 := (HF.out 1).cell 2
    simp only [List.getElem?_toArray, List.getElem?_cons_succ, List.getElem?_cons_zero] at r1 r2
    go_wp2_with fail
    refine wp_region_ord (.val 1 (.val 2 (.val 3 (.two 0 (.two 4 (.op 5 (.val 6 (.val 7 (.nil)))) 5 (.op 4 (.val 6 (.val 7 (.nil))))) 4 (.op 0 (.op 5 (.val 6 (.val 7 (.nil))))))))) (by kernel_rfl) (by kernel_rfl) ?_
    refine wpOrd_val rfl ?_
    go_big_quiet_step (fail)
    refine wpQuiet_nil ?_
    refine wpOrd_val rfl ?_
    go_big_quiet_step (fail)
    refine wpQuiet_nil ?_
    refine wpOrd_val rfl ?_
    go_big_quiet_step (fail)
    refine wpQuiet_nil ?_
    refine wpOrd_two rfl rfl ?_ ?_
    · go_wp2_with fail
      refine wpOrd_two rfl rfl ?_ ?_
      · go_wp2_with fail
        refine wpOrd_op rfl ?_
        go_wp2_with fail
        refine wpOrd_val rfl ?_
        go_big_quiet_step (fail)
        refine wpQuiet_nil ?_
        refine wpOrd_val rfl ?_
        go_big_quiet_step (fail)
        refine wpQuiet_nil ?_
        refine wpOrd_nil ?_
        go_wp2_with fail
        obtain ⟨z0, z1, z2, z3, -, -, -, -⟩ := blk4 (HZ.out 1)
        exact bodyPost_ret (v := .tuple #[.agg #[w64 y.w0, w64 y.w1, w64 y.w2, w64 y.w3], .int .i64 (i : Int), .int .i64 0]) (by simp [results, Try.results192, go_sem, z0, z1, z2, z3]) rfl ⟨by rw [HE.out]; rfl, HQ.out 1⟩
      · go_wp2_with fail
        refine wpOrd_op rfl ?_
        go_wp2_with fail
        refine wpOrd_val rfl ?_
        go_big_quiet_step (fail)
        refine wpQuiet_nil ?_
        refine wpOrd_val rfl ?_
        go_big_quiet_step (fail)
        refine wpQuiet_nil ?_
        refine wpOrd_nil ?_
        go_wp2_with fail
        obtain ⟨z0, z1, z2, z3, -, -, -, -⟩ := blk4 (HZ.out 1)
        exact bodyPost_ret (v := .tuple #[.agg #[w64 y.w0, w64 y.w1, w64 y.w2, w64 y.w3], .int .i64 (i : Int), .int .i64 0]) (by simp [results, Try.results192, go_sem, z0, z1, z2, z3]) rfl ⟨by rw [HE.out]; rfl, HQ.out 1⟩
    · go_wp2_with fail
      refine wpOrd_op rfl ?_
      go_wp2_with fail
      refine wpOrd_op rfl ?_
      go_wp2_with fail
      refine wpOrd_val rfl ?_
      go_big_quiet_step (fail)
      refine wpQuiet_nil ?_
      refine wpOrd_val rfl ?_
      go_big_quiet_step (fail)
      refine wpQuiet_nil ?_
      refine wpOrd_nil ?_
      go_wp2_with fail
      obtain ⟨z0, z1, z2, z3, -, -, -, -⟩ := blk4 (HZ.out 1)
      exact bodyPost_ret (v := .tuple #[.agg #[w64 y.w0, w64 y.w1, w64 y.w2, w64 y.w3], .int .i64 (i : Int), .int .i64 0]) (by simp [results, Try.results192, go_sem, z0, z1, z2, z3]) rfl ⟨by rw [HE.out]; rfl, HQ.out 1⟩
  · have HE : Hid (readC s = (BSet.zero, i, e)) := by rw [Hid, HR.out, if_neg he]
    clear HR
    have q2 : w2.cell? ⟨w.heap.size + 1, 2, none⟩ = some (.int .i64 (e : Int)) := HB2.out.cell 2
    have he0 : ((e : Int) == 0) = false := by simp; omega
    have HZ := hid (fun (n : Nat) => blk_put4 (b0 := .int .u64 0) (b1 := .int .u64 0) (b2 := .int .u64 0) (b3 := .int .u64 0) (show Blk (w2.drewN n) w.heap.size 232 #[.int .u64 0, .int .u64 0, .int .u64 0, .int .u64 0] from HC2.out))
    have HQ := hid (fun (n : Nat) => below_put4 (g := w.heap.size) (HBL2.out.trans ((drewN_below w2 n).mono HBL2.out.size)) (Nat.le_refl _) (.int .u64 0) (.int .u64 0) (.int .u64 0) (.int .u64 0))
    have HF := hid (fun (n : Nat) => blk_far4 (g' := w.heap.size) (b0 := .int .u64 0) (b1 := .int .u64 0) (b2 := .int .u64 0) (b3 := .int .u64 0) (show Blk (w2.drewN n) (w.heap.size + 1) 285 #[.string s, .int .i64 (i : Int), .int .i64 (e : Int)] from HB2.out) (by omega))
    have r1 := (HF.out 1).cell 1
    have r2 := (HF.out 1).cell 2
    simp only [List.getElem?_toArray, List.getElem?_cons_succ, List.getElem?_cons_zero] at r1 r2
    go_wp2_with fail
    refine wp_region_ord (.val 0 (.val 1 (.val 2 (.val 3 (.val 5 (.val 6 (.val 7 (.three 4 (.two 8 (.op 9 (.val 10 (.val 11 (.nil)))) 9 (.val 10 (.op 8 (.val 11 (.nil))))) 8 (.two 4 (.op 9 (.val 10 (.val 11 (.nil)))) 9 (.op 4 (.val 10 (.val 11 (.nil))))) 9 (.two 4 (.val 10 (.op 8 (.val 11 (.nil)))) 8 (.op 4 (.val 10 (.val 11 (.nil))))))))))))) (by kernel_rfl) (by kernel_rfl) ?_
    refine wpOrd_val rfl ?_
    go_big_quiet_step (fail)
    refine wpQuiet_nil ?_
    refine wpOrd_val rfl ?_
    go_big_quiet_step (fail)
    refine wpQuiet_nil ?_
    refine wpOrd_val rfl ?_
    go_big_quiet_step (fail)
    refine wpQuiet_nil ?_
    refine wpOrd_val rfl ?_
    go_big_quiet_step (fail)
    refine wpQuiet_nil ?_
    refine wpOrd_val rfl ?_
    go_big_quiet_step (fail)
    refine wpQuiet_nil ?_
    refine wpOrd_val rfl ?_
    go_big_quiet_step (fail)
    refine wpQuiet_nil ?_
    refine wpOrd_val rfl ?_
    go_big_quiet_step (fail)
    refine wpQuiet_nil ?_
    refine wpOrd_three rfl rfl rfl ?_ ?_ ?_
    · go_wp2_with fail
      refine wpOrd_two rfl rfl ?_ ?_
      · go_wp2_with fail
        refine wpOrd_op rfl ?_
        go_wp2_with fail
        refine wpOrd_val rfl ?_
        go_big_quiet_step (fail)
        refine wpQuiet_nil ?_
        refine wpOrd_val rfl ?_
        go_big_quiet_step (fail)
        refine wpQuiet_nil ?_
        refine wpOrd_nil ?_
        go_wp2_with fail
        obtain ⟨z0, z1, z2, z3, -, -, -, -⟩ := blk4 (HZ.out 1)
        exact bodyPost_ret (v := .tuple #[.agg #[.int .u64 0, .int .u64 0, .int .u64 0, .int .u64 0], .int .i64 (i : Int), .int .i64 (e : Int)]) (by simp [results, Try.results192, go_sem, z0, z1, z2, z3]) rfl ⟨by rw [HE.out]; rfl, HQ.out 1⟩
      · go_wp2_with fail
        refine wpOrd_val rfl ?_
        go_big_quiet_step (fail)
        refine wpQuiet_nil ?_
        refine wpOrd_op rfl ?_
        go_wp2_with fail
        refine wpOrd_val rfl ?_
        go_big_quiet_step (fail)
        refine wpQuiet_nil ?_
        refine wpOrd_nil ?_
        go_wp2_with fail
        obtain ⟨z0, z1, z2, z3, -, -, -, -⟩ := blk4 (HZ.out 1)
        exact bodyPost_ret (v := .tuple #[.agg #[.int .u64 0, .int .u64 0, .int .u64 0, .int .u64 0], .int .i64 (i : Int), .int .i64 (e : Int)]) (by simp [results, Try.results192, go_sem, z0, z1, z2, z3]) rfl ⟨by rw [HE.out]; rfl, HQ.out 1⟩
    · go_wp2_with fail
      refine wpOrd_two rfl rfl ?_ ?_
      · go_wp2_with fail
        refine wpOrd_op rfl ?_
        go_wp2_with fail
        refine wpOrd_val rfl ?_
        go_big_quiet_step (fail)
        refine wpQuiet_nil ?_
        refine wpOrd_val rfl ?_
        go_big_quiet_step (fail)
        refine wpQuiet_nil ?_
        refine wpOrd_nil ?_
        go_wp2_with fail
        obtain ⟨z0, z1, z2, z3, -, -, -, -⟩ := blk4 (HZ.out 1)
        exact bodyPost_ret (v := .tuple #[.agg #[.int .u64 0, .int .u64 0, .int .u64 0, .int .u64 0], .int .i64 (i : Int), .int .i64 (e : Int)]) (by simp [results, Try.results192, go_sem, z0, z1, z2, z3]) rfl ⟨by rw [HE.out]; rfl, HQ.out 1⟩
      · go_wp2_with fail
        refine wpOrd_op rfl ?_
        go_wp2_with fail
        refine wpOrd_val rfl ?_
        go_big_quiet_step (fail)
        refine wpQuiet_nil ?_
        refine wpOrd_val rfl ?_
        go_big_quiet_step (fail)
        refine wpQuiet_nil ?_
        refine wpOrd_nil ?_
        go_wp2_with fail
        obtain ⟨z0, z1, z2, z3, -, -, -, -⟩ := blk4 (HZ.out 1)
        exact bodyPost_ret (v := .tuple #[.agg #[.int .u64 0, .int .u64 0, .int .u64 0, .int .u64 0], .int .i64 (i : Int), .int .i64 (e : Int)]) (by simp [results, Try.results192, go_sem, z0, z1, z2, z3]) rfl ⟨by rw [HE.out]; rfl, HQ.out 1⟩
    · go_wp2_with fail
      refine wpOrd_two rfl rfl ?_ ?_
      · go_wp2_with fail
        refine wpOrd_val rfl ?_
        go_big_quiet_step (fail)
        refine wpQuiet_nil ?_
        refine wpOrd_op rfl ?_
        go_wp2_with fail
        refine wpOrd_val rfl ?_
        go_big_quiet_step (fail)
        refine wpQuiet_nil ?_
        refine wpOrd_nil ?_
        go_wp2_with fail
        obtain ⟨z0, z1, z2, z3, -, -, -, -⟩ := blk4 (HZ.out 1)
        exact bodyPost_ret (v := .tuple #[.agg #[.int .u64 0, .int .u64 0, .int .u64 0, .int .u64 0], .int .i64 (i : Int), .int .i64 (e : Int)]) (by simp [results, Try.results192, go_sem, z0, z1, z2, z3]) rfl ⟨by rw [HE.out]; rfl, HQ.out 1⟩
      · go_wp2_with fail
        refine wpOrd_op rfl ?_
        go_wp2_with fail
        refine wpOrd_val rfl ?_
        go_big_quiet_step (fail)
        refine wpQuiet_nil ?_
        refine wpOrd_val rfl ?_
        go_big_quiet_step (fail)
        refine wpQuiet_nil ?_
        refine wpOrd_nil ?_
        go_wp2_with fail
        obtain ⟨z0, z1, z2, z3, -, -, -, -⟩ := blk4 (HZ.out 1)
        exact bodyPost_ret (v := .tuple #[.agg #[.int .u64 0, .int .u64 0, .int .u64 0, .int .u64 0], .int .i64 (i : Int), .int .i64 (e : Int)]) (by simp [results, Try.results192, go_sem, z0, z1, z2, z3]) rfl ⟨by rw [HE.out]; rfl, HQ.out 1⟩

/-- class.Read with its results by their names. -/
theorem readC_whole (s : ByteArray) (x : BSet) (n : Nat) (h : rdWhole s = (x, n, 0)) : readC s = (x, n, 0) := by
  rw [readC, h]; rfl
end Go.Proofs.Ytdbiodofofnpgaa
