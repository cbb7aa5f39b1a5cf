/- HoldCopies: for every patterns and texts the law answers true. No condition. -/
import Derived.Test.YtpkkfdmhbbipoaaHq
import Derived.Test.YtpkkfdmhbbipoaaPl
import Derived.Test.YtpkkfdmhbbipoaaMm
import Derived.IntWalk
import Derived.Test.YtpkkfdmhbbipoaaMi
namespace Go.Proofs.Ytpkkfdmhbbipoaa
open Go.RowKit PopT

theorem rgT_of (s : ByteArray) : rgT s.data.toList = s := by
  obtain ⟨d⟩ := s; show ByteArray.mk d.toList.toArray = _; rw [Array.toArray_toList]
theorem row_none {w : World} {b e size n c : Nat} {A : Option Addr} {xs : List Value} (h : w.ownsRow b e size (.slice A n c) n xs) (hA : A = none) : n = 0 ∧ c = 0 := by
  subst hA
  rcases h.2 with ⟨hv, h0⟩ | ⟨g', cap, cur, hv, _⟩
  · injection hv with _ _ e3; exact ⟨h0, e3⟩
  · cases hv
theorem put_all (s : ByteArray) (m : Nat) (h : s.size ≤ m) : [] ++ s.data.toList.take (min s.size (m - ([] : List UInt8).length)) = s.data.toList := by
  rw [List.nil_append, List.take_of_length_le]
  have : s.data.toList.length = s.size := by simp
  simp only [List.length_nil]; omega
/-- What the reference waits for behind a Begin. -/
def RefQ (er : Nat) (ls : List (List Item)) (W : World) (e : Ending) (w' : World) : Prop := ∃ Av nv cv G, e = .returned (.tuple #[.agg #[.int .i64 16, .string ⟨#[]⟩, .int .i64 0, .slice Av nv cv], .int .i64 ((er : Nat) : Int)]) ∧ PatG G w' ls (.slice Av nv cv) ∧ (∀ k, G k → W.heap.size ≤ k ∧ k < w'.heap.size) ∧ Below W.heap.size W w'
theorem refQ {R : List (List Item) × Nat × Nat} {W : World} {e : Ending} {w' : World} (h : RefB 16 0 [] (.slice none 0 0) R W e w') : RefQ R.2.2 (if R.2.2 = 0 then R.1 else []) W e w' := by
  obtain ⟨hb, ⟨h0, rfl⟩ | ⟨h0, v', rfl, hp⟩⟩ := h
  · rw [if_neg h0]
    exact ⟨none, 0, 0, _, rfl, PatG.nil w', fun k hk => hk.elim, hb⟩
  · have hp0 := hp
    obtain ⟨A, c, vs, rfl, -⟩ := hp
    rw [if_pos h0, h0]
    exact ⟨A, _, c, _, rfl, hp0.toG, fun k hk => hk, hb⟩

set_option maxRecDepth 20000 in
set_option maxHeartbeats 16000000 in
theorem holdCopies_any (A : Option Addr) (n c : Nat) (ps : List ByteArray) (a b : ByteArray) (w : World) (hl : ps.length = n) (hn : ∀ s ∈ ps, s.size ≤ 9223372036854775807) (hr : Rd w A (textCells ps)) (ha : a.size ≤ 9223372036854775807) (hb : b.size ≤ 9223372036854775807) :
    Calls Try.prog 5 #[.slice A n c, .string a, .string b] w fun e w' => e = .returned (.bool true) ∧ Below w.heap.size w w' := by
  have CF := hid (fewT_any A n c ps 3 8 w hl hr hn (by omega) (by omega))
  have HTW := hid (fewTM_twice ps 3 8); have HS8 := hid (fewTM_size ps 3 8); have HL3 := hid (fewTM_length ps 3 8)
  obtain ⟨p1, hp1⟩ : ∃ y, fewTM ps 3 8 = y := ⟨_, rfl⟩
  rw [hp1] at CF HTW HS8 HL3
  obtain ⟨n1, hn1⟩ : ∃ y, p1.length = y := ⟨_, rfl⟩
  have HN1 := hid hn1
  have CG : Hid (∀ A' c' W, Rd W A' (textCells p1) → Calls Try.prog 18 #[.slice A' n1 c', .int .i64 3, .int .i64 8] W fun e w' => ∃ A' c', e = .returned (.slice A' n1 c') ∧ w'.ownsRow W.heap.size 9 1 (.slice A' n1 c') n1 (textCells p1) ∧ Below W.heap.size W w') := fun A' c' W hr => by
    have := fewT_any A' n1 c' p1 3 8 W hn1 hr (fun p hp => by have := HS8.out p hp; omega) (by omega) (by omega)
    rw [HTW.out, hn1] at this
    exact this
  rw [hn1] at CF HL3
  have CA : Hid (∀ W, Calls Try.prog 19 #[.string a, .int .i64 10] W fun e w' => e = .returned (.string (cutM 10 a)) ∧ W = w') := fun W => cut_any a 10 W ha (by omega)
  have CB : Hid (∀ W, Calls Try.prog 19 #[.string b, .int .i64 10] W fun e w' => e = .returned (.string (cutM 10 b)) ∧ W = w') := fun W => cut_any b 10 W hb (by omega)
  have HSA : Hid ((cutM 10 a).size ≤ 10) := cutM_size 10 a
  have HSB : Hid ((cutM 10 b).size ≤ 10) := cutM_size 10 b
  obtain ⟨sa, hsa⟩ : ∃ y, cutM 10 a = y := ⟨_, rfl⟩
  obtain ⟨sb, hsb⟩ : ∃ y, cutM 10 b = y := ⟨_, rfl⟩
  rw [hsa] at CA HSA
  rw [hsb] at CB HSB
  have HGD := hid (newM_good p1); have HFW := hid (newM_few p1)
  obtain ⟨ls, hls⟩ : ∃ y, (if (newM p1).2.2 = 0 then (newM p1).1 else []) = y := ⟨_, rfl⟩
  have HLS := hid hls
  have HPS : Hid (∀ p ∈ p1, p.size ≤ 1000000) := fun p hp => by have := HS8.out p hp; omega
  have HLL : Hid (ls.length ≤ 8 ∧ ∀ l ∈ ls, l.length ≤ 60) := by
    rw [Hid, ← hls]
    split
    · exact ⟨HFW.out, fun l hl => (HGD.out l hl).2.2⟩
    · exact ⟨by simp, fun l hl => by cases hl⟩
  have CRB : Hid (∀ A' c' W, Rd W A' (textCells p1) → Calls Try.prog 24 #[.agg #[.int .i64 16, .string ⟨#[]⟩, .int .i64 0, .slice none 0 0], .slice A' n1 c'] W fun e w' => RefQ (newM p1).2.2 ls W e w') := fun A' c' W hr => by
    rw [← hls]
    exact (refBegin_any 16 0 [] (.slice none 0 0) A' n1 c' p1 W ⟨_, _, _, rfl⟩ hn1 (by have := HL3.out; omega) HPS.out hr).mono (fun e w' h => refQ h)
  have CX : Hid (∀ W, Calls Try.prog 22 #[.int .i64 16] W fun e w' => e = .returned (.agg #[.int .i64 16, .string ⟨#[]⟩, .int .i64 0, .slice none 0 0]) ∧ Below W.heap.size W w') := fun W => refNew_any 16 W
  have HSA1 : Hid (sa.data.toList.length ≤ 10) := by rw [Hid, size_list']; exact HSA.out
  have HSB1 : Hid (sb.data.toList.length ≤ 10) := by rw [Hid, size_list']; exact HSB.out
  -- the looks
  obtain ⟨L1, hL1⟩ : ∃ y, lookM 16 ls [] 0 sa.data.toList = y := ⟨_, rfl⟩
  have hg1 := lookGo_bounds 16 ls (lookN [] 0 sa.data.toList) [] 0 sa.data.toList 0 (by simp) (by simp)
  obtain ⟨L2, hL2⟩ : ∃ y, lookM 16 ls L1.S L1.seen sb.data.toList = y := ⟨_, rfl⟩
  have hb1 : L1.seen ≤ L1.S.length ∧ L1.S.length ≤ 16 := by rw [← hL1]; exact ⟨hg1.1, hg1.2.1⟩
  have hb2 : L2.seen ≤ L2.S.length ∧ L2.S.length ≤ 16 := by
    have := lookGo_bounds 16 ls (lookN L1.S L1.seen sb.data.toList) L1.S L1.seen sb.data.toList 0 hb1.1 hb1.2
    rw [← hL2]; exact ⟨this.1, this.2.1⟩
  have HLB := hid hb1; have HLC := hid hb2
  have CR1 : Hid (∀ W G Av nv cv, PatG G W ls (.slice Av nv cv) → Calls Try.prog 27 #[.agg #[.int .i64 16, .string ⟨#[]⟩, .int .i64 0, .slice Av nv cv], .string sa] W fun e w' => e = .returned (.tuple #[.agg #[.int .i64 16, .string (rgT L1.S), .int .i64 (L1.seen : Int), .slice Av nv cv], .string (rgT L1.R), foundV L1.mtch L1.full L1.arm L1.gone L1.read]) ∧ Below W.heap.size W w') := fun W G Av nv cv hp => by
    have := refLook_any 0 16 0 [] sa.data.toList (.slice Av nv cv) ls W hp.toV (by simp) (by simp) (by omega) (by have := HSA1.out; simp only [List.length_nil]; omega) HLL.out.1 HLL.out.2
    rw [hL1, rgT_of] at this
    exact this
  have CR2 : Hid (∀ W G Av nv cv, PatG G W ls (.slice Av nv cv) → Calls Try.prog 27 #[.agg #[.int .i64 16, .string (rgT L1.S), .int .i64 (L1.seen : Int), .slice Av nv cv], .string sb] W fun e w' => e = .returned (.tuple #[.agg #[.int .i64 16, .string (rgT L2.S), .int .i64 (L2.seen : Int), .slice Av nv cv], .string (rgT L2.R), foundV L2.mtch L2.full L2.arm L2.gone L2.read]) ∧ Below W.heap.size W w') := fun W G Av nv cv hp => by
    have := refLook_any 0 16 L1.seen L1.S sb.data.toList (.slice Av nv cv) ls W hp.toV HLB.out.1 HLB.out.2 (by omega) (by have := HSB1.out; have := HLB.out.2; omega) HLL.out.1 HLL.out.2
    rw [hL2, rgT_of] at this
    exact this
  have CSM : Hid (∀ W, Calls Try.prog 29 #[foundV L2.mtch L2.full L2.arm L2.gone L2.read, foundV L2.mtch L2.full L2.arm L2.gone L2.read] W fun e w' => e = .returned (.bool true) ∧ Below W.heap.size W w') := fun W => same19_any _ _ _ _ _ W
  have CLK1 : Hid (∀ {B b0 F h g gb m W qs P l}, Bag B W (rH b0 F h 16 [] 0 qs P :: rR g gb m sa.data.toList :: l) → P.getD [] = ls → Calls Try.prog 26 #[.pointer (some ⟨h, 0, none⟩), .pointer (some ⟨g, 0, none⟩)] W fun e w' => e = .returned (foundV L1.mtch L1.full L1.arm L1.gone L1.read) ∧ (∃ F', Bag B w' (rH b0 F' h 16 L1.S L1.seen qs P :: rR g gb m L1.R :: l)) ∧ Below B W w' ∧ Keep (fun k => F k ∨ RgF g gb k) W w') := fun H hP => bLook H L1 (by rw [hP]; exact hL1)
  have CLK2 : Hid (∀ {B b0 F h g gb m W qs P l}, Bag B W (rH b0 F h 16 L1.S L1.seen qs P :: rR g gb m sb.data.toList :: l) → P.getD [] = ls → Calls Try.prog 26 #[.pointer (some ⟨h, 0, none⟩), .pointer (some ⟨g, 0, none⟩)] W fun e w' => e = .returned (foundV L2.mtch L2.full L2.arm L2.gone L2.read) ∧ (∃ F', Bag B w' (rH b0 F' h 16 L2.S L2.seen qs P :: rR g gb m L2.R :: l)) ∧ Below B W w' ∧ Keep (fun k => F k ∨ RgF g gb k) W w') := fun H hP => bLook H L2 (by rw [hP]; exact hL2)
  have CFR : Hid (∀ {B b0 F h W qs P l}, Bag B W (rH b0 F h 16 L1.S L1.seen qs P :: l) → Calls Try.prog 31 #[.pointer (some ⟨h, 0, none⟩)] W fun e w' => e = .returned (.int .i64 (((rgT L1.S).size : Int) - (L1.seen : Int))) ∧ Below W.heap.size W w') := fun H => by rw [rgT_size]; exact bFresh H
  have CT1 : Hid (∀ {B b0 F h W qs P l}, Bag B W (rH b0 F h 16 L1.S L1.seen qs P :: l) → Calls Try.prog 30 #[.pointer (some ⟨h, 0, none⟩)] W fun e w' => e = .returned (.string (rgT L1.S)) ∧ Below W.heap.size W w') := fun H => bText H
  have CT2 : Hid (∀ {B b0 F h W qs P l}, Bag B W (rH b0 F h 16 L2.S L2.seen qs P :: l) → Calls Try.prog 30 #[.pointer (some ⟨h, 0, none⟩)] W fun e w' => e = .returned (.string (rgT L2.S)) ∧ Below W.heap.size W w') := fun H => bText H
  have HFU : Hid (∃ f3 f4 f5 : Int, foundV L2.mtch L2.full L2.arm L2.gone L2.read = .agg #[.bool L2.mtch, .bool L2.full, .int .i64 f3, .int .i64 f4, .int .i64 f5]) := ⟨_, _, _, rfl⟩
  obtain ⟨f3, f4, f5, hfu⟩ := HFU.out
  rw [hfu] at CR2 CSM CLK2
  obtain ⟨f1, hf1⟩ : ∃ y, L2.mtch = y := ⟨_, rfl⟩
  obtain ⟨f2, hf2⟩ : ∃ y, L2.full = y := ⟨_, rfl⟩
  rw [hf1, hf2] at CR2 CSM CLK2
  have HT1 : Hid ((rgT L1.S).size ≤ 16) := by rw [Hid, rgT_size]; exact HLB.out.2
  obtain ⟨t1, ht1⟩ : ∃ y, rgT L1.S = y := ⟨_, rfl⟩
  obtain ⟨t2, ht2⟩ : ∃ y, rgT L2.S = y := ⟨_, rfl⟩
  obtain ⟨s1, hs1⟩ : ∃ y : Int, (L1.seen : Int) = y := ⟨_, rfl⟩
  obtain ⟨s2, hs2⟩ : ∃ y : Int, (L2.seen : Int) = y := ⟨_, rfl⟩
  have HSS : Hid (0 ≤ s1 ∧ s1 ≤ 16) := by have := HLB.out; rw [Hid, ← hs1]; omega
  rw [ht1] at CR1 CR2 CFR CT1 HT1
  rw [ht2] at CR2 CT2
  rw [hs1] at CR1 CR2 CFR
  rw [hs2] at CR2
  have CLV := hid (fun W => lives19_any W)
  obtain ⟨er, her⟩ : ∃ y, (newM p1).2.2 = y := ⟨_, rfl⟩
  have HER := hid her
  rw [her] at CRB
  clear hp1 hn1 hsa hsb hls hL1 hL2 hg1 hb1 hb2 hfu hf1 hf2 ht1 ht2 hs1 hs2 her HFU hl hn hr ha hb HTW HS8 HGD HFW
  go_enter Try.func5, Try.ntmps5
  go_wp2_with fail
  refine CF.out.mono ?_
  rintro en w1 ⟨A1, c1, rfl, ho, hb⟩
  have HB1 : Hid (Bag w.heap.size w1 [rO w.heap.size 9 1 (.slice A1 n1 c1) n1 (textCells p1)]) := (Bag.nil w).new (r := rO w.heap.size 9 1 (.slice A1 n1 c1) n1 (textCells p1)) hb ho (fun k hk => ho.lt k hk)
  have HE1 := hid hb
  clear ho hb CF
  go_wp2_with fail
  refine (CA.out _).mono ?_
  rintro en w1' ⟨rfl, rfl⟩
  go_wp2_with fail
  refine (CB.out _).mono ?_
  rintro en w1' ⟨rfl, rfl⟩
  clear CA CB
  have CQ := hid (bNew HB1.out 16 (by omega) (by omega))
  rw [show clampN 16 4096 = 16 from rfl] at CQ
  go_wp2_with fail
  refine CQ.out.mono ?_
  rintro en w2 ⟨b0, F, h, rfl, hg, hb⟩
  have HB2 := hid hg
  have HE2 : Hid (Below w.heap.size w w2) := HE1.out.trans (hb.mono HE1.out.size)
  clear CQ hg hb HB1 HE1
  have CQ := hid (bRing HB2.out 32 (by omega) (by omega))
  rw [show clampN 32 4096 = 32 from rfl] at CQ
  go_wp2_with fail
  refine CQ.out.mono ?_
  rintro en w3 ⟨g1, gb1, rfl, hg, hb⟩
  have HB3 := hid hg
  have HE3 : Hid (Below w.heap.size w w3) := HE2.out.trans (hb.mono HE2.out.size)
  clear CQ hg hb HB2 HE2
  have CQ := hid (bRing HB3.out 32 (by omega) (by omega))
  rw [show clampN 32 4096 = 32 from rfl] at CQ
  go_wp2_with fail
  refine CQ.out.mono ?_
  rintro en w4 ⟨g2, gb2, rfl, hg, hb⟩
  have HB4 := hid hg
  have HE4 : Hid (Below w.heap.size w w4) := HE3.out.trans (hb.mono HE3.out.size)
  clear CQ hg hb HB3 HE3
  go_wp2_with fail
  refine (CX.out _).mono ?_
  rintro en w5 ⟨rfl, hb⟩
  have HB5 := hid (HB4.out.below hb)
  have HE5 : Hid (Below w.heap.size w w5) := HE4.out.trans (hb.mono HE4.out.size)
  clear hb HB4 HE4 CX
  go_upto_region 3 with fail
  obtain ⟨w6, hw6⟩ : ∃ W, w5.alloc (.cells #[.int .i64 16, .string ⟨#[]⟩, .int .i64 0, .slice none 0 0] 51) = W := ⟨_, rfl⟩
  have hb6 := HB5.out.alloc 51 #[.int .i64 16, .string ⟨#[]⟩, .int .i64 0, .slice none 0 0]
  have HE6 : Hid (Below w.heap.size w w6) := by rw [← hw6]; exact HE5.out.alloc HE5.out.size _
  rw [hw6] at hb6 ⊢
  obtain ⟨gx, hgx⟩ : ∃ y, w5.heap.size = y := ⟨_, rfl⟩
  rw [hgx] at hb6 ⊢
  have HB6 : Hid (Bag w.heap.size w6 [rBlk gx 51 #[.int .i64 16, .string ⟨#[]⟩, .int .i64 0, .slice none 0 0], rR g2 gb2 32 [], rR g1 gb1 32 [], rH b0 F h 16 [] 0 [] none, rO w.heap.size 9 1 (.slice A1 n1 c1) n1 (textCells p1)]) := hb6
  clear hw6 hgx hb6 HB5 HE5
  -- the window begins
  have CQ := hid (CG.out A1 c1 w6 (Rd_of_own (HB6.out.get 4 rfl).1))
  go_wp2_with fail
  refine CQ.out.mono ?_
  rintro en w7 ⟨A2, c2, rfl, ho, hb⟩
  have HB7 : Hid (Bag w.heap.size w7 [rH b0 F h 16 [] 0 [] none, rBlk gx 51 #[.int .i64 16, .string ⟨#[]⟩, .int .i64 0, .slice none 0 0], rR g2 gb2 32 [], rR g1 gb1 32 [], rO w.heap.size 9 1 (.slice A1 n1 c1) n1 (textCells p1)]) := (HB6.out.below hb).bring 3 rfl
  have HE7 : Hid (Below w.heap.size w w7) := HE6.out.trans (hb.mono HE6.out.size)
  have HRA := hid (Rd_of_own ho); have HNA := hid (row_none ho)
  clear CQ ho hb HB6 HE6
  have CQ := hid (bBegin HB7.out A2 n1 c2 p1 HN1.out (by have := HL3.out; omega) HPS.out HRA.out HNA.out)
  go_wp2_with fail
  refine CQ.out.mono ?_
  rintro en w8 ⟨rfl, h1, h2, hb⟩
  have HE8 : Hid (Below w.heap.size w w8) := HE7.out.trans hb
  have HQ8 : Hid (∃ F qs P, (P = none ∨ (P = some (newM qs).1 ∧ (newM qs).2.2 = 0)) ∧ (∀ p ∈ qs, p.size ≤ 1000000) ∧ qs.length ≤ 3 ∧ P.getD [] = ls ∧ Bag w.heap.size w8 [rH b0 F h 16 [] 0 qs P, rBlk gx 51 #[.int .i64 16, .string ⟨#[]⟩, .int .i64 0, .slice none 0 0], rR g2 gb2 32 [], rR g1 gb1 32 [], rO w.heap.size 9 1 (.slice A1 n1 c1) n1 (textCells p1)]) := by
    by_cases he : (newM p1).2.2 = 0
    · obtain ⟨F', hf⟩ := h2 he
      exact ⟨F', p1, _, .inr ⟨rfl, he⟩, HPS.out, by rw [HN1.out]; exact HL3.out, by rw [← HLS.out, if_pos he]; rfl, hf⟩
    · exact ⟨F, [], none, .inl rfl, (fun p hp => by cases hp), by simp, by rw [← HLS.out, if_neg he]; rfl, h1 he⟩
  clear CQ h1 h2 hb HB7 HE7 HRA HNA
  obtain ⟨F, qs, P, hq1, hq2, hq3, hq4, hb8⟩ := HQ8.out
  have HQ1 := hid hq1; have HQ2 := hid hq2; have HQ3 := hid hq3; have HQ4 := hid hq4; have HB8 := hid hb8
  clear hq1 hq2 hq3 hq4 hb8 HQ8
  -- the reference begins
  obtain ⟨x0, x1, x2, x3⟩ := fact4 (HB8.out.blk 1 rfl)
  have xl := (HB8.out.blk 1 rfl).lt
  have CQ := hid (CRB.out A1 c1 w8 (Rd_of_own (HB8.out.get 4 rfl).1))
  go_wp2_with fail
  refine CQ.out.mono ?_
  rintro en w9 ⟨Av, nv, cv, G, rfl, hp, hG, hb⟩
  have HB9 : Hid (Bag w.heap.size w9 [rBlk gx 51 #[.int .i64 16, .string ⟨#[]⟩, .int .i64 0, .slice none 0 0], rP G ls (.slice Av nv cv), rH b0 F h 16 [] 0 qs P, rR g2 gb2 32 [], rR g1 gb1 32 [], rO w.heap.size 9 1 (.slice A1 n1 c1) n1 (textCells p1)]) := ((HB8.out.new (r := rP G ls (.slice Av nv cv)) hb hp hG).bring 2 rfl)
  have HE9 : Hid (Below w.heap.size w w9) := HE8.out.trans (hb.mono HE8.out.size)
  clear CQ hp hG hb HB8 HE8 x0 x1 x2 x3 xl
  obtain ⟨x0, x1, x2, x3⟩ := fact4 HB9.out.hd
  have xl := Blk.lt HB9.out.hd
  have xf0 := Blk.frozen HB9.out.hd 0; have xf1 := Blk.frozen HB9.out.hd 1; have xf2 := Blk.frozen HB9.out.hd 2; have xf3 := Blk.frozen HB9.out.hd 3
  go_upto_region 5 with fail
  obtain ⟨wa, hwa⟩ : ∃ W, set4 w9 gx (.int .i64 16) (.string ⟨#[]⟩) (.int .i64 0) (.slice Av nv cv) = W := ⟨_, rfl⟩
  have HBA : Hid (Bag w.heap.size wa [rR g1 gb1 32 [], rBlk gx 51 #[.int .i64 16, .string ⟨#[]⟩, .int .i64 0, .slice Av nv cv], rP G ls (.slice Av nv cv), rH b0 F h 16 [] 0 qs P, rR g2 gb2 32 [], rO w.heap.size 9 1 (.slice A1 n1 c1) n1 (textCells p1)]) := by
    rw [← hwa]
    exact (HB9.out.put (set4_keep _ _ _ _ _ _) (set4_blk HB9.out.hd _ _ _ _)).bring 4 rfl
  have HEA : Hid (Below w.heap.size w wa) := by rw [← hwa]; exact set4_below HE9.out (HB9.out.fin gx rfl).1 _ _ _ _
  unfold set4 at hwa
  rw [hwa]
  clear hwa HB9 HE9 x0 x1 x2 x3 xl xf0 xf1 xf2 xf3
  -- bytes come, and are looked through
  have CQ := hid (bPut HBA.out sa (by have := HSA.out; omega))
  rw [put_all sa 32 (by have := HSA.out; omega)] at CQ
  go_wp2_with fail
  refine CQ.out.mono ?_
  rintro en wb ⟨rfl, hg, hb⟩
  have HBB : Hid (Bag w.heap.size wb [rH b0 F h 16 [] 0 qs P, rR g1 gb1 32 sa.data.toList, rBlk gx 51 #[.int .i64 16, .string ⟨#[]⟩, .int .i64 0, .slice Av nv cv], rP G ls (.slice Av nv cv), rR g2 gb2 32 [], rO w.heap.size 9 1 (.slice A1 n1 c1) n1 (textCells p1)]) := hg.bring 3 rfl
  have HEB : Hid (Below w.heap.size w wb) := HEA.out.trans hb
  clear CQ hg hb HBA HEA
  have CQ := hid (CLK1.out HBB.out HQ4.out)
  unfold foundV at CQ
  go_wp2_with fail
  refine CQ.out.mono ?_
  rintro en wc ⟨rfl, ⟨F3, hg⟩, hb, -⟩
  have HBC : Hid (Bag w.heap.size wc [rH b0 F3 h 16 L1.S L1.seen qs P, rR g1 gb1 32 L1.R, rBlk gx 51 #[.int .i64 16, .string ⟨#[]⟩, .int .i64 0, .slice Av nv cv], rP G ls (.slice Av nv cv), rR g2 gb2 32 [], rO w.heap.size 9 1 (.slice A1 n1 c1) n1 (textCells p1)]) := hg
  have HEC : Hid (Below w.heap.size w wc) := HEB.out.trans hb
  clear CQ hg hb HBB HEB CLK1
  obtain ⟨x0, x1, x2, x3⟩ := fact4 (HBC.out.blk 2 rfl)
  have xl := (HBC.out.blk 2 rfl).lt
  have CQ := hid (CR1.out wc G Av nv cv (HBC.out.get 3 rfl).1)
  unfold foundV at CQ
  go_wp2_with fail
  refine CQ.out.mono ?_
  rintro en wd ⟨rfl, hb⟩
  have HBD : Hid (Bag w.heap.size wd [rBlk gx 51 #[.int .i64 16, .string ⟨#[]⟩, .int .i64 0, .slice Av nv cv], rH b0 F3 h 16 L1.S L1.seen qs P, rR g1 gb1 32 L1.R, rP G ls (.slice Av nv cv), rR g2 gb2 32 [], rO w.heap.size 9 1 (.slice A1 n1 c1) n1 (textCells p1)]) := (HBC.out.below hb).bring 2 rfl
  have HED : Hid (Below w.heap.size w wd) := HEC.out.trans (hb.mono HEC.out.size)
  clear CQ hb HBC HEC CR1 x0 x1 x2 x3 xl
  obtain ⟨x0, x1, x2, x3⟩ := fact4 HBD.out.hd
  have xl := Blk.lt HBD.out.hd
  have xf0 := Blk.frozen HBD.out.hd 0; have xf1 := Blk.frozen HBD.out.hd 1; have xf2 := Blk.frozen HBD.out.hd 2; have xf3 := Blk.frozen HBD.out.hd 3
  go_upto_region 8 with fail
  obtain ⟨we, hwe⟩ : ∃ W, set4 wd gx (.int .i64 16) (.string t1) (.int .i64 s1) (.slice Av nv cv) = W := ⟨_, rfl⟩
  have HBE : Hid (Bag w.heap.size we [rH b0 F3 h 16 L1.S L1.seen qs P, rBlk gx 51 #[.int .i64 16, .string t1, .int .i64 s1, .slice Av nv cv], rR g1 gb1 32 L1.R, rP G ls (.slice Av nv cv), rR g2 gb2 32 [], rO w.heap.size 9 1 (.slice A1 n1 c1) n1 (textCells p1)]) := by
    rw [← hwe]
    exact (HBD.out.put (set4_keep _ _ _ _ _ _) (set4_blk HBD.out.hd _ _ _ _)).bring 1 rfl
  have HEE : Hid (Below w.heap.size w we) := by rw [← hwe]; exact set4_below HED.out (HBD.out.fin gx rfl).1 _ _ _ _
  unfold set4 at hwe
  rw [hwe]
  clear hwe HBD HED x0 x1 x2 x3 xl xf0 xf1 xf2 xf3
  -- the copy
  have CQ := hid (bCopy HBE.out HQ1.out HQ2.out (by have := HQ3.out; omega))
  go_wp2_with fail
  refine CQ.out.mono ?_
  rintro en wf ⟨bc, FC, hc, rfl, hg, hb⟩
  have HBF : Hid (Bag w.heap.size wf [rR g2 gb2 32 [], rH bc FC hc 16 L1.S L1.seen qs P, rH b0 F3 h 16 L1.S L1.seen qs P, rBlk gx 51 #[.int .i64 16, .string t1, .int .i64 s1, .slice Av nv cv], rR g1 gb1 32 L1.R, rP G ls (.slice Av nv cv), rO w.heap.size 9 1 (.slice A1 n1 c1) n1 (textCells p1)]) := hg.bring 5 rfl
  have HEF : Hid (Below w.heap.size w wf) := HEE.out.trans (hb.mono HEE.out.size)
  clear CQ hg hb HBE HEE
  have CQ := hid (bPut HBF.out sb (by have := HSB.out; omega))
  rw [put_all sb 32 (by have := HSB.out; omega)] at CQ
  go_wp2_with fail
  refine CQ.out.mono ?_
  rintro en wg ⟨rfl, hg, hb⟩
  have HBG : Hid (Bag w.heap.size wg [rH bc FC hc 16 L1.S L1.seen qs P, rR g2 gb2 32 sb.data.toList, rH b0 F3 h 16 L1.S L1.seen qs P, rBlk gx 51 #[.int .i64 16, .string t1, .int .i64 s1, .slice Av nv cv], rR g1 gb1 32 L1.R, rP G ls (.slice Av nv cv), rO w.heap.size 9 1 (.slice A1 n1 c1) n1 (textCells p1)]) := hg.bring 1 rfl
  have HEG : Hid (Below w.heap.size w wg) := HEF.out.trans hb
  clear CQ hg hb HBF HEF
  obtain ⟨x0, x1, x2, x3⟩ := fact4 (HBG.out.blk 3 rfl)
  have xl := (HBG.out.blk 3 rfl).lt
  have CQ := hid (CR2.out wg G Av nv cv (HBG.out.get 5 rfl).1)
  go_wp2_with fail
  refine CQ.out.mono ?_
  rintro en wh ⟨rfl, hb⟩
  have HBH := hid (HBG.out.below hb)
  have HEH : Hid (Below w.heap.size w wh) := HEG.out.trans (hb.mono HEG.out.size)
  clear CQ hb HBG HEG CR2 x0 x1 x2 x3 xl
  go_upto_region 11 with fail
  obtain ⟨wi, hwi⟩ : ∃ W, (wh.alloc (.cells #[.int .i64 16, .string t2, .int .i64 s2, .slice Av nv cv] 51)).alloc (.cells #[.bool f1, .bool f2, .int .i64 f3, .int .i64 f4, .int .i64 f5] 61) = W := ⟨_, rfl⟩
  have hbi := (HBH.out.alloc 51 #[.int .i64 16, .string t2, .int .i64 s2, .slice Av nv cv]).alloc 61 #[.bool f1, .bool f2, .int .i64 f3, .int .i64 f4, .int .i64 f5]
  have HEI : Hid (Below w.heap.size w wi) := by rw [← hwi]; exact (HEH.out.alloc HEH.out.size _).alloc (HEH.out.alloc HEH.out.size _).size _
  rw [hwi] at hbi ⊢
  obtain ⟨gf, hgf⟩ : ∃ y, (wh.alloc (.cells #[.int .i64 16, .string t2, .int .i64 s2, .slice Av nv cv] 51)).heap.size = y := ⟨_, rfl⟩
  have hgf2 : wh.heap.size + 1 = gf := by rw [← hgf]; simp
  obtain ⟨gy, hgy⟩ : ∃ y, wh.heap.size = y := ⟨_, rfl⟩
  rw [hgf, hgy] at hbi
  rw [hgy] at hgf2
  rw [hgy, hgf2]
  have HBI : Hid (Bag w.heap.size wi [rH bc FC hc 16 L1.S L1.seen qs P, rR g2 gb2 32 sb.data.toList, rBlk gf 61 #[.bool f1, .bool f2, .int .i64 f3, .int .i64 f4, .int .i64 f5], rBlk gy 51 #[.int .i64 16, .string t2, .int .i64 s2, .slice Av nv cv], rH b0 F3 h 16 L1.S L1.seen qs P, rBlk gx 51 #[.int .i64 16, .string t1, .int .i64 s1, .slice Av nv cv], rR g1 gb1 32 L1.R, rP G ls (.slice Av nv cv), rO w.heap.size 9 1 (.slice A1 n1 c1) n1 (textCells p1)]) := ((hbi.bring 3 rfl).bring 3 rfl)
  clear hwi hgf hgf2 hgy hbi HBH HEH
  obtain ⟨FK, hFK⟩ : ∃ f : Nat → Prop, f = fun k => FC k ∨ RgF g2 gb2 k := ⟨_, rfl⟩
  have HFK := hid hFK
  have HNF : Hid (¬ FK gf ∧ ¬ FK gy ∧ ¬ FK gx) := by rw [Hid, hFK]; exact ⟨HBI.out.nots 0 rfl, HBI.out.nots 1 rfl, HBI.out.nots 3 rfl⟩
  clear hFK
  have hz1 := HSS.out.1; have hz2 := HSS.out.2; have hz3 := HT1.out
  have hwr : IntKind.i64.wrap ((t1.size : Int) - s1) = (t1.size : Int) - s1 := IntWalk.i64_in _ (by omega)
  have Tf0 : ∀ q : KW FK wi, q.1.cell? ⟨gf, 0, none⟩ = some (.bool f1) := fun q => q.cellAt (HBI.out.blk 2 rfl).lt HNF.out.1 ((HBI.out.blk 2 rfl).cell 0)
  have Tf1 : ∀ q : KW FK wi, q.1.cell? ⟨gf, 1, none⟩ = some (.bool f2) := fun q => q.cellAt (HBI.out.blk 2 rfl).lt HNF.out.1 ((HBI.out.blk 2 rfl).cell 1)
  have Tf2 : ∀ q : KW FK wi, q.1.cell? ⟨gf, 2, none⟩ = some (.int .i64 f3) := fun q => q.cellAt (HBI.out.blk 2 rfl).lt HNF.out.1 ((HBI.out.blk 2 rfl).cell 2)
  have Tf3 : ∀ q : KW FK wi, q.1.cell? ⟨gf, 3, none⟩ = some (.int .i64 f4) := fun q => q.cellAt (HBI.out.blk 2 rfl).lt HNF.out.1 ((HBI.out.blk 2 rfl).cell 3)
  have Tf4 : ∀ q : KW FK wi, q.1.cell? ⟨gf, 4, none⟩ = some (.int .i64 f5) := fun q => q.cellAt (HBI.out.blk 2 rfl).lt HNF.out.1 ((HBI.out.blk 2 rfl).cell 4)
  have Ty0 : ∀ q : KW FK wi, q.1.cell? ⟨gy, 0, none⟩ = some (.int .i64 16) := fun q => q.cellAt (HBI.out.blk 3 rfl).lt HNF.out.2.1 ((HBI.out.blk 3 rfl).cell 0)
  have Ty1 : ∀ q : KW FK wi, q.1.cell? ⟨gy, 1, none⟩ = some (.string t2) := fun q => q.cellAt (HBI.out.blk 3 rfl).lt HNF.out.2.1 ((HBI.out.blk 3 rfl).cell 1)
  have Ty2 : ∀ q : KW FK wi, q.1.cell? ⟨gy, 2, none⟩ = some (.int .i64 s2) := fun q => q.cellAt (HBI.out.blk 3 rfl).lt HNF.out.2.1 ((HBI.out.blk 3 rfl).cell 2)
  have Ty3 : ∀ q : KW FK wi, q.1.cell? ⟨gy, 3, none⟩ = some (.slice Av nv cv) := fun q => q.cellAt (HBI.out.blk 3 rfl).lt HNF.out.2.1 ((HBI.out.blk 3 rfl).cell 3)
  have Tx0 : ∀ q : KW FK wi, q.1.cell? ⟨gx, 0, none⟩ = some (.int .i64 16) := fun q => q.cellAt (HBI.out.blk 5 rfl).lt HNF.out.2.2 ((HBI.out.blk 5 rfl).cell 0)
  have Tx1 : ∀ q : KW FK wi, q.1.cell? ⟨gx, 1, none⟩ = some (.string t1) := fun q => q.cellAt (HBI.out.blk 5 rfl).lt HNF.out.2.2 ((HBI.out.blk 5 rfl).cell 1)
  have Tx2 : ∀ q : KW FK wi, q.1.cell? ⟨gx, 2, none⟩ = some (.int .i64 s1) := fun q => q.cellAt (HBI.out.blk 5 rfl).lt HNF.out.2.2 ((HBI.out.blk 5 rfl).cell 2)
  have Tx3 : ∀ q : KW FK wi, q.1.cell? ⟨gx, 3, none⟩ = some (.slice Av nv cv) := fun q => q.cellAt (HBI.out.blk 5 rfl).lt HNF.out.2.2 ((HBI.out.blk 5 rfl).cell 3)
  refine wp_region_ordK FK [] (.val 0 (.val 1 (.val 3 (.op 2 (.op 4 (.val 5 (.val 6 (.val 7 (.val 9 (.val 10 (.op 8 (.val 11 (.val 12 (.val 13 (.val 14 (.val 16 (.val 17 (.op 15 (.val 18 (.val 19 (.val 20 (.val 21 (.val 23 (.val 24 (.val 25 (.val 26 (.val 27 (.val 28 (.op 22 (.val 29 (.val 30 (.nil)))))))))))))))))))))))))))))))) (by kernel_rfl) (by kernel_rfl) ?_
  obtain ⟨wj, hwj⟩ : ∃ W, wi.drewN 1 = W := ⟨_, rfl⟩
  have HKW : Hid (Keep FK wi wj) := by rw [← hwj]; exact Keep.drewN FK wi 1
  have HBJ := hid (HBI.out.below (show Below wi.heap.size wi wj by rw [← hwj]; exact drewN_below wi 1))
  have HEJ : Hid (Below w.heap.size w wj) := by rw [← hwj]; exact HEI.out.trans ((drewN_below wi 1).mono HEI.out.size)
  rw [hwj]
  clear hwj
  refine wpOrdT_val rfl rfl ?_
  go_big_quiet_step (fail)
  refine wpQuiet_nil ?_
  refine wpOrdT_val rfl rfl ?_
  go_big_quiet_step (fail)
  refine wpQuiet_nil ?_
  refine wpOrdT_load rfl rfl (inKW HKW.out) ?_
  go_big_quiet_step (fail)
  refine wpQuiet_nil ?_
  refine wpOrdT_op rfl ?_
  have CQ := hid (CLK2.out HBJ.out HQ4.out)
  go_wp2_with fail
  refine CQ.out.mono ?_
  rintro en wk ⟨rfl, ⟨FD, hg⟩, hb, hk⟩
  have HKn : Hid (Keep FK wi wk) := HKW.out.trans (show Keep FK wj wk by rw [HFK.out]; exact hk) (fun _ h => .inl h)
  have HBn := hid hg
  have HEn : Hid (Below w.heap.size w wk) := HEJ.out.trans hb
  clear HKW HBJ HEJ hg hb hk CQ
  have HKW := HKn
  have HBJ := HBn
  have HEJ := HEn
  clear HKn HBn HEn
  go_wp2_with fail
  refine KT.keep (inKW HKW.out) ?_
  refine wpOrdT_op rfl ?_
  have CQ := hid (CSM.out wk)
  go_wp2_with fail
  refine CQ.out.mono ?_
  rintro en wl ⟨rfl, hb⟩
  have HKn : Hid (Keep FK wi wl) := HKW.out.trans (Keep.of_below hb) (fun _ h => .inl h)
  have HBn := hid (HBJ.out.below hb)
  have HEn : Hid (Below w.heap.size w wl) := HEJ.out.trans (hb.mono HEJ.out.size)
  clear HKW HBJ HEJ hb CQ
  have HKW := HKn
  have HBJ := HBn
  have HEJ := HEn
  clear HKn HBn HEn
  go_wp2_with fail
  refine KT.keep (inKW HKW.out) ?_
  refine wpOrdT_val rfl rfl ?_
  go_big_quiet_step (fail)
  refine wpQuiet_nil ?_
  refine wpOrdT_val rfl rfl ?_
  go_big_quiet_step (fail)
  refine wpQuiet_nil ?_
  refine wpOrdT_val rfl rfl ?_
  go_big_quiet_step (fail)
  refine wpQuiet_nil ?_
  refine wpOrdT_val rfl rfl ?_
  go_big_quiet_step (fail)
  refine wpQuiet_nil ?_
  refine wpOrdT_load rfl rfl (inKW HKW.out) ?_
  go_big_quiet_step (fail)
  refine wpQuiet_nil ?_
  refine wpOrdT_op rfl ?_
  have CQ := hid (CT2.out HBJ.out)
  go_wp2_with fail
  refine CQ.out.mono ?_
  rintro en wm ⟨rfl, hb⟩
  have HKn : Hid (Keep FK wi wm) := HKW.out.trans (Keep.of_below hb) (fun _ h => .inl h)
  have HBn := hid (HBJ.out.below hb)
  have HEn : Hid (Below w.heap.size w wm) := HEJ.out.trans (hb.mono HEJ.out.size)
  clear HKW HBJ HEJ hb CQ
  have HKW := HKn
  have HBJ := HBn
  have HEJ := HEn
  clear HKn HBn HEn
  go_wp2_with fail
  refine KT.keep (inKW HKW.out) ?_
  refine wpOrdT_val rfl rfl ?_
  go_big_quiet_step (fail)
  refine wpQuiet_nil ?_
  refine wpOrdT_val rfl rfl ?_
  go_big_quiet_step (fail)
  refine wpQuiet_nil ?_
  refine wpOrdT_val rfl rfl ?_
  go_big_quiet_step (fail)
  refine wpQuiet_nil ?_
  refine wpOrdT_val rfl rfl ?_
  go_big_quiet_step (fail)
  refine wpQuiet_nil ?_
  refine wpOrdT_val rfl rfl ?_
  go_big_quiet_step (fail)
  refine wpQuiet_nil ?_
  refine wpOrdT_load rfl rfl (inKW HKW.out) ?_
  go_big_quiet_step (fail)
  refine wpQuiet_nil ?_
  refine wpOrdT_op rfl ?_
  have CQ := hid (CT1.out (HBJ.out.bring 4 rfl))
  go_wp2_with fail
  refine CQ.out.mono ?_
  rintro en wn ⟨rfl, hb⟩
  have HKn : Hid (Keep FK wi wn) := HKW.out.trans (Keep.of_below hb) (fun _ h => .inl h)
  have HBn := hid (HBJ.out.below hb)
  have HEn : Hid (Below w.heap.size w wn) := HEJ.out.trans (hb.mono HEJ.out.size)
  clear HKW HBJ HEJ hb CQ
  have HKW := HKn
  have HBJ := HBn
  have HEJ := HEn
  clear HKn HBn HEn
  go_wp2_with fail
  refine KT.keep (inKW HKW.out) ?_
  refine wpOrdT_val rfl rfl ?_
  go_big_quiet_step (fail)
  refine wpQuiet_nil ?_
  refine wpOrdT_val rfl rfl ?_
  go_big_quiet_step (fail)
  refine wpQuiet_nil ?_
  refine wpOrdT_val rfl rfl ?_
  go_big_quiet_step (fail)
  refine wpQuiet_nil ?_
  refine wpOrdT_val rfl rfl ?_
  go_big_quiet_step (fail)
  refine wpQuiet_nil ?_
  refine wpOrdT_val rfl rfl ?_
  go_big_quiet_step (fail)
  refine wpQuiet_nil ?_
  refine wpOrdT_load rfl rfl (inKW HKW.out) ?_
  go_big_quiet_step (fail)
  refine wpQuiet_nil ?_
  refine wpOrdT_val rfl rfl ?_
  go_big_quiet_step (fail)
  refine wpQuiet_nil ?_
  refine wpOrdT_val rfl rfl ?_
  go_big_quiet_step (fail)
  refine wpQuiet_nil ?_
  refine wpOrdT_load rfl rfl (inKW HKW.out) ?_
  go_big_quiet_step (fail)
  refine wpQuiet_nil ?_
  refine wpOrdT_val rfl rfl ?_
  go_big_quiet_step (fail)
  refine wpQuiet_nil ?_
  refine wpOrdT_op rfl ?_
  have CQ := hid (CFR.out (HBJ.out.bring 4 rfl))
  go_wp2_with fail
  refine CQ.out.mono ?_
  rintro en wo ⟨rfl, hb⟩
  have HKn : Hid (Keep FK wi wo) := HKW.out.trans (Keep.of_below hb) (fun _ h => .inl h)
  have HBn := hid (HBJ.out.below hb)
  have HEn : Hid (Below w.heap.size w wo) := HEJ.out.trans (hb.mono HEJ.out.size)
  clear HKW HBJ HEJ hb CQ
  have HKW := HKn
  have HBJ := HBn
  have HEJ := HEn
  clear HKn HBn HEn
  go_wp2_with fail
  refine KT.keep (inKW HKW.out) ?_
  refine wpOrdT_val rfl rfl ?_
  go_big_quiet_step (fail)
  refine wpQuiet_nil ?_
  refine wpOrdT_val rfl rfl ?_
  go_big_quiet_step (fail)
  refine wpQuiet_nil ?_
  refine wpOrdT_nil ?_
  clear Tf0 Tf1 Tf2 Tf3 Tf4 Ty0 Ty1 Ty2 Ty3 Tx0 Tx1 Tx2 Tx3 HBI HEI HKW HNF HFK CT1 CFR
  clear hz1 hz2 hz3 hwr
  have CQ := hid (bRing HBJ.out 32 (by omega) (by omega))
  rw [show clampN 32 4096 = 32 from rfl] at CQ
  go_wp2_with fail
  refine CQ.out.mono ?_
  rintro en wp ⟨g3, gb3, rfl, hg, hb⟩
  have HBP := hid hg
  have HEP : Hid (Below w.heap.size w wp) := HEJ.out.trans (hb.mono HEJ.out.size)
  clear CQ hg hb HBJ HEJ
  have CQ := hid (bPut HBP.out sb (by have := HSB.out; omega))
  rw [put_all sb 32 (by have := HSB.out; omega)] at CQ
  go_wp2_with fail
  refine CQ.out.mono ?_
  rintro en wq ⟨rfl, hg, hb⟩
  have HBI : Hid (Bag w.heap.size wq [rH b0 F3 h 16 L1.S L1.seen qs P, rR g3 gb3 32 sb.data.toList, rH bc FD hc 16 L2.S L2.seen qs P, rR g2 gb2 32 L2.R, rBlk gf 61 #[.bool f1, .bool f2, .int .i64 f3, .int .i64 f4, .int .i64 f5], rBlk gy 51 #[.int .i64 16, .string t2, .int .i64 s2, .slice Av nv cv], rBlk gx 51 #[.int .i64 16, .string t1, .int .i64 s1, .slice Av nv cv], rR g1 gb1 32 L1.R, rP G ls (.slice Av nv cv), rO w.heap.size 9 1 (.slice A1 n1 c1) n1 (textCells p1)]) := hg.bring 5 rfl
  have HEI : Hid (Below w.heap.size w wq) := HEP.out.trans hb
  clear CQ hg hb HBP HEP
  obtain ⟨FK2, hFK⟩ : ∃ f : Nat → Prop, f = fun k => F3 k ∨ RgF g3 gb3 k := ⟨_, rfl⟩
  have HFK := hid hFK
  have HNF : Hid (¬ FK2 gf ∧ ¬ FK2 gy) := by rw [Hid, hFK]; exact ⟨HBI.out.nots 2 rfl, HBI.out.nots 3 rfl⟩
  clear hFK
  go_upto_region 15 with fail
  have Tf0 : ∀ q : KW FK2 wq, q.1.cell? ⟨gf, 0, none⟩ = some (.bool f1) := fun q => q.cellAt (HBI.out.blk 4 rfl).lt HNF.out.1 ((HBI.out.blk 4 rfl).cell 0)
  have Tf1 : ∀ q : KW FK2 wq, q.1.cell? ⟨gf, 1, none⟩ = some (.bool f2) := fun q => q.cellAt (HBI.out.blk 4 rfl).lt HNF.out.1 ((HBI.out.blk 4 rfl).cell 1)
  have Tf2 : ∀ q : KW FK2 wq, q.1.cell? ⟨gf, 2, none⟩ = some (.int .i64 f3) := fun q => q.cellAt (HBI.out.blk 4 rfl).lt HNF.out.1 ((HBI.out.blk 4 rfl).cell 2)
  have Tf3 : ∀ q : KW FK2 wq, q.1.cell? ⟨gf, 3, none⟩ = some (.int .i64 f4) := fun q => q.cellAt (HBI.out.blk 4 rfl).lt HNF.out.1 ((HBI.out.blk 4 rfl).cell 3)
  have Tf4 : ∀ q : KW FK2 wq, q.1.cell? ⟨gf, 4, none⟩ = some (.int .i64 f5) := fun q => q.cellAt (HBI.out.blk 4 rfl).lt HNF.out.1 ((HBI.out.blk 4 rfl).cell 4)
  have Ty0 : ∀ q : KW FK2 wq, q.1.cell? ⟨gy, 0, none⟩ = some (.int .i64 16) := fun q => q.cellAt (HBI.out.blk 5 rfl).lt HNF.out.2 ((HBI.out.blk 5 rfl).cell 0)
  have Ty1 : ∀ q : KW FK2 wq, q.1.cell? ⟨gy, 1, none⟩ = some (.string t2) := fun q => q.cellAt (HBI.out.blk 5 rfl).lt HNF.out.2 ((HBI.out.blk 5 rfl).cell 1)
  have Ty2 : ∀ q : KW FK2 wq, q.1.cell? ⟨gy, 2, none⟩ = some (.int .i64 s2) := fun q => q.cellAt (HBI.out.blk 5 rfl).lt HNF.out.2 ((HBI.out.blk 5 rfl).cell 2)
  have Ty3 : ∀ q : KW FK2 wq, q.1.cell? ⟨gy, 3, none⟩ = some (.slice Av nv cv) := fun q => q.cellAt (HBI.out.blk 5 rfl).lt HNF.out.2 ((HBI.out.blk 5 rfl).cell 3)
  refine wp_region_ordK FK2 [] (.val 0 (.val 1 (.val 3 (.op 2 (.op 4 (.val 5 (.val 6 (.val 8 (.val 9 (.op 7 (.val 10 (.val 11 (.val 12 (.op 13 (.val 14 (.val 15 (.nil))))))))))))))))) (by kernel_rfl) (by kernel_rfl) ?_
  obtain ⟨wj, hwj⟩ : ∃ W, wq.drewN 1 = W := ⟨_, rfl⟩
  have HKW : Hid (Keep FK2 wq wj) := by rw [← hwj]; exact Keep.drewN FK2 wq 1
  have HBJ := hid (HBI.out.below (show Below wq.heap.size wq wj by rw [← hwj]; exact drewN_below wq 1))
  have HEJ : Hid (Below w.heap.size w wj) := by rw [← hwj]; exact HEI.out.trans ((drewN_below wq 1).mono HEI.out.size)
  rw [hwj]
  clear hwj
  refine wpOrdT_val rfl rfl ?_
  go_big_quiet_step (fail)
  refine wpQuiet_nil ?_
  refine wpOrdT_val rfl rfl ?_
  go_big_quiet_step (fail)
  refine wpQuiet_nil ?_
  refine wpOrdT_load rfl rfl (inKW HKW.out) ?_
  go_big_quiet_step (fail)
  refine wpQuiet_nil ?_
  refine wpOrdT_op rfl ?_
  have CQ := hid (CLK2.out HBJ.out HQ4.out)
  go_wp2_with fail
  refine CQ.out.mono ?_
  rintro en wk ⟨rfl, ⟨FD, hg⟩, hb, hk⟩
  have HKn : Hid (Keep FK2 wq wk) := HKW.out.trans (show Keep FK2 wj wk by rw [HFK.out]; exact hk) (fun _ h => .inl h)
  have HBn := hid hg
  have HEn : Hid (Below w.heap.size w wk) := HEJ.out.trans hb
  clear HKW HBJ HEJ hg hb hk CQ
  have HKW := HKn
  have HBJ := HBn
  have HEJ := HEn
  clear HKn HBn HEn
  go_wp2_with fail
  refine KT.keep (inKW HKW.out) ?_
  refine wpOrdT_op rfl ?_
  have CQ := hid (CSM.out wk)
  go_wp2_with fail
  refine CQ.out.mono ?_
  rintro en wl ⟨rfl, hb⟩
  have HKn : Hid (Keep FK2 wq wl) := HKW.out.trans (Keep.of_below hb) (fun _ h => .inl h)
  have HBn := hid (HBJ.out.below hb)
  have HEn : Hid (Below w.heap.size w wl) := HEJ.out.trans (hb.mono HEJ.out.size)
  clear HKW HBJ HEJ hb CQ
  have HKW := HKn
  have HBJ := HBn
  have HEJ := HEn
  clear HKn HBn HEn
  go_wp2_with fail
  refine KT.keep (inKW HKW.out) ?_
  refine wpOrdT_val rfl rfl ?_
  go_big_quiet_step (fail)
  refine wpQuiet_nil ?_
  refine wpOrdT_val rfl rfl ?_
  go_big_quiet_step (fail)
  refine wpQuiet_nil ?_
  refine wpOrdT_val rfl rfl ?_
  go_big_quiet_step (fail)
  refine wpQuiet_nil ?_
  refine wpOrdT_load rfl rfl (inKW HKW.out) ?_
  go_big_quiet_step (fail)
  refine wpQuiet_nil ?_
  refine wpOrdT_op rfl ?_
  have CQ := hid (CT2.out HBJ.out)
  go_wp2_with fail
  refine CQ.out.mono ?_
  rintro en wm ⟨rfl, hb⟩
  have HKn : Hid (Keep FK2 wq wm) := HKW.out.trans (Keep.of_below hb) (fun _ h => .inl h)
  have HBn := hid (HBJ.out.below hb)
  have HEn : Hid (Below w.heap.size w wm) := HEJ.out.trans (hb.mono HEJ.out.size)
  clear HKW HBJ HEJ hb CQ
  have HKW := HKn
  have HBJ := HBn
  have HEJ := HEn
  clear HKn HBn HEn
  go_wp2_with fail
  refine KT.keep (inKW HKW.out) ?_
  refine wpOrdT_val rfl rfl ?_
  go_big_quiet_step (fail)
  refine wpQuiet_nil ?_
  refine wpOrdT_val rfl rfl ?_
  go_big_quiet_step (fail)
  refine wpQuiet_nil ?_
  refine wpOrdT_val rfl rfl ?_
  go_big_quiet_step (fail)
  refine wpQuiet_nil ?_
  refine wpOrdT_op rfl ?_
  have CQ := hid (CLV.out wm)
  go_wp2_with fail
  refine CQ.out.mono ?_
  rintro en wn ⟨rfl, hb⟩
  have HKn : Hid (Keep FK2 wq wn) := HKW.out.trans (Keep.of_below hb) (fun _ h => .inl h)
  have HBn := hid (HBJ.out.below hb)
  have HEn : Hid (Below w.heap.size w wn) := HEJ.out.trans (hb.mono HEJ.out.size)
  clear HKW HBJ HEJ hb CQ
  have HKW := HKn
  have HBJ := HBn
  have HEJ := HEn
  clear HKn HBn HEn
  go_wp2_with fail
  refine KT.keep (inKW HKW.out) ?_
  refine wpOrdT_val rfl rfl ?_
  go_big_quiet_step (fail)
  refine wpQuiet_nil ?_
  refine wpOrdT_val rfl rfl ?_
  go_big_quiet_step (fail)
  refine wpQuiet_nil ?_
  refine wpOrdT_nil ?_
  go_wp2_with fail
  go_ret
  exact ⟨rfl, HEJ.out⟩
end Go.Proofs.Ytpkkfdmhbbipoaa
namespace Go.Proofs.Ytpkkfdmhbbipoaa
open Go.ChangeShapes Go.WideShapes Go.ChangeAt Go.RowKit Go.WideElems Go.Deep
open Go.ChangeMaps (open_string shut_string)

set_option maxRecDepth 100000 in
theorem holdCopies_lifted (os : Os) (started : os.Started) (H : Type) (enc : TypeId × Value → H) :
    ReturnsInHanded {} Try.checked os 5 .any (Rows.holdCopiesSpec.pre6 enc Try.prog Try.f5 [] false) (Rows.holdCopiesSpec.post enc Try.prog Try.f5 false true false false) := by
  refine law_lifted 5 Try.f5 Rows.holdCopiesSpec os started H enc Try.func5 (by kernel_rfl) (by kernel_rfl) (by kernel_rfl) rfl (fun ds h => ?_)
    (ChangeSpec.witness6 (enc := enc) (C := Try.checked) false ⟨#[], #[.slice none 0 0, .string ⟨#[]⟩, .string ⟨#[]⟩], []⟩ 8 (by kernel_rfl) (by kernel_rfl) (by kernel_rfl) (by kernel_rfl)) ?_
  · have hn : ds.length = 3 := h
    match ds, hn with
    | [d0, d1, d2], _ => rfl
  · intro W args ds p base hval hA _ _
    rw [show Try.f5.params.toList = [42, 9, 9] from by rw [Try.params5]] at hval hA
    obtain ⟨v0, _, d0, _, p0, _, rfl, rfl, rfl, h0, hA⟩ := all_cons hA
    obtain ⟨v1, _, d1, _, p1, _, rfl, rfl, rfl, h1, hA⟩ := all_cons hA
    obtain ⟨v2, _, d2, _, p2, _, rfl, rfl, rfl, h2, hA⟩ := all_cons hA
    obtain rfl := all_nil hA
    obtain ⟨A0, n0, c0, l0, rfl, hl0, hn0, hr0⟩ := open_strs (hval 0 _ v0 rfl rfl) h0
    obtain ⟨s1, rfl, _, _, hs1⟩ := open_string Try.underlying9 (hval 1 _ v1 rfl rfl) h1
    obtain ⟨s2, rfl, _, _, hs2⟩ := open_string Try.underlying9 (hval 2 _ v2 rfl rfl) h2
    exact holdCopies_any A0 n0 c0 l0 s1 s2 W hl0 hn0 hr0 hs1 hs2

theorem holdCopies_holds : Rows.HoldCopiesSaid :=
  OpenClaim.holds_of_wide 5 Try.f5 rfl rfl rfl rfl rfl rfl rfl ⟨rfl, rfl, rfl, rfl, rfl⟩ rfl rfl rfl rfl rfl (by kernel_rfl) Try.func5 (by kernel_rfl)
    (of_decide_eq_true (by kernel_rfl)) (by unfold Func.isWrapper; first | (rw [if_pos (by decide +kernel)]; kernel_rfl) | (rw [if_neg (by decide +kernel)]; exact ⟨rfl, rfl⟩))
    (fun os started H enc _ => holdCopies_lifted os started H enc)
#print axioms holdCopies_holds
end Go.Proofs.Ytpkkfdmhbbipoaa
