/- Package cost: in, some, good, Good, Price. Package pend: a writer in memory. -/
import Derived.Test.YtpkkfdmhbbipoaaGreatDa
namespace Go.Proofs.YtpkkfdmhbbipoaaGreat
open Go.RowKit
structure SetV where
 live : Int
 ring : Int
 win : Int
 out : Int
 quan : Int
 vis : Int
 deriving DecidableEq
def SetV.val (s : SetV) : Value := .agg #[.int .i64 s.live, .int .i64 s.ring, .int .i64 s.win, .int .i64 s.out, .int .i64 s.quan, .int .i64 s.vis]
def inB (n m : Int) : Bool := decide (1 ≤ n) && decide (n ≤ m)
def goodS (s : SetV) : Bool := inB s.ring 4096 && inB s.win 4096 && inB s.out 4096 && inB s.live 1024 && inB s.quan 1000000 && inB s.vis 64
theorem goodS_bd {s : SetV} (h : goodS s = true) : (1 ≤ s.ring ∧ s.ring ≤ 4096) ∧ (1 ≤ s.win ∧ s.win ≤ 4096) ∧ (1 ≤ s.out ∧ s.out ≤ 4096) ∧ (1 ≤ s.live ∧ s.live ≤ 1024) ∧ (1 ≤ s.quan ∧ s.quan ≤ 1000000) ∧ (1 ≤ s.vis ∧ s.vis ≤ 64) := by
 simpa [goodS, inB, Bool.and_eq_true, decide_eq_true_iff, and_assoc] using h
theorem costIn_any (n m : Int) (w : World) : Calls Tryz.prog 163 #[.int .i64 n, .int .i64 m] w fun e w' => e = .returned (.bool (inB n m)) ∧ w = w' := by
 unfold inB
 by_cases h1 : 1 ≤ n
 ·by_cases h2 : n ≤ m
  all_goals
   first | rw [decide_eq_true h1] | skip
   first | rw [decide_eq_true h2] | rw [decide_eq_false h2]
   go_enter Tryz.func163, Tryz.ntmps163
   go_wp2_with fail
   go_ret
   exact ⟨rfl, rfl⟩
 ·rw [decide_eq_false h1]
  go_enter Tryz.func163, Tryz.ntmps163
  go_wp2_with fail
  go_ret
  exact ⟨rfl, rfl⟩
set_option maxRecDepth 20000 in
set_option maxHeartbeats 800000 in
set_option linter.unusedSimpArgs false in
theorem costGoodI_any (s : SetV) (w : World) : Calls Tryz.prog 127 #[s.val] w fun e w' => e = .returned (.bool (goodS s)) ∧ Below w.heap.size w w' := by
 obtain ⟨lv, rg, wn, ou, qu, vi⟩ := s
 unfold goodS SetV.val
 simp only
 have C1 := hid (fun W => costIn_any rg 4096 W)
 have C2 := hid (fun W => costIn_any wn 4096 W)
 have C3 := hid (fun W => costIn_any ou 4096 W)
 have C4 := hid (fun W => costIn_any lv 1024 W)
 have C5 := hid (fun W => costIn_any qu 1000000 W)
 have C6 := hid (fun W => costIn_any vi 64 W)
 cases hb1 : inB rg 4096 with
 | false =>
  rw [hb1] at C1
  clear hb1 C2 C3 C4 C5 C6
  simp only [Bool.true_and, Bool.false_and, Bool.and_false, Bool.and_true]
  go_enter Tryz.func127, Tryz.ntmps127
  go_wp2_with fail
  refine (C1.out _).mono ?_
  rintro en wq ⟨rfl, rfl⟩
  go_wp2_with fail
  go_ret
  exact ⟨rfl, (Below.refl _ _).alloc (Nat.le_refl _) _⟩
 | true =>
  rw [hb1] at C1
  clear hb1
  cases hb2 : inB wn 4096 with
  | false =>
   rw [hb2] at C2
   clear hb2 C3 C4 C5 C6
   simp only [Bool.true_and, Bool.false_and, Bool.and_false, Bool.and_true]
   go_enter Tryz.func127, Tryz.ntmps127
   go_wp2_with fail
   refine (C1.out _).mono ?_
   rintro en wq ⟨rfl, rfl⟩
   go_wp2_with fail
   refine (C2.out _).mono ?_
   rintro en wq ⟨rfl, rfl⟩
   go_wp2_with fail
   go_ret
   exact ⟨rfl, (Below.refl _ _).alloc (Nat.le_refl _) _⟩
  | true =>
   rw [hb2] at C2
   clear hb2
   cases hb3 : inB ou 4096 with
   | false =>
    rw [hb3] at C3
    clear hb3 C4 C5 C6
    simp only [Bool.true_and, Bool.false_and, Bool.and_false, Bool.and_true]
    go_enter Tryz.func127, Tryz.ntmps127
    go_wp2_with fail
    refine (C1.out _).mono ?_
    rintro en wq ⟨rfl, rfl⟩
    go_wp2_with fail
    refine (C2.out _).mono ?_
    rintro en wq ⟨rfl, rfl⟩
    go_wp2_with fail
    refine (C3.out _).mono ?_
    rintro en wq ⟨rfl, rfl⟩
    go_wp2_with fail
    go_ret
    exact ⟨rfl, (Below.refl _ _).alloc (Nat.le_refl _) _⟩
   | true =>
    rw [hb3] at C3
    clear hb3
    cases hb4 : inB lv 1024 with
    | false =>
     rw [hb4] at C4
     clear hb4 C5 C6
     simp only [Bool.true_and, Bool.false_and, Bool.and_false, Bool.and_true]
     go_enter Tryz.func127, Tryz.ntmps127
     go_wp2_with fail
     refine (C1.out _).mono ?_
     rintro en wq ⟨rfl, rfl⟩
     go_wp2_with fail
     refine (C2.out _).mono ?_
     rintro en wq ⟨rfl, rfl⟩
     go_wp2_with fail
     refine (C3.out _).mono ?_
     rintro en wq ⟨rfl, rfl⟩
     go_wp2_with fail
     refine (C4.out _).mono ?_
     rintro en wq ⟨rfl, rfl⟩
     go_wp2_with fail
     go_ret
     exact ⟨rfl, (Below.refl _ _).alloc (Nat.le_refl _) _⟩
    | true =>
     rw [hb4] at C4
     clear hb4
     cases hb5 : inB qu 1000000 with
     | false =>
      rw [hb5] at C5
      clear hb5 C6
      simp only [Bool.true_and, Bool.false_and, Bool.and_false, Bool.and_true]
      go_enter Tryz.func127, Tryz.ntmps127
      go_wp2_with fail
      refine (C1.out _).mono ?_
      rintro en wq ⟨rfl, rfl⟩
      go_wp2_with fail
      refine (C2.out _).mono ?_
      rintro en wq ⟨rfl, rfl⟩
      go_wp2_with fail
      refine (C3.out _).mono ?_
      rintro en wq ⟨rfl, rfl⟩
      go_wp2_with fail
      refine (C4.out _).mono ?_
      rintro en wq ⟨rfl, rfl⟩
      go_wp2_with fail
      refine (C5.out _).mono ?_
      rintro en wq ⟨rfl, rfl⟩
      go_wp2_with fail
      go_ret
      exact ⟨rfl, (Below.refl _ _).alloc (Nat.le_refl _) _⟩
     | true =>
      rw [hb5] at C5
      clear hb5
      cases hb6 : inB vi 64 with
      | false =>
       rw [hb6] at C6
       clear hb6
       simp only [Bool.true_and, Bool.false_and, Bool.and_false, Bool.and_true]
       go_enter Tryz.func127, Tryz.ntmps127
       go_wp2_with fail
       refine (C1.out _).mono ?_
       rintro en wq ⟨rfl, rfl⟩
       go_wp2_with fail
       refine (C2.out _).mono ?_
       rintro en wq ⟨rfl, rfl⟩
       go_wp2_with fail
       refine (C3.out _).mono ?_
       rintro en wq ⟨rfl, rfl⟩
       go_wp2_with fail
       refine (C4.out _).mono ?_
       rintro en wq ⟨rfl, rfl⟩
       go_wp2_with fail
       refine (C5.out _).mono ?_
       rintro en wq ⟨rfl, rfl⟩
       go_wp2_with fail
       refine (C6.out _).mono ?_
       rintro en wq ⟨rfl, rfl⟩
       go_wp2_with fail
       go_ret
       exact ⟨rfl, (Below.refl _ _).alloc (Nat.le_refl _) _⟩
      | true =>
       rw [hb6] at C6
       clear hb6
       simp only [Bool.true_and, Bool.and_true]
       go_enter Tryz.func127, Tryz.ntmps127
       go_wp2_with fail
       refine (C1.out _).mono ?_
       rintro en wq ⟨rfl, rfl⟩
       go_wp2_with fail
       refine (C2.out _).mono ?_
       rintro en wq ⟨rfl, rfl⟩
       go_wp2_with fail
       refine (C3.out _).mono ?_
       rintro en wq ⟨rfl, rfl⟩
       go_wp2_with fail
       refine (C4.out _).mono ?_
       rintro en wq ⟨rfl, rfl⟩
       go_wp2_with fail
       refine (C5.out _).mono ?_
       rintro en wq ⟨rfl, rfl⟩
       go_wp2_with fail
       refine (C6.out _).mono ?_
       rintro en wq ⟨rfl, rfl⟩
       go_wp2_with fail
       go_ret
       exact ⟨rfl, (Below.refl _ _).alloc (Nat.le_refl _) _⟩
theorem costGood_any (s : SetV) (w : World) : Calls Tryz.prog 92 #[s.val] w fun e w' => e = .returned (.bool (goodS s)) ∧ Below w.heap.size w w' := by
 have C1 := hid (fun W => costGoodI_any s W)
 obtain ⟨b, hb⟩ : ∃ y, goodS s = y := ⟨_, rfl⟩
 rw [hb] at C1 ⊢
 clear hb
 obtain ⟨lv, rg, wn, ou, qu, vi⟩ := s
 unfold SetV.val at C1 ⊢
 simp only at C1 ⊢
 go_enter Tryz.func92, Tryz.ntmps92
 go_wp2_with fail
 refine (C1.out _).mono ?_
 rintro e w1 ⟨rfl, hb⟩
 have HB := hid (((Below.refl w.heap.size w).alloc (Nat.le_refl _) (.cells #[.int .i64 lv, .int .i64 rg, .int .i64 wn, .int .i64 ou, .int .i64 qu, .int .i64 vi] 23)).trans (hb.mono (by simp)))
 clear hb C1
 go_wp2_with fail
 go_ret
 exact ⟨rfl, HB.out⟩
structure PendV where
 out : Nat
 text : ByteArray
 sent : Nat
 laid : Nat
def PendAt (w : World) (g : Nat) (p : PendV) : Prop := (∃ tr : Int, Blk w g 140 #[.int .i64 (p.out : Int), .string p.text, .int .i64 (p.sent : Int), .int .i64 (p.laid : Int), .int .i64 tr]) ∧ p.sent ≤ p.laid ∧ p.laid ≤ p.text.size ∧ p.text.size ≤ 9223372036854775807 ∧ 1 ≤ p.out ∧ p.out ≤ 4096
def PendV.new (m : Nat) : PendV := ⟨m, ⟨#[]⟩, 0, 0⟩
def PendV.begin (p : PendV) (s : ByteArray) : PendV := ⟨p.out, s, 0, 0⟩
def PendV.loadN (p : PendV) : Nat := if p.sent < p.laid then 0 else min (p.text.size - p.laid) p.out
def PendV.load (p : PendV) : PendV := ⟨p.out, p.text, p.sent, p.laid + p.loadN⟩
def PendV.takeN (p : PendV) (z : Int) : Nat := min z.toNat (p.laid - p.sent)
def PendV.take (p : PendV) (z : Int) : PendV := ⟨p.out, p.text, p.sent + p.takeN z, p.laid⟩
def PendV.took (p : PendV) (z : Int) : ByteArray := p.text.extract p.sent (p.sent + p.takeN z)
def PendV.peek (p : PendV) : ByteArray := p.text.extract p.sent p.laid
theorem PendAt.lt {w : World} {g : Nat} {p : PendV} (h : PendAt w g p) : g < w.heap.size := by
 obtain ⟨⟨tr, h⟩, _⟩ := h
 exact h.lt
theorem PendAt.keep {F : Nat → Prop} {w w' : World} {g : Nat} {p : PendV} (h : PendAt w g p) (hk : Keep F w w') (hf : ¬ F g) : PendAt w' g p := by
 obtain ⟨⟨tr, h⟩, r⟩ := h
 exact ⟨⟨tr, hk.blk h hf⟩, r⟩
theorem PendAt.below {w w' : World} {g : Nat} {p : PendV} (h : PendAt w g p) (hb : Below w.heap.size w w') : PendAt w' g p := h.keep (Keep.of_below (F := fun _ => False) hb) id
theorem fact5p {w : World} {g : Nat} {t : TypeId} {a b c d e : Value} (h : Blk w g t #[a, b, c, d, e]) : w.cell? ⟨g, 0, none⟩ = some a ∧ w.cell? ⟨g, 1, none⟩ = some b ∧ w.cell? ⟨g, 2, none⟩ = some c ∧ w.cell? ⟨g, 3, none⟩ = some d ∧ w.cell? ⟨g, 4, none⟩ = some e := ⟨h.cell 0, h.cell 1, h.cell 2, h.cell 3, h.cell 4⟩
theorem extract_nil (s : ByteArray) (a : Nat) : s.extract a a = ⟨#[]⟩ := by
 apply ByteArray.ext
 simp
theorem pnNew_any (m : Nat) (h1 : 1 ≤ m) (h2 : m ≤ 4096) (w : World) : Calls Tryz.prog 98 #[.int .i64 (m : Int)] w fun e w' => e = .returned (.pointer (some ⟨w.heap.size, 0, none⟩)) ∧ PendAt w' w.heap.size (PendV.new m) ∧ Below w.heap.size w w' := by
 have H := hid (And.intro h1 h2)
 go_enter Tryz.func98, Tryz.ntmps98
 go_wp2_with fail
 go_ret
 exact ⟨rfl, ⟨⟨0, Blk.new w _ _⟩, Nat.le_refl _, Nat.le_refl _, by simp [PendV.new, ByteArray.size], H.out.1, H.out.2⟩, (Below.refl _ _).alloc (Nat.le_refl _) _⟩
set_option maxRecDepth 20000 in
theorem pnBegin_any (g : Nat) (p : PendV) (s : ByteArray) (w : World) (h : PendAt w g p) (hs : s.size ≤ 9223372036854775807) :
  Calls Tryz.prog 141 #[.pointer (some ⟨g, 0, none⟩), .string s] w fun e w' => e = .returned (.tuple #[]) ∧ PendAt w' g (p.begin s) ∧ Keep (fun k => k = g) w w' := by
 obtain ⟨⟨tr, hb⟩, h1, h2, h3, h4, h5⟩ := h
 have HB := hid hb
 have HR := hid (And.intro h4 h5)
 have HS := hid hs
 obtain ⟨c0, c1, c2, c3, c4⟩ := fact5p hb
 have y0 := hb.frozen 0; have y1 := hb.frozen 1; have y2 := hb.frozen 2; have y3 := hb.frozen 3; have y4 := hb.frozen 4
 have hl := hb.lt
 clear h1 h2 h3 h4 h5 hs hb
 obtain ⟨ou, tx, se, la⟩ := p
 simp only at HB HR c0 c1 c2 c3
 go_enter Tryz.func141, Tryz.ntmps141
 go_wp2_with fail
 obtain ⟨w', hw⟩ : ∃ W, ((((w.setCell ⟨g, 0, none⟩ (.int .i64 (ou : Int))).setCell ⟨g, 1, none⟩ (.string s)).setCell ⟨g, 2, none⟩ (.int .i64 0)).setCell ⟨g, 3, none⟩ (.int .i64 0)).setCell ⟨g, 4, none⟩ (.int .i64 0) = W := ⟨_, rfl⟩
 have HK : Keep (fun k => k = g) w w' := by
  rw [← hw]
  exact (Keep.setCell (fun k => k = g) w ⟨g, 0, none⟩ _ rfl).trans ((Keep.setCell (fun k => k = g) _ ⟨g, 1, none⟩ _ rfl).trans ((Keep.setCell (fun k => k = g) _ ⟨g, 2, none⟩ _ rfl).trans ((Keep.setCell (fun k => k = g) _ ⟨g, 3, none⟩ _ rfl).trans (Keep.setCell (fun k => k = g) _ ⟨g, 4, none⟩ _ rfl) (fun _ h => .inl h)) (fun _ h => .inl h)) (fun _ h => .inl h)) (fun _ h => .inl h)
 have HN : Blk w' g 140 #[.int .i64 (ou : Int), .string s, .int .i64 0, .int .i64 0, .int .i64 0] := by
  rw [← hw]
  exact ((((HB.out.set 0 _).set 1 _).set 2 _).set 3 _).set 4 _
 rw [hw]
 go_end0
 exact ⟨rfl, ⟨⟨0, HN⟩, Nat.le_refl _, Nat.zero_le _, HS.out, HR.out.1, HR.out.2⟩, HK⟩
set_option maxRecDepth 20000 in
theorem pnLeft_any (g : Nat) (p : PendV) (w : World) (h : PendAt w g p) :
  Calls Tryz.prog 119 #[.pointer (some ⟨g, 0, none⟩)] w fun e w' => e = .returned (.int .i64 ((p.laid : Int) - (p.sent : Int))) ∧ Below w.heap.size w w' := by
 obtain ⟨⟨tr, hb⟩, h1, h2, h3, h4, h5⟩ := h
 obtain ⟨c0, c1, c2, c3, c4⟩ := fact5p hb
 have hl := hb.lt
 obtain ⟨ou, tx, se, la⟩ := p
 simp only at c0 c1 c2 c3 h1 h2 h3 ⊢
 clear hb h4 h5
 go_enter Tryz.func119, Tryz.ntmps119
 go_upto_region 3 with fail
 have T1 : ∀ q : BW w.heap.size w, q.1.cell? ⟨g, 1, none⟩ = some (.string tx) := fun q => q.cellAt hl c1
 have T2 : ∀ q : BW w.heap.size w, q.1.cell? ⟨g, 2, none⟩ = some (.int .i64 (se : Int)) := fun q => q.cellAt hl c2
 have T3 : ∀ q : BW w.heap.size w, q.1.cell? ⟨g, 3, none⟩ = some (.int .i64 (la : Int)) := fun q => q.cellAt hl c3
 clear c0 c1 c2 c3 c4
 refine wp_region_below w.heap.size (by kernel_rfl) (by kernel_rfl) ?_
 repeat (go_big_quiet_step (fail))
 refine wpQuiet_nil ?_
 intro wu hqu
 have HBU : Hid (Below w.heap.size w wu) := by obtain ⟨q, rfl⟩ := hqu; exact q.2
 clear hqu T1 T2 T3
 go_wp2_with fail
 go_ret
 exact ⟨rfl, HBU.out⟩
set_option maxRecDepth 20000 in
theorem pnRest_any (g : Nat) (p : PendV) (w : World) (h : PendAt w g p) :
  Calls Tryz.prog 83 #[.pointer (some ⟨g, 0, none⟩)] w fun e w' => e = .returned (.int .i64 ((p.text.size : Int) - (p.laid : Int))) ∧ Below w.heap.size w w' := by
 obtain ⟨⟨tr, hb⟩, h1, h2, h3, h4, h5⟩ := h
 obtain ⟨c0, c1, c2, c3, c4⟩ := fact5p hb
 have hl := hb.lt
 obtain ⟨ou, tx, se, la⟩ := p
 simp only at c0 c1 c2 c3 h1 h2 h3 ⊢
 clear hb h4 h5
 go_enter Tryz.func83, Tryz.ntmps83
 go_upto_region 3 with fail
 have T1 : ∀ q : BW w.heap.size w, q.1.cell? ⟨g, 1, none⟩ = some (.string tx) := fun q => q.cellAt hl c1
 have T2 : ∀ q : BW w.heap.size w, q.1.cell? ⟨g, 2, none⟩ = some (.int .i64 (se : Int)) := fun q => q.cellAt hl c2
 have T3 : ∀ q : BW w.heap.size w, q.1.cell? ⟨g, 3, none⟩ = some (.int .i64 (la : Int)) := fun q => q.cellAt hl c3
 clear c0 c1 c2 c3 c4
 refine wp_region_below w.heap.size (by kernel_rfl) (by kernel_rfl) ?_
 repeat (go_big_quiet_step (fail))
 refine wpQuiet_nil ?_
 intro wu hqu
 have HBU : Hid (Below w.heap.size w wu) := by obtain ⟨q, rfl⟩ := hqu; exact q.2
 clear hqu T1 T2 T3
 go_wp2_with fail
 go_ret
 exact ⟨rfl, HBU.out⟩
set_option maxRecDepth 20000 in
set_option maxHeartbeats 800000 in
theorem pnLoad_any (g : Nat) (p : PendV) (w : World) (h : PendAt w g p) :
  Calls Tryz.prog 151 #[.pointer (some ⟨g, 0, none⟩)] w fun e w' => e = .returned (.int .i64 ((p.loadN : Nat) : Int)) ∧ PendAt w' g p.load ∧ Keep (fun k => k = g) w w' := by
 have H0 := hid h
 obtain ⟨⟨tr, hb⟩, h1, h2, h3, h4, h5⟩ := h
 obtain ⟨c0, c1, c2, c3, c4⟩ := fact5p hb
 have hl := hb.lt
 have HB := hid hb
 obtain ⟨ou, tx, se, la⟩ := p
 simp only [PendV.load, PendV.loadN] at H0 HB c0 c1 c2 c3 h1 h2 h3 h4 h5 ⊢
 clear hb
 by_cases hc : se < la
 ·rw [if_pos hc]
  have hc2 : (se : Int) < (la : Int) := by omega
  clear hc
  go_enter Tryz.func151, Tryz.ntmps151
  go_upto_region 1 with fail
  have T2 : ∀ q : BW w.heap.size w, q.1.cell? ⟨g, 2, none⟩ = some (.int .i64 (se : Int)) := fun q => q.cellAt hl c2
  have T3 : ∀ q : BW w.heap.size w, q.1.cell? ⟨g, 3, none⟩ = some (.int .i64 (la : Int)) := fun q => q.cellAt hl c3
  clear c0 c1 c2 c3 c4
  refine wp_region_below w.heap.size (by kernel_rfl) (by kernel_rfl) ?_
  repeat (go_big_quiet_step (fail))
  refine wpQuiet_nil ?_
  intro wu hqu
  have HBU : Hid (Below w.heap.size w wu) := by obtain ⟨q, rfl⟩ := hqu; exact q.2
  clear hqu T2 T3
  go_wp2_with fail
  go_ret
  exact ⟨rfl, H0.out.below HBU.out, Keep.of_below HBU.out⟩
 ·have hc3 : la = se := by omega
  subst hc3
  rw [if_neg (by omega)]
  clear hc h1
  have HS := hid (And.intro h2 (And.intro h3 (And.intro h4 h5)))
  obtain ⟨n, hn⟩ : ∃ y, min (tx.size - la) ou = y := ⟨_, rfl⟩
  have HIF : Hid ((if (ou : Int) < (tx.size : Int) - (la : Int) then (ou : Int) else (tx.size : Int) - (la : Int)) = (n : Int)) := by rw [Hid]; split <;> omega
  rw [hn]
  have HN : Hid (la + n ≤ tx.size) := by rw [Hid]; omega
  clear hn
  have hlan : (la : Int) + (n : Int) ≤ 9223372036854775807 := by have := HN.out; omega
  have hsz : (tx.size : Int) ≤ 9223372036854775807 := by omega
  go_enter Tryz.func151, Tryz.ntmps151
  go_upto_region 1 with fail
  have T2 : ∀ q : BW w.heap.size w, q.1.cell? ⟨g, 2, none⟩ = some (.int .i64 (la : Int)) := fun q => q.cellAt hl c2
  have T3 : ∀ q : BW w.heap.size w, q.1.cell? ⟨g, 3, none⟩ = some (.int .i64 (la : Int)) := fun q => q.cellAt hl c3
  clear c0 c1 c2 c3 c4
  refine wp_region_below w.heap.size (by kernel_rfl) (by kernel_rfl) ?_
  repeat (go_big_quiet_step (fail))
  refine wpQuiet_nil ?_
  intro wu hqu
  have HBU : Hid (Below w.heap.size w wu) := by obtain ⟨q, rfl⟩ := hqu; exact q.2
  have HX := hid (HB.out.below HBU.out hl)
  clear hqu T2 T3
  obtain ⟨c0, c1, c2, c3, c4⟩ := fact5p HX.out
  have hlu := HX.out.lt
  go_upto_region 3 with fail
  have T0 : ∀ q : BW wu.heap.size wu, q.1.cell? ⟨g, 0, none⟩ = some (.int .i64 (ou : Int)) := fun q => q.cellAt hlu c0
  have T1 : ∀ q : BW wu.heap.size wu, q.1.cell? ⟨g, 1, none⟩ = some (.string tx) := fun q => q.cellAt hlu c1
  have T3 : ∀ q : BW wu.heap.size wu, q.1.cell? ⟨g, 3, none⟩ = some (.int .i64 (la : Int)) := fun q => q.cellAt hlu c3
  clear c0 c1 c2 c3 c4
  refine wp_region_below wu.heap.size (by kernel_rfl) (by kernel_rfl) ?_
  repeat (go_big_quiet_step (fail))
  refine wpQuiet_nil ?_
  intro wv hqu
  have HBV : Hid (Below wu.heap.size wu wv) := by obtain ⟨q, rfl⟩ := hqu; exact q.2
  have HXV := hid (HX.out.below HBV.out hlu)
  clear hqu T0 T1 T3
  rw [HIF.out]
  obtain ⟨c0, c1, c2, c3, c4⟩ := fact5p HXV.out
  have y3 := HXV.out.frozen 3
  have hlv := HXV.out.lt
  go_wp2_with fail
  go_ret
  refine ⟨rfl, ⟨⟨tr, ?_⟩, Nat.le_add_right _ _, HN.out, HS.out.2.1, HS.out.2.2.1, HS.out.2.2.2⟩, ?_⟩
  ·have := HXV.out.set 3 (.int .i64 ((la : Int) + (n : Int)))
   have e : (la : Int) + (n : Int) = ((la + n : Nat) : Int) := by omega
   rw [e] at this ⊢
   exact this
  ·exact ((Keep.of_below (HBU.out.trans (HBV.out.mono HBU.out.size))).trans (Keep.setCell (fun k => k = g) _ ⟨g, 3, none⟩ _ rfl) (fun _ h => .inl h))
set_option maxRecDepth 20000 in
set_option maxHeartbeats 1600000 in
theorem pnTake_any (g : Nat) (p : PendV) (z : Int) (w : World) (h : PendAt w g p) :
  Calls Tryz.prog 65 #[.pointer (some ⟨g, 0, none⟩), .int .i64 z] w fun e w' => e = .returned (.string (p.took z)) ∧ PendAt w' g (p.take z) ∧ Keep (fun k => k = g) w w' := by
 have H0 := hid h
 obtain ⟨⟨tr, hb⟩, h1, h2, h3, h4, h5⟩ := h
 obtain ⟨c0, c1, c2, c3, c4⟩ := fact5p hb
 have hl := hb.lt
 have HB := hid hb
 obtain ⟨ou, tx, se, la⟩ := p
 simp only [PendV.take, PendV.took, PendV.takeN] at H0 HB c0 c1 c2 c3 h1 h2 h3 h4 h5 ⊢
 clear hb
 by_cases hc : la = se
 ·subst hc
  rw [show min z.toNat (la - la) = 0 from by omega, Nat.add_zero, extract_nil]
  go_enter Tryz.func65, Tryz.ntmps65
  go_upto_region 1 with fail
  have T2 : ∀ q : BW w.heap.size w, q.1.cell? ⟨g, 2, none⟩ = some (.int .i64 (la : Int)) := fun q => q.cellAt hl c2
  have T3 : ∀ q : BW w.heap.size w, q.1.cell? ⟨g, 3, none⟩ = some (.int .i64 (la : Int)) := fun q => q.cellAt hl c3
  clear c0 c1 c2 c3 c4
  refine wp_region_below w.heap.size (by kernel_rfl) (by kernel_rfl) ?_
  repeat (go_big_quiet_step (fail))
  refine wpQuiet_nil ?_
  intro wu hqu
  have HBU : Hid (Below w.heap.size w wu) := by obtain ⟨q, rfl⟩ := hqu; exact q.2
  clear hqu T2 T3
  go_wp2_with fail
  go_ret
  exact ⟨rfl, H0.out.below HBU.out, Keep.of_below HBU.out⟩
 ·have hc2 : ((la : Int) == (se : Int)) = false := by rw [beq_eq_false_iff_ne]; omega
  have hlt : se < la := by omega
  have HS := hid (And.intro h2 (And.intro h3 (And.intro h4 h5)))
  obtain ⟨k, hk⟩ : ∃ y, min z.toNat (la - se) = y := ⟨_, rfl⟩
  rw [hk]
  have hkc : (z < 0 ∧ k = 0) ∨ (0 ≤ z ∧ z < (la : Int) - (se : Int) ∧ z = (k : Int)) ∨ (0 ≤ z ∧ (la : Int) - (se : Int) < z ∧ k = la - se) ∨ ((la : Int) - (se : Int) = z ∧ k = la - se) := by omega
  have hkl : k ≤ la - se := by omega
  clear hk hc
  have hls : ¬ ((la : Int) - (se : Int) < 0) := by omega
  obtain ⟨sn, hsn⟩ : ∃ y, se + k = y := ⟨_, rfl⟩
  rw [hsn]
  have hsn2 : se ≤ sn ∧ sn ≤ la := by omega
  have hsz : (tx.size : Int) ≤ 9223372036854775807 := by omega
  have hlz : (la : Int) ≤ (tx.size : Int) := by omega
  obtain ⟨Q, hQ⟩ : ∃ Q : Ending → World → Prop, (fun e w' => e = Ending.returned (.string (tx.extract se sn)) ∧ PendAt w' g ⟨ou, tx, sn, la⟩ ∧ Keep (fun k => k = g) w w') = Q := ⟨_, rfl⟩
  have HQ : Hid (∀ W (tr2 : Int), Blk W g 140 #[.int .i64 (ou : Int), .string tx, .int .i64 (sn : Int), .int .i64 (la : Int), .int .i64 tr2] → Keep (fun k => k = g) w W → Q (.returned (.string (tx.extract se sn))) W) := fun W tr2 hb hk => by
   rw [← hQ]; exact ⟨rfl, ⟨⟨tr2, hb⟩, hsn2.2, HS.out.1, HS.out.2.1, HS.out.2.2.1, HS.out.2.2.2⟩, hk⟩
  rw [hQ]
  clear hQ
  rcases hkc with ⟨hz1, hz2⟩ | ⟨hz0, hz1, hz2⟩ | ⟨hz0, hz1, hz2⟩ | ⟨hz1, hz2⟩
  ·have hz3 : sn = se := by omega
   have hz4 : se < la := hlt
   subst hz3
   clear hz2 hsn hkl
   go_enter Tryz.func65, Tryz.ntmps65
   go_upto_region 1 with fail
   have T2 : ∀ q : BW w.heap.size w, q.1.cell? ⟨g, 2, none⟩ = some (.int .i64 (sn : Int)) := fun q => q.cellAt hl c2
   have T3 : ∀ q : BW w.heap.size w, q.1.cell? ⟨g, 3, none⟩ = some (.int .i64 (la : Int)) := fun q => q.cellAt hl c3
   clear c0 c1 c2 c3 c4
   refine wp_region_below w.heap.size (by kernel_rfl) (by kernel_rfl) ?_
   repeat (go_big_quiet_step (fail))
   refine wpQuiet_nil ?_
   intro wu hqu
   have HBU : Hid (Below w.heap.size w wu) := by obtain ⟨q, rfl⟩ := hqu; exact q.2
   have HX := hid (HB.out.below HBU.out hl)
   clear hqu T2 T3
   obtain ⟨c0, c1, c2, c3, c4⟩ := fact5p HX.out
   have hlu := HX.out.lt
   go_upto_region 4 with fail
   have T2 : ∀ q : BW wu.heap.size wu, q.1.cell? ⟨g, 2, none⟩ = some (.int .i64 (sn : Int)) := fun q => q.cellAt hlu c2
   have T3 : ∀ q : BW wu.heap.size wu, q.1.cell? ⟨g, 3, none⟩ = some (.int .i64 (la : Int)) := fun q => q.cellAt hlu c3
   clear c0 c1 c2 c3 c4
   refine wp_region_ordT wu.heap.size [19] (.val 0 (.val 1 (.val 2 (.val 3 (.val 4 (.val 5 (.val 6 (.val 7 (.val 8 (.val 9 (.val 10 (.val 11 (.val 12 (.val 13 (.val 14 (.val 15 (.val 16 (.val 17 (.val 18 (.op 19 (.nil))))))))))))))))))))) (by kernel_rfl) (by kernel_rfl) ?_
   obtain ⟨wc, hwc⟩ : ∃ W, wu.drewN 1 = W := ⟨_, rfl⟩
   have HBW : Hid (Below wu.heap.size wu wc) := by rw [← hwc]; exact drewN_below wu 1
   rw [hwc]
   clear hwc
   have HXC := hid (HX.out.below HBW.out hlu)
   have y2 := HXC.out.frozen 2
   have hlc := HXC.out.lt
   obtain ⟨-, -, c2, -, -⟩ := fact5p HXC.out
   iterate 19 ((first | refine wpOrdT_val rfl rfl ?_ | refine wpOrdT_load rfl rfl (inBW HBW.out) ?_); go_big_quiet_step (fail); refine wpQuiet_nil ?_)
   refine wpOrdT_op rfl ?_
   go_wp2_with fail
   refine KT.past rfl ?_
   refine wpOrdT_nil ?_
   obtain ⟨wd, hwd⟩ : ∃ W, wc.setCell ⟨g, 2, none⟩ (.int .i64 (sn : Int)) = W := ⟨_, rfl⟩
   have HXD : Hid (Blk wd g 140 #[.int .i64 (ou : Int), .string tx, .int .i64 (sn : Int), .int .i64 (la : Int), .int .i64 tr]) := by rw [← hwd]; exact HXC.out.set 2 _
   have HKD : Hid (Keep (fun k => k = g) w wd) := by
    rw [← hwd]
    exact ((Keep.of_below (HBU.out.trans (HBW.out.mono HBU.out.size))).trans (Keep.setCell (fun k => k = g) _ ⟨g, 2, none⟩ _ rfl) (fun _ h => .inl h))
   rw [hwd]
   clear hwd HXC HX HBU HBW T2 T3 y2 hlc c2
   obtain ⟨c0, c1, c2, c3, c4⟩ := fact5p HXD.out
   have hld := HXD.out.lt
   go_upto_region 5 with fail
   have T1 : ∀ q : BW wd.heap.size wd, q.1.cell? ⟨g, 1, none⟩ = some (.string tx) := fun q => q.cellAt hld c1
   have T2 : ∀ q : BW wd.heap.size wd, q.1.cell? ⟨g, 2, none⟩ = some (.int .i64 (sn : Int)) := fun q => q.cellAt hld c2
   have T3 : ∀ q : BW wd.heap.size wd, q.1.cell? ⟨g, 3, none⟩ = some (.int .i64 (la : Int)) := fun q => q.cellAt hld c3
   clear c0 c1 c2 c3 c4
   refine wp_region_below wd.heap.size (by kernel_rfl) (by kernel_rfl) ?_
   repeat (go_big_quiet_step (fail))
   refine wpQuiet_nil ?_
   intro we hqu
   have HKE : Hid (Keep (fun k => k = g) w we) := by obtain ⟨q, rfl⟩ := hqu; exact HKD.out.trans (Keep.of_below (F := fun k => k = g) q.2) (fun _ h => .inl h)
   have HXE : Hid (Blk we g 140 #[.int .i64 (ou : Int), .string tx, .int .i64 (sn : Int), .int .i64 (la : Int), .int .i64 tr]) := by obtain ⟨q, rfl⟩ := hqu; exact HXD.out.below q.2 hld
   clear hqu T1 T2 T3 HXD HKD hld
   obtain ⟨c0, c1, c2, c3, c4⟩ := fact5p HXE.out
   have hle := HXE.out.lt
   have y4 := HXE.out.frozen 4
   go_upto_region 7 with fail
   obtain ⟨tr2, htr⟩ : ∃ y, wrap64 (tr + 1) = y := ⟨_, rfl⟩
   rw [htr]
   obtain ⟨wf, hwf⟩ : ∃ W, we.setCell ⟨g, 4, none⟩ (.int .i64 tr2) = W := ⟨_, rfl⟩
   have HXF : Hid (Blk wf g 140 #[.int .i64 (ou : Int), .string tx, .int .i64 (sn : Int), .int .i64 (la : Int), .int .i64 tr2]) := by rw [← hwf]; exact HXE.out.set 4 _
   have HKF : Hid (Keep (fun k => k = g) w wf) := by rw [← hwf]; exact HKE.out.trans (Keep.setCell (fun k => k = g) _ ⟨g, 4, none⟩ _ rfl) (fun _ h => .inl h)
   rw [hwf]
   clear hwf htr y4
   clear HXE HKE c0 c1 c2 c3 c4 hle
   obtain ⟨c0, c1, c2, c3, c4⟩ := fact5p HXF.out
   have hlf := HXF.out.lt
   have T1 : ∀ q : BW wf.heap.size wf, q.1.cell? ⟨g, 1, none⟩ = some (.string tx) := fun q => q.cellAt hlf c1
   have T2 : ∀ q : BW wf.heap.size wf, q.1.cell? ⟨g, 2, none⟩ = some (.int .i64 (sn : Int)) := fun q => q.cellAt hlf c2
   clear c0 c1 c2 c3 c4
   refine wp_region_below wf.heap.size (by kernel_rfl) (by kernel_rfl) ?_
   repeat (go_big_quiet_step (fail))
   refine wpQuiet_nil ?_
   intro wg hqu
   have HKG : Hid (Keep (fun k => k = g) w wg) := by obtain ⟨q, rfl⟩ := hqu; exact HKF.out.trans (Keep.of_below (F := fun k => k = g) q.2) (fun _ h => .inl h)
   have HXG := hid (show Blk wg g 140 _ from by obtain ⟨q, rfl⟩ := hqu; exact HXF.out.below q.2 hlf)
   clear hqu T1 T2 HXF HKF hlf
   go_wp2_with fail
   try go_ret
   first | exact HQ.out _ _ HXG.out HKG.out | (have hq := HQ.out _ _ HXG.out HKG.out; rw [extract_nil] at hq; exact hq)
  ·subst hz2
   have hnn : (se : Int) + (k : Int) = (sn : Int) := by omega
   have hnz : ¬ ((k : Int) < 0) := by omega
   have hnl : ¬ ((la : Int) - (se : Int) < (k : Int)) := by omega
   have hlt2 : sn < la := by omega
   clear hsn
   go_enter Tryz.func65, Tryz.ntmps65
   go_upto_region 1 with fail
   have T2 : ∀ q : BW w.heap.size w, q.1.cell? ⟨g, 2, none⟩ = some (.int .i64 (se : Int)) := fun q => q.cellAt hl c2
   have T3 : ∀ q : BW w.heap.size w, q.1.cell? ⟨g, 3, none⟩ = some (.int .i64 (la : Int)) := fun q => q.cellAt hl c3
   clear c0 c1 c2 c3 c4
   refine wp_region_below w.heap.size (by kernel_rfl) (by kernel_rfl) ?_
   repeat (go_big_quiet_step (fail))
   refine wpQuiet_nil ?_
   intro wu hqu
   have HBU : Hid (Below w.heap.size w wu) := by obtain ⟨q, rfl⟩ := hqu; exact q.2
   have HX := hid (HB.out.below HBU.out hl)
   clear hqu T2 T3
   obtain ⟨c0, c1, c2, c3, c4⟩ := fact5p HX.out
   have hlu := HX.out.lt
   go_upto_region 4 with fail
   have T2 : ∀ q : BW wu.heap.size wu, q.1.cell? ⟨g, 2, none⟩ = some (.int .i64 (se : Int)) := fun q => q.cellAt hlu c2
   have T3 : ∀ q : BW wu.heap.size wu, q.1.cell? ⟨g, 3, none⟩ = some (.int .i64 (la : Int)) := fun q => q.cellAt hlu c3
   clear c0 c1 c2 c3 c4
   refine wp_region_ordT wu.heap.size [19] (.val 0 (.val 1 (.val 2 (.val 3 (.val 4 (.val 5 (.val 6 (.val 7 (.val 8 (.val 9 (.val 10 (.val 11 (.val 12 (.val 13 (.val 14 (.val 15 (.val 16 (.val 17 (.val 18 (.op 19 (.nil))))))))))))))))))))) (by kernel_rfl) (by kernel_rfl) ?_
   obtain ⟨wc, hwc⟩ : ∃ W, wu.drewN 1 = W := ⟨_, rfl⟩
   have HBW : Hid (Below wu.heap.size wu wc) := by rw [← hwc]; exact drewN_below wu 1
   rw [hwc]
   clear hwc
   have HXC := hid (HX.out.below HBW.out hlu)
   have y2 := HXC.out.frozen 2
   have hlc := HXC.out.lt
   obtain ⟨-, -, c2, -, -⟩ := fact5p HXC.out
   iterate 19 ((first | refine wpOrdT_val rfl rfl ?_ | refine wpOrdT_load rfl rfl (inBW HBW.out) ?_); go_big_quiet_step (fail); refine wpQuiet_nil ?_)
   refine wpOrdT_op rfl ?_
   go_wp2_with fail
   refine KT.past rfl ?_
   refine wpOrdT_nil ?_
   obtain ⟨wd, hwd⟩ : ∃ W, wc.setCell ⟨g, 2, none⟩ (.int .i64 (sn : Int)) = W := ⟨_, rfl⟩
   have HXD : Hid (Blk wd g 140 #[.int .i64 (ou : Int), .string tx, .int .i64 (sn : Int), .int .i64 (la : Int), .int .i64 tr]) := by rw [← hwd]; exact HXC.out.set 2 _
   have HKD : Hid (Keep (fun k => k = g) w wd) := by
    rw [← hwd]
    exact ((Keep.of_below (HBU.out.trans (HBW.out.mono HBU.out.size))).trans (Keep.setCell (fun k => k = g) _ ⟨g, 2, none⟩ _ rfl) (fun _ h => .inl h))
   rw [hwd]
   clear hwd HXC HX HBU HBW T2 T3 y2 hlc c2
   obtain ⟨c0, c1, c2, c3, c4⟩ := fact5p HXD.out
   have hld := HXD.out.lt
   go_upto_region 5 with fail
   have T1 : ∀ q : BW wd.heap.size wd, q.1.cell? ⟨g, 1, none⟩ = some (.string tx) := fun q => q.cellAt hld c1
   have T2 : ∀ q : BW wd.heap.size wd, q.1.cell? ⟨g, 2, none⟩ = some (.int .i64 (sn : Int)) := fun q => q.cellAt hld c2
   have T3 : ∀ q : BW wd.heap.size wd, q.1.cell? ⟨g, 3, none⟩ = some (.int .i64 (la : Int)) := fun q => q.cellAt hld c3
   clear c0 c1 c2 c3 c4
   refine wp_region_below wd.heap.size (by kernel_rfl) (by kernel_rfl) ?_
   repeat (go_big_quiet_step (fail))
   refine wpQuiet_nil ?_
   intro we hqu
   have HKE : Hid (Keep (fun k => k = g) w we) := by obtain ⟨q, rfl⟩ := hqu; exact HKD.out.trans (Keep.of_below (F := fun k => k = g) q.2) (fun _ h => .inl h)
   have HXE : Hid (Blk we g 140 #[.int .i64 (ou : Int), .string tx, .int .i64 (sn : Int), .int .i64 (la : Int), .int .i64 tr]) := by obtain ⟨q, rfl⟩ := hqu; exact HXD.out.below q.2 hld
   clear hqu T1 T2 T3 HXD HKD hld
   obtain ⟨c0, c1, c2, c3, c4⟩ := fact5p HXE.out
   have hle := HXE.out.lt
   have y4 := HXE.out.frozen 4
   go_upto_region 7 with fail
   obtain ⟨tr2, htr⟩ : ∃ y, wrap64 (tr + 1) = y := ⟨_, rfl⟩
   rw [htr]
   obtain ⟨wf, hwf⟩ : ∃ W, we.setCell ⟨g, 4, none⟩ (.int .i64 tr2) = W := ⟨_, rfl⟩
   have HXF : Hid (Blk wf g 140 #[.int .i64 (ou : Int), .string tx, .int .i64 (sn : Int), .int .i64 (la : Int), .int .i64 tr2]) := by rw [← hwf]; exact HXE.out.set 4 _
   have HKF : Hid (Keep (fun k => k = g) w wf) := by rw [← hwf]; exact HKE.out.trans (Keep.setCell (fun k => k = g) _ ⟨g, 4, none⟩ _ rfl) (fun _ h => .inl h)
   rw [hwf]
   clear hwf htr y4
   clear HXE HKE c0 c1 c2 c3 c4 hle
   obtain ⟨c0, c1, c2, c3, c4⟩ := fact5p HXF.out
   have hlf := HXF.out.lt
   have T1 : ∀ q : BW wf.heap.size wf, q.1.cell? ⟨g, 1, none⟩ = some (.string tx) := fun q => q.cellAt hlf c1
   have T2 : ∀ q : BW wf.heap.size wf, q.1.cell? ⟨g, 2, none⟩ = some (.int .i64 (sn : Int)) := fun q => q.cellAt hlf c2
   clear c0 c1 c2 c3 c4
   refine wp_region_below wf.heap.size (by kernel_rfl) (by kernel_rfl) ?_
   repeat (go_big_quiet_step (fail))
   refine wpQuiet_nil ?_
   intro wg hqu
   have HKG : Hid (Keep (fun k => k = g) w wg) := by obtain ⟨q, rfl⟩ := hqu; exact HKF.out.trans (Keep.of_below (F := fun k => k = g) q.2) (fun _ h => .inl h)
   have HXG := hid (show Blk wg g 140 _ from by obtain ⟨q, rfl⟩ := hqu; exact HXF.out.below q.2 hlf)
   clear hqu T1 T2 HXF HKF hlf
   go_wp2_with fail
   try go_ret
   first | exact HQ.out _ _ HXG.out HKG.out | (have hq := HQ.out _ _ HXG.out HKG.out; rw [extract_nil] at hq; exact hq)
  ·have hz3 : sn = la := by omega
   subst hz3
   have hnz : ¬ (z < 0) := by omega
   have hnn : (se : Int) + ((sn : Int) - (se : Int)) = (sn : Int) := by omega
   clear hz2 hsn hkl hz0
   go_enter Tryz.func65, Tryz.ntmps65
   go_upto_region 1 with fail
   have T2 : ∀ q : BW w.heap.size w, q.1.cell? ⟨g, 2, none⟩ = some (.int .i64 (se : Int)) := fun q => q.cellAt hl c2
   have T3 : ∀ q : BW w.heap.size w, q.1.cell? ⟨g, 3, none⟩ = some (.int .i64 (sn : Int)) := fun q => q.cellAt hl c3
   clear c0 c1 c2 c3 c4
   refine wp_region_below w.heap.size (by kernel_rfl) (by kernel_rfl) ?_
   repeat (go_big_quiet_step (fail))
   refine wpQuiet_nil ?_
   intro wu hqu
   have HBU : Hid (Below w.heap.size w wu) := by obtain ⟨q, rfl⟩ := hqu; exact q.2
   have HX := hid (HB.out.below HBU.out hl)
   clear hqu T2 T3
   obtain ⟨c0, c1, c2, c3, c4⟩ := fact5p HX.out
   have hlu := HX.out.lt
   go_upto_region 4 with fail
   have T2 : ∀ q : BW wu.heap.size wu, q.1.cell? ⟨g, 2, none⟩ = some (.int .i64 (se : Int)) := fun q => q.cellAt hlu c2
   have T3 : ∀ q : BW wu.heap.size wu, q.1.cell? ⟨g, 3, none⟩ = some (.int .i64 (sn : Int)) := fun q => q.cellAt hlu c3
   clear c0 c1 c2 c3 c4
   refine wp_region_ordT wu.heap.size [19] (.val 0 (.val 1 (.val 2 (.val 3 (.val 4 (.val 5 (.val 6 (.val 7 (.val 8 (.val 9 (.val 10 (.val 11 (.val 12 (.val 13 (.val 14 (.val 15 (.val 16 (.val 17 (.val 18 (.op 19 (.nil))))))))))))))))))))) (by kernel_rfl) (by kernel_rfl) ?_
   obtain ⟨wc, hwc⟩ : ∃ W, wu.drewN 1 = W := ⟨_, rfl⟩
   have HBW : Hid (Below wu.heap.size wu wc) := by rw [← hwc]; exact drewN_below wu 1
   rw [hwc]
   clear hwc
   have HXC := hid (HX.out.below HBW.out hlu)
   have y2 := HXC.out.frozen 2
   have hlc := HXC.out.lt
   obtain ⟨-, -, c2, -, -⟩ := fact5p HXC.out
   iterate 19 ((first | refine wpOrdT_val rfl rfl ?_ | refine wpOrdT_load rfl rfl (inBW HBW.out) ?_); go_big_quiet_step (fail); refine wpQuiet_nil ?_)
   refine wpOrdT_op rfl ?_
   go_wp2_with fail
   refine KT.past rfl ?_
   refine wpOrdT_nil ?_
   obtain ⟨wd, hwd⟩ : ∃ W, wc.setCell ⟨g, 2, none⟩ (.int .i64 (sn : Int)) = W := ⟨_, rfl⟩
   have HXD : Hid (Blk wd g 140 #[.int .i64 (ou : Int), .string tx, .int .i64 (sn : Int), .int .i64 (sn : Int), .int .i64 tr]) := by rw [← hwd]; exact HXC.out.set 2 _
   have HKD : Hid (Keep (fun k => k = g) w wd) := by
    rw [← hwd]
    exact ((Keep.of_below (HBU.out.trans (HBW.out.mono HBU.out.size))).trans (Keep.setCell (fun k => k = g) _ ⟨g, 2, none⟩ _ rfl) (fun _ h => .inl h))
   rw [hwd]
   clear hwd HXC HX HBU HBW T2 T3 y2 hlc c2
   obtain ⟨c0, c1, c2, c3, c4⟩ := fact5p HXD.out
   have hld := HXD.out.lt
   go_upto_region 5 with fail
   have T1 : ∀ q : BW wd.heap.size wd, q.1.cell? ⟨g, 1, none⟩ = some (.string tx) := fun q => q.cellAt hld c1
   have T2 : ∀ q : BW wd.heap.size wd, q.1.cell? ⟨g, 2, none⟩ = some (.int .i64 (sn : Int)) := fun q => q.cellAt hld c2
   have T3 : ∀ q : BW wd.heap.size wd, q.1.cell? ⟨g, 3, none⟩ = some (.int .i64 (sn : Int)) := fun q => q.cellAt hld c3
   clear c0 c1 c2 c3 c4
   refine wp_region_below wd.heap.size (by kernel_rfl) (by kernel_rfl) ?_
   repeat (go_big_quiet_step (fail))
   refine wpQuiet_nil ?_
   intro we hqu
   have HKE : Hid (Keep (fun k => k = g) w we) := by obtain ⟨q, rfl⟩ := hqu; exact HKD.out.trans (Keep.of_below (F := fun k => k = g) q.2) (fun _ h => .inl h)
   have HXE : Hid (Blk we g 140 #[.int .i64 (ou : Int), .string tx, .int .i64 (sn : Int), .int .i64 (sn : Int), .int .i64 tr]) := by obtain ⟨q, rfl⟩ := hqu; exact HXD.out.below q.2 hld
   clear hqu T1 T2 T3 HXD HKD hld
   obtain ⟨c0, c1, c2, c3, c4⟩ := fact5p HXE.out
   have hle := HXE.out.lt
   go_upto_region 7 with fail
   obtain ⟨wf, hwf⟩ : ∃ W, W = we := ⟨_, rfl⟩
   subst hwf
   have tr2 := tr
   have HXF := HXE
   have HKF := HKE
   clear HXE HKE c0 c1 c2 c3 c4 hle
   obtain ⟨c0, c1, c2, c3, c4⟩ := fact5p HXF.out
   have hlf := HXF.out.lt
   have T1 : ∀ q : BW wf.heap.size wf, q.1.cell? ⟨g, 1, none⟩ = some (.string tx) := fun q => q.cellAt hlf c1
   have T2 : ∀ q : BW wf.heap.size wf, q.1.cell? ⟨g, 2, none⟩ = some (.int .i64 (sn : Int)) := fun q => q.cellAt hlf c2
   clear c0 c1 c2 c3 c4
   refine wp_region_below wf.heap.size (by kernel_rfl) (by kernel_rfl) ?_
   repeat (go_big_quiet_step (fail))
   refine wpQuiet_nil ?_
   intro wg hqu
   have HKG : Hid (Keep (fun k => k = g) w wg) := by obtain ⟨q, rfl⟩ := hqu; exact HKF.out.trans (Keep.of_below (F := fun k => k = g) q.2) (fun _ h => .inl h)
   have HXG := hid (show Blk wg g 140 _ from by obtain ⟨q, rfl⟩ := hqu; exact HXF.out.below q.2 hlf)
   clear hqu T1 T2 HXF HKF hlf
   go_wp2_with fail
   try go_ret
   first | exact HQ.out _ _ HXG.out HKG.out | (have hq := HQ.out _ _ HXG.out HKG.out; rw [extract_nil] at hq; exact hq)
  ·have hz3 : sn = la := by omega
   subst hz3
   have hnz : ¬ ((sn : Int) - (se : Int) < 0) := by omega
   have hnn : (se : Int) + ((sn : Int) - (se : Int)) = (sn : Int) := by omega
   subst hz1
   clear hz2 hsn hkl
   go_enter Tryz.func65, Tryz.ntmps65
   go_upto_region 1 with fail
   have T2 : ∀ q : BW w.heap.size w, q.1.cell? ⟨g, 2, none⟩ = some (.int .i64 (se : Int)) := fun q => q.cellAt hl c2
   have T3 : ∀ q : BW w.heap.size w, q.1.cell? ⟨g, 3, none⟩ = some (.int .i64 (sn : Int)) := fun q => q.cellAt hl c3
   clear c0 c1 c2 c3 c4
   refine wp_region_below w.heap.size (by kernel_rfl) (by kernel_rfl) ?_
   repeat (go_big_quiet_step (fail))
   refine wpQuiet_nil ?_
   intro wu hqu
   have HBU : Hid (Below w.heap.size w wu) := by obtain ⟨q, rfl⟩ := hqu; exact q.2
   have HX := hid (HB.out.below HBU.out hl)
   clear hqu T2 T3
   obtain ⟨c0, c1, c2, c3, c4⟩ := fact5p HX.out
   have hlu := HX.out.lt
   go_upto_region 4 with fail
   have T2 : ∀ q : BW wu.heap.size wu, q.1.cell? ⟨g, 2, none⟩ = some (.int .i64 (se : Int)) := fun q => q.cellAt hlu c2
   have T3 : ∀ q : BW wu.heap.size wu, q.1.cell? ⟨g, 3, none⟩ = some (.int .i64 (sn : Int)) := fun q => q.cellAt hlu c3
   clear c0 c1 c2 c3 c4
   refine wp_region_ordT wu.heap.size [19] (.val 0 (.val 1 (.val 2 (.val 3 (.val 4 (.val 5 (.val 6 (.val 7 (.val 8 (.val 9 (.val 10 (.val 11 (.val 12 (.val 13 (.val 14 (.val 15 (.val 16 (.val 17 (.val 18 (.op 19 (.nil))))))))))))))))))))) (by kernel_rfl) (by kernel_rfl) ?_
   obtain ⟨wc, hwc⟩ : ∃ W, wu.drewN 1 = W := ⟨_, rfl⟩
   have HBW : Hid (Below wu.heap.size wu wc) := by rw [← hwc]; exact drewN_below wu 1
   rw [hwc]
   clear hwc
   have HXC := hid (HX.out.below HBW.out hlu)
   have y2 := HXC.out.frozen 2
   have hlc := HXC.out.lt
   obtain ⟨-, -, c2, -, -⟩ := fact5p HXC.out
   iterate 19 ((first | refine wpOrdT_val rfl rfl ?_ | refine wpOrdT_load rfl rfl (inBW HBW.out) ?_); go_big_quiet_step (fail); refine wpQuiet_nil ?_)
   refine wpOrdT_op rfl ?_
   go_wp2_with fail
   refine KT.past rfl ?_
   refine wpOrdT_nil ?_
   obtain ⟨wd, hwd⟩ : ∃ W, wc.setCell ⟨g, 2, none⟩ (.int .i64 (sn : Int)) = W := ⟨_, rfl⟩
   have HXD : Hid (Blk wd g 140 #[.int .i64 (ou : Int), .string tx, .int .i64 (sn : Int), .int .i64 (sn : Int), .int .i64 tr]) := by rw [← hwd]; exact HXC.out.set 2 _
   have HKD : Hid (Keep (fun k => k = g) w wd) := by
    rw [← hwd]
    exact ((Keep.of_below (HBU.out.trans (HBW.out.mono HBU.out.size))).trans (Keep.setCell (fun k => k = g) _ ⟨g, 2, none⟩ _ rfl) (fun _ h => .inl h))
   rw [hwd]
   clear hwd HXC HX HBU HBW T2 T3 y2 hlc c2
   obtain ⟨c0, c1, c2, c3, c4⟩ := fact5p HXD.out
   have hld := HXD.out.lt
   go_upto_region 5 with fail
   have T1 : ∀ q : BW wd.heap.size wd, q.1.cell? ⟨g, 1, none⟩ = some (.string tx) := fun q => q.cellAt hld c1
   have T2 : ∀ q : BW wd.heap.size wd, q.1.cell? ⟨g, 2, none⟩ = some (.int .i64 (sn : Int)) := fun q => q.cellAt hld c2
   have T3 : ∀ q : BW wd.heap.size wd, q.1.cell? ⟨g, 3, none⟩ = some (.int .i64 (sn : Int)) := fun q => q.cellAt hld c3
   clear c0 c1 c2 c3 c4
   refine wp_region_below wd.heap.size (by kernel_rfl) (by kernel_rfl) ?_
   repeat (go_big_quiet_step (fail))
   refine wpQuiet_nil ?_
   intro we hqu
   have HKE : Hid (Keep (fun k => k = g) w we) := by obtain ⟨q, rfl⟩ := hqu; exact HKD.out.trans (Keep.of_below (F := fun k => k = g) q.2) (fun _ h => .inl h)
   have HXE : Hid (Blk we g 140 #[.int .i64 (ou : Int), .string tx, .int .i64 (sn : Int), .int .i64 (sn : Int), .int .i64 tr]) := by obtain ⟨q, rfl⟩ := hqu; exact HXD.out.below q.2 hld
   clear hqu T1 T2 T3 HXD HKD hld
   obtain ⟨c0, c1, c2, c3, c4⟩ := fact5p HXE.out
   have hle := HXE.out.lt
   go_upto_region 7 with fail
   obtain ⟨wf, hwf⟩ : ∃ W, W = we := ⟨_, rfl⟩
   subst hwf
   have tr2 := tr
   have HXF := HXE
   have HKF := HKE
   clear HXE HKE c0 c1 c2 c3 c4 hle
   obtain ⟨c0, c1, c2, c3, c4⟩ := fact5p HXF.out
   have hlf := HXF.out.lt
   have T1 : ∀ q : BW wf.heap.size wf, q.1.cell? ⟨g, 1, none⟩ = some (.string tx) := fun q => q.cellAt hlf c1
   have T2 : ∀ q : BW wf.heap.size wf, q.1.cell? ⟨g, 2, none⟩ = some (.int .i64 (sn : Int)) := fun q => q.cellAt hlf c2
   clear c0 c1 c2 c3 c4
   refine wp_region_below wf.heap.size (by kernel_rfl) (by kernel_rfl) ?_
   repeat (go_big_quiet_step (fail))
   refine wpQuiet_nil ?_
   intro wg hqu
   have HKG : Hid (Keep (fun k => k = g) w wg) := by obtain ⟨q, rfl⟩ := hqu; exact HKF.out.trans (Keep.of_below (F := fun k => k = g) q.2) (fun _ h => .inl h)
   have HXG := hid (show Blk wg g 140 _ from by obtain ⟨q, rfl⟩ := hqu; exact HXF.out.below q.2 hlf)
   clear hqu T1 T2 HXF HKF hlf
   go_wp2_with fail
   try go_ret
   first | exact HQ.out _ _ HXG.out HKG.out | (have hq := HQ.out _ _ HXG.out HKG.out; rw [extract_nil] at hq; exact hq)
end Go.Proofs.YtpkkfdmhbbipoaaGreat
