/- Package cost: in, some, good, Good, Price. Package pend: a writer in memory. -/
import Derived.Test.YtemhdkmijfngnaaGreatDa
namespace Go.Proofs.YtemhdkmijfngnaaGreat
open Go.RowKit

structure SetV where
  live : Int
  ring : Int
  win : Int
  out : Int
  quan : Int
  vis : Int
  deriving DecidableEq
def SetV.val (s : SetV) : Value := .agg #[.int .i64 s.live, .int .i64 s.ring, .int .i64 s.win, .int .i64 s.out, .int .i64 s.quan, .int .i64 s.vis]
def inB (n m : Int) : Bool := decide (1 ≤ n) && decide (n ≤ m)
def goodS (s : SetV) : Bool := inB s.ring 4096 && inB s.win 4096 && inB s.out 4096 && inB s.live 1024 && inB s.quan 1000000 && inB s.vis 64
theorem goodS_bd {s : SetV} (h : goodS s = true) : (1 ≤ s.ring ∧ s.ring ≤ 4096) ∧ (1 ≤ s.win ∧ s.win ≤ 4096) ∧ (1 ≤ s.out ∧ s.out ≤ 4096) ∧ (1 ≤ s.live ∧ s.live ≤ 1024) ∧ (1 ≤ s.quan ∧ s.quan ≤ 1000000) ∧ (1 ≤ s.vis ∧ s.vis ≤ 64) := by
  simpa [goodS, inB, Bool.and_eq_true, decide_eq_true_iff, and_assoc] using h
theorem costIn_any (n m : Int) (w : World) : Calls Tryz.prog 138 #[.int .i64 n, .int .i64 m] w fun e w' => e = .returned (.bool (inB n m)) ∧ w = w' := by
  unfold inB
  by_cases h1 : 1 ≤ n
  · by_cases h2 : n ≤ m
    all_goals
      first | rw [decide_eq_true h1] | skip
      first | rw [decide_eq_true h2] | rw [decide_eq_false h2]
      go_enter Tryz.func138, Tryz.ntmps138
      go_wp2_with fail
      go_ret
      exact ⟨rfl, rfl⟩
  · rw [decide_eq_false h1]
    go_enter Tryz.func138, Tryz.ntmps138
    go_wp2_with fail
    go_ret
    exact ⟨rfl, rfl⟩
set_option maxRecDepth 20000 in
set_option maxHeartbeats 800000 in
theorem costGoodI_any (s : SetV) (w : World) : Calls Tryz.prog 108 #[s.val] w fun e w' => e = .returned (.bool (goodS s)) ∧ Below w.heap.size w w' := by
  obtain ⟨lv, rg, wn, ou, qu, vi⟩ := s
  unfold goodS SetV.val
  simp only
  have C1 := hid (fun W => costIn_any rg 4096 W)
  have C2 := hid (fun W => costIn_any wn 4096 W)
  have C3 := hid (fun W => costIn_any ou 4096 W)
  have C4 := hid (fun W => costIn_any lv 1024 W)
  have C5 := hid (fun W => costIn_any qu 1000000 W)
  have C6 := hid (fun W => costIn_any vi 64 W)
  cases hb1 : inB rg 4096 with
  | false =>
    rw [hb1] at C1
    clear hb1 C2 C3 C4 C5 C6
    simp only [Bool.true_and, Bool.false_and, Bool.and_false, Bool.and_true]
    go_enter Tryz.func108, Tryz.ntmps108
    go_wp2_with fail
    refine (C1.out _).mono ?_
    rintro en wq ⟨rfl, rfl⟩
    go_wp2_with fail
    go_ret
    exact ⟨rfl, (Below.refl _ _).alloc (Nat.le_refl _) _⟩
  | true =>
    rw [hb1] at C1
    clear hb1
    cases hb2 : inB wn 4096 with
    | false =>
      rw [hb2] at C2
      clear hb2 C3 C4 C5 C6
      simp only [Bool.true_and, Bool.false_and, Bool.and_false, Bool.and_true]
      go_enter Tryz.func108, Tryz.ntmps108
      go_wp2_with fail
      refine (C1.out _).mono ?_
      rintro en wq ⟨rfl, rfl⟩
      go_wp2_with fail
      refine (C2.out _).mono ?_
      rintro en wq ⟨rfl, rfl⟩
      go_wp2_with fail
      go_ret
      exact ⟨rfl, (Below.refl _ _).alloc (Nat.le_refl _) _⟩
    | true =>
      rw [hb2] at C2
      clear hb2
      cases hb3 : inB ou 4096 with
      | false =>
        rw [hb3] at C3
        clear hb3 C4 C5 C6
        simp only [Bool.true_and, Bool.false_and, Bool.and_false, Bool.and_true]
        go_enter Tryz.func108, Tryz.ntmps108
        go_wp2_with fail
        refine (C1.out _).mono ?_
        rintro en wq ⟨rfl, rfl⟩
        go_wp2_with fail
        refine (C2.out _).mono ?_
        rintro en wq ⟨rfl, rfl⟩
        go_wp2_with fail
        refine (C3.out _).mono ?_
        rintro en wq ⟨rfl, rfl⟩
        go_wp2_with fail
        go_ret
        exact ⟨rfl, (Below.refl _ _).alloc (Nat.le_refl _) _⟩
      | true =>
        rw [hb3] at C3
        clear hb3
        cases hb4 : inB lv 1024 with
        | false =>
          rw [hb4] at C4
          clear hb4 C5 C6
          simp only [Bool.true_and, Bool.false_and, Bool.and_false, Bool.and_true]
          go_enter Tryz.func108, Tryz.ntmps108
          go_wp2_with fail
          refine (C1.out _).mono ?_
          rintro en wq ⟨rfl, rfl⟩
          go_wp2_with fail
          refine (C2.out _).mono ?_
          rintro en wq ⟨rfl, rfl⟩
          go_wp2_with fail
          refine (C3.out _).mono ?_
          rintro en wq ⟨rfl, rfl⟩
          go_wp2_with fail
          refine (C4.out _).mono ?_
          rintro en wq ⟨rfl, rfl⟩
          go_wp2_with fail
          go_ret
          exact ⟨rfl, (Below.refl _ _).alloc (Nat.le_refl _) _⟩
        | true =>
          rw [hb4] at C4
          clear hb4
          cases hb5 : inB qu 1000000 with
          | false =>
            rw [hb5] at C5
            clear hb5 C6
            simp only [Bool.true_and, Bool.false_and, Bool.and_false, Bool.and_true]
            go_enter Tryz.func108, Tryz.ntmps108
            go_wp2_with fail
            refine (C1.out _).mono ?_
            rintro en wq ⟨rfl, rfl⟩
            go_wp2_with fail
            refine (C2.out _).mono ?_
            rintro en wq ⟨rfl, rfl⟩
            go_wp2_with fail
            refine (C3.out _).mono ?_
            rintro en wq ⟨rfl, rfl⟩
            go_wp2_with fail
            refine (C4.out _).mono ?_
            rintro en wq ⟨rfl, rfl⟩
            go_wp2_with fail
            refine (C5.out _).mono ?_
            rintro en wq ⟨rfl, rfl⟩
            go_wp2_with fail
            go_ret
            exact ⟨rfl, (Below.refl _ _).alloc (Nat.le_refl _) _⟩
          | true =>
            rw [hb5] at C5
            clear hb5
            cases hb6 : inB vi 64 with
            | false =>
              rw [hb6] at C6
              clear hb6
              simp only [Bool.true_and, Bool.false_and, Bool.and_false, Bool.and_true]
              go_enter Tryz.func108, Tryz.ntmps108
              go_wp2_with fail
              refine (C1.out _).mono ?_
              rintro en wq ⟨rfl, rfl⟩
              go_wp2_with fail
              refine (C2.out _).mono ?_
              rintro en wq ⟨rfl, rfl⟩
              go_wp2_with fail
              refine (C3.out _).mono ?_
              rintro en wq ⟨rfl, rfl⟩
              go_wp2_with fail
              refine (C4.out _).mono ?_
              rintro en wq ⟨rfl, rfl⟩
              go_wp2_with fail
              refine (C5.out _).mono ?_
              rintro en wq ⟨rfl, rfl⟩
              go_wp2_with fail
              refine (C6.out _).mono ?_
              rintro en wq ⟨rfl, rfl⟩
              go_wp2_with fail
              go_ret
              exact ⟨rfl, (Below.refl _ _).alloc (Nat.le_refl _) _⟩
            | true =>
              rw [hb6] at C6
              clear hb6
              simp only [Bool.true_and, Bool.and_true]
              go_enter Tryz.func108, Tryz.ntmps108
              go_wp2_with fail
              refine (C1.out _).mono ?_
              rintro en wq ⟨rfl, rfl⟩
              go_wp2_with fail
              refine (C2.out _).mono ?_
              rintro en wq ⟨rfl, rfl⟩
              go_wp2_with fail
              refine (C3.out _).mono ?_
              rintro en wq ⟨rfl, rfl⟩
              go_wp2_with fail
              refine (C4.out _).mono ?_
              rintro en wq ⟨rfl, rfl⟩
              go_wp2_with fail
              refine (C5.out _).mono ?_
              rintro en wq ⟨rfl, rfl⟩
              go_wp2_with fail
              refine (C6.out _).mono ?_
              rintro en wq ⟨rfl, rfl⟩
              go_wp2_with fail
              go_ret
              exact ⟨rfl, (Below.refl _ _).alloc (Nat.le_refl _) _⟩

theorem costGood_any (s : SetV) (w : World) : Calls Tryz.prog 79 #[s.val] w fun e w' => e = .returned (.bool (goodS s)) ∧ Below w.heap.size w w' := by
  have C1 := hid (fun W => costGoodI_any s W)
  obtain ⟨b, hb⟩ : ∃ y, goodS s = y := ⟨_, rfl⟩
  rw [hb] at C1 ⊢
  clear hb
  obtain ⟨lv, rg, wn, ou, qu, vi⟩ := s
  unfold SetV.val at C1 ⊢
  simp only at C1 ⊢
  go_enter Tryz.func79, Tryz.ntmps79
  go_wp2_with fail
  refine (C1.out _).mono ?_
  rintro e w1 ⟨rfl, hb⟩
  have HB := hid (((Below.refl w.heap.size w).alloc (Nat.le_refl _) (.cells #[.int .i64 lv, .int .i64 rg, .int .i64 wn, .int .i64 ou, .int .i64 qu, .int .i64 vi] 23)).trans (hb.mono (by simp)))
  clear hb C1
  go_wp2_with fail
  go_ret
  exact ⟨rfl, HB.out⟩
end Go.Proofs.YtemhdkmijfngnaaGreat
namespace Go.Proofs.YtemhdkmijfngnaaGreat
open Go.RowKit

structure PendV where
  out : Nat
  text : ByteArray
  sent : Nat
  laid : Nat
def PendAt (w : World) (g : Nat) (p : PendV) : Prop := (∃ tr : Int, Blk w g 142 #[.int .i64 (p.out : Int), .string p.text, .int .i64 (p.sent : Int), .int .i64 (p.laid : Int), .int .i64 tr]) ∧ p.sent ≤ p.laid ∧ p.laid ≤ p.text.size ∧ p.text.size ≤ 9223372036854775807 ∧ 1 ≤ p.out ∧ p.out ≤ 4096
def PendV.new (m : Nat) : PendV := ⟨m, ⟨#[]⟩, 0, 0⟩
def PendV.begin (p : PendV) (s : ByteArray) : PendV := ⟨p.out, s, 0, 0⟩
def PendV.loadN (p : PendV) : Nat := if p.sent < p.laid then 0 else min (p.text.size - p.laid) p.out
def PendV.load (p : PendV) : PendV := ⟨p.out, p.text, p.sent, p.laid + p.loadN⟩
def PendV.takeN (p : PendV) (z : Int) : Nat := min z.toNat (p.laid - p.sent)
def PendV.take (p : PendV) (z : Int) : PendV := ⟨p.out, p.text, p.sent + p.takeN z, p.laid⟩
def PendV.peek (p : PendV) : ByteArray := p.text.extract p.sent p.laid
theorem PendAt.lt {w : World} {g : Nat} {p : PendV} (h : PendAt w g p) : g < w.heap.size := by
  obtain ⟨⟨tr, h⟩, _⟩ := h
  exact h.lt
theorem PendAt.keep {F : Nat → Prop} {w w' : World} {g : Nat} {p : PendV} (h : PendAt w g p) (hk : Keep F w w') (hf : ¬ F g) : PendAt w' g p := by
  obtain ⟨⟨tr, h⟩, r⟩ := h
  exact ⟨⟨tr, hk.blk h hf⟩, r⟩
theorem PendAt.below {w w' : World} {g : Nat} {p : PendV} (h : PendAt w g p) (hb : Below w.heap.size w w') : PendAt w' g p := h.keep (Keep.of_below (F := fun _ => False) hb) id
theorem fact5p {w : World} {g : Nat} {t : TypeId} {a b c d e : Value} (h : Blk w g t #[a, b, c, d, e]) : w.cell? ⟨g, 0, none⟩ = some a ∧ w.cell? ⟨g, 1, none⟩ = some b ∧ w.cell? ⟨g, 2, none⟩ = some c ∧ w.cell? ⟨g, 3, none⟩ = some d ∧ w.cell? ⟨g, 4, none⟩ = some e := ⟨h.cell 0, h.cell 1, h.cell 2, h.cell 3, h.cell 4⟩
theorem pnNew_any (m : Nat) (h1 : 1 ≤ m) (h2 : m ≤ 4096) (w : World) : Calls Tryz.prog 86 #[.int .i64 (m : Int)] w fun e w' => e = .returned (.pointer (some ⟨w.heap.size, 0, none⟩)) ∧ PendAt w' w.heap.size (PendV.new m) ∧ Below w.heap.size w w' := by
  have H := hid (And.intro h1 h2)
  go_enter Tryz.func86, Tryz.ntmps86
  go_wp2_with fail
  go_ret
  exact ⟨rfl, ⟨⟨0, Blk.new w _ _⟩, Nat.le_refl _, Nat.le_refl _, by simp [PendV.new, ByteArray.size], H.out.1, H.out.2⟩, (Below.refl _ _).alloc (Nat.le_refl _) _⟩

set_option maxRecDepth 20000 in
theorem pnBegin_any (g : Nat) (p : PendV) (s : ByteArray) (w : World) (h : PendAt w g p) (hs : s.size ≤ 9223372036854775807) :
    Calls Tryz.prog 124 #[.pointer (some ⟨g, 0, none⟩), .string s] w fun e w' => e = .returned (.tuple #[]) ∧ PendAt w' g (p.begin s) ∧ Keep (fun k => k = g) w w' := by
  obtain ⟨⟨tr, hb⟩, h1, h2, h3, h4, h5⟩ := h
  have HB := hid hb
  have HR := hid (And.intro h4 h5)
  have HS := hid hs
  obtain ⟨c0, c1, c2, c3, c4⟩ := fact5p hb
  have y0 := hb.frozen 0; have y1 := hb.frozen 1; have y2 := hb.frozen 2; have y3 := hb.frozen 3; have y4 := hb.frozen 4
  have hl := hb.lt
  clear h1 h2 h3 h4 h5 hs hb
  obtain ⟨ou, tx, se, la⟩ := p
  simp only at HB HR c0 c1 c2 c3
  go_enter Tryz.func124, Tryz.ntmps124
  go_wp2_with fail
  obtain ⟨w', hw⟩ : ∃ W, ((((w.setCell ⟨g, 0, none⟩ (.int .i64 (ou : Int))).setCell ⟨g, 1, none⟩ (.string s)).setCell ⟨g, 2, none⟩ (.int .i64 0)).setCell ⟨g, 3, none⟩ (.int .i64 0)).setCell ⟨g, 4, none⟩ (.int .i64 0) = W := ⟨_, rfl⟩
  have HK : Keep (fun k => k = g) w w' := by
    rw [← hw]
    exact (Keep.setCell (fun k => k = g) w ⟨g, 0, none⟩ _ rfl).trans ((Keep.setCell (fun k => k = g) _ ⟨g, 1, none⟩ _ rfl).trans ((Keep.setCell (fun k => k = g) _ ⟨g, 2, none⟩ _ rfl).trans ((Keep.setCell (fun k => k = g) _ ⟨g, 3, none⟩ _ rfl).trans (Keep.setCell (fun k => k = g) _ ⟨g, 4, none⟩ _ rfl) (fun _ h => .inl h)) (fun _ h => .inl h)) (fun _ h => .inl h)) (fun _ h => .inl h)
  have HN : Blk w' g 142 #[.int .i64 (ou : Int), .string s, .int .i64 0, .int .i64 0, .int .i64 0] := by
    rw [← hw]
    exact ((((HB.out.set 0 _).set 1 _).set 2 _).set 3 _).set 4 _
  rw [hw]
  go_end0
  exact ⟨rfl, ⟨⟨0, HN⟩, Nat.le_refl _, Nat.zero_le _, HS.out, HR.out.1, HR.out.2⟩, HK⟩

set_option maxRecDepth 20000 in
theorem pnLeft_any (g : Nat) (p : PendV) (w : World) (h : PendAt w g p) :
    Calls Tryz.prog 106 #[.pointer (some ⟨g, 0, none⟩)] w fun e w' => e = .returned (.int .i64 ((p.laid : Int) - (p.sent : Int))) ∧ Below w.heap.size w w' := by
  obtain ⟨⟨tr, hb⟩, h1, h2, h3, h4, h5⟩ := h
  obtain ⟨c0, c1, c2, c3, c4⟩ := fact5p hb
  have hl := hb.lt
  obtain ⟨ou, tx, se, la⟩ := p
  simp only [PendV.peek] at c0 c1 c2 c3 h1 h2 h3 ⊢
  clear hb h4 h5
  go_enter Tryz.func106, Tryz.ntmps106
  go_upto_region 3 with fail
  have T1 : ∀ q : BW w.heap.size w, q.1.cell? ⟨g, 1, none⟩ = some (.string tx) := fun q => q.cellAt hl c1
  have T2 : ∀ q : BW w.heap.size w, q.1.cell? ⟨g, 2, none⟩ = some (.int .i64 (se : Int)) := fun q => q.cellAt hl c2
  have T3 : ∀ q : BW w.heap.size w, q.1.cell? ⟨g, 3, none⟩ = some (.int .i64 (la : Int)) := fun q => q.cellAt hl c3
  clear c0 c1 c2 c3 c4
  refine wp_region_below w.heap.size (by kernel_rfl) (by kernel_rfl) ?_
  repeat (go_big_quiet_step (fail))
  refine wpQuiet_nil ?_
  intro wu hqu
  have HBU : Hid (Below w.heap.size w wu) := by obtain ⟨q, rfl⟩ := hqu; exact q.2
  clear hqu T1 T2 T3
  go_wp2_with fail
  go_ret
  exact ⟨rfl, HBU.out⟩

set_option maxRecDepth 20000 in
theorem pnRest_any (g : Nat) (p : PendV) (w : World) (h : PendAt w g p) :
    Calls Tryz.prog 68 #[.pointer (some ⟨g, 0, none⟩)] w fun e w' => e = .returned (.int .i64 ((p.text.size : Int) - (p.laid : Int))) ∧ Below w.heap.size w w' := by
  obtain ⟨⟨tr, hb⟩, h1, h2, h3, h4, h5⟩ := h
  obtain ⟨c0, c1, c2, c3, c4⟩ := fact5p hb
  have hl := hb.lt
  obtain ⟨ou, tx, se, la⟩ := p
  simp only [PendV.peek] at c0 c1 c2 c3 h1 h2 h3 ⊢
  clear hb h4 h5
  go_enter Tryz.func68, Tryz.ntmps68
  go_upto_region 3 with fail
  have T1 : ∀ q : BW w.heap.size w, q.1.cell? ⟨g, 1, none⟩ = some (.string tx) := fun q => q.cellAt hl c1
  have T2 : ∀ q : BW w.heap.size w, q.1.cell? ⟨g, 2, none⟩ = some (.int .i64 (se : Int)) := fun q => q.cellAt hl c2
  have T3 : ∀ q : BW w.heap.size w, q.1.cell? ⟨g, 3, none⟩ = some (.int .i64 (la : Int)) := fun q => q.cellAt hl c3
  clear c0 c1 c2 c3 c4
  refine wp_region_below w.heap.size (by kernel_rfl) (by kernel_rfl) ?_
  repeat (go_big_quiet_step (fail))
  refine wpQuiet_nil ?_
  intro wu hqu
  have HBU : Hid (Below w.heap.size w wu) := by obtain ⟨q, rfl⟩ := hqu; exact q.2
  clear hqu T1 T2 T3
  go_wp2_with fail
  go_ret
  exact ⟨rfl, HBU.out⟩

set_option maxRecDepth 20000 in
set_option maxHeartbeats 800000 in
theorem pnLoad_any (g : Nat) (p : PendV) (w : World) (h : PendAt w g p) :
    Calls Tryz.prog 135 #[.pointer (some ⟨g, 0, none⟩)] w fun e w' => e = .returned (.int .i64 ((p.loadN : Nat) : Int)) ∧ PendAt w' g p.load ∧ Keep (fun k => k = g) w w' := by
  have H0 := hid h
  obtain ⟨⟨tr, hb⟩, h1, h2, h3, h4, h5⟩ := h
  obtain ⟨c0, c1, c2, c3, c4⟩ := fact5p hb
  have hl := hb.lt
  have HB := hid hb
  obtain ⟨ou, tx, se, la⟩ := p
  simp only [PendV.load, PendV.loadN] at H0 HB c0 c1 c2 c3 h1 h2 h3 h4 h5 ⊢
  clear hb
  by_cases hc : se < la
  · rw [if_pos hc]
    have hc2 : (se : Int) < (la : Int) := by omega
    clear hc
    go_enter Tryz.func135, Tryz.ntmps135
    go_upto_region 1 with fail
    have T2 : ∀ q : BW w.heap.size w, q.1.cell? ⟨g, 2, none⟩ = some (.int .i64 (se : Int)) := fun q => q.cellAt hl c2
    have T3 : ∀ q : BW w.heap.size w, q.1.cell? ⟨g, 3, none⟩ = some (.int .i64 (la : Int)) := fun q => q.cellAt hl c3
    clear c0 c1 c2 c3 c4
    refine wp_region_below w.heap.size (by kernel_rfl) (by kernel_rfl) ?_
    repeat (go_big_quiet_step (fail))
    refine wpQuiet_nil ?_
    intro wu hqu
    have HBU : Hid (Below w.heap.size w wu) := by obtain ⟨q, rfl⟩ := hqu; exact q.2
    clear hqu T2 T3
    go_wp2_with fail
    go_ret
    exact ⟨rfl, H0.out.below HBU.out, Keep.of_below HBU.out⟩
  · have hc3 : la = se := by omega
    subst hc3
    rw [if_neg (by omega)]
    clear hc h1
    have HS := hid (And.intro h2 (And.intro h3 (And.intro h4 h5)))
    obtain ⟨n, hn⟩ : ∃ y, min (tx.size - la) ou = y := ⟨_, rfl⟩
    have HIF : Hid ((if (ou : Int) < (tx.size : Int) - (la : Int) then (ou : Int) else (tx.size : Int) - (la : Int)) = (n : Int)) := by rw [Hid]; split <;> omega
    rw [hn]
    have HN : Hid (la + n ≤ tx.size) := by rw [Hid]; omega
    clear hn
    have hlan : (la : Int) + (n : Int) ≤ 9223372036854775807 := by have := HN.out; omega
    have hsz : (tx.size : Int) ≤ 9223372036854775807 := by omega
    go_enter Tryz.func135, Tryz.ntmps135
    go_upto_region 1 with fail
    have T2 : ∀ q : BW w.heap.size w, q.1.cell? ⟨g, 2, none⟩ = some (.int .i64 (la : Int)) := fun q => q.cellAt hl c2
    have T3 : ∀ q : BW w.heap.size w, q.1.cell? ⟨g, 3, none⟩ = some (.int .i64 (la : Int)) := fun q => q.cellAt hl c3
    clear c0 c1 c2 c3 c4
    refine wp_region_below w.heap.size (by kernel_rfl) (by kernel_rfl) ?_
    repeat (go_big_quiet_step (fail))
    refine wpQuiet_nil ?_
    intro wu hqu
    have HBU : Hid (Below w.heap.size w wu) := by obtain ⟨q, rfl⟩ := hqu; exact q.2
    have HX := hid (HB.out.below HBU.out hl)
    clear hqu T2 T3
    obtain ⟨c0, c1, c2, c3, c4⟩ := fact5p HX.out
    have hlu := HX.out.lt
    go_upto_region 3 with fail
    have T0 : ∀ q : BW wu.heap.size wu, q.1.cell? ⟨g, 0, none⟩ = some (.int .i64 (ou : Int)) := fun q => q.cellAt hlu c0
    have T1 : ∀ q : BW wu.heap.size wu, q.1.cell? ⟨g, 1, none⟩ = some (.string tx) := fun q => q.cellAt hlu c1
    have T3 : ∀ q : BW wu.heap.size wu, q.1.cell? ⟨g, 3, none⟩ = some (.int .i64 (la : Int)) := fun q => q.cellAt hlu c3
    clear c0 c1 c2 c3 c4
    refine wp_region_below wu.heap.size (by kernel_rfl) (by kernel_rfl) ?_
    repeat (go_big_quiet_step (fail))
    refine wpQuiet_nil ?_
    intro wv hqu
    have HBV : Hid (Below wu.heap.size wu wv) := by obtain ⟨q, rfl⟩ := hqu; exact q.2
    have HXV := hid (HX.out.below HBV.out hlu)
    clear hqu T0 T1 T3
    rw [HIF.out]
    obtain ⟨c0, c1, c2, c3, c4⟩ := fact5p HXV.out
    have y3 := HXV.out.frozen 3
    have hlv := HXV.out.lt
    go_wp2_with fail
    go_ret
    refine ⟨rfl, ⟨⟨tr, ?_⟩, Nat.le_add_right _ _, HN.out, HS.out.2.1, HS.out.2.2.1, HS.out.2.2.2⟩, ?_⟩
    · have := HXV.out.set 3 (.int .i64 ((la : Int) + (n : Int)))
      have e : (la : Int) + (n : Int) = ((la + n : Nat) : Int) := by omega
      rw [e] at this ⊢
      exact this
    · exact ((Keep.of_below (HBU.out.trans (HBV.out.mono HBU.out.size))).trans (Keep.setCell (fun k => k = g) _ ⟨g, 3, none⟩ _ rfl) (fun _ h => .inl h))

end Go.Proofs.YtemhdkmijfngnaaGreat
