/- Package cost: in, some, good, Good, Price. Package pend: a writer in memory. -/
import Derived.Test.YtpkkfdmhbbipoaaGreatDa
namespace Go.Proofs.YtpkkfdmhbbipoaaGreat
set_option maxRecDepth 20000
set_option maxHeartbeats 1600000
open Go.RowKit
structure Uk where
 live : Int
 ring : Int
 win : Int
 out : Int
 quan : Int
 vis : Int
 deriving DecidableEq
def Uk.val (s : Uk) : Value := .agg #[s.live, s.ring, s.win, s.out, s.quan, s.vis]
def inB (n m : Int) : Bool := decide (1 ≤ n) && decide (n ≤ m)
def Wf (s : Uk) : Bool := inB s.ring 4096 && inB s.win 4096 && inB s.out 4096 && inB s.live 1024 && inB s.quan 1000000 && inB s.vis 64
theorem Qt {s : Uk} (h : Wf s = true) : (1 ≤ s.ring ∧ s.ring ≤ 4096) ∧ (1 ≤ s.win ∧ s.win ≤ 4096) ∧ (1 ≤ s.out ∧ s.out ≤ 4096) ∧ (1 ≤ s.live ∧ s.live ≤ 1024) ∧ (1 ≤ s.quan ∧ s.quan ≤ 1000000) ∧ (1 ≤ s.vis ∧ s.vis ≤ 64) := by
 simpa [Wf, inB, Bool.and_eq_true, decide_eq_true_iff, and_assoc] using h
theorem Jv (n m : Int) (w : World) : Calls Tryz.prog 163 #[n, m] w fun e w' => e = .returned (.bool (inB n m)) ∧ w = w' := by
 unfold inB;by_cases h1 : 1 ≤ n
 ·by_cases h2 : n ≤ m
  all_goals
   first | rw [decide_eq_true h1] | skip
   first | rw [decide_eq_true h2] | rw [decide_eq_false h2]
   go_enter Tryz.func163, Tryz.ntmps163;go_wp2_with fail;go_ret;exact ⟨rfl, rfl⟩
 ·rw [decide_eq_false h1]
  go_enter Tryz.func163, Tryz.ntmps163;go_wp2_with fail;go_ret;exact ⟨rfl, rfl⟩
theorem N127{P:Prop}(h:P:=by
 rintro en wq ⟨rfl, rfl⟩;go_wp2_with fail;go_ret;exact ⟨rfl, (Below.refl _ _).alloc (Nat.le_refl _) _⟩):P:=h
theorem N28{P:Prop}(h:P:=by
 go_enter Tryz.func127, Tryz.ntmps127;go_wp2_with fail;refine (C1.out _).mono ?_;rintro en wq ⟨rfl, rfl⟩;go_wp2_with fail;refine (C2.out _).mono ?_;rintro en wq ⟨rfl, rfl⟩;go_wp2_with fail;refine (C3.out _).mono ?_;rintro en wq ⟨rfl, rfl⟩;go_wp2_with fail;refine (C4.out _).mono ?_;rintro en wq ⟨rfl, rfl⟩;go_wp2_with fail;refine (C5.out _).mono ?_;rintro en wq ⟨rfl, rfl⟩;go_wp2_with fail;refine (C6.out _).mono ?_;exact N127):P:=h
set_option linter.unusedSimpArgs false in
theorem Zf6 (s : Uk) (w : World) : Calls Tryz.prog 127 #[s.val] w fun e w' => e = .returned (.bool (Wf s)) ∧ Below w.heap.size w w' := by
 obtain ⟨lv, rg, wn, ou, qu, vi⟩ := s;unfold Wf Uk.val;simp only;have C1 := hid (fun W => Jv rg 4096 W);have C2 := hid (fun W => Jv wn 4096 W);have C3 := hid (fun W => Jv ou 4096 W);have C4 := hid (fun W => Jv lv 1024 W);have C5 := hid (fun W => Jv qu 1000000 W);have C6 := hid (fun W => Jv vi 64 W);cases hb1 : inB rg 4096 with
 | false =>
  rw [hb1] at C1;clear hb1 C2 C3 C4 C5 C6;simp only [Bool.true_and, Bool.false_and, Bool.and_false, Bool.and_true];go_enter Tryz.func127, Tryz.ntmps127;go_wp2_with fail;refine (C1.out _).mono ?_;exact N127
 | true =>
  rw [hb1] at C1;clear hb1;cases hb2 : inB wn 4096 with
  | false =>
   rw [hb2] at C2;clear hb2 C3 C4 C5 C6;simp only [Bool.true_and, Bool.false_and, Bool.and_false, Bool.and_true];go_enter Tryz.func127, Tryz.ntmps127;go_wp2_with fail;refine (C1.out _).mono ?_;rintro en wq ⟨rfl, rfl⟩;go_wp2_with fail;refine (C2.out _).mono ?_;exact N127
  | true =>
   rw [hb2] at C2;clear hb2;cases hb3 : inB ou 4096 with
   | false =>
    rw [hb3] at C3;clear hb3 C4 C5 C6;simp only [Bool.true_and, Bool.false_and, Bool.and_false, Bool.and_true];go_enter Tryz.func127, Tryz.ntmps127;go_wp2_with fail;refine (C1.out _).mono ?_;rintro en wq ⟨rfl, rfl⟩;go_wp2_with fail;refine (C2.out _).mono ?_;rintro en wq ⟨rfl, rfl⟩;go_wp2_with fail;refine (C3.out _).mono ?_;exact N127
   | true =>
    rw [hb3] at C3;clear hb3;cases hb4 : inB lv 1024 with
    | false =>
     rw [hb4] at C4;clear hb4 C5 C6;simp only [Bool.true_and, Bool.false_and, Bool.and_false, Bool.and_true];go_enter Tryz.func127, Tryz.ntmps127;go_wp2_with fail;refine (C1.out _).mono ?_;rintro en wq ⟨rfl, rfl⟩;go_wp2_with fail;refine (C2.out _).mono ?_;rintro en wq ⟨rfl, rfl⟩;go_wp2_with fail;refine (C3.out _).mono ?_;rintro en wq ⟨rfl, rfl⟩;go_wp2_with fail;refine (C4.out _).mono ?_;exact N127
    | true =>
     rw [hb4] at C4;clear hb4;cases hb5 : inB qu 1000000 with
     | false =>
      rw [hb5] at C5;clear hb5 C6;simp only [Bool.true_and, Bool.false_and, Bool.and_false, Bool.and_true];go_enter Tryz.func127, Tryz.ntmps127;go_wp2_with fail;refine (C1.out _).mono ?_;rintro en wq ⟨rfl, rfl⟩;go_wp2_with fail;refine (C2.out _).mono ?_;rintro en wq ⟨rfl, rfl⟩;go_wp2_with fail;refine (C3.out _).mono ?_;rintro en wq ⟨rfl, rfl⟩;go_wp2_with fail;refine (C4.out _).mono ?_;rintro en wq ⟨rfl, rfl⟩;go_wp2_with fail;refine (C5.out _).mono ?_;exact N127
     | true =>
      rw [hb5] at C5;clear hb5;cases hb6 : inB vi 64 with
      | false =>
       rw [hb6] at C6;clear hb6;simp only [Bool.true_and, Bool.false_and, Bool.and_false, Bool.and_true];exact N28
      | true =>
       rw [hb6] at C6;clear hb6;simp only [Bool.true_and, Bool.and_true];exact N28
theorem Zhx (s : Uk) (w : World) : Calls Tryz.prog 92 #[s.val] w fun e w' => e = .returned (.bool (Wf s)) ∧ Below w.heap.size w w' := by
 have C1 := hid (fun W => Zf6 s W);obtain ⟨b, hb⟩ := nE (Wf s);rw [hb] at C1 ⊢;clear hb;obtain ⟨lv, rg, wn, ou, qu, vi⟩ := s;unfold Uk.val at C1 ⊢;simp only at C1 ⊢;go_enter Tryz.func92, Tryz.ntmps92;go_wp2_with fail;refine (C1.out _).mono ?_;rintro e w1 ⟨rfl, hb⟩;have HB := hid (((Below.refl w.heap.size w).alloc (Nat.le_refl _) (.cells #[lv, rg, wn, ou, qu, vi] 23)).trans (hb.mono ah));clear hb C1;go_wp2_with fail;go_ret;exact ⟨rfl, HB.out⟩
structure Yy where
 out : Nat
 text : ByteArray
 sent : Nat
 laid : Nat
def Vt (w : World) (g : Nat) (p : Yy) : Prop := (∃ tr : Int, Blk w g 140 #[(p.out : Int), p.text, (p.sent : Int), (p.laid : Int), tr]) ∧ p.sent ≤ p.laid ∧ p.laid ≤ p.text.size ∧ p.text.size ≤ 9223372036854775807 ∧ 1 ≤ p.out ∧ p.out ≤ 4096
def Yy.new (m : Nat) : Yy := ⟨m, ⟨#[]⟩, 0, 0⟩
def Yy.begin (p : Yy) (s : ByteArray) : Yy := ⟨p.out, s, 0, 0⟩
def Yy.loadN (p : Yy) : Nat := if p.sent < p.laid then 0 else min (p.text.size - p.laid) p.out
def Yy.load (p : Yy) : Yy := ⟨p.out, p.text, p.sent, p.laid + p.loadN⟩
def Yy.takeN (p : Yy) (z : Int) : Nat := min z.toNat (p.laid - p.sent)
def Yy.take (p : Yy) (z : Int) : Yy := ⟨p.out, p.text, p.sent + p.takeN z, p.laid⟩
def Yy.took (p : Yy) (z : Int) : ByteArray := p.text.extract p.sent (p.sent + p.takeN z)
def Yy.peek (p : Yy) : ByteArray := p.text.extract p.sent p.laid
theorem Vt.lt {w : World} {g : Nat} {p : Yy} (h : Vt w g p) : g < w.heap.size := by
 obtain ⟨⟨tr, h⟩, _⟩ := h;exact h.lt
theorem Vt.keep {F : Nat → Prop} {w w' : World} {g : Nat} {p : Yy} (h : Vt w g p) (hk : Za F w w') (hf : ¬ F g) : Vt w' g p := by
 obtain ⟨⟨tr, h⟩, r⟩ := h;exact ⟨⟨tr, hk.blk h hf⟩, r⟩
theorem Vt.below {w w' : World} {g : Nat} {p : Yy} (h : Vt w g p) (hb : Below w.heap.size w w') : Vt w' g p := h.keep (Za.of_below (F := fun _ => False) hb) id
theorem Qd {w : World} {g : Nat} {t : TypeId} {a b c d e : Value} (h : Blk w g t #[a, b, c, d, e]) : w.cell? ⟨g, 0, none⟩ = some a ∧ w.cell? ⟨g, 1, none⟩ = some b ∧ w.cell? ⟨g, 2, none⟩ = some c ∧ w.cell? ⟨g, 3, none⟩ = some d ∧ w.cell? ⟨g, 4, none⟩ = some e := ⟨h.cell 0, h.cell 1, h.cell 2, h.cell 3, h.cell 4⟩
theorem Je (s : ByteArray) (a : Nat) : s.extract a a = ⟨#[]⟩ := by
 apply ByteArray.ext;simp
theorem Zgo (m : Nat) (h1 : 1 ≤ m) (h2 : m ≤ 4096) (w : World) : Calls Tryz.prog 98 #[(m : Int)] w fun e w' => e = .returned (.pointer (some ⟨w.heap.size, 0, none⟩)) ∧ Vt w' w.heap.size (Yy.new m) ∧ Below w.heap.size w w' := by
 have H := hid (And.intro h1 h2);go_enter Tryz.func98, Tryz.ntmps98;go_wp2_with fail;go_ret;exact ⟨rfl, ⟨⟨0, Blk.new w _ _⟩, Nat.le_refl _, Nat.le_refl _, by simp [Yy.new, ByteArray.size], H.1, H.2⟩, (Below.refl _ _).alloc (Nat.le_refl _) _⟩
theorem Zjg (g : Nat) (p : Yy) (s : ByteArray) (w : World) (h : Vt w g p) (hs : s.size ≤ 9223372036854775807) :
  Calls Tryz.prog 141 #[.pointer (some ⟨g, 0, none⟩), s] w fun e w' => e = .returned (.tuple #[]) ∧ Vt w' g (p.begin s) ∧ Za (fun k => k = g) w w' := by
 obtain ⟨⟨tr, hb⟩, h1, h2, h3, h4, h5⟩ := h;have HB := hid hb;have HR := hid (And.intro h4 h5);have HS := hid hs;obtain ⟨c0, c1, c2, c3, c4⟩ := Qd hb;have y0 := hb.frozen 0; have y1 := hb.frozen 1; have y2 := hb.frozen 2; have y3 := hb.frozen 3; have y4 := hb.frozen 4;have hl := hb.lt;clear h1 h2 h3 h4 h5 hs hb;obtain ⟨ou, tx, se, la⟩ := p;simp only at HB HR c0 c1 c2 c3;go_enter Tryz.func141, Tryz.ntmps141;go_wp2_with fail;obtain ⟨w', hw⟩ := nE (((((w.setCell ⟨g, 0, none⟩ (.int .i64 (ou : Int))).setCell ⟨g, 1, none⟩ (.string s)).setCell ⟨g, 2, none⟩ (.int .i64 0)).setCell ⟨g, 3, none⟩ (.int .i64 0)).setCell ⟨g, 4, none⟩ (.int .i64 0))
 have HK : Za (fun k => k = g) w w' := by
  rw [← hw];exact (Za.setCell (fun k => k = g) w ⟨g, 0, none⟩ _ rfl).trans ((Za.setCell (fun k => k = g) _ ⟨g, 1, none⟩ _ rfl).trans ((Za.setCell (fun k => k = g) _ ⟨g, 2, none⟩ _ rfl).trans ((Za.setCell (fun k => k = g) _ ⟨g, 3, none⟩ _ rfl).trans (Za.setCell (fun k => k = g) _ ⟨g, 4, none⟩ _ rfl) (fun _ h => .inl h)) (fun _ h => .inl h)) (fun _ h => .inl h)) (fun _ h => .inl h)
 have HN : Blk w' g 140 #[(ou : Int), s, .int .i64 0, .int .i64 0, .int .i64 0] := by
  rw [← hw];exact ((((HB.set 0 _).set 1 _).set 2 _).set 3 _).set 4 _
 rw [hw]
 go_end0
 exact ⟨rfl, ⟨⟨0, HN⟩, Nat.le_refl _, Nat.zero_le _, HS.out, HR.1, HR.2⟩, HK⟩
theorem N29{P:Prop}(h:P:=by
 go_upto_region 3 with fail;have T1 : ∀ q : BW w.heap.size w, q.1.cell? ⟨g, 1, none⟩ = some (.string tx) := fun q => q.cellAt hl c1;have T2 : ∀ q : BW w.heap.size w, q.1.cell? ⟨g, 2, none⟩ = some (.int .i64 (se : Int)) := fun q => q.cellAt hl c2;have T3 : ∀ q : BW w.heap.size w, q.1.cell? ⟨g, 3, none⟩ = some (.int .i64 (la : Int)) := fun q => q.cellAt hl c3;clear c0 c1 c2 c3 c4;refine Zh w.heap.size ab ab ?_
 repeat (go_big_quiet_step (fail))
 refine wpQuiet_nil ?_;intro wu hqu;have HBU : Hid (Below w.heap.size w wu) := ak
 clear hqu T1 T2 T3;go_wp2_with fail;go_ret;exact ⟨rfl, HBU.out⟩):P:=h
theorem Zkz (g : Nat) (p : Yy) (w : World) (h : Vt w g p) :
  Calls Tryz.prog 119 #[.pointer (some ⟨g, 0, none⟩)] w fun e w' => e = .returned ((p.laid : Int) - (p.sent : Int)) ∧ Below w.heap.size w w' := by
 obtain ⟨⟨tr, hb⟩, h1, h2, h3, h4, h5⟩ := h;obtain ⟨c0, c1, c2, c3, c4⟩ := Qd hb;have hl := hb.lt;obtain ⟨ou, tx, se, la⟩ := p;simp only at c0 c1 c2 c3 h1 h2 h3 ⊢;clear hb h4 h5;go_enter Tryz.func119, Tryz.ntmps119;exact N29
theorem Zkx (g : Nat) (p : Yy) (w : World) (h : Vt w g p) :
  Calls Tryz.prog 83 #[.pointer (some ⟨g, 0, none⟩)] w fun e w' => e = .returned ((p.text.size : Int) - (p.laid : Int)) ∧ Below w.heap.size w w' := by
 obtain ⟨⟨tr, hb⟩, h1, h2, h3, h4, h5⟩ := h;obtain ⟨c0, c1, c2, c3, c4⟩ := Qd hb;have hl := hb.lt;obtain ⟨ou, tx, se, la⟩ := p;simp only at c0 c1 c2 c3 h1 h2 h3 ⊢;clear hb h4 h5;go_enter Tryz.func83, Tryz.ntmps83;exact N29
theorem N38{P:Prop}(h:P:=by
 have T3 : ∀ q : BW w.heap.size w, q.1.cell? ⟨g, 3, none⟩ = some (.int .i64 (la : Int)) := fun q => q.cellAt hl c3;clear c0 c1 c2 c3 c4;refine Zh w.heap.size ab ab ?_
 repeat (go_big_quiet_step (fail))
 refine wpQuiet_nil ?_;intro wu hqu;have HBU : Hid (Below w.heap.size w wu) := ak
 clear hqu T2 T3;go_wp2_with fail;go_ret;exact ⟨rfl, H0.below HBU.out, Za.of_below HBU.out⟩):P:=h
theorem Zky (g : Nat) (p : Yy) (w : World) (h : Vt w g p) :
  Calls Tryz.prog 151 #[.pointer (some ⟨g, 0, none⟩)] w fun e w' => e = .returned ((p.loadN : Nat) : Int) ∧ Vt w' g p.load ∧ Za (fun k => k = g) w w' := by
 have H0 := hid h;obtain ⟨⟨tr, hb⟩, h1, h2, h3, h4, h5⟩ := h;obtain ⟨c0, c1, c2, c3, c4⟩ := Qd hb;have hl := hb.lt;have HB := hid hb;obtain ⟨ou, tx, se, la⟩ := p;simp only [Yy.load, Yy.loadN] at H0 HB c0 c1 c2 c3 h1 h2 h3 h4 h5 ⊢;clear hb;by_cases hc : se < la
 ·rw [if_pos hc]
  have hc2 : (se : Int) < (la : Int) := aa
  clear hc;go_enter Tryz.func151, Tryz.ntmps151;go_upto_region 1 with fail;have T2 : ∀ q : BW w.heap.size w, q.1.cell? ⟨g, 2, none⟩ = some (.int .i64 (se : Int)) := fun q => q.cellAt hl c2;exact N38
 ·have hc3 : la = se := by omega
  subst hc3;rw [if_neg aa];clear hc h1;have HS := hid (And.intro h2 (And.intro h3 (And.intro h4 h5)));obtain ⟨n, hn⟩ := nE (min (tx.size - la) ou);have HIF : Hid ((if (ou : Int) < (tx.size : Int) - (la : Int) then (ou : Int) else (tx.size : Int) - (la : Int)) = (n : Int)) := by rw [Hid]; split <;> omega
  rw [hn];have HN : Hid (la + n ≤ tx.size) := ei
  clear hn;have hlan : (la : Int) + (n : Int) ≤ 9223372036854775807 := lg
  have hsz : (tx.size : Int) ≤ 9223372036854775807 := aa
  go_enter Tryz.func151, Tryz.ntmps151;go_upto_region 1 with fail;have T2 : ∀ q : BW w.heap.size w, q.1.cell? ⟨g, 2, none⟩ = some (.int .i64 (la : Int)) := fun q => q.cellAt hl c2;have T3 : ∀ q : BW w.heap.size w, q.1.cell? ⟨g, 3, none⟩ = some (.int .i64 (la : Int)) := fun q => q.cellAt hl c3;clear c0 c1 c2 c3 c4;refine Zh w.heap.size ab ab ?_
  repeat (go_big_quiet_step (fail))
  refine wpQuiet_nil ?_;intro wu hqu;have HBU : Hid (Below w.heap.size w wu) := ak
  have HX := hid (HB.below HBU.out hl);clear hqu T2 T3;obtain ⟨c0, c1, c2, c3, c4⟩ := Qd HX.out;have hlu := HX.lt;go_upto_region 3 with fail;have T0 : ∀ q : BW wu.heap.size wu, q.1.cell? ⟨g, 0, none⟩ = some (.int .i64 (ou : Int)) := fun q => q.cellAt hlu c0;have T1 : ∀ q : BW wu.heap.size wu, q.1.cell? ⟨g, 1, none⟩ = some (.string tx) := fun q => q.cellAt hlu c1;have T3 : ∀ q : BW wu.heap.size wu, q.1.cell? ⟨g, 3, none⟩ = some (.int .i64 (la : Int)) := fun q => q.cellAt hlu c3;clear c0 c1 c2 c3 c4;refine Zh wu.heap.size ab ab ?_
  repeat (go_big_quiet_step (fail))
  refine wpQuiet_nil ?_;intro wv hqu;have HBV : Hid (Below wu.heap.size wu wv) := ak
  have HXV := hid (HX.below HBV.out hlu);clear hqu T0 T1 T3;rw [HIF.out];obtain ⟨c0, c1, c2, c3, c4⟩ := Qd HXV.out;have y3 := HXV.frozen 3;have hlv := HXV.lt;go_wp2_with fail;go_ret;refine ⟨rfl, ⟨⟨tr, ?_⟩, Nat.le_add_right _ _, HN.out, HS.2.1, HS.2.2.1, HS.2.2.2⟩, ?_⟩
  ·have := HXV.set 3 (.int .i64 ((la : Int) + (n : Int)))
   have e : (la : Int) + (n : Int) = ((la + n : Nat) : Int) := aa
   rw [e] at this ⊢;exact this
  ·exact ((Za.of_below (HBU.trans (HBV.mono HBU.size))).trans (Za.setCell (fun k => k = g) _ ⟨g, 3, none⟩ _ rfl) (fun _ h => .inl h))
theorem N140{P:Prop}(h:P:=by
 rw [← hwd];exact ((Za.of_below (HBU.trans (HBW.mono HBU.size))).trans (Za.setCell (fun k => k = g) _ ⟨g, 2, none⟩ _ rfl) (fun _ h => .inl h))):P:=h
theorem N123{P:Prop}(h:P:=by
 clear HXE HKE c0 c1 c2 c3 c4 hle;obtain ⟨c0, c1, c2, c3, c4⟩ := Qd HXF.out;have hlf := HXF.lt;have T1 : ∀ q : BW wf.heap.size wf, q.1.cell? ⟨g, 1, none⟩ = some (.string tx) := fun q => q.cellAt hlf c1;have T2 : ∀ q : BW wf.heap.size wf, q.1.cell? ⟨g, 2, none⟩ = some (.int .i64 (sn : Int)) := fun q => q.cellAt hlf c2;clear c0 c1 c2 c3 c4;refine Zh wf.heap.size ab ab ?_
 repeat (go_big_quiet_step (fail))
 refine wpQuiet_nil ?_;intro wg hqu;have HKG : Hid (Za (fun k => k = g) w wg) := by obtain ⟨q, rfl⟩ := hqu; exact HKF.trans (Za.of_below (F := fun k => k = g) q.2) (fun _ h => .inl h)
 have HXG := hid (show Blk wg g 140 _ from by obtain ⟨q, rfl⟩ := hqu; exact HXF.below q.2 hlf);clear hqu T1 T2 HXF HKF hlf;go_wp2_with fail
 try go_ret
 first | exact HQ.out _ _ HXG.out HKG.out | (have hq := HQ.out _ _ HXG.out HKG.out; rw [Je] at hq; exact hq)):P:=h
theorem N7{P:Prop}(h:P:=by
 have T3 : ∀ q : BW wu.heap.size wu, q.1.cell? ⟨g, 3, none⟩ = some (.int .i64 (la : Int)) := fun q => q.cellAt hlu c3;clear c0 c1 c2 c3 c4;refine Zg wu.heap.size [19] (.val 0 (.val 1 (.val 2 (.val 3 (.val 4 (.val 5 (.val 6 (.val 7 (.val 8 (.val 9 (.val 10 (.val 11 (.val 12 (.val 13 (.val 14 (.val 15 (.val 16 (.val 17 (.val 18 (.op 19 (.nil))))))))))))))))))))) ab ab ?_;obtain ⟨wc, hwc, HBW⟩ := dw wu;rw [hwc];clear hwc;have HXC := hid (HX.below HBW.out hlu);have y2 := HXC.frozen 2;have hlc := HXC.lt;obtain ⟨-, -, c2, -, -⟩ := Qd HXC.out
 iterate 19 ((first | refine Zd rfl rfl ?_ | refine Zw rfl rfl (Xp HBW.out) ?_); go_big_quiet_step (fail); refine wpQuiet_nil ?_)
 refine Ze rfl ?_;go_wp2_with fail;refine KT.past rfl ?_;refine Zi ?_;obtain ⟨wd, hwd⟩ := nE (wc.setCell ⟨g, 2, none⟩ (.int .i64 (sn : Int)));have HXD : Hid (Blk wd g 140 #[(ou : Int), tx, (sn : Int), (la : Int), tr]) := hwd ▸ HXC.set 2 _
 have HKD : Hid (Za (fun k => k = g) w wd) := by
  exact N140
 rw [hwd];clear hwd HXC HX HBU HBW T2 T3 y2 hlc c2;obtain ⟨c0, c1, c2, c3, c4⟩ := Qd HXD.out;have hld := HXD.lt;go_upto_region 5 with fail;have T1 : ∀ q : BW wd.heap.size wd, q.1.cell? ⟨g, 1, none⟩ = some (.string tx) := fun q => q.cellAt hld c1;have T2 : ∀ q : BW wd.heap.size wd, q.1.cell? ⟨g, 2, none⟩ = some (.int .i64 (sn : Int)) := fun q => q.cellAt hld c2;have T3 : ∀ q : BW wd.heap.size wd, q.1.cell? ⟨g, 3, none⟩ = some (.int .i64 (la : Int)) := fun q => q.cellAt hld c3;clear c0 c1 c2 c3 c4;refine Zh wd.heap.size ab ab ?_
 repeat (go_big_quiet_step (fail))
 refine wpQuiet_nil ?_;intro we hqu;have HKE : Hid (Za (fun k => k = g) w we) := fh
 have HXE : Hid (Blk we g 140 #[(ou : Int), tx, (sn : Int), (la : Int), tr]) := by obtain ⟨q, rfl⟩ := hqu; exact HXD.below q.2 hld
 clear hqu T1 T2 T3 HXD HKD hld;obtain ⟨c0, c1, c2, c3, c4⟩ := Qd HXE.out;have hle := HXE.lt;have y4 := HXE.frozen 4;go_upto_region 7 with fail;obtain ⟨tr2, htr⟩ := nE (wrap64 (tr + 1));rw [htr];obtain ⟨wf, hwf⟩ := nE (we.setCell ⟨g, 4, none⟩ (.int .i64 tr2));have HXF : Hid (Blk wf g 140 #[(ou : Int), tx, (sn : Int), (la : Int), tr2]) := hwf ▸ HXE.set 4 _;have HKF : Hid (Za (fun k => k = g) w wf) := hwf ▸ HKE.trans (Za.setCell (fun k => k = g) _ ⟨g, 4, none⟩ _ rfl) (fun _ h => .inl h);rw [hwf];clear hwf htr y4;exact N123):P:=h
theorem N5{P:Prop}(h:P:=by
 go_enter Tryz.func65, Tryz.ntmps65;go_upto_region 1 with fail;have T2 : ∀ q : BW w.heap.size w, q.1.cell? ⟨g, 2, none⟩ = some (.int .i64 (se : Int)) := fun q => q.cellAt hl c2;have T3 : ∀ q : BW w.heap.size w, q.1.cell? ⟨g, 3, none⟩ = some (.int .i64 (sn : Int)) := fun q => q.cellAt hl c3;clear c0 c1 c2 c3 c4;refine Zh w.heap.size ab ab ?_
 repeat (go_big_quiet_step (fail))
 refine wpQuiet_nil ?_;intro wu hqu;have HBU : Hid (Below w.heap.size w wu) := ak
 have HX := hid (HB.below HBU.out hl);clear hqu T2 T3;obtain ⟨c0, c1, c2, c3, c4⟩ := Qd HX.out;have hlu := HX.lt;go_upto_region 4 with fail;have T2 : ∀ q : BW wu.heap.size wu, q.1.cell? ⟨g, 2, none⟩ = some (.int .i64 (se : Int)) := fun q => q.cellAt hlu c2;have T3 : ∀ q : BW wu.heap.size wu, q.1.cell? ⟨g, 3, none⟩ = some (.int .i64 (sn : Int)) := fun q => q.cellAt hlu c3;clear c0 c1 c2 c3 c4;refine Zg wu.heap.size [19] (.val 0 (.val 1 (.val 2 (.val 3 (.val 4 (.val 5 (.val 6 (.val 7 (.val 8 (.val 9 (.val 10 (.val 11 (.val 12 (.val 13 (.val 14 (.val 15 (.val 16 (.val 17 (.val 18 (.op 19 (.nil))))))))))))))))))))) ab ab ?_;obtain ⟨wc, hwc, HBW⟩ := dw wu;rw [hwc];clear hwc;have HXC := hid (HX.below HBW.out hlu);have y2 := HXC.frozen 2;have hlc := HXC.lt;obtain ⟨-, -, c2, -, -⟩ := Qd HXC.out
 iterate 19 ((first | refine Zd rfl rfl ?_ | refine Zw rfl rfl (Xp HBW.out) ?_); go_big_quiet_step (fail); refine wpQuiet_nil ?_)
 refine Ze rfl ?_;go_wp2_with fail;refine KT.past rfl ?_;refine Zi ?_;obtain ⟨wd, hwd⟩ := nE (wc.setCell ⟨g, 2, none⟩ (.int .i64 (sn : Int)));have HXD : Hid (Blk wd g 140 #[(ou : Int), tx, (sn : Int), (sn : Int), tr]) := hwd ▸ HXC.set 2 _
 have HKD : Hid (Za (fun k => k = g) w wd) := by
  exact N140
 rw [hwd];clear hwd HXC HX HBU HBW T2 T3 y2 hlc c2;obtain ⟨c0, c1, c2, c3, c4⟩ := Qd HXD.out;have hld := HXD.lt;go_upto_region 5 with fail;have T1 : ∀ q : BW wd.heap.size wd, q.1.cell? ⟨g, 1, none⟩ = some (.string tx) := fun q => q.cellAt hld c1;have T2 : ∀ q : BW wd.heap.size wd, q.1.cell? ⟨g, 2, none⟩ = some (.int .i64 (sn : Int)) := fun q => q.cellAt hld c2;have T3 : ∀ q : BW wd.heap.size wd, q.1.cell? ⟨g, 3, none⟩ = some (.int .i64 (sn : Int)) := fun q => q.cellAt hld c3;clear c0 c1 c2 c3 c4;refine Zh wd.heap.size ab ab ?_
 repeat (go_big_quiet_step (fail))
 refine wpQuiet_nil ?_;intro we hqu;have HKE : Hid (Za (fun k => k = g) w we) := fh
 have HXE : Hid (Blk we g 140 #[(ou : Int), tx, (sn : Int), (sn : Int), tr]) := by obtain ⟨q, rfl⟩ := hqu; exact HXD.below q.2 hld
 clear hqu T1 T2 T3 HXD HKD hld;obtain ⟨c0, c1, c2, c3, c4⟩ := Qd HXE.out;have hle := HXE.lt;go_upto_region 7 with fail;obtain ⟨wf, hwf⟩ := mE we;subst hwf;have tr2 := tr;have HXF := HXE;have HKF := HKE;exact N123):P:=h
theorem Zkw (g : Nat) (p : Yy) (z : Int) (w : World) (h : Vt w g p) :
  Calls Tryz.prog 65 #[.pointer (some ⟨g, 0, none⟩), z] w fun e w' => e = .returned (.string (p.took z)) ∧ Vt w' g (p.take z) ∧ Za (fun k => k = g) w w' := by
 have H0 := hid h;obtain ⟨⟨tr, hb⟩, h1, h2, h3, h4, h5⟩ := h;obtain ⟨c0, c1, c2, c3, c4⟩ := Qd hb;have hl := hb.lt;have HB := hid hb;obtain ⟨ou, tx, se, la⟩ := p;simp only [Yy.take, Yy.took, Yy.takeN] at H0 HB c0 c1 c2 c3 h1 h2 h3 h4 h5 ⊢;clear hb;by_cases hc : la = se
 ·subst hc
  rw [show min z.toNat (la - la) = 0 from aa, Nat.add_zero, Je];go_enter Tryz.func65, Tryz.ntmps65;go_upto_region 1 with fail;have T2 : ∀ q : BW w.heap.size w, q.1.cell? ⟨g, 2, none⟩ = some (.int .i64 (la : Int)) := fun q => q.cellAt hl c2;exact N38
 ·have hc2 : ((la : Int) == (se : Int)) = false := bF aa
  have hlt : se < la := aa
  have HS := hid (And.intro h2 (And.intro h3 (And.intro h4 h5)));obtain ⟨k, hk⟩ := nE (min z.toNat (la - se));rw [hk];have hkc : (z < 0 ∧ k = 0) ∨ (0 ≤ z ∧ z < (la : Int) - (se : Int) ∧ z = (k : Int)) ∨ (0 ≤ z ∧ (la : Int) - (se : Int) < z ∧ k = la - se) ∨ ((la : Int) - (se : Int) = z ∧ k = la - se) := aa
  have hkl : k ≤ la - se := aa
  clear hk hc;have hls : ¬ ((la : Int) - (se : Int) < 0) := aa
  obtain ⟨sn, hsn⟩ := nE (se + k);rw [hsn];have hsn2 : se ≤ sn ∧ sn ≤ la := aa
  have hsz : (tx.size : Int) ≤ 9223372036854775807 := aa
  have hlz : (la : Int) ≤ (tx.size : Int) := aa
  obtain ⟨Q, hQ⟩ : ∃ Q : Ending → World → Prop, (fun e w' => e = Ending.returned (.string (tx.extract se sn)) ∧ Vt w' g ⟨ou, tx, sn, la⟩ ∧ Za (fun k => k = g) w w') = Q := ⟨_, rfl⟩
  have HQ : Hid (∀ W (tr2 : Int), Blk W g 140 #[(ou : Int), tx, (sn : Int), (la : Int), tr2] → Za (fun k => k = g) w W → Q (.returned (.string (tx.extract se sn))) W) := fun W tr2 hb hk => by
   rw [← hQ]; exact ⟨rfl, ⟨⟨tr2, hb⟩, hsn2.2, HS.1, HS.2.1, HS.2.2.1, HS.2.2.2⟩, hk⟩
  rw [hQ];clear hQ;rcases hkc with ⟨hz1, hz2⟩ | ⟨hz0, hz1, hz2⟩ | ⟨hz0, hz1, hz2⟩ | ⟨hz1, hz2⟩
  ·have hz3 : sn = se := by omega
   have hz4 : se < la := hlt;subst hz3;clear hz2 hsn hkl;go_enter Tryz.func65, Tryz.ntmps65;go_upto_region 1 with fail;have T2 : ∀ q : BW w.heap.size w, q.1.cell? ⟨g, 2, none⟩ = some (.int .i64 (sn : Int)) := fun q => q.cellAt hl c2;have T3 : ∀ q : BW w.heap.size w, q.1.cell? ⟨g, 3, none⟩ = some (.int .i64 (la : Int)) := fun q => q.cellAt hl c3;clear c0 c1 c2 c3 c4;refine Zh w.heap.size ab ab ?_
   repeat (go_big_quiet_step (fail))
   refine wpQuiet_nil ?_;intro wu hqu;have HBU : Hid (Below w.heap.size w wu) := ak
   have HX := hid (HB.below HBU.out hl);clear hqu T2 T3;obtain ⟨c0, c1, c2, c3, c4⟩ := Qd HX.out;have hlu := HX.lt;go_upto_region 4 with fail;have T2 : ∀ q : BW wu.heap.size wu, q.1.cell? ⟨g, 2, none⟩ = some (.int .i64 (sn : Int)) := fun q => q.cellAt hlu c2;exact N7
  ·subst hz2
   have hnn : (se : Int) + (k : Int) = (sn : Int) := aa
   have hnz : ¬ ((k : Int) < 0) := aa
   have hnl : ¬ ((la : Int) - (se : Int) < (k : Int)) := aa
   have hlt2 : sn < la := aa
   clear hsn;go_enter Tryz.func65, Tryz.ntmps65;go_upto_region 1 with fail;have T2 : ∀ q : BW w.heap.size w, q.1.cell? ⟨g, 2, none⟩ = some (.int .i64 (se : Int)) := fun q => q.cellAt hl c2;have T3 : ∀ q : BW w.heap.size w, q.1.cell? ⟨g, 3, none⟩ = some (.int .i64 (la : Int)) := fun q => q.cellAt hl c3;clear c0 c1 c2 c3 c4;refine Zh w.heap.size ab ab ?_
   repeat (go_big_quiet_step (fail))
   refine wpQuiet_nil ?_;intro wu hqu;have HBU : Hid (Below w.heap.size w wu) := ak
   have HX := hid (HB.below HBU.out hl);clear hqu T2 T3;obtain ⟨c0, c1, c2, c3, c4⟩ := Qd HX.out;have hlu := HX.lt;go_upto_region 4 with fail;have T2 : ∀ q : BW wu.heap.size wu, q.1.cell? ⟨g, 2, none⟩ = some (.int .i64 (se : Int)) := fun q => q.cellAt hlu c2;exact N7
  ·have hz3 : sn = la := by omega
   subst hz3;have hnz : ¬ (z < 0) := aa
   have hnn : (se : Int) + ((sn : Int) - (se : Int)) = (sn : Int) := aa
   clear hz2 hsn hkl hz0;exact N5
  ·have hz3 : sn = la := by omega
   subst hz3;have hnz : ¬ ((sn : Int) - (se : Int) < 0) := aa
   have hnn : (se : Int) + ((sn : Int) - (se : Int)) = (sn : Int) := aa
   subst hz1;clear hz2 hsn hkl;exact N5
end Go.Proofs.YtpkkfdmhbbipoaaGreat
