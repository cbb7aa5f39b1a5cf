/- Package cost: in, some, good, Good, Price. Package pend: a writer in memory. -/
import Derived.Test.YtpkkfdmhbbipoaaGreatDa
namespace Go.Proofs.YtpkkfdmhbbipoaaGreat
open Go.RowKit
structure SetV where
 live : Int
 ring : Int
 win : Int
 out : Int
 quan : Int
 vis : Int
 deriving DecidableEq
def SetV.val (s : SetV) : Value := .agg #[.int .i64 s.live, .int .i64 s.ring, .int .i64 s.win, .int .i64 s.out, .int .i64 s.quan, .int .i64 s.vis]
def inB (n m : Int) : Bool := decide (1 ≤ n) && decide (n ≤ m)
def goodS (s : SetV) : Bool := inB s.ring 4096 && inB s.win 4096 && inB s.out 4096 && inB s.live 1024 && inB s.quan 1000000 && inB s.vis 64
theorem goodS_bd {s : SetV} (h : goodS s = true) : (1 ≤ s.ring ∧ s.ring ≤ 4096) ∧ (1 ≤ s.win ∧ s.win ≤ 4096) ∧ (1 ≤ s.out ∧ s.out ≤ 4096) ∧ (1 ≤ s.live ∧ s.live ≤ 1024) ∧ (1 ≤ s.quan ∧ s.quan ≤ 1000000) ∧ (1 ≤ s.vis ∧ s.vis ≤ 64) := by
 simpa [goodS, inB, Bool.and_eq_true, decide_eq_true_iff, and_assoc] using h
theorem costIn_any (n m : Int) (w : World) : Calls Tryz.prog 163 #[.int .i64 n, .int .i64 m] w fun e w' => e = .returned (.bool (inB n m)) ∧ w = w' := by
 unfold inB
 by_cases h1 : 1 ≤ n
 ·by_cases h2 : n ≤ m
  all_goals
   first | rw [decide_eq_true h1] | skip
   first | rw [decide_eq_true h2] | rw [decide_eq_false h2]
   go_enter Tryz.func163, Tryz.ntmps163
   go_wp2_with fail
   go_ret
   exact ⟨rfl, rfl⟩
 ·rw [decide_eq_false h1]
  go_enter Tryz.func163, Tryz.ntmps163
  go_wp2_with fail
  go_ret
  exact ⟨rfl, rfl⟩
set_option maxRecDepth 20000 in
set_option maxHeartbeats 800000 in
set_option linter.unusedSimpArgs false in
theorem costGoodI_any (s : SetV) (w : World) : Calls Tryz.prog 127 #[s.val] w fun e w' => e = .returned (.bool (goodS s)) ∧ Below w.heap.size w w' := by
 obtain ⟨lv, rg, wn, ou, qu, vi⟩ := s
 unfold goodS SetV.val
 simp only
 have C1 := hid (fun W => costIn_any rg 4096 W)
 have C2 := hid (fun W => costIn_any wn 4096 W)
 have C3 := hid (fun W => costIn_any ou 4096 W)
 have C4 := hid (fun W => costIn_any lv 1024 W)
 have C5 := hid (fun W => costIn_any qu 1000000 W)
 have C6 := hid (fun W => costIn_any vi 64 W)
 cases hb1 : inB rg 4096 with
 | false =>
  rw [hb1] at C1
  clear hb1 C2 C3 C4 C5 C6
  simp only [Bool.true_and, Bool.false_and, Bool.and_false, Bool.and_true]
  go_enter Tryz.func127, Tryz.ntmps127
  go_wp2_with fail
  refine (C1.out _).mono ?_
  rintro en wq ⟨rfl, rfl⟩
  go_wp2_with fail
  go_ret
  exact ⟨rfl, (Below.refl _ _).alloc (Nat.le_refl _) _⟩
 | true =>
  rw [hb1] at C1
  clear hb1
  cases hb2 : inB wn 4096 with
  | false =>
   rw [hb2] at C2
   clear hb2 C3 C4 C5 C6
   simp only [Bool.true_and, Bool.false_and, Bool.and_false, Bool.and_true]
   go_enter Tryz.func127, Tryz.ntmps127
   go_wp2_with fail
   refine (C1.out _).mono ?_
   rintro en wq ⟨rfl, rfl⟩
   go_wp2_with fail
   refine (C2.out _).mono ?_
   rintro en wq ⟨rfl, rfl⟩
   go_wp2_with fail
   go_ret
   exact ⟨rfl, (Below.refl _ _).alloc (Nat.le_refl _) _⟩
  | true =>
   rw [hb2] at C2
   clear hb2
   cases hb3 : inB ou 4096 with
   | false =>
    rw [hb3] at C3
    clear hb3 C4 C5 C6
    simp only [Bool.true_and, Bool.false_and, Bool.and_false, Bool.and_true]
    go_enter Tryz.func127, Tryz.ntmps127
    go_wp2_with fail
    refine (C1.out _).mono ?_
    rintro en wq ⟨rfl, rfl⟩
    go_wp2_with fail
    refine (C2.out _).mono ?_
    rintro en wq ⟨rfl, rfl⟩
    go_wp2_with fail
    refine (C3.out _).mono ?_
    rintro en wq ⟨rfl, rfl⟩
    go_wp2_with fail
    go_ret
    exact ⟨rfl, (Below.refl _ _).alloc (Nat.le_refl _) _⟩
   | true =>
    rw [hb3] at C3
    clear hb3
    cases hb4 : inB lv 1024 with
    | false =>
     rw [hb4] at C4
     clear hb4 C5 C6
     simp only [Bool.true_and, Bool.false_and, Bool.and_false, Bool.and_true]
     go_enter Tryz.func127, Tryz.ntmps127
     go_wp2_with fail
     refine (C1.out _).mono ?_
     rintro en wq ⟨rfl, rfl⟩
     go_wp2_with fail
     refine (C2.out _).mono ?_
     rintro en wq ⟨rfl, rfl⟩
     go_wp2_with fail
     refine (C3.out _).mono ?_
     rintro en wq ⟨rfl, rfl⟩
     go_wp2_with fail
     refine (C4.out _).mono ?_
     rintro en wq ⟨rfl, rfl⟩
     go_wp2_with fail
     go_ret
     exact ⟨rfl, (Below.refl _ _).alloc (Nat.le_refl _) _⟩
    | true =>
     rw [hb4] at C4
     clear hb4
     cases hb5 : inB qu 1000000 with
     | false =>
      rw [hb5] at C5
      clear hb5 C6
      simp only [Bool.true_and, Bool.false_and, Bool.and_false, Bool.and_true]
      go_enter Tryz.func127, Tryz.ntmps127
      go_wp2_with fail
      refine (C1.out _).mono ?_
      rintro en wq ⟨rfl, rfl⟩
      go_wp2_with fail
      refine (C2.out _).mono ?_
      rintro en wq ⟨rfl, rfl⟩
      go_wp2_with fail
      refine (C3.out _).mono ?_
      rintro en wq ⟨rfl, rfl⟩
      go_wp2_with fail
      refine (C4.out _).mono ?_
      rintro en wq ⟨rfl, rfl⟩
      go_wp2_with fail
      refine (C5.out _).mono ?_
      rintro en wq ⟨rfl, rfl⟩
      go_wp2_with fail
      go_ret
      exact ⟨rfl, (Below.refl _ _).alloc (Nat.le_refl _) _⟩
     | true =>
      rw [hb5] at C5
      clear hb5
      cases hb6 : inB vi 64 with
      | false =>
       rw [hb6] at C6
       clear hb6
       simp only [Bool.true_and, Bool.false_and, Bool.and_false, Bool.and_true]
       go_enter Tryz.func127, Tryz.ntmps127
       go_wp2_with fail
       refine (C1.out _).mono ?_
       rintro en wq ⟨rfl, rfl⟩
       go_wp2_with fail
       refine (C2.out _).mono ?_
       rintro en wq ⟨rfl, rfl⟩
       go_wp2_with fail
       refine (C3.out _).mono ?_
       rintro en wq ⟨rfl, rfl⟩
       go_wp2_with fail
       refine (C4.out _).mono ?_
       rintro en wq ⟨rfl, rfl⟩
       go_wp2_with fail
       refine (C5.out _).mono ?_
       rintro en wq ⟨rfl, rfl⟩
       go_wp2_with fail
       refine (C6.out _).mono ?_
       rintro en wq ⟨rfl, rfl⟩
       go_wp2_with fail
       go_ret
       exact ⟨rfl, (Below.refl _ _).alloc (Nat.le_refl _) _⟩
      | true =>
       rw [hb6] at C6
       clear hb6
       simp only [Bool.true_and, Bool.and_true]
       go_enter Tryz.func127, Tryz.ntmps127
       go_wp2_with fail
       refine (C1.out _).mono ?_
       rintro en wq ⟨rfl, rfl⟩
       go_wp2_with fail
       refine (C2.out _).mono ?_
       rintro en wq ⟨rfl, rfl⟩
       go_wp2_with fail
       refine (C3.out _).mono ?_
       rintro en wq ⟨rfl, rfl⟩
       go_wp2_with fail
       refine (C4.out _).mono ?_
       rintro en wq ⟨rfl, rfl⟩
       go_wp2_with fail
       refine (C5.out _).mono ?_
       rintro en wq ⟨rfl, rfl⟩
       go_wp2_with fail
       refine (C6.out _).mono ?_
       rintro en wq ⟨rfl, rfl⟩
       go_wp2_with fail
       go_ret
       exact ⟨rfl, (Below.refl _ _).alloc (Nat.le_refl _) _⟩
theorem costGood_any (s : SetV) (w : World) : Calls Tryz.prog 92 #[s.val] w fun e w' => e = .returned (.bool (goodS s)) ∧ Below w.heap.size w w' := by
 have C1 := hid (fun W => costGoodI_any s W)
 obtain ⟨b, hb⟩ : ∃ y, goodS s = y := ⟨_, rfl⟩
 rw [hb] at C1 ⊢
 clear hb
 obtain ⟨lv, rg, wn, ou, qu, vi⟩ := s
 unfold SetV.val at C1 ⊢
 simp only at C1 ⊢
 go_enter Tryz.func92, Tryz.ntmps92
 go_wp2_with fail
 refine (C1.out _).mono ?_
 rintro e w1 ⟨rfl, hb⟩
 have HB := hid (((Below.refl w.heap.size w).alloc (Nat.le_refl _) (.cells #[.int .i64 lv, .int .i64 rg, .int .i64 wn, .int .i64 ou, .int .i64 qu, .int .i64 vi] 23)).trans (hb.mono (by simp)))
 clear hb C1
 go_wp2_with fail
 go_ret
 exact ⟨rfl, HB.out⟩
structure PendV where
 out : Nat
 text : ByteArray
 sent : Nat
 laid : Nat
def PendAt (w : World) (g : Nat) (p : PendV) : Prop := (∃ tr : Int, Blk w g 140 #[.int .i64 (p.out : Int), .string p.text, .int .i64 (p.sent : Int), .int .i64 (p.laid : Int), .int .i64 tr]) ∧ p.sent ≤ p.laid ∧ p.laid ≤ p.text.size ∧ p.text.size ≤ 9223372036854775807 ∧ 1 ≤ p.out ∧ p.out ≤ 4096
def PendV.new (m : Nat) : PendV := ⟨m, ⟨#[]⟩, 0, 0⟩
def PendV.begin (p : PendV) (s : ByteArray) : PendV := ⟨p.out, s, 0, 0⟩
def PendV.loadN (p : PendV) : Nat := if p.sent < p.laid then 0 else min (p.text.size - p.laid) p.out
def PendV.load (p : PendV) : PendV := ⟨p.out, p.text, p.sent, p.laid + p.loadN⟩
def PendV.takeN (p : PendV) (z : Int) : Nat := min z.toNat (p.laid - p.sent)
def PendV.take (p : PendV) (z : Int) : PendV := ⟨p.out, p.text, p.sent + p.takeN z, p.laid⟩
def PendV.took (p : PendV) (z : Int) : ByteArray := p.text.extract p.sent (p.sent + p.takeN z)
def PendV.peek (p : PendV) : ByteArray := p.text.extract p.sent p.laid
end Go.Proofs.YtpkkfdmhbbipoaaGreat
