/- Plain: a pattern's text, read. Walks: glob.single, item. Walks: glob.Parse. Walks: the reference's one and stop (of a set's text). Walks: the reference's Read (a set's text). -/
import Derived.Test.YtpkkfdmhbbipoaaGreatMe
import Derived.Test.YtpkkfdmhbbipoaaGreatMb
import Derived.Deep.CutRange
import Derived.OwnWalk
import Derived.Test.YtpkkfdmhbbipoaaGreatMc
namespace Go.Proofs.YtpkkfdmhbbipoaaGreat
open Go.RowKit
theorem rdGo_le (s : ByteArray) (n : Nat) (x : BSet) (i e : Nat) (hi : i ≤ s.size) : (rdGo s n x i e).2.1 ≤ s.size := by
 induction n generalizing x i e with
 | zero => exact hi
 | succ n ih =>
  rw [rdGo]
  split
  ·exact ih _ _ _ (rdPart_le s i hi)
  ·exact hi
theorem rdGo_ok (s : ByteArray) (n : Nat) (x : BSet) (i e : Nat) (hi : i ≤ s.size) (hf : e = 0 → s.size + 1 ≤ i + n) (h : (rdGo s n x i e).2.2 = 0) : isM s (rdGo s n x i e).2.1 93 = true := by
 induction n generalizing x i e with
 | zero => exact absurd (hf h) (by omega)
 | succ n ih =>
  rw [rdGo] at h ⊢
  by_cases hc : e = 0 ∧ isM s i 93 = false
  ·rw [if_pos hc] at h ⊢
   refine ih _ _ _ (rdPart_le s i hi) (fun h0 => ?_) h
   have := rdPart_go s i h0
   have := hf hc.1
   omega
  ·rw [if_neg hc] at h ⊢
   simp only at h ⊢
   subst h
   simpa using hc
theorem stopAt_le (s : ByteArray) (i : Nat) : stopAt s i ≤ s.size := by unfold stopAt; split <;> omega
theorem readC_le (s : ByteArray) : (readC s).2.1 ≤ s.size ∧ ((readC s).2.2 = 0 → 0 < (readC s).2.1) := by
 have key : (rdWhole s).2.1 ≤ s.size ∧ ((rdWhole s).2.2 = 0 → 0 < (rdWhole s).2.1) := by
  unfold rdWhole
  split
  ·rename_i h91
   have h1 : 1 ≤ s.size := isM_lt h91
   have hi0 : (if isM s 1 94 = true then 2 else 1) ≤ s.size := by
    split
    ·rename_i h; have := isM_lt h; omega
    ·exact h1
   generalize (if isM s 1 94 = true then 2 else 1) = i0 at *
   have hp := rdPart_le s i0 hi0
   have hg := rdGo_le s (s.size + 1) (rdPart s i0).1 _ (rdPart s i0).2.2 hp
   have ho := rdGo_ok s (s.size + 1) (rdPart s i0).1 _ (rdPart s i0).2.2 hp (fun _ => by omega)
   simp only
   generalize rdGo s (s.size + 1) (rdPart s i0).1 (rdPart s i0).2.1 (rdPart s i0).2.2 = q at *
   by_cases hq : q.2.2 = 0
   ·rw [if_pos hq]
    have := isM_lt (ho hq)
    exact ⟨by simp only; omega, fun _ => by simp only; omega⟩
   ·rw [if_neg hq]
    exact ⟨hg, fun h => absurd h hq⟩
  ·exact ⟨stopAt_le s 0, fun h => absurd h (stopE_pos s 0)⟩
 unfold readC
 split
 ·rename_i h; exact ⟨key.1, fun _ => key.2 h⟩
 ·rename_i h; exact ⟨key.1, fun h' => absurd h' h⟩
def byteAt (s : ByteArray) (i : Nat) : Nat := (s.data.toList.getD i 0).toNat
def tailOf (s : ByteArray) (i : Nat) : ByteArray := s.extract i s.size
theorem tailOf_size (s : ByteArray) (i : Nat) : (tailOf s i).size = s.size - i := by unfold tailOf; rw [ByteArray.size_extract]; omega
theorem byteAt_lt (s : ByteArray) (i : Nat) : byteAt s i < 256 := UInt8.toNat_lt _
theorem byteAt_get (s : ByteArray) (i : Nat) (h : i < s.size) : byteAt s i = (s[i]).toNat := by
 unfold byteAt
 rw [List.getD, List.getElem?_eq_getElem (by simpa using h)]; rfl
def itemP (q : ByteArray) : Item × Nat × Nat :=
 if byteAt q 0 = 42 then (⟨true, BSet.zero⟩, 1, 0)
 else if byteAt q 0 = 63 then (⟨false, spanTo 0 256⟩, 1, 0)
 else if byteAt q 0 = 91 then (⟨false, (readC q).1⟩, (readC q).2.1, (readC q).2.2)
 else if byteAt q 0 = 93 then (⟨false, BSet.zero⟩, 0, 2)
 else if byteAt q 0 = 37 then (if q.size = 1 then (⟨false, BSet.zero⟩, 1, 3) else (⟨false, spanTo (byteAt q 1) 1⟩, 2, 0))
 else (⟨false, spanTo (byteAt q 0) 1⟩, 1, 0)
theorem itemP_le (q : ByteArray) (h : 0 < q.size) : (itemP q).2.1 ≤ q.size ∧ ((itemP q).2.2 = 0 → 0 < (itemP q).2.1) := by
 unfold itemP
 have hr := readC_le q
 repeat' split
 ·exact ⟨h, fun _ => Nat.one_pos⟩
 ·exact ⟨h, fun _ => Nat.one_pos⟩
 ·exact hr
 ·exact ⟨Nat.zero_le _, fun h => by cases h⟩
 ·exact ⟨h, fun h => by cases h⟩
 ·exact ⟨by simp only; omega, fun _ => Nat.succ_pos _⟩
 ·exact ⟨h, fun _ => Nat.one_pos⟩
theorem itemP_good (q : ByteArray) : (itemP q).1.run = true → (itemP q).1.set = BSet.zero := by
 unfold itemP
 split
 ·intro _; rfl
 ·split
  ·intro h; exact absurd h (by simp)
  ·split
   ·intro h; exact absurd h (by simp)
   ·split
    ·intro _; rfl
    ·split
     ·split
      ·intro _; rfl
      ·intro h; exact absurd h (by simp)
     ·intro h; exact absurd h (by simp)
def parseP (p : ByteArray) : Nat → List Item → Nat → List Item × Nat × Nat
 | 0, out, _ => (out, 0, 0)
 | f + 1, out, a =>
  if a < p.size then
   if out.length = 60 then ([], a, 4)
   else if (itemP (tailOf p a)).2.2 = 0 then parseP p f (out ++ [(itemP (tailOf p a)).1]) (a + (itemP (tailOf p a)).2.1)
   else ([], a + (itemP (tailOf p a)).2.1, (itemP (tailOf p a)).2.2)
  else (out, 0, 0)
def parseM (p : ByteArray) : List Item × Nat × Nat := parseP p 61 [] 0
theorem parseP_end (p : ByteArray) (f : Nat) (out : List Item) (a : Nat) (h : ¬ a < p.size) : parseP p f out a = (out, 0, 0) := by
 cases f with
 | zero => rfl
 | succ f => rw [parseP, if_neg h]
theorem parseP_good (p : ByteArray) (f : Nat) (out : List Item) (a : Nat) (hl : out.length + f ≤ 61) (hf : 1 ≤ f) (hg : ∀ x ∈ out, x.run = true → x.set = BSet.zero) :
  (parseP p f out a).1.length ≤ 60 ∧ ∀ x ∈ (parseP p f out a).1, x.run = true → x.set = BSet.zero := by
 induction f generalizing out a with
 | zero => omega
 | succ f ih =>
  rw [parseP]
  split
  ·split
   ·exact ⟨by simp, by simp⟩
   ·split
    ·by_cases h1 : 1 ≤ f
     ·refine ih _ _ (by simp; omega) h1 ?_
      intro x hx
      rcases List.mem_append.1 hx with hx | hx
      ·exact hg x hx
      ·rw [List.mem_singleton] at hx
       subst hx; exact itemP_good _
     ·obtain rfl : f = 0 := by omega
      rename_i h60 _
      refine ⟨by simp only [parseP, List.length_append, List.length_cons, List.length_nil]; omega, ?_⟩
      intro x hx
      rcases List.mem_append.1 hx with hx | hx
      ·exact hg x hx
      ·rw [List.mem_singleton] at hx
       subst hx; exact itemP_good _
    ·exact ⟨by simp, by simp⟩
  ·exact ⟨by simp only; omega, hg⟩
open PopT
theorem blk5 {W : World} {g : Nat} {t : TypeId} {a0 a1 a2 a3 a4 : Value} (h : Blk W g t #[a0, a1, a2, a3, a4]) : W.cell? ⟨g, 0, none⟩ = some a0 ∧ W.cell? ⟨g, 1, none⟩ = some a1 ∧ W.cell? ⟨g, 2, none⟩ = some a2 ∧ W.cell? ⟨g, 3, none⟩ = some a3 ∧ W.cell? ⟨g, 4, none⟩ = some a4 ∧
  W.frozen? ⟨g, 0, none⟩ = false ∧ W.frozen? ⟨g, 1, none⟩ = false ∧ W.frozen? ⟨g, 2, none⟩ = false ∧ W.frozen? ⟨g, 3, none⟩ = false ∧ W.frozen? ⟨g, 4, none⟩ = false :=
 ⟨h.cell 0, h.cell 1, h.cell 2, h.cell 3, h.cell 4, h.frozen 0, h.frozen 1, h.frozen 2, h.frozen 3, h.frozen 4⟩
theorem blk_put5 {W : World} {g : Nat} {t : TypeId} {a0 a1 a2 a3 a4 b0 b1 b2 b3 b4 : Value} (h : Blk W g t #[a0, a1, a2, a3, a4]) : Blk (((((W.setCell ⟨g, 0, none⟩ b0).setCell ⟨g, 1, none⟩ b1).setCell ⟨g, 2, none⟩ b2).setCell ⟨g, 3, none⟩ b3).setCell ⟨g, 4, none⟩ b4) g t #[b0, b1, b2, b3, b4] :=
 ((((h.set 0 b0).set 1 b1).set 2 b2).set 3 b3).set 4 b4
theorem below_put5 {B : Nat} {w W : World} {g : Nat} (h : Below B w W) (hg : B ≤ g) (b0 b1 b2 b3 b4 : Value) : Below B w (((((W.setCell ⟨g, 0, none⟩ b0).setCell ⟨g, 1, none⟩ b1).setCell ⟨g, 2, none⟩ b2).setCell ⟨g, 3, none⟩ b3).setCell ⟨g, 4, none⟩ b4) :=
 ((((h.setCell hg _).setCell hg _).setCell hg _).setCell hg _).setCell hg _
set_option maxRecDepth 20000 in
set_option maxHeartbeats 400000 in
theorem single_any (b : Nat) (hb : b < 256) (w : World) :
  Calls Tryz.prog 230 #[.int .u8 (b : Int)] w fun e w' => e = .returned (spanTo b 1).val ∧ Below w.heap.size w w' := by
 have HC := hid (fun W => spanC_any b b hb hb W)
 rw [Nat.add_sub_cancel_left] at HC
 obtain ⟨t, ht⟩ : ∃ t, spanTo b 1 = t := ⟨_, rfl⟩
 rw [ht] at HC ⊢
 clear ht
 obtain ⟨r0, r1, r2, r3⟩ := t
 unfold BSet.val at HC ⊢
 go_enter Tryz.func230, Tryz.ntmps230
 go_wp2_with fail
 refine (HC.out _).mono ?_
 rintro e w1 ⟨rfl, hb1⟩
 have HX1 : Hid (Blk w1 w.heap.size 249 #[.int .u64 0, .int .u64 0, .int .u64 0, .int .u64 0]) := (Blk.new w _ _).below hb1 (by simp)
 have HB1 : Hid (Below w.heap.size w w1) := ((Below.refl w.heap.size w).alloc (Nat.le_refl _) _).trans (hb1.mono (by simp))
 clear hb1 HC
 obtain ⟨c0, c1, c2, c3, g0, g1, g2, g3⟩ := blk4 HX1.out
 have HZ := hid (blk_put4 (b0 := w64 r0) (b1 := w64 r1) (b2 := w64 r2) (b3 := w64 r3) HX1.out)
 have HR := hid (below_put4 (g := w.heap.size) HB1.out (Nat.le_refl _) (w64 r0) (w64 r1) (w64 r2) (w64 r3))
 go_wp2_with fail
 obtain ⟨z0, z1, z2, z3, -, -, -, -⟩ := blk4 HZ.out
 exact bodyPost_ret (v := .agg #[w64 r0, w64 r1, w64 r2, w64 r3]) (by simp [results, Tryz.results230, go_sem, z0, z1, z2, z3]) rfl ⟨rfl, HR.out⟩
theorem itemP_eq (q : ByteArray) : itemP q = if byteAt q 0 = 42 then (⟨true, BSet.zero⟩, 1, 0)
 else if byteAt q 0 = 63 then (⟨false, spanTo 0 256⟩, 1, 0)
 else if byteAt q 0 = 91 then (⟨false, (readC q).1⟩, (readC q).2.1, (readC q).2.2)
 else if byteAt q 0 = 93 then (⟨false, BSet.zero⟩, 0, 2)
 else if byteAt q 0 = 37 then (if q.size = 1 then (⟨false, BSet.zero⟩, 1, 3) else (⟨false, spanTo (byteAt q 1) 1⟩, 2, 0))
 else (⟨false, spanTo (byteAt q 0) 1⟩, 1, 0) := rfl
set_option maxRecDepth 20000 in
set_option maxHeartbeats 2000000 in
theorem item_any (q : ByteArray) (hq : 0 < q.size) (hs : q.size ≤ 1000000) (w : World) :
  Calls Tryz.prog 219 #[.string q] w fun e w' => e = .returned (.tuple #[(itemP q).1.val, .int .i64 ((itemP q).2.1 : Nat), .int .i64 ((itemP q).2.2 : Nat)]) ∧ Below w.heap.size w w' := by
 have hc0 := (byteAt_get q 0 hq).symm
 have hc8 := byteAt_lt q 0
 have HP := itemP_eq q
 obtain ⟨c, hc⟩ : ∃ c, byteAt q 0 = c := ⟨_, rfl⟩
 rw [hc] at hc0 hc8 HP
 clear hc
 have HP := hid HP
 have HB0 : Hid (Below w.heap.size w (w.alloc (.cells #[.bool false, .int .u64 0, .int .u64 0, .int .u64 0, .int .u64 0] 251))) := (Below.refl w.heap.size w).alloc (Nat.le_refl _) _
 have HX0 : Hid (Blk (w.alloc (.cells #[.bool false, .int .u64 0, .int .u64 0, .int .u64 0, .int .u64 0] 251)) w.heap.size 251 #[.bool false, .int .u64 0, .int .u64 0, .int .u64 0, .int .u64 0]) := Blk.new w _ _
 by_cases h0 : c = 42
 ·have e0 : ((c : Int) == 42) = true := by rw [beq_iff_eq]; omega
  have HE : Hid (itemP q = (⟨true, BSet.zero⟩, 1, 0)) := by rw [Hid, HP.out, if_pos h0]
  clear HP
  have HR : Hid (Below w.heap.size w (w.alloc (.cells #[.bool true, .int .u64 0, .int .u64 0, .int .u64 0, .int .u64 0] 251))) := (Below.refl w.heap.size w).alloc (Nat.le_refl _) _
  go_enter Tryz.func219, Tryz.ntmps219
  go_wp2_with fail
  exact bodyPost_ret (v := .tuple #[.agg #[.bool true, .int .u64 0, .int .u64 0, .int .u64 0, .int .u64 0], .int .i64 1, .int .i64 0]) (by simp [results, Tryz.results219, go_sem]) rfl ⟨by rw [HE.out]; rfl, HR.out⟩
 ·have e0 : ((c : Int) == 42) = false := by rw [beq_eq_false_iff_ne]; omega
  by_cases h1 : c = 63
  ·have e1 : ((c : Int) == 63) = true := by rw [beq_iff_eq]; omega
   have HE : Hid (itemP q = (⟨false, spanTo 0 256⟩, 1, 0)) := by rw [Hid, HP.out, if_neg h0, if_pos h1]
   have HC := hid (fun W => spanC_any 0 255 (by omega) (by omega) W)
   rw [show 255 + 1 - 0 = 256 from rfl] at HC
   obtain ⟨t, ht⟩ : ∃ t, spanTo 0 256 = t := ⟨_, rfl⟩
   rw [ht] at HC HE
   clear ht HP
   obtain ⟨r0, r1, r2, r3⟩ := t
   unfold BSet.val at HC
   go_enter Tryz.func219, Tryz.ntmps219
   go_wp2_with fail
   refine (HC.out _).mono ?_
   rintro e w1 ⟨rfl, hb1⟩
   have HX1 : Hid (Blk w1 w.heap.size 251 #[.bool false, .int .u64 0, .int .u64 0, .int .u64 0, .int .u64 0]) := HX0.out.below hb1 HX0.out.lt
   have HB1 : Hid (Below w.heap.size w w1) := HB0.out.trans (hb1.mono HB0.out.size)
   clear hb1 HX0 HB0
   obtain ⟨k0, k1, k2, k3, k4, g0, g1, g2, g3, g4⟩ := blk5 HX1.out
   have HZ := hid (blk_put5 (b0 := .bool false) (b1 := w64 r0) (b2 := w64 r1) (b3 := w64 r2) (b4 := w64 r3) HX1.out)
   have HR := hid (below_put5 (g := w.heap.size) HB1.out (Nat.le_refl _) (.bool false) (w64 r0) (w64 r1) (w64 r2) (w64 r3))
   go_wp2_with fail
   obtain ⟨z0, z1, z2, z3, z4, -, -, -, -, -⟩ := blk5 HZ.out
   exact bodyPost_ret (v := .tuple #[.agg #[.bool false, w64 r0, w64 r1, w64 r2, w64 r3], .int .i64 1, .int .i64 0]) (by simp [results, Tryz.results219, go_sem, z0, z1, z2, z3, z4]) rfl ⟨by rw [HE.out]; rfl, HR.out⟩
  ·have e1 : ((c : Int) == 63) = false := by rw [beq_eq_false_iff_ne]; omega
   by_cases h2 : c = 91
   ·have e2 : ((c : Int) == 91) = true := by rw [beq_iff_eq]; omega
    have HE : Hid (itemP q = (⟨false, (readC q).1⟩, (readC q).2.1, (readC q).2.2)) := by rw [Hid, HP.out, if_neg h0, if_neg h1, if_pos h2]
    have HC := hid (fun W => readC_any q W hs)
    obtain ⟨⟨t, n, e⟩, ht⟩ : ∃ t, readC q = t := ⟨_, rfl⟩
    rw [ht] at HC HE
    clear ht HP
    obtain ⟨r0, r1, r2, r3⟩ := t
    unfold BSet.val at HC
    simp only at HC HE
    go_enter Tryz.func219, Tryz.ntmps219
    go_wp2_with fail
    refine (HC.out _).mono ?_
    rintro e w1 ⟨rfl, hb1⟩
    have HX1 : Hid (Blk w1 w.heap.size 251 #[.bool false, .int .u64 0, .int .u64 0, .int .u64 0, .int .u64 0]) := HX0.out.below hb1 HX0.out.lt
    have HB1 : Hid (Below w.heap.size w w1) := HB0.out.trans (hb1.mono HB0.out.size)
    clear hb1 HX0 HB0
    have HX2 : Hid (Blk (w1.alloc (.cells #[w64 r0, w64 r1, w64 r2, w64 r3] 249)) w.heap.size 251 #[.bool false, .int .u64 0, .int .u64 0, .int .u64 0, .int .u64 0]) := HX1.out.alloc _
    have HB2 : Hid (Below w.heap.size w (w1.alloc (.cells #[w64 r0, w64 r1, w64 r2, w64 r3] 249))) := HB1.out.alloc HB1.out.size _
    have hlt1 := HX1.out.lt
    have HY2 : Hid (Blk (w1.alloc (.cells #[w64 r0, w64 r1, w64 r2, w64 r3] 249)) w1.heap.size 249 #[w64 r0, w64 r1, w64 r2, w64 r3]) := Blk.new w1 _ _
    go_upto_region 8 with fail
    obtain ⟨w2, hw2⟩ : ∃ w2, (w1.alloc (.cells #[w64 r0, w64 r1, w64 r2, w64 r3] 249)) = w2 := ⟨_, rfl⟩
    rw [hw2] at HX2 HB2 HY2 ⊢
    clear hw2 HX1 HB1
    obtain ⟨y0, y1, y2, y3, -, -, -, -⟩ := blk4 HY2.out
    obtain ⟨k0, k1, k2, k3, k4, g0, g1, g2, g3, g4⟩ := blk5 HX2.out
    have HZ := hid (blk_put5 (b0 := .bool false) (b1 := w64 r0) (b2 := w64 r1) (b3 := w64 r2) (b4 := w64 r3) HX2.out)
    have HR := hid (below_put5 (g := w.heap.size) HB2.out (Nat.le_refl _) (.bool false) (w64 r0) (w64 r1) (w64 r2) (w64 r3))
    go_wp2_with fail
    obtain ⟨z0, z1, z2, z3, z4, -, -, -, -, -⟩ := blk5 HZ.out
    exact bodyPost_ret (v := .tuple #[.agg #[.bool false, w64 r0, w64 r1, w64 r2, w64 r3], .int .i64 (n : Int), .int .i64 (e : Int)]) (by simp [results, Tryz.results219, go_sem, z0, z1, z2, z3, z4]) rfl ⟨by rw [HE.out]; rfl, HR.out⟩
   ·have e2 : ((c : Int) == 91) = false := by rw [beq_eq_false_iff_ne]; omega
    by_cases h3 : c = 93
    ·have e3 : ((c : Int) == 93) = true := by rw [beq_iff_eq]; omega
     have HE : Hid (itemP q = (⟨false, BSet.zero⟩, 0, 2)) := by rw [Hid, HP.out, if_neg h0, if_neg h1, if_neg h2, if_pos h3]
     clear HP
     have HR : Hid (Below w.heap.size w (w.alloc (.cells #[.bool false, .int .u64 0, .int .u64 0, .int .u64 0, .int .u64 0] 251))) := (Below.refl w.heap.size w).alloc (Nat.le_refl _) _
     go_enter Tryz.func219, Tryz.ntmps219
     go_wp2_with fail
     exact bodyPost_ret (v := .tuple #[.agg #[.bool false, .int .u64 0, .int .u64 0, .int .u64 0, .int .u64 0], .int .i64 0, .int .i64 2]) (by simp [results, Tryz.results219, go_sem]) rfl ⟨by rw [HE.out]; rfl, HR.out⟩
    ·have e3 : ((c : Int) == 93) = false := by rw [beq_eq_false_iff_ne]; omega
     by_cases h4 : c = 37
     ·have e4 : ((c : Int) == 37) = true := by rw [beq_iff_eq]; omega
      by_cases h5 : q.size = 1
      ·skip
       have HE : Hid (itemP q = (⟨false, BSet.zero⟩, 1, 3)) := by rw [Hid, HP.out, if_neg h0, if_neg h1, if_neg h2, if_neg h3, if_pos h4, if_pos h5]
       clear HP
       have HR : Hid (Below w.heap.size w (w.alloc (.cells #[.bool false, .int .u64 0, .int .u64 0, .int .u64 0, .int .u64 0] 251))) := (Below.refl w.heap.size w).alloc (Nat.le_refl _) _
       go_enter Tryz.func219, Tryz.ntmps219
       go_wp2_with fail
       exact bodyPost_ret (v := .tuple #[.agg #[.bool false, .int .u64 0, .int .u64 0, .int .u64 0, .int .u64 0], .int .i64 1, .int .i64 3]) (by simp [results, Tryz.results219, go_sem]) rfl ⟨by rw [HE.out]; rfl, HR.out⟩
      ·skip
       have HE : Hid (itemP q = (⟨false, spanTo (byteAt q 1) 1⟩, 2, 0)) := by rw [Hid, HP.out, if_neg h0, if_neg h1, if_neg h2, if_neg h3, if_pos h4, if_neg h5]
       have hq1 : 1 < q.size := by omega
       have hd0 := (byteAt_get q 1 hq1).symm
       have hd8 := byteAt_lt q 1
       obtain ⟨d, hd⟩ : ∃ d, byteAt q 1 = d := ⟨_, rfl⟩
       rw [hd] at hd0 hd8 HE
       clear hd
       have HC := hid (fun W => single_any d hd8 W)
       obtain ⟨t, ht⟩ : ∃ t, spanTo d 1 = t := ⟨_, rfl⟩
       rw [ht] at HC HE
       clear ht HP
       obtain ⟨r0, r1, r2, r3⟩ := t
       unfold BSet.val at HC
       go_enter Tryz.func219, Tryz.ntmps219
       go_wp2_with fail
       refine (HC.out _).mono ?_
       rintro e w1 ⟨rfl, hb1⟩
       have HX1 : Hid (Blk w1 w.heap.size 251 #[.bool false, .int .u64 0, .int .u64 0, .int .u64 0, .int .u64 0]) := HX0.out.below hb1 HX0.out.lt
       have HB1 : Hid (Below w.heap.size w w1) := HB0.out.trans (hb1.mono HB0.out.size)
       clear hb1 HX0 HB0
       obtain ⟨k0, k1, k2, k3, k4, g0, g1, g2, g3, g4⟩ := blk5 HX1.out
       have HZ := hid (blk_put5 (b0 := .bool false) (b1 := w64 r0) (b2 := w64 r1) (b3 := w64 r2) (b4 := w64 r3) HX1.out)
       have HR := hid (below_put5 (g := w.heap.size) HB1.out (Nat.le_refl _) (.bool false) (w64 r0) (w64 r1) (w64 r2) (w64 r3))
       go_wp2_with fail
       obtain ⟨z0, z1, z2, z3, z4, -, -, -, -, -⟩ := blk5 HZ.out
       exact bodyPost_ret (v := .tuple #[.agg #[.bool false, w64 r0, w64 r1, w64 r2, w64 r3], .int .i64 2, .int .i64 0]) (by simp [results, Tryz.results219, go_sem, z0, z1, z2, z3, z4]) rfl ⟨by rw [HE.out]; rfl, HR.out⟩
     ·have e4 : ((c : Int) == 37) = false := by rw [beq_eq_false_iff_ne]; omega
      have HE : Hid (itemP q = (⟨false, spanTo c 1⟩, 1, 0)) := by rw [Hid, HP.out, if_neg h0, if_neg h1, if_neg h2, if_neg h3, if_neg h4]
      have HC := hid (fun W => single_any c hc8 W)
      obtain ⟨t, ht⟩ : ∃ t, spanTo c 1 = t := ⟨_, rfl⟩
      rw [ht] at HC HE
      clear ht HP
      obtain ⟨r0, r1, r2, r3⟩ := t
      unfold BSet.val at HC
      go_enter Tryz.func219, Tryz.ntmps219
      go_wp2_with fail
      refine (HC.out _).mono ?_
      rintro e w1 ⟨rfl, hb1⟩
      have HX1 : Hid (Blk w1 w.heap.size 251 #[.bool false, .int .u64 0, .int .u64 0, .int .u64 0, .int .u64 0]) := HX0.out.below hb1 HX0.out.lt
      have HB1 : Hid (Below w.heap.size w w1) := HB0.out.trans (hb1.mono HB0.out.size)
      clear hb1 HX0 HB0
      obtain ⟨k0, k1, k2, k3, k4, g0, g1, g2, g3, g4⟩ := blk5 HX1.out
      have HZ := hid (blk_put5 (b0 := .bool false) (b1 := w64 r0) (b2 := w64 r1) (b3 := w64 r2) (b4 := w64 r3) HX1.out)
      have HR := hid (below_put5 (g := w.heap.size) HB1.out (Nat.le_refl _) (.bool false) (w64 r0) (w64 r1) (w64 r2) (w64 r3))
      go_wp2_with fail
      obtain ⟨z0, z1, z2, z3, z4, -, -, -, -, -⟩ := blk5 HZ.out
      exact bodyPost_ret (v := .tuple #[.agg #[.bool false, w64 r0, w64 r1, w64 r2, w64 r3], .int .i64 1, .int .i64 0]) (by simp [results, Tryz.results219, go_sem, z0, z1, z2, z3, z4]) rfl ⟨by rw [HE.out]; rfl, HR.out⟩
def ParsePost (R : List Item × Nat × Nat) (w : World) (e : Ending) (w' : World) : Prop :=
 ∃ A c, e = .returned (.tuple #[.slice A R.1.length c, .int .i64 (R.2.1 : Nat), .int .i64 (R.2.2 : Nat)]) ∧ w'.ownsRow w.heap.size 251 5 (.slice A R.1.length c) R.1.length (itemCells R.1) ∧ Below w.heap.size w w'
theorem parsePost_nil (w w' : World) (a e : Nat) (h : Below w.heap.size w w') : ParsePost ([], a, e) w (.returned (.tuple #[.slice none 0 0, .int .i64 (a : Int), .int .i64 (e : Int)])) w' :=
 ⟨none, 0, rfl, ⟨rfl, .inl ⟨rfl, rfl⟩⟩, h⟩
set_option maxRecDepth 20000 in
set_option maxHeartbeats 2000000 in
theorem parse_any (p : ByteArray) (hp : p.size ≤ 1000000) (w : World) :
  Calls Tryz.prog 208 #[.string p] w fun e w' => ParsePost (parseM p) w e w' := by
 have HR : Hid (parseP p 61 [] 0 = parseM p) := rfl
 obtain ⟨R, hR⟩ : ∃ R, parseM p = R := ⟨_, rfl⟩
 rw [hR] at HR ⊢
 clear hR
 obtain ⟨Q, hQ⟩ : ∃ Q, ParsePost R w = Q := ⟨_, rfl⟩
 rw [show (fun e w' => ParsePost R w e w') = Q from hQ]
 have HQ := hid hQ
 clear hQ
 go_enter Tryz.func208, Tryz.ntmps208
 go_wp2_with fail
 go_loopw [5, 6] (fun v i wr => ∃ (a c : Nat) (A : Option Addr) (out : List Item), a ≤ p.size ∧ out.length ≤ 60 ∧ i = .int .i64 (a : Int) ∧ v = .slice A out.length c ∧ parseP p (61 - out.length) out a = R ∧
   wr.ownsRow w.heap.size 251 5 (.slice A out.length c) out.length (itemCells out) ∧ Below w.heap.size w wr) (fun _ i _ => p.size - (intOf i).toNat)
 case atStart => exact ⟨0, 0, none, [], by omega, by simp, rfl, rfl, HR.out, ⟨rfl, .inl ⟨rfl, rfl⟩⟩, Below.refl _ _⟩
 case round =>
  obtain ⟨a, c, A, out, ha, hol, rfl, rfl, hpar, hown, hb⟩ := hrel
  have HPAR := hid hpar; have HOWN := hid hown; have HB := hid hb
  obtain ⟨k, hk⟩ : ∃ k, out.length = k := ⟨_, rfl⟩
  have HK := hid hk
  rw [hk] at hol HPAR HOWN ⊢
  clear hpar hown hb hk HR
  by_cases hlt : a < p.size
  ·by_cases h60 : k = 60
   ·have HE : Hid (R = ([], a, 4)) := by rw [Hid, ← HPAR.out, h60, parseP, if_pos hlt, if_pos (by rw [HK.out]; exact h60)]
    subst h60
    go_wp2_with fail
    go_ret3
    have h := parsePost_nil w wr a 4 HB.out
    rw [← HE.out, HQ.out] at h
    exact h
   ·have HI := hid (item_any (tailOf p a) (by rw [tailOf_size]; omega) (by rw [tailOf_size]; omega))
    have HLE := itemP_le (tailOf p a) (by rw [tailOf_size]; omega)
    rw [tailOf_size] at HLE
    have HN : Hid (R = if (itemP (tailOf p a)).2.2 = 0 then parseP p (60 - k) (out ++ [(itemP (tailOf p a)).1]) (a + (itemP (tailOf p a)).2.1) else ([], a + (itemP (tailOf p a)).2.1, (itemP (tailOf p a)).2.2)) := by
     rw [Hid, ← HPAR.out, show 61 - k = (60 - k) + 1 from by omega, parseP, if_pos hlt, if_neg (by rw [HK.out]; exact h60)]
    obtain ⟨⟨x, n, e⟩, hx⟩ : ∃ t, itemP (tailOf p a) = t := ⟨_, rfl⟩
    rw [hx] at HI HLE HN
    simp only at HLE HI HN
    unfold tailOf at HI
    clear hx HPAR
    obtain ⟨hle1, hle2⟩ := HLE
    obtain ⟨j, hj⟩ : ∃ j, a + n = j := ⟨_, rfl⟩
    have hj2 : ((a : Int) + (n : Int)) = (j : Int) := by omega
    have hj3 : j ≤ p.size := by omega
    rw [hj] at HN
    by_cases he : e = 0
    ·subst he
     have HE : Hid (parseP p (60 - k) (out ++ [x]) j = R) := by rw [Hid, HN.out, if_pos rfl]
     have hn0 : 0 < n := hle2 rfl
     have HJ : Hid (a < j) := by rw [Hid]; omega
     clear HN hle2 hle1 hj
     unfold Item.val at HI
     go_wp2_with fail
     refine (HI.out _).mono ?_
     rintro e w1 ⟨rfl, hb1⟩
     have hs1 := HB.out.size
     have HO1 : Hid (w1.ownsRow w.heap.size 251 5 (.slice A k c) k (itemCells out)) := own_below HOWN.out hb1
     have HB1 : Hid (Below w.heap.size w w1) := HB.out.trans (hb1.mono hs1)
     have hs2 := HB1.out.size
     clear hb1 HOWN HB HI hs1
     have hown2 : (w1.alloc (.cells #[.bool x.run, w64 x.set.w0, w64 x.set.w1, w64 x.set.w2, w64 x.set.w3] 251)).ownsRow w.heap.size 251 5 (.slice A k c) k (itemCells out) := own_below HO1.out ((Below.refl w1.heap.size w1).alloc (Nat.le_refl _) _)
     have HB2 : Hid (Below w.heap.size w (w1.alloc (.cells #[.bool x.run, w64 x.set.w0, w64 x.set.w1, w64 x.set.w2, w64 x.set.w3] 251))) := HB1.out.alloc hs2 _
     have HX2 := hid (Blk.new w1 251 #[.bool x.run, w64 x.set.w0, w64 x.set.w1, w64 x.set.w2, w64 x.set.w3])
     have hs3 : w.heap.size ≤ (w1.alloc (.cells #[.bool x.run, w64 x.set.w0, w64 x.set.w1, w64 x.set.w2, w64 x.set.w3] 251)).heap.size := HB2.out.size
     have HO2 := hid hown2
     clear HO1 HB1 hown2
     obtain ⟨k0, k1, k2, k3, k4, -, -, -, -, -⟩ := blk5 HX2.out
     go_upto_region 9 with fail
     obtain ⟨w2, hw2⟩ : ∃ w2, w1.alloc (.cells #[.bool x.run, w64 x.set.w0, w64 x.set.w1, w64 x.set.w2, w64 x.set.w3] 251) = w2 := ⟨_, rfl⟩
     rw [hw2] at HB2 HX2 HO2 hs3 k0 k1 k2 k3 k4 ⊢
     clear hw2 hs2
     have hown2 := HO2.out
     go_wp2_with (at_builtin; refine wpList_append1g _ rfl _ _ 223 rfl w.heap.size 251 _ 5 40 Tryz.underlying223 Tryz.infoItem rfl (by decide) _ _ _ rfl hown2 1 (Item.cells x) rfl rfl rfl ?_ (by decide) hs3 ?_)
     ·omega
     intro A3 d3 w3 hown3 hg3
     have HB3 := hid (below_grown HB2.out hown2 hg3 (Nat.le_refl _) hs3)
     have HL : Hid ((out ++ [x]).length = k + 1) := by rw [Hid, List.length_append, HK.out]; rfl
     have HO3 : Hid (w3.ownsRow w.heap.size 251 5 (.slice (some ⟨A3, 0, none⟩) (k + 1) d3) (k + 1) (itemCells (out ++ [x]))) := by
      rw [Hid, itemCells_append]; simpa [itemCells] using hown3
     have HE2 : Hid (parseP p (61 - (k + 1)) (out ++ [x]) j = R) := by rw [Hid, show 61 - (k + 1) = 60 - k from by omega]; exact HE.out
     have hk60 : k < 60 := by omega
     clear hown2 hown3 hg3 HB2 HX2 HO2 hs3 k0 k1 k2 k3 k4 HE
     go_wp2_with fail
     go_roundw
     case rel => exact ⟨j, d3, some ⟨A3, 0, none⟩, out ++ [x], hj3, by rw [HL.out]; omega, rfl, by rw [HL.out], by rw [HL.out]; exact HE2.out, by rw [HL.out]; exact HO3.out, HB3.out⟩
     case measure => have := HJ.out; simp [intOf]; omega
    ·have HE : Hid (R = ([], j, e)) := by rw [Hid, HN.out, if_neg he]
     have he0 : ((e : Int) == 0) = false := by rw [beq_eq_false_iff_ne]; omega
     clear HN hle2 hle1 hj
     unfold Item.val at HI
     go_wp2_with fail
     refine (HI.out _).mono ?_
     rintro en w1 ⟨rfl, hb1⟩
     have HB2 : Hid (Below w.heap.size w (w1.alloc (.cells #[.bool x.run, w64 x.set.w0, w64 x.set.w1, w64 x.set.w2, w64 x.set.w3] 251))) := (HB.out.trans (hb1.mono HB.out.size)).alloc (Nat.le_trans HB.out.size hb1.size) _
     clear hb1 HI HOWN
     go_wp2_with fail
     go_ret3
     have h := parsePost_nil w _ j e HB2.out
     rw [← HE.out, HQ.out] at h
     exact h
  ·have HE : Hid (R = (out, 0, 0)) := by rw [Hid, ← HPAR.out, parseP_end _ _ _ _ hlt]
   go_wp2_with fail
   go_ret3
   rw [← HQ.out, HE.out]
   exact ⟨A, c, by rw [HK.out]; rfl, by rw [HK.out]; exact HOWN.out, HB.out⟩
def oneM (q : ByteArray) : Nat × Nat × Bool :=
 if q.size = 0 then (0, 0, false)
 else if byteAt q 0 = 93 then (0, 0, false)
 else if byteAt q 0 = 45 then (0, 0, false)
 else if byteAt q 0 ≠ 37 then (byteAt q 0, 1, true)
 else if q.size = 1 then (0, 1, false)
 else (byteAt q 1, 2, true)
theorem byteAt_tail (s : ByteArray) (i j : Nat) : byteAt (tailOf s i) j = byteAt s (i + j) := by
 unfold byteAt tailOf
 rw [ByteArray.data_extract, Array.toList_extract, List.extract_eq_take_drop]
 rw [List.take_of_length_le (by rw [List.length_drop]; exact Nat.le_of_eq (by simp)), List.getD, List.getElem?_drop]; rfl
theorem is_byte (s : ByteArray) (i c : Nat) (h : i < s.size) : isM s i c = (byteAt s i == c) := by
 rw [isM, decide_eq_true h, Bool.true_and]; rfl
theorem is_far (s : ByteArray) (i c : Nat) (h : ¬ i < s.size) : isM s i c = false := by
 rw [isM, decide_eq_false h, Bool.false_and]
theorem one_sign (s : ByteArray) (i : Nat) (hi : i ≤ s.size) :
  ((rdSign s i 0).2.2 = 0 ∧ oneM (tailOf s i) = ((rdSign s i 0).1, (rdSign s i 0).2.1 - i, true) ∧ i < (rdSign s i 0).2.1 ∧ (rdSign s i 0).2.1 ≤ s.size) ∨
  ((rdSign s i 0).2.2 ≠ 0 ∧ ∃ n, oneM (tailOf s i) = (0, n, false) ∧ i + n ≤ s.size ∧ rdSign s i 0 = (0, i + n, stopE s (i + n))) := by
 have hle := rdSign_le s i 0 hi
 have hgo := rdSign_go s i
 have stop_eq : ∀ k, k ≤ s.size → stopAt s k = k := fun k hk => by unfold stopAt; split <;> omega
 by_cases h0 : i < s.size
 ·have b0 : byteAt (tailOf s i) 0 = byteAt s i := byteAt_tail s i 0
  have b1 : byteAt (tailOf s i) 1 = byteAt s (i + 1) := byteAt_tail s i 1
  have hne : ¬ (tailOf s i).size = 0 := by rw [tailOf_size]; omega
  have h37 := is_byte s i 37 h0; have h93 := is_byte s i 93 h0; have h45 := is_byte s i 45 h0
  by_cases c37 : byteAt s i = 37
  ·have t37 : isM s i 37 = true := by rw [h37, beq_iff_eq]; exact c37
   by_cases h1 : i + 1 < s.size
   ·have hr : rdSign s i 0 = (byteAt s (i + 1), i + 2, 0) := by rw [rdSign, if_pos t37, if_pos h1]; rfl
    have ho : oneM (tailOf s i) = (byteAt s (i + 1), 2, true) := by
     rw [oneM, if_neg hne, b0, c37, if_neg (by decide), if_neg (by decide), if_neg (by decide), if_neg (by rw [tailOf_size]; omega), b1]
    rw [hr] at hle hgo ⊢
    exact .inl ⟨rfl, by rw [ho]; simp only [Nat.add_sub_cancel_left], by simp only; omega, hle⟩
   ·have hr : rdSign s i 0 = (0, stopAt s (i + 1), stopE s (i + 1)) := by rw [rdSign, if_pos t37, if_neg h1]
    have ho : oneM (tailOf s i) = (0, 1, false) := by
     rw [oneM, if_neg hne, b0, c37, if_neg (by decide), if_neg (by decide), if_neg (by decide), if_pos (by rw [tailOf_size]; omega)]
    rw [hr]
    exact .inr ⟨stopE_pos _ _, 1, ho, by omega, by rw [stop_eq _ (by omega)]⟩
  ·have t37 : ¬ isM s i 37 = true := by rw [h37, beq_iff_eq]; exact c37
   by_cases c93 : byteAt s i = 93
   ·have hr : rdSign s i 0 = (0, stopAt s i, stopE s i) := by rw [rdSign, if_neg t37, if_neg (by rw [h93, c93]; simp)]
    have ho : oneM (tailOf s i) = (0, 0, false) := by rw [oneM, if_neg hne, b0, if_pos c93]
    rw [hr]
    exact .inr ⟨stopE_pos _ _, 0, ho, by omega, by rw [Nat.add_zero, stop_eq _ (by omega)]⟩
   ·by_cases c45 : byteAt s i = 45
    ·have hr : rdSign s i 0 = (0, stopAt s i, stopE s i) := by rw [rdSign, if_neg t37, if_neg (by rw [h45, c45]; simp)]
     have ho : oneM (tailOf s i) = (0, 0, false) := by rw [oneM, if_neg hne, b0, if_neg c93, if_pos c45]
     rw [hr]
     exact .inr ⟨stopE_pos _ _, 0, ho, by omega, by rw [Nat.add_zero, stop_eq _ (by omega)]⟩
    ·have hr : rdSign s i 0 = (byteAt s i, i + 1, 0) := by
      rw [rdSign, if_neg t37, if_pos ⟨h0, by rw [h93, beq_eq_false_iff_ne]; exact c93, by rw [h45, beq_eq_false_iff_ne]; exact c45⟩]; rfl
     have ho : oneM (tailOf s i) = (byteAt s i, 1, true) := by rw [oneM, if_neg hne, b0, if_neg c93, if_neg c45, if_pos c37]
     rw [hr] at hle hgo ⊢
     exact .inl ⟨rfl, by rw [ho]; simp only [Nat.add_sub_cancel_left], by simp only; omega, hle⟩
 ·have hr : rdSign s i 0 = (0, stopAt s i, stopE s i) := by rw [rdSign, if_neg (by rw [is_far s i 37 h0]; decide), if_neg (by omega)]
  have ho : oneM (tailOf s i) = (0, 0, false) := by rw [oneM, if_pos (by rw [tailOf_size]; omega)]
  rw [hr]
  exact .inr ⟨stopE_pos _ _, 0, ho, by omega, by rw [Nat.add_zero, stop_eq _ (by omega)]⟩
theorem empty_toList (q : ByteArray) : q.toList = q.data.toList := by
 obtain ⟨⟨l⟩⟩ := q
 simp
set_option maxRecDepth 20000 in
set_option maxHeartbeats 1000000 in
theorem one_any (q : ByteArray) (_hs : q.size ≤ 1000000) (w : World) :
  Calls Tryz.prog 237 #[.string q] w fun e w' => e = .returned (.tuple #[.int .i64 ((oneM q).1 : Nat), .int .i64 ((oneM q).2.1 : Nat), .bool (oneM q).2.2]) ∧ w = w' := by
 by_cases h0 : q.size = 0
 ·have HE : Hid (oneM q = (0, 0, false)) := by rw [Hid, oneM, if_pos h0]
  have z0 : q.toList = [] := by rw [empty_toList]; exact List.eq_nil_of_length_eq_zero (by simpa using h0)
  go_enter Tryz.func237, Tryz.ntmps237
  go_wp2_with fail
  go_ret3
  exact ⟨by rw [HE.out]; rfl, rfl⟩
 ·have hq : 0 < q.size := by omega
  have z0 : ¬ q.toList = [] := by rw [empty_toList]; intro h; apply h0; have := congrArg List.length h; simpa using this
  have z1 : q.toList.isEmpty = false := by rw [List.isEmpty_eq_false_iff]; exact z0
  have hc0 := (byteAt_get q 0 hq).symm
  have hc8 := byteAt_lt q 0
  have HO : oneM q = if byteAt q 0 = 93 then (0, 0, false) else if byteAt q 0 = 45 then (0, 0, false) else if byteAt q 0 ≠ 37 then (byteAt q 0, 1, true) else if q.size = 1 then (0, 1, false) else (byteAt q 1, 2, true) := by rw [oneM, if_neg h0]
  obtain ⟨c, hc⟩ : ∃ c, byteAt q 0 = c := ⟨_, rfl⟩
  rw [hc] at hc0 hc8 HO
  have HO := hid HO
  clear hc
  by_cases h93 : c = 93
  ·have e93 : ((c : Int) == 93) = true := by rw [beq_iff_eq]; omega
   have HE : Hid (oneM q = (0, 0, false)) := by rw [Hid, HO.out, if_pos h93]
   clear HO
   go_enter Tryz.func237, Tryz.ntmps237
   go_wp2_with fail
   go_ret3
   exact ⟨by rw [HE.out]; rfl, rfl⟩
  ·have e93 : ((c : Int) == 93) = false := by rw [beq_eq_false_iff_ne]; omega
   by_cases h45 : c = 45
   ·have e45 : ((c : Int) == 45) = true := by rw [beq_iff_eq]; omega
    have HE : Hid (oneM q = (0, 0, false)) := by rw [Hid, HO.out, if_neg h93, if_pos h45]
    clear HO
    go_enter Tryz.func237, Tryz.ntmps237
    go_wp2_with fail
    go_ret3
    exact ⟨by rw [HE.out]; rfl, rfl⟩
   ·have e45 : ((c : Int) == 45) = false := by rw [beq_eq_false_iff_ne]; omega
    by_cases h37 : c = 37
    ·have e37 : ((c : Int) == 37) = true := by rw [beq_iff_eq]; omega
     by_cases h1 : q.size = 1
     ·have HE : Hid (oneM q = (0, 1, false)) := by rw [Hid, HO.out, if_neg h93, if_neg h45, if_neg (by omega), if_pos h1]
      clear HO
      go_enter Tryz.func237, Tryz.ntmps237
      go_wp2_with fail
      go_ret3
      exact ⟨by rw [HE.out]; rfl, rfl⟩
     ·have HE : Hid (oneM q = (byteAt q 1, 2, true)) := by rw [Hid, HO.out, if_neg h93, if_neg h45, if_neg (by omega), if_neg h1]
      have hq1 : 1 < q.size := by omega
      have hd0 := (byteAt_get q 1 hq1).symm
      have hd8 := byteAt_lt q 1
      obtain ⟨d, hd⟩ : ∃ d, byteAt q 1 = d := ⟨_, rfl⟩
      rw [hd] at hd0 hd8 HE
      clear HO hd
      go_enter Tryz.func237, Tryz.ntmps237
      go_wp2_with fail
      go_ret3
      exact ⟨by rw [HE.out]; rfl, rfl⟩
    ·have e37 : ((c : Int) == 37) = false := by rw [beq_eq_false_iff_ne]; omega
     have HE : Hid (oneM q = (c, 1, true)) := by rw [Hid, HO.out, if_neg h93, if_neg h45, if_pos h37]
     clear HO
     go_enter Tryz.func237, Tryz.ntmps237
     go_wp2_with fail
     go_ret3
     exact ⟨by rw [HE.out]; rfl, rfl⟩
set_option maxRecDepth 20000 in
set_option maxHeartbeats 400000 in
theorem stopR_any (s : ByteArray) (i : Nat) (hi : i ≤ s.size) (_hs : s.size ≤ 1000000) (w : World) :
  Calls Tryz.prog 236 #[.string s, .int .i64 (i : Int)] w fun e w' => e = .returned (.tuple #[.agg #[.int .u64 0, .int .u64 0, .int .u64 0, .int .u64 0], .int .i64 (i : Int), .int .i64 (stopE s i : Nat)]) ∧ Below w.heap.size w w' := by
 have HR : Hid (Below w.heap.size w (w.alloc (.cells #[.int .u64 0, .int .u64 0, .int .u64 0, .int .u64 0] 249))) := (Below.refl w.heap.size w).alloc (Nat.le_refl _) _
 by_cases h : i = s.size
 ·have HE : Hid (stopE s i = 3) := by rw [Hid, stopE, if_neg (by omega)]
  subst h
  go_enter Tryz.func236, Tryz.ntmps236
  go_wp2_with fail
  exact bodyPost_ret (v := .tuple #[.agg #[.int .u64 0, .int .u64 0, .int .u64 0, .int .u64 0], .int .i64 (s.size : Int), .int .i64 3]) (by simp [results, Tryz.results236, go_sem]) rfl ⟨by rw [HE.out]; rfl, HR.out⟩
 ·have HE : Hid (stopE s i = 2) := by rw [Hid, stopE, if_pos (by omega)]
  have e0 : ((i : Int) == (s.size : Int)) = false := by rw [beq_eq_false_iff_ne]; omega
  go_enter Tryz.func236, Tryz.ntmps236
  go_wp2_with fail
  exact bodyPost_ret (v := .tuple #[.agg #[.int .u64 0, .int .u64 0, .int .u64 0, .int .u64 0], .int .i64 (i : Int), .int .i64 2]) (by simp [results, Tryz.results236, go_sem]) rfl ⟨by rw [HE.out]; rfl, HR.out⟩
theorem flagsM_put (x : BSet) (k : Nat) (hk : k < 256) : (flagsM x).set k true = flagsM (withM x k) := by
 apply List.ext_getElem
 ·rw [List.length_set, flagsM_length, flagsM_length]
 ·intro j h1 h2
  rw [flagsM_length] at h2
  rw [List.getElem_set]
  simp only [flagsM, List.getElem_map, List.getElem_range]
  rw [has_with _ _ _ hk h2]
  split
  ·rename_i h; subst h; simp
  ·rename_i h
   rw [show decide (j = k) = false from by simp; omega, Bool.or_false]
theorem orM_put (x : BSet) (a k : Nat) (h : a + k < 256) : withM (orM x (spanTo a k)) (a + k) = orM x (spanTo a (k + 1)) := by
 refine BSet.ext_has fun c hc => ?_
 rw [has_with _ _ _ h hc, has_orM _ _ _ hc, has_orM _ _ _ hc, spanTo, has_with _ _ _ h hc, Bool.or_assoc]
theorem orM_none (x : BSet) (a : Nat) : orM x (spanTo a 0) = x := by
 refine BSet.ext_has fun c hc => ?_
 rw [has_orM _ _ _ hc, spanTo, has_zero, Bool.or_false]
theorem makeM_flags (x : BSet) : makeM (flagsM x) = x := by
 refine BSet.ext_has fun c hc => ?_
 rw [has_makeM _ _ hc, flagsM_get x c hc]
theorem isM_false {s : ByteArray} {i c : Nat} (hi : i ≤ s.size) (h : isM s i c = false) : i = s.size ∨ (i < s.size ∧ byteAt s i ≠ c) := by
 by_cases h1 : i < s.size
 ·rw [is_byte s i c h1, beq_eq_false_iff_ne] at h
  exact .inr ⟨h1, h⟩
 ·exact .inl (by omega)
theorem isM_true {s : ByteArray} {i c : Nat} (h : isM s i c = true) : i < s.size ∧ byteAt s i = c := by
 have h1 := isM_lt h
 rw [is_byte s i c h1, beq_iff_eq] at h
 exact ⟨h1, h⟩
set_option maxRecDepth 20000 in
set_option maxHeartbeats 8000000 in
theorem readR_but (s : ByteArray) (w : World) (hs : s.size ≤ 1000000) (h91 : isM s 0 91 = true) (h94 : isM s 1 94 = true) (Q : BSet × Nat × Nat) (hq : rdGo s (s.size + 1) (rdPart s 2).1 (rdPart s 2).2.1 (rdPart s 2).2.2 = Q)
  (hr : readC s = if Q.2.2 = 0 then (notM Q.1, Q.2.1 + 1, 0) else (BSet.zero, Q.2.1, Q.2.2)) :
  Calls Tryz.prog 224 #[.string s] w fun e w' => e = .returned (.tuple #[(readC s).1.val, .int .i64 ((readC s).2.1 : Nat), .int .i64 ((readC s).2.2 : Nat)]) ∧ Below w.heap.size w w' := by
 have HR := hid hr
 have HQ : Hid (rdGo s (s.size + 1) (orM BSet.zero (rdPart s 2).1) (rdPart s 2).2.1 (rdPart s 2).2.2 = Q) := by rw [Hid, orM_zero]; exact hq
 obtain ⟨h0, hb0⟩ := isM_true h91
 have hby0 := (byteAt_get s 0 h0).symm
 rw [hb0] at hby0
 have hi0 : 2 ≤ s.size := by have := isM_lt h94; omega
 have z0 : ¬ s.toList = [] := by
  rw [empty_toList]; intro h
  have h' : s.size = 0 := by have := congrArg List.length h; simpa using this
  omega
 have z1 : s.toList.isEmpty = false := by rw [List.isEmpty_eq_false_iff]; exact z0
 clear h91 hq hr hb0
 obtain ⟨h1, hb1⟩ := isM_true h94
 have hby1 := (byteAt_get s 1 h1).symm
 rw [hb1] at hby1
 clear h94 hb1
 go_enter Tryz.func224, Tryz.ntmps224
 go_wp2_with fail
 refine (none_any _).mono ?_
 rintro e w1 ⟨A1, c1, rfl, hown, hbl⟩
 simp only [World.size_alloc] at hown hbl
 have hz1 := (Blk.new w 249 #[.int .u64 0, .int .u64 0, .int .u64 0, .int .u64 0]).below hbl (by simp)
 have hb1 := ((Below.refl w.heap.size w).alloc (Nat.le_refl _) (.cells #[.int .u64 0, .int .u64 0, .int .u64 0, .int .u64 0] 249)).trans (hbl.mono (by simp))
 have hsz1 := hbl.size
 simp only [World.size_alloc] at hsz1
 have HZ1 := hid hz1
 obtain ⟨g, cap, hA1, hgb⟩ : ∃ g cap, Value.slice A1 256 c1 = .slice (some ⟨g, 0, none⟩) 256 cap ∧ w.heap.size + 1 ≤ g := by
  rcases hown.2 with ⟨_, h0⟩ | ⟨g, cap, cur, hv, hbg, _⟩
  ·exact absurd h0 (by omega)
  ·exact ⟨g, cap, hv, hbg⟩
 injection hA1 with hA1 _ hc1
 subst hA1 hc1
 clear hbl hz1
 have HO1 : Hid (w1.ownsRow (w.heap.size + 1) 4 1 (.slice (some ⟨g, 0, none⟩) 256 c1) 256 (boolCells (flagsM BSet.zero))) := by rw [Hid, flagsM_zero]; exact hown
 have HB1 := hid hb1
 clear hown hb1
 go_wp2_with fail
 go_loopw [6, 8] (fun iv fv wr => ∃ (i n : Nat) (x : BSet) (fst : Bool), i ≤ s.size ∧ s.size ≤ i + n ∧ iv = .int .i64 (i : Int) ∧ fv = .bool fst ∧
   (if fst = true then rdGo s n (orM x (rdPart s i).1) (rdPart s i).2.1 (rdPart s i).2.2 = Q else rdGo s (n + 1) x i 0 = Q) ∧
   wr.ownsRow (w.heap.size + 1) 4 1 (.slice (some ⟨g, 0, none⟩) 256 c1) 256 (boolCells (flagsM x)) ∧ Blk wr w.heap.size 249 #[.int .u64 0, .int .u64 0, .int .u64 0, .int .u64 0] ∧ Below w.heap.size w wr ∧ w.heap.size + 1 ≤ wr.heap.size) (fun iv _ _ => s.size - (intOf iv).toNat)
 case atStart => exact ⟨2, s.size + 1, BSet.zero, true, hi0, by omega, rfl, rfl, by rw [if_pos rfl]; exact HQ.out, HO1.out, HZ1.out, HB1.out, hsz1⟩
 case round =>
  obtain ⟨i, n, x, fst, hi, hn, rfl, rfl, hgo, hown, hz, hbl, hsz⟩ := hrel
  have HO := hid hown; have HZ := hid hz; have HB := hid hbl; have HGO := hid hgo
  clear hown hz hbl HQ HO1 HZ1 HB1 hsz1 hgo
  cases fst
  ·have HGO2 : Hid (rdGo s (n + 1) x i 0 = Q) := by have := HGO.out; rwa [if_neg (by decide)] at this
   clear HGO
   cases h93 : isM s i 93
   ·have HPX : Hid (rdGo s n (orM x (rdPart s i).1) (rdPart s i).2.1 (rdPart s i).2.2 = Q) := by rw [Hid, ← HGO2.out, rdGo, if_pos ⟨rfl, h93⟩]
    clear HGO2
    rcases isM_false hi h93 with h94' | ⟨h94', h95'⟩
    ·skip
     clear h93
     have hge : s.size ≤ i := by omega
     have e93' : ((i : Int) == (s.size : Int)) = true := by rw [beq_iff_eq]; omega
     clear h94'
     rcases one_sign s i hi with h1 | h1
     ·obtain ⟨-, -, h, h'⟩ := h1
      omega
     ·skip
      obtain ⟨-, n1, ho1, hle1, hr1⟩ := h1
      have HE : Hid (readC s = (BSet.zero, i + n1, stopE s (i + n1))) := by
       have hp : rdPart s i = (spanTo 0 1, i + n1, stopE s (i + n1)) := by
        simp only [rdPart]; rw [hr1]; simp only; rw [if_neg (by rintro ⟨h', -⟩; exact stopE_pos _ _ h')]
       have hq : Q = (orM x (spanTo 0 1), i + n1, stopE s (i + n1)) := by rw [← HPX.out, hp, rdGo_bad _ _ _ _ _ (stopE_pos _ _)]
       rw [Hid, HR.out, hq, if_neg (stopE_pos _ _)]
      have C1 := hid (fun W => one_any (tailOf s i) (by rw [tailOf_size]; omega) W)
      rw [ho1] at C1
      unfold tailOf at C1
      obtain ⟨j1, hj1⟩ : ∃ j, i + n1 = j := ⟨_, rfl⟩
      have hj1' : ((i : Int) + (n1 : Int)) = (j1 : Int) := by omega
      rw [hj1] at HE hle1
      clear hj1 HR HPX
      go_wp2_with fail
      refine (C1.out _).mono ?_
      rintro e w7 ⟨rfl, rfl⟩
      go_wp2_with fail
      refine (stopR_any s j1 hle1 hs _).mono ?_
      rintro e w8 ⟨rfl, hb8⟩
      have HZ8 : Hid (Blk w8 w.heap.size 249 #[.int .u64 0, .int .u64 0, .int .u64 0, .int .u64 0]) := HZ.out.below hb8 HZ.out.lt
      have HB8 : Hid (Below w.heap.size w w8) := HB.out.trans (hb8.mono HB.out.size)
      clear hb8
      obtain ⟨k0, k1, k2, k3, f0, f1, f2, f3⟩ := blk4 HZ8.out
      have HZ9 := hid (blk_put4 (b0 := .int .u64 0) (b1 := .int .u64 0) (b2 := .int .u64 0) (b3 := .int .u64 0) HZ8.out)
      have HB9 := hid (below_put4 (g := w.heap.size) HB8.out (Nat.le_refl _) (.int .u64 0) (.int .u64 0) (.int .u64 0) (.int .u64 0))
      go_wp2_with fail
      obtain ⟨z0, z1, z2, z3, -, -, -, -⟩ := blk4 HZ9.out
      exact bodyPost_ret (v := .tuple #[.agg #[.int .u64 0, .int .u64 0, .int .u64 0, .int .u64 0], .int .i64 (j1 : Int), .int .i64 (stopE s j1 : Nat)]) (by simp [results, Tryz.results224, go_sem, z0, z1, z2, z3]) rfl ⟨by rw [HE.out]; rfl, HB9.out⟩
    ·have hby9 := (byteAt_get s i h94').symm
     obtain ⟨cb0, hcb0⟩ : ∃ c, byteAt s i = c := ⟨_, rfl⟩
     rw [hcb0] at hby9 h95'
     have e93 : ((cb0 : Int) == 93) = false := by rw [beq_eq_false_iff_ne]; omega
     have e93' : ((i : Int) == (s.size : Int)) = false := by rw [beq_eq_false_iff_ne]; omega
     clear hcb0 h93
     rcases one_sign s i hi with h1 | h1
     ·obtain ⟨he1, ho1, hlt1, hi1s⟩ := h1
      obtain ⟨⟨a, i1, e1⟩, hr1⟩ : ∃ t, rdSign s i 0 = t := ⟨_, rfl⟩
      have ha256 : a < 256 := by have := rdSign_byte s i 0; rw [hr1] at this; exact this
      rw [hr1] at he1 ho1 hlt1 hi1s
      simp only at he1 ho1 hlt1 hi1s
      subst he1
      obtain ⟨n', hn'⟩ : ∃ n', n = n' + 1 := ⟨n - 1, by omega⟩
      subst hn'
      have HNX := HPX
      have C1 := hid (fun W => one_any (tailOf s i) (by rw [tailOf_size]; omega) W)
      rw [ho1] at C1
      unfold tailOf at C1
      obtain ⟨d1, hd1⟩ : ∃ d, i1 - i = d := ⟨_, rfl⟩
      have hd1' : ((i : Int) + (d1 : Int)) = (i1 : Int) := by omega
      rw [hd1] at C1
      clear hd1 ho1
      cases h45 : isM s i1 45
      ·rcases isM_false hi1s h45 with h46 | ⟨h46, h47⟩
       ·skip
        have HNX2 : Hid (rdGo s (n' + 1) (orM x (spanTo a (a + 1 - a))) i1 0 = Q) := by
         have hp : rdPart s i = (spanTo a 1, i1, 0) := by
          simp only [rdPart]; rw [hr1]; simp only; rw [if_neg (by rw [h45]; simp)]
         rw [Hid, ← HNX.out, hp, Nat.add_sub_cancel_left]
        have HLE : Hid (i1 ≤ s.size) := hi1s
        have HLT : Hid (i < i1 ∧ i < s.size ∧ s.size ≤ i + (n' + 1)) := ⟨by omega, by omega, by omega⟩
        clear HNX HR HPX h45 hr1
        have HNX := HNX2
        clear HNX2
        subst h46
        go_wp2_with fail
        refine (C1.out _).mono ?_
        rintro e w7 ⟨rfl, rfl⟩
        obtain ⟨wo, hwo⟩ : ∃ wo : World, wo = wr := ⟨_, rfl⟩
        rw [← hwo] at HO HZ HB ⊢
        have hs2 : w.heap.size + 1 ≤ wo.heap.size := by rw [hwo]; exact hsz
        clear hwo hsz
        go_wp2_with fail
        go_loopw [13] (fun jv wr2 => ∃ (k : Nat), a + k ≤ a + 1 ∧ jv = .int .i64 ((a + k : Nat) : Int) ∧ wr2.ownsRow (w.heap.size + 1) 4 1 (.slice (some ⟨g, 0, none⟩) 256 c1) 256 (boolCells (flagsM (orM x (spanTo a k)))) ∧
          Blk wr2 w.heap.size 249 #[.int .u64 0, .int .u64 0, .int .u64 0, .int .u64 0] ∧ Below w.heap.size w wr2 ∧ w.heap.size + 1 ≤ wr2.heap.size) (fun jv _ => a + 1 - (intOf jv).toNat)
        case atStart => exact ⟨0, by omega, rfl, by rw [orM_none]; exact HO.out, HZ.out, HB.out, hs2⟩
        case round =>
         obtain ⟨k, hk, rfl, ho2, hz2, hb2, hsz2⟩ := hrel
         have HZ2 := hid hz2; have HB2 := hid hb2
         clear hz2 hb2 HO HZ HB hs2
         have hol : (boolCells (flagsM (orM x (spanTo a k)))).length = 256 := by rw [boolCells_length, flagsM_length]
         by_cases hlt : a + k ≤ a
         ·have hby : a + k < 256 := by omega
          obtain ⟨u, hu⟩ : ∃ u, (boolCells (flagsM (orM x (spanTo a k))))[a + k]? = some u := ⟨_, List.getElem?_eq_getElem (by rw [hol]; exact hby)⟩
          have hcl : wr.cell? ⟨g, a + k, none⟩ = some u := by rw [ho2.cellAt _ (by omega)]; exact hu
          have hfr := ho2.frozenAt (a + k)
          have HST := hid (ho2.stored (a + k) (.bool true))
          have HPU : Hid ((boolCells (flagsM (orM x (spanTo a k)))).set (a + k) (.bool true) = boolCells (flagsM (orM x (spanTo a (k + 1))))) := by rw [Hid, ← orM_put x a k hby, ← flagsM_put _ _ hby, boolCells_set]
          obtain ⟨i9, hi9⟩ : ∃ i, a + k = i := ⟨_, rfl⟩
          rw [hi9] at hcl hfr HST hlt HPU hby ⊢
          have HI9 := hid hi9
          clear ho2 hol hi9 hu
          go_wp2_with fail
          go_roundw
          case rel =>
           refine ⟨k + 1, by have := HI9.out; omega, by have := HI9.out; go_num, ?_, HZ2.out.set_far (by omega), HB2.out.setCell (by simp; omega) _, by simpa using hsz2⟩
           rw [← HPU.out]; exact HST.out.1
          case measure => simp [intOf]; omega
         ·have hkk : k = a + 1 - a := by omega
          have HO2 : Hid (wr.ownsRow (w.heap.size + 1) 4 1 (.slice (some ⟨g, 0, none⟩) 256 c1) 256 (boolCells (flagsM (orM x (spanTo a (a + 1 - a)))))) := by rw [Hid, ← hkk]; exact ho2
          clear ho2 hol hkk
          go_wp2_with fail
          go_roundw
          case rel => exact ⟨s.size, n', orM x (spanTo a (a + 1 - a)), false, HLE.out, by have := HLT.out; omega, rfl, rfl, HNX.out, HO2.out, HZ2.out, HB2.out, hsz2⟩
          case measure => have := HLT.out; simp [intOf]; omega
       ·skip
        have HNX2 : Hid (rdGo s (n' + 1) (orM x (spanTo a (a + 1 - a))) i1 0 = Q) := by
         have hp : rdPart s i = (spanTo a 1, i1, 0) := by
          simp only [rdPart]; rw [hr1]; simp only; rw [if_neg (by rw [h45]; simp)]
         rw [Hid, ← HNX.out, hp, Nat.add_sub_cancel_left]
        have HLE : Hid (i1 ≤ s.size) := hi1s
        have HLT : Hid (i < i1 ∧ i < s.size ∧ s.size ≤ i + (n' + 1)) := ⟨by omega, by omega, by omega⟩
        clear HNX HR HPX h45 hr1
        have HNX := HNX2
        clear HNX2
        have hby1 := (byteAt_get s i1 h46).symm
        obtain ⟨cb, hcb⟩ : ∃ c, byteAt s i1 = c := ⟨_, rfl⟩
        rw [hcb] at hby1 h47
        have e45 : ((cb : Int) == 45) = false := by rw [beq_eq_false_iff_ne]; omega
        clear hcb
        go_wp2_with fail
        refine (C1.out _).mono ?_
        rintro e w7 ⟨rfl, rfl⟩
        obtain ⟨wo, hwo⟩ : ∃ wo : World, wo = wr := ⟨_, rfl⟩
        rw [← hwo] at HO HZ HB ⊢
        have hs2 : w.heap.size + 1 ≤ wo.heap.size := by rw [hwo]; exact hsz
        clear hwo hsz
        go_wp2_with fail
        go_loopw [13] (fun jv wr2 => ∃ (k : Nat), a + k ≤ a + 1 ∧ jv = .int .i64 ((a + k : Nat) : Int) ∧ wr2.ownsRow (w.heap.size + 1) 4 1 (.slice (some ⟨g, 0, none⟩) 256 c1) 256 (boolCells (flagsM (orM x (spanTo a k)))) ∧
          Blk wr2 w.heap.size 249 #[.int .u64 0, .int .u64 0, .int .u64 0, .int .u64 0] ∧ Below w.heap.size w wr2 ∧ w.heap.size + 1 ≤ wr2.heap.size) (fun jv _ => a + 1 - (intOf jv).toNat)
        case atStart => exact ⟨0, by omega, rfl, by rw [orM_none]; exact HO.out, HZ.out, HB.out, hs2⟩
        case round =>
         obtain ⟨k, hk, rfl, ho2, hz2, hb2, hsz2⟩ := hrel
         have HZ2 := hid hz2; have HB2 := hid hb2
         clear hz2 hb2 HO HZ HB hs2
         have hol : (boolCells (flagsM (orM x (spanTo a k)))).length = 256 := by rw [boolCells_length, flagsM_length]
         by_cases hlt : a + k ≤ a
         ·have hby : a + k < 256 := by omega
          obtain ⟨u, hu⟩ : ∃ u, (boolCells (flagsM (orM x (spanTo a k))))[a + k]? = some u := ⟨_, List.getElem?_eq_getElem (by rw [hol]; exact hby)⟩
          have hcl : wr.cell? ⟨g, a + k, none⟩ = some u := by rw [ho2.cellAt _ (by omega)]; exact hu
          have hfr := ho2.frozenAt (a + k)
          have HST := hid (ho2.stored (a + k) (.bool true))
          have HPU : Hid ((boolCells (flagsM (orM x (spanTo a k)))).set (a + k) (.bool true) = boolCells (flagsM (orM x (spanTo a (k + 1))))) := by rw [Hid, ← orM_put x a k hby, ← flagsM_put _ _ hby, boolCells_set]
          obtain ⟨i9, hi9⟩ : ∃ i, a + k = i := ⟨_, rfl⟩
          rw [hi9] at hcl hfr HST hlt HPU hby ⊢
          have HI9 := hid hi9
          clear ho2 hol hi9 hu
          go_wp2_with fail
          go_roundw
          case rel =>
           refine ⟨k + 1, by have := HI9.out; omega, by have := HI9.out; go_num, ?_, HZ2.out.set_far (by omega), HB2.out.setCell (by simp; omega) _, by simpa using hsz2⟩
           rw [← HPU.out]; exact HST.out.1
          case measure => simp [intOf]; omega
         ·have hkk : k = a + 1 - a := by omega
          have HO2 : Hid (wr.ownsRow (w.heap.size + 1) 4 1 (.slice (some ⟨g, 0, none⟩) 256 c1) 256 (boolCells (flagsM (orM x (spanTo a (a + 1 - a)))))) := by rw [Hid, ← hkk]; exact ho2
          clear ho2 hol hkk
          go_wp2_with fail
          go_roundw
          case rel => exact ⟨i1, n', orM x (spanTo a (a + 1 - a)), false, HLE.out, by have := HLT.out; omega, rfl, rfl, HNX.out, HO2.out, HZ2.out, HB2.out, hsz2⟩
          case measure => have := HLT.out; simp [intOf]; omega
      ·obtain ⟨h46, h47⟩ := isM_true h45
       have hby1 := (byteAt_get s i1 h46).symm
       rw [h47] at hby1
       go_wp2_with fail
       refine (C1.out _).mono ?_
       rintro e w7 ⟨rfl, rfl⟩
       rcases one_sign s (i1 + 1) (by omega) with h2 | h2
       ·obtain ⟨he2, ho2, hlt2, hi2s⟩ := h2
        obtain ⟨⟨b, i2, e2⟩, hr2⟩ : ∃ t, rdSign s (i1 + 1) 0 = t := ⟨_, rfl⟩
        have hb256 : b < 256 := by have := rdSign_byte s (i1 + 1) 0; rw [hr2] at this; exact this
        rw [hr2] at he2 ho2 hlt2 hi2s
        simp only at he2 ho2 hlt2 hi2s
        subst he2
        have C2 := hid (fun W => one_any (tailOf s (i1 + 1)) (by rw [tailOf_size]; omega) W)
        rw [ho2] at C2
        unfold tailOf at C2
        obtain ⟨j1, hj1⟩ : ∃ j, i1 + 1 = j := ⟨_, rfl⟩
        have hj1' : ((i1 : Int) + 1) = (j1 : Int) := by omega
        have hj1s : j1 ≤ s.size := by omega
        obtain ⟨d2, hd2⟩ : ∃ d, i2 - j1 = d := ⟨_, rfl⟩
        have hd2' : ((j1 : Int) + (d2 : Int)) = (i2 : Int) := by omega
        rw [hj1, hd2] at C2
        have HJ1 := hid hj1
        clear hd2 hj1 ho2
        by_cases hba : b < a
        ·skip
         have HE : Hid (readC s = (BSet.zero, i2 - 1, 12)) := by
          have hp : rdPart s i = (spanTo a (b + 1 - a), i2 - 1, 12) := by
           simp only [rdPart]; rw [hr1]; simp only; rw [if_pos ⟨trivial, h45⟩, hr2]; simp only; rw [if_pos ⟨trivial, hba⟩]
          have hq : Q = (orM x (spanTo a (b + 1 - a)), i2 - 1, 12) := by rw [← HNX.out, hp, rdGo_bad _ _ _ _ _ (show (12 : Nat) ≠ 0 by decide)]
          rw [Hid, HR.out, hq, if_neg (show ¬ (12 : Nat) = 0 by decide)]
         obtain ⟨j3, hj3⟩ : ∃ j, i2 - 1 = j := ⟨_, rfl⟩
         have hj3' : ((i2 : Int) - 1) = (j3 : Int) := by omega
         rw [hj3] at HE
         clear hj3 HNX HR HPX
         go_wp2_with fail
         refine (C2.out _).mono ?_
         rintro e w7 ⟨rfl, rfl⟩
         obtain ⟨k0, k1, k2, k3, f0, f1, f2, f3⟩ := blk4 HZ.out
         have HZ9 := hid (blk_put4 (b0 := .int .u64 0) (b1 := .int .u64 0) (b2 := .int .u64 0) (b3 := .int .u64 0) HZ.out)
         have HB9 := hid (below_put4 (g := w.heap.size) HB.out (Nat.le_refl _) (.int .u64 0) (.int .u64 0) (.int .u64 0) (.int .u64 0))
         go_wp2_with fail
         obtain ⟨z0, z1, z2, z3, -, -, -, -⟩ := blk4 HZ9.out
         exact bodyPost_ret (v := .tuple #[.agg #[.int .u64 0, .int .u64 0, .int .u64 0, .int .u64 0], .int .i64 (j3 : Int), .int .i64 12]) (by simp [results, Tryz.results224, go_sem, z0, z1, z2, z3]) rfl ⟨by rw [HE.out]; rfl, HB9.out⟩
        ·skip
         have HNX2 : Hid (rdGo s (n' + 1) (orM x (spanTo a (b + 1 - a))) i2 0 = Q) := by
          have hp : rdPart s i = (spanTo a (b + 1 - a), i2, 0) := by
           simp only [rdPart]; rw [hr1]; simp only; rw [if_pos ⟨trivial, h45⟩, hr2]; simp only; rw [if_neg (by rintro ⟨-, h'⟩; exact hba h')]
          rw [Hid, ← HNX.out, hp]
         have HLE : Hid (i2 ≤ s.size) := hi2s
         have HLT : Hid (i < i2 ∧ i < s.size ∧ s.size ≤ i + (n' + 1)) := ⟨by omega, by omega, by omega⟩
         clear HNX HR HPX
         have HNX := HNX2
         clear HNX2
         go_wp2_with fail
         refine (C2.out _).mono ?_
         rintro e w7 ⟨rfl, rfl⟩
         obtain ⟨wo, hwo⟩ : ∃ wo : World, wo = wr := ⟨_, rfl⟩
         rw [← hwo] at HO HZ HB ⊢
         have hs2 : w.heap.size + 1 ≤ wo.heap.size := by rw [hwo]; exact hsz
         clear hwo hsz
         go_wp2_with fail
         go_loopw [13] (fun jv wr2 => ∃ (k : Nat), a + k ≤ b + 1 ∧ jv = .int .i64 ((a + k : Nat) : Int) ∧ wr2.ownsRow (w.heap.size + 1) 4 1 (.slice (some ⟨g, 0, none⟩) 256 c1) 256 (boolCells (flagsM (orM x (spanTo a k)))) ∧
           Blk wr2 w.heap.size 249 #[.int .u64 0, .int .u64 0, .int .u64 0, .int .u64 0] ∧ Below w.heap.size w wr2 ∧ w.heap.size + 1 ≤ wr2.heap.size) (fun jv _ => b + 1 - (intOf jv).toNat)
         case atStart => exact ⟨0, by omega, rfl, by rw [orM_none]; exact HO.out, HZ.out, HB.out, hs2⟩
         case round =>
          obtain ⟨k, hk, rfl, ho2, hz2, hb2, hsz2⟩ := hrel
          have HZ2 := hid hz2; have HB2 := hid hb2
          clear hz2 hb2 HO HZ HB hs2
          have hol : (boolCells (flagsM (orM x (spanTo a k)))).length = 256 := by rw [boolCells_length, flagsM_length]
          by_cases hlt : a + k ≤ b
          ·have hby : a + k < 256 := by omega
           obtain ⟨u, hu⟩ : ∃ u, (boolCells (flagsM (orM x (spanTo a k))))[a + k]? = some u := ⟨_, List.getElem?_eq_getElem (by rw [hol]; exact hby)⟩
           have hcl : wr.cell? ⟨g, a + k, none⟩ = some u := by rw [ho2.cellAt _ (by omega)]; exact hu
           have hfr := ho2.frozenAt (a + k)
           have HST := hid (ho2.stored (a + k) (.bool true))
           have HPU : Hid ((boolCells (flagsM (orM x (spanTo a k)))).set (a + k) (.bool true) = boolCells (flagsM (orM x (spanTo a (k + 1))))) := by rw [Hid, ← orM_put x a k hby, ← flagsM_put _ _ hby, boolCells_set]
           obtain ⟨i9, hi9⟩ : ∃ i, a + k = i := ⟨_, rfl⟩
           rw [hi9] at hcl hfr HST hlt HPU hby ⊢
           have HI9 := hid hi9
           clear ho2 hol hi9 hu
           go_wp2_with fail
           go_roundw
           case rel =>
            refine ⟨k + 1, by have := HI9.out; omega, by have := HI9.out; go_num, ?_, HZ2.out.set_far (by omega), HB2.out.setCell (by simp; omega) _, by simpa using hsz2⟩
            rw [← HPU.out]; exact HST.out.1
           case measure => simp [intOf]; omega
          ·have hkk : k = b + 1 - a := by omega
           have HO2 : Hid (wr.ownsRow (w.heap.size + 1) 4 1 (.slice (some ⟨g, 0, none⟩) 256 c1) 256 (boolCells (flagsM (orM x (spanTo a (b + 1 - a)))))) := by rw [Hid, ← hkk]; exact ho2
           clear ho2 hol hkk
           go_wp2_with fail
           go_roundw
           case rel => exact ⟨i2, n', orM x (spanTo a (b + 1 - a)), false, HLE.out, by have := HLT.out; omega, rfl, rfl, HNX.out, HO2.out, HZ2.out, HB2.out, hsz2⟩
           case measure => have := HLT.out; simp [intOf]; omega
       ·skip
        obtain ⟨-, n2, ho2, hle2, hr2⟩ := h2
        have HE : Hid (readC s = (BSet.zero, i1 + 1 + n2, stopE s (i1 + 1 + n2))) := by
         have hp : rdPart s i = (spanTo a (0 + 1 - a), i1 + 1 + n2, stopE s (i1 + 1 + n2)) := by
          simp only [rdPart]; rw [hr1]; simp only; rw [if_pos ⟨trivial, h45⟩, hr2, if_neg (by rintro ⟨h', -⟩; exact stopE_pos _ _ h')]
         have hq : Q = (orM x (spanTo a (0 + 1 - a)), i1 + 1 + n2, stopE s (i1 + 1 + n2)) := by rw [← HNX.out, hp, rdGo_bad _ _ _ _ _ (stopE_pos _ _)]
         rw [Hid, HR.out, hq, if_neg (stopE_pos _ _)]
        have C2 := hid (fun W => one_any (tailOf s (i1 + 1)) (by rw [tailOf_size]; omega) W)
        rw [ho2] at C2
        unfold tailOf at C2
        obtain ⟨j1, hj1⟩ : ∃ j, i1 + 1 = j := ⟨_, rfl⟩
        have hj1' : ((i1 : Int) + 1) = (j1 : Int) := by omega
        obtain ⟨j2, hj2⟩ : ∃ j, j1 + n2 = j := ⟨_, rfl⟩
        have hj2' : ((j1 : Int) + (n2 : Int)) = (j2 : Int) := by omega
        rw [hj1] at C2 HE hle2
        rw [hj2] at HE hle2
        have hj1s : j1 ≤ s.size := by omega
        clear hj1 hj2 HNX HR HPX
        go_wp2_with fail
        refine (C2.out _).mono ?_
        rintro e w7 ⟨rfl, rfl⟩
        go_wp2_with fail
        refine (stopR_any s j2 hle2 hs _).mono ?_
        rintro e w8 ⟨rfl, hb8⟩
        have HZ8 : Hid (Blk w8 w.heap.size 249 #[.int .u64 0, .int .u64 0, .int .u64 0, .int .u64 0]) := HZ.out.below hb8 HZ.out.lt
        have HB8 : Hid (Below w.heap.size w w8) := HB.out.trans (hb8.mono HB.out.size)
        clear hb8
        obtain ⟨k0, k1, k2, k3, f0, f1, f2, f3⟩ := blk4 HZ8.out
        have HZ9 := hid (blk_put4 (b0 := .int .u64 0) (b1 := .int .u64 0) (b2 := .int .u64 0) (b3 := .int .u64 0) HZ8.out)
        have HB9 := hid (below_put4 (g := w.heap.size) HB8.out (Nat.le_refl _) (.int .u64 0) (.int .u64 0) (.int .u64 0) (.int .u64 0))
        go_wp2_with fail
        obtain ⟨z0, z1, z2, z3, -, -, -, -⟩ := blk4 HZ9.out
        exact bodyPost_ret (v := .tuple #[.agg #[.int .u64 0, .int .u64 0, .int .u64 0, .int .u64 0], .int .i64 (j2 : Int), .int .i64 (stopE s j2 : Nat)]) (by simp [results, Tryz.results224, go_sem, z0, z1, z2, z3]) rfl ⟨by rw [HE.out]; rfl, HB9.out⟩
     ·skip
      obtain ⟨-, n1, ho1, hle1, hr1⟩ := h1
      have HE : Hid (readC s = (BSet.zero, i + n1, stopE s (i + n1))) := by
       have hp : rdPart s i = (spanTo 0 1, i + n1, stopE s (i + n1)) := by
        simp only [rdPart]; rw [hr1]; simp only; rw [if_neg (by rintro ⟨h', -⟩; exact stopE_pos _ _ h')]
       have hq : Q = (orM x (spanTo 0 1), i + n1, stopE s (i + n1)) := by rw [← HPX.out, hp, rdGo_bad _ _ _ _ _ (stopE_pos _ _)]
       rw [Hid, HR.out, hq, if_neg (stopE_pos _ _)]
      have C1 := hid (fun W => one_any (tailOf s i) (by rw [tailOf_size]; omega) W)
      rw [ho1] at C1
      unfold tailOf at C1
      obtain ⟨j1, hj1⟩ : ∃ j, i + n1 = j := ⟨_, rfl⟩
      have hj1' : ((i : Int) + (n1 : Int)) = (j1 : Int) := by omega
      rw [hj1] at HE hle1
      clear hj1 HR HPX
      go_wp2_with fail
      refine (C1.out _).mono ?_
      rintro e w7 ⟨rfl, rfl⟩
      go_wp2_with fail
      refine (stopR_any s j1 hle1 hs _).mono ?_
      rintro e w8 ⟨rfl, hb8⟩
      have HZ8 : Hid (Blk w8 w.heap.size 249 #[.int .u64 0, .int .u64 0, .int .u64 0, .int .u64 0]) := HZ.out.below hb8 HZ.out.lt
      have HB8 : Hid (Below w.heap.size w w8) := HB.out.trans (hb8.mono HB.out.size)
      clear hb8
      obtain ⟨k0, k1, k2, k3, f0, f1, f2, f3⟩ := blk4 HZ8.out
      have HZ9 := hid (blk_put4 (b0 := .int .u64 0) (b1 := .int .u64 0) (b2 := .int .u64 0) (b3 := .int .u64 0) HZ8.out)
      have HB9 := hid (below_put4 (g := w.heap.size) HB8.out (Nat.le_refl _) (.int .u64 0) (.int .u64 0) (.int .u64 0) (.int .u64 0))
      go_wp2_with fail
      obtain ⟨z0, z1, z2, z3, -, -, -, -⟩ := blk4 HZ9.out
      exact bodyPost_ret (v := .tuple #[.agg #[.int .u64 0, .int .u64 0, .int .u64 0, .int .u64 0], .int .i64 (j1 : Int), .int .i64 (stopE s j1 : Nat)]) (by simp [results, Tryz.results224, go_sem, z0, z1, z2, z3]) rfl ⟨by rw [HE.out]; rfl, HB9.out⟩
   ·have HE : Hid (Q = (x, i, 0)) := by rw [Hid, ← HGO2.out, rdGo_shut s (n + 1) x i 0 h93]
    obtain ⟨h94', h95'⟩ := isM_true h93
    have hby9 := (byteAt_get s i h94').symm
    rw [h95'] at hby9
    have e93' : ((i : Int) == (s.size : Int)) = false := by rw [beq_eq_false_iff_ne]; omega
    have HRR : Hid (readC s = (notM x, i + 1, 0)) := by rw [Hid, HR.out, HE.out]; rfl
    have HMK := hid (make_any (some ⟨g, 0, none⟩) c1 (flagsM x) wr (flagsM_length x) (Rd_of_own HO.out))
    rw [makeM_flags] at HMK
    obtain ⟨j, hj⟩ : ∃ j, i + 1 = j := ⟨_, rfl⟩
    have hj' : ((i : Int) + 1) = (j : Int) := by omega
    rw [hj] at HRR
    clear HE HGO2 h93 hj HR HO
    have HN := hid (fun W => notR_any x W)
    obtain ⟨y, hy⟩ : ∃ y, notM x = y := ⟨_, rfl⟩
    rw [hy] at HN HRR
    clear hy
    unfold BSet.val at *
    go_wp2_with fail
    refine HMK.out.mono ?_
    rintro e w4 ⟨rfl, hb4⟩
    have HZ4 : Hid (Blk w4 w.heap.size 249 #[.int .u64 0, .int .u64 0, .int .u64 0, .int .u64 0]) := HZ.out.below hb4 HZ.out.lt
    have HB4 : Hid (Below w.heap.size w w4) := HB.out.trans (hb4.mono HB.out.size)
    have hlt4 := HZ4.out.lt
    clear hb4 HMK HZ HB
    have HX5 := hid (Blk.new w4 249 #[w64 x.w0, w64 x.w1, w64 x.w2, w64 x.w3])
    have HZ5 : Hid (Blk (w4.alloc (.cells #[w64 x.w0, w64 x.w1, w64 x.w2, w64 x.w3] 249)) w.heap.size 249 #[.int .u64 0, .int .u64 0, .int .u64 0, .int .u64 0]) := HZ4.out.alloc _
    have HB5 : Hid (Below w.heap.size w (w4.alloc (.cells #[w64 x.w0, w64 x.w1, w64 x.w2, w64 x.w3] 249))) := HB4.out.alloc HB4.out.size _
    obtain ⟨X, hX⟩ : ∃ X, w4.heap.size = X := ⟨_, rfl⟩
    rw [hX] at HX5 hlt4
    go_upto_region 26 with fail
    obtain ⟨w5, hw5⟩ : ∃ w5, w4.alloc (.cells #[w64 x.w0, w64 x.w1, w64 x.w2, w64 x.w3] 249) = w5 := ⟨_, rfl⟩
    rw [hw5] at HX5 HZ5 HB5 ⊢
    clear hw5 HZ4 HB4
    obtain ⟨x0, x1, x2, x3, p0, p1, p2, p3⟩ := blk4 HX5.out
    obtain ⟨k0, k1, k2, k3, f0, f1, f2, f3⟩ := blk4 HZ5.out
    go_wp2_with fail
    refine (HN.out _).mono ?_
    rintro e w6 ⟨rfl, hb6⟩
    have HX6 : Hid (Blk w6 X 249 #[w64 x.w0, w64 x.w1, w64 x.w2, w64 x.w3]) := HX5.out.below hb6 HX5.out.lt
    have HZ6 : Hid (Blk w6 w.heap.size 249 #[.int .u64 0, .int .u64 0, .int .u64 0, .int .u64 0]) := HZ5.out.below hb6 HZ5.out.lt
    have HB6 : Hid (Below w.heap.size w w6) := HB5.out.trans (hb6.mono HB5.out.size)
    clear hb6 HN HX5 HZ5 HB5 x0 x1 x2 x3 p0 p1 p2 p3 k0 k1 k2 k3 f0 f1 f2 f3
    obtain ⟨x0, x1, x2, x3, p0, p1, p2, p3⟩ := blk4 HX6.out
    have HX7 := hid (blk_put4 (b0 := w64 y.w0) (b1 := w64 y.w1) (b2 := w64 y.w2) (b3 := w64 y.w3) HX6.out)
    have HZ7 := hid (blk_far4 (g' := X) (b0 := w64 y.w0) (b1 := w64 y.w1) (b2 := w64 y.w2) (b3 := w64 y.w3) HZ6.out (by omega))
    have HB7 := hid (below_put4 (g := X) HB6.out (by omega) (w64 y.w0) (w64 y.w1) (w64 y.w2) (w64 y.w3))
    go_upto_region 28 with fail
    obtain ⟨w7, hw7⟩ : ∃ w7, (((w6.setCell ⟨X, 0, none⟩ (w64 y.w0)).setCell ⟨X, 1, none⟩ (w64 y.w1)).setCell ⟨X, 2, none⟩ (w64 y.w2)).setCell ⟨X, 3, none⟩ (w64 y.w3) = w7 := ⟨_, rfl⟩
    rw [hw7] at HX7 HZ7 HB7 ⊢
    clear hw7 HX6 HZ6 HB6 x0 x1 x2 x3 p0 p1 p2 p3
    obtain ⟨x0, x1, x2, x3, -, -, -, -⟩ := blk4 HX7.out
    obtain ⟨k0, k1, k2, k3, f0, f1, f2, f3⟩ := blk4 HZ7.out
    have HZ9 := hid (blk_put4 (b0 := w64 y.w0) (b1 := w64 y.w1) (b2 := w64 y.w2) (b3 := w64 y.w3) HZ7.out)
    have HB9 := hid (below_put4 (g := w.heap.size) HB7.out (Nat.le_refl _) (w64 y.w0) (w64 y.w1) (w64 y.w2) (w64 y.w3))
    go_wp2_with fail
    obtain ⟨z0, z1, z2, z3, -, -, -, -⟩ := blk4 HZ9.out
    exact bodyPost_ret (v := .tuple #[.agg #[w64 y.w0, w64 y.w1, w64 y.w2, w64 y.w3], .int .i64 (j : Int), .int .i64 0]) (by simp [results, Tryz.results224, go_sem, z0, z1, z2, z3]) rfl ⟨by rw [HRR.out]; rfl, HB9.out⟩
  ·have HPX : Hid (rdGo s n (orM x (rdPart s i).1) (rdPart s i).2.1 (rdPart s i).2.2 = Q) := by have := HGO.out; rwa [if_pos rfl] at this
   clear HGO
   by_cases hisz : i = s.size
   ·skip
    have hge : s.size ≤ i := by omega
    clear hisz
    rcases one_sign s i hi with h1 | h1
    ·obtain ⟨-, -, h, h'⟩ := h1
     omega
    ·skip
     obtain ⟨-, n1, ho1, hle1, hr1⟩ := h1
     have HE : Hid (readC s = (BSet.zero, i + n1, stopE s (i + n1))) := by
      have hp : rdPart s i = (spanTo 0 1, i + n1, stopE s (i + n1)) := by
       simp only [rdPart]; rw [hr1]; simp only; rw [if_neg (by rintro ⟨h', -⟩; exact stopE_pos _ _ h')]
      have hq : Q = (orM x (spanTo 0 1), i + n1, stopE s (i + n1)) := by rw [← HPX.out, hp, rdGo_bad _ _ _ _ _ (stopE_pos _ _)]
      rw [Hid, HR.out, hq, if_neg (stopE_pos _ _)]
     have C1 := hid (fun W => one_any (tailOf s i) (by rw [tailOf_size]; omega) W)
     rw [ho1] at C1
     unfold tailOf at C1
     obtain ⟨j1, hj1⟩ : ∃ j, i + n1 = j := ⟨_, rfl⟩
     have hj1' : ((i : Int) + (n1 : Int)) = (j1 : Int) := by omega
     rw [hj1] at HE hle1
     clear hj1 HR HPX
     go_wp2_with fail
     refine (C1.out _).mono ?_
     rintro e w7 ⟨rfl, rfl⟩
     go_wp2_with fail
     refine (stopR_any s j1 hle1 hs _).mono ?_
     rintro e w8 ⟨rfl, hb8⟩
     have HZ8 : Hid (Blk w8 w.heap.size 249 #[.int .u64 0, .int .u64 0, .int .u64 0, .int .u64 0]) := HZ.out.below hb8 HZ.out.lt
     have HB8 : Hid (Below w.heap.size w w8) := HB.out.trans (hb8.mono HB.out.size)
     clear hb8
     obtain ⟨k0, k1, k2, k3, f0, f1, f2, f3⟩ := blk4 HZ8.out
     have HZ9 := hid (blk_put4 (b0 := .int .u64 0) (b1 := .int .u64 0) (b2 := .int .u64 0) (b3 := .int .u64 0) HZ8.out)
     have HB9 := hid (below_put4 (g := w.heap.size) HB8.out (Nat.le_refl _) (.int .u64 0) (.int .u64 0) (.int .u64 0) (.int .u64 0))
     go_wp2_with fail
     obtain ⟨z0, z1, z2, z3, -, -, -, -⟩ := blk4 HZ9.out
     exact bodyPost_ret (v := .tuple #[.agg #[.int .u64 0, .int .u64 0, .int .u64 0, .int .u64 0], .int .i64 (j1 : Int), .int .i64 (stopE s j1 : Nat)]) (by simp [results, Tryz.results224, go_sem, z0, z1, z2, z3]) rfl ⟨by rw [HE.out]; rfl, HB9.out⟩
   ·have h94' : i < s.size := by omega
    rcases one_sign s i hi with h1 | h1
    ·obtain ⟨he1, ho1, hlt1, hi1s⟩ := h1
     obtain ⟨⟨a, i1, e1⟩, hr1⟩ : ∃ t, rdSign s i 0 = t := ⟨_, rfl⟩
     have ha256 : a < 256 := by have := rdSign_byte s i 0; rw [hr1] at this; exact this
     rw [hr1] at he1 ho1 hlt1 hi1s
     simp only at he1 ho1 hlt1 hi1s
     subst he1
     obtain ⟨n', hn'⟩ : ∃ n', n = n' + 1 := ⟨n - 1, by omega⟩
     subst hn'
     have HNX := HPX
     have C1 := hid (fun W => one_any (tailOf s i) (by rw [tailOf_size]; omega) W)
     rw [ho1] at C1
     unfold tailOf at C1
     obtain ⟨d1, hd1⟩ : ∃ d, i1 - i = d := ⟨_, rfl⟩
     have hd1' : ((i : Int) + (d1 : Int)) = (i1 : Int) := by omega
     rw [hd1] at C1
     clear hd1 ho1
     cases h45 : isM s i1 45
     ·rcases isM_false hi1s h45 with h46 | ⟨h46, h47⟩
      ·skip
       have HNX2 : Hid (rdGo s (n' + 1) (orM x (spanTo a (a + 1 - a))) i1 0 = Q) := by
        have hp : rdPart s i = (spanTo a 1, i1, 0) := by
         simp only [rdPart]; rw [hr1]; simp only; rw [if_neg (by rw [h45]; simp)]
        rw [Hid, ← HNX.out, hp, Nat.add_sub_cancel_left]
       have HLE : Hid (i1 ≤ s.size) := hi1s
       have HLT : Hid (i < i1 ∧ i < s.size ∧ s.size ≤ i + (n' + 1)) := ⟨by omega, by omega, by omega⟩
       clear HNX HR HPX h45 hr1
       have HNX := HNX2
       clear HNX2
       subst h46
       go_wp2_with fail
       refine (C1.out _).mono ?_
       rintro e w7 ⟨rfl, rfl⟩
       obtain ⟨wo, hwo⟩ : ∃ wo : World, wo = wr := ⟨_, rfl⟩
       rw [← hwo] at HO HZ HB ⊢
       have hs2 : w.heap.size + 1 ≤ wo.heap.size := by rw [hwo]; exact hsz
       clear hwo hsz
       go_wp2_with fail
       go_loopw [13] (fun jv wr2 => ∃ (k : Nat), a + k ≤ a + 1 ∧ jv = .int .i64 ((a + k : Nat) : Int) ∧ wr2.ownsRow (w.heap.size + 1) 4 1 (.slice (some ⟨g, 0, none⟩) 256 c1) 256 (boolCells (flagsM (orM x (spanTo a k)))) ∧
         Blk wr2 w.heap.size 249 #[.int .u64 0, .int .u64 0, .int .u64 0, .int .u64 0] ∧ Below w.heap.size w wr2 ∧ w.heap.size + 1 ≤ wr2.heap.size) (fun jv _ => a + 1 - (intOf jv).toNat)
       case atStart => exact ⟨0, by omega, rfl, by rw [orM_none]; exact HO.out, HZ.out, HB.out, hs2⟩
       case round =>
        obtain ⟨k, hk, rfl, ho2, hz2, hb2, hsz2⟩ := hrel
        have HZ2 := hid hz2; have HB2 := hid hb2
        clear hz2 hb2 HO HZ HB hs2
        have hol : (boolCells (flagsM (orM x (spanTo a k)))).length = 256 := by rw [boolCells_length, flagsM_length]
        by_cases hlt : a + k ≤ a
        ·have hby : a + k < 256 := by omega
         obtain ⟨u, hu⟩ : ∃ u, (boolCells (flagsM (orM x (spanTo a k))))[a + k]? = some u := ⟨_, List.getElem?_eq_getElem (by rw [hol]; exact hby)⟩
         have hcl : wr.cell? ⟨g, a + k, none⟩ = some u := by rw [ho2.cellAt _ (by omega)]; exact hu
         have hfr := ho2.frozenAt (a + k)
         have HST := hid (ho2.stored (a + k) (.bool true))
         have HPU : Hid ((boolCells (flagsM (orM x (spanTo a k)))).set (a + k) (.bool true) = boolCells (flagsM (orM x (spanTo a (k + 1))))) := by rw [Hid, ← orM_put x a k hby, ← flagsM_put _ _ hby, boolCells_set]
         obtain ⟨i9, hi9⟩ : ∃ i, a + k = i := ⟨_, rfl⟩
         rw [hi9] at hcl hfr HST hlt HPU hby ⊢
         have HI9 := hid hi9
         clear ho2 hol hi9 hu
         go_wp2_with fail
         go_roundw
         case rel =>
          refine ⟨k + 1, by have := HI9.out; omega, by have := HI9.out; go_num, ?_, HZ2.out.set_far (by omega), HB2.out.setCell (by simp; omega) _, by simpa using hsz2⟩
          rw [← HPU.out]; exact HST.out.1
         case measure => simp [intOf]; omega
        ·have hkk : k = a + 1 - a := by omega
         have HO2 : Hid (wr.ownsRow (w.heap.size + 1) 4 1 (.slice (some ⟨g, 0, none⟩) 256 c1) 256 (boolCells (flagsM (orM x (spanTo a (a + 1 - a)))))) := by rw [Hid, ← hkk]; exact ho2
         clear ho2 hol hkk
         go_wp2_with fail
         go_roundw
         case rel => exact ⟨s.size, n', orM x (spanTo a (a + 1 - a)), false, HLE.out, by have := HLT.out; omega, rfl, rfl, HNX.out, HO2.out, HZ2.out, HB2.out, hsz2⟩
         case measure => have := HLT.out; simp [intOf]; omega
      ·skip
       have HNX2 : Hid (rdGo s (n' + 1) (orM x (spanTo a (a + 1 - a))) i1 0 = Q) := by
        have hp : rdPart s i = (spanTo a 1, i1, 0) := by
         simp only [rdPart]; rw [hr1]; simp only; rw [if_neg (by rw [h45]; simp)]
        rw [Hid, ← HNX.out, hp, Nat.add_sub_cancel_left]
       have HLE : Hid (i1 ≤ s.size) := hi1s
       have HLT : Hid (i < i1 ∧ i < s.size ∧ s.size ≤ i + (n' + 1)) := ⟨by omega, by omega, by omega⟩
       clear HNX HR HPX h45 hr1
       have HNX := HNX2
       clear HNX2
       have hby1 := (byteAt_get s i1 h46).symm
       obtain ⟨cb, hcb⟩ : ∃ c, byteAt s i1 = c := ⟨_, rfl⟩
       rw [hcb] at hby1 h47
       have e45 : ((cb : Int) == 45) = false := by rw [beq_eq_false_iff_ne]; omega
       clear hcb
       go_wp2_with fail
       refine (C1.out _).mono ?_
       rintro e w7 ⟨rfl, rfl⟩
       obtain ⟨wo, hwo⟩ : ∃ wo : World, wo = wr := ⟨_, rfl⟩
       rw [← hwo] at HO HZ HB ⊢
       have hs2 : w.heap.size + 1 ≤ wo.heap.size := by rw [hwo]; exact hsz
       clear hwo hsz
       go_wp2_with fail
       go_loopw [13] (fun jv wr2 => ∃ (k : Nat), a + k ≤ a + 1 ∧ jv = .int .i64 ((a + k : Nat) : Int) ∧ wr2.ownsRow (w.heap.size + 1) 4 1 (.slice (some ⟨g, 0, none⟩) 256 c1) 256 (boolCells (flagsM (orM x (spanTo a k)))) ∧
         Blk wr2 w.heap.size 249 #[.int .u64 0, .int .u64 0, .int .u64 0, .int .u64 0] ∧ Below w.heap.size w wr2 ∧ w.heap.size + 1 ≤ wr2.heap.size) (fun jv _ => a + 1 - (intOf jv).toNat)
       case atStart => exact ⟨0, by omega, rfl, by rw [orM_none]; exact HO.out, HZ.out, HB.out, hs2⟩
       case round =>
        obtain ⟨k, hk, rfl, ho2, hz2, hb2, hsz2⟩ := hrel
        have HZ2 := hid hz2; have HB2 := hid hb2
        clear hz2 hb2 HO HZ HB hs2
        have hol : (boolCells (flagsM (orM x (spanTo a k)))).length = 256 := by rw [boolCells_length, flagsM_length]
        by_cases hlt : a + k ≤ a
        ·have hby : a + k < 256 := by omega
         obtain ⟨u, hu⟩ : ∃ u, (boolCells (flagsM (orM x (spanTo a k))))[a + k]? = some u := ⟨_, List.getElem?_eq_getElem (by rw [hol]; exact hby)⟩
         have hcl : wr.cell? ⟨g, a + k, none⟩ = some u := by rw [ho2.cellAt _ (by omega)]; exact hu
         have hfr := ho2.frozenAt (a + k)
         have HST := hid (ho2.stored (a + k) (.bool true))
         have HPU : Hid ((boolCells (flagsM (orM x (spanTo a k)))).set (a + k) (.bool true) = boolCells (flagsM (orM x (spanTo a (k + 1))))) := by rw [Hid, ← orM_put x a k hby, ← flagsM_put _ _ hby, boolCells_set]
         obtain ⟨i9, hi9⟩ : ∃ i, a + k = i := ⟨_, rfl⟩
         rw [hi9] at hcl hfr HST hlt HPU hby ⊢
         have HI9 := hid hi9
         clear ho2 hol hi9 hu
         go_wp2_with fail
         go_roundw
         case rel =>
          refine ⟨k + 1, by have := HI9.out; omega, by have := HI9.out; go_num, ?_, HZ2.out.set_far (by omega), HB2.out.setCell (by simp; omega) _, by simpa using hsz2⟩
          rw [← HPU.out]; exact HST.out.1
         case measure => simp [intOf]; omega
        ·have hkk : k = a + 1 - a := by omega
         have HO2 : Hid (wr.ownsRow (w.heap.size + 1) 4 1 (.slice (some ⟨g, 0, none⟩) 256 c1) 256 (boolCells (flagsM (orM x (spanTo a (a + 1 - a)))))) := by rw [Hid, ← hkk]; exact ho2
         clear ho2 hol hkk
         go_wp2_with fail
         go_roundw
         case rel => exact ⟨i1, n', orM x (spanTo a (a + 1 - a)), false, HLE.out, by have := HLT.out; omega, rfl, rfl, HNX.out, HO2.out, HZ2.out, HB2.out, hsz2⟩
         case measure => have := HLT.out; simp [intOf]; omega
     ·obtain ⟨h46, h47⟩ := isM_true h45
      have hby1 := (byteAt_get s i1 h46).symm
      rw [h47] at hby1
      go_wp2_with fail
      refine (C1.out _).mono ?_
      rintro e w7 ⟨rfl, rfl⟩
      rcases one_sign s (i1 + 1) (by omega) with h2 | h2
      ·obtain ⟨he2, ho2, hlt2, hi2s⟩ := h2
       obtain ⟨⟨b, i2, e2⟩, hr2⟩ : ∃ t, rdSign s (i1 + 1) 0 = t := ⟨_, rfl⟩
       have hb256 : b < 256 := by have := rdSign_byte s (i1 + 1) 0; rw [hr2] at this; exact this
       rw [hr2] at he2 ho2 hlt2 hi2s
       simp only at he2 ho2 hlt2 hi2s
       subst he2
       have C2 := hid (fun W => one_any (tailOf s (i1 + 1)) (by rw [tailOf_size]; omega) W)
       rw [ho2] at C2
       unfold tailOf at C2
       obtain ⟨j1, hj1⟩ : ∃ j, i1 + 1 = j := ⟨_, rfl⟩
       have hj1' : ((i1 : Int) + 1) = (j1 : Int) := by omega
       have hj1s : j1 ≤ s.size := by omega
       obtain ⟨d2, hd2⟩ : ∃ d, i2 - j1 = d := ⟨_, rfl⟩
       have hd2' : ((j1 : Int) + (d2 : Int)) = (i2 : Int) := by omega
       rw [hj1, hd2] at C2
       have HJ1 := hid hj1
       clear hd2 hj1 ho2
       by_cases hba : b < a
       ·skip
        have HE : Hid (readC s = (BSet.zero, i2 - 1, 12)) := by
         have hp : rdPart s i = (spanTo a (b + 1 - a), i2 - 1, 12) := by
          simp only [rdPart]; rw [hr1]; simp only; rw [if_pos ⟨trivial, h45⟩, hr2]; simp only; rw [if_pos ⟨trivial, hba⟩]
         have hq : Q = (orM x (spanTo a (b + 1 - a)), i2 - 1, 12) := by rw [← HNX.out, hp, rdGo_bad _ _ _ _ _ (show (12 : Nat) ≠ 0 by decide)]
         rw [Hid, HR.out, hq, if_neg (show ¬ (12 : Nat) = 0 by decide)]
        obtain ⟨j3, hj3⟩ : ∃ j, i2 - 1 = j := ⟨_, rfl⟩
        have hj3' : ((i2 : Int) - 1) = (j3 : Int) := by omega
        rw [hj3] at HE
        clear hj3 HNX HR HPX
        go_wp2_with fail
        refine (C2.out _).mono ?_
        rintro e w7 ⟨rfl, rfl⟩
        obtain ⟨k0, k1, k2, k3, f0, f1, f2, f3⟩ := blk4 HZ.out
        have HZ9 := hid (blk_put4 (b0 := .int .u64 0) (b1 := .int .u64 0) (b2 := .int .u64 0) (b3 := .int .u64 0) HZ.out)
        have HB9 := hid (below_put4 (g := w.heap.size) HB.out (Nat.le_refl _) (.int .u64 0) (.int .u64 0) (.int .u64 0) (.int .u64 0))
        go_wp2_with fail
        obtain ⟨z0, z1, z2, z3, -, -, -, -⟩ := blk4 HZ9.out
        exact bodyPost_ret (v := .tuple #[.agg #[.int .u64 0, .int .u64 0, .int .u64 0, .int .u64 0], .int .i64 (j3 : Int), .int .i64 12]) (by simp [results, Tryz.results224, go_sem, z0, z1, z2, z3]) rfl ⟨by rw [HE.out]; rfl, HB9.out⟩
       ·skip
        have HNX2 : Hid (rdGo s (n' + 1) (orM x (spanTo a (b + 1 - a))) i2 0 = Q) := by
         have hp : rdPart s i = (spanTo a (b + 1 - a), i2, 0) := by
          simp only [rdPart]; rw [hr1]; simp only; rw [if_pos ⟨trivial, h45⟩, hr2]; simp only; rw [if_neg (by rintro ⟨-, h'⟩; exact hba h')]
         rw [Hid, ← HNX.out, hp]
        have HLE : Hid (i2 ≤ s.size) := hi2s
        have HLT : Hid (i < i2 ∧ i < s.size ∧ s.size ≤ i + (n' + 1)) := ⟨by omega, by omega, by omega⟩
        clear HNX HR HPX
        have HNX := HNX2
        clear HNX2
        go_wp2_with fail
        refine (C2.out _).mono ?_
        rintro e w7 ⟨rfl, rfl⟩
        obtain ⟨wo, hwo⟩ : ∃ wo : World, wo = wr := ⟨_, rfl⟩
        rw [← hwo] at HO HZ HB ⊢
        have hs2 : w.heap.size + 1 ≤ wo.heap.size := by rw [hwo]; exact hsz
        clear hwo hsz
        go_wp2_with fail
        go_loopw [13] (fun jv wr2 => ∃ (k : Nat), a + k ≤ b + 1 ∧ jv = .int .i64 ((a + k : Nat) : Int) ∧ wr2.ownsRow (w.heap.size + 1) 4 1 (.slice (some ⟨g, 0, none⟩) 256 c1) 256 (boolCells (flagsM (orM x (spanTo a k)))) ∧
          Blk wr2 w.heap.size 249 #[.int .u64 0, .int .u64 0, .int .u64 0, .int .u64 0] ∧ Below w.heap.size w wr2 ∧ w.heap.size + 1 ≤ wr2.heap.size) (fun jv _ => b + 1 - (intOf jv).toNat)
        case atStart => exact ⟨0, by omega, rfl, by rw [orM_none]; exact HO.out, HZ.out, HB.out, hs2⟩
        case round =>
         obtain ⟨k, hk, rfl, ho2, hz2, hb2, hsz2⟩ := hrel
         have HZ2 := hid hz2; have HB2 := hid hb2
         clear hz2 hb2 HO HZ HB hs2
         have hol : (boolCells (flagsM (orM x (spanTo a k)))).length = 256 := by rw [boolCells_length, flagsM_length]
         by_cases hlt : a + k ≤ b
         ·have hby : a + k < 256 := by omega
          obtain ⟨u, hu⟩ : ∃ u, (boolCells (flagsM (orM x (spanTo a k))))[a + k]? = some u := ⟨_, List.getElem?_eq_getElem (by rw [hol]; exact hby)⟩
          have hcl : wr.cell? ⟨g, a + k, none⟩ = some u := by rw [ho2.cellAt _ (by omega)]; exact hu
          have hfr := ho2.frozenAt (a + k)
          have HST := hid (ho2.stored (a + k) (.bool true))
          have HPU : Hid ((boolCells (flagsM (orM x (spanTo a k)))).set (a + k) (.bool true) = boolCells (flagsM (orM x (spanTo a (k + 1))))) := by rw [Hid, ← orM_put x a k hby, ← flagsM_put _ _ hby, boolCells_set]
          obtain ⟨i9, hi9⟩ : ∃ i, a + k = i := ⟨_, rfl⟩
          rw [hi9] at hcl hfr HST hlt HPU hby ⊢
          have HI9 := hid hi9
          clear ho2 hol hi9 hu
          go_wp2_with fail
          go_roundw
          case rel =>
           refine ⟨k + 1, by have := HI9.out; omega, by have := HI9.out; go_num, ?_, HZ2.out.set_far (by omega), HB2.out.setCell (by simp; omega) _, by simpa using hsz2⟩
           rw [← HPU.out]; exact HST.out.1
          case measure => simp [intOf]; omega
         ·have hkk : k = b + 1 - a := by omega
          have HO2 : Hid (wr.ownsRow (w.heap.size + 1) 4 1 (.slice (some ⟨g, 0, none⟩) 256 c1) 256 (boolCells (flagsM (orM x (spanTo a (b + 1 - a)))))) := by rw [Hid, ← hkk]; exact ho2
          clear ho2 hol hkk
          go_wp2_with fail
          go_roundw
          case rel => exact ⟨i2, n', orM x (spanTo a (b + 1 - a)), false, HLE.out, by have := HLT.out; omega, rfl, rfl, HNX.out, HO2.out, HZ2.out, HB2.out, hsz2⟩
          case measure => have := HLT.out; simp [intOf]; omega
      ·skip
       obtain ⟨-, n2, ho2, hle2, hr2⟩ := h2
       have HE : Hid (readC s = (BSet.zero, i1 + 1 + n2, stopE s (i1 + 1 + n2))) := by
        have hp : rdPart s i = (spanTo a (0 + 1 - a), i1 + 1 + n2, stopE s (i1 + 1 + n2)) := by
         simp only [rdPart]; rw [hr1]; simp only; rw [if_pos ⟨trivial, h45⟩, hr2, if_neg (by rintro ⟨h', -⟩; exact stopE_pos _ _ h')]
        have hq : Q = (orM x (spanTo a (0 + 1 - a)), i1 + 1 + n2, stopE s (i1 + 1 + n2)) := by rw [← HNX.out, hp, rdGo_bad _ _ _ _ _ (stopE_pos _ _)]
        rw [Hid, HR.out, hq, if_neg (stopE_pos _ _)]
       have C2 := hid (fun W => one_any (tailOf s (i1 + 1)) (by rw [tailOf_size]; omega) W)
       rw [ho2] at C2
       unfold tailOf at C2
       obtain ⟨j1, hj1⟩ : ∃ j, i1 + 1 = j := ⟨_, rfl⟩
       have hj1' : ((i1 : Int) + 1) = (j1 : Int) := by omega
       obtain ⟨j2, hj2⟩ : ∃ j, j1 + n2 = j := ⟨_, rfl⟩
       have hj2' : ((j1 : Int) + (n2 : Int)) = (j2 : Int) := by omega
       rw [hj1] at C2 HE hle2
       rw [hj2] at HE hle2
       have hj1s : j1 ≤ s.size := by omega
       clear hj1 hj2 HNX HR HPX
       go_wp2_with fail
       refine (C2.out _).mono ?_
       rintro e w7 ⟨rfl, rfl⟩
       go_wp2_with fail
       refine (stopR_any s j2 hle2 hs _).mono ?_
       rintro e w8 ⟨rfl, hb8⟩
       have HZ8 : Hid (Blk w8 w.heap.size 249 #[.int .u64 0, .int .u64 0, .int .u64 0, .int .u64 0]) := HZ.out.below hb8 HZ.out.lt
       have HB8 : Hid (Below w.heap.size w w8) := HB.out.trans (hb8.mono HB.out.size)
       clear hb8
       obtain ⟨k0, k1, k2, k3, f0, f1, f2, f3⟩ := blk4 HZ8.out
       have HZ9 := hid (blk_put4 (b0 := .int .u64 0) (b1 := .int .u64 0) (b2 := .int .u64 0) (b3 := .int .u64 0) HZ8.out)
       have HB9 := hid (below_put4 (g := w.heap.size) HB8.out (Nat.le_refl _) (.int .u64 0) (.int .u64 0) (.int .u64 0) (.int .u64 0))
       go_wp2_with fail
       obtain ⟨z0, z1, z2, z3, -, -, -, -⟩ := blk4 HZ9.out
       exact bodyPost_ret (v := .tuple #[.agg #[.int .u64 0, .int .u64 0, .int .u64 0, .int .u64 0], .int .i64 (j2 : Int), .int .i64 (stopE s j2 : Nat)]) (by simp [results, Tryz.results224, go_sem, z0, z1, z2, z3]) rfl ⟨by rw [HE.out]; rfl, HB9.out⟩
    ·skip
     obtain ⟨-, n1, ho1, hle1, hr1⟩ := h1
     have HE : Hid (readC s = (BSet.zero, i + n1, stopE s (i + n1))) := by
      have hp : rdPart s i = (spanTo 0 1, i + n1, stopE s (i + n1)) := by
       simp only [rdPart]; rw [hr1]; simp only; rw [if_neg (by rintro ⟨h', -⟩; exact stopE_pos _ _ h')]
      have hq : Q = (orM x (spanTo 0 1), i + n1, stopE s (i + n1)) := by rw [← HPX.out, hp, rdGo_bad _ _ _ _ _ (stopE_pos _ _)]
      rw [Hid, HR.out, hq, if_neg (stopE_pos _ _)]
     have C1 := hid (fun W => one_any (tailOf s i) (by rw [tailOf_size]; omega) W)
     rw [ho1] at C1
     unfold tailOf at C1
     obtain ⟨j1, hj1⟩ : ∃ j, i + n1 = j := ⟨_, rfl⟩
     have hj1' : ((i : Int) + (n1 : Int)) = (j1 : Int) := by omega
     rw [hj1] at HE hle1
     clear hj1 HR HPX
     go_wp2_with fail
     refine (C1.out _).mono ?_
     rintro e w7 ⟨rfl, rfl⟩
     go_wp2_with fail
     refine (stopR_any s j1 hle1 hs _).mono ?_
     rintro e w8 ⟨rfl, hb8⟩
     have HZ8 : Hid (Blk w8 w.heap.size 249 #[.int .u64 0, .int .u64 0, .int .u64 0, .int .u64 0]) := HZ.out.below hb8 HZ.out.lt
     have HB8 : Hid (Below w.heap.size w w8) := HB.out.trans (hb8.mono HB.out.size)
     clear hb8
     obtain ⟨k0, k1, k2, k3, f0, f1, f2, f3⟩ := blk4 HZ8.out
     have HZ9 := hid (blk_put4 (b0 := .int .u64 0) (b1 := .int .u64 0) (b2 := .int .u64 0) (b3 := .int .u64 0) HZ8.out)
     have HB9 := hid (below_put4 (g := w.heap.size) HB8.out (Nat.le_refl _) (.int .u64 0) (.int .u64 0) (.int .u64 0) (.int .u64 0))
     go_wp2_with fail
     obtain ⟨z0, z1, z2, z3, -, -, -, -⟩ := blk4 HZ9.out
     exact bodyPost_ret (v := .tuple #[.agg #[.int .u64 0, .int .u64 0, .int .u64 0, .int .u64 0], .int .i64 (j1 : Int), .int .i64 (stopE s j1 : Nat)]) (by simp [results, Tryz.results224, go_sem, z0, z1, z2, z3]) rfl ⟨by rw [HE.out]; rfl, HB9.out⟩
end Go.Proofs.YtpkkfdmhbbipoaaGreat
