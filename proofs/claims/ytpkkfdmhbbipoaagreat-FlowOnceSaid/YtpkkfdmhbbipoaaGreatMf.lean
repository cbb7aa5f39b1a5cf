/- Plain: a pattern's text, read. Walks: glob.single, item. Walks: glob.Parse. Walks: the reference's one and stop (of a set's text). Walks: the reference's Read (a set's text). -/
import Derived.Test.YtpkkfdmhbbipoaaGreatMe
import Derived.Test.YtpkkfdmhbbipoaaGreatMb
import Derived.Deep.CutRange
import Derived.OwnWalk
import Derived.Test.YtpkkfdmhbbipoaaGreatMc
namespace Go.Proofs.YtpkkfdmhbbipoaaGreat
open Go.RowKit
theorem rdGo_le (s : ByteArray) (n : Nat) (x : BSet) (i e : Nat) (hi : i ≤ s.size) : (rdGo s n x i e).2.1 ≤ s.size := by
 induction n generalizing x i e with
 | zero => exact hi
 | succ n ih =>
  rw [rdGo]
  split
  ·exact ih _ _ _ (rdPart_le s i hi)
  ·exact hi
theorem rdGo_ok (s : ByteArray) (n : Nat) (x : BSet) (i e : Nat) (hi : i ≤ s.size) (hf : e = 0 → s.size + 1 ≤ i + n) (h : (rdGo s n x i e).2.2 = 0) : isM s (rdGo s n x i e).2.1 93 = true := by
 induction n generalizing x i e with
 | zero => exact absurd (hf h) (by omega)
 | succ n ih =>
  rw [rdGo] at h ⊢
  by_cases hc : e = 0 ∧ isM s i 93 = false
  ·rw [if_pos hc] at h ⊢
   refine ih _ _ _ (rdPart_le s i hi) (fun h0 => ?_) h
   have := rdPart_go s i h0
   have := hf hc.1
   omega
  ·rw [if_neg hc] at h ⊢
   simp only at h ⊢
   subst h
   simpa using hc
theorem stopAt_le (s : ByteArray) (i : Nat) : stopAt s i ≤ s.size := by unfold stopAt; split <;> omega
theorem readC_le (s : ByteArray) : (readC s).2.1 ≤ s.size ∧ ((readC s).2.2 = 0 → 0 < (readC s).2.1) := by
 have key : (rdWhole s).2.1 ≤ s.size ∧ ((rdWhole s).2.2 = 0 → 0 < (rdWhole s).2.1) := by
  unfold rdWhole
  split
  ·rename_i h91
   have h1 : 1 ≤ s.size := isM_lt h91
   have hi0 : (if isM s 1 94 = true then 2 else 1) ≤ s.size := by
    split
    ·rename_i h; have := isM_lt h; omega
    ·exact h1
   generalize (if isM s 1 94 = true then 2 else 1) = i0 at *
   have hp := rdPart_le s i0 hi0
   have hg := rdGo_le s (s.size + 1) (rdPart s i0).1 _ (rdPart s i0).2.2 hp
   have ho := rdGo_ok s (s.size + 1) (rdPart s i0).1 _ (rdPart s i0).2.2 hp (fun _ => by omega)
   simp only
   generalize rdGo s (s.size + 1) (rdPart s i0).1 (rdPart s i0).2.1 (rdPart s i0).2.2 = q at *
   by_cases hq : q.2.2 = 0
   ·rw [if_pos hq]
    have := isM_lt (ho hq)
    exact ⟨by simp only; omega, fun _ => by simp only; omega⟩
   ·rw [if_neg hq]
    exact ⟨hg, fun h => absurd h hq⟩
  ·exact ⟨stopAt_le s 0, fun h => absurd h (stopE_pos s 0)⟩
 unfold readC
 split
 ·rename_i h; exact ⟨key.1, fun _ => key.2 h⟩
 ·rename_i h; exact ⟨key.1, fun h' => absurd h' h⟩
def byteAt (s : ByteArray) (i : Nat) : Nat := (s.data.toList.getD i 0).toNat
def tailOf (s : ByteArray) (i : Nat) : ByteArray := s.extract i s.size
theorem tailOf_size (s : ByteArray) (i : Nat) : (tailOf s i).size = s.size - i := by unfold tailOf; rw [ByteArray.size_extract]; omega
theorem byteAt_lt (s : ByteArray) (i : Nat) : byteAt s i < 256 := UInt8.toNat_lt _
theorem byteAt_get (s : ByteArray) (i : Nat) (h : i < s.size) : byteAt s i = (s[i]).toNat := by
 unfold byteAt
 rw [List.getD, List.getElem?_eq_getElem (by simpa using h)]; rfl
def itemP (q : ByteArray) : Item × Nat × Nat :=
 if byteAt q 0 = 42 then (⟨true, BSet.zero⟩, 1, 0)
 else if byteAt q 0 = 63 then (⟨false, spanTo 0 256⟩, 1, 0)
 else if byteAt q 0 = 91 then (⟨false, (readC q).1⟩, (readC q).2.1, (readC q).2.2)
 else if byteAt q 0 = 93 then (⟨false, BSet.zero⟩, 0, 2)
 else if byteAt q 0 = 37 then (if q.size = 1 then (⟨false, BSet.zero⟩, 1, 3) else (⟨false, spanTo (byteAt q 1) 1⟩, 2, 0))
 else (⟨false, spanTo (byteAt q 0) 1⟩, 1, 0)
theorem itemP_le (q : ByteArray) (h : 0 < q.size) : (itemP q).2.1 ≤ q.size ∧ ((itemP q).2.2 = 0 → 0 < (itemP q).2.1) := by
 unfold itemP
 have hr := readC_le q
 repeat' split
 ·exact ⟨h, fun _ => Nat.one_pos⟩
 ·exact ⟨h, fun _ => Nat.one_pos⟩
 ·exact hr
 ·exact ⟨Nat.zero_le _, fun h => by cases h⟩
 ·exact ⟨h, fun h => by cases h⟩
 ·exact ⟨by simp only; omega, fun _ => Nat.succ_pos _⟩
 ·exact ⟨h, fun _ => Nat.one_pos⟩
theorem itemP_good (q : ByteArray) : (itemP q).1.run = true → (itemP q).1.set = BSet.zero := by
 unfold itemP
 split
 ·intro _; rfl
 ·split
  ·intro h; exact absurd h (by simp)
  ·split
   ·intro h; exact absurd h (by simp)
   ·split
    ·intro _; rfl
    ·split
     ·split
      ·intro _; rfl
      ·intro h; exact absurd h (by simp)
     ·intro h; exact absurd h (by simp)
def parseP (p : ByteArray) : Nat → List Item → Nat → List Item × Nat × Nat
 | 0, out, _ => (out, 0, 0)
 | f + 1, out, a =>
  if a < p.size then
   if out.length = 60 then ([], a, 4)
   else if (itemP (tailOf p a)).2.2 = 0 then parseP p f (out ++ [(itemP (tailOf p a)).1]) (a + (itemP (tailOf p a)).2.1)
   else ([], a + (itemP (tailOf p a)).2.1, (itemP (tailOf p a)).2.2)
  else (out, 0, 0)
def parseM (p : ByteArray) : List Item × Nat × Nat := parseP p 61 [] 0
theorem parseP_end (p : ByteArray) (f : Nat) (out : List Item) (a : Nat) (h : ¬ a < p.size) : parseP p f out a = (out, 0, 0) := by
 cases f with
 | zero => rfl
 | succ f => rw [parseP, if_neg h]
theorem parseP_good (p : ByteArray) (f : Nat) (out : List Item) (a : Nat) (hl : out.length + f ≤ 61) (hf : 1 ≤ f) (hg : ∀ x ∈ out, x.run = true → x.set = BSet.zero) :
  (parseP p f out a).1.length ≤ 60 ∧ ∀ x ∈ (parseP p f out a).1, x.run = true → x.set = BSet.zero := by
 induction f generalizing out a with
 | zero => omega
 | succ f ih =>
  rw [parseP]
  split
  ·split
   ·exact ⟨by simp, by simp⟩
   ·split
    ·by_cases h1 : 1 ≤ f
     ·refine ih _ _ (by simp; omega) h1 ?_
      intro x hx
      rcases List.mem_append.1 hx with hx | hx
      ·exact hg x hx
      ·rw [List.mem_singleton] at hx
       subst hx; exact itemP_good _
     ·obtain rfl : f = 0 := by omega
      rename_i h60 _
      refine ⟨by simp only [parseP, List.length_append, List.length_cons, List.length_nil]; omega, ?_⟩
      intro x hx
      rcases List.mem_append.1 hx with hx | hx
      ·exact hg x hx
      ·rw [List.mem_singleton] at hx
       subst hx; exact itemP_good _
    ·exact ⟨by simp, by simp⟩
  ·exact ⟨by simp only; omega, hg⟩
open PopT
theorem blk5 {W : World} {g : Nat} {t : TypeId} {a0 a1 a2 a3 a4 : Value} (h : Blk W g t #[a0, a1, a2, a3, a4]) : W.cell? ⟨g, 0, none⟩ = some a0 ∧ W.cell? ⟨g, 1, none⟩ = some a1 ∧ W.cell? ⟨g, 2, none⟩ = some a2 ∧ W.cell? ⟨g, 3, none⟩ = some a3 ∧ W.cell? ⟨g, 4, none⟩ = some a4 ∧
  W.frozen? ⟨g, 0, none⟩ = false ∧ W.frozen? ⟨g, 1, none⟩ = false ∧ W.frozen? ⟨g, 2, none⟩ = false ∧ W.frozen? ⟨g, 3, none⟩ = false ∧ W.frozen? ⟨g, 4, none⟩ = false :=
 ⟨h.cell 0, h.cell 1, h.cell 2, h.cell 3, h.cell 4, h.frozen 0, h.frozen 1, h.frozen 2, h.frozen 3, h.frozen 4⟩
theorem blk_put5 {W : World} {g : Nat} {t : TypeId} {a0 a1 a2 a3 a4 b0 b1 b2 b3 b4 : Value} (h : Blk W g t #[a0, a1, a2, a3, a4]) : Blk (((((W.setCell ⟨g, 0, none⟩ b0).setCell ⟨g, 1, none⟩ b1).setCell ⟨g, 2, none⟩ b2).setCell ⟨g, 3, none⟩ b3).setCell ⟨g, 4, none⟩ b4) g t #[b0, b1, b2, b3, b4] :=
 ((((h.set 0 b0).set 1 b1).set 2 b2).set 3 b3).set 4 b4
theorem below_put5 {B : Nat} {w W : World} {g : Nat} (h : Below B w W) (hg : B ≤ g) (b0 b1 b2 b3 b4 : Value) : Below B w (((((W.setCell ⟨g, 0, none⟩ b0).setCell ⟨g, 1, none⟩ b1).setCell ⟨g, 2, none⟩ b2).setCell ⟨g, 3, none⟩ b3).setCell ⟨g, 4, none⟩ b4) :=
 ((((h.setCell hg _).setCell hg _).setCell hg _).setCell hg _).setCell hg _
set_option maxRecDepth 20000 in
set_option maxHeartbeats 400000 in
theorem single_any (b : Nat) (hb : b < 256) (w : World) :
  Calls Tryz.prog 230 #[.int .u8 (b : Int)] w fun e w' => e = .returned (spanTo b 1).val ∧ Below w.heap.size w w' := by
 have HC := hid (fun W => spanC_any b b hb hb W)
 rw [Nat.add_sub_cancel_left] at HC
 obtain ⟨t, ht⟩ : ∃ t, spanTo b 1 = t := ⟨_, rfl⟩
 rw [ht] at HC ⊢
 clear ht
 obtain ⟨r0, r1, r2, r3⟩ := t
 unfold BSet.val at HC ⊢
 go_enter Tryz.func230, Tryz.ntmps230
 go_wp2_with fail
 refine (HC.out _).mono ?_
 rintro e w1 ⟨rfl, hb1⟩
 have HX1 : Hid (Blk w1 w.heap.size 249 #[.int .u64 0, .int .u64 0, .int .u64 0, .int .u64 0]) := (Blk.new w _ _).below hb1 (by simp)
 have HB1 : Hid (Below w.heap.size w w1) := ((Below.refl w.heap.size w).alloc (Nat.le_refl _) _).trans (hb1.mono (by simp))
 clear hb1 HC
 obtain ⟨c0, c1, c2, c3, g0, g1, g2, g3⟩ := blk4 HX1.out
 have HZ := hid (blk_put4 (b0 := w64 r0) (b1 := w64 r1) (b2 := w64 r2) (b3 := w64 r3) HX1.out)
 have HR := hid (below_put4 (g := w.heap.size) HB1.out (Nat.le_refl _) (w64 r0) (w64 r1) (w64 r2) (w64 r3))
 go_wp2_with fail
 obtain ⟨z0, z1, z2, z3, -, -, -, -⟩ := blk4 HZ.out
 exact bodyPost_ret (v := .agg #[w64 r0, w64 r1, w64 r2, w64 r3]) (by simp [results, Tryz.results230, go_sem, z0, z1, z2, z3]) rfl ⟨rfl, HR.out⟩
theorem itemP_eq (q : ByteArray) : itemP q = if byteAt q 0 = 42 then (⟨true, BSet.zero⟩, 1, 0)
 else if byteAt q 0 = 63 then (⟨false, spanTo 0 256⟩, 1, 0)
 else if byteAt q 0 = 91 then (⟨false, (readC q).1⟩, (readC q).2.1, (readC q).2.2)
 else if byteAt q 0 = 93 then (⟨false, BSet.zero⟩, 0, 2)
 else if byteAt q 0 = 37 then (if q.size = 1 then (⟨false, BSet.zero⟩, 1, 3) else (⟨false, spanTo (byteAt q 1) 1⟩, 2, 0))
 else (⟨false, spanTo (byteAt q 0) 1⟩, 1, 0) := rfl
set_option maxRecDepth 20000 in
set_option maxHeartbeats 2000000 in
theorem item_any (q : ByteArray) (hq : 0 < q.size) (hs : q.size ≤ 1000000) (w : World) :
  Calls Tryz.prog 219 #[.string q] w fun e w' => e = .returned (.tuple #[(itemP q).1.val, .int .i64 ((itemP q).2.1 : Nat), .int .i64 ((itemP q).2.2 : Nat)]) ∧ Below w.heap.size w w' := by
 have hc0 := (byteAt_get q 0 hq).symm
 have hc8 := byteAt_lt q 0
 have HP := itemP_eq q
 obtain ⟨c, hc⟩ : ∃ c, byteAt q 0 = c := ⟨_, rfl⟩
 rw [hc] at hc0 hc8 HP
 clear hc
 have HP := hid HP
 have HB0 : Hid (Below w.heap.size w (w.alloc (.cells #[.bool false, .int .u64 0, .int .u64 0, .int .u64 0, .int .u64 0] 251))) := (Below.refl w.heap.size w).alloc (Nat.le_refl _) _
 have HX0 : Hid (Blk (w.alloc (.cells #[.bool false, .int .u64 0, .int .u64 0, .int .u64 0, .int .u64 0] 251)) w.heap.size 251 #[.bool false, .int .u64 0, .int .u64 0, .int .u64 0, .int .u64 0]) := Blk.new w _ _
 by_cases h0 : c = 42
 ·have e0 : ((c : Int) == 42) = true := by rw [beq_iff_eq]; omega
  have HE : Hid (itemP q = (⟨true, BSet.zero⟩, 1, 0)) := by rw [Hid, HP.out, if_pos h0]
  clear HP
  have HR : Hid (Below w.heap.size w (w.alloc (.cells #[.bool true, .int .u64 0, .int .u64 0, .int .u64 0, .int .u64 0] 251))) := (Below.refl w.heap.size w).alloc (Nat.le_refl _) _
  go_enter Tryz.func219, Tryz.ntmps219
  go_wp2_with fail
  exact bodyPost_ret (v := .tuple #[.agg #[.bool true, .int .u64 0, .int .u64 0, .int .u64 0, .int .u64 0], .int .i64 1, .int .i64 0]) (by simp [results, Tryz.results219, go_sem]) rfl ⟨by rw [HE.out]; rfl, HR.out⟩
 ·have e0 : ((c : Int) == 42) = false := by rw [beq_eq_false_iff_ne]; omega
  by_cases h1 : c = 63
  ·have e1 : ((c : Int) == 63) = true := by rw [beq_iff_eq]; omega
   have HE : Hid (itemP q = (⟨false, spanTo 0 256⟩, 1, 0)) := by rw [Hid, HP.out, if_neg h0, if_pos h1]
   have HC := hid (fun W => spanC_any 0 255 (by omega) (by omega) W)
   rw [show 255 + 1 - 0 = 256 from rfl] at HC
   obtain ⟨t, ht⟩ : ∃ t, spanTo 0 256 = t := ⟨_, rfl⟩
   rw [ht] at HC HE
   clear ht HP
   obtain ⟨r0, r1, r2, r3⟩ := t
   unfold BSet.val at HC
   go_enter Tryz.func219, Tryz.ntmps219
   go_wp2_with fail
   refine (HC.out _).mono ?_
   rintro e w1 ⟨rfl, hb1⟩
   have HX1 : Hid (Blk w1 w.heap.size 251 #[.bool false, .int .u64 0, .int .u64 0, .int .u64 0, .int .u64 0]) := HX0.out.below hb1 HX0.out.lt
   have HB1 : Hid (Below w.heap.size w w1) := HB0.out.trans (hb1.mono HB0.out.size)
   clear hb1 HX0 HB0
   obtain ⟨k0, k1, k2, k3, k4, g0, g1, g2, g3, g4⟩ := blk5 HX1.out
   have HZ := hid (blk_put5 (b0 := .bool false) (b1 := w64 r0) (b2 := w64 r1) (b3 := w64 r2) (b4 := w64 r3) HX1.out)
   have HR := hid (below_put5 (g := w.heap.size) HB1.out (Nat.le_refl _) (.bool false) (w64 r0) (w64 r1) (w64 r2) (w64 r3))
   go_wp2_with fail
   obtain ⟨z0, z1, z2, z3, z4, -, -, -, -, -⟩ := blk5 HZ.out
   exact bodyPost_ret (v := .tuple #[.agg #[.bool false, w64 r0, w64 r1, w64 r2, w64 r3], .int .i64 1, .int .i64 0]) (by simp [results, Tryz.results219, go_sem, z0, z1, z2, z3, z4]) rfl ⟨by rw [HE.out]; rfl, HR.out⟩
  ·have e1 : ((c : Int) == 63) = false := by rw [beq_eq_false_iff_ne]; omega
   by_cases h2 : c = 91
   ·have e2 : ((c : Int) == 91) = true := by rw [beq_iff_eq]; omega
    have HE : Hid (itemP q = (⟨false, (readC q).1⟩, (readC q).2.1, (readC q).2.2)) := by rw [Hid, HP.out, if_neg h0, if_neg h1, if_pos h2]
    have HC := hid (fun W => readC_any q W hs)
    obtain ⟨⟨t, n, e⟩, ht⟩ : ∃ t, readC q = t := ⟨_, rfl⟩
    rw [ht] at HC HE
    clear ht HP
    obtain ⟨r0, r1, r2, r3⟩ := t
    unfold BSet.val at HC
    simp only at HC HE
    go_enter Tryz.func219, Tryz.ntmps219
    go_wp2_with fail
    refine (HC.out _).mono ?_
    rintro e w1 ⟨rfl, hb1⟩
    have HX1 : Hid (Blk w1 w.heap.size 251 #[.bool false, .int .u64 0, .int .u64 0, .int .u64 0, .int .u64 0]) := HX0.out.below hb1 HX0.out.lt
    have HB1 : Hid (Below w.heap.size w w1) := HB0.out.trans (hb1.mono HB0.out.size)
    clear hb1 HX0 HB0
    have HX2 : Hid (Blk (w1.alloc (.cells #[w64 r0, w64 r1, w64 r2, w64 r3] 249)) w.heap.size 251 #[.bool false, .int .u64 0, .int .u64 0, .int .u64 0, .int .u64 0]) := HX1.out.alloc _
    have HB2 : Hid (Below w.heap.size w (w1.alloc (.cells #[w64 r0, w64 r1, w64 r2, w64 r3] 249))) := HB1.out.alloc HB1.out.size _
    have hlt1 := HX1.out.lt
    have HY2 : Hid (Blk (w1.alloc (.cells #[w64 r0, w64 r1, w64 r2, w64 r3] 249)) w1.heap.size 249 #[w64 r0, w64 r1, w64 r2, w64 r3]) := Blk.new w1 _ _
    go_upto_region 8 with fail
    obtain ⟨w2, hw2⟩ : ∃ w2, (w1.alloc (.cells #[w64 r0, w64 r1, w64 r2, w64 r3] 249)) = w2 := ⟨_, rfl⟩
    rw [hw2] at HX2 HB2 HY2 ⊢
    clear hw2 HX1 HB1
    obtain ⟨y0, y1, y2, y3, -, -, -, -⟩ := blk4 HY2.out
    obtain ⟨k0, k1, k2, k3, k4, g0, g1, g2, g3, g4⟩ := blk5 HX2.out
    have HZ := hid (blk_put5 (b0 := .bool false) (b1 := w64 r0) (b2 := w64 r1) (b3 := w64 r2) (b4 := w64 r3) HX2.out)
    have HR := hid (below_put5 (g := w.heap.size) HB2.out (Nat.le_refl _) (.bool false) (w64 r0) (w64 r1) (w64 r2) (w64 r3))
    go_wp2_with fail
    obtain ⟨z0, z1, z2, z3, z4, -, -, -, -, -⟩ := blk5 HZ.out
    exact bodyPost_ret (v := .tuple #[.agg #[.bool false, w64 r0, w64 r1, w64 r2, w64 r3], .int .i64 (n : Int), .int .i64 (e : Int)]) (by simp [results, Tryz.results219, go_sem, z0, z1, z2, z3, z4]) rfl ⟨by rw [HE.out]; rfl, HR.out⟩
   ·have e2 : ((c : Int) == 91) = false := by rw [beq_eq_false_iff_ne]; omega
    by_cases h3 : c = 93
    ·have e3 : ((c : Int) == 93) = true := by rw [beq_iff_eq]; omega
     have HE : Hid (itemP q = (⟨false, BSet.zero⟩, 0, 2)) := by rw [Hid, HP.out, if_neg h0, if_neg h1, if_neg h2, if_pos h3]
     clear HP
     have HR : Hid (Below w.heap.size w (w.alloc (.cells #[.bool false, .int .u64 0, .int .u64 0, .int .u64 0, .int .u64 0] 251))) := (Below.refl w.heap.size w).alloc (Nat.le_refl _) _
     go_enter Tryz.func219, Tryz.ntmps219
     go_wp2_with fail
     exact bodyPost_ret (v := .tuple #[.agg #[.bool false, .int .u64 0, .int .u64 0, .int .u64 0, .int .u64 0], .int .i64 0, .int .i64 2]) (by simp [results, Tryz.results219, go_sem]) rfl ⟨by rw [HE.out]; rfl, HR.out⟩
    ·have e3 : ((c : Int) == 93) = false := by rw [beq_eq_false_iff_ne]; omega
     by_cases h4 : c = 37
     ·have e4 : ((c : Int) == 37) = true := by rw [beq_iff_eq]; omega
      by_cases h5 : q.size = 1
      ·skip
       have HE : Hid (itemP q = (⟨false, BSet.zero⟩, 1, 3)) := by rw [Hid, HP.out, if_neg h0, if_neg h1, if_neg h2, if_neg h3, if_pos h4, if_pos h5]
       clear HP
       have HR : Hid (Below w.heap.size w (w.alloc (.cells #[.bool false, .int .u64 0, .int .u64 0, .int .u64 0, .int .u64 0] 251))) := (Below.refl w.heap.size w).alloc (Nat.le_refl _) _
       go_enter Tryz.func219, Tryz.ntmps219
       go_wp2_with fail
       exact bodyPost_ret (v := .tuple #[.agg #[.bool false, .int .u64 0, .int .u64 0, .int .u64 0, .int .u64 0], .int .i64 1, .int .i64 3]) (by simp [results, Tryz.results219, go_sem]) rfl ⟨by rw [HE.out]; rfl, HR.out⟩
      ·skip
       have HE : Hid (itemP q = (⟨false, spanTo (byteAt q 1) 1⟩, 2, 0)) := by rw [Hid, HP.out, if_neg h0, if_neg h1, if_neg h2, if_neg h3, if_pos h4, if_neg h5]
       have hq1 : 1 < q.size := by omega
       have hd0 := (byteAt_get q 1 hq1).symm
       have hd8 := byteAt_lt q 1
       obtain ⟨d, hd⟩ : ∃ d, byteAt q 1 = d := ⟨_, rfl⟩
       rw [hd] at hd0 hd8 HE
       clear hd
       have HC := hid (fun W => single_any d hd8 W)
       obtain ⟨t, ht⟩ : ∃ t, spanTo d 1 = t := ⟨_, rfl⟩
       rw [ht] at HC HE
       clear ht HP
       obtain ⟨r0, r1, r2, r3⟩ := t
       unfold BSet.val at HC
       go_enter Tryz.func219, Tryz.ntmps219
       go_wp2_with fail
       refine (HC.out _).mono ?_
       rintro e w1 ⟨rfl, hb1⟩
       have HX1 : Hid (Blk w1 w.heap.size 251 #[.bool false, .int .u64 0, .int .u64 0, .int .u64 0, .int .u64 0]) := HX0.out.below hb1 HX0.out.lt
       have HB1 : Hid (Below w.heap.size w w1) := HB0.out.trans (hb1.mono HB0.out.size)
       clear hb1 HX0 HB0
       obtain ⟨k0, k1, k2, k3, k4, g0, g1, g2, g3, g4⟩ := blk5 HX1.out
       have HZ := hid (blk_put5 (b0 := .bool false) (b1 := w64 r0) (b2 := w64 r1) (b3 := w64 r2) (b4 := w64 r3) HX1.out)
       have HR := hid (below_put5 (g := w.heap.size) HB1.out (Nat.le_refl _) (.bool false) (w64 r0) (w64 r1) (w64 r2) (w64 r3))
       go_wp2_with fail
       obtain ⟨z0, z1, z2, z3, z4, -, -, -, -, -⟩ := blk5 HZ.out
       exact bodyPost_ret (v := .tuple #[.agg #[.bool false, w64 r0, w64 r1, w64 r2, w64 r3], .int .i64 2, .int .i64 0]) (by simp [results, Tryz.results219, go_sem, z0, z1, z2, z3, z4]) rfl ⟨by rw [HE.out]; rfl, HR.out⟩
     ·have e4 : ((c : Int) == 37) = false := by rw [beq_eq_false_iff_ne]; omega
      have HE : Hid (itemP q = (⟨false, spanTo c 1⟩, 1, 0)) := by rw [Hid, HP.out, if_neg h0, if_neg h1, if_neg h2, if_neg h3, if_neg h4]
      have HC := hid (fun W => single_any c hc8 W)
      obtain ⟨t, ht⟩ : ∃ t, spanTo c 1 = t := ⟨_, rfl⟩
      rw [ht] at HC HE
      clear ht HP
      obtain ⟨r0, r1, r2, r3⟩ := t
      unfold BSet.val at HC
      go_enter Tryz.func219, Tryz.ntmps219
      go_wp2_with fail
      refine (HC.out _).mono ?_
      rintro e w1 ⟨rfl, hb1⟩
      have HX1 : Hid (Blk w1 w.heap.size 251 #[.bool false, .int .u64 0, .int .u64 0, .int .u64 0, .int .u64 0]) := HX0.out.below hb1 HX0.out.lt
      have HB1 : Hid (Below w.heap.size w w1) := HB0.out.trans (hb1.mono HB0.out.size)
      clear hb1 HX0 HB0
      obtain ⟨k0, k1, k2, k3, k4, g0, g1, g2, g3, g4⟩ := blk5 HX1.out
      have HZ := hid (blk_put5 (b0 := .bool false) (b1 := w64 r0) (b2 := w64 r1) (b3 := w64 r2) (b4 := w64 r3) HX1.out)
      have HR := hid (below_put5 (g := w.heap.size) HB1.out (Nat.le_refl _) (.bool false) (w64 r0) (w64 r1) (w64 r2) (w64 r3))
      go_wp2_with fail
      obtain ⟨z0, z1, z2, z3, z4, -, -, -, -, -⟩ := blk5 HZ.out
      exact bodyPost_ret (v := .tuple #[.agg #[.bool false, w64 r0, w64 r1, w64 r2, w64 r3], .int .i64 1, .int .i64 0]) (by simp [results, Tryz.results219, go_sem, z0, z1, z2, z3, z4]) rfl ⟨by rw [HE.out]; rfl, HR.out⟩
def ParsePost (R : List Item × Nat × Nat) (w : World) (e : Ending) (w' : World) : Prop :=
 ∃ A c, e = .returned (.tuple #[.slice A R.1.length c, .int .i64 (R.2.1 : Nat), .int .i64 (R.2.2 : Nat)]) ∧ w'.ownsRow w.heap.size 251 5 (.slice A R.1.length c) R.1.length (itemCells R.1) ∧ Below w.heap.size w w'
theorem parsePost_nil (w w' : World) (a e : Nat) (h : Below w.heap.size w w') : ParsePost ([], a, e) w (.returned (.tuple #[.slice none 0 0, .int .i64 (a : Int), .int .i64 (e : Int)])) w' :=
 ⟨none, 0, rfl, ⟨rfl, .inl ⟨rfl, rfl⟩⟩, h⟩
set_option maxRecDepth 20000 in
set_option maxHeartbeats 2000000 in
theorem parse_any (p : ByteArray) (hp : p.size ≤ 1000000) (w : World) :
  Calls Tryz.prog 208 #[.string p] w fun e w' => ParsePost (parseM p) w e w' := by
 have HR : Hid (parseP p 61 [] 0 = parseM p) := rfl
 obtain ⟨R, hR⟩ : ∃ R, parseM p = R := ⟨_, rfl⟩
 rw [hR] at HR ⊢
 clear hR
 obtain ⟨Q, hQ⟩ : ∃ Q, ParsePost R w = Q := ⟨_, rfl⟩
 rw [show (fun e w' => ParsePost R w e w') = Q from hQ]
 have HQ := hid hQ
 clear hQ
 go_enter Tryz.func208, Tryz.ntmps208
 go_wp2_with fail
 go_loopw [5, 6] (fun v i wr => ∃ (a c : Nat) (A : Option Addr) (out : List Item), a ≤ p.size ∧ out.length ≤ 60 ∧ i = .int .i64 (a : Int) ∧ v = .slice A out.length c ∧ parseP p (61 - out.length) out a = R ∧
   wr.ownsRow w.heap.size 251 5 (.slice A out.length c) out.length (itemCells out) ∧ Below w.heap.size w wr) (fun _ i _ => p.size - (intOf i).toNat)
 case atStart => exact ⟨0, 0, none, [], by omega, by simp, rfl, rfl, HR.out, ⟨rfl, .inl ⟨rfl, rfl⟩⟩, Below.refl _ _⟩
 case round =>
  obtain ⟨a, c, A, out, ha, hol, rfl, rfl, hpar, hown, hb⟩ := hrel
  have HPAR := hid hpar; have HOWN := hid hown; have HB := hid hb
  obtain ⟨k, hk⟩ : ∃ k, out.length = k := ⟨_, rfl⟩
  have HK := hid hk
  rw [hk] at hol HPAR HOWN ⊢
  clear hpar hown hb hk HR
  by_cases hlt : a < p.size
  ·by_cases h60 : k = 60
   ·have HE : Hid (R = ([], a, 4)) := by rw [Hid, ← HPAR.out, h60, parseP, if_pos hlt, if_pos (by rw [HK.out]; exact h60)]
    subst h60
    go_wp2_with fail
    go_ret3
    have h := parsePost_nil w wr a 4 HB.out
    rw [← HE.out, HQ.out] at h
    exact h
   ·have HI := hid (item_any (tailOf p a) (by rw [tailOf_size]; omega) (by rw [tailOf_size]; omega))
    have HLE := itemP_le (tailOf p a) (by rw [tailOf_size]; omega)
    rw [tailOf_size] at HLE
    have HN : Hid (R = if (itemP (tailOf p a)).2.2 = 0 then parseP p (60 - k) (out ++ [(itemP (tailOf p a)).1]) (a + (itemP (tailOf p a)).2.1) else ([], a + (itemP (tailOf p a)).2.1, (itemP (tailOf p a)).2.2)) := by
     rw [Hid, ← HPAR.out, show 61 - k = (60 - k) + 1 from by omega, parseP, if_pos hlt, if_neg (by rw [HK.out]; exact h60)]
    obtain ⟨⟨x, n, e⟩, hx⟩ : ∃ t, itemP (tailOf p a) = t := ⟨_, rfl⟩
    rw [hx] at HI HLE HN
    simp only at HLE HI HN
    unfold tailOf at HI
    clear hx HPAR
    obtain ⟨hle1, hle2⟩ := HLE
    obtain ⟨j, hj⟩ : ∃ j, a + n = j := ⟨_, rfl⟩
    have hj2 : ((a : Int) + (n : Int)) = (j : Int) := by omega
    have hj3 : j ≤ p.size := by omega
    rw [hj] at HN
    by_cases he : e = 0
    ·subst he
     have HE : Hid (parseP p (60 - k) (out ++ [x]) j = R) := by rw [Hid, HN.out, if_pos rfl]
     have hn0 : 0 < n := hle2 rfl
     have HJ : Hid (a < j) := by rw [Hid]; omega
     clear HN hle2 hle1 hj
     unfold Item.val at HI
     go_wp2_with fail
     refine (HI.out _).mono ?_
     rintro e w1 ⟨rfl, hb1⟩
     have hs1 := HB.out.size
     have HO1 : Hid (w1.ownsRow w.heap.size 251 5 (.slice A k c) k (itemCells out)) := own_below HOWN.out hb1
     have HB1 : Hid (Below w.heap.size w w1) := HB.out.trans (hb1.mono hs1)
     have hs2 := HB1.out.size
     clear hb1 HOWN HB HI hs1
     have hown2 : (w1.alloc (.cells #[.bool x.run, w64 x.set.w0, w64 x.set.w1, w64 x.set.w2, w64 x.set.w3] 251)).ownsRow w.heap.size 251 5 (.slice A k c) k (itemCells out) := own_below HO1.out ((Below.refl w1.heap.size w1).alloc (Nat.le_refl _) _)
     have HB2 : Hid (Below w.heap.size w (w1.alloc (.cells #[.bool x.run, w64 x.set.w0, w64 x.set.w1, w64 x.set.w2, w64 x.set.w3] 251))) := HB1.out.alloc hs2 _
     have HX2 := hid (Blk.new w1 251 #[.bool x.run, w64 x.set.w0, w64 x.set.w1, w64 x.set.w2, w64 x.set.w3])
     have hs3 : w.heap.size ≤ (w1.alloc (.cells #[.bool x.run, w64 x.set.w0, w64 x.set.w1, w64 x.set.w2, w64 x.set.w3] 251)).heap.size := HB2.out.size
     have HO2 := hid hown2
     clear HO1 HB1 hown2
     obtain ⟨k0, k1, k2, k3, k4, -, -, -, -, -⟩ := blk5 HX2.out
     go_upto_region 9 with fail
     obtain ⟨w2, hw2⟩ : ∃ w2, w1.alloc (.cells #[.bool x.run, w64 x.set.w0, w64 x.set.w1, w64 x.set.w2, w64 x.set.w3] 251) = w2 := ⟨_, rfl⟩
     rw [hw2] at HB2 HX2 HO2 hs3 k0 k1 k2 k3 k4 ⊢
     clear hw2 hs2
     have hown2 := HO2.out
     go_wp2_with (at_builtin; refine wpList_append1g _ rfl _ _ 223 rfl w.heap.size 251 _ 5 40 Tryz.underlying223 Tryz.infoItem rfl (by decide) _ _ _ rfl hown2 1 (Item.cells x) rfl rfl rfl ?_ (by decide) hs3 ?_)
     ·omega
     intro A3 d3 w3 hown3 hg3
     have HB3 := hid (below_grown HB2.out hown2 hg3 (Nat.le_refl _) hs3)
     have HL : Hid ((out ++ [x]).length = k + 1) := by rw [Hid, List.length_append, HK.out]; rfl
     have HO3 : Hid (w3.ownsRow w.heap.size 251 5 (.slice (some ⟨A3, 0, none⟩) (k + 1) d3) (k + 1) (itemCells (out ++ [x]))) := by
      rw [Hid, itemCells_append]; simpa [itemCells] using hown3
     have HE2 : Hid (parseP p (61 - (k + 1)) (out ++ [x]) j = R) := by rw [Hid, show 61 - (k + 1) = 60 - k from by omega]; exact HE.out
     have hk60 : k < 60 := by omega
     clear hown2 hown3 hg3 HB2 HX2 HO2 hs3 k0 k1 k2 k3 k4 HE
     go_wp2_with fail
     go_roundw
     case rel => exact ⟨j, d3, some ⟨A3, 0, none⟩, out ++ [x], hj3, by rw [HL.out]; omega, rfl, by rw [HL.out], by rw [HL.out]; exact HE2.out, by rw [HL.out]; exact HO3.out, HB3.out⟩
     case measure => have := HJ.out; simp [intOf]; omega
    ·have HE : Hid (R = ([], j, e)) := by rw [Hid, HN.out, if_neg he]
     have he0 : ((e : Int) == 0) = false := by rw [beq_eq_false_iff_ne]; omega
     clear HN hle2 hle1 hj
     unfold Item.val at HI
     go_wp2_with fail
     refine (HI.out _).mono ?_
     rintro en w1 ⟨rfl, hb1⟩
     have HB2 : Hid (Below w.heap.size w (w1.alloc (.cells #[.bool x.run, w64 x.set.w0, w64 x.set.w1, w64 x.set.w2, w64 x.set.w3] 251))) := (HB.out.trans (hb1.mono HB.out.size)).alloc (Nat.le_trans HB.out.size hb1.size) _
     clear hb1 HI HOWN
     go_wp2_with fail
     go_ret3
     have h := parsePost_nil w _ j e HB2.out
     rw [← HE.out, HQ.out] at h
     exact h
  ·have HE : Hid (R = (out, 0, 0)) := by rw [Hid, ← HPAR.out, parseP_end _ _ _ _ hlt]
   go_wp2_with fail
   go_ret3
   rw [← HQ.out, HE.out]
   exact ⟨A, c, by rw [HK.out]; rfl, by rw [HK.out]; exact HOWN.out, HB.out⟩
def oneM (q : ByteArray) : Nat × Nat × Bool :=
 if q.size = 0 then (0, 0, false)
 else if byteAt q 0 = 93 then (0, 0, false)
 else if byteAt q 0 = 45 then (0, 0, false)
 else if byteAt q 0 ≠ 37 then (byteAt q 0, 1, true)
 else if q.size = 1 then (0, 1, false)
 else (byteAt q 1, 2, true)
end Go.Proofs.YtpkkfdmhbbipoaaGreat
