/- Walks: class.Print. -/
import Derived.Test.YtdhoedohchbagaaCy
import Derived.Test.YtdhoedohchbagaaCq
import Derived.Test.YtdhoedohchbagaaBs
import Derived.Test.YtdhoedohchbagaaCd
import Derived.Deep.CutRange
namespace Go.Proofs.Ytdhoedohchbagaa
open Go.RowKit PopT

theorem BldN.new (N : Nat → Prop) (B : Nat) (w : World) (hN : ∀ k, ¬ N k) (hB : B ≤ w.heap.size) : BldN N B w.heap.size [] (w.alloc (.cells #[.pointer none, .slice none 0 0] 130)) :=
  ⟨fun k hk => absurd hk (hN k), hN _, hB, _, _, .inl rfl, Blk.new w 130 #[.pointer none, .slice none 0 0], ⟨rfl, .inl ⟨rfl, rfl⟩⟩, by simp [Value.ownBlock], fun k hk => by simp [Value.ownBlock] at hk⟩
/-- Behind a call that only makes new blocks a builder is one still; what is new may be protected. -/
theorem BldN.fence {N : Nat → Prop} {B b : Nat} {bs : List Value} {w w' : World} (h : BldN N B b bs w) (hb : Below w.heap.size w w') (M : Nat → Prop) (hM : ∀ k, M k → w.heap.size ≤ k ∧ k < w'.heap.size) : BldN M B b bs w' := by
  have hlt := h.lt
  obtain ⟨-, -, hB, p, v, hp, hk, ho, hne, -⟩ := h
  exact ⟨fun k hk => (hM k hk).2, fun hk => by have := (hM b hk).1; omega, hB, p, v, hp, (hb.block b hlt).trans hk, own_below ho hb, hne, fun k hv hk => by
    have := (ho.lt k hv).2
    have := (hM k hk).1
    omega⟩
theorem signM_byte (c : Nat) (h : c < 256) : ∀ d ∈ signM c, d < 256 := by
  unfold signM
  split
  · intro d hd; simp at hd; omega
  · intro d hd; simp at hd; omega
theorem prM_byte (x : BSet) (f b : Nat) : ∀ d ∈ prM x f b, d < 256 := by
  induction f generalizing b with
  | zero => intro d hd; cases hd
  | succ f ih =>
    intro d hd
    rw [prM] at hd
    split at hd
    · rename_i hb
      have hf := runEnd_facts x _ b rfl (by omega)
      split at hd
      · simp only [List.mem_append, List.mem_singleton] at hd
        rcases hd with hd | hd | hd | hd
        · exact signM_byte b hb d hd
        · omega
        · exact signM_byte _ (by omega) d hd
        · exact ih _ d hd
      · split at hd
        · rcases List.mem_append.1 hd with hd | hd
          · exact signM_byte b hb d hd
          · exact ih _ d hd
        · exact ih _ d hd
    · cases hd
theorem textM_byte (x : BSet) : ∀ d ∈ textM x, d < 256 := by
  intro d hd
  unfold textM at hd
  split at hd
  · simp only [List.mem_append, List.mem_cons, List.not_mem_nil, or_false] at hd
    rcases hd with (hd | hd) | hd
    · omega
    · exact prM_byte _ _ _ d hd
    · omega
  · simp only [List.mem_append, List.mem_cons, List.not_mem_nil, or_false] at hd
    rcases hd with (hd | hd) | hd
    · omega
    · exact prM_byte _ _ _ d hd
    · omega
/-- A text out of its bytes' numbers. -/
def strOf (l : List Nat) : ByteArray := ⟨(l.map UInt8.ofNat).toArray⟩
theorem u8Cells_of (l : List Nat) (h : ∀ d ∈ l, d < 256) : u8Cells l = Lib.byteCells (l.map UInt8.ofNat) := by
  unfold u8Cells Lib.byteCells
  rw [List.map_map]
  apply List.map_congr_left
  intro d hd
  simp only [Function.comp]
  rw [UInt8.toNat_ofNat_of_lt' (h d hd)]
theorem u8Cells_bytes (l : List UInt8) : u8Cells (l.map UInt8.toNat) = byteCells l := by
  unfold u8Cells byteCells
  rw [List.map_map]; rfl
theorem bytes_le (x : BSet) : (bytesM x).length ≤ 256 := by
  unfold bytesM bytesTo
  rw [List.length_map]
  exact Nat.le_trans (List.length_filter_le _ _) (by simp)

theorem Blk.lower {B g : Nat} {w w' : World} {t : TypeId} {cs : Array Value} (hb : Below B w w') (h : Blk w g t cs) (hg : g < B) : Blk w' g t cs := (hb.block g hg).trans h
theorem BldN.put4 {N : Nat → Prop} {B b : Nat} {bs : List Value} {w : World} {g : Nat} (h : BldN N B b bs w) (hg : g < B) (u0 u1 u2 u3 : Value) : BldN N B b bs ((((w.setCell ⟨g, 0, none⟩ u0).setCell ⟨g, 1, none⟩ u1).setCell ⟨g, 2, none⟩ u2).setCell ⟨g, 3, none⟩ u3) := by
  have one : ∀ (w : World) (i : Nat) (u : Value), BldN N B b bs w → BldN N B b bs (w.setCell ⟨g, i, none⟩ u) := by
    intro w i u h
    obtain ⟨hN, hNb, hB, p, v, hp, hk, ho, hne, hNv⟩ := h
    refine ⟨by simpa using hN, hNb, hB, p, v, hp, (Below.heap_setCell w ⟨g, i, none⟩ u b (by simp only; omega)).trans hk, own_kept_set ho _ _ (fun hv => ?_), hne, hNv⟩
    have := (ho.lt _ hv).1
    simp only at this
    omega
  exact one _ 3 u3 (one _ 2 u2 (one _ 1 u1 (one _ 0 u0 h)))
theorem u8_lt (l : List UInt8) : ∀ j, j < (l.map UInt8.toNat).length → (l.map UInt8.toNat).getD j 0 < 256 := by
  intro j hj
  rw [List.getD, List.getElem?_eq_getElem hj, Option.getD_some, List.getElem_map]
  exact UInt8.toNat_lt _
theorem partsM_len (l : List Nat) (f i : Nat) : (partsM l f i).length ≤ 5 * f := by
  induction f generalizing i with
  | zero => simp [partsM]
  | succ f ih =>
    rw [partsM]
    split
    · split
      · have h1 := signM_le (l.getD i 0)
        have h2 := signM_le (l.getD (runK l l.length (i + 1) - 1) 0)
        have h3 := ih (runK l l.length (i + 1))
        simp only [List.length_append, List.length_cons, List.length_nil]; omega
      · have h1 := signM_le (l.getD i 0)
        have h3 := ih (i + 1)
        simp only [List.length_append]; omega
    · simp
theorem parts_len (l : List Nat) (h : l.length ≤ 256) : (partsA l 0).length ≤ 1280 := by
  have := partsM_len l l.length 0
  unfold partsA; omega

set_option maxRecDepth 20000 in
set_option maxHeartbeats 2000000 in
theorem printC_any (x : BSet) (w : World) :
    Calls Try.prog 33 #[x.val] w fun e w' => e = .returned (.string (strOf (textM x))) ∧ Below w.heap.size w w' := by
  have HS := hid (fun W => size_any x W)
  have HPN : Hid (prNot x = ((bytesM x).length == 0 || decide (128 < (bytesM x).length) && decide ((bytesM x).length < 256))) := rfl
  have HB := hid (textM_byte x)
  have HT : Hid (textM x = if prNot x = true then [91, 94] ++ partsA ((bytesM (notM x)).map UInt8.toNat) 0 ++ [93] else [91] ++ partsA ((bytesM x).map UInt8.toNat) 0 ++ [93]) := by rw [Hid, textM, parts_bytes, parts_bytes]
  obtain ⟨T, hT⟩ : ∃ T, textM x = T := ⟨_, rfl⟩
  rw [hT] at HB HT ⊢
  clear hT
  have HL : Hid (prNot x = true → ∀ W, Calls Try.prog 89 #[(notM x).val] W fun e w' => ∃ A c, e = .returned (.slice A (bytesM (notM x)).length c) ∧ w'.ownsRow W.heap.size 5 1 (.slice A (bytesM (notM x)).length c) (bytesM (notM x)).length (byteCells (bytesM (notM x))) ∧ Below W.heap.size W w') := fun _ W => list_any (notM x) W
  have HL2 := hid (fun W => list_any x W)
  have HN := hid (fun W => negate_any x W)
  obtain ⟨n, hn⟩ : ∃ n, (bytesM x).length = n := ⟨_, rfl⟩
  have hn256 : n ≤ 256 := by rw [← hn]; exact bytes_le x
  rw [hn] at HS HPN
  rw [hn] at HL2
  have HNN := hid hn
  clear hn
  obtain ⟨l2, hl2⟩ : ∃ l, bytesM x = l := ⟨_, rfl⟩
  rw [hl2] at HL2 HT HNN
  clear hl2
  obtain ⟨y, hy⟩ : ∃ y, notM x = y := ⟨_, rfl⟩
  rw [hy] at HL HN HT
  clear hy
  have HLY := hid (bytes_le y)
  obtain ⟨l1, hl1⟩ : ∃ l, bytesM y = l := ⟨_, rfl⟩
  rw [hl1] at HL HT HLY
  clear hl1
  obtain ⟨n1, hn1⟩ : ∃ l, l1.length = l := ⟨_, rfl⟩
  rw [hn1] at HL HLY
  have HN1 := hid hn1
  clear hn1
  obtain ⟨x0, x1, x2, x3⟩ := x
  obtain ⟨y0, y1, y2, y3⟩ := y
  unfold BSet.val at HS HL2 HN HL ⊢
  simp only at HS HL2 HN HL ⊢
  by_cases q0 : n = 0
  · have e0 : ((n : Int) == 0) = true := by simp; omega
    have hp : prNot ⟨x0, x1, x2, x3⟩ = true := by rw [HPN.out]; simp [q0]
    have HP := hid hp
    clear HPN q0
    clear hp
    go_enter Try.func33, Try.ntmps33
    go_wp2_with fail
    have h0 := BldN.new (fun _ => False) (w.heap.size + 1) (w.alloc (.cells #[w64 x0, w64 x1, w64 x2, w64 x3] 51)) (fun _ h => h) (by simp)
    rw [World.size_alloc] at h0
    refine (writeByteN (fun _ => False) (w.heap.size + 1) (w.heap.size + 1) [] 91 _ h0 (by simp)).mono ?_
    rintro e w1 ⟨rfl, hb1, -, hbl1⟩
    have HB1 := hid hb1
    have HX1 : Hid (Blk w1 w.heap.size 51 #[w64 x0, w64 x1, w64 x2, w64 x3]) := Blk.lower hbl1 ((Blk.new w 51 #[w64 x0, w64 x1, w64 x2, w64 x3]).alloc _) (by omega)
    have HBL1 : Hid (Below w.heap.size w w1) := (((Below.refl w.heap.size w).alloc (Nat.le_refl _) _).alloc (by simp) _).trans (hbl1.mono (by omega))
    have hs1 : w.heap.size + 1 < w1.heap.size := HB1.out.lt
    clear hb1 hbl1 h0
    obtain ⟨c0, c1, c2, c3, g0, g1, g2, g3⟩ := blk4 HX1.out
    go_wp2_with fail
    refine (HS.out _).mono ?_
    rintro e w2 ⟨rfl, hbl⟩
    have HB2 := hid (HB1.out.fence hbl (fun _ => False) (fun _ h => h.elim))
    have HX2 : Hid (Blk w2 w.heap.size 51 #[w64 x0, w64 x1, w64 x2, w64 x3]) := HX1.out.below hbl HX1.out.lt
    have HBL2 := hid (HBL1.out.trans (hbl.mono HBL1.out.size))
    clear hbl HB1 HX1 HBL1 HS c0 c1 c2 c3 g0 g1 g2 g3 hs1
    obtain ⟨c0, c1, c2, c3, g0, g1, g2, g3⟩ := blk4 HX2.out
    go_wp2_with fail
    refine (writeByteN (fun _ => False) (w.heap.size + 1) (w.heap.size + 1) [.int .u8 91] 94 _ HB2.out (by simp)).mono ?_
    rintro e w3 ⟨rfl, hb3, -, hbl3⟩
    have HB3 : Hid (BldN (fun _ => False) (w.heap.size + 1) (w.heap.size + 1) [.int .u8 91, .int .u8 94] w3) := hb3
    have HX3 : Hid (Blk w3 w.heap.size 51 #[w64 x0, w64 x1, w64 x2, w64 x3]) := Blk.lower hbl3 HX2.out (by omega)
    have HBL3 := hid (HBL2.out.trans (hbl3.mono (by omega)))
    clear hb3 hbl3 HB2 HX2 HBL2 c0 c1 c2 c3 g0 g1 g2 g3
    obtain ⟨c0, c1, c2, c3, g0, g1, g2, g3⟩ := blk4 HX3.out
    go_wp2_with fail
    refine (HN.out _).mono ?_
    rintro e w4 ⟨rfl, hbl⟩
    have HB4 := hid (HB3.out.fence hbl (fun _ => False) (fun _ h => h.elim))
    have HX4 : Hid (Blk w4 w.heap.size 51 #[w64 x0, w64 x1, w64 x2, w64 x3]) := HX3.out.below hbl HX3.out.lt
    have HBL4 := hid (HBL3.out.trans (hbl.mono HBL3.out.size))
    clear hbl HB3 HX3 HBL3 HN c0 c1 c2 c3 g0 g1 g2 g3
    obtain ⟨c0, c1, c2, c3, g0, g1, g2, g3⟩ := blk4 HX4.out
    have HX5 := hid (blk_put4 (b0 := w64 y0) (b1 := w64 y1) (b2 := w64 y2) (b3 := w64 y3) HX4.out)
    have HBL5 := hid (below_put4 (g := w.heap.size) HBL4.out (Nat.le_refl _) (w64 y0) (w64 y1) (w64 y2) (w64 y3))
    have HB5 := hid (HB4.out.put4 (g := w.heap.size) (by omega) (w64 y0) (w64 y1) (w64 y2) (w64 y3))
    go_upto_region 7 with fail
    obtain ⟨w5, hw5⟩ : ∃ w5, (((w4.setCell ⟨w.heap.size, 0, none⟩ (w64 y0)).setCell ⟨w.heap.size, 1, none⟩ (w64 y1)).setCell ⟨w.heap.size, 2, none⟩ (w64 y2)).setCell ⟨w.heap.size, 3, none⟩ (w64 y3) = w5 := ⟨_, rfl⟩
    rw [hw5] at HX5 HBL5 HB5 ⊢
    clear hw5 c0 c1 c2 c3 g0 g1 g2 g3 HX4 HBL4 HB4
    obtain ⟨c0, c1, c2, c3, g0, g1, g2, g3⟩ := blk4 HX5.out
    go_wp2_with fail
    refine (HL.out HP.out _).mono ?_
    rintro e w6 ⟨A, cc, rfl, hown, hbl⟩
    have HB6 := hid (HB5.out.fence hbl (fun k => w5.heap.size ≤ k ∧ k < w6.heap.size) (fun _ h => h))
    have HBL6 := hid (HBL5.out.trans (hbl.mono HBL5.out.size))
    have HO := hid hown
    clear hbl hown HB5 HBL5 c0 c1 c2 c3 g0 g1 g2 g3
    go_wp2_with fail
    refine (parts_any (fun k => w5.heap.size ≤ k ∧ k < w6.heap.size) (w.heap.size + 1) (w.heap.size + 1) A n1 cc [91, 94] (l1.map UInt8.toNat) w6 (by rw [List.length_map]; exact HN1.out) (HLY.out) (u8_lt _) (fun a ha => by subst ha; have := HO.out.lt a.block rfl; exact this) (by rw [u8Cells_bytes]; exact Rd_of_own HO.out) HB6.out (by simp)).mono ?_
    rintro e w7 ⟨rfl, hb7, -, hbl⟩
    have HB7 := hid hb7
    have HBL7 := hid (HBL6.out.trans (hbl.mono (by omega)))
    clear hb7 hbl HB6 HBL6 HO
    go_wp2_with fail
    refine (writeByteN _ (w.heap.size + 1) (w.heap.size + 1) _ 93 _ HB7.out (by rw [u8Cells_length]; have := parts_len (l1.map UInt8.toNat) (by rw [List.length_map, HN1.out]; exact HLY.out); simp; omega)).mono ?_
    rintro e w8 ⟨rfl, hb8, -, hbl⟩
    have HT2 : Hid (T = [91, 94] ++ partsA (l1.map UInt8.toNat) 0 ++ [93]) := by rw [Hid, HT.out, if_pos HP.out]
    have HB8 : Hid (Lib.IsBuilder 130 5 (w.heap.size + 1) (w.heap.size + 1) (Lib.byteCells (T.map UInt8.ofNat)) w8) := by
      rw [Hid, ← u8Cells_of T HB.out, HT2.out, u8Cells_append]; exact hb8.is
    have hlt8 : w.heap.size + 1 ≤ w8.heap.size := Nat.le_of_lt hb8.lt
    have HBL8 := hid (HBL7.out.trans (hbl.mono (by omega)))
    clear hb8 hbl HB7 HBL7
    go_wp2_with fail
    refine (bstring_any _ _ _ _ HB8.out hlt8).mono ?_
    rintro e w9 ⟨rfl, hbl⟩
    have HBL9 := hid (HBL8.out.trans (hbl.mono (by omega)))
    clear hbl
    go_wp2_with fail
    go_ret
    exact ⟨rfl, HBL9.out⟩
  · have e0 : ((n : Int) == 0) = false := by simp; omega
    by_cases q1 : 128 < n
    · by_cases q2 : n < 256
      · have hp : prNot ⟨x0, x1, x2, x3⟩ = true := by rw [HPN.out]; simp [q1, q2]
        have HP := hid hp
        clear HPN q0
        clear hp
        go_enter Try.func33, Try.ntmps33
        go_wp2_with fail
        have h0 := BldN.new (fun _ => False) (w.heap.size + 1) (w.alloc (.cells #[w64 x0, w64 x1, w64 x2, w64 x3] 51)) (fun _ h => h) (by simp)
        rw [World.size_alloc] at h0
        refine (writeByteN (fun _ => False) (w.heap.size + 1) (w.heap.size + 1) [] 91 _ h0 (by simp)).mono ?_
        rintro e w1 ⟨rfl, hb1, -, hbl1⟩
        have HB1 := hid hb1
        have HX1 : Hid (Blk w1 w.heap.size 51 #[w64 x0, w64 x1, w64 x2, w64 x3]) := Blk.lower hbl1 ((Blk.new w 51 #[w64 x0, w64 x1, w64 x2, w64 x3]).alloc _) (by omega)
        have HBL1 : Hid (Below w.heap.size w w1) := (((Below.refl w.heap.size w).alloc (Nat.le_refl _) _).alloc (by simp) _).trans (hbl1.mono (by omega))
        have hs1 : w.heap.size + 1 < w1.heap.size := HB1.out.lt
        clear hb1 hbl1 h0
        obtain ⟨c0, c1, c2, c3, g0, g1, g2, g3⟩ := blk4 HX1.out
        go_wp2_with fail
        refine (HS.out _).mono ?_
        rintro e w2 ⟨rfl, hbl⟩
        have HB2 := hid (HB1.out.fence hbl (fun _ => False) (fun _ h => h.elim))
        have HX2 : Hid (Blk w2 w.heap.size 51 #[w64 x0, w64 x1, w64 x2, w64 x3]) := HX1.out.below hbl HX1.out.lt
        have HBL2 := hid (HBL1.out.trans (hbl.mono HBL1.out.size))
        clear hbl HB1 HX1 HBL1 HS c0 c1 c2 c3 g0 g1 g2 g3 hs1
        obtain ⟨c0, c1, c2, c3, g0, g1, g2, g3⟩ := blk4 HX2.out
        go_wp2_with fail
        refine (writeByteN (fun _ => False) (w.heap.size + 1) (w.heap.size + 1) [.int .u8 91] 94 _ HB2.out (by simp)).mono ?_
        rintro e w3 ⟨rfl, hb3, -, hbl3⟩
        have HB3 : Hid (BldN (fun _ => False) (w.heap.size + 1) (w.heap.size + 1) [.int .u8 91, .int .u8 94] w3) := hb3
        have HX3 : Hid (Blk w3 w.heap.size 51 #[w64 x0, w64 x1, w64 x2, w64 x3]) := Blk.lower hbl3 HX2.out (by omega)
        have HBL3 := hid (HBL2.out.trans (hbl3.mono (by omega)))
        clear hb3 hbl3 HB2 HX2 HBL2 c0 c1 c2 c3 g0 g1 g2 g3
        obtain ⟨c0, c1, c2, c3, g0, g1, g2, g3⟩ := blk4 HX3.out
        go_wp2_with fail
        refine (HN.out _).mono ?_
        rintro e w4 ⟨rfl, hbl⟩
        have HB4 := hid (HB3.out.fence hbl (fun _ => False) (fun _ h => h.elim))
        have HX4 : Hid (Blk w4 w.heap.size 51 #[w64 x0, w64 x1, w64 x2, w64 x3]) := HX3.out.below hbl HX3.out.lt
        have HBL4 := hid (HBL3.out.trans (hbl.mono HBL3.out.size))
        clear hbl HB3 HX3 HBL3 HN c0 c1 c2 c3 g0 g1 g2 g3
        obtain ⟨c0, c1, c2, c3, g0, g1, g2, g3⟩ := blk4 HX4.out
        have HX5 := hid (blk_put4 (b0 := w64 y0) (b1 := w64 y1) (b2 := w64 y2) (b3 := w64 y3) HX4.out)
        have HBL5 := hid (below_put4 (g := w.heap.size) HBL4.out (Nat.le_refl _) (w64 y0) (w64 y1) (w64 y2) (w64 y3))
        have HB5 := hid (HB4.out.put4 (g := w.heap.size) (by omega) (w64 y0) (w64 y1) (w64 y2) (w64 y3))
        go_upto_region 7 with fail
        obtain ⟨w5, hw5⟩ : ∃ w5, (((w4.setCell ⟨w.heap.size, 0, none⟩ (w64 y0)).setCell ⟨w.heap.size, 1, none⟩ (w64 y1)).setCell ⟨w.heap.size, 2, none⟩ (w64 y2)).setCell ⟨w.heap.size, 3, none⟩ (w64 y3) = w5 := ⟨_, rfl⟩
        rw [hw5] at HX5 HBL5 HB5 ⊢
        clear hw5 c0 c1 c2 c3 g0 g1 g2 g3 HX4 HBL4 HB4
        obtain ⟨c0, c1, c2, c3, g0, g1, g2, g3⟩ := blk4 HX5.out
        go_wp2_with fail
        refine (HL.out HP.out _).mono ?_
        rintro e w6 ⟨A, cc, rfl, hown, hbl⟩
        have HB6 := hid (HB5.out.fence hbl (fun k => w5.heap.size ≤ k ∧ k < w6.heap.size) (fun _ h => h))
        have HBL6 := hid (HBL5.out.trans (hbl.mono HBL5.out.size))
        have HO := hid hown
        clear hbl hown HB5 HBL5 c0 c1 c2 c3 g0 g1 g2 g3
        go_wp2_with fail
        refine (parts_any (fun k => w5.heap.size ≤ k ∧ k < w6.heap.size) (w.heap.size + 1) (w.heap.size + 1) A n1 cc [91, 94] (l1.map UInt8.toNat) w6 (by rw [List.length_map]; exact HN1.out) (HLY.out) (u8_lt _) (fun a ha => by subst ha; have := HO.out.lt a.block rfl; exact this) (by rw [u8Cells_bytes]; exact Rd_of_own HO.out) HB6.out (by simp)).mono ?_
        rintro e w7 ⟨rfl, hb7, -, hbl⟩
        have HB7 := hid hb7
        have HBL7 := hid (HBL6.out.trans (hbl.mono (by omega)))
        clear hb7 hbl HB6 HBL6 HO
        go_wp2_with fail
        refine (writeByteN _ (w.heap.size + 1) (w.heap.size + 1) _ 93 _ HB7.out (by rw [u8Cells_length]; have := parts_len (l1.map UInt8.toNat) (by rw [List.length_map, HN1.out]; exact HLY.out); simp; omega)).mono ?_
        rintro e w8 ⟨rfl, hb8, -, hbl⟩
        have HT2 : Hid (T = [91, 94] ++ partsA (l1.map UInt8.toNat) 0 ++ [93]) := by rw [Hid, HT.out, if_pos HP.out]
        have HB8 : Hid (Lib.IsBuilder 130 5 (w.heap.size + 1) (w.heap.size + 1) (Lib.byteCells (T.map UInt8.ofNat)) w8) := by
          rw [Hid, ← u8Cells_of T HB.out, HT2.out, u8Cells_append]; exact hb8.is
        have hlt8 : w.heap.size + 1 ≤ w8.heap.size := Nat.le_of_lt hb8.lt
        have HBL8 := hid (HBL7.out.trans (hbl.mono (by omega)))
        clear hb8 hbl HB7 HBL7
        go_wp2_with fail
        refine (bstring_any _ _ _ _ HB8.out hlt8).mono ?_
        rintro e w9 ⟨rfl, hbl⟩
        have HBL9 := hid (HBL8.out.trans (hbl.mono (by omega)))
        clear hbl
        go_wp2_with fail
        go_ret
        exact ⟨rfl, HBL9.out⟩
      · have hp : ¬ prNot ⟨x0, x1, x2, x3⟩ = true := by rw [HPN.out]; simp [q0, q2]
        have HP := hid hp
        have q3 : 256 ≤ n := by omega
        clear HPN q0
        clear hp
        go_enter Try.func33, Try.ntmps33
        go_wp2_with fail
        have h0 := BldN.new (fun _ => False) (w.heap.size + 1) (w.alloc (.cells #[w64 x0, w64 x1, w64 x2, w64 x3] 51)) (fun _ h => h) (by simp)
        rw [World.size_alloc] at h0
        refine (writeByteN (fun _ => False) (w.heap.size + 1) (w.heap.size + 1) [] 91 _ h0 (by simp)).mono ?_
        rintro e w1 ⟨rfl, hb1, -, hbl1⟩
        have HB1 := hid hb1
        have HX1 : Hid (Blk w1 w.heap.size 51 #[w64 x0, w64 x1, w64 x2, w64 x3]) := Blk.lower hbl1 ((Blk.new w 51 #[w64 x0, w64 x1, w64 x2, w64 x3]).alloc _) (by omega)
        have HBL1 : Hid (Below w.heap.size w w1) := (((Below.refl w.heap.size w).alloc (Nat.le_refl _) _).alloc (by simp) _).trans (hbl1.mono (by omega))
        have hs1 : w.heap.size + 1 < w1.heap.size := HB1.out.lt
        clear hb1 hbl1 h0
        obtain ⟨c0, c1, c2, c3, g0, g1, g2, g3⟩ := blk4 HX1.out
        go_wp2_with fail
        refine (HS.out _).mono ?_
        rintro e w2 ⟨rfl, hbl⟩
        have HB2 := hid (HB1.out.fence hbl (fun _ => False) (fun _ h => h.elim))
        have HX2 : Hid (Blk w2 w.heap.size 51 #[w64 x0, w64 x1, w64 x2, w64 x3]) := HX1.out.below hbl HX1.out.lt
        have HBL2 := hid (HBL1.out.trans (hbl.mono HBL1.out.size))
        clear hbl HB1 HX1 HBL1 HS c0 c1 c2 c3 g0 g1 g2 g3 hs1
        obtain ⟨c0, c1, c2, c3, g0, g1, g2, g3⟩ := blk4 HX2.out
        go_wp2_with fail
        refine (HL2.out _).mono ?_
        rintro e w6 ⟨A, cc, rfl, hown, hbl⟩
        have HB6 := hid (HB2.out.fence hbl (fun k => w2.heap.size ≤ k ∧ k < w6.heap.size) (fun _ h => h))
        have HBL6 := hid (HBL2.out.trans (hbl.mono HBL2.out.size))
        have HO := hid hown
        clear hbl hown HB2 HBL2 c0 c1 c2 c3 g0 g1 g2 g3
        go_wp2_with fail
        refine (parts_any (fun k => w2.heap.size ≤ k ∧ k < w6.heap.size) (w.heap.size + 1) (w.heap.size + 1) A n cc [91] (l2.map UInt8.toNat) w6 (by rw [List.length_map]; exact HNN.out) (hn256) (u8_lt _) (fun a ha => by subst ha; have := HO.out.lt a.block rfl; exact this) (by rw [u8Cells_bytes]; exact Rd_of_own HO.out) HB6.out (by simp)).mono ?_
        rintro e w7 ⟨rfl, hb7, -, hbl⟩
        have HB7 := hid hb7
        have HBL7 := hid (HBL6.out.trans (hbl.mono (by omega)))
        clear hb7 hbl HB6 HBL6 HO
        go_wp2_with fail
        refine (writeByteN _ (w.heap.size + 1) (w.heap.size + 1) _ 93 _ HB7.out (by rw [u8Cells_length]; have := parts_len (l2.map UInt8.toNat) (by rw [List.length_map, HNN.out]; exact hn256); simp; omega)).mono ?_
        rintro e w8 ⟨rfl, hb8, -, hbl⟩
        have HT2 : Hid (T = [91] ++ partsA (l2.map UInt8.toNat) 0 ++ [93]) := by rw [Hid, HT.out, if_neg HP.out]
        have HB8 : Hid (Lib.IsBuilder 130 5 (w.heap.size + 1) (w.heap.size + 1) (Lib.byteCells (T.map UInt8.ofNat)) w8) := by
          rw [Hid, ← u8Cells_of T HB.out, HT2.out, u8Cells_append]; exact hb8.is
        have hlt8 : w.heap.size + 1 ≤ w8.heap.size := Nat.le_of_lt hb8.lt
        have HBL8 := hid (HBL7.out.trans (hbl.mono (by omega)))
        clear hb8 hbl HB7 HBL7
        go_wp2_with fail
        refine (bstring_any _ _ _ _ HB8.out hlt8).mono ?_
        rintro e w9 ⟨rfl, hbl⟩
        have HBL9 := hid (HBL8.out.trans (hbl.mono (by omega)))
        clear hbl
        go_wp2_with fail
        go_ret
        exact ⟨rfl, HBL9.out⟩
    · have hp : ¬ prNot ⟨x0, x1, x2, x3⟩ = true := by rw [HPN.out]; simp [q0, q1]
      have HP := hid hp
      have q3 : n ≤ 128 := by omega
      clear HPN q0
      clear hp
      go_enter Try.func33, Try.ntmps33
      go_wp2_with fail
      have h0 := BldN.new (fun _ => False) (w.heap.size + 1) (w.alloc (.cells #[w64 x0, w64 x1, w64 x2, w64 x3] 51)) (fun _ h => h) (by simp)
      rw [World.size_alloc] at h0
      refine (writeByteN (fun _ => False) (w.heap.size + 1) (w.heap.size + 1) [] 91 _ h0 (by simp)).mono ?_
      rintro e w1 ⟨rfl, hb1, -, hbl1⟩
      have HB1 := hid hb1
      have HX1 : Hid (Blk w1 w.heap.size 51 #[w64 x0, w64 x1, w64 x2, w64 x3]) := Blk.lower hbl1 ((Blk.new w 51 #[w64 x0, w64 x1, w64 x2, w64 x3]).alloc _) (by omega)
      have HBL1 : Hid (Below w.heap.size w w1) := (((Below.refl w.heap.size w).alloc (Nat.le_refl _) _).alloc (by simp) _).trans (hbl1.mono (by omega))
      have hs1 : w.heap.size + 1 < w1.heap.size := HB1.out.lt
      clear hb1 hbl1 h0
      obtain ⟨c0, c1, c2, c3, g0, g1, g2, g3⟩ := blk4 HX1.out
      go_wp2_with fail
      refine (HS.out _).mono ?_
      rintro e w2 ⟨rfl, hbl⟩
      have HB2 := hid (HB1.out.fence hbl (fun _ => False) (fun _ h => h.elim))
      have HX2 : Hid (Blk w2 w.heap.size 51 #[w64 x0, w64 x1, w64 x2, w64 x3]) := HX1.out.below hbl HX1.out.lt
      have HBL2 := hid (HBL1.out.trans (hbl.mono HBL1.out.size))
      clear hbl HB1 HX1 HBL1 HS c0 c1 c2 c3 g0 g1 g2 g3 hs1
      obtain ⟨c0, c1, c2, c3, g0, g1, g2, g3⟩ := blk4 HX2.out
      go_wp2_with fail
      refine (HL2.out _).mono ?_
      rintro e w6 ⟨A, cc, rfl, hown, hbl⟩
      have HB6 := hid (HB2.out.fence hbl (fun k => w2.heap.size ≤ k ∧ k < w6.heap.size) (fun _ h => h))
      have HBL6 := hid (HBL2.out.trans (hbl.mono HBL2.out.size))
      have HO := hid hown
      clear hbl hown HB2 HBL2 c0 c1 c2 c3 g0 g1 g2 g3
      go_wp2_with fail
      refine (parts_any (fun k => w2.heap.size ≤ k ∧ k < w6.heap.size) (w.heap.size + 1) (w.heap.size + 1) A n cc [91] (l2.map UInt8.toNat) w6 (by rw [List.length_map]; exact HNN.out) (hn256) (u8_lt _) (fun a ha => by subst ha; have := HO.out.lt a.block rfl; exact this) (by rw [u8Cells_bytes]; exact Rd_of_own HO.out) HB6.out (by simp)).mono ?_
      rintro e w7 ⟨rfl, hb7, -, hbl⟩
      have HB7 := hid hb7
      have HBL7 := hid (HBL6.out.trans (hbl.mono (by omega)))
      clear hb7 hbl HB6 HBL6 HO
      go_wp2_with fail
      refine (writeByteN _ (w.heap.size + 1) (w.heap.size + 1) _ 93 _ HB7.out (by rw [u8Cells_length]; have := parts_len (l2.map UInt8.toNat) (by rw [List.length_map, HNN.out]; exact hn256); simp; omega)).mono ?_
      rintro e w8 ⟨rfl, hb8, -, hbl⟩
      have HT2 : Hid (T = [91] ++ partsA (l2.map UInt8.toNat) 0 ++ [93]) := by rw [Hid, HT.out, if_neg HP.out]
      have HB8 : Hid (Lib.IsBuilder 130 5 (w.heap.size + 1) (w.heap.size + 1) (Lib.byteCells (T.map UInt8.ofNat)) w8) := by
        rw [Hid, ← u8Cells_of T HB.out, HT2.out, u8Cells_append]; exact hb8.is
      have hlt8 : w.heap.size + 1 ≤ w8.heap.size := Nat.le_of_lt hb8.lt
      have HBL8 := hid (HBL7.out.trans (hbl.mono (by omega)))
      clear hb8 hbl HB7 HBL7
      go_wp2_with fail
      refine (bstring_any _ _ _ _ HB8.out hlt8).mono ?_
      rintro e w9 ⟨rfl, hbl⟩
      have HBL9 := hid (HBL8.out.trans (hbl.mono (by omega)))
      clear hbl
      go_wp2_with fail
      go_ret
      exact ⟨rfl, HBL9.out⟩
end Go.Proofs.Ytdhoedohchbagaa
