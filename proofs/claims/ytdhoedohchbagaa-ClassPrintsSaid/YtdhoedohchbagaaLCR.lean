/- Walks: the law ClassPrints. -/
import Derived.Test.YtdhoedohchbagaaLv6
import Derived.Test.YtdhoedohchbagaaCpx
import Derived.Test.YtdhoedohchbagaaWb
namespace Go.Proofs.Ytdhoedohchbagaa
open Go.RowKit PopT

theorem text_at (l : List Nat) (t : ByteArray) (h : ∀ d ∈ l, d < 256) : At (strOf l ++ t) 0 (l ++ t.data.toList.map UInt8.toNat) := by
  unfold At strOf
  rw [List.drop_zero, ByteArray.data_append, Array.toList_append, List.map_append, List.map_map]
  congr 1
  have : ∀ l : List Nat, (∀ d ∈ l, d < 256) → l.map (UInt8.toNat ∘ UInt8.ofNat) = l := by
    intro l hl
    induction l with
    | nil => rfl
    | cons a l ih =>
      rw [List.map_cons, ih (fun c hc => hl c (List.mem_cons_of_mem _ hc))]
      congr 1
      exact UInt8.toNat_ofNat_of_lt' (hl a List.mem_cons_self)
  exact this l h
theorem textM_len (x : BSet) : (textM x).length ≤ 1290 := by
  have h1 := parts_len ((bytesM x).map UInt8.toNat) (by rw [List.length_map]; exact bytes_le x)
  have h2 := parts_len ((bytesM (notM x)).map UInt8.toNat) (by rw [List.length_map]; exact bytes_le (notM x))
  rw [parts_bytes] at h1 h2
  unfold textM
  split
  · simp only [List.length_append, List.length_cons, List.length_nil]; omega
  · simp only [List.length_append, List.length_cons, List.length_nil]; omega
theorem cut_size2 (s : ByteArray) (m : Nat) : (if m < s.size then s.extract 0 m else s).size ≤ m := by
  split
  · rw [ByteArray.size_extract]; omega
  · omega

set_option maxRecDepth 20000 in
set_option maxHeartbeats 800000 in
theorem classPrints_any (x : BSet) (s : ByteArray) (w : World) (hs : s.size ≤ 9223372036854775807) :
    Calls Try.prog 6 #[x.val, .string s] w fun e w' => e = .returned (.bool true) ∧ Below w.heap.size w w' := by
  have HC := hid (fun W => cut_any s 10 W hs (by omega))
  have hsz := cut_size2 s 10
  obtain ⟨t, ht⟩ : ∃ t, (if 10 < s.size then s.extract 0 10 else s) = t := ⟨_, rfl⟩
  rw [ht] at HC hsz
  clear ht hs
  have C1 := hid (fun W => printR_any x W)
  have C2 := hid (fun W => printC_any x W)
  have hS : (strOf (textM x)).size ≤ 1290 := by rw [strOf_size]; exact textM_len x
  have hl : (textM x).length = (strOf (textM x)).size := (strOf_size _).symm
  have C3 := hid (fun W => readC_any (strOf (textM x) ++ t) W (by rw [ByteArray.size_append]; omega))
  rw [readC_whole _ _ _ (rdWhole_text _ x _ (text_at (textM x) t (textM_byte x))), hl] at C3
  obtain ⟨S, hSS⟩ : ∃ S, strOf (textM x) = S := ⟨_, rfl⟩
  rw [hSS] at C1 C2 C3 hS
  clear hSS hl
  have E1 : ∀ W, (Op.equalIn 10000 51 (.agg #[w64 x.w0, w64 x.w1, w64 x.w2, w64 x.w3]) (.agg #[w64 x.w0, w64 x.w1, w64 x.w2, w64 x.w3])).run Try.prog W = .ok true W := by intro W; have := Try.eqSet x x W; rwa [beq_self_eq_true] at this
  have C5 := hid (fun W => lives06_any W)
  unfold BSet.val at *
  go_enter Try.func6, Try.ntmps6
  go_wp2_with fail
  refine (C1.out _).mono ?_
  rintro e w1 ⟨rfl, hb1⟩
  have HB1 : Hid (Below w.heap.size w w1) := ((Below.refl w.heap.size w).alloc (Nat.le_refl _) _).trans (hb1.mono (by simp))
  have HX1 : Hid (Blk w1 w.heap.size 51 #[w64 x.w0, w64 x.w1, w64 x.w2, w64 x.w3]) := (Blk.new w 51 #[w64 x.w0, w64 x.w1, w64 x.w2, w64 x.w3]).below hb1 (by simp)
  clear hb1 C1
  go_wp2_with fail
  refine (HC.out _).mono ?_
  rintro e w0 ⟨rfl, rfl⟩
  go_wp2_with fail
  refine (C3.out _).mono ?_
  rintro e w3 ⟨rfl, hb3⟩
  have HX3 : Hid (Blk w3 w.heap.size 51 #[w64 x.w0, w64 x.w1, w64 x.w2, w64 x.w3]) := HX1.out.below hb3 HX1.out.lt
  have HB3 : Hid (Below w.heap.size w w3) := HB1.out.trans (hb3.mono HB1.out.size)
  have hlt3 := HX3.out.lt
  clear hb3 HX1 HB1 C3 HC
  have HX4 : Hid (Blk (w3.alloc (.cells #[w64 x.w0, w64 x.w1, w64 x.w2, w64 x.w3] 51)) w.heap.size 51 #[w64 x.w0, w64 x.w1, w64 x.w2, w64 x.w3]) := HX3.out.alloc _
  have HY4 : Hid (Blk (w3.alloc (.cells #[w64 x.w0, w64 x.w1, w64 x.w2, w64 x.w3] 51)) w3.heap.size 51 #[w64 x.w0, w64 x.w1, w64 x.w2, w64 x.w3]) := Blk.new w3 _ _
  have HB4 : Hid (Below w.heap.size w (w3.alloc (.cells #[w64 x.w0, w64 x.w1, w64 x.w2, w64 x.w3] 51))) := HB3.out.alloc HB3.out.size _
  obtain ⟨a0, a1, a2, a3, -, -, -, -⟩ := blk4 HX4.out
  go_wp2_with fail
  refine (C2.out _).mono ?_
  rintro e w5 ⟨rfl, hb5⟩
  have HX5 : Hid (Blk w5 w.heap.size 51 #[w64 x.w0, w64 x.w1, w64 x.w2, w64 x.w3]) := HX4.out.below hb5 HX4.out.lt
  have HY5 : Hid (Blk w5 w3.heap.size 51 #[w64 x.w0, w64 x.w1, w64 x.w2, w64 x.w3]) := HY4.out.below hb5 HY4.out.lt
  have HB5 : Hid (Below w.heap.size w w5) := HB4.out.trans (hb5.mono HB4.out.size)
  clear hb5 HX4 HY4 HB4 C2 a0 a1 a2 a3
  obtain ⟨a0, a1, a2, a3, -, -, -, -⟩ := blk4 HX5.out
  obtain ⟨b0, b1, b2, b3, -, -, -, -⟩ := blk4 HY5.out
  go_wp2_with fail
  refine (C5.out _).mono ?_
  rintro e w6 ⟨rfl, hb6⟩
  have HB6 : Hid (Below w.heap.size w w6) := HB5.out.trans (hb6.mono HB5.out.size)
  clear hb6
  go_wp2_with fail
  go_ret
  exact ⟨rfl, HB6.out⟩
end Go.Proofs.Ytdhoedohchbagaa
