/- Walks: the law ClassMakes. -/
import Derived.Test.YtdhoedohchbagaaLv6
import Derived.Test.YtdhoedohchbagaaCk
import Derived.Test.YtdhoedohchbagaaWg
import Derived.Test.YtdhoedohchbagaaWb
namespace Go.Proofs.Ytdhoedohchbagaa
open Go.RowKit PopT

theorem u8_int (x : Int) (h : Lit.wf (.int .u8 x) = true) : ∃ y : Nat, x = (y : Int) ∧ y < 256 := by
  simp [Lit.wf, IntKind.min, IntKind.max, IntKind.signed, IntKind.bits] at h
  exact ⟨x.toNat, by omega, by omega⟩
theorem ofFlags_get (s : List UInt8) (b : Nat) (hb : b < 256) : (ofFlags s).getD b false = s.any (fun c => c.toNat == b) := by
  have : ∀ f : List Bool, f.length = 256 → (s.foldl (fun f c => f.set c.toNat true) f).getD b false = (f.getD b false || s.any (fun c => c.toNat == b)) := by
    induction s with
    | nil => intro f _; simp
    | cons c s ih =>
      intro f hf
      rw [List.foldl_cons, ih _ (by rw [List.length_set]; exact hf), List.any_cons, ← Bool.or_assoc]
      congr 1
      simp only [List.getD, List.getElem?_set]
      have := c.toNat_lt
      by_cases h : c.toNat = b
      · rw [if_pos h, if_pos (by omega), show (c.toNat == b) = true from by rw [beq_iff_eq]; exact h]; simp
      · rw [if_neg h, show (c.toNat == b) = false from by rw [beq_eq_false_iff_ne]; exact h]; simp
  unfold ofFlags
  rw [this _ List.length_replicate, List.getD, List.getElem?_replicate, if_pos hb, Option.getD_some, Bool.false_or]
theorem setOf_ofM (s : List UInt8) : ofM s = setOf s := by
  refine BSet.ext_has fun c hc => ?_
  rw [ofM, has_makeM _ _ hc, has_setOf _ _ hc, ofFlags_get _ _ hc]

theorem cut_size (s : ByteArray) (m : Nat) : (if m < s.size then s.extract 0 m else s).size ≤ m := by
  split
  · rw [ByteArray.size_extract]; omega
  · omega

set_option maxRecDepth 20000 in
set_option maxHeartbeats 800000 in
theorem classMakes_any (s : ByteArray) (ai bi : Int) (w : World) (hs : s.size ≤ 9223372036854775807) (ha : Lit.wf (.int .u8 ai) = true) (hb : Lit.wf (.int .u8 bi) = true) :
    Calls Try.prog 7 #[.string s, .int .u8 ai, .int .u8 bi] w fun e w' => e = .returned (.bool true) ∧ Below w.heap.size w w' := by
  obtain ⟨a, rfl, ha8⟩ := u8_int ai ha
  obtain ⟨b, rfl, hb8⟩ := u8_int bi hb
  have HC := hid (cut_any s 40 w hs (by omega))
  have hsz := cut_size s 40
  obtain ⟨t, ht⟩ : ∃ t, (if 40 < s.size then s.extract 0 40 else s) = t := ⟨_, rfl⟩
  rw [ht] at HC hsz
  clear ht hs
  have C1 := hid (fun W => of_any_set t W (by omega))
  have C2 := hid (fun W => ofR_any t W (by omega))
  rw [setOf_ofM] at C2
  have C3 := hid (fun W => spanC_any a b ha8 hb8 W)
  have C4 := hid (fun W => spanR_any a b ha8 hb8 W)
  obtain ⟨X, hX⟩ : ∃ X, setOf t.data.toList = X := ⟨_, rfl⟩
  obtain ⟨Y, hY⟩ : ∃ Y, spanTo a (b + 1 - a) = Y := ⟨_, rfl⟩
  rw [hX] at C1 C2
  rw [hY] at C3 C4
  have E1 : ∀ W, (Op.equalIn 10000 51 (.agg #[w64 X.w0, w64 X.w1, w64 X.w2, w64 X.w3]) (.agg #[w64 X.w0, w64 X.w1, w64 X.w2, w64 X.w3])).run Try.prog W = .ok true W := by intro W; have := Try.eqSet X X W; rwa [beq_self_eq_true] at this
  have E2 : ∀ W, (Op.equalIn 10000 51 (.agg #[w64 Y.w0, w64 Y.w1, w64 Y.w2, w64 Y.w3]) (.agg #[w64 Y.w0, w64 Y.w1, w64 Y.w2, w64 Y.w3])).run Try.prog W = .ok true W := by intro W; have := Try.eqSet Y Y W; rwa [beq_self_eq_true] at this
  clear hX hY
  have C5 := hid (fun W => lives06_any W)
  unfold BSet.val at C1 C2 C3 C4
  go_enter Try.func7, Try.ntmps7
  go_wp2_with fail
  refine HC.out.mono ?_
  rintro e w0 ⟨rfl, rfl⟩
  go_wp2_with fail
  refine (C1.out _).mono ?_
  rintro e w1 ⟨rfl, hb1⟩
  have HB1 := hid hb1
  clear hb1 HC C1
  go_wp2_with fail
  refine (C2.out _).mono ?_
  rintro e w2 ⟨rfl, hb2⟩
  have HB2 := hid (HB1.out.trans (hb2.mono HB1.out.size))
  clear hb2 HB1 C2
  go_wp2_with fail
  refine (C3.out _).mono ?_
  rintro e w3 ⟨rfl, hb3⟩
  have HB3 := hid (HB2.out.trans (hb3.mono HB2.out.size))
  clear hb3 HB2 C3
  go_wp2_with fail
  refine (C4.out _).mono ?_
  rintro e w4 ⟨rfl, hb4⟩
  have HB4 := hid (HB3.out.trans (hb4.mono HB3.out.size))
  clear hb4 HB3 C4
  go_wp2_with fail
  refine (C5.out _).mono ?_
  rintro e w5 ⟨rfl, hb5⟩
  have HB5 := hid (HB4.out.trans (hb5.mono HB4.out.size))
  clear hb5 HB4 C5
  go_wp2_with fail
  go_ret
  exact ⟨rfl, HB5.out⟩
end Go.Proofs.Ytdhoedohchbagaa
