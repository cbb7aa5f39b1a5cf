/- Sets of bytes: plain laws on sizes and spans; walks: class.size, Len, list, Bytes. -/
import Derived.Test.YtdhoedohchbagaaCc
import Derived.Test.YtdhoedohchbagaaCb
namespace Go.Proofs.Ytdhoedohchbagaa
open Go.RowKit PopT

theorem pc_range (n x : Nat) : pc n x = ((List.range n).filter (fun k => x.testBit k)).length := by
  induction n generalizing x with
  | zero => rfl
  | succ n ih =>
    rw [List.range_succ_eq_map, List.filter_cons, List.filter_map, pc, ih]
    have h1 : ((fun k => x.testBit k) ∘ Nat.succ) = (fun k => (x / 2).testBit k) := by
      funext k; simp [Function.comp, Nat.testBit_succ]
    rw [h1]
    have h0 : x.testBit 0 = decide (x % 2 = 1) := Nat.testBit_zero x
    rw [h0]
    by_cases h : x % 2 = 1
    · simp [h]; omega
    · have : x % 2 = 0 := by omega
      simp [this]
theorem bytesTo_word (s : BSet) (i m : Nat) (_ : i < 4) (hm : m ≤ 64) : (bytesTo s (64 * i + m)).length = (bytesTo s (64 * i)).length + ((List.range m).filter (fun k => (s.word i).toNat.testBit k)).length := by
  induction m with
  | zero => simp
  | succ m ih =>
    rw [← Nat.add_assoc, bytesTo_succ, List.length_append, ih (by omega), List.range_succ, List.filter_append, List.length_append]
    have : s.has (64 * i + m) = (s.word i).toNat.testBit m := by
      unfold BSet.has
      rw [show (64 * i + m) / 64 = i from by omega, show (64 * i + m) % 64 = m from by omega]; rfl
    rw [this]
    cases h : (s.word i).toNat.testBit m <;> simp [h] <;> omega
def sizeTo (s : BSet) (k : Nat) : Nat := (bytesTo s (64 * k)).length
theorem sizeTo_succ (s : BSet) (k : Nat) (hk : k < 4) : sizeTo s (k + 1) = sizeTo s k + pc 64 (s.word k).toNat := by
  unfold sizeTo
  rw [show 64 * (k + 1) = 64 * k + 64 from by omega, bytesTo_word s k 64 hk (by omega), pc_range]
theorem sizeTo_le (s : BSet) (k : Nat) : sizeTo s k ≤ 64 * k := bytesTo_length s _
theorem sizeTo_four (s : BSet) : sizeTo s 4 = (bytesM s).length := rfl

theorem Try.indexSet (s : BSet) (k : Nat) (hk : k < 4) (W : World) : (Instr.index 51 (.agg #[w64 s.w0, w64 s.w1, w64 s.w2, w64 s.w3]) (.int .i64 (k : Int))).run Try.prog W = .ok (w64 (s.word k)) W := by
  have z := Try.sizeOf49
  have a := Try.isAgg49
  match k, hk with
  | 0, _ => simp [Instr.index, run_underlying Try.underlying51, asIntOf, part, z, a, BSet.word]
  | 1, _ => simp [Instr.index, run_underlying Try.underlying51, asIntOf, part, z, a, BSet.word]
  | 2, _ => simp [Instr.index, run_underlying Try.underlying51, asIntOf, part, z, a, BSet.word]
  | 3, _ => simp [Instr.index, run_underlying Try.underlying51, asIntOf, part, z, a, BSet.word]

set_option maxRecDepth 20000 in
set_option maxHeartbeats 400000 in
theorem size_any (s : BSet) (w : World) :
    Calls Try.prog 86 #[s.val] w fun e w' => e = .returned (.int .i64 ((bytesM s).length : Int)) ∧ Below w.heap.size w w' := by
  have H4 := hid (sizeTo_four s)
  have H0 : Hid (sizeTo s 0 = 0) := rfl
  have HS : Hid (sizeTo s 1 = sizeTo s 0 + pc 64 s.w0.toNat ∧ sizeTo s 2 = sizeTo s 1 + pc 64 s.w1.toNat ∧ sizeTo s 3 = sizeTo s 2 + pc 64 s.w2.toNat ∧ sizeTo s 4 = sizeTo s 3 + pc 64 s.w3.toNat) :=
    ⟨sizeTo_succ s 0 (by omega), sizeTo_succ s 1 (by omega), sizeTo_succ s 2 (by omega), sizeTo_succ s 3 (by omega)⟩
  have HL : Hid (∀ k, sizeTo s k ≤ 64 * k) := sizeTo_le s
  have HIX := hid (Try.indexSet s)
  have HX : Hid (s.w0.toNat < 18446744073709551616 ∧ s.w1.toNat < 18446744073709551616 ∧ s.w2.toNat < 18446744073709551616 ∧ s.w3.toNat < 18446744073709551616) := ⟨s.w0.isLt, s.w1.isLt, s.w2.isLt, s.w3.isLt⟩
  generalize sizeTo s = f at *
  obtain ⟨s0, s1, s2, s3⟩ := s
  unfold BSet.val
  go_enter Try.func86, Try.ntmps86
  go_wp2_with fail
  go_loopw [3, 7] (fun nv i wr => ∃ (k m : Nat), k ≤ 4 ∧ i = .int .i64 k ∧ nv = .int .i64 (m : Int) ∧ Hid (m = f k) ∧ Below w.heap.size w wr) (fun _ i _ => 4 - (intOf i).toNat)
  case atStart => exact ⟨0, 0, by omega, rfl, rfl, H0.out.symm, (Below.refl _ _).alloc (Nat.le_refl _) _⟩
  case round =>
    obtain ⟨k, m, hk, rfl, rfl, HM, hb⟩ := hrel
    have HB := hid hb
    have hm256 : m ≤ 256 := by have := HL.out k; have := HM.out; omega
    clear hb
    match k, hk with
    | 0, _ =>
      have hix : ∀ W, (Instr.index 51 (.agg #[w64 s0, w64 s1, w64 s2, w64 s3]) (.int .i64 0)).run Try.prog W = .ok (w64 s0) W := fun W => HIX.out 0 (by omega) W
      have ho := ones_any s0.toNat HX.out.1 wr
      have hg : f 1 = f 0 + pc 64 s0.toNat := HS.out.1
      have hfl := HL.out 1
      have HO := hid ho
      obtain ⟨q, hq⟩ : ∃ q, pc 64 s0.toNat = q := ⟨_, rfl⟩
      rw [hq] at HO hg
      have hpc : q ≤ 256 := by omega
      have HM2 : Hid (m + q = f 1) := by have := HM.out; rw [Hid]; omega
      clear ho hq hg hfl
      go_wp2_with fail
      refine HO.out.mono ?_
      rintro e w2 ⟨rfl, rfl⟩
      go_wp2_with fail
      go_roundw
      case rel => exact ⟨1, m + q, by omega, rfl, by go_num, HM2, HB.out⟩
      case measure => simp [intOf]
    | 1, _ =>
      have hix : ∀ W, (Instr.index 51 (.agg #[w64 s0, w64 s1, w64 s2, w64 s3]) (.int .i64 1)).run Try.prog W = .ok (w64 s1) W := fun W => HIX.out 1 (by omega) W
      have ho := ones_any s1.toNat HX.out.2.1 wr
      have hg : f 2 = f 1 + pc 64 s1.toNat := HS.out.2.1
      have hfl := HL.out 2
      have HO := hid ho
      obtain ⟨q, hq⟩ : ∃ q, pc 64 s1.toNat = q := ⟨_, rfl⟩
      rw [hq] at HO hg
      have hpc : q ≤ 256 := by omega
      have HM2 : Hid (m + q = f 2) := by have := HM.out; rw [Hid]; omega
      clear ho hq hg hfl
      go_wp2_with fail
      refine HO.out.mono ?_
      rintro e w2 ⟨rfl, rfl⟩
      go_wp2_with fail
      go_roundw
      case rel => exact ⟨2, m + q, by omega, rfl, by go_num, HM2, HB.out⟩
      case measure => simp [intOf]
    | 2, _ =>
      have hix : ∀ W, (Instr.index 51 (.agg #[w64 s0, w64 s1, w64 s2, w64 s3]) (.int .i64 2)).run Try.prog W = .ok (w64 s2) W := fun W => HIX.out 2 (by omega) W
      have ho := ones_any s2.toNat HX.out.2.2.1 wr
      have hg : f 3 = f 2 + pc 64 s2.toNat := HS.out.2.2.1
      have hfl := HL.out 3
      have HO := hid ho
      obtain ⟨q, hq⟩ : ∃ q, pc 64 s2.toNat = q := ⟨_, rfl⟩
      rw [hq] at HO hg
      have hpc : q ≤ 256 := by omega
      have HM2 : Hid (m + q = f 3) := by have := HM.out; rw [Hid]; omega
      clear ho hq hg hfl
      go_wp2_with fail
      refine HO.out.mono ?_
      rintro e w2 ⟨rfl, rfl⟩
      go_wp2_with fail
      go_roundw
      case rel => exact ⟨3, m + q, by omega, rfl, by go_num, HM2, HB.out⟩
      case measure => simp [intOf]
    | 3, _ =>
      have hix : ∀ W, (Instr.index 51 (.agg #[w64 s0, w64 s1, w64 s2, w64 s3]) (.int .i64 3)).run Try.prog W = .ok (w64 s3) W := fun W => HIX.out 3 (by omega) W
      have ho := ones_any s3.toNat HX.out.2.2.2 wr
      have hg : f 4 = f 3 + pc 64 s3.toNat := HS.out.2.2.2
      have hfl := HL.out 4
      have HO := hid ho
      obtain ⟨q, hq⟩ : ∃ q, pc 64 s3.toNat = q := ⟨_, rfl⟩
      rw [hq] at HO hg
      have hpc : q ≤ 256 := by omega
      have HM2 : Hid (m + q = f 4) := by have := HM.out; rw [Hid]; omega
      clear ho hq hg hfl
      go_wp2_with fail
      refine HO.out.mono ?_
      rintro e w2 ⟨rfl, rfl⟩
      go_wp2_with fail
      go_roundw
      case rel => exact ⟨4, m + q, by omega, rfl, by go_num, HM2, HB.out⟩
      case measure => simp [intOf]
    | 4, _ =>
      go_wp2_with fail
      go_ret
      exact ⟨by rw [← H4.out, ← HM.out]; rfl, HB.out⟩
end Go.Proofs.Ytdhoedohchbagaa
