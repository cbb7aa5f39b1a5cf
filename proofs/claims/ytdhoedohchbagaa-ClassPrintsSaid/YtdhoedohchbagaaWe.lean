/- Walks: the reference's sets. -/
import Derived.Test.YtdhoedohchbagaaTyp
import Derived.Test.YtdhoedohchbagaaMod
namespace Go.Proofs.Ytdhoedohchbagaa
open Go.RowKit

theorem div_pow_step (x m k : Nat) (hk : k < m) : x / 2 ^ (m - (k + 1)) / 2 = x / 2 ^ (m - k) := by
  rw [Nat.div_div_eq_div_mul, ← Nat.pow_succ, show (m - (k + 1)).succ = m - k from by omega]

set_option maxHeartbeats 400000 in
theorem hasR_any (s : BSet) (b : Nat) (hb : b < 256) (w : World) :
    Calls Try.prog 45 #[s.val, .int .i64 (b : Int)] w fun e w' => e = .returned (.bool (s.has b)) ∧ Below w.heap.size w w' := by
  have hcell : (w.alloc (.cells #[w64 s.w0, w64 s.w1, w64 s.w2, w64 s.w3] 51)).cell? ⟨w.heap.size, b / 64, none⟩ = some (.int .u64 ((s.word (b / 64)).toNat : Int)) := by
    rw [cell_of_row _ w.heap.size (b / 64) _ _ (0, 0) (heap_alloc_new w _)]
    have h4 : b / 64 < 4 := by omega
    generalize b / 64 = k at h4
    match k, h4 with
    | 0, _ => rfl
    | 1, _ => rfl
    | 2, _ => rfl
    | 3, _ => rfl
  have hw := (s.word (b / 64)).isLt
  have HB : Hid (s.has b = decide ((s.word (b / 64)).toNat / 2 ^ (b % 64) % 2 = 1)) := by
    unfold Hid BSet.has; rw [BitVec.getLsbD, Nat.testBit_eq_decide_div_mod_eq]
  unfold BSet.val
  generalize (s.word (b / 64)).toNat = x at *
  have HW := hid hw; clear hw
  go_enter Try.func45, Try.ntmps45
  go_wp2
  go_loop [5, 6] (fun v i => ∃ k q : Nat, k ≤ b % 64 ∧ i = .int .i64 k ∧ v = .int .u64 q ∧ q = x / 2 ^ (b % 64 - k)) (fun _ i => (intOf i).toNat)
  case atStart => exact ⟨b % 64, x, by omega, by go_num, rfl, by simp⟩
  case round =>
    obtain ⟨k, q, hk, rfl, rfl, hq⟩ := hrel
    have hqb : q ≤ 18446744073709551615 := by have := Nat.div_le_self x (2 ^ (b % 64 - k)); have := HW.out; omega
    have HQ := hid hq; clear hq
    by_cases h0 : 0 < k
    · obtain ⟨j, rfl⟩ : ∃ j, k = j + 1 := ⟨k - 1, by omega⟩
      go_wp2
      go_round
      case rel => exact ⟨j, q / 2, by omega, by go_num, by go_num, by rw [HQ.out]; exact div_pow_step x (b % 64) j (by omega)⟩
      case measure => simp [intOf]; try omega
    · go_wp2
      go_ret
      have hk0 : k = 0 := by omega
      have e : s.has b = decide (q % 2 = 1) := by rw [HB.out, HQ.out, hk0]; rfl
      refine ⟨?_, (Below.refl _ _).alloc (Nat.le_refl _) _⟩
      rw [e]
      show Ending.returned (Value.bool _) = _
      congr 2
      rw [Bool.eq_iff_iff]; simp; omega

set_option maxRecDepth 20000 in
set_option maxHeartbeats 400000 in
theorem flags_any (x : BSet) (w : World) :
    Calls Try.prog 82 #[x.val] w fun e w' => ∃ A c, e = .returned (.slice A 256 c) ∧ w'.ownsRow w.heap.size 4 1 (.slice A 256 c) 256 (boolCells (flagsM x)) ∧ Below w.heap.size w w' := by
  unfold BSet.val
  go_enter Try.func82, Try.ntmps82
  go_wp2
  have hx := Blk.new w 51 #[w64 x.w0, w64 x.w1, w64 x.w2, w64 x.w3]
  have hb0 : Below w.heap.size w (w.alloc (.cells #[w64 x.w0, w64 x.w1, w64 x.w2, w64 x.w3] 51)) := (Below.refl _ _).alloc (Nat.le_refl _) _
  obtain ⟨W1, hW1⟩ : ∃ W1, W1 = w.alloc (.cells #[w64 x.w0, w64 x.w1, w64 x.w2, w64 x.w3] 51) := ⟨_, rfl⟩
  go_loopw [3, 4] (fun v i wr => ∃ (k : Nat) (A' : Option Addr) (c' : Nat), k ≤ 256 ∧ i = .int .i64 k ∧ v = .slice A' k c' ∧ wr.ownsRow (w.heap.size + 1) 4 1 (.slice A' k c') k (boolCells ((flagsM x).take k)) ∧
      Blk wr w.heap.size 51 #[w64 x.w0, w64 x.w1, w64 x.w2, w64 x.w3] ∧ Below w.heap.size w wr ∧ w.heap.size + 1 ≤ wr.heap.size) (fun _ i _ => 256 - (intOf i).toNat)
  case atStart => exact ⟨0, _, _, by omega, rfl, rfl, by simpa [boolCells] using World.ownsRow_made (base := w.heap.size + 1) (e := 4) (size := 1) (w.alloc (.cells #[w64 x.w0, w64 x.w1, w64 x.w2, w64 x.w3] 51)) #[] 0 (by simp) (by simp [maxLen]) (by simp), hx.alloc _, hb0.alloc (by simp) _, by simp⟩
  case round =>
    obtain ⟨k, A', c', hk, rfl, rfl, hown, hbk, hb, hsz⟩ := hrel
    by_cases hlt : k < 256
    · have f0 := hbk.cell 0
      have f1 := hbk.cell 1
      have f2 := hbk.cell 2
      have f3 := hbk.cell 3
      simp only [List.getElem?_toArray, List.getElem?_cons_zero, List.getElem?_cons_succ] at f0 f1 f2 f3
      have HX : Hid (boolCells ((flagsM x).take (k + 1)) = boolCells ((flagsM x).take k) ++ [.bool (x.has k)]) := by
        rw [Hid, List.take_succ_eq_append_getElem (by rw [flagsM_length]; exact hlt)]
        simp [boolCells, flagsM]
      have HBK := hid hbk
      clear hbk hW1 hx hb0
      go_wp2_with fail
      refine (hasR_any x k hlt _).mono ?_
      rintro e w1 ⟨rfl, hb1⟩
      have hown1 := own_below hown hb1
      have hbk1 := HBK.out.below hb1 (by omega)
      have hb2 := hb.trans (hb1.mono (by omega))
      have hsz2 : w.heap.size + 1 ≤ w1.heap.size := Nat.le_trans hsz hb1.size
      have HBK1 := hid hbk1
      clear hown hb hb1 hbk1 f0 f1 f2 f3
      go_wp2_with (at_builtin; refine wpList_append1 _ rfl _ _ 121 rfl (w.heap.size + 1) 4 _ 1 1 Try.underlying121 Try.infoBool rfl (by decide) _ _ _ rfl hown1 1 [.bool (x.has k)] rfl rfl rfl ?_ (by decide) hsz2 ?_)
      · omega
      intro A2 d2 w3 hown3 hg3
      have hb3 := below_grown hb2 hown1 hg3 (by omega) (by omega)
      have hbk3 : Blk w3 w.heap.size 51 #[w64 x.w0, w64 x.w1, w64 x.w2, w64 x.w3] :=
        (hg3.block _ (by omega) (fun e => by have := (hown1.lt _ e.symm).1; omega)).trans HBK1.out
      have hsz3 := Nat.le_trans hsz2 hg3.size
      have HBK3 := hid hbk3
      clear hown1 hb2 hg3 hbk3
      go_wp2
      go_roundw
      case rel => exact ⟨k + 1, A2, d2, by omega, by go_num, rfl, by rw [HX.out]; exact hown3, HBK3.out, hb3, hsz3⟩
      case measure => simp [intOf]; omega
    · have hkk : k = 256 := by omega
      subst hkk
      go_wp2
      go_ret
      rw [List.take_of_length_le (by rw [flagsM_length]; exact Nat.le_refl _)] at hown
      exact ⟨A', c', rfl, own_base hown (by omega), hb⟩
end Go.Proofs.Ytdhoedohchbagaa
