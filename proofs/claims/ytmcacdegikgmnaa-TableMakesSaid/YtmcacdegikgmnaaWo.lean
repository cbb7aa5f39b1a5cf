/- Walks: a table's methods that a caller sees. -/
import Derived.Test.YtmcacdegikgmnaaWn
namespace Go.Proofs.Ytmcacdegikgmnaa
open Go.RowKit

theorem Tb.drewN {w : World} {g : Nat} {l : List Item} (h : Tb w g l) (n : Nat) : Tb (w.drewN n) g l := by
  simpa [Tb] using h

set_option maxHeartbeats 400000 in
theorem start_any (g : Nat) (l : List Item) (w : World) (hn : l.length ≤ 60) (ht : Tb w g l) :
    Calls Try.prog 63 #[.pointer (some ⟨g, 0, none⟩)] w fun e w' => e = .returned (w64 (startW l)) ∧ w = w' := by
  have HC : Hid (∀ W, Tb W g l → Calls Try.prog 65 #[.pointer (some ⟨g, 0, none⟩), .int .u64 1] W fun e w' => e = .returned (w64 (startW l)) ∧ W = w') := fun W h => close_any g l 1 W hn h
  go_enter Try.func63, Try.ntmps63
  go_wp2_with fail
  refine (HC.out _ ht).mono ?_
  rintro e w1 ⟨rfl, rfl⟩
  go_wp2
  go_ret
  exact ⟨rfl, rfl⟩

set_option maxHeartbeats 400000 in
theorem startC_any (g : Nat) (l : List Item) (w : World) (hn : l.length ≤ 60) (ht : Tb w g l) :
    Calls Try.prog 39 #[.pointer (some ⟨g, 0, none⟩)] w fun e w' => e = .returned (w64 (startW l)) ∧ w = w' := by
  go_enter Try.func39, Try.ntmps39
  go_wp2_with fail
  refine (start_any g l _ hn ht).mono ?_
  rintro e w1 ⟨rfl, rfl⟩
  go_wp2
  go_ret
  exact ⟨rfl, rfl⟩

set_option maxHeartbeats 400000 in
theorem step_any (g : Nat) (l : List Item) (x : BitVec 64) (b : Nat) (w : World) (hn : l.length ≤ 60) (hb : b < 256) (ht : Tb w g l) :
    Calls Try.prog 64 #[.pointer (some ⟨g, 0, none⟩), w64 x, .int .u8 (b : Int)] w fun e w' => e = .returned (w64 (stepW l x b)) ∧ Below w.heap.size w w' := by
  have HT := hid ht
  obtain ⟨h0, h1, h2, h3⟩ := ht
  have h4 := h3 b hb
  have hb0 : (0 : Int) ≤ (b : Int) := by omega
  have hb1 : (b : Int) < 256 := by omega
  clear h3
  obtain ⟨y, hy⟩ : ∃ y, y = closeW l x := ⟨_, rfl⟩
  obtain ⟨z1, hz1⟩ : ∃ z1, z1 = y &&& runsW l := ⟨_, rfl⟩
  obtain ⟨z2, hz2⟩ : ∃ z2, z2 = y &&& hasW l b := ⟨_, rfl⟩
  obtain ⟨t, htt⟩ : ∃ t, t = z2 <<< 1 := ⟨_, rfl⟩
  obtain ⟨u, hu⟩ : ∃ u, u = z1 ||| t := ⟨_, rfl⟩
  have ka1 := w_and y (runsW l)
  have ka2 := w_and y (hasW l b)
  have ks := w_shl1 z2
  have ko := w_or z1 t
  have HS : Hid (stepW l x b = closeW l u) := by rw [Hid, hu, htt, hz1, hz2, hy]; rfl
  rw [← hz1] at ka1
  rw [← hz2] at ka2
  rw [← htt] at ks
  rw [← hu] at ko
  have HC1 : Hid (∀ W, Tb W g l → Calls Try.prog 65 #[.pointer (some ⟨g, 0, none⟩), w64 x] W fun e w' => e = .returned (w64 y) ∧ W = w') := fun W h => by rw [hy]; exact close_any g l x W hn h
  have HC2 : Hid (∀ W, Tb W g l → Calls Try.prog 65 #[.pointer (some ⟨g, 0, none⟩), w64 u] W fun e w' => e = .returned (w64 (stepW l x b)) ∧ W = w') := fun W h => by rw [HS.out]; exact close_any g l u W hn h
  clear hz1 hz2 htt hu hy HS
  generalize stepW l x b = res at *
  go_enter Try.func64, Try.ntmps64
  go_wp2_with fail
  refine (HC1.out _ HT.out).mono ?_
  rintro e w1 ⟨rfl, rfl⟩
  go_wp2_with fail
  go_quiet (first | (go_at_call 65; exact Calls.quiet_of_same ((HC2.out _ (HT.out.drewN _)).mono fun _ _ h => ⟨h.1, h.2.symm⟩)))
  go_wp2
  go_ret
  exact ⟨rfl, ⟨rfl, rfl, rfl, Nat.le_refl _, fun _ _ => rfl⟩⟩

set_option maxHeartbeats 400000 in
theorem stepC_any (g : Nat) (l : List Item) (x : BitVec 64) (b : Nat) (w : World) (hn : l.length ≤ 60) (hb : b < 256) (ht : Tb w g l) :
    Calls Try.prog 44 #[.pointer (some ⟨g, 0, none⟩), w64 x, .int .u8 (b : Int)] w fun e w' => e = .returned (w64 (stepW l x b)) ∧ Below w.heap.size w w' := by
  go_enter Try.func44, Try.ntmps44
  go_wp2_with fail
  refine (step_any g l x b _ hn hb ht).mono ?_
  rintro e w1 ⟨rfl, hb1⟩
  go_wp2
  go_ret
  exact ⟨rfl, hb1⟩

set_option maxHeartbeats 400000 in
theorem seek_any (g : Nat) (l : List Item) (x : BitVec 64) (b : Nat) (w : World) (hn : l.length ≤ 60) (hb : b < 256) (ht : Tb w g l) :
    Calls Try.prog 40 #[.pointer (some ⟨g, 0, none⟩), w64 x, .int .u8 (b : Int)] w fun e w' => e = .returned (w64 (seekW l x b)) ∧ Below w.heap.size w w' := by
  obtain ⟨z, hz⟩ : ∃ z, z = seekW l x b := ⟨_, rfl⟩
  have ko := w_or (stepW l x b) (startW l)
  rw [show stepW l x b ||| startW l = z from hz.symm] at ko
  rw [← hz]
  clear hz
  have HS : Hid (∀ W, Tb W g l → Calls Try.prog 64 #[.pointer (some ⟨g, 0, none⟩), w64 x, .int .u8 (b : Int)] W fun e w' => e = .returned (w64 (stepW l x b)) ∧ Below W.heap.size W w') := fun W h => step_any g l x b W hn hb h
  have HB : Hid (∀ W, Tb W g l → Calls Try.prog 63 #[.pointer (some ⟨g, 0, none⟩)] W fun e w' => e = .returned (w64 (startW l)) ∧ W = w') := fun W h => start_any g l W hn h
  generalize stepW l x b = s1 at *
  generalize startW l = s2 at *
  go_enter Try.func40, Try.ntmps40
  go_wp2_with fail
  refine (HS.out _ ht).mono ?_
  rintro e w1 ⟨rfl, hb1⟩
  go_wp2_with fail
  refine (HB.out _ (ht.below hb1)).mono ?_
  rintro e w2 ⟨rfl, rfl⟩
  go_wp2
  go_ret
  exact ⟨rfl, hb1⟩

set_option maxHeartbeats 400000 in
theorem len_any (g : Nat) (l : List Item) (w : World) (ht : Tb w g l) :
    Calls Try.prog 42 #[.pointer (some ⟨g, 0, none⟩)] w fun e w' => e = .returned (.int .i64 (l.length : Int)) ∧ w = w' := by
  obtain ⟨h0, h1, h2, _⟩ := ht
  go_enter Try.func42, Try.ntmps42
  go_wp2
  go_ret
  exact ⟨rfl, rfl⟩

set_option maxHeartbeats 400000 in
theorem done_any (g : Nat) (l : List Item) (x : BitVec 64) (w : World) (hn : l.length ≤ 60) (ht : Tb w g l) :
    Calls Try.prog 41 #[.pointer (some ⟨g, 0, none⟩), w64 x] w fun e w' => e = .returned (.bool (doneW l x)) ∧ Below w.heap.size w w' := by
  have HT := hid ht
  obtain ⟨h0, h1, h2, _⟩ := ht
  have HC : Hid (∀ W, Tb W g l → Calls Try.prog 65 #[.pointer (some ⟨g, 0, none⟩), w64 x] W fun e w' => e = .returned (w64 (closeW l x)) ∧ W = w') := fun W h => close_any g l x W hn h
  have HB := hid (bit_of (closeW l x) l.length)
  have HD : Hid (doneW l x = (closeW l x).getLsbD l.length) := rfl
  generalize closeW l x = y at *
  go_enter Try.func41, Try.ntmps41
  go_wp2_with fail
  go_quiet (first | (go_at_call 65; exact Calls.quiet_of_same ((HC.out _ (HT.out.drewN _)).mono fun _ _ h => ⟨h.1, h.2.symm⟩)))
  go_wp2
  go_ret
  exact ⟨by rw [HD.out, ← HB.out]; rfl, ⟨rfl, rfl, rfl, Nat.le_refl _, fun _ _ => rfl⟩⟩

/-! ### No table -/
theorem startN_any (w : World) : Calls Try.prog 39 #[.pointer none] w fun e w' => e = .returned (.int .u64 0) ∧ w = w' := by
  go_enter Try.func39, Try.ntmps39
  go_wp2
  go_ret
  exact ⟨rfl, rfl⟩
theorem stepN_any (x b : Int) (w : World) : Calls Try.prog 44 #[.pointer none, .int .u64 x, .int .u8 b] w fun e w' => e = .returned (.int .u64 0) ∧ w = w' := by
  go_enter Try.func44, Try.ntmps44
  go_wp2
  go_ret
  exact ⟨rfl, rfl⟩
theorem seekN_any (x b : Int) (w : World) : Calls Try.prog 40 #[.pointer none, .int .u64 x, .int .u8 b] w fun e w' => e = .returned (.int .u64 0) ∧ w = w' := by
  go_enter Try.func40, Try.ntmps40
  go_wp2
  go_ret
  exact ⟨rfl, rfl⟩
theorem doneN_any (x : Int) (w : World) : Calls Try.prog 41 #[.pointer none, .int .u64 x] w fun e w' => e = .returned (.bool false) ∧ Below w.heap.size w w' := by
  go_enter Try.func41, Try.ntmps41
  go_wp2_with fail
  go_region
  go_wp2
  go_ret
  exact ⟨rfl, ⟨rfl, rfl, rfl, Nat.le_refl _, fun _ _ => rfl⟩⟩
theorem lenN_any (w : World) : Calls Try.prog 42 #[.pointer none] w fun e w' => e = .returned (.int .i64 0) ∧ w = w' := by
  go_enter Try.func42, Try.ntmps42
  go_wp2
  go_ret
  exact ⟨rfl, rfl⟩
end Go.Proofs.Ytmcacdegikgmnaa
