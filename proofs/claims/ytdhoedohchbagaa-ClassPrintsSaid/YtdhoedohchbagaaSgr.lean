/- Walks: the reference's sign. -/
import Derived.Test.YtdhoedohchbagaaCpr
namespace Go.Proofs.Ytdhoedohchbagaa
open Go.RowKit

theorem one_toList (u : UInt8) : (⟨#[u]⟩ : ByteArray).toList = [u] := by
  simp [ByteArray.toList, ByteArray.toList.loop, ByteArray.size, ByteArray.get!]

set_option maxRecDepth 20000 in
set_option maxHeartbeats 1000000 in
theorem signR_any (c : Nat) (hc : c < 256) (w : World) :
    Calls Try.prog 83 #[.int .i64 (c : Int)] w fun e w' => e = .returned (.string (strOf (signM c))) ∧ Below w.heap.size w w' := by
  have HO := World.ownsRow_lit (base := w.heap.size) (e := 5) (size := 1) w #[.int .u8 (c : Int)] 1 (Nat.le_refl _) (by simp [maxLen]) (by simp)
  have hcv := conv_own (P := Try.prog) (src := 69) (dst := 9) [UInt8.ofNat c] Try.underlying69 Try.underlying5 Try.underlying9 (by simpa [UInt8.toNat_ofNat_of_lt' hc, Nat.mod_eq_of_lt hc] using HO)
  have HB : Hid (Below w.heap.size w (w.alloc (.cells #[.int .u8 (c : Int)] 5))) := (Below.refl w.heap.size w).alloc (Nat.le_refl _) _
  clear HO
  obtain ⟨S, hS⟩ : ∃ S, (⟨[UInt8.ofNat c].toArray⟩ : ByteArray) = S := ⟨_, rfl⟩
  rw [hS] at hcv
  have hl : S.toList = [UInt8.ofNat c] := by rw [← hS]; exact one_toList _
  have HS : ∀ d : Nat, d < 256 → ((S.toList = [UInt8.ofNat d]) ↔ c = d) := by
    intro d hd
    rw [hl]
    constructor
    · intro h
      injection h with h _
      have := congrArg UInt8.toNat h
      rwa [UInt8.toNat_ofNat_of_lt' hc, UInt8.toNat_ofNat_of_lt' hd] at this
    · rintro rfl; rfl
  have HST : Hid (strOf [c] = S) := by rw [Hid, ← hS]; rfl
  have HSQ : Hid (strOf [37, c] = (⟨#[37]⟩ : ByteArray) ++ S) := by rw [Hid, ← hS]; rfl
  have k37 := HS 37 (by omega)
  have k93 := HS 93 (by omega)
  have k45 := HS 45 (by omega)
  have k94 := HS 94 (by omega)
  rw [show UInt8.ofNat 37 = 37 from rfl] at k37
  rw [show UInt8.ofNat 93 = 93 from rfl] at k93
  rw [show UInt8.ofNat 45 = 45 from rfl] at k45
  rw [show UInt8.ofNat 94 = 94 from rfl] at k94
  have hz : S.size = 1 := by rw [← hS]; rfl
  clear HS hS hl
  by_cases h0 : c = 37
  · have hr : Hid (signM c = [37, c]) := by rw [Hid, signM, if_pos (by omega)]
    have z37 : S.toList = [37] := k37.2 h0
    clear k37 k93 k45 k94 h0
    go_enter Try.func83, Try.ntmps83
    go_wp2_with fail
    go_ret
    exact ⟨by rw [hr.out, HSQ.out]; rfl, HB.out⟩
  · skip
    by_cases h1 : c = 93
    · have hr : Hid (signM c = [37, c]) := by rw [Hid, signM, if_pos (by omega)]
      have z37 : ¬ S.toList = [37] := fun hh => h0 (k37.1 hh)
      have y37 : (S.toList == [37]) = false := by rw [beq_eq_false_iff_ne]; exact z37
      have z93 : S.toList = [93] := k93.2 h1
      clear k37 k93 k45 k94 h0 h1
      go_enter Try.func83, Try.ntmps83
      go_wp2_with fail
      go_ret
      exact ⟨by rw [hr.out, HSQ.out]; rfl, HB.out⟩
    · skip
      by_cases h2 : c = 45
      · have hr : Hid (signM c = [37, c]) := by rw [Hid, signM, if_pos (by omega)]
        have z37 : ¬ S.toList = [37] := fun hh => h0 (k37.1 hh)
        have y37 : (S.toList == [37]) = false := by rw [beq_eq_false_iff_ne]; exact z37
        have z93 : ¬ S.toList = [93] := fun hh => h1 (k93.1 hh)
        have y93 : (S.toList == [93]) = false := by rw [beq_eq_false_iff_ne]; exact z93
        have z45 : S.toList = [45] := k45.2 h2
        clear k37 k93 k45 k94 h0 h1 h2
        go_enter Try.func83, Try.ntmps83
        go_wp2_with fail
        go_ret
        exact ⟨by rw [hr.out, HSQ.out]; rfl, HB.out⟩
      · skip
        by_cases h3 : c = 94
        · have hr : Hid (signM c = [37, c]) := by rw [Hid, signM, if_pos (by omega)]
          have z37 : ¬ S.toList = [37] := fun hh => h0 (k37.1 hh)
          have y37 : (S.toList == [37]) = false := by rw [beq_eq_false_iff_ne]; exact z37
          have z93 : ¬ S.toList = [93] := fun hh => h1 (k93.1 hh)
          have y93 : (S.toList == [93]) = false := by rw [beq_eq_false_iff_ne]; exact z93
          have z45 : ¬ S.toList = [45] := fun hh => h2 (k45.1 hh)
          have y45 : (S.toList == [45]) = false := by rw [beq_eq_false_iff_ne]; exact z45
          have z94 : S.toList = [94] := k94.2 h3
          clear k37 k93 k45 k94 h0 h1 h2 h3
          go_enter Try.func83, Try.ntmps83
          go_wp2_with fail
          go_ret
          exact ⟨by rw [hr.out, HSQ.out]; rfl, HB.out⟩
        · skip
          have hr : Hid (signM c = [c]) := by rw [Hid, signM, if_neg (by omega)]
          have z37 : ¬ S.toList = [37] := fun hh => h0 (k37.1 hh)
          have y37 : (S.toList == [37]) = false := by rw [beq_eq_false_iff_ne]; exact z37
          have z93 : ¬ S.toList = [93] := fun hh => h1 (k93.1 hh)
          have y93 : (S.toList == [93]) = false := by rw [beq_eq_false_iff_ne]; exact z93
          have z45 : ¬ S.toList = [45] := fun hh => h2 (k45.1 hh)
          have y45 : (S.toList == [45]) = false := by rw [beq_eq_false_iff_ne]; exact z45
          have z94 : ¬ S.toList = [94] := fun hh => h3 (k94.1 hh)
          have y94 : (S.toList == [94]) = false := by rw [beq_eq_false_iff_ne]; exact z94
          clear k37 k93 k45 k94 h0 h1 h2 h3
          go_enter Try.func83, Try.ntmps83
          go_wp2_with fail
          go_ret
          exact ⟨by rw [hr.out, HST.out]; rfl, HB.out⟩
end Go.Proofs.Ytdhoedohchbagaa
