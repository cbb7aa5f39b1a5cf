/- Walks: 'lives' of layer 8. -/
import Derived.Test.YtmcacdegikgmnaaWg
namespace Go.Proofs.Ytmcacdegikgmnaa
open Go.RowKit

def liveP : List Item := [⟨false, ofM [97]⟩, ⟨true, BSet.zero⟩, ⟨false, ofM [98]⟩]
theorem live_first : firstM liveP [120, 97, 97, 98] = (1, 4, true) := by decide +kernel
theorem live_ab : matchM liveP [97, 98] = true := by decide +kernel
theorem live_a : matchM liveP [97] = false := by decide +kernel

set_option maxRecDepth 20000 in
set_option maxHeartbeats 1000000 in
theorem lives8_any (w : World) : Calls Try.prog 15 #[] w fun e w' => e = .returned (.bool true) ∧ Below w.heap.size w w' := by
  have HF := hid live_first
  have HAB := hid live_ab
  have HA := hid live_a
  have CA := hid (fun W => ofR_any ⟨#[97]⟩ W (by decide))
  have CB := hid (fun W => ofR_any ⟨#[98]⟩ W (by decide))
  obtain ⟨L, hL⟩ : ∃ L, L = liveP := ⟨_, rfl⟩
  rw [← hL] at HF HAB HA
  unfold liveP at hL
  generalize ofM [97] = sa at *
  generalize ofM [98] = sb at *
  have HL := hid hL
  clear hL
  go_enter Try.func15, Try.ntmps15
  go_wp2_with fail
  refine (CA.out _).mono ?_
  rintro e w1 ⟨rfl, hb1⟩
  simp only [BSet.val]
  go_wp2_with fail
  refine (CB.out _).mono ?_
  rintro e w2 ⟨rfl, hb2⟩
  simp only [BSet.val]
  have hb3 := hb1.trans (hb2.mono hb1.size)
  have hsz3 := hb3.size
  clear hb1 hb2
  have hb4 : ∀ cs, Below w.heap.size w (w2.alloc (.cells cs 42)) := fun cs => hb3.alloc hsz3 _
  have hr : Rd (w2.alloc (.cells #[.bool false, w64 sa.w0, w64 sa.w1, w64 sa.w2, w64 sa.w3, .bool true, .int .u64 0, .int .u64 0, .int .u64 0, .int .u64 0, .bool false, w64 sb.w0, w64 sb.w1, w64 sb.w2, w64 sb.w3] 42))
      (some ⟨w2.heap.size, 0, none⟩) (itemCells L) := by
    rw [HL.out]; exact Rd_lit w2 _ _
  have hl3 : L.length = 3 := by rw [HL.out]; rfl
  have HR := hid hr; have HL3 := hid hl3; have HB4 := hid hb4
  clear hr hl3 hb4
  go_wp2_with fail
  refine (first_any _ 3 3 L ⟨#[120, 97, 97, 98]⟩ _ HL3.out (by omega) HR.out (by decide)).mono ?_
  rw [show (⟨#[120, 97, 97, 98]⟩ : ByteArray).data.toList = [120, 97, 97, 98] from rfl, HF.out]
  rintro e w3 ⟨rfl, hb5⟩
  have HR2 := hid (HR.out.below hb5)
  have hsz5 := hb5.size
  simp only [World.size_alloc] at hsz5
  have HB5 := hid ((HB4.out _).trans (hb5.mono (by simp; omega)))
  clear hb5
  go_wp2_with fail
  refine (matchesC_any _ 3 3 L ⟨#[97, 98]⟩ _ HL3.out (by omega) HR2.out (by decide)).mono ?_
  rw [show (⟨#[97, 98]⟩ : ByteArray).data.toList = [97, 98] from rfl, HAB.out]
  rintro e w4 ⟨rfl, hb6⟩
  have HR3 := hid (HR2.out.below hb6)
  have HB6 := hid (HB5.out.trans (hb6.mono (by omega)))
  have hsz6 := hb6.size
  clear hb6
  go_wp2_with fail
  refine (matchesC_any _ 3 3 L ⟨#[97]⟩ _ HL3.out (by omega) HR3.out (by decide)).mono ?_
  rw [show (⟨#[97]⟩ : ByteArray).data.toList = [97] from rfl, HA.out]
  rintro e w5 ⟨rfl, hb7⟩
  have HB7 := hid (HB6.out.trans (hb7.mono (by omega)))
  clear hb7
  go_wp2
  go_ret
  exact ⟨rfl, HB7.out⟩
end Go.Proofs.Ytmcacdegikgmnaa
