/- Walks: 'lives' of layer 9. -/
import Derived.Test.YtmcacdegikgmnaaWp
import Derived.Test.YtmcacdegikgmnaaWh
namespace Go.Proofs.Ytmcacdegikgmnaa
open Go.RowKit

theorem live9_good : goodM liveP = true := by decide +kernel
theorem live9_empty : matchM liveP [] = false := by decide +kernel
theorem live9_start : startW liveP = 1 := by decide +kernel
theorem live9_step : stepW liveP (stepW liveP 1 97) 98 = 14 := by decide +kernel
theorem live9_done : doneW liveP 14 = true := by decide +kernel
theorem live9_not : doneW liveP 6 = false := by decide +kernel

set_option maxRecDepth 20000 in
set_option maxHeartbeats 1000000 in
theorem lives9_any (w : World) : Calls Try.prog 38 #[] w fun e w' => e = .returned (.bool true) ∧ Below w.heap.size w w' := by
  have HG := hid live9_good
  have HE := hid live9_empty
  have HS := hid live9_start
  have HT := hid live9_step
  have HD := hid live9_done
  have HN := hid live9_not
  have CA := hid (fun W => ofR_any ⟨#[97]⟩ W (by decide))
  have CB := hid (fun W => ofR_any ⟨#[98]⟩ W (by decide))
  obtain ⟨L, hL⟩ : ∃ L, L = liveP := ⟨_, rfl⟩
  rw [← hL] at HG HE HS HT HD HN
  unfold liveP at hL
  generalize ofM [97] = sa at *
  generalize ofM [98] = sb at *
  have HL := hid hL
  clear hL
  go_enter Try.func38, Try.ntmps38
  go_wp2_with fail
  refine (CA.out _).mono ?_
  rintro e w1 ⟨rfl, hb1⟩
  simp only [BSet.val]
  go_wp2_with fail
  refine (CB.out _).mono ?_
  rintro e w2 ⟨rfl, hb2⟩
  simp only [BSet.val]
  have hb3 := hb1.trans (hb2.mono hb1.size)
  have hsz3 := hb3.size
  clear hb1 hb2
  have hb4 : ∀ cs, Below w.heap.size w (w2.alloc (.cells cs 42)) := fun cs => hb3.alloc hsz3 _
  have hr : Rd (w2.alloc (.cells #[.bool false, w64 sa.w0, w64 sa.w1, w64 sa.w2, w64 sa.w3, .bool true, .int .u64 0, .int .u64 0, .int .u64 0, .int .u64 0, .bool false, w64 sb.w0, w64 sb.w1, w64 sb.w2, w64 sb.w3] 42))
      (some ⟨w2.heap.size, 0, none⟩) (itemCells L) := by
    rw [HL.out]; exact Rd_lit w2 _ _
  have hl3 : L.length = 3 := by rw [HL.out]; rfl
  have HR := hid hr; have HL3 := hid hl3; have HB4 := hid hb4
  clear hr hl3 hb4
  go_wp2_with fail
  refine (compile_any _ 3 3 L _ HL3.out (by omega) HR.out).mono ?_
  rintro e w3 ⟨hcase, hb5⟩
  rcases hcase with ⟨h, _⟩ | ⟨_, h, _⟩ | ⟨_, _, g, rfl, ht⟩
  · rw [HG.out] at h; cases h
  · rw [HE.out] at h; cases h
  have hsz5 := hb5.size
  simp only [World.size_alloc] at hsz5
  have HB5 := hid ((HB4.out _).trans (hb5.mono (by simp; omega)))
  have HTB := hid ht
  have CS : Hid (∀ W, Tb W g L → Calls Try.prog 39 #[.pointer (some ⟨g, 0, none⟩)] W fun e w' => e = .returned (.int .u64 1) ∧ W = w') := fun W h => by
    have := startC_any g L W (by rw [HL3.out]; omega) h
    rw [HS.out] at this; exact this
  have C1 : Hid (∀ W, Tb W g L → Calls Try.prog 44 #[.pointer (some ⟨g, 0, none⟩), .int .u64 1, .int .u8 97] W fun e w' => e = .returned (w64 (stepW L 1 97)) ∧ Below W.heap.size W w') := fun W h =>
    stepC_any g L 1 97 W (by rw [HL3.out]; omega) (by omega) h
  have C2 : Hid (∀ W, Tb W g L → Calls Try.prog 44 #[.pointer (some ⟨g, 0, none⟩), w64 (stepW L 1 97), .int .u8 98] W fun e w' => e = .returned (.int .u64 14) ∧ Below W.heap.size W w') := fun W h => by
    have := stepC_any g L (stepW L 1 97) 98 W (by rw [HL3.out]; omega) (by omega) h
    rw [HT.out] at this; exact this
  have C3 : Hid (∀ W, Tb W g L → Calls Try.prog 41 #[.pointer (some ⟨g, 0, none⟩), .int .u64 14] W fun e w' => e = .returned (.bool true) ∧ Below W.heap.size W w') := fun W h => by
    have := done_any g L 14 W (by rw [HL3.out]; omega) h
    rw [HD.out] at this; exact this
  have C4 : Hid (∀ W, Tb W g L → Calls Try.prog 41 #[.pointer (some ⟨g, 0, none⟩), .int .u64 6] W fun e w' => e = .returned (.bool false) ∧ Below W.heap.size W w') := fun W h => by
    have := done_any g L 6 W (by rw [HL3.out]; omega) h
    rw [HN.out] at this; exact this
  clear hb5 ht
  generalize stepW L 1 97 = s1 at *
  go_wp2_with fail
  refine (CS.out _ HTB.out).mono ?_
  rintro e w4 ⟨rfl, rfl⟩
  go_wp2_with fail
  refine (C1.out _ HTB.out).mono ?_
  rintro e w5 ⟨rfl, hb6⟩
  have HT5 := hid (HTB.out.below hb6)
  have HB6 := hid (HB5.out.trans (hb6.mono HB5.out.size))
  clear hb6
  go_wp2_with fail
  refine (C2.out _ HT5.out).mono ?_
  rintro e w6 ⟨rfl, hb7⟩
  have HT6 := hid (HT5.out.below hb7)
  have HB7 := hid (HB6.out.trans (hb7.mono HB6.out.size))
  clear hb7
  go_wp2_with fail
  refine (CS.out _ HT6.out).mono ?_
  rintro e w7 ⟨rfl, rfl⟩
  go_wp2_with fail
  refine (C3.out _ HT6.out).mono ?_
  rintro e w8 ⟨rfl, hb8⟩
  have HT8 := hid (HT6.out.below hb8)
  have HB8 := hid (HB7.out.trans (hb8.mono HB7.out.size))
  clear hb8
  go_wp2_with fail
  refine (C4.out _ HT8.out).mono ?_
  rintro e w9 ⟨rfl, hb9⟩
  have HB9 := hid (HB8.out.trans (hb9.mono HB8.out.size))
  clear hb9
  go_wp2
  go_ret
  exact ⟨rfl, HB9.out⟩
end Go.Proofs.Ytmcacdegikgmnaa
