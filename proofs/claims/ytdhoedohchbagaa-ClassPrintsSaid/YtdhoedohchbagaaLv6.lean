/- Walks: layer 6's lives. -/
import Derived.Test.YtdhoedohchbagaaCz
import Derived.Test.YtdhoedohchbagaaCpr
import Derived.Test.YtdhoedohchbagaaCj
import Derived.Test.YtdhoedohchbagaaCf
namespace Go.Proofs.Ytdhoedohchbagaa
open Go.RowKit PopT

def liveS : BSet := withM (spanTo 97 3) 93
def liveT : BSet := setOf [120, 99, 98, 97]
theorem live6_read : readC ⟨#[91, 97, 45, 99, 37, 93, 93, 120]⟩ = (liveS, 7, 0) := by kernel_rfl
theorem live6_bytes : (⟨(bytesM liveS).toArray⟩ : ByteArray) = ⟨#[93, 97, 98, 99]⟩ := by kernel_rfl
theorem live6_text : strOf (textM liveT) = ⟨#[91, 97, 45, 99, 120, 93]⟩ := by kernel_rfl

set_option maxRecDepth 20000 in
set_option maxHeartbeats 800000 in
theorem lives06_any (w : World) : Calls Try.prog 34 #[] w fun e w' => e = .returned (.bool true) ∧ Below w.heap.size w w' := by
  have C1 := hid (fun W => readC_any ⟨#[91, 97, 45, 99, 37, 93, 93, 120]⟩ W (by decide))
  rw [live6_read] at C1
  have C2 := hid (fun W => bytesC_any liveS W)
  rw [live6_bytes] at C2
  have C3 := hid (fun W => of_any_set ⟨#[120, 99, 98, 97]⟩ W (by decide))
  rw [show setOf (⟨#[120, 99, 98, 97]⟩ : ByteArray).data.toList = liveT from rfl] at C3
  have C4 := hid (fun W => printC_any liveT W)
  rw [live6_text] at C4
  obtain ⟨X, hX⟩ : ∃ X, liveS = X := ⟨_, rfl⟩
  obtain ⟨Y, hY⟩ : ∃ Y, liveT = Y := ⟨_, rfl⟩
  rw [hX] at C1 C2
  rw [hY] at C3 C4
  clear hX hY
  obtain ⟨x0, x1, x2, x3⟩ := X
  obtain ⟨y0, y1, y2, y3⟩ := Y
  unfold BSet.val at C1 C2 C3 C4
  go_enter Try.func34, Try.ntmps34
  go_wp2_with fail
  refine (C1.out _).mono ?_
  rintro e w1 ⟨rfl, hb1⟩
  have HB1 := hid hb1
  have HX := hid (Blk.new w1 51 #[w64 x0, w64 x1, w64 x2, w64 x3])
  have HB2 : Hid (Below w.heap.size w (w1.alloc (.cells #[w64 x0, w64 x1, w64 x2, w64 x3] 51))) := hb1.alloc hb1.size _
  obtain ⟨c0, c1, c2, c3, -, -, -, -⟩ := blk4 HX.out
  clear hb1
  go_wp2_with fail
  refine (C2.out _).mono ?_
  rintro e w2 ⟨rfl, hb2⟩
  have HB3 := hid (HB2.out.trans (hb2.mono HB2.out.size))
  clear hb2 HX c0 c1 c2 c3
  go_wp2_with fail
  refine (C3.out _).mono ?_
  rintro e w3 ⟨rfl, hb3⟩
  have HB4 := hid (HB3.out.trans (hb3.mono HB3.out.size))
  clear hb3
  go_wp2_with fail
  refine (C4.out _).mono ?_
  rintro e w4 ⟨rfl, hb4⟩
  have HB5 := hid (HB4.out.trans (hb4.mono HB4.out.size))
  clear hb4
  go_wp2_with fail
  go_ret
  exact ⟨rfl, HB5.out⟩
end Go.Proofs.Ytdhoedohchbagaa
