/- Walks: the reference's ticks and deadlines. Walks: the reference's deadlines that begin; whether a tick has come; a number within bounds. Walks: the reference's writer begins; whether an op comes. -/
import Derived.Test.YtpkkfdmhbbipoaaGreatDk
namespace Go.Proofs.YtpkkfdmhbbipoaaGreat
open Go.RowKit PopT
theorem r13Comes_any (nm : ByteArray) (dl jp : Int) (A : Option Addr) (m c : Nat) (t : Int) (w : World) : Calls Tryz.prog 175 #[.agg #[.string nm, .int .i64 dl, .int .i64 jp, .slice A m c], .int .i64 t] w fun e w' => e = .returned (.bool (comesM m t)) ∧ Below w.heap.size w w' := by
 obtain ⟨wa, hwa⟩ : ∃ W, w.alloc (.cells #[.string nm, .int .i64 dl, .int .i64 jp, .slice A m c] 26) = W := ⟨_, rfl⟩
 have HBA : Hid (Below w.heap.size w wa) := by rw [← hwa]; exact (Below.refl _ _).alloc (Nat.le_refl _) _
 have HPA : Hid (Blk wa w.heap.size 26 #[.string nm, .int .i64 dl, .int .i64 jp, .slice A m c]) := by rw [← hwa]; exact Blk.new w _ _
 have HWA := hid hwa
 clear hwa
 obtain ⟨gx, hgx⟩ : ∃ y, w.heap.size = y := ⟨_, rfl⟩
 have HGX := hid hgx
 rw [hgx] at HPA
 clear hgx
 have p3 : wa.cell? ⟨gx, 3, none⟩ = some (.slice A m c) := HPA.out.cell 3
 have hlp := HPA.out.lt
 have HE : Hid (comesM m t = (decide (0 ≤ t) && decide (t ≤ (m : Int)))) := rfl
 obtain ⟨r, hr⟩ : ∃ y, comesM m t = y := ⟨_, rfl⟩
 rw [hr] at HE ⊢
 clear hr
 by_cases h0 : 0 ≤ t
 ·have HR : Hid (r = decide (t ≤ (m : Int))) := by rw [Hid, HE.out, decide_eq_true h0, Bool.true_and]
  go_enter Tryz.func175, Tryz.ntmps175
  go_upto_region 1 with fail
  rw [HWA.out, HGX.out]
  go_wp2_with fail
  go_ret
  rw [HR.out]; exact ⟨rfl, HBA.out⟩
 ·have HR : Hid (r = false) := by rw [Hid, HE.out, decide_eq_false h0, Bool.false_and]
  go_enter Tryz.func175, Tryz.ntmps175
  go_upto_region 1 with fail
  rw [HWA.out, HGX.out]
  go_wp2_with fail
  go_ret
  rw [HR.out]; exact ⟨rfl, HBA.out⟩
end Go.Proofs.YtpkkfdmhbbipoaaGreat
