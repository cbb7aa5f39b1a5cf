/- Zp: the reference's ticks and deadlines. Zp: the reference's deadlines that begin; whether a tick has come; a number within bounds. Zp: the reference's writer begins; whether an op comes. -/
import Derived.Test.YtpkkfdmhbbipoaaGreatDk
namespace Go.Proofs.YtpkkfdmhbbipoaaGreat
open Go.RowKit PopT
theorem J78{P:Prop}(h:P:=by
 go_enter Tryz.func175, Tryz.ntmps175;go_upto_region 1 with fail;rw [HWA.out, HGX.out];go_wp2_with fail;go_ret;rw [HR.out]; exact ⟨rfl, HBA.out⟩):P:=h
theorem Zgm (nm : ByteArray) (dl jp : Int) (A : Option Addr) (m c : Nat) (t : Int) (w : World) : Calls Tryz.prog 175 #[.agg #[nm, dl, jp, .slice A m c], t] w fun e w' => e = .returned (.bool (Ya m t)) ∧ Below w.heap.size w w' := by
 obtain ⟨wa, hwa⟩ := nE (w.alloc (.cells #[nm, dl, jp, .slice A m c] 26));have HBA := ba hwa;have HPA := bn hwa;have HWA := hid hwa;clear hwa;obtain ⟨gx, hgx⟩ := nE (w.heap.size);have HGX := hid hgx;rw [hgx] at HPA;clear hgx;have p3 := cA HPA.out 3 (.slice A m c) rfl;have hlp := HPA.lt;have HE : Hid (Ya m t = (decide (0 ≤ t) && decide (t ≤ (m : Int)))) := rfl;obtain ⟨r, hr⟩ := nE (Ya m t);rw [hr] at HE ⊢;clear hr;by_cases h0 : 0 ≤ t
 ·have HR : Hid (r = decide (t ≤ (m : Int))) := by rw [Hid, HE.out, decide_eq_true h0, Bool.true_and]
  exact J78
 ·have HR : Hid (r = false) := by rw [Hid, HE.out, decide_eq_false h0, Bool.false_and]
  exact J78
end Go.Proofs.YtpkkfdmhbbipoaaGreat
