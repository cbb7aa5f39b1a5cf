/- Ticks: plain functions, and the walks of package tick: own, Own, Due. -/
import Derived.Test.YtpkkfdmhbbipoaaTyp
import Derived.Test.YtpkkfdmhbbipoaaMod
import Derived.Test.YtpkkfdmhbbipoaaKeep
namespace Go.Proofs.Ytpkkfdmhbbipoaa
open Go.RowKit

def neverT : Int := 9223372036854775807
def ownT (t : Int) : Int := if t < 0 then 0 else t
def dueT (t now : Int) : Bool := decide (t ≠ neverT) && decide (ownT t ≤ ownT now)

theorem own_any (t : Int) (w : World) : Calls Try.prog 94 #[.int .i64 t] w fun e w' => e = .returned (.int .i64 (ownT t)) ∧ w = w' := by
  by_cases h : t < 0
  · have e : ownT t = 0 := by unfold ownT; rw [if_pos h]
    have hm : max t 0 = 0 := by omega
    rw [e]
    go_enter Try.func94, Try.ntmps94
    go_wp2
    go_ret
    exact ⟨by first | rfl | (show Ending.returned (.int .i64 _) = _; congr 2; omega), rfl⟩
  · have e : ownT t = t := by unfold ownT; rw [if_neg h]
    have hm : max t 0 = t := by omega
    rw [e]
    go_enter Try.func94, Try.ntmps94
    go_wp2
    go_ret
    exact ⟨by first | rfl | (show Ending.returned (.int .i64 _) = _; congr 2; omega), rfl⟩
end Go.Proofs.Ytpkkfdmhbbipoaa
