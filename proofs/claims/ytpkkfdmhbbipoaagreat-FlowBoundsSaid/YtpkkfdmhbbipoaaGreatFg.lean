/- Zp: the reference's Loops (layer 24). Zp: the reference's Steps (layer 24). -/
import Derived.Test.YtpkkfdmhbbipoaaGreatFf
import Derived.Test.YtpkkfdmhbbipoaaGreatFd
import Derived.Test.YtpkkfdmhbbipoaaGreatEb
namespace Go.Proofs.YtpkkfdmhbbipoaaGreat
open Go.RowKit PopT
section
variable {p : Zv} {A : Option Addr} {c : Nat} {w : World}
end
def cI (out k : Int) : Int := if k ≤ 0 then 0 else (k + out - 1) / out
theorem Zro {out k : Int} (ho : 1 ≤ out) (h : 0 < k) : cI out k = 1 + cI out (k - out) := by
 unfold cI;rw [if_neg aa];split
 ·rename_i h2
  have e : (k + out - 1) / out = 1 := by
   rw [show k + out - 1 = (k - 1) + 1 * out by omega, Int.add_mul_ediv_right _ _ aa, Int.ediv_eq_zero_of_lt aa aa]; omega
  omega
 ·rw [show k + out - 1 = (k - out + out - 1) + 1 * out by omega, Int.add_mul_ediv_right _ _ aa]; omega
theorem Zr1 {out k : Int} (ho : 1 ≤ out) (h : 0 ≤ k) : 0 ≤ cI out k ∧ cI out k ≤ k := by
 unfold cI;split
 ·omega
 ·have h0 : 0 ≤ (k + out - 1) / out := Int.ediv_nonneg aa aa
  have h1 : (k + out - 1) / out < k + 1 := by
   refine Int.ediv_lt_of_lt_mul aa ?_;have h2 : k * out ≥ k * 1 := Int.mul_le_mul_of_nonneg_left ho h;rw [Int.add_mul]; omega
  omega
theorem Zee {out : Int} {n : Nat} {o : OpV} (ho : 1 ≤ out) (h : opE n o = 0) : Jo out o = 1 + cI out o.text.size := by
 unfold Jo;split
 ·rename_i hk
  unfold cI
  have ht : o.text.size ≠ 0 := by
   have hb := Kf h;unfold opE at h;rw [if_neg aa, if_neg ft, if_pos hk] at h;split at h
   ·omega
   ·assumption
  rw [if_neg aa, Int.tdiv_eq_ediv_of_nonneg aa]
 ·rename_i hk
  rw [Zfo h hk]; rfl
section
variable {p : Zv} {A : Option Addr} {c : Nat} {w : World}
end
end Go.Proofs.YtpkkfdmhbbipoaaGreat
