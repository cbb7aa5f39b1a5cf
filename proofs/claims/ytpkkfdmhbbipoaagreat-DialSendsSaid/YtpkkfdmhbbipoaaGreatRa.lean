/- Walks: the reference's ticks and deadlines. Walks: the reference's deadlines that begin; whether a tick has come; a number within bounds. Walks: the reference's writer begins; whether an op comes. -/
import Derived.Test.YtpkkfdmhbbipoaaGreatDk
namespace Go.Proofs.YtpkkfdmhbbipoaaGreat
open Go.RowKit PopT
theorem rOwn_any (t : Int) (w : World) : Calls Tryz.prog 47 #[.int .i64 t] w fun e w' => e = .returned (.int .i64 (ownT t)) ∧ w = w' := by
 by_cases h : t < 0
 ·have e : ownT t = 0 := by unfold ownT; rw [if_pos h]
  rw [e]
  go_enter Tryz.func47, Tryz.ntmps47
  go_wp2
  go_ret
  exact ⟨rfl, rfl⟩
 ·have e : ownT t = t := by unfold ownT; rw [if_neg h]
  rw [e]
  go_enter Tryz.func47, Tryz.ntmps47
  go_wp2
  go_ret
  exact ⟨rfl, rfl⟩
theorem rAdd_any (t d : Int) (w : World) (h1 : I6 t) (h2 : I6 d) : Calls Tryz.prog 168 #[.int .i64 t, .int .i64 d] w fun e w' => e = .returned (.int .i64 (addT t d)) ∧ w = w' := by
 have C1 := hid (fun W => rOwn_any t W)
 have C2 := hid (fun W => rOwn_any d W)
 have b1 := ownT_bd h1.2
 have b2 := ownT_bd h2.2
 have HE : Hid (addT t d = if 9223372036854775807 ≤ ownT t + ownT d then 9223372036854775807 else ownT t + ownT d) := by
  rw [Hid]; unfold addT neverT; (repeat split) <;> omega
 obtain ⟨a, ha⟩ : ∃ y, ownT t = y := ⟨_, rfl⟩
 obtain ⟨b, hb⟩ : ∃ y, ownT d = y := ⟨_, rfl⟩
 obtain ⟨r, hr⟩ : ∃ y, addT t d = y := ⟨_, rfl⟩
 rw [ha] at C1 b1 HE
 rw [hb] at C2 b2 HE
 rw [hr] at HE ⊢
 obtain ⟨a0, a1⟩ := b1
 obtain ⟨b0, b1⟩ := b2
 clear ha hb hr h1 h2
 by_cases hov : 9223372036854775807 ≤ a + b
 ·have HR := hid (HE.out.trans (if_pos hov))
  go_enter Tryz.func168, Tryz.ntmps168
  go_wp2_with fail
  refine (C1.out _).mono ?_
  rintro en w1 ⟨rfl, rfl⟩
  go_wp2_with fail
  refine (C2.out _).mono ?_
  rintro en w1 ⟨rfl, rfl⟩
  go_wp2_with fail
  go_ret
  rw [HR.out]; exact ⟨rfl, rfl⟩
 ·have HR := hid (HE.out.trans (if_neg hov))
  go_enter Tryz.func168, Tryz.ntmps168
  go_wp2_with fail
  refine (C1.out _).mono ?_
  rintro en w1 ⟨rfl, rfl⟩
  go_wp2_with fail
  refine (C2.out _).mono ?_
  rintro en w1 ⟨rfl, rfl⟩
  go_wp2_with fail
  go_ret
  rw [HR.out]; exact ⟨rfl, rfl⟩
theorem rBehind_any (now n : Int) (w : World) (h1 : I6 now) (h2 : I6 n) : Calls Tryz.prog 145 #[.int .i64 now, .int .i64 n] w fun e w' => e = .returned (.int .i64 (behindT now n)) ∧ w = w' := by
 have CA := hid (fun W => rAdd_any now n W h1 h2)
 by_cases h : n = 9223372036854775807
 ·have HR : Hid (behindT now n = 9223372036854775807) := by rw [Hid]; unfold behindT neverT; rw [if_pos h]
  have hb : (n == 9223372036854775807) = true := by rw [beq_iff_eq]; exact h
  clear h h1 h2
  go_enter Tryz.func145, Tryz.ntmps145
  go_wp2_with fail
  go_ret
  rw [HR.out]; exact ⟨rfl, rfl⟩
 ·have HR : Hid (behindT now n = addT now n) := by rw [Hid]; unfold behindT neverT; rw [if_neg h]
  have hb : (n == 9223372036854775807) = false := by rw [beq_eq_false_iff_ne]; exact h
  clear h h1 h2
  go_enter Tryz.func145, Tryz.ntmps145
  go_wp2_with fail
  refine (CA.out _).mono ?_
  rintro en w1 ⟨rfl, rfl⟩
  go_wp2_with fail
  go_ret
  rw [HR.out]; exact ⟨rfl, rfl⟩
theorem rBegin_any (now last : Int) (w : World) (h1 : I6 now) (h2 : I6 last) : Calls Tryz.prog 102 #[.int .i64 now, .int .i64 last] w fun e w' => e = .returned (dueBegin now last).val ∧ Below w.heap.size w w' := by
 have C1 := hid (fun W => rBehind_any now last W h1 h2)
 unfold dueBegin DueV.val
 obtain ⟨a, ha⟩ : ∃ y, behindT now last = y := ⟨_, rfl⟩
 rw [ha] at C1 ⊢
 clear ha h1 h2
 simp only [neverT]
 go_enter Tryz.func102, Tryz.ntmps102
 go_wp2_with fail
 refine (C1.out _).mono ?_
 rintro e w1 ⟨rfl, rfl⟩
 go_wp2_with fail
 refine bodyPost_ret (v := .agg #[.int .i64 9223372036854775807, .int .i64 a, .int .i64 9223372036854775807]) (by simp [results, Tryz.results102, go_sem]) rfl ⟨rfl, ?_⟩
 exact (Below.refl _ _).alloc (Nat.le_refl _) _
def withinI (n a b : Int) : Int := if n < a then a else if b < n then b else n
theorem rWithin_any (n a b : Int) (w : World) : Calls Tryz.prog 144 #[.int .i64 n, .int .i64 a, .int .i64 b] w fun e w' => e = .returned (.int .i64 (withinI n a b)) ∧ w = w' := by
 by_cases h1 : n < a
 ·have HE : Hid (withinI n a b = a) := by rw [Hid]; unfold withinI; rw [if_pos h1]
  go_enter Tryz.func144, Tryz.ntmps144
  go_wp2_with fail
  go_ret
  rw [HE.out]; exact ⟨rfl, rfl⟩
 by_cases h2 : b < n
 ·have HE : Hid (withinI n a b = b) := by rw [Hid]; unfold withinI; rw [if_neg h1, if_pos h2]
  go_enter Tryz.func144, Tryz.ntmps144
  go_wp2_with fail
  go_ret
  rw [HE.out]; exact ⟨rfl, rfl⟩
 ·have HE : Hid (withinI n a b = n) := by rw [Hid]; unfold withinI; rw [if_neg h1, if_neg h2]
  go_enter Tryz.func144, Tryz.ntmps144
  go_wp2_with fail
  go_ret
  rw [HE.out]; exact ⟨rfl, rfl⟩
def pr20 (d o r : ByteArray) (m t : Int) : Value := .agg #[.string d, .string o, .string r, .int .i64 m, .int .i64 t]
theorem r20New_any (out : Int) (w : World) : Calls Tryz.prog 101 #[.int .i64 out] w fun e w' => e = .returned (pr20 ⟨#[]⟩ ⟨#[]⟩ ⟨#[]⟩ (withinI out 1 4096) 0) ∧ Below w.heap.size w w' := by
 have C1 := hid (fun W => rWithin_any out 1 4096 W)
 obtain ⟨a, ha⟩ : ∃ y, withinI out 1 4096 = y := ⟨_, rfl⟩
 rw [ha] at C1 ⊢
 clear ha
 unfold pr20
 go_enter Tryz.func101, Tryz.ntmps101
 go_wp2_with fail
 refine (C1.out _).mono ?_
 rintro e w1 ⟨rfl, rfl⟩
 go_wp2_with fail
 refine bodyPost_ret (v := .agg #[.string ⟨#[]⟩, .string ⟨#[]⟩, .string ⟨#[]⟩, .int .i64 a, .int .i64 0]) (by simp [results, Tryz.results101, go_sem]) rfl ⟨rfl, ?_⟩
 exact (Below.refl _ _).alloc (Nat.le_refl _) _
theorem r20Begin_any (d o r s : ByteArray) (m t : Int) (w : World) : Calls Tryz.prog 146 #[pr20 d o r m t, .string s] w fun e w' => e = .returned (pr20 ⟨#[]⟩ ⟨#[]⟩ s m 0) ∧ Below w.heap.size w w' := by
 unfold pr20
 go_enter Tryz.func146, Tryz.ntmps146
 go_wp2_with fail
 refine bodyPost_ret (v := .agg #[.string ⟨#[]⟩, .string ⟨#[]⟩, .string s, .int .i64 m, .int .i64 0]) (by simp [results, Tryz.results146, go_sem]) rfl ⟨rfl, ?_⟩
 exact below2 _ _ _
theorem r13Comes_any (nm : ByteArray) (dl jp : Int) (A : Option Addr) (m c : Nat) (t : Int) (w : World) : Calls Tryz.prog 175 #[.agg #[.string nm, .int .i64 dl, .int .i64 jp, .slice A m c], .int .i64 t] w fun e w' => e = .returned (.bool (comesM m t)) ∧ Below w.heap.size w w' := by
 obtain ⟨wa, hwa⟩ : ∃ W, w.alloc (.cells #[.string nm, .int .i64 dl, .int .i64 jp, .slice A m c] 26) = W := ⟨_, rfl⟩
 have HBA : Hid (Below w.heap.size w wa) := by rw [← hwa]; exact (Below.refl _ _).alloc (Nat.le_refl _) _
 have HPA : Hid (Blk wa w.heap.size 26 #[.string nm, .int .i64 dl, .int .i64 jp, .slice A m c]) := by rw [← hwa]; exact Blk.new w _ _
 have HWA := hid hwa
 clear hwa
 obtain ⟨gx, hgx⟩ : ∃ y, w.heap.size = y := ⟨_, rfl⟩
 have HGX := hid hgx
 rw [hgx] at HPA
 clear hgx
 have p3 : wa.cell? ⟨gx, 3, none⟩ = some (.slice A m c) := HPA.out.cell 3
 have hlp := HPA.out.lt
 have HE : Hid (comesM m t = (decide (0 ≤ t) && decide (t ≤ (m : Int)))) := rfl
 obtain ⟨r, hr⟩ : ∃ y, comesM m t = y := ⟨_, rfl⟩
 rw [hr] at HE ⊢
 clear hr
 by_cases h0 : 0 ≤ t
 ·have HR : Hid (r = decide (t ≤ (m : Int))) := by rw [Hid, HE.out, decide_eq_true h0, Bool.true_and]
  go_enter Tryz.func175, Tryz.ntmps175
  go_upto_region 1 with fail
  rw [HWA.out, HGX.out]
  go_wp2_with fail
  go_ret
  rw [HR.out]; exact ⟨rfl, HBA.out⟩
 ·have HR : Hid (r = false) := by rw [Hid, HE.out, decide_eq_false h0, Bool.false_and]
  go_enter Tryz.func175, Tryz.ntmps175
  go_upto_region 1 with fail
  rw [HWA.out, HGX.out]
  go_wp2_with fail
  go_ret
  rw [HR.out]; exact ⟨rfl, HBA.out⟩
end Go.Proofs.YtpkkfdmhbbipoaaGreat
