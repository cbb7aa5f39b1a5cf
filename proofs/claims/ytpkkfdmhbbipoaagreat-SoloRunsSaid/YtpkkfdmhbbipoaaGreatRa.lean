/- Walks: the reference's ticks and deadlines. Walks: the reference's deadlines that begin; whether a tick has come; a number within bounds. Walks: the reference's writer begins; whether an op comes. -/
import Derived.Test.YtpkkfdmhbbipoaaGreatDk
namespace Go.Proofs.YtpkkfdmhbbipoaaGreat
open Go.RowKit PopT
theorem Ki (t : Int) (w : World) : Calls Tryz.prog 47 #[t] w fun e w' => e = .returned (.int .i64 (Xa t)) ∧ w = w' := by
 by_cases h : t < 0
 ·have e : Xa t = 0 := by unfold Xa; rw [if_pos h]
  rw [e];go_enter Tryz.func47, Tryz.ntmps47
  go_wp2
  go_ret;exact ⟨rfl, rfl⟩
 ·have e : Xa t = t := by unfold Xa; rw [if_neg h]
  rw [e];go_enter Tryz.func47, Tryz.ntmps47
  go_wp2
  go_ret;exact ⟨rfl, rfl⟩
theorem N56{P:Prop}(h:P:=by
 go_enter Tryz.func168, Tryz.ntmps168;go_wp2_with fail;refine (C1.out _).mono ?_;rintro en w1 ⟨rfl, rfl⟩;go_wp2_with fail;refine (C2.out _).mono ?_;rintro en w1 ⟨rfl, rfl⟩;go_wp2_with fail;go_ret;rw [HR.out]; exact ⟨rfl, rfl⟩):P:=h
theorem Zox (t d : Int) (w : World) (h1 : I6 t) (h2 : I6 d) : Calls Tryz.prog 168 #[t, d] w fun e w' => e = .returned (.int .i64 (Zc0 t d)) ∧ w = w' := by
 have C1 := hid (fun W => Ki t W);have C2 := hid (fun W => Ki d W);have b1 := Jz h1.2;have b2 := Jz h2.2
 have HE : Hid (Zc0 t d = if 9223372036854775807 ≤ Xa t + Xa d then 9223372036854775807 else Xa t + Xa d) := by
  rw [Hid]; unfold Zc0 Xr; (repeat split) <;> omega
 obtain ⟨a, ha⟩ := nE (Xa t);obtain ⟨b, hb⟩ := nE (Xa d);obtain ⟨r, hr⟩ := nE (Zc0 t d);rw [ha] at C1 b1 HE;rw [hb] at C2 b2 HE;rw [hr] at HE ⊢;obtain ⟨a0, a1⟩ := b1;obtain ⟨b0, b1⟩ := b2;clear ha hb hr h1 h2;by_cases hov : 9223372036854775807 ≤ a + b
 ·have HR := hid (HE.trans (if_pos hov))
  exact N56
 ·have HR := hid (HE.trans (if_neg hov))
  exact N56
theorem Zdt (now n : Int) (w : World) (h1 : I6 now) (h2 : I6 n) : Calls Tryz.prog 145 #[now, n] w fun e w' => e = .returned (.int .i64 (Yx now n)) ∧ w = w' := by
 have CA := hid (fun W => Zox now n W h1 h2);by_cases h : n = 9223372036854775807
 ·have HR : Hid (Yx now n = 9223372036854775807) := by rw [Hid]; unfold Yx Xr; rw [if_pos h]
  have hb : (n == 9223372036854775807) = true := bT h;clear h h1 h2;go_enter Tryz.func145, Tryz.ntmps145;go_wp2_with fail;go_ret;rw [HR.out]; exact ⟨rfl, rfl⟩
 ·have HR : Hid (Yx now n = Zc0 now n) := by rw [Hid]; unfold Yx Xr; rw [if_neg h]
  have hb : (n == 9223372036854775807) = false := bF h;clear h h1 h2;go_enter Tryz.func145, Tryz.ntmps145;go_wp2_with fail;refine (CA.out _).mono ?_;rintro en w1 ⟨rfl, rfl⟩;go_wp2_with fail;go_ret;rw [HR.out]; exact ⟨rfl, rfl⟩
theorem Zku (now last : Int) (w : World) (h1 : I6 now) (h2 : I6 last) : Calls Tryz.prog 102 #[now, last] w fun e w' => e = .returned (Um now last).val ∧ Below w.heap.size w w' := by
 have C1 := hid (fun W => Zdt now last W h1 h2);unfold Um Vs.val;obtain ⟨a, ha⟩ := nE (Yx now last);rw [ha] at C1 ⊢;clear ha h1 h2;simp only [Xr];go_enter Tryz.func102, Tryz.ntmps102;go_wp2_with fail;refine (C1.out _).mono ?_;rintro e w1 ⟨rfl, rfl⟩;go_wp2_with fail;refine bodyPost_ret (v := .agg #[.int .i64 9223372036854775807, a, .int .i64 9223372036854775807]) (by simp [results, Tryz.results102, go_sem]) rfl ⟨rfl, ?_⟩;exact (Below.refl _ _).alloc (Nat.le_refl _) _
def Vf (n a b : Int) : Int := if n < a then a else if b < n then b else n
theorem N82{P:Prop}(h:P:=by
 go_enter Tryz.func144, Tryz.ntmps144;go_wp2_with fail;go_ret;rw [HE.out]; exact ⟨rfl, rfl⟩):P:=h
theorem Zaj (n a b : Int) (w : World) : Calls Tryz.prog 144 #[n, a, b] w fun e w' => e = .returned (.int .i64 (Vf n a b)) ∧ w = w' := by
 by_cases h1 : n < a
 ·have HE : Hid (Vf n a b = a) := by rw [Hid]; unfold Vf; rw [if_pos h1]
  exact N82
 by_cases h2 : b < n
 ·have HE : Hid (Vf n a b = b) := by rw [Hid]; unfold Vf; rw [if_neg h1, if_pos h2]
  exact N82
 ·have HE : Hid (Vf n a b = n) := by rw [Hid]; unfold Vf; rw [if_neg h1, if_neg h2]
  exact N82
theorem Zez (t now : Int) (w : World) : Calls Tryz.prog 131 #[t, now] w fun e w' => e = .returned (.bool (Ww t now)) ∧ w = w' := by
 have C1 := hid (fun W => Ki t W);have C2 := hid (fun W => Ki now W);by_cases h : t = 9223372036854775807
 ·have e : Ww t now = false := by unfold Ww Xr; simp [h]
  rw [e];have hb : (t != 9223372036854775807) = false := by simp [h]
  clear h e;go_enter Tryz.func131, Tryz.ntmps131;go_wp2_with fail;go_ret;exact ⟨rfl, rfl⟩
 ·have HE : Hid (Ww t now = decide (Xa t ≤ Xa now)) := by rw [Hid]; unfold Ww Xr; simp [h]
  obtain ⟨a, ha⟩ := nE (Xa t);obtain ⟨b, hb2⟩ := nE (Xa now);obtain ⟨r, hr⟩ := nE (Ww t now);rw [ha, hb2, hr] at HE;rw [ha] at C1;rw [hb2] at C2;rw [hr];have hb : (t != 9223372036854775807) = true := by simp [h]
  clear h ha hb2 hr;go_enter Tryz.func131, Tryz.ntmps131;go_wp2_with fail;refine (C2.out _).mono ?_;rintro en w1 ⟨rfl, rfl⟩;go_wp2_with fail;refine (C1.out _).mono ?_;rintro en w1 ⟨rfl, rfl⟩;go_wp2_with fail;go_ret;rw [HE.out]; exact ⟨rfl, rfl⟩
def pr20 (d o r : ByteArray) (m t : Int) : Value := .agg #[d, o, r, m, t]
theorem Zfd (out : Int) (w : World) : Calls Tryz.prog 101 #[out] w fun e w' => e = .returned (pr20 ⟨#[]⟩ ⟨#[]⟩ ⟨#[]⟩ (Vf out 1 4096) 0) ∧ Below w.heap.size w w' := by
 have C1 := hid (fun W => Zaj out 1 4096 W);obtain ⟨a, ha⟩ := nE (Vf out 1 4096);rw [ha] at C1 ⊢;clear ha;unfold pr20;go_enter Tryz.func101, Tryz.ntmps101;go_wp2_with fail;refine (C1.out _).mono ?_;rintro e w1 ⟨rfl, rfl⟩;go_wp2_with fail;refine bodyPost_ret (v := .agg #[.string ⟨#[]⟩, .string ⟨#[]⟩, .string ⟨#[]⟩, a, .int .i64 0]) (by simp [results, Tryz.results101, go_sem]) rfl ⟨rfl, ?_⟩;exact (Below.refl _ _).alloc (Nat.le_refl _) _
theorem Zhm (d o r s : ByteArray) (m t : Int) (w : World) : Calls Tryz.prog 146 #[pr20 d o r m t, s] w fun e w' => e = .returned (pr20 ⟨#[]⟩ ⟨#[]⟩ s m 0) ∧ Below w.heap.size w w' := by
 unfold pr20;go_enter Tryz.func146, Tryz.ntmps146;go_wp2_with fail;refine bodyPost_ret (v := .agg #[.string ⟨#[]⟩, .string ⟨#[]⟩, s, m, .int .i64 0]) (by simp [results, Tryz.results146, go_sem]) rfl ⟨rfl, ?_⟩;exact Uu _ _ _
theorem N93{P:Prop}(h:P:=by
 go_enter Tryz.func175, Tryz.ntmps175;go_upto_region 1 with fail;rw [HWA.out, HGX.out];go_wp2_with fail;go_ret;rw [HR.out]; exact ⟨rfl, HBA.out⟩):P:=h
theorem Zhn (nm : ByteArray) (dl jp : Int) (A : Option Addr) (m c : Nat) (t : Int) (w : World) : Calls Tryz.prog 175 #[.agg #[nm, dl, jp, .slice A m c], t] w fun e w' => e = .returned (.bool (Yh m t)) ∧ Below w.heap.size w w' := by
 obtain ⟨wa, hwa⟩ := nE (w.alloc (.cells #[nm, dl, jp, .slice A m c] 26));have HBA := ba hwa;have HPA := bn hwa;have HWA := hid hwa;clear hwa;obtain ⟨gx, hgx⟩ := nE (w.heap.size);have HGX := hid hgx;rw [hgx] at HPA;clear hgx;have p3 := cA HPA.out 3 (.slice A m c) rfl;have hlp := HPA.lt;have HE : Hid (Yh m t = (decide (0 ≤ t) && decide (t ≤ (m : Int)))) := rfl;obtain ⟨r, hr⟩ := nE (Yh m t);rw [hr] at HE ⊢;clear hr;by_cases h0 : 0 ≤ t
 ·have HR : Hid (r = decide (t ≤ (m : Int))) := by rw [Hid, HE.out, decide_eq_true h0, Bool.true_and]
  exact N93
 ·have HR : Hid (r = false) := by rw [Hid, HE.out, decide_eq_false h0, Bool.false_and]
  exact N93
end Go.Proofs.YtpkkfdmhbbipoaaGreat
