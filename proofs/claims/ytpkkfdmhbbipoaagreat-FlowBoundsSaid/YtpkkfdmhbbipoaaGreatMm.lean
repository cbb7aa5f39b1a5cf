/- Zp: layer 10's Check (the program's and the reference's), texts cut. Zp: the reference's New of layer 10: a list of patterns. -/
import Derived.Test.YtpkkfdmhbbipoaaGreatMl
import Derived.Test.YtpkkfdmhbbipoaaGreatMg
import Derived.Test.YtpkkfdmhbbipoaaGreatMh
namespace Go.Proofs.YtpkkfdmhbbipoaaGreat
set_option maxRecDepth 20000
set_option maxHeartbeats 1600000
open Go.RowKit PopT
theorem Zmx (p : ByteArray) (f : Nat) (out : List Zl) (a : Nat) (h : (Wa p f out a).2.2 = 0) : (Wa p f out a).2.1 = 0 := by
 induction f generalizing out a with
 | zero => rfl
 | succ f ih =>
  rw [Wa] at h ⊢;by_cases h1 : a < p.size
  ·rw [if_pos h1] at h ⊢
   by_cases h2 : out.length = 60
   ·rw [if_pos h2] at h; exact absurd h (show ¬ (4 : Nat) = 0 by decide)
   ·rw [if_neg h2] at h ⊢
    by_cases h3 : (Wn (Yh p a)).2.2 = 0
    ·rw [if_pos h3] at h ⊢; exact ih _ _ h
    ·rw [if_neg h3] at h; exact absurd h h3
  ·rw [if_neg h1]
theorem Znb (l : List Zl) : Kd l = 0 ↔ Vm l [] = true := by
 rw [Zfq, Zef, Kd, List.length_eq_zero_iff, List.filter_eq_nil_iff, Bool.not_eq_true', List.any_eq_false]
def Xm (p : ByteArray) : List Zl × Nat × Nat := if (Yw p).2.2 = 0 ∧ Vm (Yw p).1 [] = true then ([], 0, 9) else Yw p
theorem Zcu (p : ByteArray) (ps : List ByteArray) (i : Nat) (acc : List (List Zl)) :
  Uc (p :: ps) i acc = if (Xm p).2.2 ≠ 0 then ([], i, (Xm p).2.2) else Uc ps (i + 1) (acc ++ [(Xm p).1]) := by
 by_cases h : (Yw p).2.2 = 0
 ·by_cases hm : Vm (Yw p).1 [] = true
  ·have e : Xm p = ([], 0, 9) := by rw [Xm, if_pos ⟨h, hm⟩]
   rw [Uc, e, if_neg (not_not_intro h), if_pos hm, if_pos (show (9 : Nat) ≠ 0 by decide)]
  ·have e : Xm p = Yw p := by rw [Xm, if_neg (fun h' => hm h'.2)]
   rw [Uc, e, if_neg (not_not_intro h), if_neg hm, if_neg (not_not_intro h)]
 ·have e : Xm p = Yw p := by rw [Xm, if_neg (fun h' => h h'.1)]
  rw [Uc, e, if_pos h, if_pos h]
theorem Zi2 (p : ByteArray) (hp : p.size ≤ 1000000) (w : World) :
  Calls Tryz.prog 216 #[p] w fun e w' => e = .returned (.tuple #[.int .i64 ((Xm p).2.1 : Nat), .int .i64 ((Xm p).2.2 : Nat)]) ∧ Below w.heap.size w w' := by
 have C1 := hid (Zh1 p hp w);have HAT := hid (Zmx p 61 [] 0);have HC : Hid (Xm p = if (Yw p).2.2 = 0 ∧ Vm (Yw p).1 [] = true then ([], 0, 9) else Yw p) := rfl;rw [show Wa p 61 [] 0 = Yw p from rfl] at HAT;obtain ⟨c, hc⟩ := nE (Xm p);obtain ⟨⟨l, a, e⟩, hR⟩ : ∃ R, Yw p = R := ⟨_, rfl⟩;rw [hR] at C1 HAT HC;rw [hc] at HC ⊢;simp only at HAT HC;clear hR hc;go_enter Tryz.func216, Tryz.ntmps216;go_wp2_with fail;refine C1.mono ?_;rintro en w1 ⟨hb1, hres⟩;have HB1 := hid hb1;clear hb1 C1;rcases hres with ⟨he, rfl⟩ | ⟨he, hm, rfl⟩ | ⟨he, hm, g, rfl, -, -⟩
 ·have he' : e ≠ 0 := he
  have HE : Hid (c = (l, a, e)) := by rw [Hid, HC.out, if_neg (fun h => he' h.1)]
  clear he he' HC HAT;go_wp2_with fail
  go_ret2
  rw [HE.out]; exact ⟨rfl, HB1.out⟩
 ·have he' : e = 0 := he
  have HE : Hid (c = ([], 0, 9)) := by rw [Hid, HC.out, if_pos ⟨he', hm⟩]
  clear he he' hm HC HAT;go_wp2_with fail
  go_ret2
  rw [HE.out]; exact ⟨rfl, HB1.out⟩
 ·have he' : e = 0 := he
  have HE : Hid (c = (l, 0, 0)) := by rw [Hid, HC.out, if_neg (fun h => absurd (hm.symm.trans h.2) ac), HAT.out he', he']
  clear he he' hm HC HAT;go_wp2_with fail
  go_ret2
  rw [HE.out]; exact ⟨rfl, HB1.out⟩
theorem Zlf (p : ByteArray) (hp : p.size ≤ 1000000) (w : World) :
  Calls Tryz.prog 194 #[p] w fun e w' => Vu (Xm p) w e w' := by
 have C1 := hid (Zj3 p hp w);have HLN := hid (Ks p);have HC : Hid (Xm p = if (Yw p).2.2 = 0 ∧ Vm (Yw p).1 [] = true then ([], 0, 9) else Yw p) := rfl;obtain ⟨c, hc⟩ := nE (Xm p);obtain ⟨⟨l, a, e⟩, hR⟩ : ∃ R, Yw p = R := ⟨_, rfl⟩;rw [hR] at C1 HC HLN;rw [hc] at HC ⊢;simp only at HC HLN;obtain ⟨n, hn⟩ := nE (l.length);have HN := hid hn;clear hR hc;obtain ⟨Q, hQ⟩ := nE (Vu c w);rw [show (fun e' w' => Vu c w e' w') = Q from hQ];have HQ := hid hQ;clear hQ;go_enter Tryz.func194, Tryz.ntmps194;go_wp2_with fail;refine C1.mono ?_;rintro en w1 ⟨A1, c1, rfl, hown1, hb1⟩;simp only at hown1;have HO1 := hid hown1;have HR1 := hid (Xb hown1);have HB1 := hid hb1;clear hown1 hb1 C1;simp only [hn];rw [hn] at HLN HO1;clear hn;by_cases he : e = 0
 ·subst he
  have hln : n ≤ 60 := HLN.out;have C2 := hid (Zkm A1 n c1 l w1 HN.out aa HR1.out);obtain ⟨z, hz⟩ := nE (Kd l);have HZ : Hid (z = 0 ↔ Vm l [] = true) := hz ▸ Znb l;rw [hz] at C2;clear hz;go_wp2_with fail;refine C2.mono ?_;rintro en w2 ⟨rfl, hb2⟩;have HB2 := bt HB1 hb2;have HO2 := hid (Zt HO1.out hb2);clear hb2 C2 HB1 HO1;by_cases h0 : z = 0
  ·have HE : Hid (c = ([], 0, 9)) := by rw [Hid, HC.out, if_pos ⟨bq, HZ.1 h0⟩]
   have hz0 : ((z : Int) == 0) = true := bT aa;clear h0 HZ HC;go_wp2_with fail
   go_ret3
   rw [← HQ.out, HE.out];exact Ut w w2 0 9 HB2.out
  ·have HE : Hid (c = (l, a, 0)) := by rw [Hid, HC.out, if_neg (fun h' => h0 (HZ.2 h'.2))]
   have hz0 : ((z : Int) == 0) = false := bF aa;clear h0 HZ HC;go_wp2_with fail
   go_ret3
   rw [← HQ.out, HE.out];refine ⟨A1, c1, ?_, ?_, HB2.out⟩
   ·simp only [HN.out]; rfl
   ·simp only [HN.out]; exact HO2.out
 ·have HE : Hid (c = (l, a, e)) := by rw [Hid, HC.out, if_neg (fun h => he h.1)]
  have he0 : ((e : Int) == 0) = false := bF aa;clear he HC;go_wp2_with fail
  go_ret3
  rw [← HQ.out, HE.out];refine ⟨A1, c1, ?_, ?_, HB1.out⟩
  ·simp only [HN.out]; rfl
  ·simp only [HN.out]; exact HO1.out
def Jn (long : Nat) (s : ByteArray) : ByteArray := if long < s.size then s.extract 0 long else s
theorem Zci (long : Nat) (s : ByteArray) : (Jn long s).size ≤ long := by
 unfold Jn; split
 ·simp; omega
 ·omega
theorem Zb1 : (Tryz.prog.info? 9).map (fun i => (i.zero, i.size, i.bytes)) = some (some (.string ⟨#[]⟩), 1, 16) := by kernel_rfl
def Zr9 (base : Nat) (w : World) (ls : List (List Zl)) (vs : List Value) : Prop :=
 vs.length = ls.length ∧ ∀ (i : Nat) (l : List Zl), ls[i]? = some l → ∃ A c, vs[i]? = some (.slice A l.length c) ∧ w.ownsRow base 251 5 (.slice A l.length c) l.length (Yd l)
theorem Zrg {base bb b0 e size n : Nat} {w w' : World} {v : Value} {xs : List Value} (ho : w.ownsRow b0 e size v n xs) (h : FB base bb w w') (h1 : e ≠ 216) (h2 : e ≠ 222) : w'.ownsRow b0 e size v n xs := by
 refine ⟨ho.1, ?_⟩;rcases ho.2 with hn | ⟨g, cap, cur, rfl, hb, hgg, rest⟩
 ·exact .inl hn
 ·exact .inr ⟨g, cap, cur, rfl, hb, (h.2.1 g _ _ _ hgg h1 h2).trans hgg, rest⟩
end Go.Proofs.YtpkkfdmhbbipoaaGreat
