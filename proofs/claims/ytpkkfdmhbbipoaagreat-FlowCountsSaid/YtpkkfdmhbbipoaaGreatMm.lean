/- Walks: layer 10's Check (the program's and the reference's), texts cut. Walks: the reference's New of layer 10: a list of patterns. -/
import Derived.Test.YtpkkfdmhbbipoaaGreatMl
import Derived.Test.YtpkkfdmhbbipoaaGreatMg
import Derived.Test.YtpkkfdmhbbipoaaGreatMh
namespace Go.Proofs.YtpkkfdmhbbipoaaGreat
open Go.RowKit PopT
theorem parseP_at (p : ByteArray) (f : Nat) (out : List Item) (a : Nat) (h : (parseP p f out a).2.2 = 0) : (parseP p f out a).2.1 = 0 := by
 induction f generalizing out a with
 | zero => rfl
 | succ f ih =>
  rw [parseP] at h ⊢
  by_cases h1 : a < p.size
  ·rw [if_pos h1] at h ⊢
   by_cases h2 : out.length = 60
   ·rw [if_pos h2] at h; exact absurd h (show ¬ (4 : Nat) = 0 by decide)
   ·rw [if_neg h2] at h ⊢
    by_cases h3 : (itemP (tailOf p a)).2.2 = 0
    ·rw [if_pos h3] at h ⊢; exact ih _ _ h
    ·rw [if_neg h3] at h; exact absurd h h3
  ·rw [if_neg h1]
theorem least_nil (l : List Item) : leastM l = 0 ↔ matchM l [] = true := by
 rw [matchM_eq, matchR_nil, leastM, List.length_eq_zero_iff, List.filter_eq_nil_iff, Bool.not_eq_true', List.any_eq_false]
def checkM (p : ByteArray) : List Item × Nat × Nat := if (parseM p).2.2 = 0 ∧ matchM (parseM p).1 [] = true then ([], 0, 9) else parseM p
set_option maxRecDepth 20000 in
set_option maxHeartbeats 1600000 in
theorem check10_any (p : ByteArray) (hp : p.size ≤ 1000000) (w : World) :
  Calls Tryz.prog 216 #[.string p] w fun e w' => e = .returned (.tuple #[.int .i64 ((checkM p).2.1 : Nat), .int .i64 ((checkM p).2.2 : Nat)]) ∧ Below w.heap.size w w' := by
 have C1 := hid (armc_any p hp w)
 have HAT := hid (parseP_at p 61 [] 0)
 have HC : Hid (checkM p = if (parseM p).2.2 = 0 ∧ matchM (parseM p).1 [] = true then ([], 0, 9) else parseM p) := rfl
 rw [show parseP p 61 [] 0 = parseM p from rfl] at HAT
 obtain ⟨c, hc⟩ : ∃ c, checkM p = c := ⟨_, rfl⟩
 obtain ⟨⟨l, a, e⟩, hR⟩ : ∃ R, parseM p = R := ⟨_, rfl⟩
 rw [hR] at C1 HAT HC
 rw [hc] at HC ⊢
 simp only at HAT HC
 clear hR hc
 go_enter Tryz.func216, Tryz.ntmps216
 go_wp2_with fail
 refine C1.out.mono ?_
 rintro en w1 ⟨hb1, hres⟩
 have HB1 := hid hb1
 clear hb1 C1
 rcases hres with ⟨he, rfl⟩ | ⟨he, hm, rfl⟩ | ⟨he, hm, g, rfl, -, -⟩
 ·have he' : e ≠ 0 := he
  have HE : Hid (c = (l, a, e)) := by rw [Hid, HC.out, if_neg (fun h => he' h.1)]
  clear he he' HC HAT
  go_wp2_with fail
  go_ret2
  rw [HE.out]; exact ⟨rfl, HB1.out⟩
 ·have he' : e = 0 := he
  have HE : Hid (c = ([], 0, 9)) := by rw [Hid, HC.out, if_pos ⟨he', hm⟩]
  clear he he' hm HC HAT
  go_wp2_with fail
  go_ret2
  rw [HE.out]; exact ⟨rfl, HB1.out⟩
 ·have he' : e = 0 := he
  have HE : Hid (c = (l, 0, 0)) := by rw [Hid, HC.out, if_neg (fun h => absurd (hm.symm.trans h.2) (by decide)), HAT.out he', he']
  clear he he' hm HC HAT
  go_wp2_with fail
  go_ret2
  rw [HE.out]; exact ⟨rfl, HB1.out⟩
set_option maxRecDepth 20000 in
set_option maxHeartbeats 1600000 in
theorem checkR_any (p : ByteArray) (hp : p.size ≤ 1000000) (w : World) :
  Calls Tryz.prog 194 #[.string p] w fun e w' => ParsePost (checkM p) w e w' := by
 have C1 := hid (parseR_any p hp w)
 have HLN := hid (parseM_len' p)
 have HC : Hid (checkM p = if (parseM p).2.2 = 0 ∧ matchM (parseM p).1 [] = true then ([], 0, 9) else parseM p) := rfl
 obtain ⟨c, hc⟩ : ∃ c, checkM p = c := ⟨_, rfl⟩
 obtain ⟨⟨l, a, e⟩, hR⟩ : ∃ R, parseM p = R := ⟨_, rfl⟩
 rw [hR] at C1 HC HLN
 rw [hc] at HC ⊢
 simp only at HC HLN
 obtain ⟨n, hn⟩ : ∃ n, l.length = n := ⟨_, rfl⟩
 have HN := hid hn
 clear hR hc
 obtain ⟨Q, hQ⟩ : ∃ Q, ParsePost c w = Q := ⟨_, rfl⟩
 rw [show (fun e' w' => ParsePost c w e' w') = Q from hQ]
 have HQ := hid hQ
 clear hQ
 go_enter Tryz.func194, Tryz.ntmps194
 go_wp2_with fail
 refine C1.out.mono ?_
 rintro en w1 ⟨A1, c1, rfl, hown1, hb1⟩
 simp only at hown1
 have HO1 := hid hown1
 have HR1 := hid (Rd_of_own hown1)
 have HB1 := hid hb1
 clear hown1 hb1 C1
 simp only [hn]
 rw [hn] at HLN HO1
 clear hn
 by_cases he : e = 0
 ·subst he
  have hln : n ≤ 60 := HLN.out
  have C2 := hid (leastR_any A1 n c1 l w1 HN.out (by omega) HR1.out)
  obtain ⟨z, hz⟩ : ∃ z, leastM l = z := ⟨_, rfl⟩
  have HZ : Hid (z = 0 ↔ matchM l [] = true) := by rw [← hz]; exact least_nil l
  rw [hz] at C2
  clear hz
  go_wp2_with fail
  refine C2.out.mono ?_
  rintro en w2 ⟨rfl, hb2⟩
  have HB2 := hid (HB1.out.trans (hb2.mono HB1.out.size))
  have HO2 := hid (own_below HO1.out hb2)
  clear hb2 C2 HB1 HO1
  by_cases h0 : z = 0
  ·have HE : Hid (c = ([], 0, 9)) := by rw [Hid, HC.out, if_pos ⟨by trivial, HZ.out.1 h0⟩]
   have hz0 : ((z : Int) == 0) = true := by rw [beq_iff_eq]; omega
   clear h0 HZ HC
   go_wp2_with fail
   go_ret3
   rw [← HQ.out, HE.out]
   exact parsePost_nil w w2 0 9 HB2.out
  ·have HE : Hid (c = (l, a, 0)) := by rw [Hid, HC.out, if_neg (fun h' => h0 (HZ.out.2 h'.2))]
   have hz0 : ((z : Int) == 0) = false := by rw [beq_eq_false_iff_ne]; omega
   clear h0 HZ HC
   go_wp2_with fail
   go_ret3
   rw [← HQ.out, HE.out]
   refine ⟨A1, c1, ?_, ?_, HB2.out⟩
   ·simp only [HN.out]; rfl
   ·simp only [HN.out]; exact HO2.out
 ·have HE : Hid (c = (l, a, e)) := by rw [Hid, HC.out, if_neg (fun h => he h.1)]
  have he0 : ((e : Int) == 0) = false := by rw [beq_eq_false_iff_ne]; omega
  clear he HC
  go_wp2_with fail
  go_ret3
  rw [← HQ.out, HE.out]
  refine ⟨A1, c1, ?_, ?_, HB1.out⟩
  ·simp only [HN.out]; rfl
  ·simp only [HN.out]; exact HO1.out
def cutM (long : Nat) (s : ByteArray) : ByteArray := if long < s.size then s.extract 0 long else s
theorem cutM_size (long : Nat) (s : ByteArray) : (cutM long s).size ≤ long := by
 unfold cutM; split
 ·simp; omega
 ·omega
theorem cutM_cutM (long : Nat) (s : ByteArray) : cutM long (cutM long s) = cutM long s := by
 rw [cutM, if_neg (by have := cutM_size long s; omega)]
def Lists (base : Nat) (w : World) (ls : List (List Item)) (vs : List Value) : Prop :=
 vs.length = ls.length ∧ ∀ (i : Nat) (l : List Item), ls[i]? = some l → ∃ A c, vs[i]? = some (.slice A l.length c) ∧ w.ownsRow base 251 5 (.slice A l.length c) l.length (itemCells l)
end Go.Proofs.YtpkkfdmhbbipoaaGreat
