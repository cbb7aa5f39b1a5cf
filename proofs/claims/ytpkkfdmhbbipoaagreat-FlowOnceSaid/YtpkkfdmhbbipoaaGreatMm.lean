/- Walks: layer 10's Check (the program's and the reference's), texts cut. Walks: the reference's New of layer 10: a list of patterns. -/
import Derived.Test.YtpkkfdmhbbipoaaGreatMl
import Derived.Test.YtpkkfdmhbbipoaaGreatMg
import Derived.Test.YtpkkfdmhbbipoaaGreatMh
namespace Go.Proofs.YtpkkfdmhbbipoaaGreat
open Go.RowKit PopT
theorem parseP_at (p : ByteArray) (f : Nat) (out : List Item) (a : Nat) (h : (parseP p f out a).2.2 = 0) : (parseP p f out a).2.1 = 0 := by
 induction f generalizing out a with
 | zero => rfl
 | succ f ih =>
  rw [parseP] at h ⊢
  by_cases h1 : a < p.size
  ·rw [if_pos h1] at h ⊢
   by_cases h2 : out.length = 60
   ·rw [if_pos h2] at h; exact absurd h (show ¬ (4 : Nat) = 0 by decide)
   ·rw [if_neg h2] at h ⊢
    by_cases h3 : (itemP (tailOf p a)).2.2 = 0
    ·rw [if_pos h3] at h ⊢; exact ih _ _ h
    ·rw [if_neg h3] at h; exact absurd h h3
  ·rw [if_neg h1]
def checkM (p : ByteArray) : List Item × Nat × Nat := if (parseM p).2.2 = 0 ∧ matchM (parseM p).1 [] = true then ([], 0, 9) else parseM p
theorem newGo_check (p : ByteArray) (ps : List ByteArray) (i : Nat) (acc : List (List Item)) :
  newGo (p :: ps) i acc = if (checkM p).2.2 ≠ 0 then ([], i, (checkM p).2.2) else newGo ps (i + 1) (acc ++ [(checkM p).1]) := by
 by_cases h : (parseM p).2.2 = 0
 ·by_cases hm : matchM (parseM p).1 [] = true
  ·have e : checkM p = ([], 0, 9) := by rw [checkM, if_pos ⟨h, hm⟩]
   rw [newGo, e, if_neg (not_not_intro h), if_pos hm, if_pos (show (9 : Nat) ≠ 0 by decide)]
  ·have e : checkM p = parseM p := by rw [checkM, if_neg (fun h' => hm h'.2)]
   rw [newGo, e, if_neg (not_not_intro h), if_neg hm, if_neg (not_not_intro h)]
 ·have e : checkM p = parseM p := by rw [checkM, if_neg (fun h' => h h'.1)]
  rw [newGo, e, if_pos h, if_pos h]
set_option maxRecDepth 20000 in
set_option maxHeartbeats 1600000 in
theorem check10_any (p : ByteArray) (hp : p.size ≤ 1000000) (w : World) :
  Calls Tryz.prog 216 #[.string p] w fun e w' => e = .returned (.tuple #[.int .i64 ((checkM p).2.1 : Nat), .int .i64 ((checkM p).2.2 : Nat)]) ∧ Below w.heap.size w w' := by
 have C1 := hid (armc_any p hp w)
 have HAT := hid (parseP_at p 61 [] 0)
 have HC : Hid (checkM p = if (parseM p).2.2 = 0 ∧ matchM (parseM p).1 [] = true then ([], 0, 9) else parseM p) := rfl
 rw [show parseP p 61 [] 0 = parseM p from rfl] at HAT
 obtain ⟨c, hc⟩ : ∃ c, checkM p = c := ⟨_, rfl⟩
 obtain ⟨⟨l, a, e⟩, hR⟩ : ∃ R, parseM p = R := ⟨_, rfl⟩
 rw [hR] at C1 HAT HC
 rw [hc] at HC ⊢
 simp only at HAT HC
 clear hR hc
 go_enter Tryz.func216, Tryz.ntmps216
 go_wp2_with fail
 refine C1.out.mono ?_
 rintro en w1 ⟨hb1, hres⟩
 have HB1 := hid hb1
 clear hb1 C1
 rcases hres with ⟨he, rfl⟩ | ⟨he, hm, rfl⟩ | ⟨he, hm, g, rfl, -, -⟩
 ·have he' : e ≠ 0 := he
  have HE : Hid (c = (l, a, e)) := by rw [Hid, HC.out, if_neg (fun h => he' h.1)]
  clear he he' HC HAT
  go_wp2_with fail
  go_ret2
  rw [HE.out]; exact ⟨rfl, HB1.out⟩
 ·have he' : e = 0 := he
  have HE : Hid (c = ([], 0, 9)) := by rw [Hid, HC.out, if_pos ⟨he', hm⟩]
  clear he he' hm HC HAT
  go_wp2_with fail
  go_ret2
  rw [HE.out]; exact ⟨rfl, HB1.out⟩
 ·have he' : e = 0 := he
  have HE : Hid (c = (l, 0, 0)) := by rw [Hid, HC.out, if_neg (fun h => absurd (hm.symm.trans h.2) (by decide)), HAT.out he', he']
  clear he he' hm HC HAT
  go_wp2_with fail
  go_ret2
  rw [HE.out]; exact ⟨rfl, HB1.out⟩
def cutM (long : Nat) (s : ByteArray) : ByteArray := if long < s.size then s.extract 0 long else s
theorem cutM_size (long : Nat) (s : ByteArray) : (cutM long s).size ≤ long := by
 unfold cutM; split
 ·simp; omega
 ·omega
theorem Tryz.infoStr : (Tryz.prog.info? 9).map (fun i => (i.zero, i.size, i.bytes)) = some (some (.string ⟨#[]⟩), 1, 16) := by kernel_rfl
def Lists (base : Nat) (w : World) (ls : List (List Item)) (vs : List Value) : Prop :=
 vs.length = ls.length ∧ ∀ (i : Nat) (l : List Item), ls[i]? = some l → ∃ A c, vs[i]? = some (.slice A l.length c) ∧ w.ownsRow base 251 5 (.slice A l.length c) l.length (itemCells l)
theorem own_fb {base bb b0 e size n : Nat} {w w' : World} {v : Value} {xs : List Value} (ho : w.ownsRow b0 e size v n xs) (h : FB base bb w w') (h1 : e ≠ 216) (h2 : e ≠ 222) : w'.ownsRow b0 e size v n xs := by
 refine ⟨ho.1, ?_⟩
 rcases ho.2 with hn | ⟨g, cap, cur, rfl, hb, hgg, rest⟩
 ·exact .inl hn
 ·exact .inr ⟨g, cap, cur, rfl, hb, (h.2.1 g _ _ _ hgg h1 h2).trans hgg, rest⟩
end Go.Proofs.YtpkkfdmhbbipoaaGreat
