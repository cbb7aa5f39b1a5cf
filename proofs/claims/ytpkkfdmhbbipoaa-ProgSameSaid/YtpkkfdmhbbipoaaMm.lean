/- The arguments of a law, opened: a slice of texts. Walks: layer 10's Check (the program's and the reference's), texts cut. Walks: the reference's New of layer 10: a list of patterns. -/
import Derived.Test.YtpkkfdmhbbipoaaMi
import Derived.SliceStrings
import Derived.Test.YtpkkfdmhbbipoaaMl
import Derived.Test.YtpkkfdmhbbipoaaMg
import Derived.Test.YtpkkfdmhbbipoaaMh
namespace Go.Proofs.Ytpkkfdmhbbipoaa
open Go.ChangeShapes Go.WideShapes Go.ChangeAt Go.RowKit Go.WideElems Go.Deep

section
variable {H : Type} {enc : TypeId × Value → H}
end
end Go.Proofs.Ytpkkfdmhbbipoaa
namespace Go.Proofs.Ytpkkfdmhbbipoaa
open Go.RowKit PopT

theorem parseP_at (p : ByteArray) (f : Nat) (out : List Item) (a : Nat) (h : (parseP p f out a).2.2 = 0) : (parseP p f out a).2.1 = 0 := by
  induction f generalizing out a with
  | zero => rfl
  | succ f ih =>
    rw [parseP] at h ⊢
    by_cases h1 : a < p.size
    · rw [if_pos h1] at h ⊢
      by_cases h2 : out.length = 60
      · rw [if_pos h2] at h; exact absurd h (show ¬ (4 : Nat) = 0 by decide)
      · rw [if_neg h2] at h ⊢
        by_cases h3 : (itemP (tailOf p a)).2.2 = 0
        · rw [if_pos h3] at h ⊢; exact ih _ _ h
        · rw [if_neg h3] at h; exact absurd h h3
    · rw [if_neg h1]
/-- The pattern of a text that may be waited for. -/
def checkM (p : ByteArray) : List Item × Nat × Nat := if (parseM p).2.2 = 0 ∧ matchM (parseM p).1 [] = true then ([], 0, 9) else parseM p
set_option maxRecDepth 20000 in
set_option maxHeartbeats 1600000 in
theorem check10_any (p : ByteArray) (hp : p.size ≤ 1000000) (w : World) :
    Calls Try.prog 113 #[.string p] w fun e w' => e = .returned (.tuple #[.int .i64 ((checkM p).2.1 : Nat), .int .i64 ((checkM p).2.2 : Nat)]) ∧ Below w.heap.size w w' := by
  have C1 := hid (armc_any p hp w)
  have HAT := hid (parseP_at p 61 [] 0)
  have HC : Hid (checkM p = if (parseM p).2.2 = 0 ∧ matchM (parseM p).1 [] = true then ([], 0, 9) else parseM p) := rfl
  rw [show parseP p 61 [] 0 = parseM p from rfl] at HAT
  obtain ⟨c, hc⟩ : ∃ c, checkM p = c := ⟨_, rfl⟩
  obtain ⟨⟨l, a, e⟩, hR⟩ : ∃ R, parseM p = R := ⟨_, rfl⟩
  rw [hR] at C1 HAT HC
  rw [hc] at HC ⊢
  simp only at HAT HC
  clear hR hc
  go_enter Try.func113, Try.ntmps113
  go_wp2_with fail
  refine C1.out.mono ?_
  rintro en w1 ⟨hb1, hres⟩
  have HB1 := hid hb1
  clear hb1 C1
  rcases hres with ⟨he, rfl⟩ | ⟨he, hm, rfl⟩ | ⟨he, hm, g, rfl, -, -⟩
  · have he' : e ≠ 0 := he
    have HE : Hid (c = (l, a, e)) := by rw [Hid, HC.out, if_neg (fun h => he' h.1)]
    clear he he' HC HAT
    go_wp2_with fail
    go_ret2
    rw [HE.out]; exact ⟨rfl, HB1.out⟩
  · have he' : e = 0 := he
    have HE : Hid (c = ([], 0, 9)) := by rw [Hid, HC.out, if_pos ⟨he', hm⟩]
    clear he he' hm HC HAT
    go_wp2_with fail
    go_ret2
    rw [HE.out]; exact ⟨rfl, HB1.out⟩
  · have he' : e = 0 := he
    have HE : Hid (c = (l, 0, 0)) := by rw [Hid, HC.out, if_neg (fun h => absurd (hm.symm.trans h.2) (by decide)), HAT.out he', he']
    clear he he' hm HC HAT
    go_wp2_with fail
    go_ret2
    rw [HE.out]; exact ⟨rfl, HB1.out⟩

/-- A text, cut. -/
def cutM (long : Nat) (s : ByteArray) : ByteArray := if long < s.size then s.extract 0 long else s
theorem cutM_size (long : Nat) (s : ByteArray) : (cutM long s).size ≤ long := by
  unfold cutM; split
  · simp; omega
  · omega
theorem cutM_cutM (long : Nat) (s : ByteArray) : cutM long (cutM long s) = cutM long s := by
  rw [cutM, if_neg (by have := cutM_size long s; omega)]
end Go.Proofs.Ytpkkfdmhbbipoaa
namespace Go.Proofs.Ytpkkfdmhbbipoaa
open Go.RowKit PopT

/-- The values vs are the patterns ls, each in memory of the call's own. -/
def Lists (base : Nat) (w : World) (ls : List (List Item)) (vs : List Value) : Prop :=
  vs.length = ls.length ∧ ∀ (i : Nat) (l : List Item), ls[i]? = some l → ∃ A c, vs[i]? = some (.slice A l.length c) ∧ w.ownsRow base 158 5 (.slice A l.length c) l.length (itemCells l)
theorem Lists.nil (base : Nat) (w : World) : Lists base w [] [] := ⟨rfl, fun i l h => by simp at h⟩
theorem Lists.below {base B : Nat} {w w' : World} {ls : List (List Item)} {vs : List Value} (h : Lists base w ls vs) (hb : Below B w w') (hB : w.heap.size ≤ B) : Lists base w' ls vs := by
  refine ⟨h.1, fun i l hi => ?_⟩
  obtain ⟨A, c, hv, ho⟩ := h.2 i l hi
  exact ⟨A, c, hv, own_below ho hb hB⟩
theorem Lists.grown {base b2 e2 s2 n2 : Nat} {w w' : World} {ls : List (List Item)} {vs xs : List Value} {v : Value} (h : Lists base w ls vs) (ho2 : w.ownsRow b2 e2 s2 v n2 xs) (hg : w.grownBy w' v.ownBlock) (hne : 158 ≠ e2) : Lists base w' ls vs := by
  refine ⟨h.1, fun i l hi => ?_⟩
  obtain ⟨A, c, hv, ho⟩ := h.2 i l hi
  exact ⟨A, c, hv, ho.kept hg (own_ne ho ho2 hne)⟩
end Go.Proofs.Ytpkkfdmhbbipoaa
