/- Walks: scripts, somewhat cut. Walks: scripts, somewhat cut (the whole). Plain laws and memory for ProgFirst: what stands behind the op that is told; an op laid into a row. -/
import Derived.Test.YtpkkfdmhbbipoaaPb
namespace Go.Proofs.Ytpkkfdmhbbipoaa
open Go.RowKit PopT

end Go.Proofs.Ytpkkfdmhbbipoaa
namespace Go.Proofs.Ytpkkfdmhbbipoaa
open Go.RowKit PopT

/-- Arms in memory of the call's own. -/
def ArmsOwn (base : Nat) (w : World) (o : OpV) (v : Value) : Prop := ∃ A c, v = .slice A o.arms.length c ∧ w.ownsRow base 40 2 v o.arms.length (armVCells o.arms)
theorem ArmsOwn.below {base B : Nat} {w w' : World} {o : OpV} {v : Value} (h : ArmsOwn base w o v) (hb : Below B w w') (hB : w.heap.size ≤ B) : ArmsOwn base w' o v := by
  obtain ⟨A, c, h1, h⟩ := h
  exact ⟨A, c, h1, own_below h hb hB⟩
theorem ArmsOwn.base {base b2 : Nat} {w : World} {o : OpV} {v : Value} (h : ArmsOwn base w o v) (hB : b2 ≤ base) : ArmsOwn b2 w o v := by
  obtain ⟨A, c, h1, h⟩ := h
  exact ⟨A, c, h1, own_base h hB⟩
theorem ArmsOwn.set {base g i : Nat} {w : World} {o : OpV} {v u : Value} {t : TypeId} {cs : Array Value} (h : ArmsOwn base w o v) (hb : Blk w g t cs) (hne : 40 ≠ t) : ArmsOwn base (w.setCell ⟨g, i, none⟩ u) o v := by
  obtain ⟨A, c, h1, h⟩ := h
  exact ⟨A, c, h1, own_kept_set h ⟨g, i, none⟩ u (blk_ne hb h hne)⟩
/-- Ops, and their arms, in memory of the call's own. -/
def OpsOwn (base : Nat) (w : World) (v : Value) (l : List OpV) : Prop :=
  ∃ xs : List (OpV × Value), xs.map Prod.fst = l ∧ w.ownsRow base 38 7 v l.length (opVCells xs) ∧ ∀ x ∈ xs, ArmsOwn base w x.1 x.2
theorem OpsOwn.below {base B : Nat} {w w' : World} {v : Value} {l : List OpV} (h : OpsOwn base w v l) (hb : Below B w w') (hB : w.heap.size ≤ B) : OpsOwn base w' v l := by
  obtain ⟨xs, h1, h2, h3⟩ := h
  exact ⟨xs, h1, own_below h2 hb hB, fun x hx => (h3 x hx).below hb hB⟩
theorem OpsOwn.base {base b2 : Nat} {w : World} {v : Value} {l : List OpV} (h : OpsOwn base w v l) (hB : b2 ≤ base) : OpsOwn b2 w v l := by
  obtain ⟨xs, h1, h2, h3⟩ := h
  exact ⟨xs, h1, own_base h2 hB, fun x hx => (h3 x hx).base hB⟩
theorem OpsOwn.set {base g i : Nat} {w : World} {v u : Value} {l : List OpV} {cs : Array Value} (h : OpsOwn base w v l) (hb : Blk w g 31 cs) : OpsOwn base (w.setCell ⟨g, i, none⟩ u) v l := by
  obtain ⟨xs, h1, h2, h3⟩ := h
  exact ⟨xs, h1, own_kept_set h2 ⟨g, i, none⟩ u (blk_ne hb h2 (by decide)), fun x hx => (h3 x hx).set hb (by decide)⟩
def set4 (w : World) (g : Nat) (a b c d : Value) : World := (((w.setCell ⟨g, 0, none⟩ a).setCell ⟨g, 1, none⟩ b).setCell ⟨g, 2, none⟩ c).setCell ⟨g, 3, none⟩ d
theorem set4_blk {w : World} {g : Nat} {t : TypeId} {x0 x1 x2 x3 : Value} (h : Blk w g t #[x0, x1, x2, x3]) (a b c d : Value) : Blk (set4 w g a b c d) g t #[a, b, c, d] := by
  have h0 : Blk _ g t #[a, x1, x2, x3] := h.set 0 a
  have h1 : Blk _ g t #[a, b, x2, x3] := h0.set 1 b
  have h2 : Blk _ g t #[a, b, c, x3] := h1.set 2 c
  exact h2.set 3 d
theorem set4_below {B g : Nat} {w w1 : World} (h : Below B w w1) (hg : B ≤ g) (a b c d : Value) : Below B w (set4 w1 g a b c d) :=
  (((h.setCell hg a).setCell hg b).setCell hg c).setCell hg d

end Go.Proofs.Ytpkkfdmhbbipoaa
namespace Go.Proofs.Ytpkkfdmhbbipoaa
open Go.RowKit PopT

/-! ### An op laid into a row -/
theorem OpsOwn.some {base n c : Nat} {w : World} {A : Option Addr} {l : List OpV} (h : OpsOwn base w (.slice A n c) l) (hn : l.length = n) (h0 : 0 < n) : ∃ g, A = some ⟨g, 0, none⟩ ∧ base ≤ g ∧ g < w.heap.size := by
  obtain ⟨xs, h1, h2, h3⟩ := h
  rcases h2.2 with ⟨hv, h00⟩ | ⟨g, cap, cur, hv, hb, hg, _⟩
  · omega
  · injection hv with e1 _ _
    subst e1
    exact ⟨g, rfl, hb, (h2.lt g rfl).2⟩
end Go.Proofs.Ytpkkfdmhbbipoaa
