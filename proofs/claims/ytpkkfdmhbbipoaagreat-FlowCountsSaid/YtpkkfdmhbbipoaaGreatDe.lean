/- Walks: package dial: come. Walks: package dial: jump. -/
import Derived.Test.YtpkkfdmhbbipoaaGreatDd
namespace Go.Proofs.YtpkkfdmhbbipoaaGreat
open Go.RowKit PopT
section
variable {B d gi gb gh gp c : Nat} {F F2 : Nat → Prop} {w0 w w' : World} {A : Option Addr} {x : DialV}
end
def setS6 (w : World) (g : Nat) (a b c d e f : Value) : World := (((((w.setCell ⟨g, 0, none⟩ a).setCell ⟨g, 1, none⟩ b).setCell ⟨g, 2, none⟩ c).setCell ⟨g, 3, none⟩ d).setCell ⟨g, 4, none⟩ e).setCell ⟨g, 5, none⟩ f
theorem setS6_blk {w : World} {g : Nat} {t : TypeId} {x0 x1 x2 x3 x4 x5 : Value} (h : Blk w g t #[x0, x1, x2, x3, x4, x5]) (a b c d e f : Value) : Blk (setS6 w g a b c d e f) g t #[a, b, c, d, e, f] := by
 have h0 : Blk _ g t #[a, x1, x2, x3, x4, x5] := h.set 0 a
 have h1 : Blk _ g t #[a, b, x2, x3, x4, x5] := h0.set 1 b
 have h2 : Blk _ g t #[a, b, c, x3, x4, x5] := h1.set 2 c
 have h3 : Blk _ g t #[a, b, c, d, x4, x5] := h2.set 3 d
 have h4 : Blk _ g t #[a, b, c, d, e, x5] := h3.set 4 e
 exact h4.set 5 f
theorem setS6_keep (w : World) (g : Nat) (a b c d e f : Value) : Keep (fun k => k = g) w (setS6 w g a b c d e f) :=
 (set1_keep w g 0 a).trans ((set1_keep _ g 1 b).trans ((set1_keep _ g 2 c).trans ((set1_keep _ g 3 d).trans ((set1_keep _ g 4 e).trans (set1_keep _ g 5 f) (fun _ h => .inl h)) (fun _ h => .inl h)) (fun _ h => .inl h)) (fun _ h => .inl h)) (fun _ h => .inl h)
theorem fact6 {w : World} {g : Nat} {t : TypeId} {x0 x1 x2 x3 x4 x5 : Value} (h : Blk w g t #[x0, x1, x2, x3, x4, x5]) : w.cell? ⟨g, 0, none⟩ = some x0 ∧ w.cell? ⟨g, 1, none⟩ = some x1 ∧ w.cell? ⟨g, 2, none⟩ = some x2 ∧ w.cell? ⟨g, 3, none⟩ = some x3 ∧ w.cell? ⟨g, 4, none⟩ = some x4 ∧ w.cell? ⟨g, 5, none⟩ = some x5 :=
 ⟨h.cell 0, h.cell 1, h.cell 2, h.cell 3, h.cell 4, h.cell 5⟩
section
variable {B d gi gb gh gp c : Nat} {F F2 : Nat → Prop} {w0 w w' : World} {A : Option Addr} {x : DialV}
end
end Go.Proofs.YtpkkfdmhbbipoaaGreat
