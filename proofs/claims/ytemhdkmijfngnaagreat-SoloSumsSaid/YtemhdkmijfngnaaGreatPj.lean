/- Walks: no window, no ring; layer 19 lives. Layer 19 lives; footprints beside a ring. -/
import Derived.Test.YtemhdkmijfngnaaGreatPi
import Derived.Test.YtemhdkmijfngnaaGreatMb
namespace Go.Proofs.YtemhdkmijfngnaaGreat
open Go.RowKit PopT

end Go.Proofs.YtemhdkmijfngnaaGreat
namespace Go.Proofs.YtemhdkmijfngnaaGreat
open Go.RowKit PopT

/-- A window's footprint in world w: bounded, from B on, beside the ring's blocks. -/
def Foot (B : Nat) (F : Nat → Prop) (w : World) (g gb : Nat) : Prop := (∀ k, F k → k < w.heap.size) ∧ (∀ k, F k → B ≤ k) ∧ (∀ k, F k → ¬ RgF g gb k) ∧ g < w.heap.size ∧ gb < w.heap.size ∧ B ≤ g ∧ B ≤ gb ∧ B ≤ w.heap.size
theorem Foot.up {B g gb : Nat} {F : Nat → Prop} {w w' : World} (h : Foot B F w g gb) (hs : w.heap.size ≤ w'.heap.size) : Foot B (Fup F w w') w' g gb := by
  obtain ⟨h1, h2, h3, h4, h5, h6, h7, h8⟩ := h
  refine ⟨fun k hk => ?_, fun k hk => ?_, fun k hk => ?_, by omega, by omega, h6, h7, by omega⟩
  · rcases hk with hk | hk
    · have := h1 k hk; omega
    · exact hk.2
  · rcases hk with hk | hk
    · exact h2 k hk
    · omega
  · rcases hk with hk | hk
    · exact h3 k hk
    · rintro (e | e) <;> omega
theorem Foot.step {B g gb : Nat} {F : Nat → Prop} {w w' : World} (h : Foot B F w g gb) (hs : w.heap.size ≤ w'.heap.size) : Foot B F w' g gb := by
  obtain ⟨h1, h2, h3, h4, h5, h6, h7, h8⟩ := h
  exact ⟨fun k hk => by have := h1 k hk; omega, h2, h3, by omega, by omega, h6, h7, by omega⟩
theorem Foot.ring {B g gb m : Nat} {F : Nat → Prop} {w w' : World} {R : List UInt8} (h : Foot B F w g gb) (hk : Keep F w w') (hr : Rg w g gb m R) : Rg w' g gb m R := hr.keep hk (fun hg => h.2.2.1 g hg (.inl rfl)) (fun hg => h.2.2.1 gb hg (.inr rfl))
theorem Foot.hold {B base g gb hh win seen : Nat} {F : Nat → Prop} {w w' : World} {S : List UInt8} {ps : List ByteArray} {P : Option (List (List Item))} (h : Foot B F w g gb) (hk : Keep (RgF g gb) w w') (hr : HoldAt base F w hh win S seen ps P) : HoldAt base F w' hh win S seen ps P := hr.keep hk h.2.2.1

end Go.Proofs.YtemhdkmijfngnaaGreat
