/- The arguments of a law, opened: a set. -/
import Derived.Test.YtdhoedohchbagaaOpen
namespace Go.Proofs.Ytdhoedohchbagaa
open Go.ChangeShapes Go.WideShapes Go.ChangeAt Go.RowKit Go.WideElems Go.Deep

set_option maxRecDepth 100000 in
theorem open_setArg {H : Type} {enc : TypeId × Value → H} {W : World} {base : Nat} {v : Value} {d : DataW H} {p : List MemPlace} (hval : Value.okWide Try.prog W .any base 51 v) (h : DataW.Trod enc Try.prog W 0 (fun _ => true) true 51 v d p) : ∃ s : BSet, v = s.val := by
  simp only [Value.okWide, Try.underlying51] at hval
  obtain ⟨cs, rfl, hs, _⟩ := hval
  obtain ⟨fuel, hf⟩ := h
  obtain ⟨l⟩ := cs
  rw [Try.cellsSet] at hs
  match l, hs with
  | [c0, c1, c2, c3], _ =>
    obtain ⟨s, hs⟩ := open_set hf
    refine ⟨s, ?_⟩
    injection hs with h0 hs
    injection hs with h1 hs
    injection hs with h2 hs
    injection hs with h3 hs
    rw [h0, h1, h2, h3]; rfl
end Go.Proofs.Ytdhoedohchbagaa
