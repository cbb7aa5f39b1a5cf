/- The arguments of a law, opened: lists of events. -/
import Derived.Test.YtpkkfdmhbbipoaaOpenR
import Derived.Test.YtpkkfdmhbbipoaaEv
namespace Go.Proofs.Ytpkkfdmhbbipoaa
open Go.ChangeShapes Go.WideShapes Go.ChangeAt Go.RowKit Go.WideElems Go.Deep

section
variable {H : Type} {enc : TypeId × Value → H}
theorem Try.cellsEv' : Try.prog.cellsOf 72 = 12 := by kernel_rfl
theorem Try.cellsStep'' : Try.prog.cellsOf 70 = 6 := by kernel_rfl
theorem Try.cellsErr' : Try.prog.cellsOf 53 = 1 := by kernel_rfl
set_option maxRecDepth 100000 in
theorem open_evC {W : World} {fuel : Nat} {cs : List Value} {x : DataW H × List MemPlace} (h : DataW.trod enc Try.prog W 0 (fun _ => true) true fuel 72 cs = some x) : ∃ o : EvV, o.cells = cs ∧ o.ok := by
  obtain ⟨xs, n, _, _, hl, _, hf⟩ := DataW.trod_struct Try.underlying72 h
  rw [Try.cellsEv'] at hl
  have hlen : xs.length = 7 := by assumption
  match xs, hlen with
  | [y0, y1, y2, y3, y4, y5, y6], _ =>
    match cs, hl with
    | [c0, c1, c2, c3, c4, c5, c6, c7, c8, c9, c10, c11], _ =>
      have h0 := hf 0 _ rfl
      have h1 := hf 1 _ rfl
      have h2 := hf 2 _ rfl
      have h3 := hf 3 _ rfl
      have h4 := hf 4 _ rfl
      have h5 := hf 5 _ rfl
      have h6 := hf 6 _ rfl
      simp [Try.cellsStr', Try.cellsInt', Try.cellsI64', Try.cellsErr', Try.cellsStep''] at h0 h1 h2 h3 h4 h5 h6
      obtain ⟨z0, e0, _, _⟩ := DataW.trod_int Try.underlying3 h0
      obtain ⟨z1, e1, _, _⟩ := DataW.trod_int Try.underlying3 h1
      obtain ⟨z2, e2, _, _⟩ := DataW.trod_int Try.underlying3 h2
      obtain ⟨z3, e3, _, _⟩ := DataW.trod_int Try.underlying2 h3
      obtain ⟨z4, e4, _, w4⟩ := DataW.trod_string Try.underlying9 h4
      obtain ⟨z5, e5, _, _⟩ := DataW.trod_int Try.underlying53 h5
      obtain ⟨ys, n2, _, _, hl2, _, hg⟩ := DataW.trod_struct Try.underlying70 h6
      have hlen2 : ys.length = 6 := by assumption
      match ys, hlen2 with
      | [u0, u1, u2, u3, u4, u5], _ =>
        have g0 := hg 0 _ rfl
        have g1 := hg 1 _ rfl
        have g2 := hg 2 _ rfl
        have g3 := hg 3 _ rfl
        have g4 := hg 4 _ rfl
        have g5 := hg 5 _ rfl
        simp [Try.cellsInt', Try.cellsI64'] at g0 g1 g2 g3 g4 g5
        obtain ⟨v0, q0, _, _⟩ := DataW.trod_int Try.underlying2 g0
        obtain ⟨v1, q1, _, _⟩ := DataW.trod_int Try.underlying3 g1
        obtain ⟨v2, q2, _, _⟩ := DataW.trod_int Try.underlying3 g2
        obtain ⟨v3, q3, _, _⟩ := DataW.trod_int Try.underlying3 g3
        obtain ⟨v4, q4, _, _⟩ := DataW.trod_int Try.underlying3 g4
        obtain ⟨v5, q5, _, _⟩ := DataW.trod_int Try.underlying3 g5
        simp at e0 e1 e2 e3 e4 e5 q0 q1 q2 q3 q4 q5
        unfold maxLen at w4
        exact ⟨⟨z0, z1, z2, z3, z4, z5, v0, v1, v2, v3, v4, v5⟩, by rw [e0, e1, e2, e3, e4, e5, q0, q1, q2, q3, q4, q5]; rfl, by simpa [EvV.ok] using w4⟩
set_option maxRecDepth 100000 in
theorem open_evs {W : World} {base : Nat} {v : Value} {d : DataW H} {ps : List MemPlace} (hval : Value.okWide Try.prog W .any base 22 v) (h : DataW.Trod enc Try.prog W 0 (fun _ => true) true 22 v d ps) :
    ∃ (A : Option Addr) (n c : Nat) (l : List EvV), v = .slice A n c ∧ l.length = n ∧ n ≤ 9223372036854775807 ∧ Rd W A (evCells l) ∧ ∀ o ∈ l, o.ok := by
  obtain ⟨A0, n0, c0, rfl⟩ := okWide_slice Try.underlying22 hval
  obtain ⟨fuel, hf⟩ := h
  obtain ⟨A, n, c, css, e, hk, hk2, hq, hr⟩ := open_rows Try.underlying22 Try.cellsEv' (by omega) hf
  obtain ⟨xs, hxs, hok⟩ := list_choose EvV.cells EvV.ok css (fun q hq' => by obtain ⟨_, m, y, ht⟩ := hq q hq'; exact open_evC ht)
  simp [Value.cells] at e
  obtain ⟨rfl, rfl, rfl⟩ := e
  refine ⟨_, _, _, xs, rfl, by rw [← hk, ← hxs, List.length_map], hk2, ?_, hok⟩
  rw [evCells, List.flatMap_def, hxs]; exact hr
end
end Go.Proofs.Ytpkkfdmhbbipoaa
