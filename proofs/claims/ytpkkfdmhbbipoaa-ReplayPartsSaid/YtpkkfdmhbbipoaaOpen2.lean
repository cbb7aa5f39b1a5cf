/- The arguments of a law, opened: a slice of int64, of int, of bytes. -/
import Derived.Test.YtpkkfdmhbbipoaaRow
import Derived.Test.YtpkkfdmhbbipoaaMod
namespace Go.Proofs.Ytpkkfdmhbbipoaa
open Go.ChangeShapes Go.WideShapes Go.ChangeAt Go.RowKit Go.WideElems Go.Deep

section
variable {H : Type} {enc : TypeId × Value → H}
theorem Try.cellsI64 : Try.prog.cellsOf 2 = 1 := by kernel_rfl

theorem addr_add0 (q : Addr) : q.add 0 = q := by
  obtain ⟨b, o, s⟩ := q
  unfold Addr.add
  split <;> simp_all
set_option maxRecDepth 100000 in
theorem open_i64s {W : World} {base : Nat} {v : Value} {d : DataW H} {p : List MemPlace} (hval : Value.okWide Try.prog W .any base 191 v) (h : DataW.Trod enc Try.prog W 0 (fun _ => true) true 191 v d p) : ∃ A n c, ∃ l : List Int, v = .slice A n c ∧ l.length = n ∧ n ≤ 9223372036854775807 ∧ Rd W A (intCells l) := by
  obtain ⟨A, n, c, rfl⟩ := okWide_slice Try.underlying191 hval
  obtain ⟨fuel, hf⟩ := h
  rcases open_slice Try.underlying191 hf with ⟨hcs, hx⟩ | ⟨a, len, cap, m, n', D, Pl, hcs, _, hl, hm, hmm, hx, hi⟩
  · simp [Value.cells] at hcs
    obtain ⟨rfl, rfl, rfl⟩ := hcs
    exact ⟨none, 0, 0, [], rfl, rfl, by omega, .inl rfl⟩
  · simp [Value.cells] at hcs
    obtain ⟨rfl, rfl, rfl⟩ := hcs
    simp only [if_true] at hmm
    subst hmm
    have hex : ∀ i, i < m → ∃ it : Int, W.cell? (a.add i) = some (.int .i64 it) := by
      intro i him
      obtain ⟨cs', hc, ht⟩ := hi i him
      rw [Try.cellsI64] at hc
      obtain ⟨_, hlen, hat⟩ := World.cells?_some hc
      obtain ⟨z, hz, _, _⟩ := DataW.trod_int Try.underlying2 ht
      refine ⟨z, ?_⟩
      have h0 := hat 0 (by omega)
      rw [hz] at h0
      rw [addr_add0, Nat.mul_one] at h0
      exact h0
    obtain ⟨f, hf⟩ := choose_lt hex
    refine ⟨some a, n, m, (List.range n).map f, rfl, by simp, by unfold maxLen at hm; omega, ?_⟩
    rcases Nat.eq_zero_or_pos n with h0 | h0
    · subst h0; exact .inl rfl
    · have h00 := hf 0 (by omega)
      obtain ⟨b, off, spot⟩ := a
      have hspot : spot = none := by
        have := World.cell?_spot h00
        simpa [Addr.add] using this
      subst hspot
      have hadd : ∀ i, ((⟨b, off, none⟩ : Addr).add i) = ⟨b, off + i, none⟩ := by
        intro i
        unfold Addr.add
        split <;> simp_all
      refine .inr ⟨b, off, rfl, ?_, fun j u hu => ?_⟩
      · exact World.block_lt_of_cell? W _ h00
      · have hj : j < n := by
          have := (List.getElem?_eq_some_iff.1 hu).1
          rwa [intCells_length, List.length_map, List.length_range] at this
        rw [intCells_get _ j (by simpa using hj)] at hu
        have := hf j (by omega)
        rw [hadd] at this
        rw [this, ← hu]; simp
end
end Go.Proofs.Ytpkkfdmhbbipoaa
