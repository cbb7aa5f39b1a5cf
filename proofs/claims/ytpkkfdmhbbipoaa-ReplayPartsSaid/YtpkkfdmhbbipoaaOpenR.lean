/- The arguments of a law, opened: a row of elements of several cells. -/
import Derived.Test.YtpkkfdmhbbipoaaOpen2
namespace Go.Proofs.Ytpkkfdmhbbipoaa
open Go.ChangeShapes Go.WideShapes Go.ChangeAt Go.RowKit Go.WideElems Go.Deep

section
variable {H : Type} {enc : TypeId × Value → H}
theorem flatten_get (s : Nat) (l : List (List Value)) (hf : ∀ x ∈ l, x.length = s) (k : Nat) (h : k < l.length) (j : Nat) (hj : j < s) : l.flatten[k * s + j]? = (l[k])[j]? := by
  have := flatMap_get (fun x : List Value => x) s l hf k h j hj
  rw [List.flatMap_def] at this
  simpa using this
theorem flatten_length (s : Nat) (l : List (List Value)) (hf : ∀ x ∈ l, x.length = s) : l.flatten.length = l.length * s := by
  induction l with
  | nil => simp
  | cons x l ih => rw [List.flatten_cons, List.length_append, hf x List.mem_cons_self, ih (fun y hy => hf y (List.mem_cons_of_mem _ hy)), List.length_cons, Nat.add_mul]; omega

set_option maxRecDepth 100000 in
theorem open_rows {t e : TypeId} {s : Nat} (ht : Try.prog.underlying t = some (.slice e)) (hs : Try.prog.cellsOf e = s) (h0 : 0 < s) {W : World} {fuel : Nat} {cs : List Value} {x : DataW H × List MemPlace}
    (h : DataW.trod enc Try.prog W 0 (fun _ => true) true fuel t cs = some x) :
    ∃ A n c, ∃ css : List (List Value), cs = [.slice A n c] ∧ css.length = n ∧ n ≤ 9223372036854775807 ∧ (∀ q ∈ css, q.length = s ∧ ∃ m y, DataW.trod enc Try.prog W 0 (fun _ => true) true m e q = some y) ∧ Rd W A css.flatten := by
  rcases open_slice ht h with ⟨hcs, hx⟩ | ⟨a, len, cap, m, n', D, Pl, hcs, _, hl, hm, hmm, hx, hi⟩
  · exact ⟨none, 0, 0, [], hcs, rfl, by omega, by simp, .inl rfl⟩
  · simp only [if_true] at hmm
    subst hmm
    have hex : ∀ i, i < m → ∃ cs' : List Value, cs'.length = s ∧ (∃ m y, DataW.trod enc Try.prog W 0 (fun _ => true) true m e cs' = some y) ∧ ∀ j, j < s → W.cell? ((a.add (i * s)).add j) = cs'[j]? := by
      intro i him
      obtain ⟨cs', hc, ht'⟩ := hi i him
      rw [hs] at hc
      obtain ⟨_, hlen, hat⟩ := World.cells?_some hc
      exact ⟨cs', hlen, ⟨_, _, ht'⟩, hat⟩
    obtain ⟨f, hf⟩ := choose_lt hex
    have hmem : ∀ q ∈ (List.range len).map f, q.length = s ∧ ∃ m y, DataW.trod enc Try.prog W 0 (fun _ => true) true m e q = some y := by
      intro q hq
      obtain ⟨i, hi, rfl⟩ := List.mem_map.1 hq
      have hi := List.mem_range.1 hi
      obtain ⟨h1, h2, _⟩ := hf i (by omega)
      exact ⟨h1, h2⟩
    refine ⟨some a, len, m, (List.range len).map f, hcs, by simp, by unfold maxLen at hm; omega, hmem, ?_⟩
    rcases Nat.eq_zero_or_pos len with h00 | h00
    · subst h00; exact .inl rfl
    · obtain ⟨h1, _, h3⟩ := hf 0 (by omega)
      have hc0 := h3 0 h0
      rw [List.getElem?_eq_getElem (by omega)] at hc0
      obtain ⟨b, off, spot⟩ := a
      have hspot : spot = none := by
        have := World.cell?_spot hc0
        simpa [Addr.add] using this
      subst hspot
      have hadd : ∀ i j, ((⟨b, off, none⟩ : Addr).add i).add j = ⟨b, off + (i + j), none⟩ := by
        intro i j
        unfold Addr.add
        split <;> split <;> simp_all <;> omega
      refine .inr ⟨b, off, rfl, ?_, fun j u hu => ?_⟩
      · rw [hadd] at hc0
        exact World.block_lt_of_cell? W _ hc0
      · have hj : j < len * s := by
          have := (List.getElem?_eq_some_iff.1 hu).1
          rwa [flatten_length s _ (fun q hq => (hmem q hq).1), List.length_map, List.length_range] at this
        have hk : j / s < len := Nat.div_lt_of_lt_mul (by rw [Nat.mul_comm]; exact hj)
        have hjs : j % s < s := Nat.mod_lt _ h0
        have e : j / s * s + j % s = j := by rw [Nat.mul_comm]; exact Nat.div_add_mod j s
        have hg := flatten_get s ((List.range len).map f) (fun q hq => (hmem q hq).1) (j / s) (by simpa using hk) (j % s) hjs
        rw [e, hu] at hg
        have := (hf (j / s) (by omega)).2.2 (j % s) hjs
        rw [hadd, e] at this
        rw [this]
        simpa using hg.symm

theorem list_choose {α β : Type} (f : β → α) (P : β → Prop) (l : List α) (h : ∀ a ∈ l, ∃ b, f b = a ∧ P b) : ∃ bs : List β, bs.map f = l ∧ ∀ b ∈ bs, P b := by
  induction l with
  | nil => exact ⟨[], rfl, by simp⟩
  | cons a l ih =>
    obtain ⟨b, hb, hp⟩ := h a List.mem_cons_self
    obtain ⟨bs, h1, h2⟩ := ih (fun x hx => h x (List.mem_cons_of_mem _ hx))
    exact ⟨b :: bs, by rw [List.map_cons, hb, h1], fun x hx => by rcases List.mem_cons.1 hx with rfl | hx; exact hp; exact h2 x hx⟩
end
theorem Try.cellsStr' : Try.prog.cellsOf 9 = 1 := by kernel_rfl
theorem Try.cellsInt' : Try.prog.cellsOf 3 = 1 := by kernel_rfl
theorem Try.cellsI64' : Try.prog.cellsOf 2 = 1 := by kernel_rfl
/-- What holds of any int. -/
def I64 (x : Int) : Prop := -9223372036854775808 ≤ x ∧ x ≤ 9223372036854775807
theorem i64_wf {n : Int} (h : (Lit.int .i64 n).wf = true) : I64 n := by
  simp [Lit.wf, IntKind.min, IntKind.max, IntKind.signed, IntKind.bits] at h
  unfold I64; omega
end Go.Proofs.Ytpkkfdmhbbipoaa
