/- The arguments of a law, opened: a slice of items, a text. -/
import Derived.Test.YtpkkfdmhbbipoaaRow
import Derived.Test.YtpkkfdmhbbipoaaMod
import Derived.Laws.IdiomArrays
namespace Go.Proofs.Ytpkkfdmhbbipoaa
open Go.ChangeShapes Go.WideShapes Go.ChangeAt Go.RowKit Go.WideElems Go.Deep
open Go.ChangeMaps (open_string shut_string)

section
variable {H : Type} {enc : TypeId × Value → H}
theorem Try.cellsItem : Try.prog.cellsOf 158 = 5 := by kernel_rfl
theorem Try.cellsSet : Try.prog.cellsOf 156 = 4 := by kernel_rfl
theorem Try.cellsBool : Try.prog.cellsOf 4 = 1 := by kernel_rfl
theorem Try.cellsU64' : Try.prog.cellsOf 117 = 1 := by kernel_rfl

theorem open_u64 {W : World} {sp : Nat → Bool} {fuel : Nat} {v : Value} {x : DataW H × List MemPlace} (h : DataW.trod enc Try.prog W 0 sp true fuel 117 [v] = some x) : ∃ y : BitVec 64, v = w64 y := by
  obtain ⟨n, hv, _, hw⟩ := DataW.trod_int Try.underlying117 h
  simp only [List.cons.injEq, and_true] at hv
  have hb : 0 ≤ n ∧ n < 18446744073709551616 := by
    simp [Lit.wf, IntKind.min, IntKind.max, IntKind.signed, IntKind.bits] at hw
    omega
  refine ⟨BitVec.ofNat 64 n.toNat, ?_⟩
  rw [hv]
  show Value.int .u64 n = .int .u64 _
  congr 1
  rw [BitVec.toNat_ofNat, Nat.mod_eq_of_lt (by omega)]
  omega

set_option maxRecDepth 100000 in
theorem open_set {W : World} {sp : Nat → Bool} {fuel : Nat} {c0 c1 c2 c3 : Value} {x : DataW H × List MemPlace} (h : DataW.trod enc Try.prog W 0 sp true fuel 156 [c0, c1, c2, c3] = some x) :
    ∃ s : BSet, [c0, c1, c2, c3] = s.cells := by
  obtain ⟨y0, y1, y2, y3, n, _, h0, h1, h2, h3⟩ := trod_array4 Try.underlying156 Try.cellsU64' h
  obtain ⟨z0, rfl⟩ := open_u64 h0
  obtain ⟨z1, rfl⟩ := open_u64 h1
  obtain ⟨z2, rfl⟩ := open_u64 h2
  obtain ⟨z3, rfl⟩ := open_u64 h3
  exact ⟨⟨z0, z1, z2, z3⟩, rfl⟩

set_option maxRecDepth 100000 in
theorem open_item {W : World} {sp : Nat → Bool} {fuel : Nat} {cs : List Value} {x : DataW H × List MemPlace} (h : DataW.trod enc Try.prog W 0 sp true fuel 158 cs = some x) :
    ∃ it : Item, cs = it.cells := by
  obtain ⟨y0, y1, n, _, hl, h0, h1⟩ := trod_struct2 Try.underlying158 h
  rw [Try.cellsItem] at hl
  match cs, hl with
  | [c0, c1, c2, c3, c4], _ =>
    simp only [Try.cellsBool, Try.cellsSet] at h0 h1
    obtain ⟨b, hb, _⟩ := DataW.trod_bool Try.underlying4 h0
    obtain ⟨s, hs⟩ := open_set h1
    refine ⟨⟨b, s⟩, ?_⟩
    simp at hb
    rw [hb, hs]; rfl

set_option maxRecDepth 100000 in
theorem open_items {W : World} {base : Nat} {v : Value} {d : DataW H} {p : List MemPlace} (hval : Value.okWide Try.prog W .any base 121 v) (h : DataW.Trod enc Try.prog W 0 (fun _ => true) true 121 v d p) : ∃ A n c, ∃ l : List Item, v = .slice A n c ∧ l.length = n ∧ n ≤ 9223372036854775807 ∧ Rd W A (itemCells l) := by
  obtain ⟨A, n, c, rfl⟩ := okWide_slice Try.underlying121 hval
  obtain ⟨fuel, hf⟩ := h
  rcases open_slice Try.underlying121 hf with ⟨hcs, hx⟩ | ⟨a, len, cap, m, n', D, Pl, hcs, _, hl, hm, hmm, hx, hi⟩
  · simp [Value.cells] at hcs
    obtain ⟨rfl, rfl, rfl⟩ := hcs
    exact ⟨none, 0, 0, [], rfl, rfl, by omega, .inl rfl⟩
  · simp [Value.cells] at hcs
    obtain ⟨rfl, rfl, rfl⟩ := hcs
    simp only [if_true] at hmm
    subst hmm
    have hex : ∀ i, i < m → ∃ it : Item, ∀ j u, it.cells[j]? = some u → W.cell? ((a.add (i * 5)).add j) = some u := by
      intro i him
      obtain ⟨cs', hc, ht⟩ := hi i him
      rw [Try.cellsItem] at hc
      obtain ⟨_, hlen, hat⟩ := World.cells?_some hc
      obtain ⟨it, rfl⟩ := open_item ht
      refine ⟨it, fun j u hj => ?_⟩
      have hj5 : j < 5 := by
        have := (List.getElem?_eq_some_iff.1 hj).1
        rwa [Item.cells_length] at this
      rw [hat j hj5]; exact hj
    obtain ⟨f, hf⟩ := choose_lt hex
    refine ⟨some a, n, m, (List.range n).map f, rfl, by simp, by unfold maxLen at hm; omega, ?_⟩
    rcases Nat.eq_zero_or_pos n with h0 | h0
    · subst h0; exact .inl rfl
    · have h00 := hf 0 (by omega) 0 _ rfl
      obtain ⟨b, off, spot⟩ := a
      have hspot : spot = none := by
        have := World.cell?_spot h00
        simpa [Addr.add] using this
      subst hspot
      have hadd : ∀ i j, ((⟨b, off, none⟩ : Addr).add i).add j = ⟨b, off + (i + j), none⟩ := by
        intro i j
        unfold Addr.add
        split <;> split <;> simp_all <;> omega
      refine .inr ⟨b, off, rfl, ?_, fun j u hu => ?_⟩
      · exact World.block_lt_of_cell? W _ h00
      · have hj : j < n * 5 := by
          have := (List.getElem?_eq_some_iff.1 hu).1
          rwa [itemCells_length, List.length_map, List.length_range] at this
        have hk : j / 5 < n := by omega
        have hg := itemCells_get ((List.range n).map f) (j / 5) (by simpa using hk) (j % 5) (Nat.mod_lt _ (by omega))
        rw [show j / 5 * 5 + j % 5 = j from by omega, hu] at hg
        have := hf (j / 5) (by omega) (j % 5) u (by simpa using hg.symm)
        rw [hadd, show j / 5 * 5 + j % 5 = j from by omega] at this
        exact this
end
end Go.Proofs.Ytpkkfdmhbbipoaa
