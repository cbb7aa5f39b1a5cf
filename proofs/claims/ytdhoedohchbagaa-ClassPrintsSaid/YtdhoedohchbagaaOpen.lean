/- The arguments of a law, opened: a slice of items, a text. -/
import Derived.Test.YtdhoedohchbagaaRow
import Derived.Test.YtdhoedohchbagaaMod
import Derived.Laws.IdiomArrays
namespace Go.Proofs.Ytdhoedohchbagaa
open Go.ChangeShapes Go.WideShapes Go.ChangeAt Go.RowKit Go.WideElems Go.Deep
open Go.ChangeMaps (open_string shut_string)

section
variable {H : Type} {enc : TypeId × Value → H}
theorem Try.cellsSet : Try.prog.cellsOf 51 = 4 := by kernel_rfl
theorem Try.cellsBool : Try.prog.cellsOf 4 = 1 := by kernel_rfl
theorem Try.cellsU64' : Try.prog.cellsOf 49 = 1 := by kernel_rfl

theorem open_u64 {W : World} {sp : Nat → Bool} {fuel : Nat} {v : Value} {x : DataW H × List MemPlace} (h : DataW.trod enc Try.prog W 0 sp true fuel 49 [v] = some x) : ∃ y : BitVec 64, v = w64 y := by
  obtain ⟨n, hv, _, hw⟩ := DataW.trod_int Try.underlying49 h
  simp only [List.cons.injEq, and_true] at hv
  have hb : 0 ≤ n ∧ n < 18446744073709551616 := by
    simp [Lit.wf, IntKind.min, IntKind.max, IntKind.signed, IntKind.bits] at hw
    omega
  refine ⟨BitVec.ofNat 64 n.toNat, ?_⟩
  rw [hv]
  show Value.int .u64 n = .int .u64 _
  congr 1
  rw [BitVec.toNat_ofNat, Nat.mod_eq_of_lt (by omega)]
  omega

theorem open_set {W : World} {sp : Nat → Bool} {fuel : Nat} {c0 c1 c2 c3 : Value} {x : DataW H × List MemPlace} (h : DataW.trod enc Try.prog W 0 sp true fuel 51 [c0, c1, c2, c3] = some x) :
    ∃ s : BSet, [c0, c1, c2, c3] = s.cells := by
  obtain ⟨y0, y1, y2, y3, n, _, h0, h1, h2, h3⟩ := trod_array4 Try.underlying51 Try.cellsU64' h
  obtain ⟨z0, rfl⟩ := open_u64 h0
  obtain ⟨z1, rfl⟩ := open_u64 h1
  obtain ⟨z2, rfl⟩ := open_u64 h2
  obtain ⟨z3, rfl⟩ := open_u64 h3
  exact ⟨⟨z0, z1, z2, z3⟩, rfl⟩

end
end Go.Proofs.Ytdhoedohchbagaa
