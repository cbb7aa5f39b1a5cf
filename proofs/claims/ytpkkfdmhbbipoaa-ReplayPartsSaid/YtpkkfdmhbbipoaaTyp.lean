/- Facts on this program's types: rows of its table, equality of sets and items. -/
import Derived.Test.YtpkkfdmhbbipoaaRows
import Derived.Test.YtpkkfdmhbbipoaaBase
import Derived.ChangeKeysEq
namespace Go.Proofs.Ytpkkfdmhbbipoaa
open Go.RowKit Go.WideElems

theorem Try.infoBool : (Try.prog.info? 4).map (fun i => (i.zero, i.size, i.bytes)) = some (some (.bool false), 1, 1) := by kernel_rfl
theorem Try.infoInt : (Try.prog.info? 3).map (fun i => (i.zero, i.size, i.bytes)) = some (some (.int .i64 0), 1, 8) := by kernel_rfl
theorem Try.infoU64 : (Try.prog.info? 117).map (fun i => (i.zero, i.size, i.bytes)) = some (some (.int .u64 0), 1, 8) := by kernel_rfl
theorem Try.infoItem : (Try.prog.info? 158).map (fun i => (i.zero, i.size, i.bytes)) = some (some (.agg #[.bool false, .int .u64 0, .int .u64 0, .int .u64 0, .int .u64 0]), 5, 40) := by kernel_rfl
theorem Try.cellsU64 : Try.prog.cellsOf 117 = 1 := by kernel_rfl
theorem Try.isAggU64 (w : World) : (isAgg 117).run Try.prog w = .ok false w := by kernel_rfl

theorem w64_eq (x y : BitVec 64) : ((x.toNat : Int) == (y.toNat : Int)) = decide (x = y) := by
  by_cases h : x = y
  · subst h; simp
  · have : x.toNat ≠ y.toNat := fun e => h (BitVec.eq_of_toNat_eq e)
    simp [h]; omega

theorem Try.eqSet (x y : BSet) (W : World) : (Op.equalIn 10000 156 (.agg #[w64 x.w0, w64 x.w1, w64 x.w2, w64 x.w3]) (.agg #[w64 y.w0, w64 y.w1, w64 y.w2, w64 y.w3])).run Try.prog W = .ok (x == y) W := by
  obtain ⟨i0, hi, hz0, hz1, hz2⟩ := info_parts Try.infoU64
  obtain ⟨x0, x1, x2, x3⟩ := x
  obtain ⟨y0, y1, y2, y3⟩ := y
  have hp : ∀ (cs : Array Value) (k : Nat) (v : Value), cs[k]? = some v → (part 117 cs k).run Try.prog W = .ok v W := by
    intro cs k v h
    simp [part, h]
  have he : ∀ a b : BitVec 64, (Op.equalIn 9999 117 (w64 a) (w64 b)).run Try.prog W = .ok (decide (a = b)) W := by
    intro a b
    rw [← w64_eq]
    exact run_equalIn_int W 9998 117 .u64 .u64 _ _ Try.underlying117
  rw [run_equalIn_array W 9999 _ _ Try.underlying156 hi]
  have a0 := hp #[w64 x0, w64 x1, w64 x2, w64 x3] (0 * 1) (w64 x0) rfl
  have a1 := hp #[w64 x0, w64 x1, w64 x2, w64 x3] (1 * 1) (w64 x1) rfl
  have a2 := hp #[w64 x0, w64 x1, w64 x2, w64 x3] (2 * 1) (w64 x2) rfl
  have a3 := hp #[w64 x0, w64 x1, w64 x2, w64 x3] (3 * 1) (w64 x3) rfl
  have b0 := hp #[w64 y0, w64 y1, w64 y2, w64 y3] (0 * 1) (w64 y0) rfl
  have b1 := hp #[w64 y0, w64 y1, w64 y2, w64 y3] (1 * 1) (w64 y1) rfl
  have b2 := hp #[w64 y0, w64 y1, w64 y2, w64 y3] (2 * 1) (w64 y2) rfl
  have b3 := hp #[w64 y0, w64 y1, w64 y2, w64 y3] (3 * 1) (w64 y3) rfl
  have hd : ((⟨x0, x1, x2, x3⟩ : BSet) == ⟨y0, y1, y2, y3⟩) = (decide (x0 = y0) && (decide (x1 = y1) && (decide (x2 = y2) && decide (x3 = y3)))) := by
    rw [Bool.eq_iff_iff]; simp
  rw [hd]
  have e0 := he x0 y0
  have e1 := he x1 y1
  have e2 := he x2 y2
  have e3 := he x3 y3
  clear hp he hd
  generalize decide (x0 = y0) = p0 at *
  generalize decide (x1 = y1) = p1 at *
  generalize decide (x2 = y2) = p2 at *
  generalize decide (x3 = y3) = p3 at *
  simp only [show List.range 4 = [0, 1, 2, 3] from rfl, Op.eqItems, Sem.run_bind, Try.cellsU64, a0, b0, e0, Result.andThen_ok]
  cases p0
  · rfl
  simp only [Bool.not_true, Bool.false_eq_true, if_false, Bool.true_and, Sem.run_bind, a1, b1, e1, Result.andThen_ok]
  cases p1
  · rfl
  simp only [Bool.not_true, Bool.false_eq_true, if_false, Bool.true_and, Sem.run_bind, a2, b2, e2, Result.andThen_ok]
  cases p2
  · rfl
  simp only [Bool.not_true, Bool.false_eq_true, if_false, Bool.true_and, Sem.run_bind, a3, b3, e3, Result.andThen_ok]
  cases p3 <;> rfl

end Go.Proofs.Ytpkkfdmhbbipoaa
