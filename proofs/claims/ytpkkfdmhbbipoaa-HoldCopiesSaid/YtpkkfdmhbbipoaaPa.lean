/- Plain functions of layer 13: what is wrong of a script. No program in sight. The arguments of a law, opened: a row of elements of several cells; ops with their arms; a script. Walks: layer 12's Name; layer 13: which op comes, the bare op, arms. Walks: layer 13's bare, sameOp. Walks: layer 13: what is wrong of an arm, of an op that expects. Walks: layer 13: what is wrong of an op that expects. -/
import Derived.Test.YtpkkfdmhbbipoaaMm
import Derived.Test.YtpkkfdmhbbipoaaMi
namespace Go.Proofs.Ytpkkfdmhbbipoaa
open Go.RowKit PopT

structure ArmV where
  pat : ByteArray
  tt : Int
  deriving DecidableEq
structure OpV where
  kind : Int
  text : ByteArray
  n : Int
  tt : Int
  arms : List ArmV
  onT : Int
  onE : Int
  deriving DecidableEq
structure ProgV where
  name : ByteArray
  deadline : Int
  jumps : Int
  ops : List OpV
  deriving DecidableEq

def ArmV.cells (m : ArmV) : List Value := [.string m.pat, .int .i64 m.tt]
def armVCells (l : List ArmV) : List Value := l.flatMap ArmV.cells
def OpV.cells (o : OpV) (v : Value) : List Value := [.int .i64 o.kind, .string o.text, .int .i64 o.n, .int .i64 o.tt, v, .int .i64 o.onT, .int .i64 o.onE]
def opVCells (l : List (OpV × Value)) : List Value := l.flatMap fun x => x.1.cells x.2
theorem opVCells_length (l : List (OpV × Value)) : (opVCells l).length = l.length * 7 := by
  induction l with
  | nil => rfl
  | cons x l ih => simp only [opVCells, List.flatMap_cons, List.length_append, List.length_cons] at *; rw [ih]; simp [OpV.cells]; omega
theorem op_at {w : World} {b off : Nat} {l : List (OpV × Value)} (hc : ∀ j u, (opVCells l)[j]? = some u → w.cell? ⟨b, off + j, none⟩ = some u) (k : Nat) (h : k < l.length) :
    w.cell? ⟨b, off + k * 7, none⟩ = some (.int .i64 (l[k]).1.kind) ∧ w.cell? ⟨b, off + k * 7 + 1, none⟩ = some (.string (l[k]).1.text) ∧ w.cell? ⟨b, off + k * 7 + 2, none⟩ = some (.int .i64 (l[k]).1.n) ∧
    w.cell? ⟨b, off + k * 7 + 3, none⟩ = some (.int .i64 (l[k]).1.tt) ∧ w.cell? ⟨b, off + k * 7 + 4, none⟩ = some (l[k]).2 ∧ w.cell? ⟨b, off + k * 7 + 5, none⟩ = some (.int .i64 (l[k]).1.onT) ∧ w.cell? ⟨b, off + k * 7 + 6, none⟩ = some (.int .i64 (l[k]).1.onE) := by
  have H := fun j hj u (hu : ((l[k]).1.cells (l[k]).2)[j]? = some u) => hc (k * 7 + j) u ((flatMap_get (fun x : OpV × Value => x.1.cells x.2) 7 l (fun _ _ => rfl) k h j hj).trans hu)
  exact ⟨H 0 (by omega) _ rfl, H 1 (by omega) _ rfl, H 2 (by omega) _ rfl, H 3 (by omega) _ rfl, H 4 (by omega) _ rfl, H 5 (by omega) _ rfl, H 6 (by omega) _ rfl⟩

/-- The arms of ops in memory. -/
def ArmsIn (w : World) (o : OpV) (v : Value) : Prop := ∃ A c, v = .slice A o.arms.length c ∧ Rd w A (armVCells o.arms)
theorem ArmsIn.below {w w' : World} {o : OpV} {v : Value} (h : ArmsIn w o v) (hb : Below w.heap.size w w') : ArmsIn w' o v := by
  obtain ⟨A, c, h1, h2⟩ := h
  exact ⟨A, c, h1, h2.below hb⟩
/-- Ops in memory. -/
def OpsIn (w : World) (A : Option Addr) (l : List OpV) : Prop := ∃ xs : List (OpV × Value), xs.map Prod.fst = l ∧ Rd w A (opVCells xs) ∧ ∀ x ∈ xs, ArmsIn w x.1 x.2
theorem OpsIn.below {w w' : World} {A : Option Addr} {l : List OpV} (h : OpsIn w A l) (hb : Below w.heap.size w w') : OpsIn w' A l := by
  obtain ⟨xs, h1, h2, h3⟩ := h
  exact ⟨xs, h1, h2.below hb, fun x hx => (h3 x hx).below hb⟩
theorem OpsIn.at {w : World} {A : Option Addr} {l : List OpV} (h : OpsIn w A l) (k : Nat) (hk : k < l.length) : ∃ b off v, A = some ⟨b, off, none⟩ ∧ b < w.heap.size ∧ ArmsIn w l[k] v ∧
    w.cell? ⟨b, off + k * 7, none⟩ = some (.int .i64 (l[k]).kind) ∧ w.cell? ⟨b, off + k * 7 + 1, none⟩ = some (.string (l[k]).text) ∧ w.cell? ⟨b, off + k * 7 + 2, none⟩ = some (.int .i64 (l[k]).n) ∧
    w.cell? ⟨b, off + k * 7 + 3, none⟩ = some (.int .i64 (l[k]).tt) ∧ w.cell? ⟨b, off + k * 7 + 4, none⟩ = some v ∧ w.cell? ⟨b, off + k * 7 + 5, none⟩ = some (.int .i64 (l[k]).onT) ∧ w.cell? ⟨b, off + k * 7 + 6, none⟩ = some (.int .i64 (l[k]).onE) := by
  obtain ⟨xs, rfl, h2, h3⟩ := h
  rw [List.length_map] at hk
  obtain ⟨b, off, hA, hlt, hc⟩ := h2.at (by rw [opVCells_length]; omega)
  have := op_at hc k hk
  refine ⟨b, off, xs[k].2, hA, hlt, ?_, ?_⟩
  · rw [List.getElem_map]; exact h3 _ (List.getElem_mem _)
  · rw [List.getElem_map]; exact this
/-! ### What is wrong -/
end Go.Proofs.Ytpkkfdmhbbipoaa
namespace Go.Proofs.Ytpkkfdmhbbipoaa
open Go.ChangeShapes Go.WideShapes Go.ChangeAt Go.RowKit Go.WideElems Go.Deep

section
variable {H : Type} {enc : TypeId × Value → H}
def OpV.val (o : OpV) (v : Value) : Value := .agg #[.int .i64 o.kind, .string o.text, .int .i64 o.n, .int .i64 o.tt, v, .int .i64 o.onT, .int .i64 o.onE]
def ProgV.val (p : ProgV) (v : Value) : Value := .agg #[.string p.name, .int .i64 p.deadline, .int .i64 p.jumps, v]

end
end Go.Proofs.Ytpkkfdmhbbipoaa
namespace Go.Proofs.Ytpkkfdmhbbipoaa
open Go.RowKit PopT

theorem size_list' (s : ByteArray) : s.data.toList.length = s.size := by simp
theorem str_ne {a b : ByteArray} (h : a ≠ b) : a.toList ≠ b.toList := by
  intro h'
  rw [ByteArray.toList_eq, ByteArray.toList_eq] at h'
  exact h (Go.WideShapes.bytes_inj h')
end Go.Proofs.Ytpkkfdmhbbipoaa
namespace Go.Proofs.Ytpkkfdmhbbipoaa
open Go.RowKit PopT

end Go.Proofs.Ytpkkfdmhbbipoaa
namespace Go.Proofs.Ytpkkfdmhbbipoaa
open Go.RowKit PopT

theorem fact4 {w : World} {g : Nat} {t : TypeId} {a b c d : Value} (h : Blk w g t #[a, b, c, d]) : w.cell? ⟨g, 0, none⟩ = some a ∧ w.cell? ⟨g, 1, none⟩ = some b ∧ w.cell? ⟨g, 2, none⟩ = some c ∧ w.cell? ⟨g, 3, none⟩ = some d :=
  ⟨h.cell 0, h.cell 1, h.cell 2, h.cell 3⟩
end Go.Proofs.Ytpkkfdmhbbipoaa
namespace Go.Proofs.Ytpkkfdmhbbipoaa
open Go.RowKit PopT

end Go.Proofs.Ytpkkfdmhbbipoaa
