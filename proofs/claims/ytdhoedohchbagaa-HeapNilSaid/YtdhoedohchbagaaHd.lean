/- A heap in memory: a block of two cells (the entries' slice, the places' slice) and the two rows. -/
import Derived.Test.YtdhoedohchbagaaHc
import Derived.Test.YtdhoedohchbagaaTyp
import Derived.Test.YtdhoedohchbagaaMod
import Derived.Test.YtdhoedohchbagaaKeep
namespace Go.Proofs.Ytdhoedohchbagaa
open Go.RowKit

def Ent.cells (e : Ent) : List Value := [.int .i64 e.t, .int .i64 (e.id : Int)]
def Ent.val (e : Ent) : Value := .agg #[.int .i64 e.t, .int .i64 (e.id : Int)]
def entCells (A : List Ent) : List Value := A.flatMap Ent.cells
theorem entCells_length (A : List Ent) : (entCells A).length = A.length * 2 := by
  induction A with
  | nil => rfl
  | cons x l ih => simp only [entCells, List.flatMap_cons, List.length_append, List.length_cons] at ih ⊢; rw [ih]; simp [Ent.cells]; omega
theorem entCells_append (a b : List Ent) : entCells (a ++ b) = entCells a ++ entCells b := by simp [entCells]
theorem entCells_get (l : List Ent) (k : Nat) (h : k < l.length) (j : Nat) (hj : j < 2) : (entCells l)[k * 2 + j]? = (eg l k).cells[j]? := by
  induction l generalizing k with
  | nil => simp at h
  | cons x l ih =>
    rw [show entCells (x :: l) = x.cells ++ entCells l from rfl]
    cases k with
    | zero => rw [List.getElem?_append_left (by simp [Ent.cells]; omega)]; simp [eg]
    | succ k =>
      rw [List.getElem?_append_right (by simp [Ent.cells]; omega), show (Ent.cells x).length = 2 from rfl, show (k + 1) * 2 + j - 2 = k * 2 + j from by omega]
      rw [ih k (by simpa using h)]
      simp [eg]
theorem entCells_set (l : List Ent) (k : Nat) (e : Ent) : ((entCells l).set (k * 2) (.int .i64 e.t)).set (k * 2 + 1) (.int .i64 (e.id : Int)) = entCells (l.set k e) := by
  induction l generalizing k with
  | nil => rfl
  | cons x l ih =>
    cases k with
    | zero => rfl
    | succ k =>
      rw [show entCells (x :: l) = .int .i64 x.t :: .int .i64 (x.id : Int) :: entCells l from rfl, show (k + 1) * 2 = k * 2 + 1 + 1 from by omega]
      simp only [List.set_cons_succ]
      rw [ih k]; rfl
theorem entCells_take (l : List Ent) (k : Nat) : entCells (l.take k) = (entCells l).take (k * 2) := by
  induction l generalizing k with
  | nil => simp [entCells]
  | cons x l ih =>
    cases k with
    | zero => rfl
    | succ k =>
      rw [List.take_succ_cons, show entCells (x :: l.take k) = .int .i64 x.t :: .int .i64 (x.id : Int) :: entCells (l.take k) from rfl,
        show entCells (x :: l) = .int .i64 x.t :: .int .i64 (x.id : Int) :: entCells l from rfl, show (k + 1) * 2 = k * 2 + 1 + 1 from by omega, ih k]
      simp only [List.take_succ_cons]

/-- The heap's memory. -/
structure HpR (w : World) (g gw m : Nat) (v : Value) (n : Nat) (L : List Ent) (wh : List Int) : Prop where
  blk : Blk w g 118 #[v, .slice (some ⟨gw, 0, none⟩) m m]
  row : w.ownsRow 0 38 2 v n (entCells L)
  whe : w.ownsRow 0 3 1 (.slice (some ⟨gw, 0, none⟩) m m) m (intCells wh)
/-- Its blocks. -/
def HpF (g gw : Nat) (v : Value) (x : Nat) : Prop := x = g ∨ x = gw ∨ v.ownBlock = some x

theorem HpR.len {w : World} {g gw m : Nat} {v : Value} {n : Nat} {L : List Ent} {wh : List Int} (h : HpR w g gw m v n L wh) : L.length = n := by
  have := h.row.1; rw [entCells_length] at this; omega
theorem HpR.wlen {w : World} {g gw m : Nat} {v : Value} {n : Nat} {L : List Ent} {wh : List Int} (h : HpR w g gw m v n L wh) : wh.length = m := by
  have := h.whe.1; rwa [intCells_length, Nat.mul_one] at this
theorem HpR.lt {w : World} {g gw m : Nat} {v : Value} {n : Nat} {L : List Ent} {wh : List Int} (h : HpR w g gw m v n L wh) : ∀ x, HpF g gw v x → x < w.heap.size := by
  rintro x (rfl | rfl | hx)
  · exact h.blk.lt
  · exact (h.whe.lt x rfl).2
  · exact (h.row.lt x hx).2
theorem HpR.keep {G : Nat → Prop} {w w' : World} {g gw m : Nat} {v : Value} {n : Nat} {L : List Ent} {wh : List Int} (h : HpR w g gw m v n L wh) (hk : Keep G w w') (hd : ∀ x, HpF g gw v x → ¬ G x) : HpR w' g gw m v n L wh :=
  ⟨hk.blk h.blk (hd g (.inl rfl)), hk.own h.row (fun k hk => hd k (.inr (.inr hk))), hk.own h.whe (fun k hk => hd k (.inr (.inl (by simpa [Value.ownBlock] using hk.symm))))⟩
theorem HpR.below {w w' : World} {g gw m : Nat} {v : Value} {n : Nat} {L : List Ent} {wh : List Int} (h : HpR w g gw m v n L wh) (hb : Below w.heap.size w w') : HpR w' g gw m v n L wh :=
  h.keep (Keep.of_below (F := fun _ => False) hb) (fun _ _ hf => hf)
theorem HpR.setWh {w : World} {g gw m : Nat} {v : Value} {n : Nat} {L : List Ent} {wh : List Int} (h : HpR w g gw m v n L wh) (k : Nat) (x : Int) :
    HpR (w.setCell ⟨gw, k, none⟩ (.int .i64 x)) g gw m v n L (wh.set k x) := by
  have h1 : (Value.slice (some ⟨gw, 0, none⟩) m m).ownBlock ≠ some g := blk_ne h.blk h.whe (by decide)
  have h2 := own_ne h.row h.whe (by decide)
  refine ⟨h.blk.set_far (fun e => h1 (by simp [Value.ownBlock, e])), ?_, ?_⟩
  · exact h.row.kept (row := some gw) ⟨rfl, rfl, rfl, by simp, fun q _ hq => Below.heap_setCell w ⟨gw, k, none⟩ _ q (fun e => hq (by rw [e]))⟩ (by simpa [Value.ownBlock] using h2)
  · have := (h.whe.stored k (.int .i64 x)).1
    rwa [show (intCells wh).set k (.int .i64 x) = intCells (wh.set k x) from by simp [intCells, List.map_set]] at this
/-- Entry k turned. -/
theorem HpR.setEnt {w : World} {g gw m : Nat} {ge c : Nat} {n : Nat} {L : List Ent} {wh : List Int} (h : HpR w g gw m (.slice (some ⟨ge, 0, none⟩) n c) n L wh) (k : Nat) (e : Ent) :
    HpR ((w.setCell ⟨ge, k * 2, none⟩ (.int .i64 e.t)).setCell ⟨ge, k * 2 + 1, none⟩ (.int .i64 (e.id : Int))) g gw m (.slice (some ⟨ge, 0, none⟩) n c) n (L.set k e) wh := by
  have h1 : (Value.slice (some ⟨ge, 0, none⟩) n c).ownBlock ≠ some g := blk_ne h.blk h.row (by decide)
  have h2 := own_ne h.whe h.row (by decide)
  have hne : g ≠ ge := fun e => h1 (by simp [Value.ownBlock, e])
  have hne2 : (Value.slice (some ⟨gw, 0, none⟩) m m).ownBlock ≠ some ge := by simpa [Value.ownBlock] using h2
  refine ⟨(h.blk.set_far hne).set_far hne, ?_, own_kept_set (own_kept_set h.whe _ _ hne2) _ _ hne2⟩
  have a := (h.row.stored (k * 2) (.int .i64 e.t)).1
  have b := (a.stored (k * 2 + 1) (.int .i64 (e.id : Int))).1
  rwa [entCells_set] at b
theorem HpR.ent {w : World} {g gw m : Nat} {v : Value} {n : Nat} {L : List Ent} {wh : List Int} (h : HpR w g gw m v n L wh) (h0 : 0 < n) : ∃ ge c, v = .slice (some ⟨ge, 0, none⟩) n c ∧ n ≤ c := by
  rcases h.row.2 with ⟨_, hn⟩ | ⟨ge, c, cur, hv, hb, _, hn, _⟩
  · omega
  · exact ⟨ge, c, hv, hn⟩
end Go.Proofs.Ytdhoedohchbagaa
