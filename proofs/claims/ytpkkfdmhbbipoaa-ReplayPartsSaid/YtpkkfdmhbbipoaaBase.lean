/- Small facts on worlds, rows of cells and slices that all walks of this claim use; no program in sight. -/
import Derived.WalkKit
import Derived.WalkSpells
import Derived.WalkLawsBesides
namespace Go.Proofs.Ytpkkfdmhbbipoaa
open Go.RowKit

theorem hid {p : Prop} (h : p) : Hid p := h

/-- The slice's address A leads to the cells xs (nothing is asked where there are none). -/
def Rd (w : World) (A : Option Addr) (xs : List Value) : Prop :=
  xs = [] ∨ ∃ b off, A = some ⟨b, off, none⟩ ∧ b < w.heap.size ∧ ∀ j u, xs[j]? = some u → w.cell? ⟨b, off + j, none⟩ = some u

theorem Rd.below {w w' : World} {A : Option Addr} {xs : List Value} (h : Rd w A xs) (hb : Below w.heap.size w w') : Rd w' A xs := by
  rcases h with h | ⟨b, off, hA, hlt, hc⟩
  · exact .inl h
  · exact .inr ⟨b, off, hA, Nat.lt_of_lt_of_le hlt hb.size, fun j u hj => (hb.cell (p := ⟨b, off + j, none⟩) hlt).trans (hc j u hj)⟩

theorem Rd.at {w : World} {A : Option Addr} {xs : List Value} (h : Rd w A xs) (hne : 0 < xs.length) :
    ∃ b off, A = some ⟨b, off, none⟩ ∧ b < w.heap.size ∧ ∀ j u, xs[j]? = some u → w.cell? ⟨b, off + j, none⟩ = some u := by
  rcases h with h | h
  · rw [h] at hne; simp at hne
  · exact h

theorem cell_set_other {w : World} {b o b' o' : Nat} {u : Value} (h : b' ≠ b) : (w.setCell ⟨b, o, none⟩ u).cell? ⟨b', o', none⟩ = w.cell? ⟨b', o', none⟩ :=
  World.cell?_setCell_other w ⟨b, o, none⟩ ⟨b', o', none⟩ u (fun e => h (by injection e with e1; exact e1.symm))

theorem cell_set_same {w : World} {b o : Nat} {u x : Value} (h : w.cell? ⟨b, o, none⟩ = some x) : (w.setCell ⟨b, o, none⟩ u).cell? ⟨b, o, none⟩ = some u := by
  unfold World.cell? World.setCell at *
  simp only [Array.getElem?_modify, if_true] at *
  split at h
  · rename_i c e f hh
    rw [hh]
    simp only [Option.isSome_none, Bool.false_eq_true, if_false, Option.map_some] at h ⊢
    have := (Array.getElem?_eq_some_iff.1 h).1
    simp [this]
  · cases h

/-- A set of bytes: four words. -/
structure BSet where
  w0 : BitVec 64
  w1 : BitVec 64
  w2 : BitVec 64
  w3 : BitVec 64
  deriving DecidableEq, Inhabited

abbrev w64 (x : BitVec 64) : Value := .int .u64 (x.toNat : Int)
def BSet.cells (s : BSet) : List Value := [w64 s.w0, w64 s.w1, w64 s.w2, w64 s.w3]
def BSet.val (s : BSet) : Value := .agg #[w64 s.w0, w64 s.w1, w64 s.w2, w64 s.w3]
def BSet.zero : BSet := ⟨0, 0, 0, 0⟩

structure Item where
  run : Bool
  set : BSet
  deriving DecidableEq, Inhabited

def Item.cells (x : Item) : List Value := .bool x.run :: x.set.cells
def Item.val (x : Item) : Value := .agg #[.bool x.run, w64 x.set.w0, w64 x.set.w1, w64 x.set.w2, w64 x.set.w3]
def itemCells (l : List Item) : List Value := l.flatMap Item.cells

theorem Item.cells_length (x : Item) : x.cells.length = 5 := rfl
theorem itemCells_length (l : List Item) : (itemCells l).length = l.length * 5 := by
  induction l with
  | nil => rfl
  | cons x l ih => simp only [itemCells, List.flatMap_cons, List.length_append, List.length_cons] at ih ⊢; rw [ih, Item.cells_length]; omega
theorem itemCells_append (a b : List Item) : itemCells (a ++ b) = itemCells a ++ itemCells b := by simp [itemCells]
theorem itemCells_get (l : List Item) (k : Nat) (h : k < l.length) (j : Nat) (hj : j < 5) : (itemCells l)[k * 5 + j]? = (l[k]).cells[j]? := by
  induction l generalizing k with
  | nil => simp at h
  | cons x l ih =>
    rw [show itemCells (x :: l) = x.cells ++ itemCells l from rfl]
    cases k with
    | zero => rw [List.getElem?_append_left (by rw [Item.cells_length]; omega)]; simp
    | succ k =>
      rw [List.getElem?_append_right (by rw [Item.cells_length]; omega), Item.cells_length, show (k + 1) * 5 + j - 5 = k * 5 + j from by omega]
      exact ih k (by simpa using h)

theorem itemCells_one (l : List Item) : ∀ u ∈ itemCells l, u.oneCell' = true := by
  intro u hu
  obtain ⟨x, _, hx⟩ := List.mem_flatMap.1 hu
  simp only [Item.cells, BSet.cells, List.mem_cons, List.not_mem_nil, or_false] at hx
  rcases hx with rfl | rfl | rfl | rfl | rfl <;> rfl

/-- What a walk wants of item k of a row of items at ⟨b, off⟩. -/
theorem item_at {w : World} {b off : Nat} {l : List Item} (hc : ∀ j u, (itemCells l)[j]? = some u → w.cell? ⟨b, off + j, none⟩ = some u) (k : Nat) (h : k < l.length) :
    w.cell? ⟨b, off + k * 5, none⟩ = some (.bool (l[k]).run) ∧ w.cell? ⟨b, off + k * 5 + 1, none⟩ = some (w64 (l[k]).set.w0) ∧ w.cell? ⟨b, off + k * 5 + 2, none⟩ = some (w64 (l[k]).set.w1) ∧
    w.cell? ⟨b, off + k * 5 + 3, none⟩ = some (w64 (l[k]).set.w2) ∧ w.cell? ⟨b, off + k * 5 + 4, none⟩ = some (w64 (l[k]).set.w3) := by
  have H := fun j hj u (hu : (l[k]).cells[j]? = some u) => hc (k * 5 + j) u ((itemCells_get l k h j hj).trans hu)
  refine ⟨?_, ?_, ?_, ?_, ?_⟩
  · exact H 0 (by omega) _ rfl
  · have := H 1 (by omega) _ rfl; rwa [← Nat.add_assoc] at this
  · have := H 2 (by omega) _ rfl; rwa [← Nat.add_assoc] at this
  · have := H 3 (by omega) _ rfl; rwa [← Nat.add_assoc] at this
  · have := H 4 (by omega) _ rfl; rwa [← Nat.add_assoc] at this

/-! ### Rows of the call's own -/
theorem own_shape {w : World} {base : Nat} {e : TypeId} {size : Nat} {v : Value} {n : Nat} {xs : List Value} (h : w.ownsRow base e size v n xs) :
    ∃ A c, v = .slice A n c ∧ Rd w A xs := by
  rcases h.2 with ⟨rfl, h0⟩ | ⟨g, cap, cur, rfl, hb, hg, hn, hc, hcs, ht⟩
  · subst h0
    refine ⟨none, 0, rfl, .inl (List.eq_nil_of_length_eq_zero (by rw [h.1]; simp))⟩
  · refine ⟨_, _, rfl, .inr ⟨g, 0, rfl, (Array.getElem?_eq_some_iff.1 hg).1, fun j u hu => ?_⟩⟩
    have := h.cells (g := g) rfl j u hu
    rw [show ((⟨g, 0, none⟩ : Addr).add j) = ⟨g, 0 + j, none⟩ from by unfold Addr.add; split <;> simp_all] at this
    exact this

/-- Behind an append the owner's block is the row's own, or it is new. -/
theorem below_grown {B : Nat} {w0 w w' : World} {base : Nat} {e : TypeId} {size : Nat} {v : Value} {n : Nat} {xs : List Value} (h : Below B w0 w) (hown : w.ownsRow base e size v n xs)
    (hg : w.grownBy w' v.ownBlock) (hB : B ≤ base) (hs : B ≤ w.heap.size) : Below B w0 w' :=
  h.grown hg hs (fun k hk => Nat.le_trans hB (hown.lt k hk).1)

theorem own_below {w w' : World} {base B : Nat} {e : TypeId} {size : Nat} {v : Value} {n : Nat} {xs : List Value} (h : w.ownsRow base e size v n xs) (hb : Below B w w') (hB : w.heap.size ≤ B := by exact Nat.le_refl _) :
    w'.ownsRow base e size v n xs :=
  h.kept (row := none) ⟨hb.os, hb.tape, hb.output, hb.size, fun q hq _ => hb.block q (Nat.lt_of_lt_of_le hq hB)⟩ (by cases hv : v.ownBlock <;> simp)

theorem own_base {w : World} {base B : Nat} {e : TypeId} {size : Nat} {v : Value} {n : Nat} {xs : List Value} (h : w.ownsRow base e size v n xs) (hB : B ≤ base) : w.ownsRow B e size v n xs := by
  obtain ⟨h1, h2⟩ := h
  refine ⟨h1, ?_⟩
  rcases h2 with h2 | ⟨g, cap, cur, hv, hb, r⟩
  · exact .inl h2
  · exact .inr ⟨g, cap, cur, hv, by omega, r⟩

/-- Rows of different element types lie in different blocks. -/
theorem own_ne {w : World} {b1 b2 : Nat} {e1 e2 : TypeId} {s1 s2 : Nat} {v1 v2 : Value} {n1 n2 : Nat} {xs ys : List Value} (h1 : w.ownsRow b1 e1 s1 v1 n1 xs) (h2 : w.ownsRow b2 e2 s2 v2 n2 ys) (hne : e1 ≠ e2) :
    v1.ownBlock = none ∨ v1.ownBlock ≠ v2.ownBlock := by
  rcases h1.2 with ⟨rfl, _⟩ | ⟨g, cap, cur, rfl, _, hg, _⟩
  · exact .inl rfl
  · right
    rcases h2.2 with ⟨rfl, _⟩ | ⟨g', cap', cur', rfl, _, hg', _⟩
    · simp [Value.ownBlock]
    · intro e
      simp only [Value.ownBlock, Option.some.injEq] at e
      subst e
      rw [hg] at hg'
      injection hg' with hg'
      injection hg' with _ ht
      exact hne ht

theorem cells_new {w : World} {e : TypeId} {cs : List Value} : ∀ j u, cs[j]? = some u → (w.alloc (.cells cs.toArray e)).cell? ((⟨w.heap.size, 0, none⟩ : Addr).add j) = some u := by
  intro j u hj
  rw [show ((⟨w.heap.size, 0, none⟩ : Addr).add j) = ⟨w.heap.size, j, none⟩ from by unfold Addr.add; split <;> simp_all]
  rw [cell_of_row _ w.heap.size j cs.toArray e (0, 0) (heap_alloc_new w _)]
  simpa using hj

/-- 'out = append(out, x)': x lies in a new block of its own. -/
theorem wpList_append1 {P : Program} (w : World) {ops : Array Oper} {rest : List Oper} {o : Oper} {a : Act} {Q : Exit → Act → World → Prop} (hgd : o.guard = none) (s x : Operand) (t : TypeId)
    (ho : o.op = .call { callee := .builtin .append, args := #[s, x], argTypes := #[t, t] })
    (base : Nat) (e : TypeId) (z : Value) (size bytes : Nat) (ht : P.underlying t = some (.slice e)) (hi : (P.info? e).map (fun i => (i.zero, i.size, i.bytes)) = some (some z, size, bytes))
    (hzs : z.cells.size = size) (hsz : 0 < size)
    (v : Value) (n : Nat) (xs : List Value) (hs : a.eval s = v) (hown : w.ownsRow base e size v n xs)
    (c : Nat) (cs : List Value) (hx : a.eval x = .slice (some ⟨w.heap.size, 0, none⟩) 1 c) (hl : cs.length = size) (h1 : cs.all Value.oneCell' = true)
    (hbytes : (n + 1) * bytes ≤ 140737488355328) (hby : 1 ≤ bytes) (hbase : base ≤ w.heap.size)
    (h : ∀ A c' w', w'.ownsRow base e size (.slice A (n + 1) c') (n + 1) (xs ++ cs) → w.grownBy w' v.ownBlock → wpList P ops Q rest (a.put o.dst (.slice A (n + 1) c')) w') :
    wpList P ops Q (o :: rest) a (w.alloc (.cells cs.toArray e)) := by
  obtain ⟨i, hi, hz, hz1, hz2⟩ := info_parts hi
  have hn : n + 1 ≤ 140737488355328 := Nat.le_trans (Nat.le_mul_of_pos_right _ hby) hbytes
  refine wpList_append_own _ hgd s x t ho base e i z size bytes ht hi hz hz1 hz2 hzs hsz v n xs hs (hown.alloc _) ⟨w.heap.size, 0, none⟩ 1 c cs hx (by simpa using hl) cells_new
    (fun u hu => List.all_eq_true.1 h1 u hu) (by unfold maxLen; omega) hbytes (by simp; omega) ?_
  intro v' w' hown' hg _
  obtain ⟨A, c', rfl, _⟩ := own_shape hown'
  exact h A c' w' hown' ((World.grownBy_alloc w _ _).trans hg)

/-- The same; the row's block is told. -/
theorem wpList_append1g {P : Program} (w : World) {ops : Array Oper} {rest : List Oper} {o : Oper} {a : Act} {Q : Exit → Act → World → Prop} (hgd : o.guard = none) (s x : Operand) (t : TypeId)
    (ho : o.op = .call { callee := .builtin .append, args := #[s, x], argTypes := #[t, t] })
    (base : Nat) (e : TypeId) (z : Value) (size bytes : Nat) (ht : P.underlying t = some (.slice e)) (hi : (P.info? e).map (fun i => (i.zero, i.size, i.bytes)) = some (some z, size, bytes))
    (hzs : z.cells.size = size) (hsz : 0 < size)
    (v : Value) (n : Nat) (xs : List Value) (hs : a.eval s = v) (hown : w.ownsRow base e size v n xs)
    (c : Nat) (cs : List Value) (hx : a.eval x = .slice (some ⟨w.heap.size, 0, none⟩) 1 c) (hl : cs.length = size) (h1 : cs.all Value.oneCell' = true)
    (hbytes : (n + 1) * bytes ≤ 140737488355328) (hby : 1 ≤ bytes) (hbase : base ≤ w.heap.size)
    (h : ∀ g c' w', w'.ownsRow base e size (.slice (some ⟨g, 0, none⟩) (n + 1) c') (n + 1) (xs ++ cs) → w.grownBy w' v.ownBlock → wpList P ops Q rest (a.put o.dst (.slice (some ⟨g, 0, none⟩) (n + 1) c')) w') :
    wpList P ops Q (o :: rest) a (w.alloc (.cells cs.toArray e)) := by
  obtain ⟨i, hi, hz, hz1, hz2⟩ := info_parts hi
  have hn : n + 1 ≤ 140737488355328 := Nat.le_trans (Nat.le_mul_of_pos_right _ hby) hbytes
  refine wpList_append_own _ hgd s x t ho base e i z size bytes ht hi hz hz1 hz2 hzs hsz v n xs hs (hown.alloc _) ⟨w.heap.size, 0, none⟩ 1 c cs hx (by simpa using hl) cells_new
    (fun u hu => List.all_eq_true.1 h1 u hu) (by unfold maxLen; omega) hbytes (by simp; omega) ?_
  intro v' w' hown' hg _
  obtain ⟨g, c', rfl⟩ : ∃ g c', v' = .slice (some ⟨g, 0, none⟩) (n + 1) c' := by
    rcases hown'.2 with ⟨_, h0⟩ | ⟨g, cap, cur, hv, _⟩
    · omega
    · exact ⟨g, cap, hv⟩
  exact h g c' w' hown' ((World.grownBy_alloc w _ _).trans hg)

/-! ### A block that is known whole -/
def Blk (w : World) (g : Nat) (t : TypeId) (cs : Array Value) : Prop := w.heap[g]? = some (.cells cs t (0, 0))
theorem Blk.cell {w : World} {g : Nat} {t : TypeId} {cs : Array Value} (h : Blk w g t cs) (i : Nat) : w.cell? ⟨g, i, none⟩ = cs[i]? := cell_of_row w g i cs t (0, 0) h
theorem Blk.frozen {w : World} {g : Nat} {t : TypeId} {cs : Array Value} (h : Blk w g t cs) (i : Nat) : w.frozen? ⟨g, i, none⟩ = false := frozen_of_row w g i cs t h
theorem Blk.new (w : World) (t : TypeId) (cs : Array Value) : Blk (w.alloc (.cells cs t)) w.heap.size t cs := heap_alloc_new w _
theorem Blk.lt {w : World} {g : Nat} {t : TypeId} {cs : Array Value} (h : Blk w g t cs) : g < w.heap.size := (Array.getElem?_eq_some_iff.1 h).1
theorem Blk.alloc {w : World} {g : Nat} {t : TypeId} {cs : Array Value} (h : Blk w g t cs) (o : Obj) : Blk (w.alloc o) g t cs := (Below.heap_alloc w o g h.lt).trans h
theorem Blk.below {B : Nat} {w w' : World} {g : Nat} {t : TypeId} {cs : Array Value} (h : Blk w g t cs) (hb : Below B w w') (hg : g < B) : Blk w' g t cs := (hb.block g hg).trans h
theorem Blk.set {w : World} {g : Nat} {t : TypeId} {cs : Array Value} (h : Blk w g t cs) (i : Nat) (u : Value) : Blk (w.setCell ⟨g, i, none⟩ u) g t (cs.setIfInBounds i u) := heap_setCell_same w g i cs t u h
theorem Blk.set_far {w : World} {g g' i : Nat} {t : TypeId} {cs : Array Value} {u : Value} (h : Blk w g t cs) (hne : g ≠ g') : Blk (w.setCell ⟨g', i, none⟩ u) g t cs := (Below.heap_setCell w ⟨g', i, none⟩ u g hne).trans h

/-! ### Bits, and rows that are filled from the left -/
theorem bit_of (x : BitVec 64) (k : Nat) : (bits .and .u64 ((x.toNat : Int) / 2 ^ k) 1 == 1) = x.getLsbD k := by
  have hx := x.isLt
  have hd : x.toNat / 2 ^ k ≤ x.toNat := Nat.div_le_self _ _
  have e : ((x.toNat : Int) / 2 ^ k) = ((x.toNat / 2 ^ k : Nat) : Int) := by push_cast; rfl
  rw [e, BitVec.getLsbD, Nat.testBit_eq_decide_div_mod_eq]
  generalize x.toNat / 2 ^ k = q at *
  rw [and_one_u64 _ (by omega) (by omega), Bool.eq_iff_iff]; simp; omega

theorem fill_step (L : List Value) (n k : Nat) (z : Value) (hn : L.length = n) (hk : k < n) :
    (L.take k ++ List.replicate (n - k) z).set k (L[k]'(by omega)) = L.take (k + 1) ++ List.replicate (n - (k + 1)) z := by
  have hl : (L.take k).length = k := by simp; omega
  rw [List.set_append_right _ _ (by omega), hl, Nat.sub_self, show n - k = (n - (k + 1)) + 1 from by omega, List.replicate_succ, List.set_cons_zero,
    List.take_succ_eq_append_getElem (show k < L.length by omega)]
  simp only [List.append_assoc, List.cons_append, List.nil_append]
theorem fill_get (L : List Value) (n k : Nat) (z : Value) (hn : L.length = n) (hk : k < n) : (L.take k ++ List.replicate (n - k) z)[k]? = some z := by
  have hl : (L.take k).length = k := by simp; omega
  rw [List.getElem?_append_right (by omega), hl, Nat.sub_self, show n - k = (n - (k + 1)) + 1 from by omega, List.replicate_succ]; rfl
theorem fill_old (L : List Value) (n k j : Nat) (z : Value) (hn : L.length = n) (hk : k < n) (hj : j < k) : (L.take k ++ List.replicate (n - k) z)[j]? = some (L[j]'(by omega)) := by
  rw [List.getElem?_append_left (by simp; omega), List.getElem?_take_of_lt hj, List.getElem?_eq_getElem]
theorem fill_same (L : List Value) (n k : Nat) (z : Value) (hn : L.length = n) (hk : k < n) (h : L[k]'(by omega) = z) :
    L.take k ++ List.replicate (n - k) z = L.take (k + 1) ++ List.replicate (n - (k + 1)) z := by
  have := fill_step L n k z hn hk
  rw [← this, h]
  have hg := fill_get L n k z hn hk
  refine List.ext_getElem? fun i => ?_
  rw [List.getElem?_set]
  split
  · rename_i e; subst e
    rw [hg]; split
    · rfl
    · rename_i hh; rw [List.getElem?_eq_none (by omega)] at hg; cases hg
  · rfl
theorem fill_done (L : List Value) (n : Nat) (z : Value) (hn : L.length = n) : L.take n ++ List.replicate (n - n) z = L := by
  rw [List.take_of_length_le (by omega)]; simp

theorem Rd_lit (w : World) (t : TypeId) (cs : Array Value) : Rd (w.alloc (.cells cs t)) (some ⟨w.heap.size, 0, none⟩) cs.toList := by
  refine .inr ⟨w.heap.size, 0, rfl, by simp, fun j u hj => ?_⟩
  rw [Nat.zero_add, cell_of_row _ w.heap.size j _ _ (0, 0) (heap_alloc_new w _)]
  simpa using hj
theorem Rd_of_own {w : World} {base : Nat} {e : TypeId} {size : Nat} {A : Option Addr} {n c : Nat} {xs : List Value} (h : w.ownsRow base e size (.slice A n c) n xs) : Rd w A xs := by
  obtain ⟨A', c', hv, hr⟩ := own_shape h
  injection hv with h1 h2 h3
  rw [h1]; exact hr

/-- 'make([]T, n)', T of one cell: n zero values are owned. -/
theorem wpList_make1 {P : Program} (w : World) {ops : Array Oper} {rest : List Oper} {o : Oper} {a : Act} {Q : Exit → Act → World → Prop}
    (hg : o.guard = none) (l c : Operand) (t : TypeId) (hop : o.op = Op.makeSlice t l c)
    (base : Nat) (e : TypeId) (z : Value) (bytes : Nat) (h1 : P.underlying t = some (.slice e)) (h2 : (P.info? e).map (fun i => (i.zero, i.size, i.bytes)) = some (some z, 1, bytes)) (hz : z.cells = #[z])
    (kl kc : IntKind) (L C : Int) (n : Nat) (hl : a.eval l = .int kl L) (hc : a.eval c = .int kc C) (hL : L = (n : Int)) (hC : C = (n : Int)) (b2 : bytes * n ≤ 281474976710656) (b3 : n ≤ 9223372036854775807) (b4 : base ≤ w.heap.size)
    (hK : ∀ w', w'.ownsRow base e 1 (.slice (some ⟨w.heap.size, 0, none⟩) n n) n (List.replicate n z) → w.grownBy w' none → wpList P ops Q rest (a.put o.dst (.slice (some ⟨w.heap.size, 0, none⟩) n n)) w') :
    wpList P ops Q (o :: rest) a w := by
  obtain ⟨i, hi, hz0, hz1, hz2⟩ := info_parts h2
  refine wpList_make_full w hg l c t hop base e i z 1 h1 hi hz0 hz1 kl kc L C n hl hc hL hC (by rw [hz2]; exact b2) (by unfold maxLen; omega) b4 ?_
  intro w' ho hgr
  rw [hz, toList_madeCells_one, Nat.mul_one] at ho
  exact hK w' ho hgr

/-- A row of bytes of the call's own, as a text. -/
theorem conv_own {P : Program} {w : World} {base : Nat} {src dst e : TypeId} {A : Option Addr} {n c : Nat} (l : List UInt8) (hs : P.underlying src = some (.slice e)) (he : P.underlying e = some (.int .u8)) (hd : P.underlying dst = some .string)
    (h : w.ownsRow base e 1 (.slice A n c) n (l.map fun b => .int .u8 (b.toNat : Int))) : (convert src dst (.slice A n c)).run P w = .ok (.string ⟨l.toArray⟩) w := by
  have hn : l.length = n := by have := h.1; simpa using this
  rcases h.2 with ⟨hv, h0⟩ | ⟨g, cap, cur, hv, _⟩
  · injection hv with h1 h2 h3
    subst h1
    have : l = [] := List.eq_nil_of_length_eq_zero (by omega)
    rw [this, run_convert_bytes_nil w src e hs he n c dst hd]; rfl
  · injection hv with h1 h2 h3
    subst h1
    have hc := h.cells (g := g) rfl
    rw [run_convert_bytes_arg w src e hs he g 0 n c (l.map fun b => (b.toNat : Int)) (by simpa using hn) (fun i hi => ?_) dst hd]
    · congr 2
      simp only [strOfNums, List.map_map]
      congr 2
      refine List.ext_getElem (by simp) fun i h1 h2 => ?_
      simp
    · have := hc i (.int .u8 ((l[i]'(by omega)).toNat : Int)) (by simp [hn, hi])
      rw [show ((⟨g, 0, none⟩ : Addr).add i) = ⟨g, 0 + i, none⟩ from by unfold Addr.add; split <;> simp_all] at this
      rw [this]
      simp [List.getD, hn, hi]
/-- Cell j of element k of a row whose elements have s cells each. -/
theorem flatMap_get {α : Type} (f : α → List Value) (s : Nat) (l : List α) (hf : ∀ x ∈ l, (f x).length = s) (k : Nat) (h : k < l.length) (j : Nat) (hj : j < s) : (l.flatMap f)[k * s + j]? = (f l[k])[j]? := by
  induction l generalizing k with
  | nil => simp at h
  | cons x l ih =>
    have hx := hf x List.mem_cons_self
    rw [List.flatMap_cons]
    cases k with
    | zero =>
      rw [List.getElem?_append_left (by rw [hx]; omega)]
      simp
    | succ k =>
      rw [List.getElem?_append_right (by rw [hx, Nat.add_mul]; omega), hx]
      have e : (k + 1) * s + j - s = k * s + j := by rw [Nat.add_mul]; omega
      rw [e, ih (fun y hy => hf y (List.mem_cons_of_mem _ hy)) k (by simpa using h)]
      simp
end Go.Proofs.Ytpkkfdmhbbipoaa
