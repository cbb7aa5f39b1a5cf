/- Small facts on worlds, rows of cells and slices that all walks of this claim use; no program in sight. Facts on this program's types: rows of its table, equality of sets and items. The plain functions that the walks compute: sets of bytes, patterns. No program in sight. Plain laws of patterns: what 'ends' computes is what patterns mean. No program in sight. -/
import Derived.WalkKit
import Derived.WalkSpells
import Derived.WalkLawsBesides
import Derived.Test.YtdbiodofofnpgaaRows
import Derived.ChangeKeysEq
namespace Go.Proofs.Ytdbiodofofnpgaa
open Go.RowKit

theorem hid {p : Prop} (h : p) : Hid p := h

/-- The slice's address A leads to the cells xs (nothing is asked where there are none). -/
def Rd (w : World) (A : Option Addr) (xs : List Value) : Prop :=
  xs = [] ∨ ∃ b off, A = some ⟨b, off, none⟩ ∧ b < w.heap.size ∧ ∀ j u, xs[j]? = some u → w.cell? ⟨b, off + j, none⟩ = some u

theorem Rd.below {w w' : World} {A : Option Addr} {xs : List Value} (h : Rd w A xs) (hb : Below w.heap.size w w') : Rd w' A xs := by
  rcases h with h | ⟨b, off, hA, hlt, hc⟩
  · exact .inl h
  · exact .inr ⟨b, off, hA, Nat.lt_of_lt_of_le hlt hb.size, fun j u hj => (hb.cell (p := ⟨b, off + j, none⟩) hlt).trans (hc j u hj)⟩

theorem Rd.at {w : World} {A : Option Addr} {xs : List Value} (h : Rd w A xs) (hne : 0 < xs.length) :
    ∃ b off, A = some ⟨b, off, none⟩ ∧ b < w.heap.size ∧ ∀ j u, xs[j]? = some u → w.cell? ⟨b, off + j, none⟩ = some u := by
  rcases h with h | h
  · rw [h] at hne; simp at hne
  · exact h

theorem cell_set_other {w : World} {b o b' o' : Nat} {u : Value} (h : b' ≠ b) : (w.setCell ⟨b, o, none⟩ u).cell? ⟨b', o', none⟩ = w.cell? ⟨b', o', none⟩ :=
  World.cell?_setCell_other w ⟨b, o, none⟩ ⟨b', o', none⟩ u (fun e => h (by injection e with e1; exact e1.symm))

theorem cell_set_same {w : World} {b o : Nat} {u x : Value} (h : w.cell? ⟨b, o, none⟩ = some x) : (w.setCell ⟨b, o, none⟩ u).cell? ⟨b, o, none⟩ = some u := by
  unfold World.cell? World.setCell at *
  simp only [Array.getElem?_modify, if_true] at *
  split at h
  · rename_i c e f hh
    rw [hh]
    simp only [Option.isSome_none, Bool.false_eq_true, if_false, Option.map_some] at h ⊢
    have := (Array.getElem?_eq_some_iff.1 h).1
    simp [this]
  · cases h

/-- A set of bytes: four words. -/
structure BSet where
  w0 : BitVec 64
  w1 : BitVec 64
  w2 : BitVec 64
  w3 : BitVec 64
  deriving DecidableEq, Inhabited

abbrev w64 (x : BitVec 64) : Value := .int .u64 (x.toNat : Int)
def BSet.cells (s : BSet) : List Value := [w64 s.w0, w64 s.w1, w64 s.w2, w64 s.w3]
def BSet.val (s : BSet) : Value := .agg #[w64 s.w0, w64 s.w1, w64 s.w2, w64 s.w3]
def BSet.zero : BSet := ⟨0, 0, 0, 0⟩

structure Item where
  run : Bool
  set : BSet
  deriving DecidableEq, Inhabited

def Item.cells (x : Item) : List Value := .bool x.run :: x.set.cells
def Item.val (x : Item) : Value := .agg #[.bool x.run, w64 x.set.w0, w64 x.set.w1, w64 x.set.w2, w64 x.set.w3]
def itemCells (l : List Item) : List Value := l.flatMap Item.cells

theorem Item.cells_length (x : Item) : x.cells.length = 5 := rfl
theorem itemCells_length (l : List Item) : (itemCells l).length = l.length * 5 := by
  induction l with
  | nil => rfl
  | cons x l ih => simp only [itemCells, List.flatMap_cons, List.length_append, List.length_cons] at ih ⊢; rw [ih, Item.cells_length]; omega
theorem itemCells_append (a b : List Item) : itemCells (a ++ b) = itemCells a ++ itemCells b := by simp [itemCells]
theorem itemCells_get (l : List Item) (k : Nat) (h : k < l.length) (j : Nat) (hj : j < 5) : (itemCells l)[k * 5 + j]? = (l[k]).cells[j]? := by
  induction l generalizing k with
  | nil => simp at h
  | cons x l ih =>
    rw [show itemCells (x :: l) = x.cells ++ itemCells l from rfl]
    cases k with
    | zero => rw [List.getElem?_append_left (by rw [Item.cells_length]; omega)]; simp
    | succ k =>
      rw [List.getElem?_append_right (by rw [Item.cells_length]; omega), Item.cells_length, show (k + 1) * 5 + j - 5 = k * 5 + j from by omega]
      exact ih k (by simpa using h)

theorem itemCells_one (l : List Item) : ∀ u ∈ itemCells l, u.oneCell' = true := by
  intro u hu
  obtain ⟨x, _, hx⟩ := List.mem_flatMap.1 hu
  simp only [Item.cells, BSet.cells, List.mem_cons, List.not_mem_nil, or_false] at hx
  rcases hx with rfl | rfl | rfl | rfl | rfl <;> rfl

/-- What a walk wants of item k of a row of items at ⟨b, off⟩. -/
theorem item_at {w : World} {b off : Nat} {l : List Item} (hc : ∀ j u, (itemCells l)[j]? = some u → w.cell? ⟨b, off + j, none⟩ = some u) (k : Nat) (h : k < l.length) :
    w.cell? ⟨b, off + k * 5, none⟩ = some (.bool (l[k]).run) ∧ w.cell? ⟨b, off + k * 5 + 1, none⟩ = some (w64 (l[k]).set.w0) ∧ w.cell? ⟨b, off + k * 5 + 2, none⟩ = some (w64 (l[k]).set.w1) ∧
    w.cell? ⟨b, off + k * 5 + 3, none⟩ = some (w64 (l[k]).set.w2) ∧ w.cell? ⟨b, off + k * 5 + 4, none⟩ = some (w64 (l[k]).set.w3) := by
  have H := fun j hj u (hu : (l[k]).cells[j]? = some u) => hc (k * 5 + j) u ((itemCells_get l k h j hj).trans hu)
  refine ⟨?_, ?_, ?_, ?_, ?_⟩
  · exact H 0 (by omega) _ rfl
  · have := H 1 (by omega) _ rfl; rwa [← Nat.add_assoc] at this
  · have := H 2 (by omega) _ rfl; rwa [← Nat.add_assoc] at this
  · have := H 3 (by omega) _ rfl; rwa [← Nat.add_assoc] at this
  · have := H 4 (by omega) _ rfl; rwa [← Nat.add_assoc] at this

/-! ### Rows of the call's own -/
theorem own_shape {w : World} {base : Nat} {e : TypeId} {size : Nat} {v : Value} {n : Nat} {xs : List Value} (h : w.ownsRow base e size v n xs) :
    ∃ A c, v = .slice A n c ∧ Rd w A xs := by
  rcases h.2 with ⟨rfl, h0⟩ | ⟨g, cap, cur, rfl, hb, hg, hn, hc, hcs, ht⟩
  · subst h0
    refine ⟨none, 0, rfl, .inl (List.eq_nil_of_length_eq_zero (by rw [h.1]; simp))⟩
  · refine ⟨_, _, rfl, .inr ⟨g, 0, rfl, (Array.getElem?_eq_some_iff.1 hg).1, fun j u hu => ?_⟩⟩
    have := h.cells (g := g) rfl j u hu
    rw [show ((⟨g, 0, none⟩ : Addr).add j) = ⟨g, 0 + j, none⟩ from by unfold Addr.add; split <;> simp_all] at this
    exact this

/-- Behind an append the owner's block is the row's own, or it is new. -/
theorem below_grown {B : Nat} {w0 w w' : World} {base : Nat} {e : TypeId} {size : Nat} {v : Value} {n : Nat} {xs : List Value} (h : Below B w0 w) (hown : w.ownsRow base e size v n xs)
    (hg : w.grownBy w' v.ownBlock) (hB : B ≤ base) (hs : B ≤ w.heap.size) : Below B w0 w' :=
  h.grown hg hs (fun k hk => Nat.le_trans hB (hown.lt k hk).1)

theorem own_below {w w' : World} {base B : Nat} {e : TypeId} {size : Nat} {v : Value} {n : Nat} {xs : List Value} (h : w.ownsRow base e size v n xs) (hb : Below B w w') (hB : w.heap.size ≤ B := by exact Nat.le_refl _) :
    w'.ownsRow base e size v n xs :=
  h.kept (row := none) ⟨hb.os, hb.tape, hb.output, hb.size, fun q hq _ => hb.block q (Nat.lt_of_lt_of_le hq hB)⟩ (by cases hv : v.ownBlock <;> simp)

theorem own_base {w : World} {base B : Nat} {e : TypeId} {size : Nat} {v : Value} {n : Nat} {xs : List Value} (h : w.ownsRow base e size v n xs) (hB : B ≤ base) : w.ownsRow B e size v n xs := by
  obtain ⟨h1, h2⟩ := h
  refine ⟨h1, ?_⟩
  rcases h2 with h2 | ⟨g, cap, cur, hv, hb, r⟩
  · exact .inl h2
  · exact .inr ⟨g, cap, cur, hv, by omega, r⟩

/-- Rows of different element types lie in different blocks. -/
theorem own_ne {w : World} {b1 b2 : Nat} {e1 e2 : TypeId} {s1 s2 : Nat} {v1 v2 : Value} {n1 n2 : Nat} {xs ys : List Value} (h1 : w.ownsRow b1 e1 s1 v1 n1 xs) (h2 : w.ownsRow b2 e2 s2 v2 n2 ys) (hne : e1 ≠ e2) :
    v1.ownBlock = none ∨ v1.ownBlock ≠ v2.ownBlock := by
  rcases h1.2 with ⟨rfl, _⟩ | ⟨g, cap, cur, rfl, _, hg, _⟩
  · exact .inl rfl
  · right
    rcases h2.2 with ⟨rfl, _⟩ | ⟨g', cap', cur', rfl, _, hg', _⟩
    · simp [Value.ownBlock]
    · intro e
      simp only [Value.ownBlock, Option.some.injEq] at e
      subst e
      rw [hg] at hg'
      injection hg' with hg'
      injection hg' with _ ht
      exact hne ht

theorem cells_new {w : World} {e : TypeId} {cs : List Value} : ∀ j u, cs[j]? = some u → (w.alloc (.cells cs.toArray e)).cell? ((⟨w.heap.size, 0, none⟩ : Addr).add j) = some u := by
  intro j u hj
  rw [show ((⟨w.heap.size, 0, none⟩ : Addr).add j) = ⟨w.heap.size, j, none⟩ from by unfold Addr.add; split <;> simp_all]
  rw [cell_of_row _ w.heap.size j cs.toArray e (0, 0) (heap_alloc_new w _)]
  simpa using hj

/-- 'out = append(out, x)': x lies in a new block of its own. -/
theorem wpList_append1 {P : Program} (w : World) {ops : Array Oper} {rest : List Oper} {o : Oper} {a : Act} {Q : Exit → Act → World → Prop} (hgd : o.guard = none) (s x : Operand) (t : TypeId)
    (ho : o.op = .call { callee := .builtin .append, args := #[s, x], argTypes := #[t, t] })
    (base : Nat) (e : TypeId) (z : Value) (size bytes : Nat) (ht : P.underlying t = some (.slice e)) (hi : (P.info? e).map (fun i => (i.zero, i.size, i.bytes)) = some (some z, size, bytes))
    (hzs : z.cells.size = size) (hsz : 0 < size)
    (v : Value) (n : Nat) (xs : List Value) (hs : a.eval s = v) (hown : w.ownsRow base e size v n xs)
    (c : Nat) (cs : List Value) (hx : a.eval x = .slice (some ⟨w.heap.size, 0, none⟩) 1 c) (hl : cs.length = size) (h1 : cs.all Value.oneCell' = true)
    (hbytes : (n + 1) * bytes ≤ 140737488355328) (hby : 1 ≤ bytes) (hbase : base ≤ w.heap.size)
    (h : ∀ A c' w', w'.ownsRow base e size (.slice A (n + 1) c') (n + 1) (xs ++ cs) → w.grownBy w' v.ownBlock → wpList P ops Q rest (a.put o.dst (.slice A (n + 1) c')) w') :
    wpList P ops Q (o :: rest) a (w.alloc (.cells cs.toArray e)) := by
  obtain ⟨i, hi, hz, hz1, hz2⟩ := info_parts hi
  have hn : n + 1 ≤ 140737488355328 := Nat.le_trans (Nat.le_mul_of_pos_right _ hby) hbytes
  refine wpList_append_own _ hgd s x t ho base e i z size bytes ht hi hz hz1 hz2 hzs hsz v n xs hs (hown.alloc _) ⟨w.heap.size, 0, none⟩ 1 c cs hx (by simpa using hl) cells_new
    (fun u hu => List.all_eq_true.1 h1 u hu) (by unfold maxLen; omega) hbytes (by simp; omega) ?_
  intro v' w' hown' hg _
  obtain ⟨A, c', rfl, _⟩ := own_shape hown'
  exact h A c' w' hown' ((World.grownBy_alloc w _ _).trans hg)

/-- The same; the row's block is told. -/
theorem wpList_append1g {P : Program} (w : World) {ops : Array Oper} {rest : List Oper} {o : Oper} {a : Act} {Q : Exit → Act → World → Prop} (hgd : o.guard = none) (s x : Operand) (t : TypeId)
    (ho : o.op = .call { callee := .builtin .append, args := #[s, x], argTypes := #[t, t] })
    (base : Nat) (e : TypeId) (z : Value) (size bytes : Nat) (ht : P.underlying t = some (.slice e)) (hi : (P.info? e).map (fun i => (i.zero, i.size, i.bytes)) = some (some z, size, bytes))
    (hzs : z.cells.size = size) (hsz : 0 < size)
    (v : Value) (n : Nat) (xs : List Value) (hs : a.eval s = v) (hown : w.ownsRow base e size v n xs)
    (c : Nat) (cs : List Value) (hx : a.eval x = .slice (some ⟨w.heap.size, 0, none⟩) 1 c) (hl : cs.length = size) (h1 : cs.all Value.oneCell' = true)
    (hbytes : (n + 1) * bytes ≤ 140737488355328) (hby : 1 ≤ bytes) (hbase : base ≤ w.heap.size)
    (h : ∀ g c' w', w'.ownsRow base e size (.slice (some ⟨g, 0, none⟩) (n + 1) c') (n + 1) (xs ++ cs) → w.grownBy w' v.ownBlock → wpList P ops Q rest (a.put o.dst (.slice (some ⟨g, 0, none⟩) (n + 1) c')) w') :
    wpList P ops Q (o :: rest) a (w.alloc (.cells cs.toArray e)) := by
  obtain ⟨i, hi, hz, hz1, hz2⟩ := info_parts hi
  have hn : n + 1 ≤ 140737488355328 := Nat.le_trans (Nat.le_mul_of_pos_right _ hby) hbytes
  refine wpList_append_own _ hgd s x t ho base e i z size bytes ht hi hz hz1 hz2 hzs hsz v n xs hs (hown.alloc _) ⟨w.heap.size, 0, none⟩ 1 c cs hx (by simpa using hl) cells_new
    (fun u hu => List.all_eq_true.1 h1 u hu) (by unfold maxLen; omega) hbytes (by simp; omega) ?_
  intro v' w' hown' hg _
  obtain ⟨g, c', rfl⟩ : ∃ g c', v' = .slice (some ⟨g, 0, none⟩) (n + 1) c' := by
    rcases hown'.2 with ⟨_, h0⟩ | ⟨g, cap, cur, hv, _⟩
    · omega
    · exact ⟨g, cap, hv⟩
  exact h g c' w' hown' ((World.grownBy_alloc w _ _).trans hg)

/-! ### A block that is known whole -/
def Blk (w : World) (g : Nat) (t : TypeId) (cs : Array Value) : Prop := w.heap[g]? = some (.cells cs t (0, 0))
theorem Blk.cell {w : World} {g : Nat} {t : TypeId} {cs : Array Value} (h : Blk w g t cs) (i : Nat) : w.cell? ⟨g, i, none⟩ = cs[i]? := cell_of_row w g i cs t (0, 0) h
theorem Blk.frozen {w : World} {g : Nat} {t : TypeId} {cs : Array Value} (h : Blk w g t cs) (i : Nat) : w.frozen? ⟨g, i, none⟩ = false := frozen_of_row w g i cs t h
theorem Blk.new (w : World) (t : TypeId) (cs : Array Value) : Blk (w.alloc (.cells cs t)) w.heap.size t cs := heap_alloc_new w _
theorem Blk.lt {w : World} {g : Nat} {t : TypeId} {cs : Array Value} (h : Blk w g t cs) : g < w.heap.size := (Array.getElem?_eq_some_iff.1 h).1
theorem Blk.alloc {w : World} {g : Nat} {t : TypeId} {cs : Array Value} (h : Blk w g t cs) (o : Obj) : Blk (w.alloc o) g t cs := (Below.heap_alloc w o g h.lt).trans h
theorem Blk.below {B : Nat} {w w' : World} {g : Nat} {t : TypeId} {cs : Array Value} (h : Blk w g t cs) (hb : Below B w w') (hg : g < B) : Blk w' g t cs := (hb.block g hg).trans h
theorem Blk.set {w : World} {g : Nat} {t : TypeId} {cs : Array Value} (h : Blk w g t cs) (i : Nat) (u : Value) : Blk (w.setCell ⟨g, i, none⟩ u) g t (cs.setIfInBounds i u) := heap_setCell_same w g i cs t u h
theorem Blk.set_far {w : World} {g g' i : Nat} {t : TypeId} {cs : Array Value} {u : Value} (h : Blk w g t cs) (hne : g ≠ g') : Blk (w.setCell ⟨g', i, none⟩ u) g t cs := (Below.heap_setCell w ⟨g', i, none⟩ u g hne).trans h

/-! ### Bits, and rows that are filled from the left -/
theorem bit_of (x : BitVec 64) (k : Nat) : (bits .and .u64 ((x.toNat : Int) / 2 ^ k) 1 == 1) = x.getLsbD k := by
  have hx := x.isLt
  have hd : x.toNat / 2 ^ k ≤ x.toNat := Nat.div_le_self _ _
  have e : ((x.toNat : Int) / 2 ^ k) = ((x.toNat / 2 ^ k : Nat) : Int) := by push_cast; rfl
  rw [e, BitVec.getLsbD, Nat.testBit_eq_decide_div_mod_eq]
  generalize x.toNat / 2 ^ k = q at *
  rw [and_one_u64 _ (by omega) (by omega), Bool.eq_iff_iff]; simp; omega

theorem fill_step (L : List Value) (n k : Nat) (z : Value) (hn : L.length = n) (hk : k < n) :
    (L.take k ++ List.replicate (n - k) z).set k (L[k]'(by omega)) = L.take (k + 1) ++ List.replicate (n - (k + 1)) z := by
  have hl : (L.take k).length = k := by simp; omega
  rw [List.set_append_right _ _ (by omega), hl, Nat.sub_self, show n - k = (n - (k + 1)) + 1 from by omega, List.replicate_succ, List.set_cons_zero,
    List.take_succ_eq_append_getElem (show k < L.length by omega)]
  simp only [List.append_assoc, List.cons_append, List.nil_append]
theorem fill_get (L : List Value) (n k : Nat) (z : Value) (hn : L.length = n) (hk : k < n) : (L.take k ++ List.replicate (n - k) z)[k]? = some z := by
  have hl : (L.take k).length = k := by simp; omega
  rw [List.getElem?_append_right (by omega), hl, Nat.sub_self, show n - k = (n - (k + 1)) + 1 from by omega, List.replicate_succ]; rfl
theorem fill_old (L : List Value) (n k j : Nat) (z : Value) (hn : L.length = n) (hk : k < n) (hj : j < k) : (L.take k ++ List.replicate (n - k) z)[j]? = some (L[j]'(by omega)) := by
  rw [List.getElem?_append_left (by simp; omega), List.getElem?_take_of_lt hj, List.getElem?_eq_getElem]
theorem fill_same (L : List Value) (n k : Nat) (z : Value) (hn : L.length = n) (hk : k < n) (h : L[k]'(by omega) = z) :
    L.take k ++ List.replicate (n - k) z = L.take (k + 1) ++ List.replicate (n - (k + 1)) z := by
  have := fill_step L n k z hn hk
  rw [← this, h]
  have hg := fill_get L n k z hn hk
  refine List.ext_getElem? fun i => ?_
  rw [List.getElem?_set]
  split
  · rename_i e; subst e
    rw [hg]; split
    · rfl
    · rename_i hh; rw [List.getElem?_eq_none (by omega)] at hg; cases hg
  · rfl
theorem fill_done (L : List Value) (n : Nat) (z : Value) (hn : L.length = n) : L.take n ++ List.replicate (n - n) z = L := by
  rw [List.take_of_length_le (by omega)]; simp

theorem Rd_lit (w : World) (t : TypeId) (cs : Array Value) : Rd (w.alloc (.cells cs t)) (some ⟨w.heap.size, 0, none⟩) cs.toList := by
  refine .inr ⟨w.heap.size, 0, rfl, by simp, fun j u hj => ?_⟩
  rw [Nat.zero_add, cell_of_row _ w.heap.size j _ _ (0, 0) (heap_alloc_new w _)]
  simpa using hj
theorem Rd_of_own {w : World} {base : Nat} {e : TypeId} {size : Nat} {A : Option Addr} {n c : Nat} {xs : List Value} (h : w.ownsRow base e size (.slice A n c) n xs) : Rd w A xs := by
  obtain ⟨A', c', hv, hr⟩ := own_shape h
  injection hv with h1 h2 h3
  rw [h1]; exact hr

/-- 'make([]T, n)', T of one cell: n zero values are owned. -/
theorem wpList_make1 {P : Program} (w : World) {ops : Array Oper} {rest : List Oper} {o : Oper} {a : Act} {Q : Exit → Act → World → Prop}
    (hg : o.guard = none) (l c : Operand) (t : TypeId) (hop : o.op = Op.makeSlice t l c)
    (base : Nat) (e : TypeId) (z : Value) (bytes : Nat) (h1 : P.underlying t = some (.slice e)) (h2 : (P.info? e).map (fun i => (i.zero, i.size, i.bytes)) = some (some z, 1, bytes)) (hz : z.cells = #[z])
    (kl kc : IntKind) (L C : Int) (n : Nat) (hl : a.eval l = .int kl L) (hc : a.eval c = .int kc C) (hL : L = (n : Int)) (hC : C = (n : Int)) (b2 : bytes * n ≤ 281474976710656) (b3 : n ≤ 9223372036854775807) (b4 : base ≤ w.heap.size)
    (hK : ∀ w', w'.ownsRow base e 1 (.slice (some ⟨w.heap.size, 0, none⟩) n n) n (List.replicate n z) → w.grownBy w' none → wpList P ops Q rest (a.put o.dst (.slice (some ⟨w.heap.size, 0, none⟩) n n)) w') :
    wpList P ops Q (o :: rest) a w := by
  obtain ⟨i, hi, hz0, hz1, hz2⟩ := info_parts h2
  refine wpList_make_full w hg l c t hop base e i z 1 h1 hi hz0 hz1 kl kc L C n hl hc hL hC (by rw [hz2]; exact b2) (by unfold maxLen; omega) b4 ?_
  intro w' ho hgr
  rw [hz, toList_madeCells_one, Nat.mul_one] at ho
  exact hK w' ho hgr

/-- A row of bytes of the call's own, as a text. -/
theorem conv_own {P : Program} {w : World} {base : Nat} {src dst e : TypeId} {A : Option Addr} {n c : Nat} (l : List UInt8) (hs : P.underlying src = some (.slice e)) (he : P.underlying e = some (.int .u8)) (hd : P.underlying dst = some .string)
    (h : w.ownsRow base e 1 (.slice A n c) n (l.map fun b => .int .u8 (b.toNat : Int))) : (convert src dst (.slice A n c)).run P w = .ok (.string ⟨l.toArray⟩) w := by
  have hn : l.length = n := by have := h.1; simpa using this
  rcases h.2 with ⟨hv, h0⟩ | ⟨g, cap, cur, hv, _⟩
  · injection hv with h1 h2 h3
    subst h1
    have : l = [] := List.eq_nil_of_length_eq_zero (by omega)
    rw [this, run_convert_bytes_nil w src e hs he n c dst hd]; rfl
  · injection hv with h1 h2 h3
    subst h1
    have hc := h.cells (g := g) rfl
    rw [run_convert_bytes_arg w src e hs he g 0 n c (l.map fun b => (b.toNat : Int)) (by simpa using hn) (fun i hi => ?_) dst hd]
    · congr 2
      simp only [strOfNums, List.map_map]
      congr 2
      refine List.ext_getElem (by simp) fun i h1 h2 => ?_
      simp
    · have := hc i (.int .u8 ((l[i]'(by omega)).toNat : Int)) (by simp [hn, hi])
      rw [show ((⟨g, 0, none⟩ : Addr).add i) = ⟨g, 0 + i, none⟩ from by unfold Addr.add; split <;> simp_all] at this
      rw [this]
      simp [List.getD, hn, hi]

end Go.Proofs.Ytdbiodofofnpgaa
namespace Go.Proofs.Ytdbiodofofnpgaa
open Go.RowKit Go.WideElems

theorem Try.infoBool : (Try.prog.info? 4).map (fun i => (i.zero, i.size, i.bytes)) = some (some (.bool false), 1, 1) := by kernel_rfl
theorem Try.infoInt : (Try.prog.info? 3).map (fun i => (i.zero, i.size, i.bytes)) = some (some (.int .i64 0), 1, 8) := by kernel_rfl
theorem Try.infoU64 : (Try.prog.info? 185).map (fun i => (i.zero, i.size, i.bytes)) = some (some (.int .u64 0), 1, 8) := by kernel_rfl
theorem Try.infoItem : (Try.prog.info? 234).map (fun i => (i.zero, i.size, i.bytes)) = some (some (.agg #[.bool false, .int .u64 0, .int .u64 0, .int .u64 0, .int .u64 0]), 5, 40) := by kernel_rfl
theorem Try.cellsU64 : Try.prog.cellsOf 185 = 1 := by kernel_rfl
theorem Try.isAggU64 (w : World) : (isAgg 185).run Try.prog w = .ok false w := by kernel_rfl

theorem w64_eq (x y : BitVec 64) : ((x.toNat : Int) == (y.toNat : Int)) = decide (x = y) := by
  by_cases h : x = y
  · subst h; simp
  · have : x.toNat ≠ y.toNat := fun e => h (BitVec.eq_of_toNat_eq e)
    simp [h]; omega

theorem Try.eqSet (x y : BSet) (W : World) : (Op.equalIn 10000 232 (.agg #[w64 x.w0, w64 x.w1, w64 x.w2, w64 x.w3]) (.agg #[w64 y.w0, w64 y.w1, w64 y.w2, w64 y.w3])).run Try.prog W = .ok (x == y) W := by
  obtain ⟨i0, hi, hz0, hz1, hz2⟩ := info_parts Try.infoU64
  obtain ⟨x0, x1, x2, x3⟩ := x
  obtain ⟨y0, y1, y2, y3⟩ := y
  have hp : ∀ (cs : Array Value) (k : Nat) (v : Value), cs[k]? = some v → (part 185 cs k).run Try.prog W = .ok v W := by
    intro cs k v h
    simp [part, h]
  have he : ∀ a b : BitVec 64, (Op.equalIn 9999 185 (w64 a) (w64 b)).run Try.prog W = .ok (decide (a = b)) W := by
    intro a b
    rw [← w64_eq]
    exact run_equalIn_int W 9998 185 .u64 .u64 _ _ Try.underlying185
  rw [run_equalIn_array W 9999 _ _ Try.underlying232 hi]
  have a0 := hp #[w64 x0, w64 x1, w64 x2, w64 x3] (0 * 1) (w64 x0) rfl
  have a1 := hp #[w64 x0, w64 x1, w64 x2, w64 x3] (1 * 1) (w64 x1) rfl
  have a2 := hp #[w64 x0, w64 x1, w64 x2, w64 x3] (2 * 1) (w64 x2) rfl
  have a3 := hp #[w64 x0, w64 x1, w64 x2, w64 x3] (3 * 1) (w64 x3) rfl
  have b0 := hp #[w64 y0, w64 y1, w64 y2, w64 y3] (0 * 1) (w64 y0) rfl
  have b1 := hp #[w64 y0, w64 y1, w64 y2, w64 y3] (1 * 1) (w64 y1) rfl
  have b2 := hp #[w64 y0, w64 y1, w64 y2, w64 y3] (2 * 1) (w64 y2) rfl
  have b3 := hp #[w64 y0, w64 y1, w64 y2, w64 y3] (3 * 1) (w64 y3) rfl
  have hd : ((⟨x0, x1, x2, x3⟩ : BSet) == ⟨y0, y1, y2, y3⟩) = (decide (x0 = y0) && (decide (x1 = y1) && (decide (x2 = y2) && decide (x3 = y3)))) := by
    rw [Bool.eq_iff_iff]; simp
  rw [hd]
  have e0 := he x0 y0
  have e1 := he x1 y1
  have e2 := he x2 y2
  have e3 := he x3 y3
  clear hp he hd
  generalize decide (x0 = y0) = p0 at *
  generalize decide (x1 = y1) = p1 at *
  generalize decide (x2 = y2) = p2 at *
  generalize decide (x3 = y3) = p3 at *
  simp only [show List.range 4 = [0, 1, 2, 3] from rfl, Op.eqItems, Sem.run_bind, Try.cellsU64, a0, b0, e0, Result.andThen_ok]
  cases p0
  · rfl
  simp only [Bool.not_true, Bool.false_eq_true, if_false, Bool.true_and, Sem.run_bind, a1, b1, e1, Result.andThen_ok]
  cases p1
  · rfl
  simp only [Bool.not_true, Bool.false_eq_true, if_false, Bool.true_and, Sem.run_bind, a2, b2, e2, Result.andThen_ok]
  cases p2
  · rfl
  simp only [Bool.not_true, Bool.false_eq_true, if_false, Bool.true_and, Sem.run_bind, a3, b3, e3, Result.andThen_ok]
  cases p3 <;> rfl

end Go.Proofs.Ytdbiodofofnpgaa
namespace Go.Proofs.Ytdbiodofofnpgaa
open Go.RowKit

def BSet.word (s : BSet) (i : Nat) : BitVec 64 := match i with | 0 => s.w0 | 1 => s.w1 | 2 => s.w2 | _ => s.w3
def BSet.has (s : BSet) (b : Nat) : Bool := (s.word (b / 64)).getLsbD (b % 64)

/-- One item's step of 'ends': a run. -/
def stepRun : Bool → List Bool → List Bool
  | _, [] => []
  | p, a :: r => (a || p) :: stepRun (a || p) r
/-- One item's step of 'ends': a set (the places of a text have one more place than the text has bytes). -/
def stepSet (x : BSet) (s : List UInt8) (at_ : List Bool) : List Bool := false :: List.zipWith (fun a c => a && x.has c.toNat) at_ s
def stepM (x : Item) (s : List UInt8) (at_ : List Bool) : List Bool := if x.run then stepRun false at_ else stepSet x.set s at_
def endsM (l : List Item) (s : List UInt8) (at_ : List Bool) : List Bool := l.foldl (fun a x => stepM x s a) at_

theorem stepRun_length (p : Bool) (l : List Bool) : (stepRun p l).length = l.length := by
  induction l generalizing p with
  | nil => rfl
  | cons a r ih => simp [stepRun, ih]
theorem stepM_length (x : Item) (s : List UInt8) (l : List Bool) (h : l.length = s.length + 1) : (stepM x s l).length = s.length + 1 := by
  unfold stepM; split
  · rw [stepRun_length, h]
  · simp [stepSet, h]
theorem endsM_length (l : List Item) (s : List UInt8) (a : List Bool) (h : a.length = s.length + 1) : (endsM l s a).length = s.length + 1 := by
  induction l generalizing a with
  | nil => exact h
  | cons x l ih => exact ih _ (stepM_length x s a h)
theorem stepRun_get (p : Bool) (l : List Bool) (i : Nat) (h : i < l.length) : (stepRun p l)[i]? = some (l[i] || (if i = 0 then p else (stepRun p l).getD (i - 1) false)) := by
  induction l generalizing p i with
  | nil => simp at h
  | cons a r ih =>
    cases i with
    | zero => simp [stepRun]
    | succ i =>
      have := ih (a || p) i (by simpa using h)
      simp only [stepRun, List.getElem?_cons_succ, this]
      cases i <;> simp [List.getD]
theorem stepM_run (x : Item) (s : List UInt8) (l : List Bool) (hx : x.run = true) (i : Nat) (h : i < l.length) :
    (stepM x s l)[i]? = some (l[i] || (decide (0 < i) && (stepM x s l).getD (i - 1) false)) := by
  unfold stepM; rw [if_pos hx, stepRun_get false l i h]
  cases i <;> simp
theorem stepM_set0 (x : Item) (s : List UInt8) (l : List Bool) (hx : x.run = false) : (stepM x s l)[0]? = some false := by
  unfold stepM; rw [if_neg (by simp [hx])]; rfl
theorem stepM_set (x : Item) (s : List UInt8) (l : List Bool) (hx : x.run = false) (i : Nat) (h : i < s.length) (hl : l.length = s.length + 1) :
    (stepM x s l)[i + 1]? = some (l[i] && x.set.has (s[i]).toNat) := by
  unfold stepM; rw [if_neg (by simp [hx])]
  simp [stepSet, List.getElem?_zipWith, List.getElem?_eq_getElem h, List.getElem?_eq_getElem (show i < l.length by omega)]

theorem endsM_succ (l : List Item) (s : List UInt8) (a : List Bool) (k : Nat) (h : k < l.length) : endsM (l.take (k + 1)) s a = stepM l[k] s (endsM (l.take k) s a) := by
  unfold endsM
  rw [List.take_succ_eq_append_getElem h, List.foldl_append]; rfl

/-- No place but one, or all. -/
def placesM (n : Nat) (one : Int) (all : Bool) : List Bool := (List.range n).map fun (i : Nat) => all || ((i : Int) == one)

def boolCells (l : List Bool) : List Value := l.map Value.bool
def intCells (l : List Int) : List Value := l.map (Value.int .i64)
theorem boolCells_length (l : List Bool) : (boolCells l).length = l.length := by simp [boolCells]
theorem boolCells_get (l : List Bool) (k : Nat) (h : k < l.length) : (boolCells l)[k]? = some (.bool l[k]) := by simp [boolCells, h]
theorem intCells_get (l : List Int) (k : Nat) (h : k < l.length) : (intCells l)[k]? = some (.int .i64 l[k]) := by simp [intCells, h]
theorem intCells_length (l : List Int) : (intCells l).length = l.length := by simp [intCells]

def goodM (l : List Item) : Bool := l.all (fun x => !(x.run && x.set != BSet.zero)) && decide (l.length < 61)

/-! ### Bytes of sets -/
def byteCells (l : List UInt8) : List Value := l.map fun b => .int .u8 (b.toNat : Int)
theorem byteCells_length (l : List UInt8) : (byteCells l).length = l.length := by simp [byteCells]
def bytesTo (x : BSet) (k : Nat) : List UInt8 := ((List.range k).filter x.has).map UInt8.ofNat
def bytesM (x : BSet) : List UInt8 := bytesTo x 256
theorem bytesTo_succ (x : BSet) (k : Nat) : bytesTo x (k + 1) = bytesTo x k ++ if x.has k then [UInt8.ofNat k] else [] := by
  unfold bytesTo; rw [List.range_succ, List.filter_append, List.map_append]
  congr 1
  cases h : x.has k <;> simp [h]
theorem bytesTo_length (x : BSet) (k : Nat) : (bytesTo x k).length ≤ k := by
  unfold bytesTo; rw [List.length_map]; exact Nat.le_trans (List.length_filter_le _ _) (by simp)
theorem mem_bytesM (x : BSet) (c : UInt8) : c ∈ bytesM x ↔ x.has c.toNat = true := by
  simp only [bytesM, bytesTo, List.mem_map, List.mem_filter, List.mem_range]
  constructor
  · rintro ⟨k, ⟨hk, hh⟩, rfl⟩
    rwa [UInt8.toNat_ofNat_of_lt' hk]
  · intro h
    exact ⟨c.toNat, ⟨c.toNat_lt, h⟩, by simp⟩
def voidM (l : List Item) : Bool := l.any fun x => !x.run && (bytesM x.set).isEmpty
def leastM (l : List Item) : Nat := (l.filter fun x => !x.run).length
/-- The last byte of each set that is no run's. -/
def shortOf (x : Item) : List UInt8 := if x.run then [] else (bytesM x.set).drop ((bytesM x.set).length - 1)
def shortM (l : List Item) : List UInt8 := l.flatMap shortOf

/-! ### Sets out of flags, as the reference makes them -/
def b2n (b : Bool) : Nat := if b then 1 else 0
/-- The word i of a set behind m bits, from the highest on. -/
def accW (fl : List Bool) (i : Nat) : Nat → Nat
  | 0 => 0
  | m + 1 => 2 * accW fl i m + b2n (fl.getD (64 * i + (63 - m)) false)
theorem accW_lt (fl : List Bool) (i m : Nat) : accW fl i m < 2 ^ m := by
  induction m with
  | zero => simp [accW]
  | succ m ih =>
    have : b2n (fl.getD (64 * i + (63 - m)) false) ≤ 1 := by unfold b2n; split <;> omega
    simp only [accW, Nat.pow_succ]; omega
theorem accW_bit (fl : List Bool) (i m k : Nat) (hk : k < m) (hm : m ≤ 64) : (accW fl i m).testBit k = fl.getD (64 * i + (64 - m) + k) false := by
  induction m generalizing k with
  | zero => omega
  | succ m ih =>
    have hb : (b2n (fl.getD (64 * i + (63 - m)) false)) < 2 := by unfold b2n; split <;> omega
    cases k with
    | zero =>
      simp only [accW, Nat.testBit_zero, Nat.add_zero]
      rw [show 64 * i + (64 - (m + 1)) = 64 * i + (63 - m) from by omega]
      unfold b2n
      cases fl.getD (64 * i + (63 - m)) false <;> simp <;> omega
    | succ k =>
      rw [Nat.testBit_succ, show accW fl i (m + 1) / 2 = accW fl i m from by simp only [accW]; omega, ih k (by omega) (by omega)]
      congr 1; omega
def makeM (fl : List Bool) : BSet := ⟨BitVec.ofNat 64 (accW fl 0 64), BitVec.ofNat 64 (accW fl 1 64), BitVec.ofNat 64 (accW fl 2 64), BitVec.ofNat 64 (accW fl 3 64)⟩
theorem ofNat_toNat64 (n : Nat) (h : n < 2 ^ 64) : (BitVec.ofNat 64 n).toNat = n := by rw [BitVec.toNat_ofNat]; exact Nat.mod_eq_of_lt h
theorem makeM_word (fl : List Bool) (i : Nat) (h : i < 4) : ((makeM fl).word i).toNat = accW fl i 64 := by
  match i, h with
  | 0, _ => exact ofNat_toNat64 _ (accW_lt fl 0 64)
  | 1, _ => exact ofNat_toNat64 _ (accW_lt fl 1 64)
  | 2, _ => exact ofNat_toNat64 _ (accW_lt fl 2 64)
  | 3, _ => exact ofNat_toNat64 _ (accW_lt fl 3 64)
theorem has_makeM (fl : List Bool) (b : Nat) (h : b < 256) : (makeM fl).has b = fl.getD b false := by
  unfold BSet.has
  rw [BitVec.getLsbD, makeM_word fl _ (by omega), accW_bit fl _ _ _ (Nat.mod_lt _ (by omega)) (Nat.le_refl _), show 64 * (b / 64) + (64 - 64) + b % 64 = b from by omega]
def flagsM (x : BSet) : List Bool := (List.range 256).map x.has
theorem flagsM_length (x : BSet) : (flagsM x).length = 256 := by simp [flagsM]
theorem flagsM_get (x : BSet) (b : Nat) (h : b < 256) : (flagsM x).getD b false = x.has b := by simp [flagsM, List.getD, h]
/-- Two sets with the same bytes are one. -/
theorem BSet.ext_has {x y : BSet} (h : ∀ b, b < 256 → x.has b = y.has b) : x = y := by
  have hw : ∀ i, i < 4 → x.word i = y.word i := by
    intro i hi
    refine BitVec.eq_of_getLsbD_eq fun k hk => ?_
    have := h (64 * i + k) (by omega)
    unfold BSet.has at this
    rwa [show (64 * i + k) / 64 = i from by omega, show (64 * i + k) % 64 = k from by omega] at this
  obtain ⟨x0, x1, x2, x3⟩ := x
  obtain ⟨y0, y1, y2, y3⟩ := y
  have h0 := hw 0 (by omega); have h1 := hw 1 (by omega); have h2 := hw 2 (by omega); have h3 := hw 3 (by omega)
  simp only [BSet.word] at h0 h1 h2 h3
  rw [h0, h1, h2, h3]
/-- The set of some bytes. -/
def ofFlags (s : List UInt8) : List Bool := s.foldl (fun f c => f.set c.toNat true) (List.replicate 256 false)
def ofM (s : List UInt8) : BSet := makeM (ofFlags s)
theorem ofFlags_succ (s : List UInt8) (k : Nat) (h : k < s.length) : ofFlags (s.take (k + 1)) = (ofFlags (s.take k)).set (s[k]).toNat true := by
  unfold ofFlags
  rw [List.take_succ_eq_append_getElem h, List.foldl_append]; rfl
theorem flagsM_zero : flagsM BSet.zero = List.replicate 256 false := by
  refine List.ext_getElem (by rw [flagsM_length, List.length_replicate]) fun i h1 h2 => ?_
  simp only [flagsM, List.getElem_map, List.getElem_range, List.getElem_replicate]
  unfold BSet.has BSet.zero BSet.word
  split <;> simp
theorem ofFlags_length (s : List UInt8) : (ofFlags s).length = 256 := by
  unfold ofFlags
  have : ∀ (f : List Bool), f.length = 256 → (s.foldl (fun f c => f.set c.toNat true) f).length = 256 := by
    induction s with
    | nil => intro f h; exact h
    | cons c r ih => intro f h; exact ih _ (by simpa using h)
  exact this _ List.length_replicate

end Go.Proofs.Ytdbiodofofnpgaa
namespace Go.Proofs.Ytdbiodofofnpgaa
open Go.RowKit

/-- What patterns mean: item by item. -/
def matchR : List Item → List UInt8 → Bool
  | [], s => s.isEmpty
  | x :: l, s => if x.run then (List.range (s.length + 1)).any (fun i => matchR l (s.drop i)) else
      match s with
      | [] => false
      | c :: r => x.set.has c.toNat && matchR l r

def sub (s : List UInt8) (i j : Nat) : List UInt8 := (s.drop i).take (j - i)

theorem stepRun_spec (p : Bool) (L : List Bool) (i : Nat) : (stepRun p L).getD i false = true ↔ i < L.length ∧ (p = true ∨ ∃ k, k ≤ i ∧ L.getD k false = true) := by
  induction L generalizing p i with
  | nil => simp [stepRun]
  | cons a r ih =>
    cases i with
    | zero =>
      simp only [stepRun, List.getD_cons_zero, Bool.or_eq_true, List.length_cons]
      constructor
      · rintro (h | h)
        · exact ⟨by omega, .inr ⟨0, by omega, by simpa using h⟩⟩
        · exact ⟨by omega, .inl h⟩
      · rintro ⟨_, h | ⟨k, hk, h⟩⟩
        · exact .inr h
        · obtain rfl : k = 0 := by omega
          exact .inl (by simpa using h)
    | succ i =>
      simp only [stepRun, List.getD_cons_succ, ih, List.length_cons, Bool.or_eq_true]
      constructor
      · rintro ⟨h1, (h | h) | ⟨k, hk, h⟩⟩
        · exact ⟨by omega, .inr ⟨0, by omega, by simpa using h⟩⟩
        · exact ⟨by omega, .inl h⟩
        · exact ⟨by omega, .inr ⟨k + 1, by omega, by simpa using h⟩⟩
      · rintro ⟨h1, h | ⟨k, hk, h⟩⟩
        · exact ⟨by omega, .inl (.inr h)⟩
        · cases k with
          | zero => exact ⟨by omega, .inl (.inl (by simpa using h))⟩
          | succ k => exact ⟨by omega, .inr ⟨k, by omega, by simpa using h⟩⟩

theorem sub_self (s : List UInt8) (j : Nat) : sub s j j = [] := by simp [sub]
theorem sub_length (s : List UInt8) (i j : Nat) (h : j ≤ s.length) : (sub s i j).length = j - i := by simp [sub]; omega
theorem sub_drop (s : List UInt8) (i j k : Nat) : (sub s i j).drop k = sub s (i + k) j := by
  unfold sub
  rw [List.drop_take, List.drop_drop]; congr 1; omega
theorem sub_cons (s : List UInt8) (i j : Nat) (h : i < j) (hj : j ≤ s.length) : sub s i j = s[i] :: sub s (i + 1) j := by
  unfold sub
  rw [List.drop_eq_getElem_cons (by omega), show j - i = (j - (i + 1)) + 1 from by omega, List.take_succ_cons]

/-- What 'ends' tells of a place. -/
theorem ends_spec (l : List Item) (s : List UInt8) (a : List Bool) (ha : a.length = s.length + 1) (j : Nat) (hj : j ≤ s.length) :
    (endsM l s a).getD j false = true ↔ ∃ i, i ≤ j ∧ a.getD i false = true ∧ matchR l (sub s i j) = true := by
  induction l generalizing a with
  | nil =>
    simp only [endsM, List.foldl_nil, matchR, List.isEmpty_iff]
    constructor
    · intro h; exact ⟨j, Nat.le_refl _, h, sub_self s j⟩
    · rintro ⟨i, hi, h, e⟩
      have := sub_length s i j hj
      rw [e] at this; simp at this
      obtain rfl : i = j := by omega
      exact h
  | cons x l ih =>
    have hl := stepM_length x s a ha
    rw [show endsM (x :: l) s a = endsM l s (stepM x s a) from rfl, ih _ hl]
    cases hr : x.run
    · constructor
      · rintro ⟨i, hi, h, hm⟩
        cases i with
        | zero => rw [List.getD, stepM_set0 x s a hr] at h; simp at h
        | succ i =>
          rw [List.getD, stepM_set x s a hr i (by omega) ha] at h
          simp only [Option.getD_some, Bool.and_eq_true] at h
          refine ⟨i, by omega, ?_, ?_⟩
          · rw [List.getD, List.getElem?_eq_getElem (by omega)]; exact h.1
          · rw [sub_cons s i j (by omega) hj]
            simp [matchR, hr, h.2, hm]
      · rintro ⟨i, hi, h, hm⟩
        by_cases hij : i < j
        · rw [sub_cons s i j hij hj] at hm
          simp only [matchR, hr, Bool.false_eq_true, if_false, Bool.and_eq_true] at hm
          refine ⟨i + 1, by omega, ?_, hm.2⟩
          rw [List.getD, stepM_set x s a hr i (by omega) ha]
          rw [List.getD, List.getElem?_eq_getElem (by omega)] at h
          simp only [Option.getD_some] at h ⊢
          rw [h, hm.1]; rfl
        · obtain rfl : i = j := by omega
          rw [sub_self] at hm
          simp [matchR, hr] at hm
    · have hst : ∀ i, (stepM x s a).getD i false = true ↔ i < a.length ∧ ∃ k, k ≤ i ∧ a.getD k false = true := by
        intro i
        rw [stepM, if_pos hr, stepRun_spec]; simp
      constructor
      · rintro ⟨i, hi, h, hm⟩
        obtain ⟨_, k, hk, hak⟩ := (hst i).1 h
        refine ⟨k, by omega, hak, ?_⟩
        simp only [matchR, hr, if_true, List.any_eq_true, List.mem_range]
        exact ⟨i - k, by rw [sub_length s k j hj]; omega, by rw [sub_drop, show k + (i - k) = i from by omega]; exact hm⟩
      · rintro ⟨k, hk, hak, hm⟩
        simp only [matchR, hr, if_true, List.any_eq_true, List.mem_range] at hm
        obtain ⟨d, hd, hm⟩ := hm
        rw [sub_length s k j hj] at hd
        rw [sub_drop] at hm
        exact ⟨k + d, by omega, (hst _).2 ⟨by omega, k, by omega, hak⟩, hm⟩

theorem placesM_get (n : Nat) (one : Int) (all : Bool) (i : Nat) : (placesM n one all).getD i false = true ↔ i < n ∧ (all = true ∨ (i : Int) = one) := by
  unfold placesM
  by_cases h : i < n
  · simp [List.getD, h]
  · simp [List.getD, h]

/-- Whether a pattern matches all of a text, as the program computes it. -/
def matchM (l : List Item) (s : List UInt8) : Bool := (endsM l s (placesM (s.length + 1) 0 false)).getD s.length false
theorem matchM_eq (l : List Item) (s : List UInt8) : matchM l s = matchR l s := by
  rw [Bool.eq_iff_iff]
  unfold matchM
  rw [ends_spec l s _ (by simp [placesM]) s.length (Nat.le_refl _)]
  constructor
  · rintro ⟨i, _, h, hm⟩
    rw [placesM_get] at h
    obtain ⟨_, h | h⟩ := h
    · cases h
    · obtain rfl : i = 0 := by omega
      simpa [sub] using hm
  · intro h
    exact ⟨0, by omega, (placesM_get _ _ _ _).2 ⟨by omega, .inr rfl⟩, by simpa [sub] using h⟩

/-- One pattern behind another one. -/
theorem matchR_append (l m : List Item) (s : List UInt8) : matchR (l ++ m) s = true ↔ ∃ i, i ≤ s.length ∧ matchR l (s.take i) = true ∧ matchR m (s.drop i) = true := by
  induction l generalizing s with
  | nil =>
    constructor
    · intro h; exact ⟨0, by omega, rfl, by simpa using h⟩
    · rintro ⟨i, hi, h, hm⟩
      have h0 : s.take i = [] := by simpa [matchR] using h
      have : (s.take i).length = i := by simp; omega
      rw [h0] at this; simp at this
      subst this; simpa using hm
  | cons x l ih =>
    rw [List.cons_append]
    cases hr : x.run
    · cases s with
      | nil => simp [matchR, hr]
      | cons c r =>
        simp only [matchR, hr, Bool.false_eq_true, if_false, Bool.and_eq_true, ih]
        constructor
        · rintro ⟨hc, i, hi, h1, h2⟩
          exact ⟨i + 1, by simp; omega, by simp [hc, h1], by simpa using h2⟩
        · rintro ⟨i, hi, h1, h2⟩
          cases i with
          | zero => simp at h1
          | succ i =>
            simp only [List.take_succ_cons, Bool.and_eq_true] at h1
            exact ⟨h1.1, i, by simpa using hi, h1.2, by simpa using h2⟩
    · simp only [matchR, hr, if_true, List.any_eq_true, List.mem_range, ih]
      constructor
      · rintro ⟨d, hd, i, hi, h1, h2⟩
        simp only [List.length_drop] at hi
        refine ⟨d + i, by omega, ⟨d, by simp; omega, ?_⟩, by rw [← List.drop_drop]; exact h2⟩
        rw [List.drop_take]; rw [show d + i - d = i from by omega]; exact h1
      · rintro ⟨i, hi, ⟨d, hd, h1⟩, h2⟩
        simp only [List.length_take] at hd
        refine ⟨d, by omega, i - d, by simp; omega, ?_, ?_⟩
        · rw [List.drop_take] at h1; exact h1
        · rw [List.drop_drop, show d + (i - d) = i from by omega]; exact h2

/-- The place of the first Bool that is v. -/
def idxB (v : Bool) : List Bool → Option Nat
  | [] => none
  | a :: r => if a == v then some 0 else (idxB v r).map (· + 1)
theorem idxB_drop (v : Bool) (L : List Bool) (k : Nat) (h : k < L.length) : idxB v (L.drop k) = if L[k] == v then some 0 else (idxB v (L.drop (k + 1))).map (· + 1) := by
  rw [List.drop_eq_getElem_cons h]; rfl
theorem idxB_some (v : Bool) (L : List Bool) (k : Nat) : idxB v L = some k ↔ k < L.length ∧ L.getD k (!v) = v ∧ ∀ j, j < k → L.getD j v ≠ v := by
  induction L generalizing k with
  | nil => simp [idxB]
  | cons a r ih =>
    unfold idxB
    by_cases ha : a = v
    · subst ha
      simp only [beq_self_eq_true, if_true, Option.some.injEq]
      constructor
      · rintro rfl; simp
      · rintro ⟨h1, h2, h3⟩
        cases k with
        | zero => rfl
        | succ k => exact absurd rfl (h3 0 (by omega))
    · have : (a == v) = false := by simpa using ha
      simp only [this, Bool.false_eq_true, if_false, Option.map_eq_some_iff]
      constructor
      · rintro ⟨j, hj, rfl⟩
        obtain ⟨h1, h2, h3⟩ := (ih j).1 hj
        refine ⟨by simpa using h1, by simpa using h2, fun i hi => ?_⟩
        cases i with
        | zero => simpa using ha
        | succ i => simpa using h3 i (by omega)
      · rintro ⟨h1, h2, h3⟩
        cases k with
        | zero => simp at h2; exact absurd h2 ha
        | succ k => exact ⟨k, (ih k).2 ⟨by simpa using h1, by simpa using h2, fun j hj => by simpa using h3 (j + 1) (by omega)⟩, rfl⟩
theorem idxB_none (v : Bool) (L : List Bool) : idxB v L = none ↔ ∀ j, j < L.length → L.getD j v ≠ v := by
  induction L with
  | nil => simp [idxB]
  | cons a r ih =>
    unfold idxB
    by_cases ha : a = v
    · subst ha
      simp only [beq_self_eq_true, if_true, reduceCtorEq, false_iff]
      intro h; exact h 0 (by simp) rfl
    · have : (a == v) = false := by simpa using ha
      simp only [this, Bool.false_eq_true, if_false, Option.map_eq_none_iff, ih]
      constructor
      · intro h j hj
        cases j with
        | zero => simpa using ha
        | succ j => simpa using h j (by simpa using hj)
      · intro h j hj
        simpa using h (j + 1) (by simpa using hj)

/-- All places from which a pattern occurs to one. -/
def startsTo (l : List Item) (w : List UInt8) (to k : Nat) : List Nat := (List.range k).filter fun i => matchM l (sub w i to)
def startsM (l : List Item) (w : List UInt8) (to : Nat) : List Nat := startsTo l w to (to + 1)
theorem startsTo_succ (l : List Item) (w : List UInt8) (to k : Nat) : startsTo l w to (k + 1) = startsTo l w to k ++ if matchM l (sub w k to) then [k] else [] := by
  unfold startsTo; rw [List.range_succ, List.filter_append]; simp [List.filter_cons]
theorem startsTo_length (l : List Item) (w : List UInt8) (to k : Nat) : (startsTo l w to k).length ≤ k := Nat.le_trans (List.length_filter_le _ _) (by simp)
def optI : Option Nat → Int | none => -1 | some k => k
def endsAll (l : List Item) (w : List UInt8) : List Bool := endsM l w (placesM (w.length + 1) 0 true)
def firstM (l : List Item) (w : List UInt8) : Nat × Nat × Bool :=
  match idxB true (endsAll l w) with
  | none => (0, 0, false)
  | some to => ((startsM l w to).headD 0, to, true)

theorem endsAll_length (l : List Item) (w : List UInt8) : (endsAll l w).length = w.length + 1 := endsM_length l w _ (by simp [placesM])
theorem endsAll_spec (l : List Item) (w : List UInt8) (j : Nat) (hj : j ≤ w.length) : (endsAll l w).getD j false = true ↔ ∃ i, i ≤ j ∧ matchR l (sub w i j) = true := by
  unfold endsAll
  rw [ends_spec l w _ (by simp [placesM]) j hj]
  constructor
  · rintro ⟨i, h1, _, h3⟩; exact ⟨i, h1, h3⟩
  · rintro ⟨i, h1, h3⟩; exact ⟨i, h1, (placesM_get _ _ _ _).2 ⟨by omega, .inl rfl⟩, h3⟩
theorem mem_startsM (l : List Item) (w : List UInt8) (to i : Nat) : i ∈ startsM l w to ↔ i ≤ to ∧ matchR l (sub w i to) = true := by
  simp [startsM, startsTo, matchM_eq]; omega
theorem starts_some (l : List Item) (w : List UInt8) (to : Nat) (h : idxB true (endsAll l w) = some to) : to ≤ w.length ∧ startsM l w to ≠ [] := by
  obtain ⟨h1, h2, _⟩ := (idxB_some _ _ _).1 h
  rw [endsAll_length] at h1
  obtain ⟨i, hi, hm⟩ := (endsAll_spec l w to (by omega)).1 h2
  exact ⟨by omega, List.ne_nil_of_mem ((mem_startsM l w to i).2 ⟨hi, hm⟩)⟩

/-! ### Where a pattern occurs first does not hang on what comes later -/
theorem sub_app (w m : List UInt8) (i j : Nat) (h : j ≤ w.length) : sub (w ++ m) i j = sub w i j := by
  unfold sub
  by_cases hi : i ≤ j
  · rw [List.drop_append_of_le_length (by omega), List.take_append_of_le_length (by simp; omega)]
  · rw [show j - i = 0 from by omega]; simp
theorem startsM_app (l : List Item) (w m : List UInt8) (to : Nat) (h : to ≤ w.length) : startsM l (w ++ m) to = startsM l w to := by
  unfold startsM startsTo
  refine List.filter_congr fun i _ => ?_
  rw [sub_app w m i to h]
theorem getD_tf {L : List Bool} {j : Nat} (h : j < L.length) : (L.getD j true ≠ true) ↔ ¬ L.getD j false = true := by
  simp [List.getD, h]
theorem first_app (l : List Item) (w m : List UInt8) (k : Nat) (h : idxB true (endsAll l w) = some k) : idxB true (endsAll l (w ++ m)) = some k := by
  obtain ⟨h1, h2, h3⟩ := (idxB_some _ _ _).1 h
  have e1 := endsAll_length l w
  have e2 := endsAll_length l (w ++ m)
  rw [List.length_append] at e2
  have key : ∀ j, j ≤ w.length → ((endsAll l (w ++ m)).getD j false = true ↔ (endsAll l w).getD j false = true) := by
    intro j hj
    rw [endsAll_spec l w j hj, endsAll_spec l (w ++ m) j (by simp; omega)]
    constructor
    · rintro ⟨i, hi, hm⟩; exact ⟨i, hi, by rwa [sub_app w m i j hj] at hm⟩
    · rintro ⟨i, hi, hm⟩; exact ⟨i, hi, by rwa [sub_app w m i j hj]⟩
  refine (idxB_some _ _ _).2 ⟨by omega, (key k (by omega)).2 h2, fun j hj => ?_⟩
  rw [getD_tf (by omega), key j (by omega), ← getD_tf (by omega)]
  exact h3 j hj
theorem first_late (l : List Item) (w m : List UInt8) (k : Nat) (h : idxB true (endsAll l w) = none) (h2 : idxB true (endsAll l (w ++ m)) = some k) : w.length < k := by
  rcases Nat.lt_or_ge w.length k with hlt | hge
  · exact hlt
  · exfalso
    obtain ⟨h1, hk, _⟩ := (idxB_some _ _ _).1 h2
    have e1 := endsAll_length l w
    have hn := (idxB_none _ _).1 h k (by omega)
    rw [getD_tf (by omega)] at hn
    apply hn
    obtain ⟨i, hi, hm⟩ := (endsAll_spec l (w ++ m) k (by simp; omega)).1 hk
    exact (endsAll_spec l w k hge).2 ⟨i, hi, by rwa [sub_app w m i k hge] at hm⟩
theorem stays_law (l : List Item) (w m : List UInt8) : ((firstM l w).2.2 = true → firstM l (w ++ m) = firstM l w) ∧ ((firstM l w).2.2 = false → (firstM l (w ++ m)).2.2 = true → w.length < (firstM l (w ++ m)).2.1) := by
  unfold firstM
  cases h : idxB true (endsAll l w) with
  | none =>
    refine ⟨fun hh => by simp at hh, fun _ => ?_⟩
    cases h2 : idxB true (endsAll l (w ++ m)) with
    | none => intro hh; simp at hh
    | some k => intro _; exact first_late l w m k h h2
  | some k =>
    refine ⟨fun _ => ?_, fun hh => by simp at hh⟩
    have hk := (starts_some l w k h).1
    rw [first_app l w m k h]
    simp only [startsM_app l w m k hk]

/-! ### A pattern that may match matches a text as short as it says -/
theorem shortOf_set (x : Item) (hr : x.run = false) (hv : (bytesM x.set).isEmpty = false) : ∃ c, shortOf x = [c] ∧ x.set.has c.toNat = true := by
  cases hb : (bytesM x.set).reverse with
  | nil => have := congrArg List.length hb; simp at this; rw [this] at hv; simp at hv
  | cons c r =>
    have e : bytesM x.set = r.reverse ++ [c] := by have := congrArg List.reverse hb; simpa using this
    refine ⟨c, ?_, (mem_bytesM _ _).1 (by rw [e]; simp)⟩
    unfold shortOf
    rw [if_neg (by simp [hr]), e]; simp
theorem short_matches (l : List Item) (h : voidM l = false) : matchR l (shortM l) = true ∧ (shortM l).length = leastM l := by
  induction l with
  | nil => exact ⟨rfl, rfl⟩
  | cons x l ih =>
    unfold voidM at h
    rw [List.any_cons, Bool.or_eq_false_iff] at h
    obtain ⟨h1, h2⟩ := ih h.2
    have es : shortM (x :: l) = shortOf x ++ shortM l := rfl
    cases hr : x.run
    · obtain ⟨c, hc, hh⟩ := shortOf_set x hr (by have := h.1; rw [hr] at this; simpa using this)
      rw [es, hc]
      refine ⟨by simp [matchR, hr, hh, h1], ?_⟩
      have : leastM (x :: l) = leastM l + 1 := by simp [leastM, hr]
      rw [this, ← h2]; simp
    · have e0 : shortOf x = [] := by unfold shortOf; rw [if_pos hr]
      rw [es, e0, List.nil_append]
      have : leastM (x :: l) = leastM l := by simp [leastM, hr]
      rw [this]
      refine ⟨?_, h2⟩
      simp only [matchR, hr, if_true, List.any_eq_true, List.mem_range]
      exact ⟨0, by omega, by simpa using h1⟩
theorem exact_length (l : List Item) (s : List UInt8) (hr : l.any (fun x => x.run) = false) (h : matchR l s = true) : s.length = leastM l := by
  induction l generalizing s with
  | nil => have : s = [] := by simpa [matchR] using h
           rw [this]; rfl
  | cons x l ih =>
    rw [List.any_cons, Bool.or_eq_false_iff] at hr
    cases s with
    | nil => simp [matchR, hr.1] at h
    | cons c r =>
      simp only [matchR, hr.1, Bool.false_eq_true, if_false, Bool.and_eq_true] at h
      have := ih r hr.2 h.2
      simp [leastM, hr.1] at this ⊢; exact this

/-- Behind k places: the text is cut at one of them into what the two patterns match. -/
def anyTo (l m : List Item) (s : List UInt8) (k : Nat) : Bool := (List.range k).any fun i => matchM l (s.take i) && matchM m (s.drop i)
theorem anyTo_succ (l m : List Item) (s : List UInt8) (k : Nat) : anyTo l m s (k + 1) = (anyTo l m s k || (matchM l (s.take k) && matchM m (s.drop k))) := by
  unfold anyTo; rw [List.range_succ, List.any_append]; simp
theorem joins_law (l m : List Item) (s : List UInt8) : matchM (l ++ m) s = anyTo l m s (s.length + 1) := by
  rw [Bool.eq_iff_iff, matchM_eq, matchR_append]
  simp only [anyTo, List.any_eq_true, List.mem_range, Bool.and_eq_true, matchM_eq]
  constructor
  · rintro ⟨i, hi, h⟩; exact ⟨i, by omega, h⟩
  · rintro ⟨i, hi, h⟩; exact ⟨i, by omega, h⟩

end Go.Proofs.Ytdbiodofofnpgaa
