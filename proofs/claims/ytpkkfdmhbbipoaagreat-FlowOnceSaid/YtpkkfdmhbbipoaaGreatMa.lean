/- Small facts on worlds, rows of cells and slices that all walks of this claim use; no program in sight. Facts on this program's types: rows of its table, equality of sets and items. The plain functions that the walks compute: sets of bytes, patterns. No program in sight. A region that draws its order: its first n operations only read (or call what turns nothing), the others stand in one forced order. No program in sight. Objects in memory and their blocks: what a call may turn is a set of blocks; whatever lies in others stays. No program in sight. Plain laws of patterns: what 'ends' computes is what patterns mean. No program in sight. Plain laws: how many bits of a number are set, by halves. No program in sight. Regions that draw their order, walked in ONE order: operations that look at no memory are taken first; all others stand in a forced chain. No program in sight. Regions that draw their order, walked along a tree of orders: operations that look at no memory first, then whatever may come up, one branch for each. No program in sight. -/
import Derived.WalkKit
import Derived.WalkSpells
import Derived.WalkLawsBesides
import Derived.Test.YtpkkfdmhbbipoaaGreatRows
import Derived.ChangeKeysEq
import Derived.StillTailTactics
import Derived.BigQuiet
import Derived.Deep.QuietTactic
import Derived.Deep.RegionHeld3
namespace Go.Proofs.YtpkkfdmhbbipoaaGreat
open Go.RowKit
theorem hid {p : Prop} (h : p) : Hid p := h
def Rd (w : World) (A : Option Addr) (xs : List Value) : Prop :=
 xs = [] ∨ ∃ b off, A = some ⟨b, off, none⟩ ∧ b < w.heap.size ∧ ∀ j u, xs[j]? = some u → w.cell? ⟨b, off + j, none⟩ = some u
theorem Rd.below {w w' : World} {A : Option Addr} {xs : List Value} (h : Rd w A xs) (hb : Below w.heap.size w w') : Rd w' A xs := by
 rcases h with h | ⟨b, off, hA, hlt, hc⟩
 ·exact .inl h
 ·exact .inr ⟨b, off, hA, Nat.lt_of_lt_of_le hlt hb.size, fun j u hj => (hb.cell (p := ⟨b, off + j, none⟩) hlt).trans (hc j u hj)⟩
theorem Rd.at {w : World} {A : Option Addr} {xs : List Value} (h : Rd w A xs) (hne : 0 < xs.length) :
  ∃ b off, A = some ⟨b, off, none⟩ ∧ b < w.heap.size ∧ ∀ j u, xs[j]? = some u → w.cell? ⟨b, off + j, none⟩ = some u := by
 rcases h with h | h
 ·rw [h] at hne; simp at hne
 ·exact h
theorem cell_set_other {w : World} {b o b' o' : Nat} {u : Value} (h : b' ≠ b) : (w.setCell ⟨b, o, none⟩ u).cell? ⟨b', o', none⟩ = w.cell? ⟨b', o', none⟩ :=
 World.cell?_setCell_other w ⟨b, o, none⟩ ⟨b', o', none⟩ u (fun e => h (by injection e with e1; exact e1.symm))
theorem cell_set_same {w : World} {b o : Nat} {u x : Value} (h : w.cell? ⟨b, o, none⟩ = some x) : (w.setCell ⟨b, o, none⟩ u).cell? ⟨b, o, none⟩ = some u := by
 unfold World.cell? World.setCell at *
 simp only [Array.getElem?_modify, if_true] at *
 split at h
 ·rename_i c e f hh
  rw [hh]
  simp only [Option.isSome_none, Bool.false_eq_true, if_false, Option.map_some] at h ⊢
  have := (Array.getElem?_eq_some_iff.1 h).1
  simp [this]
 ·cases h
structure BSet where
 w0 : BitVec 64
 w1 : BitVec 64
 w2 : BitVec 64
 w3 : BitVec 64
 deriving DecidableEq, Inhabited
abbrev w64 (x : BitVec 64) : Value := .int .u64 (x.toNat : Int)
def BSet.cells (s : BSet) : List Value := [w64 s.w0, w64 s.w1, w64 s.w2, w64 s.w3]
def BSet.val (s : BSet) : Value := .agg #[w64 s.w0, w64 s.w1, w64 s.w2, w64 s.w3]
def BSet.zero : BSet := ⟨0, 0, 0, 0⟩
structure Item where
 run : Bool
 set : BSet
 deriving DecidableEq, Inhabited
def Item.cells (x : Item) : List Value := .bool x.run :: x.set.cells
def Item.val (x : Item) : Value := .agg #[.bool x.run, w64 x.set.w0, w64 x.set.w1, w64 x.set.w2, w64 x.set.w3]
def itemCells (l : List Item) : List Value := l.flatMap Item.cells
theorem Item.cells_length (x : Item) : x.cells.length = 5 := rfl
theorem itemCells_length (l : List Item) : (itemCells l).length = l.length * 5 := by
 induction l with
 | nil => rfl
 | cons x l ih => simp only [itemCells, List.flatMap_cons, List.length_append, List.length_cons] at ih ⊢; rw [ih, Item.cells_length]; omega
theorem itemCells_append (a b : List Item) : itemCells (a ++ b) = itemCells a ++ itemCells b := by simp [itemCells]
theorem itemCells_get (l : List Item) (k : Nat) (h : k < l.length) (j : Nat) (hj : j < 5) : (itemCells l)[k * 5 + j]? = (l[k]).cells[j]? := by
 induction l generalizing k with
 | nil => simp at h
 | cons x l ih =>
  rw [show itemCells (x :: l) = x.cells ++ itemCells l from rfl]
  cases k with
  | zero => rw [List.getElem?_append_left (by rw [Item.cells_length]; omega)]; simp
  | succ k =>
   rw [List.getElem?_append_right (by rw [Item.cells_length]; omega), Item.cells_length, show (k + 1) * 5 + j - 5 = k * 5 + j from by omega]
   exact ih k (by simpa using h)
theorem item_at {w : World} {b off : Nat} {l : List Item} (hc : ∀ j u, (itemCells l)[j]? = some u → w.cell? ⟨b, off + j, none⟩ = some u) (k : Nat) (h : k < l.length) :
  w.cell? ⟨b, off + k * 5, none⟩ = some (.bool (l[k]).run) ∧ w.cell? ⟨b, off + k * 5 + 1, none⟩ = some (w64 (l[k]).set.w0) ∧ w.cell? ⟨b, off + k * 5 + 2, none⟩ = some (w64 (l[k]).set.w1) ∧
  w.cell? ⟨b, off + k * 5 + 3, none⟩ = some (w64 (l[k]).set.w2) ∧ w.cell? ⟨b, off + k * 5 + 4, none⟩ = some (w64 (l[k]).set.w3) := by
 have H := fun j hj u (hu : (l[k]).cells[j]? = some u) => hc (k * 5 + j) u ((itemCells_get l k h j hj).trans hu)
 refine ⟨?_, ?_, ?_, ?_, ?_⟩
 ·exact H 0 (by omega) _ rfl
 ·have := H 1 (by omega) _ rfl; rwa [← Nat.add_assoc] at this
 ·have := H 2 (by omega) _ rfl; rwa [← Nat.add_assoc] at this
 ·have := H 3 (by omega) _ rfl; rwa [← Nat.add_assoc] at this
 ·have := H 4 (by omega) _ rfl; rwa [← Nat.add_assoc] at this
/-! ### Rows of the call's own -/
theorem own_shape {w : World} {base : Nat} {e : TypeId} {size : Nat} {v : Value} {n : Nat} {xs : List Value} (h : w.ownsRow base e size v n xs) :
  ∃ A c, v = .slice A n c ∧ Rd w A xs := by
 rcases h.2 with ⟨rfl, h0⟩ | ⟨g, cap, cur, rfl, hb, hg, hn, hc, hcs, ht⟩
 ·subst h0
  refine ⟨none, 0, rfl, .inl (List.eq_nil_of_length_eq_zero (by rw [h.1]; simp))⟩
 ·refine ⟨_, _, rfl, .inr ⟨g, 0, rfl, (Array.getElem?_eq_some_iff.1 hg).1, fun j u hu => ?_⟩⟩
  have := h.cells (g := g) rfl j u hu
  rw [show ((⟨g, 0, none⟩ : Addr).add j) = ⟨g, 0 + j, none⟩ from by unfold Addr.add; split <;> simp_all] at this
  exact this
theorem below_grown {B : Nat} {w0 w w' : World} {base : Nat} {e : TypeId} {size : Nat} {v : Value} {n : Nat} {xs : List Value} (h : Below B w0 w) (hown : w.ownsRow base e size v n xs)
  (hg : w.grownBy w' v.ownBlock) (hB : B ≤ base) (hs : B ≤ w.heap.size) : Below B w0 w' :=
 h.grown hg hs (fun k hk => Nat.le_trans hB (hown.lt k hk).1)
theorem own_below {w w' : World} {base B : Nat} {e : TypeId} {size : Nat} {v : Value} {n : Nat} {xs : List Value} (h : w.ownsRow base e size v n xs) (hb : Below B w w') (hB : w.heap.size ≤ B := by exact Nat.le_refl _) :
  w'.ownsRow base e size v n xs :=
 h.kept (row := none) ⟨hb.os, hb.tape, hb.output, hb.size, fun q hq _ => hb.block q (Nat.lt_of_lt_of_le hq hB)⟩ (by cases hv : v.ownBlock <;> simp)
theorem own_base {w : World} {base B : Nat} {e : TypeId} {size : Nat} {v : Value} {n : Nat} {xs : List Value} (h : w.ownsRow base e size v n xs) (hB : B ≤ base) : w.ownsRow B e size v n xs := by
 obtain ⟨h1, h2⟩ := h
 refine ⟨h1, ?_⟩
 rcases h2 with h2 | ⟨g, cap, cur, hv, hb, r⟩
 ·exact .inl h2
 ·exact .inr ⟨g, cap, cur, hv, by omega, r⟩
theorem own_ne {w : World} {b1 b2 : Nat} {e1 e2 : TypeId} {s1 s2 : Nat} {v1 v2 : Value} {n1 n2 : Nat} {xs ys : List Value} (h1 : w.ownsRow b1 e1 s1 v1 n1 xs) (h2 : w.ownsRow b2 e2 s2 v2 n2 ys) (hne : e1 ≠ e2) :
  v1.ownBlock = none ∨ v1.ownBlock ≠ v2.ownBlock := by
 rcases h1.2 with ⟨rfl, _⟩ | ⟨g, cap, cur, rfl, _, hg, _⟩
 ·exact .inl rfl
 ·right
  rcases h2.2 with ⟨rfl, _⟩ | ⟨g', cap', cur', rfl, _, hg', _⟩
  ·simp [Value.ownBlock]
  ·intro e
   simp only [Value.ownBlock, Option.some.injEq] at e
   subst e
   rw [hg] at hg'
   injection hg' with hg'
   injection hg' with _ ht
   exact hne ht
theorem cells_new {w : World} {e : TypeId} {cs : List Value} : ∀ j u, cs[j]? = some u → (w.alloc (.cells cs.toArray e)).cell? ((⟨w.heap.size, 0, none⟩ : Addr).add j) = some u := by
 intro j u hj
 rw [show ((⟨w.heap.size, 0, none⟩ : Addr).add j) = ⟨w.heap.size, j, none⟩ from by unfold Addr.add; split <;> simp_all]
 rw [cell_of_row _ w.heap.size j cs.toArray e (0, 0) (heap_alloc_new w _)]
 simpa using hj
theorem wpList_append1 {P : Program} (w : World) {ops : Array Oper} {rest : List Oper} {o : Oper} {a : Act} {Q : Exit → Act → World → Prop} (hgd : o.guard = none) (s x : Operand) (t : TypeId)
  (ho : o.op = .call { callee := .builtin .append, args := #[s, x], argTypes := #[t, t] })
  (base : Nat) (e : TypeId) (z : Value) (size bytes : Nat) (ht : P.underlying t = some (.slice e)) (hi : (P.info? e).map (fun i => (i.zero, i.size, i.bytes)) = some (some z, size, bytes))
  (hzs : z.cells.size = size) (hsz : 0 < size)
  (v : Value) (n : Nat) (xs : List Value) (hs : a.eval s = v) (hown : w.ownsRow base e size v n xs)
  (c : Nat) (cs : List Value) (hx : a.eval x = .slice (some ⟨w.heap.size, 0, none⟩) 1 c) (hl : cs.length = size) (h1 : cs.all Value.oneCell' = true)
  (hbytes : (n + 1) * bytes ≤ 140737488355328) (hby : 1 ≤ bytes) (hbase : base ≤ w.heap.size)
  (h : ∀ A c' w', w'.ownsRow base e size (.slice A (n + 1) c') (n + 1) (xs ++ cs) → w.grownBy w' v.ownBlock → wpList P ops Q rest (a.put o.dst (.slice A (n + 1) c')) w') :
  wpList P ops Q (o :: rest) a (w.alloc (.cells cs.toArray e)) := by
 obtain ⟨i, hi, hz, hz1, hz2⟩ := info_parts hi
 have hn : n + 1 ≤ 140737488355328 := Nat.le_trans (Nat.le_mul_of_pos_right _ hby) hbytes
 refine wpList_append_own _ hgd s x t ho base e i z size bytes ht hi hz hz1 hz2 hzs hsz v n xs hs (hown.alloc _) ⟨w.heap.size, 0, none⟩ 1 c cs hx (by simpa using hl) cells_new
  (fun u hu => List.all_eq_true.1 h1 u hu) (by unfold maxLen; omega) hbytes (by simp; omega) ?_
 intro v' w' hown' hg _
 obtain ⟨A, c', rfl, _⟩ := own_shape hown'
 exact h A c' w' hown' ((World.grownBy_alloc w _ _).trans hg)
theorem wpList_append1g {P : Program} (w : World) {ops : Array Oper} {rest : List Oper} {o : Oper} {a : Act} {Q : Exit → Act → World → Prop} (hgd : o.guard = none) (s x : Operand) (t : TypeId)
  (ho : o.op = .call { callee := .builtin .append, args := #[s, x], argTypes := #[t, t] })
  (base : Nat) (e : TypeId) (z : Value) (size bytes : Nat) (ht : P.underlying t = some (.slice e)) (hi : (P.info? e).map (fun i => (i.zero, i.size, i.bytes)) = some (some z, size, bytes))
  (hzs : z.cells.size = size) (hsz : 0 < size)
  (v : Value) (n : Nat) (xs : List Value) (hs : a.eval s = v) (hown : w.ownsRow base e size v n xs)
  (c : Nat) (cs : List Value) (hx : a.eval x = .slice (some ⟨w.heap.size, 0, none⟩) 1 c) (hl : cs.length = size) (h1 : cs.all Value.oneCell' = true)
  (hbytes : (n + 1) * bytes ≤ 140737488355328) (hby : 1 ≤ bytes) (hbase : base ≤ w.heap.size)
  (h : ∀ g c' w', w'.ownsRow base e size (.slice (some ⟨g, 0, none⟩) (n + 1) c') (n + 1) (xs ++ cs) → w.grownBy w' v.ownBlock → wpList P ops Q rest (a.put o.dst (.slice (some ⟨g, 0, none⟩) (n + 1) c')) w') :
  wpList P ops Q (o :: rest) a (w.alloc (.cells cs.toArray e)) := by
 obtain ⟨i, hi, hz, hz1, hz2⟩ := info_parts hi
 have hn : n + 1 ≤ 140737488355328 := Nat.le_trans (Nat.le_mul_of_pos_right _ hby) hbytes
 refine wpList_append_own _ hgd s x t ho base e i z size bytes ht hi hz hz1 hz2 hzs hsz v n xs hs (hown.alloc _) ⟨w.heap.size, 0, none⟩ 1 c cs hx (by simpa using hl) cells_new
  (fun u hu => List.all_eq_true.1 h1 u hu) (by unfold maxLen; omega) hbytes (by simp; omega) ?_
 intro v' w' hown' hg _
 obtain ⟨g, c', rfl⟩ : ∃ g c', v' = .slice (some ⟨g, 0, none⟩) (n + 1) c' := by
  rcases hown'.2 with ⟨_, h0⟩ | ⟨g, cap, cur, hv, _⟩
  ·omega
  ·exact ⟨g, cap, hv⟩
 exact h g c' w' hown' ((World.grownBy_alloc w _ _).trans hg)
/-! ### A block that is known whole -/
def Blk (w : World) (g : Nat) (t : TypeId) (cs : Array Value) : Prop := w.heap[g]? = some (.cells cs t (0, 0))
theorem Blk.cell {w : World} {g : Nat} {t : TypeId} {cs : Array Value} (h : Blk w g t cs) (i : Nat) : w.cell? ⟨g, i, none⟩ = cs[i]? := cell_of_row w g i cs t (0, 0) h
theorem Blk.frozen {w : World} {g : Nat} {t : TypeId} {cs : Array Value} (h : Blk w g t cs) (i : Nat) : w.frozen? ⟨g, i, none⟩ = false := frozen_of_row w g i cs t h
theorem Blk.new (w : World) (t : TypeId) (cs : Array Value) : Blk (w.alloc (.cells cs t)) w.heap.size t cs := heap_alloc_new w _
theorem Blk.lt {w : World} {g : Nat} {t : TypeId} {cs : Array Value} (h : Blk w g t cs) : g < w.heap.size := (Array.getElem?_eq_some_iff.1 h).1
theorem Blk.alloc {w : World} {g : Nat} {t : TypeId} {cs : Array Value} (h : Blk w g t cs) (o : Obj) : Blk (w.alloc o) g t cs := (Below.heap_alloc w o g h.lt).trans h
theorem Blk.below {B : Nat} {w w' : World} {g : Nat} {t : TypeId} {cs : Array Value} (h : Blk w g t cs) (hb : Below B w w') (hg : g < B) : Blk w' g t cs := (hb.block g hg).trans h
theorem Blk.set {w : World} {g : Nat} {t : TypeId} {cs : Array Value} (h : Blk w g t cs) (i : Nat) (u : Value) : Blk (w.setCell ⟨g, i, none⟩ u) g t (cs.setIfInBounds i u) := heap_setCell_same w g i cs t u h
theorem Blk.set_far {w : World} {g g' i : Nat} {t : TypeId} {cs : Array Value} {u : Value} (h : Blk w g t cs) (hne : g ≠ g') : Blk (w.setCell ⟨g', i, none⟩ u) g t cs := (Below.heap_setCell w ⟨g', i, none⟩ u g hne).trans h
/-! ### Bits, and rows that are filled from the left -/
theorem bit_of (x : BitVec 64) (k : Nat) : (bits .and .u64 ((x.toNat : Int) / 2 ^ k) 1 == 1) = x.getLsbD k := by
 have hx := x.isLt
 have hd : x.toNat / 2 ^ k ≤ x.toNat := Nat.div_le_self _ _
 have e : ((x.toNat : Int) / 2 ^ k) = ((x.toNat / 2 ^ k : Nat) : Int) := by push_cast; rfl
 rw [e, BitVec.getLsbD, Nat.testBit_eq_decide_div_mod_eq]
 generalize x.toNat / 2 ^ k = q at *
 rw [and_one_u64 _ (by omega) (by omega), Bool.eq_iff_iff]; simp; omega
theorem Rd_lit (w : World) (t : TypeId) (cs : Array Value) : Rd (w.alloc (.cells cs t)) (some ⟨w.heap.size, 0, none⟩) cs.toList := by
 refine .inr ⟨w.heap.size, 0, rfl, by simp, fun j u hj => ?_⟩
 rw [Nat.zero_add, cell_of_row _ w.heap.size j _ _ (0, 0) (heap_alloc_new w _)]
 simpa using hj
theorem Rd_of_own {w : World} {base : Nat} {e : TypeId} {size : Nat} {A : Option Addr} {n c : Nat} {xs : List Value} (h : w.ownsRow base e size (.slice A n c) n xs) : Rd w A xs := by
 obtain ⟨A', c', hv, hr⟩ := own_shape h
 injection hv with h1 h2 h3
 rw [h1]; exact hr
theorem wpList_make1 {P : Program} (w : World) {ops : Array Oper} {rest : List Oper} {o : Oper} {a : Act} {Q : Exit → Act → World → Prop}
  (hg : o.guard = none) (l c : Operand) (t : TypeId) (hop : o.op = Op.makeSlice t l c)
  (base : Nat) (e : TypeId) (z : Value) (bytes : Nat) (h1 : P.underlying t = some (.slice e)) (h2 : (P.info? e).map (fun i => (i.zero, i.size, i.bytes)) = some (some z, 1, bytes)) (hz : z.cells = #[z])
  (kl kc : IntKind) (L C : Int) (n : Nat) (hl : a.eval l = .int kl L) (hc : a.eval c = .int kc C) (hL : L = (n : Int)) (hC : C = (n : Int)) (b2 : bytes * n ≤ 281474976710656) (b3 : n ≤ 9223372036854775807) (b4 : base ≤ w.heap.size)
  (hK : ∀ w', w'.ownsRow base e 1 (.slice (some ⟨w.heap.size, 0, none⟩) n n) n (List.replicate n z) → w.grownBy w' none → wpList P ops Q rest (a.put o.dst (.slice (some ⟨w.heap.size, 0, none⟩) n n)) w') :
  wpList P ops Q (o :: rest) a w := by
 obtain ⟨i, hi, hz0, hz1, hz2⟩ := info_parts h2
 refine wpList_make_full w hg l c t hop base e i z 1 h1 hi hz0 hz1 kl kc L C n hl hc hL hC (by rw [hz2]; exact b2) (by unfold maxLen; omega) b4 ?_
 intro w' ho hgr
 rw [hz, toList_madeCells_one, Nat.mul_one] at ho
 exact hK w' ho hgr
theorem flatMap_get {α : Type} (f : α → List Value) (s : Nat) (l : List α) (hf : ∀ x ∈ l, (f x).length = s) (k : Nat) (h : k < l.length) (j : Nat) (hj : j < s) : (l.flatMap f)[k * s + j]? = (f l[k])[j]? := by
 induction l generalizing k with
 | nil => simp at h
 | cons x l ih =>
  have hx := hf x List.mem_cons_self
  rw [List.flatMap_cons]
  cases k with
  | zero =>
   rw [List.getElem?_append_left (by rw [hx]; omega)]
   simp
  | succ k =>
   rw [List.getElem?_append_right (by rw [hx, Nat.add_mul]; omega), hx]
   have e : (k + 1) * s + j - s = k * s + j := by rw [Nat.add_mul]; omega
   rw [e, ih (fun y hy => hf y (List.mem_cons_of_mem _ hy)) k (by simpa using h)]
   simp
open Go.WideElems
theorem Tryz.infoBool : (Tryz.prog.info? 4).map (fun i => (i.zero, i.size, i.bytes)) = some (some (.bool false), 1, 1) := by kernel_rfl
theorem Tryz.infoU64 : (Tryz.prog.info? 212).map (fun i => (i.zero, i.size, i.bytes)) = some (some (.int .u64 0), 1, 8) := by kernel_rfl
theorem Tryz.infoItem : (Tryz.prog.info? 251).map (fun i => (i.zero, i.size, i.bytes)) = some (some (.agg #[.bool false, .int .u64 0, .int .u64 0, .int .u64 0, .int .u64 0]), 5, 40) := by kernel_rfl
theorem Tryz.cellsU64 : Tryz.prog.cellsOf 212 = 1 := by kernel_rfl
theorem w64_eq (x y : BitVec 64) : ((x.toNat : Int) == (y.toNat : Int)) = decide (x = y) := by
 by_cases h : x = y
 ·subst h; simp
 ·have : x.toNat ≠ y.toNat := fun e => h (BitVec.eq_of_toNat_eq e)
  simp [h]; omega
theorem Tryz.eqSet (x y : BSet) (W : World) : (Op.equalIn 10000 249 (.agg #[w64 x.w0, w64 x.w1, w64 x.w2, w64 x.w3]) (.agg #[w64 y.w0, w64 y.w1, w64 y.w2, w64 y.w3])).run Tryz.prog W = .ok (x == y) W := by
 obtain ⟨i0, hi, hz0, hz1, hz2⟩ := info_parts Tryz.infoU64
 obtain ⟨x0, x1, x2, x3⟩ := x
 obtain ⟨y0, y1, y2, y3⟩ := y
 have hp : ∀ (cs : Array Value) (k : Nat) (v : Value), cs[k]? = some v → (part 212 cs k).run Tryz.prog W = .ok v W := by
  intro cs k v h
  simp [part, h]
 have he : ∀ a b : BitVec 64, (Op.equalIn 9999 212 (w64 a) (w64 b)).run Tryz.prog W = .ok (decide (a = b)) W := by
  intro a b
  rw [← w64_eq]
  exact run_equalIn_int W 9998 212 .u64 .u64 _ _ Tryz.underlying212
 rw [run_equalIn_array W 9999 _ _ Tryz.underlying249 hi]
 have a0 := hp #[w64 x0, w64 x1, w64 x2, w64 x3] (0 * 1) (w64 x0) rfl
 have a1 := hp #[w64 x0, w64 x1, w64 x2, w64 x3] (1 * 1) (w64 x1) rfl
 have a2 := hp #[w64 x0, w64 x1, w64 x2, w64 x3] (2 * 1) (w64 x2) rfl
 have a3 := hp #[w64 x0, w64 x1, w64 x2, w64 x3] (3 * 1) (w64 x3) rfl
 have b0 := hp #[w64 y0, w64 y1, w64 y2, w64 y3] (0 * 1) (w64 y0) rfl
 have b1 := hp #[w64 y0, w64 y1, w64 y2, w64 y3] (1 * 1) (w64 y1) rfl
 have b2 := hp #[w64 y0, w64 y1, w64 y2, w64 y3] (2 * 1) (w64 y2) rfl
 have b3 := hp #[w64 y0, w64 y1, w64 y2, w64 y3] (3 * 1) (w64 y3) rfl
 have hd : ((⟨x0, x1, x2, x3⟩ : BSet) == ⟨y0, y1, y2, y3⟩) = (decide (x0 = y0) && (decide (x1 = y1) && (decide (x2 = y2) && decide (x3 = y3)))) := by
  rw [Bool.eq_iff_iff]; simp
 rw [hd]
 have e0 := he x0 y0
 have e1 := he x1 y1
 have e2 := he x2 y2
 have e3 := he x3 y3
 clear hp he hd
 generalize decide (x0 = y0) = p0 at *
 generalize decide (x1 = y1) = p1 at *
 generalize decide (x2 = y2) = p2 at *
 generalize decide (x3 = y3) = p3 at *
 simp only [show List.range 4 = [0, 1, 2, 3] from rfl, Op.eqItems, Sem.run_bind, Tryz.cellsU64, a0, b0, e0, Result.andThen_ok]
 cases p0
 ·rfl
 simp only [Bool.not_true, Bool.false_eq_true, if_false, Bool.true_and, Sem.run_bind, a1, b1, e1, Result.andThen_ok]
 cases p1
 ·rfl
 simp only [Bool.not_true, Bool.false_eq_true, if_false, Bool.true_and, Sem.run_bind, a2, b2, e2, Result.andThen_ok]
 cases p2
 ·rfl
 simp only [Bool.not_true, Bool.false_eq_true, if_false, Bool.true_and, Sem.run_bind, a3, b3, e3, Result.andThen_ok]
 cases p3 <;> rfl
def BSet.word (s : BSet) (i : Nat) : BitVec 64 := match i with | 0 => s.w0 | 1 => s.w1 | 2 => s.w2 | _ => s.w3
def BSet.has (s : BSet) (b : Nat) : Bool := (s.word (b / 64)).getLsbD (b % 64)
def stepRun : Bool → List Bool → List Bool
 | _, [] => []
 | p, a :: r => (a || p) :: stepRun (a || p) r
def stepSet (x : BSet) (s : List UInt8) (at_ : List Bool) : List Bool := false :: List.zipWith (fun a c => a && x.has c.toNat) at_ s
def stepM (x : Item) (s : List UInt8) (at_ : List Bool) : List Bool := if x.run then stepRun false at_ else stepSet x.set s at_
def endsM (l : List Item) (s : List UInt8) (at_ : List Bool) : List Bool := l.foldl (fun a x => stepM x s a) at_
theorem stepRun_length (p : Bool) (l : List Bool) : (stepRun p l).length = l.length := by
 induction l generalizing p with
 | nil => rfl
 | cons a r ih => simp [stepRun, ih]
theorem stepM_length (x : Item) (s : List UInt8) (l : List Bool) (h : l.length = s.length + 1) : (stepM x s l).length = s.length + 1 := by
 unfold stepM; split
 ·rw [stepRun_length, h]
 ·simp [stepSet, h]
theorem endsM_length (l : List Item) (s : List UInt8) (a : List Bool) (h : a.length = s.length + 1) : (endsM l s a).length = s.length + 1 := by
 induction l generalizing a with
 | nil => exact h
 | cons x l ih => exact ih _ (stepM_length x s a h)
theorem stepRun_get (p : Bool) (l : List Bool) (i : Nat) (h : i < l.length) : (stepRun p l)[i]? = some (l[i] || (if i = 0 then p else (stepRun p l).getD (i - 1) false)) := by
 induction l generalizing p i with
 | nil => simp at h
 | cons a r ih =>
  cases i with
  | zero => simp [stepRun]
  | succ i =>
   have := ih (a || p) i (by simpa using h)
   simp only [stepRun, List.getElem?_cons_succ, this]
   cases i <;> simp [List.getD]
theorem stepM_run (x : Item) (s : List UInt8) (l : List Bool) (hx : x.run = true) (i : Nat) (h : i < l.length) :
  (stepM x s l)[i]? = some (l[i] || (decide (0 < i) && (stepM x s l).getD (i - 1) false)) := by
 unfold stepM; rw [if_pos hx, stepRun_get false l i h]
 cases i <;> simp
theorem stepM_set0 (x : Item) (s : List UInt8) (l : List Bool) (hx : x.run = false) : (stepM x s l)[0]? = some false := by
 unfold stepM; rw [if_neg (by simp [hx])]; rfl
theorem stepM_set (x : Item) (s : List UInt8) (l : List Bool) (hx : x.run = false) (i : Nat) (h : i < s.length) (hl : l.length = s.length + 1) :
  (stepM x s l)[i + 1]? = some (l[i] && x.set.has (s[i]).toNat) := by
 unfold stepM; rw [if_neg (by simp [hx])]
 simp [stepSet, List.getElem?_zipWith, List.getElem?_eq_getElem h, List.getElem?_eq_getElem (show i < l.length by omega)]
theorem endsM_succ (l : List Item) (s : List UInt8) (a : List Bool) (k : Nat) (h : k < l.length) : endsM (l.take (k + 1)) s a = stepM l[k] s (endsM (l.take k) s a) := by
 unfold endsM
 rw [List.take_succ_eq_append_getElem h, List.foldl_append]; rfl
def placesM (n : Nat) (one : Int) (all : Bool) : List Bool := (List.range n).map fun (i : Nat) => all || ((i : Int) == one)
def boolCells (l : List Bool) : List Value := l.map Value.bool
def intCells (l : List Int) : List Value := l.map (Value.int .i64)
theorem intCells_get (l : List Int) (k : Nat) (h : k < l.length) : (intCells l)[k]? = some (.int .i64 l[k]) := by simp [intCells, h]
theorem intCells_length (l : List Int) : (intCells l).length = l.length := by simp [intCells]
def goodM (l : List Item) : Bool := l.all (fun x => !(x.run && x.set != BSet.zero)) && decide (l.length < 61)
/-! ### Bytes of sets -/
def byteCells (l : List UInt8) : List Value := l.map fun b => .int .u8 (b.toNat : Int)
theorem byteCells_length (l : List UInt8) : (byteCells l).length = l.length := by simp [byteCells]
def leastM (l : List Item) : Nat := (l.filter fun x => !x.run).length
/-! ### Sets out of flags, as the reference makes them -/
def b2n (b : Bool) : Nat := if b then 1 else 0
def accW (fl : List Bool) (i : Nat) : Nat → Nat
 | 0 => 0
 | m + 1 => 2 * accW fl i m + b2n (fl.getD (64 * i + (63 - m)) false)
theorem accW_lt (fl : List Bool) (i m : Nat) : accW fl i m < 2 ^ m := by
 induction m with
 | zero => simp [accW]
 | succ m ih =>
  have : b2n (fl.getD (64 * i + (63 - m)) false) ≤ 1 := by unfold b2n; split <;> omega
  simp only [accW, Nat.pow_succ]; omega
theorem accW_bit (fl : List Bool) (i m k : Nat) (hk : k < m) (hm : m ≤ 64) : (accW fl i m).testBit k = fl.getD (64 * i + (64 - m) + k) false := by
 induction m generalizing k with
 | zero => omega
 | succ m ih =>
  have hb : (b2n (fl.getD (64 * i + (63 - m)) false)) < 2 := by unfold b2n; split <;> omega
  cases k with
  | zero =>
   simp only [accW, Nat.testBit_zero, Nat.add_zero]
   rw [show 64 * i + (64 - (m + 1)) = 64 * i + (63 - m) from by omega]
   unfold b2n
   cases fl.getD (64 * i + (63 - m)) false <;> simp <;> omega
  | succ k =>
   rw [Nat.testBit_succ, show accW fl i (m + 1) / 2 = accW fl i m from by simp only [accW]; omega, ih k (by omega) (by omega)]
   congr 1; omega
def makeM (fl : List Bool) : BSet := ⟨BitVec.ofNat 64 (accW fl 0 64), BitVec.ofNat 64 (accW fl 1 64), BitVec.ofNat 64 (accW fl 2 64), BitVec.ofNat 64 (accW fl 3 64)⟩
theorem ofNat_toNat64 (n : Nat) (h : n < 2 ^ 64) : (BitVec.ofNat 64 n).toNat = n := by rw [BitVec.toNat_ofNat]; exact Nat.mod_eq_of_lt h
def flagsM (x : BSet) : List Bool := (List.range 256).map x.has
theorem wp_region_tail {P : Program} {id : Nat} {Q : Exit → Act → World → Prop} {a : Act} {w : World} {l : List Oper} (n : Nat) (hm : P.follows .mixedOrders = true) (hB : Region.lexTailB .any l.toArray n = true)
  (h : wpStill P l.toArray (w.drewN 1) (fun a' => wpList P l.toArray Q (l.drop n) a' (w.drewN 1)) (l.take n) a) : (Code.region id l.toArray true).wp P Q a w :=
 wp_region_still_tail n hm hB h
theorem drewN_below (w : World) (n : Nat) : Below w.heap.size w (w.drewN n) := ⟨rfl, rfl, rfl, Nat.le_refl _, fun _ _ => rfl⟩
theorem below_drewN {w w' : World} {n : Nat} (h : Below (w.drewN n).heap.size (w.drewN n) w') : Below w.heap.size w w' := (drewN_below w n).trans h
structure Keep (F : Nat → Prop) (w w' : World) : Prop where
 os : w'.os = w.os
 tape : w'.tape = w.tape
 output : w'.output = w.output
 size : w.heap.size ≤ w'.heap.size
 block : ∀ k, k < w.heap.size → ¬ F k → w'.heap[k]? = w.heap[k]?
theorem Keep.refl (F : Nat → Prop) (w : World) : Keep F w w := ⟨rfl, rfl, rfl, Nat.le_refl _, fun _ _ _ => rfl⟩
theorem Keep.mono {F G : Nat → Prop} {w w' : World} (h : Keep F w w') (hfg : ∀ k, k < w.heap.size → F k → G k) : Keep G w w' :=
 ⟨h.os, h.tape, h.output, h.size, fun k hk hg => h.block k hk (fun hf => hg (hfg k hk hf))⟩
theorem Keep.trans {F G : Nat → Prop} {w w1 w2 : World} (h : Keep F w w1) (h2 : Keep G w1 w2) (hg : ∀ k, G k → F k ∨ w.heap.size ≤ k) : Keep F w w2 :=
 ⟨h2.os.trans h.os, h2.tape.trans h.tape, h2.output.trans h.output, Nat.le_trans h.size h2.size, fun k hk hf =>
  (h2.block k (Nat.lt_of_lt_of_le hk h.size) (fun hgk => (hg k hgk).elim hf (fun hle => by omega))).trans (h.block k hk hf)⟩
theorem Keep.of_below {F : Nat → Prop} {w w' : World} (h : Below w.heap.size w w') : Keep F w w' := ⟨h.os, h.tape, h.output, h.size, fun k hk _ => h.block k hk⟩
theorem Keep.below {F : Nat → Prop} {w w' : World} {B : Nat} (h : Keep F w w') (hB : B ≤ w.heap.size) (hf : ∀ k, F k → B ≤ k) : Below B w w' :=
 ⟨h.os, h.tape, h.output, h.size, fun k hk => h.block k (by omega) (fun hfk => by have := hf k hfk; omega)⟩
theorem Keep.setCell (F : Nat → Prop) (w : World) (a : Addr) (u : Value) (h : F a.block) : Keep F w (w.setCell a u) :=
 ⟨rfl, rfl, rfl, by simp, fun k _ hf => Below.heap_setCell w a u k (fun e => hf (by rw [e]; exact h))⟩
theorem Keep.alloc (F : Nat → Prop) (w : World) (o : Obj) : Keep F w (w.alloc o) := ⟨rfl, rfl, rfl, by simp, fun k hk _ => Below.heap_alloc w o k hk⟩
theorem Keep.drewN (F : Nat → Prop) (w : World) (n : Nat) : Keep F w (w.drewN n) := ⟨rfl, rfl, rfl, Nat.le_refl _, fun _ _ _ => rfl⟩
theorem Keep.grown {F : Nat → Prop} {w w' : World} {row : Option Nat} (h : w.grownBy w' row) (hr : ∀ k, row = some k → F k) : Keep F w w' :=
 ⟨h.os, h.tape, h.output, h.size, fun k hk hf => h.block k hk (fun e => hf (hr k e.symm))⟩
theorem Keep.cell {F : Nat → Prop} {w w' : World} (h : Keep F w w') {b o : Nat} (hb : b < w.heap.size) (hf : ¬ F b) : w'.cell? ⟨b, o, none⟩ = w.cell? ⟨b, o, none⟩ := World.cell?_of_block (h.block b hb hf)
theorem Keep.blk {F : Nat → Prop} {w w' : World} {g : Nat} {t : TypeId} {cs : Array Value} (h : Keep F w w') (hb : Blk w g t cs) (hf : ¬ F g) : Blk w' g t cs := (h.block g hb.lt hf).trans hb
theorem Keep.rd {F : Nat → Prop} {w w' : World} {A : Option Addr} {xs : List Value} (h : Keep F w w') (hr : Rd w A xs) (hf : ∀ a, A = some a → ¬ F a.block) : Rd w' A xs := by
 rcases hr with hr | ⟨b, off, rfl, hlt, hc⟩
 ·exact .inl hr
 ·exact .inr ⟨b, off, rfl, Nat.lt_of_lt_of_le hlt h.size, fun j u hj => (h.cell hlt (hf _ rfl)).trans (hc j u hj)⟩
theorem Keep.own {F : Nat → Prop} {w w' : World} {base : Nat} {e : TypeId} {size : Nat} {v : Value} {n : Nat} {xs : List Value} (h : Keep F w w') (ho : w.ownsRow base e size v n xs) (hf : ∀ k, v.ownBlock = some k → ¬ F k) : w'.ownsRow base e size v n xs := by
 have hl := ho.lt
 refine ⟨ho.1, ?_⟩
 rcases ho.2 with hn | ⟨g, cap, cur, rfl, hb, hgg, rest⟩
 ·exact .inl hn
 ·exact .inr ⟨g, cap, cur, rfl, hb, (h.block g (hl g rfl).2 (hf g rfl)).trans hgg, rest⟩
theorem blk_ne {w : World} {base g : Nat} {t e : TypeId} {cs : Array Value} {size : Nat} {v : Value} {n : Nat} {xs : List Value} (hb : Blk w g t cs) (h : w.ownsRow base e size v n xs) (hne : e ≠ t) : v.ownBlock ≠ some g := by
 intro hv
 rcases h.2 with ⟨rfl, _⟩ | ⟨g', cap, cur, rfl, _, hg, _⟩
 ·simp [Value.ownBlock] at hv
 ·simp only [Value.ownBlock, Option.some.injEq] at hv
  subst hv
  unfold Blk at hb
  rw [hb] at hg
  injection hg with hg
  injection hg with _ ht
  exact hne ht.symm
theorem own_kept_set {w : World} {base : Nat} {e : TypeId} {size : Nat} {v : Value} {n : Nat} {xs : List Value} (h : w.ownsRow base e size v n xs) (a : Addr) (u : Value) (hne : v.ownBlock ≠ some a.block) : (w.setCell a u).ownsRow base e size v n xs :=
 h.kept (row := some a.block) ⟨rfl, rfl, rfl, by simp, fun q _ hq => Below.heap_setCell w a u q (fun e => hq (by rw [e]))⟩ (.inr hne)
theorem own_cut {w : World} {base : Nat} {e : TypeId} {size : Nat} {A : Option Addr} {n c : Nat} {xs : List Value} (h : w.ownsRow base e size (.slice A n c) n xs) (k : Nat) (hk : k ≤ n) (h0 : 0 < n) : w.ownsRow base e size (.slice A k c) k (xs.take (k * size)) := by
 have hks : k * size ≤ n * size := Nat.mul_le_mul_right _ hk
 refine ⟨by rw [List.length_take, h.1]; omega, ?_⟩
 rcases h.2 with ⟨hv, hn⟩ | ⟨g, cap, cur, hv, hb, hg, hn, hc, hs, ht⟩
 ·omega
 ·injection hv with h1 h2 h3
  subst h1; subst h3
  exact .inr ⟨g, c, cur, rfl, hb, hg, by omega, hc, hs, by rw [← ht, List.take_take]; congr 1; omega⟩
theorem run_append_fresh {P : Program} (w : World) (base : Nat) (t ty e : TypeId) (i : TypeInfo) (z : Value) (size bytes : Nat) (ht : P.underlying t = some (.slice e)) (hi : P.info? e = some i) (hz : i.zero = some z)
  (hsize : i.size = size) (hby : i.bytes = bytes) (hzs : z.cells.size = size) (hsz : 0 < size)
  (v : Value) (n : Nat) (xs : List Value) (hown : w.ownsRow base e size v n xs)
  (a : Addr) (m c : Nat) (news : List Value) (hl : news.length = m * size) (hnews : ∀ j u, news[j]? = some u → w.cell? (a.add j) = some u) (h1 : ∀ u ∈ news, u.oneCell' = true)
  (h63 : n + m ≤ maxLen) (hbytes : (n + m) * bytes ≤ 140737488355328) {v' : Value} {w' : World} (hrun : (Builtin.append_ #[t, t] ty #[v, .slice (some a) m c]).run P w = .ok v' w') :
  ∀ k, v'.ownBlock = some k → v.ownBlock = some k ∨ w.heap.size ≤ k := by
 subst hsize
 subst hby
 have hsmall : n + m ≤ 9223372036854775807 := by simp only [maxLen] at h63; omega
 rcases hown.2 with ⟨rfl, rfl⟩ | ⟨g, cap, cur, rfl, hbg, hg, hnc, hcm, hcs, htake⟩
 ·by_cases hm : m = 0
  ·subst hm
   have hn : news = [] := List.eq_nil_of_length_eq_zero (by simpa using hl)
   subst hn
   have : (Builtin.append_ #[t, t] ty #[.slice none 0 0, .slice (some a) 0 c]).run P w = .ok (.slice none 0 0) w := by
    simp [Builtin.append_, run_underlying ht, sizeOf, typeInfo, hi, Builtin.lenOf, Builtin.firstCells, loadCells, loadCellsFrom]
   rw [this] at hrun
   injection hrun with e1 e2
   subst e1
   intro k hk; simp [Value.ownBlock] at hk
  ·have hr := run_append_nil (P := P) w t ty e i z ht hi hz a m c news hl hnews (by omega) (by omega) (by have hb := hbytes; simp only [Nat.zero_add] at hb; omega)
   rw [hr] at hrun
   injection hrun with e1 e2
   subst e1
   intro k hk; simp [Value.ownBlock] at hk; right; omega
 ·by_cases hroom : n + m ≤ cap
  ·have hfit : n * i.size + news.length ≤ cur.size := by rw [hl, hcs, ← Nat.add_mul]; exact Nat.mul_le_mul_right _ hroom
   have hr := run_append_room (P := P) w t ty e i ht hi g n cap cur hg a m c news hl hnews h1 hroom hfit
   rw [hr] at hrun
   injection hrun with e1 e2
   subst e1
   intro k hk; left; simpa [Value.ownBlock] using hk
  ·have holds : ∀ j u, xs[j]? = some u → w.cell? ((⟨g, 0, none⟩ : Addr).add j) = some u := hown.cells (g := g) rfl
   have hr := run_append_grow (P := P) w t ty e i z ht hi hz ⟨g, 0, none⟩ n cap xs hown.1 holds a m c news hl hnews (by omega) (by omega) (growslice_fits (by omega) hbytes)
   rw [hr] at hrun
   injection hrun with e1 e2
   subst e1
   intro k hk; simp [Value.ownBlock] at hk; right; omega
theorem wpList_appendK {P : Program} (w : World) {ops : Array Oper} {rest : List Oper} {o : Oper} {a : Act} {Q : Exit → Act → World → Prop} (hgd : o.guard = none) (s x : Operand) (t : TypeId)
  (ho : o.op = .call { callee := .builtin .append, args := #[s, x], argTypes := #[t, t] })
  (base : Nat) (e : TypeId) (z : Value) (size bytes : Nat) (ht : P.underlying t = some (.slice e)) (hi : (P.info? e).map (fun i => (i.zero, i.size, i.bytes)) = some (some z, size, bytes))
  (hzs : z.cells.size = size) (hsz : 0 < size)
  (v : Value) (n : Nat) (xs : List Value) (hs : a.eval s = v) (hown : w.ownsRow base e size v n xs)
  (ad : Addr) (m c : Nat) (news : List Value) (hx : a.eval x = .slice (some ad) m c) (hl : news.length = m * size) (hnews : ∀ j u, news[j]? = some u → w.cell? (ad.add j) = some u) (h1 : ∀ u ∈ news, u.oneCell' = true)
  (hbytes : (n + m) * bytes ≤ 140737488355328) (hby : 1 ≤ bytes) (hbase : base ≤ w.heap.size)
  (h : ∀ A c' w', w'.ownsRow base e size (.slice A (n + m) c') (n + m) (xs ++ news) → Keep (fun k => v.ownBlock = some k) w w' → (∀ k, (Value.slice A (n + m) c').ownBlock = some k → v.ownBlock = some k ∨ w.heap.size ≤ k) → wpList P ops Q rest (a.put o.dst (.slice A (n + m) c')) w') :
  wpList P ops Q (o :: rest) a w := by
 obtain ⟨i, hi, hz, hz1, hz2⟩ := info_parts hi
 have hn : n + m ≤ 140737488355328 := Nat.le_trans (Nat.le_mul_of_pos_right _ hby) hbytes
 have h63 : n + m ≤ maxLen := by unfold maxLen; omega
 obtain ⟨v', w', hr, h2, h3, h4⟩ := run_append_own (P := P) w base t o.type e i z size bytes ht hi hz hz1 hz2 hzs hsz v n xs hown ad m c news hl hnews h1 h63 hbytes hbase
 have hfr := run_append_fresh w base t o.type e i z size bytes ht hi hz hz1 hz2 hzs hsz v n xs hown ad m c news hl hnews h1 h63 hbytes hr
 refine wpList_plain hgd fun _ hK => ?_
 unfold Oper.wp execOp
 simp only [ho, resolve, invoke, builtin, Sem.run_bind, Sem.run_pure, Result.andThen_ok, List.map_toArray, List.map_cons, List.map_nil, hs, hx, hr]
 obtain ⟨A, c', rfl, _⟩ := own_shape h2
 exact hK _ _ (h A c' w' h2 (Keep.grown h3 (fun k hk => hk)) hfr)
theorem wpList_append1K {P : Program} (w : World) {ops : Array Oper} {rest : List Oper} {o : Oper} {a : Act} {Q : Exit → Act → World → Prop} (hgd : o.guard = none) (s x : Operand) (t : TypeId)
  (ho : o.op = .call { callee := .builtin .append, args := #[s, x], argTypes := #[t, t] })
  (base : Nat) (e : TypeId) (z : Value) (size bytes : Nat) (ht : P.underlying t = some (.slice e)) (hi : (P.info? e).map (fun i => (i.zero, i.size, i.bytes)) = some (some z, size, bytes))
  (hzs : z.cells.size = size) (hsz : 0 < size)
  (v : Value) (n : Nat) (xs : List Value) (hs : a.eval s = v) (hown : w.ownsRow base e size v n xs)
  (c : Nat) (cs : List Value) (hx : a.eval x = .slice (some ⟨w.heap.size, 0, none⟩) 1 c) (hl : cs.length = size) (h1 : cs.all Value.oneCell' = true)
  (hbytes : (n + 1) * bytes ≤ 140737488355328) (hby : 1 ≤ bytes) (hbase : base ≤ w.heap.size)
  (h : ∀ g c' w', w'.ownsRow base e size (.slice (some ⟨g, 0, none⟩) (n + 1) c') (n + 1) (xs ++ cs) → Keep (fun k => v.ownBlock = some k) w w' → (v.ownBlock = some g ∨ w.heap.size ≤ g) → wpList P ops Q rest (a.put o.dst (.slice (some ⟨g, 0, none⟩) (n + 1) c')) w') :
  wpList P ops Q (o :: rest) a (w.alloc (.cells cs.toArray e)) := by
 refine wpList_appendK _ hgd s x t ho base e z size bytes ht hi hzs hsz v n xs hs (hown.alloc _) ⟨w.heap.size, 0, none⟩ 1 c cs hx (by simpa using hl) cells_new
  (fun u hu => List.all_eq_true.1 h1 u hu) hbytes hby (by simp; omega) ?_
 intro A c' w' hown' hk hf
 obtain ⟨g, rfl⟩ : ∃ g, A = some ⟨g, 0, none⟩ := by
  rcases hown'.2 with ⟨hv, h0⟩ | ⟨g, cap, cur, hv, _⟩
  ·omega
  ·injection hv with h1 _ _; exact ⟨g, h1⟩
 refine h g c' w' hown' ((Keep.alloc (fun k => v.ownBlock = some k) w _).trans hk (fun _ => .inl)) ?_
 rcases hf g rfl with h | h
 ·exact .inl h
 ·right; simp at h; omega
def matchR : List Item → List UInt8 → Bool
 | [], s => s.isEmpty
 | x :: l, s => if x.run then (List.range (s.length + 1)).any (fun i => matchR l (s.drop i)) else
   match s with
   | [] => false
   | c :: r => x.set.has c.toNat && matchR l r
def sub (s : List UInt8) (i j : Nat) : List UInt8 := (s.drop i).take (j - i)
theorem stepRun_spec (p : Bool) (L : List Bool) (i : Nat) : (stepRun p L).getD i false = true ↔ i < L.length ∧ (p = true ∨ ∃ k, k ≤ i ∧ L.getD k false = true) := by
 induction L generalizing p i with
 | nil => simp [stepRun]
 | cons a r ih =>
  cases i with
  | zero =>
   simp only [stepRun, List.getD_cons_zero, Bool.or_eq_true, List.length_cons]
   constructor
   ·rintro (h | h)
    ·exact ⟨by omega, .inr ⟨0, by omega, by simpa using h⟩⟩
    ·exact ⟨by omega, .inl h⟩
   ·rintro ⟨_, h | ⟨k, hk, h⟩⟩
    ·exact .inr h
    ·obtain rfl : k = 0 := by omega
     exact .inl (by simpa using h)
  | succ i =>
   simp only [stepRun, List.getD_cons_succ, ih, List.length_cons, Bool.or_eq_true]
   constructor
   ·rintro ⟨h1, (h | h) | ⟨k, hk, h⟩⟩
    ·exact ⟨by omega, .inr ⟨0, by omega, by simpa using h⟩⟩
    ·exact ⟨by omega, .inl h⟩
    ·exact ⟨by omega, .inr ⟨k + 1, by omega, by simpa using h⟩⟩
   ·rintro ⟨h1, h | ⟨k, hk, h⟩⟩
    ·exact ⟨by omega, .inl (.inr h)⟩
    ·cases k with
     | zero => exact ⟨by omega, .inl (.inl (by simpa using h))⟩
     | succ k => exact ⟨by omega, .inr ⟨k, by omega, by simpa using h⟩⟩
theorem sub_self (s : List UInt8) (j : Nat) : sub s j j = [] := by simp [sub]
theorem sub_length (s : List UInt8) (i j : Nat) (h : j ≤ s.length) : (sub s i j).length = j - i := by simp [sub]; omega
theorem sub_drop (s : List UInt8) (i j k : Nat) : (sub s i j).drop k = sub s (i + k) j := by
 unfold sub
 rw [List.drop_take, List.drop_drop]; congr 1; omega
theorem sub_cons (s : List UInt8) (i j : Nat) (h : i < j) (hj : j ≤ s.length) : sub s i j = s[i] :: sub s (i + 1) j := by
 unfold sub
 rw [List.drop_eq_getElem_cons (by omega), show j - i = (j - (i + 1)) + 1 from by omega, List.take_succ_cons]
theorem ends_spec (l : List Item) (s : List UInt8) (a : List Bool) (ha : a.length = s.length + 1) (j : Nat) (hj : j ≤ s.length) :
  (endsM l s a).getD j false = true ↔ ∃ i, i ≤ j ∧ a.getD i false = true ∧ matchR l (sub s i j) = true := by
 induction l generalizing a with
 | nil =>
  simp only [endsM, List.foldl_nil, matchR, List.isEmpty_iff]
  constructor
  ·intro h; exact ⟨j, Nat.le_refl _, h, sub_self s j⟩
  ·rintro ⟨i, hi, h, e⟩
   have := sub_length s i j hj
   rw [e] at this; simp at this
   obtain rfl : i = j := by omega
   exact h
 | cons x l ih =>
  have hl := stepM_length x s a ha
  rw [show endsM (x :: l) s a = endsM l s (stepM x s a) from rfl, ih _ hl]
  cases hr : x.run
  ·constructor
   ·rintro ⟨i, hi, h, hm⟩
    cases i with
    | zero => rw [List.getD, stepM_set0 x s a hr] at h; simp at h
    | succ i =>
     rw [List.getD, stepM_set x s a hr i (by omega) ha] at h
     simp only [Option.getD_some, Bool.and_eq_true] at h
     refine ⟨i, by omega, ?_, ?_⟩
     ·rw [List.getD, List.getElem?_eq_getElem (by omega)]; exact h.1
     ·rw [sub_cons s i j (by omega) hj]
      simp [matchR, hr, h.2, hm]
   ·rintro ⟨i, hi, h, hm⟩
    by_cases hij : i < j
    ·rw [sub_cons s i j hij hj] at hm
     simp only [matchR, hr, Bool.false_eq_true, if_false, Bool.and_eq_true] at hm
     refine ⟨i + 1, by omega, ?_, hm.2⟩
     rw [List.getD, stepM_set x s a hr i (by omega) ha]
     rw [List.getD, List.getElem?_eq_getElem (by omega)] at h
     simp only [Option.getD_some] at h ⊢
     rw [h, hm.1]; rfl
    ·obtain rfl : i = j := by omega
     rw [sub_self] at hm
     simp [matchR, hr] at hm
  ·have hst : ∀ i, (stepM x s a).getD i false = true ↔ i < a.length ∧ ∃ k, k ≤ i ∧ a.getD k false = true := by
    intro i
    rw [stepM, if_pos hr, stepRun_spec]; simp
   constructor
   ·rintro ⟨i, hi, h, hm⟩
    obtain ⟨_, k, hk, hak⟩ := (hst i).1 h
    refine ⟨k, by omega, hak, ?_⟩
    simp only [matchR, hr, if_true, List.any_eq_true, List.mem_range]
    exact ⟨i - k, by rw [sub_length s k j hj]; omega, by rw [sub_drop, show k + (i - k) = i from by omega]; exact hm⟩
   ·rintro ⟨k, hk, hak, hm⟩
    simp only [matchR, hr, if_true, List.any_eq_true, List.mem_range] at hm
    obtain ⟨d, hd, hm⟩ := hm
    rw [sub_length s k j hj] at hd
    rw [sub_drop] at hm
    exact ⟨k + d, by omega, (hst _).2 ⟨by omega, k, by omega, hak⟩, hm⟩
theorem placesM_get (n : Nat) (one : Int) (all : Bool) (i : Nat) : (placesM n one all).getD i false = true ↔ i < n ∧ (all = true ∨ (i : Int) = one) := by
 unfold placesM
 by_cases h : i < n
 ·simp [List.getD, h]
 ·simp [List.getD, h]
def matchM (l : List Item) (s : List UInt8) : Bool := (endsM l s (placesM (s.length + 1) 0 false)).getD s.length false
theorem matchM_eq (l : List Item) (s : List UInt8) : matchM l s = matchR l s := by
 rw [Bool.eq_iff_iff]
 unfold matchM
 rw [ends_spec l s _ (by simp [placesM]) s.length (Nat.le_refl _)]
 constructor
 ·rintro ⟨i, _, h, hm⟩
  rw [placesM_get] at h
  obtain ⟨_, h | h⟩ := h
  ·cases h
  ·obtain rfl : i = 0 := by omega
   simpa [sub] using hm
 ·intro h
  exact ⟨0, by omega, (placesM_get _ _ _ _).2 ⟨by omega, .inr rfl⟩, by simpa [sub] using h⟩
def endsAll (l : List Item) (w : List UInt8) : List Bool := endsM l w (placesM (w.length + 1) 0 true)
theorem endsAll_length (l : List Item) (w : List UInt8) : (endsAll l w).length = w.length + 1 := endsM_length l w _ (by simp [placesM])
/-! ### Where a pattern occurs first does not hang on what comes later -/
/-! ### A pattern that may match matches a text as short as it says -/
namespace PopT
def maskN (c k : Nat) : Nat → Nat
 | 0 => 0
 | n + 1 => c + 2 ^ k * maskN c k n
def p1 (x : Nat) : Nat := (x / 2 &&& 6148914691236517205) + (x &&& 6148914691236517205)
def p2 (y : Nat) : Nat := (y / 4 &&& 3689348814741910323) + (y &&& 3689348814741910323)
def p3 (z : Nat) : Nat := (z / 16 + z) &&& 1085102592571150095
end PopT
def valOnly : Op → Bool
 | .move _ | .assign _ | .pick .. | .build .. | .binOp .. | .unOp .. | .convert .. | .slice .. | .fieldAddr .. | .field .. | .indexAddr .. | .index .. | .extract .. | .makeInterface .. => true
 | .call c => match c.callee with
  | .builtin .len | .builtin .cap | .builtin .min | .builtin .max => true
  | _ => false
 | _ => false
section
variable {P : Program} {w w' : World} {n : Next}
theorem run_val {s : Sem Value} (h : ((do pure (Next.value (← s)) : Sem Next)).run P w = .ok n w') : ∃ u, n = .value u := by
 rw [Sem.run_bind] at h
 cases hs : s.run P w with
 | ok a w1 => rw [hs] at h; simp at h; exact ⟨a, h.1.symm⟩
 | halt x w1 => rw [hs] at h; simp [Result.andThen] at h
theorem valOnly_spec {ρ : Operand → Value} {o : Oper} (ho : valOnly o.op = true) (h : (execOp ρ o).run P w = .ok n w') : ∃ u, n = .value u := by
 obtain ⟨dst, op, ty, pos, aft, grd⟩ := o
 cases op
 case move => exact run_val (s := pure _) h
 case assign => exact run_val (s := pure _) h
 case pick c a b =>
  simp only [execOp] at h
  rw [Sem.run_bind] at h
  cases hs : (asBool (ρ c)).run P w with
  | ok a w1 => rw [hs] at h; simp at h; exact ⟨_, h.1.symm⟩
  | halt x w1 => rw [hs] at h; simp [Result.andThen] at h
 case build => exact run_val h
 case binOp => exact run_val h
 case unOp => exact run_val h
 case convert => exact run_val h
 case slice => exact run_val h
 case fieldAddr => exact run_val h
 case field => exact run_val h
 case indexAddr => exact run_val h
 case index => exact run_val h
 case extract => exact run_val h
 case makeInterface => exact run_val h
 case call c =>
  obtain ⟨callee, args, ats⟩ := c
  cases callee
  case builtin b =>
   cases b <;> simp only [valOnly, Bool.false_eq_true] at ho
   all_goals
    rw [BigFrame.execOp_builtin] at h
    first
     | (rw [BigFrame.builtin_len] at h; exact run_val h)
     | (rw [BigFrame.builtin_cap] at h; exact run_val h)
     | (rw [BigFrame.builtin_min] at h; exact run_val h)
     | (rw [BigFrame.builtin_max] at h; exact run_val h)
  all_goals (simp [valOnly] at ho)
 all_goals (simp [valOnly] at ho)
end
section
variable {P : Program} {ops : Array Oper} {Q : Exit → Act → World → Prop}
theorem wp_then {o : Oper} {a : Act} {w : World} {K next : Act → World → Prop} (h : o.wp P a w K (Exit.then next Q)) : o.wp P a w K Q := by
 unfold Oper.wp at *
 generalize (execOp a.eval o).run P w = r at *
 cases r with
 | ok n w' => cases n <;> first | exact h | exact Calls.mono h (fun e w'' he => by cases e <;> exact he)
 | halt x w' => cases x <;> exact h
def OnlyBack (Q : Exit → Act → World → Prop) : Exit → Act → World → Prop
 | .panic _, _, _ => False
 | e, a, w => Q e a w
def nth : List Oper → Nat → Option Oper
 | [], _ => none
 | o :: _, 0 => some o
 | _ :: l, i + 1 => nth l i
theorem nth_eq (l : List Oper) (i : Nat) : nth l i = l[i]? := by
 induction l generalizing i with
 | nil => rfl
 | cons o l ih => cases i with
  | zero => rfl
  | succ i => simp only [nth, List.getElem?_cons_succ]; exact ih i
end
inductive Ord where
 | nil : Ord
 | val : Nat → Ord → Ord
 | op : Nat → Ord → Ord
 | two : Nat → Ord → Nat → Ord → Ord
 | three : Nat → Ord → Nat → Ord → Nat → Ord → Ord
def valOnly2 : Op → Bool
 | .nilCheck _ => true
 | o => valOnly o
section
variable {P : Program} {w w' : World} {n : Next}
theorem run_bindNil {α : Type} {s : Sem α} {f : α → Sem Next} (hf : ∀ a w1 w2 n, (f a).run P w1 = .ok n w2 → ∃ u, n = .value u) (h : (s >>= f).run P w = .ok n w') : ∃ u, n = .value u := by
 rw [Sem.run_bind] at h
 cases hs : s.run P w with
 | ok a w1 => rw [hs] at h; exact hf a w1 _ _ h
 | halt x w1 => rw [hs] at h; simp [Result.andThen] at h
theorem run_pureNil {u : Value} (h : (pure (Next.value u) : Sem Next).run P w = .ok n w') : ∃ u, n = .value u := by
 rw [Sem.run_pure] at h; injection h with h1 _; exact ⟨u, h1.symm⟩
theorem valOnly2_spec {ρ : Operand → Value} {o : Oper} (ho : valOnly2 o.op = true) (h : (execOp ρ o).run P w = .ok n w') : ∃ u, n = .value u := by
 obtain ⟨dst, op, ty, pos, aft, grd⟩ := o
 cases op
 case nilCheck =>
  simp only [execOp] at h
  split at h
  ·simp [runtimePanic] at h
  ·simp [runtimePanic] at h
  ·simp [runtimePanic] at h
  ·split at h
   ·simp [runtimePanic] at h
   ·refine run_bindNil ?_ h
    intro a w1 w2 n h
    refine run_bindNil ?_ h
    intro a w1 w2 n h
    split at h
    ·refine run_bindNil ?_ h
     intro a w1 w2 n h
     exact run_pureNil h
    ·exact run_pureNil h
   ·exact run_pureNil h
  ·exact run_pureNil h
 all_goals first | exact valOnly_spec (o := ⟨dst, _, ty, pos, aft, grd⟩) (by simpa only [valOnly2] using ho) h | (simp [valOnly2, valOnly] at ho)
end
def ordB (md : Region.Mode) (ops : Array Oper) : Ord → Array Bool → Bool
 | .nil, listed => (Region.ready md ops listed).isEmpty
 | .val i r, listed => (Region.ready md ops listed).contains i && Region.free md ops listed i && (match ops[i]? with | some o => valOnly2 o.op | none => false) && ordB md ops r (listed.setIfInBounds i true)
 | .op i r, listed => Region.ready md ops listed == [i] && ordB md ops r (listed.setIfInBounds i true)
 | .two i r j s, listed => Region.ready md ops listed == [i, j] && ordB md ops r (listed.setIfInBounds i true) && ordB md ops s (listed.setIfInBounds j true)
 | .three i r j s k t, listed => Region.ready md ops listed == [i, j, k] && ordB md ops r (listed.setIfInBounds i true) && ordB md ops s (listed.setIfInBounds j true) && ordB md ops t (listed.setIfInBounds k true)
section
variable {P : Program} {ops : Array Oper} {Q : Exit → Act → World → Prop}
def wpOrd (P : Program) (ops : Array Oper) (Q : Exit → Act → World → Prop) : Ord → Act → World → Prop
 | .nil, a, w => Q .normal a w
 | .val i r, a, w => ∃ o, ops[i]? = some o ∧ wpQuiet P ops (fun _ => True) (fun a' => wpOrd P ops Q r a' w) [o] a
 | .op i r, a, w => ∃ o, ops[i]? = some o ∧ wpList P ops (Exit.then (wpOrd P ops Q r) Q) [o] a w
 | .two i r j s, a, w => (∃ o, ops[i]? = some o ∧ wpList P ops (Exit.then (wpOrd P ops Q r) Q) [o] a w) ∧ (∃ o, ops[j]? = some o ∧ wpList P ops (Exit.then (wpOrd P ops Q s) Q) [o] a w)
 | .three i r j s k t, a, w => (∃ o, ops[i]? = some o ∧ wpList P ops (Exit.then (wpOrd P ops Q r) Q) [o] a w) ∧ (∃ o, ops[j]? = some o ∧ wpList P ops (Exit.then (wpOrd P ops Q s) Q) [o] a w) ∧
   (∃ o, ops[k]? = some o ∧ wpList P ops (Exit.then (wpOrd P ops Q t) Q) [o] a w)
def Ord.depth : Ord → Nat
 | .nil => 0
 | .val _ r => r.depth + 1
 | .op _ r => r.depth + 1
 | .two _ r _ _ => r.depth + 1
 | .three _ r _ _ _ _ => r.depth + 1
def Ord.even : Ord → Bool
 | .nil => true
 | .val _ r => r.even
 | .op _ r => r.even
 | .two _ r _ s => r.even && s.even && r.depth == s.depth
 | .three _ r _ s _ t => r.even && s.even && t.even && r.depth == s.depth && r.depth == t.depth
theorem wpOrd_list {i : Nat} {o : Oper} {next : Act → World → Prop} {K : Act → World → Prop} {a : Act} {w : World} (ho : ops[i]? = some o) (h : wpList P ops (Exit.then next Q) [o] a w) (hn : ∀ a w, next a w → K a w) : wpOp P ops Q i K a w := by
 unfold wpOp
 simp only [ho]
 simp only [wpList] at h
 by_cases hw : Region.wanted o (yielded ops a.tmps) = true
 ·rw [if_pos hw] at h ⊢
  rcases h with h | ⟨h1, a2, w2, h2⟩
  ·refine .inl ?_
   have h3 := Oper.wp_mono (K' := K) (fun a' w' hk => hn a' w' hk) h
   exact wp_then h3
  ·exact .inr ⟨h1, a2, w2, h2⟩
 ·rw [if_neg hw] at h ⊢
  exact hn _ _ h
theorem wpOrd_sound {md : Region.Mode} (hsel : Region.noSelect ops = true) (hQ : ∀ c a w, ¬ Q (.panic c) a w) : ∀ (π : Ord) (listed : Array Bool) (a : Act) (w : World), ordB md ops π listed = true → π.even = true →
  wpOrd P ops Q π a w → wpAny P md ops Q π.depth listed a w
 | .nil, listed, a, w, hB, _, h => ⟨by simpa [ordB] using hB, h⟩
 | .val i r, listed, a, w, hB, hE, ⟨o, ho, h⟩ => by
  simp only [ordB, Bool.and_eq_true, ho] at hB
  obtain ⟨⟨⟨hr, hf⟩, hv⟩, hB'⟩ := hB
  simp only [wpQuiet] at h
  have key : ∃ v, Yields P ops o v a ∧ wpOrd P ops Q r (a.put o.dst v) w := by
   by_cases hw : Region.wanted o (yielded ops a.tmps) = true
   ·rw [if_pos hw] at h
    obtain ⟨v, h1, h2⟩ := h
    refine ⟨v, .inl ⟨hw, fun w' => ?_⟩, h2⟩
    have h3 := h1 w' trivial
    unfold Oper.quietAt at h3
    cases hrun : (execOp a.eval o).run P w' with
    | ok n w1 =>
     obtain ⟨u, rfl⟩ := valOnly2_spec hv hrun
     rw [hrun] at h3
     simp only [Oper.quietUpon] at h3
     rw [h3.1, h3.2]
    | halt x w1 => rw [hrun] at h3; simp only [Oper.quietUpon] at h3
   ·rw [if_neg hw] at h
    exact ⟨undef, .inr ⟨by simpa using hw, rfl⟩, h⟩
  obtain ⟨v, hy, hn⟩ := key
  exact wpAny_first ho (fun j o cs b => Region.noSelect_spec hsel j o cs b) (fun c a w hq => absurd hq (hQ c _ _)) r.depth listed a w
   (fun j oj hj hne hun hno => Region.free_spec ho hf j oj hj hne hun hno) (by simpa using hr) hy (wpOrd_sound hsel hQ r _ _ _ hB' hE hn)
 | .op i r, listed, a, w, hB, hE, ⟨o, ho, h⟩ => by
  simp only [ordB, Bool.and_eq_true, beq_iff_eq] at hB
  obtain ⟨hr, hB'⟩ := hB
  refine ⟨fun h0 => (by rw [hr] at h0; cases h0), fun j hj => ?_⟩
  rw [hr] at hj
  obtain rfl : j = i := by simpa using hj
  exact wpOrd_list ho h (fun a' w' hk => wpOrd_sound hsel hQ r _ a' w' hB' hE hk)
 | .two i r k s, listed, a, w, hB, hE, ⟨⟨o, ho, h⟩, ⟨o2, ho2, h2⟩⟩ => by
  simp only [ordB, Bool.and_eq_true, beq_iff_eq] at hB
  simp only [Ord.even, Bool.and_eq_true, beq_iff_eq] at hE
  obtain ⟨⟨hr, hB'⟩, hB2⟩ := hB
  obtain ⟨⟨hE1, hE2⟩, hd⟩ := hE
  refine ⟨fun h0 => (by rw [hr] at h0; cases h0), fun j hj => ?_⟩
  rw [hr] at hj
  rcases (by simpa using hj : j = i ∨ j = k) with rfl | rfl
  ·exact wpOrd_list ho h (fun a' w' hk => wpOrd_sound hsel hQ r _ a' w' hB' hE1 hk)
  ·exact wpOrd_list ho2 h2 (fun a' w' hk => by have := wpOrd_sound hsel hQ s _ a' w' hB2 hE2 hk; rwa [← hd] at this)
 | .three i r k s l t, listed, a, w, hB, hE, ⟨⟨o, ho, h⟩, ⟨o2, ho2, h2⟩, ⟨o3, ho3, h3⟩⟩ => by
  simp only [ordB, Bool.and_eq_true, beq_iff_eq] at hB
  simp only [Ord.even, Bool.and_eq_true, beq_iff_eq] at hE
  obtain ⟨⟨⟨hr, hB'⟩, hB2⟩, hB3⟩ := hB
  obtain ⟨⟨⟨⟨hE1, hE2⟩, hE3⟩, hd⟩, hd2⟩ := hE
  refine ⟨fun h0 => (by rw [hr] at h0; cases h0), fun j hj => ?_⟩
  rw [hr] at hj
  rcases (by simpa using hj : j = i ∨ j = k ∨ j = l) with rfl | rfl | rfl
  ·exact wpOrd_list ho h (fun a' w' hk => wpOrd_sound hsel hQ r _ a' w' hB' hE1 hk)
  ·exact wpOrd_list ho2 h2 (fun a' w' hk => by have := wpOrd_sound hsel hQ s _ a' w' hB2 hE2 hk; rwa [← hd] at this)
  ·exact wpOrd_list ho3 h3 (fun a' w' hk => by have := wpOrd_sound hsel hQ t _ a' w' hB3 hE3 hk; rwa [← hd2] at this)
theorem wp_region_ord {id : Nat} {a : Act} {w : World} {l : List Oper} (π : Ord) (hm : P.follows .mixedOrders = true)
  (hB : (Region.noSelect l.toArray && (π.depth == l.length && (π.even && ordB .any l.toArray π (Array.replicate l.length false)))) = true)
  (h : wpOrd P l.toArray (OnlyBack Q) π a (w.drewN 1)) : (Code.region id l.toArray true).wp P Q a w := by
 simp only [Bool.and_eq_true, beq_iff_eq] at hB
 obtain ⟨h1, h2, hE, h3⟩ := hB
 refine Code.wp_mono (Q := OnlyBack Q) (fun e a w q => by cases e <;> first | exact q | exact q.elim) (wp_region_any hm ?_)
 have := wpOrd_sound (md := .any) h1 (fun c a w hq => hq) π (Array.replicate l.length false) a w.drew h3 hE h
 rw [h2] at this
 simpa using this
theorem wpOrd_nil {a : Act} {w : World} (h : Q .normal a w) : wpOrd P ops (OnlyBack Q) .nil a w := h
theorem wpOrd_val {l : List Oper} {i : Nat} {r : Ord} {a : Act} {w : World} {o : Oper} (ho : nth l i = some o)
  (h : wpQuiet P l.toArray (fun _ => True) (fun a' => wpOrd P l.toArray Q r a' w) [o] a) : wpOrd P l.toArray Q (.val i r) a w := ⟨o, by rw [← ho, nth_eq]; simp, h⟩
theorem wpOrd_op {l : List Oper} {i : Nat} {r : Ord} {a : Act} {w : World} {o : Oper} (ho : nth l i = some o)
  (h : wpList P l.toArray (Exit.then (wpOrd P l.toArray Q r) Q) [o] a w) : wpOrd P l.toArray Q (.op i r) a w := ⟨o, by rw [← ho, nth_eq]; simp, h⟩
theorem wpOrd_two {l : List Oper} {i j : Nat} {r s : Ord} {a : Act} {w : World} {o o2 : Oper} (ho : nth l i = some o) (ho2 : nth l j = some o2)
  (h : wpList P l.toArray (Exit.then (wpOrd P l.toArray Q r) Q) [o] a w) (h2 : wpList P l.toArray (Exit.then (wpOrd P l.toArray Q s) Q) [o2] a w) : wpOrd P l.toArray Q (.two i r j s) a w :=
 ⟨⟨o, by rw [← ho, nth_eq]; simp, h⟩, ⟨o2, by rw [← ho2, nth_eq]; simp, h2⟩⟩
theorem wpOrd_three {l : List Oper} {i j k : Nat} {r s t : Ord} {a : Act} {w : World} {o o2 o3 : Oper} (ho : nth l i = some o) (ho2 : nth l j = some o2) (ho3 : nth l k = some o3)
  (h : wpList P l.toArray (Exit.then (wpOrd P l.toArray Q r) Q) [o] a w) (h2 : wpList P l.toArray (Exit.then (wpOrd P l.toArray Q s) Q) [o2] a w) (h3 : wpList P l.toArray (Exit.then (wpOrd P l.toArray Q t) Q) [o3] a w) : wpOrd P l.toArray Q (.three i r j s k t) a w :=
 ⟨⟨o, by rw [← ho, nth_eq]; simp, h⟩, ⟨o2, by rw [← ho2, nth_eq]; simp, h2⟩, ⟨o3, by rw [← ho3, nth_eq]; simp, h3⟩⟩
end
end Go.Proofs.YtpkkfdmhbbipoaaGreat
