/- The plain functions that the walks compute: sets of bytes, patterns. No program in sight. -/
import Derived.Test.YtpkkfdmhbbipoaaBase
namespace Go.Proofs.Ytpkkfdmhbbipoaa
open Go.RowKit

def BSet.word (s : BSet) (i : Nat) : BitVec 64 := match i with | 0 => s.w0 | 1 => s.w1 | 2 => s.w2 | _ => s.w3
def BSet.has (s : BSet) (b : Nat) : Bool := (s.word (b / 64)).getLsbD (b % 64)

/-- One item's step of 'ends': a run. -/
def stepRun : Bool → List Bool → List Bool
  | _, [] => []
  | p, a :: r => (a || p) :: stepRun (a || p) r
/-- One item's step of 'ends': a set (the places of a text have one more place than the text has bytes). -/
def stepSet (x : BSet) (s : List UInt8) (at_ : List Bool) : List Bool := false :: List.zipWith (fun a c => a && x.has c.toNat) at_ s
def stepM (x : Item) (s : List UInt8) (at_ : List Bool) : List Bool := if x.run then stepRun false at_ else stepSet x.set s at_
def endsM (l : List Item) (s : List UInt8) (at_ : List Bool) : List Bool := l.foldl (fun a x => stepM x s a) at_

theorem stepRun_length (p : Bool) (l : List Bool) : (stepRun p l).length = l.length := by
  induction l generalizing p with
  | nil => rfl
  | cons a r ih => simp [stepRun, ih]
theorem stepM_length (x : Item) (s : List UInt8) (l : List Bool) (h : l.length = s.length + 1) : (stepM x s l).length = s.length + 1 := by
  unfold stepM; split
  · rw [stepRun_length, h]
  · simp [stepSet, h]
theorem endsM_length (l : List Item) (s : List UInt8) (a : List Bool) (h : a.length = s.length + 1) : (endsM l s a).length = s.length + 1 := by
  induction l generalizing a with
  | nil => exact h
  | cons x l ih => exact ih _ (stepM_length x s a h)
theorem stepRun_get (p : Bool) (l : List Bool) (i : Nat) (h : i < l.length) : (stepRun p l)[i]? = some (l[i] || (if i = 0 then p else (stepRun p l).getD (i - 1) false)) := by
  induction l generalizing p i with
  | nil => simp at h
  | cons a r ih =>
    cases i with
    | zero => simp [stepRun]
    | succ i =>
      have := ih (a || p) i (by simpa using h)
      simp only [stepRun, List.getElem?_cons_succ, this]
      cases i <;> simp [List.getD]
theorem stepM_run (x : Item) (s : List UInt8) (l : List Bool) (hx : x.run = true) (i : Nat) (h : i < l.length) :
    (stepM x s l)[i]? = some (l[i] || (decide (0 < i) && (stepM x s l).getD (i - 1) false)) := by
  unfold stepM; rw [if_pos hx, stepRun_get false l i h]
  cases i <;> simp
theorem stepM_set0 (x : Item) (s : List UInt8) (l : List Bool) (hx : x.run = false) : (stepM x s l)[0]? = some false := by
  unfold stepM; rw [if_neg (by simp [hx])]; rfl
theorem stepM_set (x : Item) (s : List UInt8) (l : List Bool) (hx : x.run = false) (i : Nat) (h : i < s.length) (hl : l.length = s.length + 1) :
    (stepM x s l)[i + 1]? = some (l[i] && x.set.has (s[i]).toNat) := by
  unfold stepM; rw [if_neg (by simp [hx])]
  simp [stepSet, List.getElem?_zipWith, List.getElem?_eq_getElem h, List.getElem?_eq_getElem (show i < l.length by omega)]

theorem endsM_succ (l : List Item) (s : List UInt8) (a : List Bool) (k : Nat) (h : k < l.length) : endsM (l.take (k + 1)) s a = stepM l[k] s (endsM (l.take k) s a) := by
  unfold endsM
  rw [List.take_succ_eq_append_getElem h, List.foldl_append]; rfl

/-- No place but one, or all. -/
def placesM (n : Nat) (one : Int) (all : Bool) : List Bool := (List.range n).map fun (i : Nat) => all || ((i : Int) == one)

def boolCells (l : List Bool) : List Value := l.map Value.bool
def intCells (l : List Int) : List Value := l.map (Value.int .i64)
theorem boolCells_length (l : List Bool) : (boolCells l).length = l.length := by simp [boolCells]
theorem boolCells_get (l : List Bool) (k : Nat) (h : k < l.length) : (boolCells l)[k]? = some (.bool l[k]) := by simp [boolCells, h]
theorem intCells_get (l : List Int) (k : Nat) (h : k < l.length) : (intCells l)[k]? = some (.int .i64 l[k]) := by simp [intCells, h]
theorem intCells_length (l : List Int) : (intCells l).length = l.length := by simp [intCells]

def goodM (l : List Item) : Bool := l.all (fun x => !(x.run && x.set != BSet.zero)) && decide (l.length < 61)

/-! ### Bytes of sets -/
def byteCells (l : List UInt8) : List Value := l.map fun b => .int .u8 (b.toNat : Int)
theorem byteCells_length (l : List UInt8) : (byteCells l).length = l.length := by simp [byteCells]
def bytesTo (x : BSet) (k : Nat) : List UInt8 := ((List.range k).filter x.has).map UInt8.ofNat
def bytesM (x : BSet) : List UInt8 := bytesTo x 256
theorem bytesTo_succ (x : BSet) (k : Nat) : bytesTo x (k + 1) = bytesTo x k ++ if x.has k then [UInt8.ofNat k] else [] := by
  unfold bytesTo; rw [List.range_succ, List.filter_append, List.map_append]
  congr 1
  cases h : x.has k <;> simp [h]
theorem bytesTo_length (x : BSet) (k : Nat) : (bytesTo x k).length ≤ k := by
  unfold bytesTo; rw [List.length_map]; exact Nat.le_trans (List.length_filter_le _ _) (by simp)
theorem mem_bytesM (x : BSet) (c : UInt8) : c ∈ bytesM x ↔ x.has c.toNat = true := by
  simp only [bytesM, bytesTo, List.mem_map, List.mem_filter, List.mem_range]
  constructor
  · rintro ⟨k, ⟨hk, hh⟩, rfl⟩
    rwa [UInt8.toNat_ofNat_of_lt' hk]
  · intro h
    exact ⟨c.toNat, ⟨c.toNat_lt, h⟩, by simp⟩
def voidM (l : List Item) : Bool := l.any fun x => !x.run && (bytesM x.set).isEmpty
def leastM (l : List Item) : Nat := (l.filter fun x => !x.run).length
/-- The last byte of each set that is no run's. -/
def shortOf (x : Item) : List UInt8 := if x.run then [] else (bytesM x.set).drop ((bytesM x.set).length - 1)
def shortM (l : List Item) : List UInt8 := l.flatMap shortOf

/-! ### Sets out of flags, as the reference makes them -/
def b2n (b : Bool) : Nat := if b then 1 else 0
/-- The word i of a set behind m bits, from the highest on. -/
def accW (fl : List Bool) (i : Nat) : Nat → Nat
  | 0 => 0
  | m + 1 => 2 * accW fl i m + b2n (fl.getD (64 * i + (63 - m)) false)
theorem accW_lt (fl : List Bool) (i m : Nat) : accW fl i m < 2 ^ m := by
  induction m with
  | zero => simp [accW]
  | succ m ih =>
    have : b2n (fl.getD (64 * i + (63 - m)) false) ≤ 1 := by unfold b2n; split <;> omega
    simp only [accW, Nat.pow_succ]; omega
theorem accW_bit (fl : List Bool) (i m k : Nat) (hk : k < m) (hm : m ≤ 64) : (accW fl i m).testBit k = fl.getD (64 * i + (64 - m) + k) false := by
  induction m generalizing k with
  | zero => omega
  | succ m ih =>
    have hb : (b2n (fl.getD (64 * i + (63 - m)) false)) < 2 := by unfold b2n; split <;> omega
    cases k with
    | zero =>
      simp only [accW, Nat.testBit_zero, Nat.add_zero]
      rw [show 64 * i + (64 - (m + 1)) = 64 * i + (63 - m) from by omega]
      unfold b2n
      cases fl.getD (64 * i + (63 - m)) false <;> simp <;> omega
    | succ k =>
      rw [Nat.testBit_succ, show accW fl i (m + 1) / 2 = accW fl i m from by simp only [accW]; omega, ih k (by omega) (by omega)]
      congr 1; omega
def makeM (fl : List Bool) : BSet := ⟨BitVec.ofNat 64 (accW fl 0 64), BitVec.ofNat 64 (accW fl 1 64), BitVec.ofNat 64 (accW fl 2 64), BitVec.ofNat 64 (accW fl 3 64)⟩
theorem ofNat_toNat64 (n : Nat) (h : n < 2 ^ 64) : (BitVec.ofNat 64 n).toNat = n := by rw [BitVec.toNat_ofNat]; exact Nat.mod_eq_of_lt h
theorem makeM_word (fl : List Bool) (i : Nat) (h : i < 4) : ((makeM fl).word i).toNat = accW fl i 64 := by
  match i, h with
  | 0, _ => exact ofNat_toNat64 _ (accW_lt fl 0 64)
  | 1, _ => exact ofNat_toNat64 _ (accW_lt fl 1 64)
  | 2, _ => exact ofNat_toNat64 _ (accW_lt fl 2 64)
  | 3, _ => exact ofNat_toNat64 _ (accW_lt fl 3 64)
theorem has_makeM (fl : List Bool) (b : Nat) (h : b < 256) : (makeM fl).has b = fl.getD b false := by
  unfold BSet.has
  rw [BitVec.getLsbD, makeM_word fl _ (by omega), accW_bit fl _ _ _ (Nat.mod_lt _ (by omega)) (Nat.le_refl _), show 64 * (b / 64) + (64 - 64) + b % 64 = b from by omega]
def flagsM (x : BSet) : List Bool := (List.range 256).map x.has
theorem flagsM_length (x : BSet) : (flagsM x).length = 256 := by simp [flagsM]
theorem flagsM_get (x : BSet) (b : Nat) (h : b < 256) : (flagsM x).getD b false = x.has b := by simp [flagsM, List.getD, h]
/-- Two sets with the same bytes are one. -/
theorem BSet.ext_has {x y : BSet} (h : ∀ b, b < 256 → x.has b = y.has b) : x = y := by
  have hw : ∀ i, i < 4 → x.word i = y.word i := by
    intro i hi
    refine BitVec.eq_of_getLsbD_eq fun k hk => ?_
    have := h (64 * i + k) (by omega)
    unfold BSet.has at this
    rwa [show (64 * i + k) / 64 = i from by omega, show (64 * i + k) % 64 = k from by omega] at this
  obtain ⟨x0, x1, x2, x3⟩ := x
  obtain ⟨y0, y1, y2, y3⟩ := y
  have h0 := hw 0 (by omega); have h1 := hw 1 (by omega); have h2 := hw 2 (by omega); have h3 := hw 3 (by omega)
  simp only [BSet.word] at h0 h1 h2 h3
  rw [h0, h1, h2, h3]
/-- The set of some bytes. -/
def ofFlags (s : List UInt8) : List Bool := s.foldl (fun f c => f.set c.toNat true) (List.replicate 256 false)
def ofM (s : List UInt8) : BSet := makeM (ofFlags s)
theorem ofFlags_succ (s : List UInt8) (k : Nat) (h : k < s.length) : ofFlags (s.take (k + 1)) = (ofFlags (s.take k)).set (s[k]).toNat true := by
  unfold ofFlags
  rw [List.take_succ_eq_append_getElem h, List.foldl_append]; rfl
theorem flagsM_zero : flagsM BSet.zero = List.replicate 256 false := by
  refine List.ext_getElem (by rw [flagsM_length, List.length_replicate]) fun i h1 h2 => ?_
  simp only [flagsM, List.getElem_map, List.getElem_range, List.getElem_replicate]
  unfold BSet.has BSet.zero BSet.word
  split <;> simp
theorem ofFlags_length (s : List UInt8) : (ofFlags s).length = 256 := by
  unfold ofFlags
  have : ∀ (f : List Bool), f.length = 256 → (s.foldl (fun f c => f.set c.toNat true) f).length = 256 := by
    induction s with
    | nil => intro f h; exact h
    | cons c r ih => intro f h; exact ih _ (by simpa using h)
  exact this _ List.length_replicate

end Go.Proofs.Ytpkkfdmhbbipoaa
