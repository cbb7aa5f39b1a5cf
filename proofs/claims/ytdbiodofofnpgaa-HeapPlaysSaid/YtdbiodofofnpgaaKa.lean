/- Plain laws: a heap of entries in a list, and where each number's entry is; no program in sight. Plain laws: an entry more in a heap, another one, one less; no program in sight. Plain laws: how an entry goes up and down in a heap, step by step, while its place is open; no program in sight. A heap in memory: a block of two cells (the entries' slice, the places' slice) and the two rows. Plain laws: deadlines of many as entries in order: set, cut, due; no program in sight. Walks: cmp.Compare, cmp.Or, heap.order. Walks: package heap: put. Walks: package heap: up. -/
import Derived.Test.YtdbiodofofnpgaaNa
namespace Go.Proofs.Ytdbiodofofnpgaa

/-- An entry: its time, its number. -/
structure Ent where
  t : Int
  id : Nat
  deriving DecidableEq, Inhabited

def Ent.lt (a b : Ent) : Prop := a.t < b.t ∨ (a.t = b.t ∧ a.id < b.id)
def Ent.le (a b : Ent) : Prop := a.t < b.t ∨ (a.t = b.t ∧ a.id ≤ b.id)
instance (a b : Ent) : Decidable (a.lt b) := by unfold Ent.lt; infer_instance
instance (a b : Ent) : Decidable (a.le b) := by unfold Ent.le; infer_instance
theorem Ent.le_refl (a : Ent) : a.le a := by unfold Ent.le; omega
theorem Ent.le_trans {a b c : Ent} (h : a.le b) (h2 : b.le c) : a.le c := by unfold Ent.le at *; omega
theorem Ent.lt_trans {a b c : Ent} (h : a.lt b) (h2 : b.lt c) : a.lt c := by unfold Ent.lt at *; omega
theorem Ent.le_of_lt {a b : Ent} (h : a.lt b) : a.le b := by unfold Ent.le Ent.lt at *; omega
theorem Ent.not_lt {a b : Ent} : ¬ a.lt b ↔ b.le a := by unfold Ent.le Ent.lt at *; omega
theorem Ent.not_le {a b : Ent} : ¬ a.le b ↔ b.lt a := by unfold Ent.le Ent.lt at *; omega
theorem Ent.lt_of_le_of_lt {a b c : Ent} (h : a.le b) (h2 : b.lt c) : a.lt c := by unfold Ent.le Ent.lt at *; omega
theorem Ent.lt_irrefl (a : Ent) : ¬ a.lt a := by unfold Ent.lt; omega
theorem Ent.eq_of {a b : Ent} (h1 : a.t = b.t) (h2 : a.id = b.id) : a = b := by cases a; cases b; simp_all

def eg (A : List Ent) (i : Nat) : Ent := A.getD i default
theorem eg_of {A : List Ent} {i : Nat} (h : i < A.length) : eg A i = A[i] := by simp [eg, List.getD, h]
theorem eg_some {A : List Ent} {i : Nat} (h : i < A.length) : A[i]? = some (eg A i) := by rw [eg_of h, List.getElem?_eq_getElem h]
theorem eg_mem {A : List Ent} {i : Nat} (h : i < A.length) : eg A i ∈ A := by rw [eg_of h]; exact List.getElem_mem h
theorem mem_eg {A : List Ent} {e : Ent} (h : e ∈ A) : ∃ i, i < A.length ∧ eg A i = e := by
  obtain ⟨i, hi, he⟩ := List.getElem_of_mem h
  exact ⟨i, hi, by rw [eg_of hi]; exact he⟩
theorem eg_set {A : List Ent} {i j : Nat} {x : Ent} (h : i < A.length) : eg (A.set i x) j = if j = i then x else eg A j := by
  unfold eg
  rw [List.getD_eq_getElem?_getD, List.getElem?_set]
  by_cases e : i = j
  · subst e; simp [h]
  · rw [if_neg e, if_neg (fun x => e x.symm), List.getD_eq_getElem?_getD]
def wg (wh : List Int) (i : Nat) : Int := wh.getD i 0
theorem wg_some {wh : List Int} {i : Nat} (h : i < wh.length) : wh[i]? = some (wg wh i) := by simp [wg, List.getD, h]
theorem wg_set {wh : List Int} {i j : Nat} {x : Int} (h : i < wh.length) : wg (wh.set i x) j = if j = i then x else wg wh j := by
  unfold wg
  rw [List.getD_eq_getElem?_getD, List.getElem?_set]
  by_cases e : i = j
  · subst e; simp [h]
  · rw [if_neg e, if_neg (fun x => e x.symm), List.getD_eq_getElem?_getD]

def par (j : Nat) : Nat := (j - 1) / 2
theorem par_lt {j : Nat} (h : 0 < j) : par j < j := by unfold par; omega
def swapE (A : List Ent) (i p : Nat) : List Ent := (A.set i (eg A p)).set p (eg A i)
theorem swapE_len (A : List Ent) (i p : Nat) : (swapE A i p).length = A.length := by simp [swapE]
theorem swapE_eg {A : List Ent} {i p : Nat} (hi : i < A.length) (hp : p < A.length) (j : Nat) : eg (swapE A i p) j = if j = p then eg A i else if j = i then eg A p else eg A j := by
  unfold swapE; rw [eg_set (by simpa using hp), eg_set hi]
theorem swapE_perm {A : List Ent} {i p : Nat} (hi : i < A.length) (hp : p < A.length) : (swapE A i p).Perm A := by
  unfold swapE; rw [eg_of hi, eg_of hp]; exact List.set_set_perm hi hp

def HeapQ (A : List Ent) : Prop := ∀ j, 0 < j → j < A.length → (eg A (par j)).le (eg A j)
def SInv (A : List Ent) (i : Nat) : Prop := ∀ j, 0 < j → j < A.length → (j ≠ i → par j ≠ i → (eg A (par j)).le (eg A j)) ∧ (0 < i → par j = i → (eg A (par i)).le (eg A j))
def UnderQ (A : List Ent) (i : Nat) : Prop := ∀ j, 0 < j → j < A.length → par j = i → (eg A i).le (eg A j)
def OverQ (A : List Ent) (i : Nat) : Prop := 0 < i → (eg A (par i)).le (eg A i)

theorem heap_of {A : List Ent} {i : Nat} (h : SInv A i) (hu : UnderQ A i) (ho : OverQ A i) : HeapQ A := by
  intro j h0 hl
  by_cases e : j = i
  · subst e; exact ho h0
  · by_cases e2 : par j = i
    · have := hu j h0 hl e2; rwa [e2]
    · exact (h j h0 hl).1 e e2
theorem HeapQ.sinv {A : List Ent} (h : HeapQ A) (i : Nat) (hi : i < A.length) : SInv A i := by
  intro j h0 hl
  refine ⟨fun _ _ => h j h0 hl, fun hi0 e => ?_⟩
  have h1 := h j h0 hl
  have h2 := h i hi0 hi
  rw [e] at h1
  exact Ent.le_trans h2 h1
theorem HeapQ.under {A : List Ent} (h : HeapQ A) (i : Nat) : UnderQ A i := fun j h0 hl e => by have := h j h0 hl; rwa [e] at this

/-- Behind a change at i the rest stays. -/
theorem SInv.change {A : List Ent} {i : Nat} (h : HeapQ A) (hi : i < A.length) (x : Ent) : SInv (A.set i x) i := by
  intro j h0 hl
  simp only [List.length_set] at hl
  simp only [eg_set hi]
  have hs := h.sinv i hi j h0 hl
  refine ⟨fun h1 h2 => ?_, fun h1 h2 => ?_⟩
  · rw [if_neg h2, if_neg h1]; exact hs.1 h1 h2
  · have hp := par_lt h1
    have hp2 := par_lt h0
    rw [if_neg (by omega), if_neg (by omega)]; exact hs.2 h1 h2

theorem SInv.up {A : List Ent} {i : Nat} (hi : 0 < i) (hl : i < A.length) (h : SInv A i) (_ : (eg A i).lt (eg A (par i))) : SInv (swapE A i (par i)) (par i) := by
  intro j h0 hj
  rw [swapE_len] at hj
  have hp := par_lt hi
  have hjp := par_lt h0
  simp only [swapE_eg hl (Nat.lt_trans hp hl)]
  have H := h j h0 hj
  refine ⟨fun h1 h2 => ?_, fun h1 h2 => ?_⟩
  · rw [if_neg h1, if_neg h2]
    by_cases e : j = i
    · exact absurd (by rw [e]) h2
    · rw [if_neg e]
      by_cases e2 : par j = i
      · rw [if_pos e2]; exact H.2 hi e2
      · rw [if_neg e2]; exact H.1 e e2
  · have hpp := par_lt h1
    rw [if_neg (by omega), if_neg (by omega), if_neg (by omega)]
    have HP := (h (par i) h1 (Nat.lt_trans hp hl)).1 (by omega) (by omega)
    by_cases e : j = i
    · rw [if_pos e]; exact HP
    · rw [if_neg e]
      have := H.1 e (by omega)
      rw [h2] at this
      exact Ent.le_trans HP this
theorem UnderQ.up {A : List Ent} {i : Nat} (hi : 0 < i) (hl : i < A.length) (h : SInv A i) (hlt : (eg A i).lt (eg A (par i))) : UnderQ (swapE A i (par i)) (par i) := by
  intro j h0 hj h2
  rw [swapE_len] at hj
  have hp := par_lt hi
  have hjp := par_lt h0
  simp only [swapE_eg hl (Nat.lt_trans hp hl)]
  simp only [if_true]
  rw [if_neg (show j ≠ par i by omega)]
  by_cases e : j = i
  · rw [if_pos e]; exact Ent.le_of_lt hlt
  · rw [if_neg e]
    have := (h j h0 hj).1 e (by omega)
    rw [h2] at this
    exact Ent.le_trans (Ent.le_of_lt hlt) this

/-- What holds of a heap but for i's place over those below it. -/
def DInv (A : List Ent) (i : Nat) : Prop := SInv A i ∧ OverQ A i
theorem DInv.down {A : List Ent} {i b : Nat} (h : DInv A i) (h0 : 0 < b) (hb : b < A.length) (hp : par b = i) (hmin : ∀ j, 0 < j → j < A.length → par j = i → (eg A b).le (eg A j)) (hlt : (eg A b).lt (eg A i)) :
    DInv (swapE A i b) b := by
  have hpb := par_lt h0
  have hi : i < A.length := by omega
  have hib : b ≠ i := by omega
  obtain ⟨hs, ho⟩ := h
  refine ⟨fun j hj0 hj => ?_, fun _ => ?_⟩
  · rw [swapE_len] at hj
    simp only [swapE_eg hi hb]
    have hpj := par_lt hj0
    have H := hs j hj0 hj
    refine ⟨fun h1 h2 => ?_, fun h1 h2 => ?_⟩
    · rw [if_neg h1, if_neg h2]
      by_cases e2 : par j = i
      · rw [if_pos e2, if_neg (by omega)]; exact hmin j hj0 hj e2
      · rw [if_neg e2]
        by_cases e : j = i
        · subst e
          rw [if_pos rfl]
          exact (hs b h0 hb).2 hj0 hp
        · rw [if_neg e]; exact H.1 e e2
    · rw [hp, if_neg (by omega), if_pos rfl, if_neg (by omega), if_neg (by omega)]
      have := H.1 (by omega) (by omega)
      rwa [h2] at this
  · simp only [swapE_eg hi hb]
    rw [hp]; simp only [if_true]; rw [if_neg (by omega)]; exact Ent.le_of_lt hlt
theorem DInv.done {A : List Ent} {i : Nat} (h : DInv A i) (hu : UnderQ A i) : HeapQ A := heap_of h.1 hu h.2

theorem HeapQ.min {A : List Ent} (h : HeapQ A) : ∀ j, j < A.length → (eg A 0).le (eg A j) := by
  intro j
  induction j using Nat.strongRecOn with
  | _ j ih =>
    intro hj
    by_cases e : j = 0
    · subst e; exact Ent.le_refl _
    · have hp := par_lt (Nat.pos_of_ne_zero e)
      exact Ent.le_trans (ih _ hp (by omega)) (h j (by omega) hj)

/-- Where each number's entry is; place i is not told yet. -/
structure WhEx (A : List Ent) (wh : List Int) (m i : Nat) : Prop where
  len : wh.length = m
  ids : ∀ j, j < A.length → (eg A j).id < m
  inj : ∀ j k, j < A.length → k < A.length → (eg A j).id = (eg A k).id → j = k
  at_ : ∀ j, j < A.length → j ≠ i → wg wh (eg A j).id = (j : Int)
  no : ∀ id, id < m → (∀ j, j < A.length → (eg A j).id ≠ id) → wg wh id = -1
def WhOk (A : List Ent) (wh : List Int) (m : Nat) : Prop := WhEx A wh m A.length

theorem WhOk.ex {A : List Ent} {wh : List Int} {m : Nat} (h : WhOk A wh m) (i : Nat) : WhEx A wh m i :=
  ⟨h.len, h.ids, h.inj, fun j hj _ => h.at_ j hj (by omega), h.no⟩
theorem WhOk.at {A : List Ent} {wh : List Int} {m : Nat} (h : WhOk A wh m) {j : Nat} (hj : j < A.length) : wg wh (eg A j).id = (j : Int) := h.at_ j hj (by omega)
theorem WhEx.move {A : List Ent} {wh : List Int} {m i p : Nat} (h : WhEx A wh m i) (hi : i < A.length) (hp : p < A.length) (hne : p ≠ i) : WhEx (swapE A i p) (wh.set (eg A p).id (i : Int)) m p := by
  have hidp := h.ids p hp
  refine ⟨by simpa using h.len, fun j hj => ?_, fun j k hj hk e => ?_, fun j hj hjp => ?_, fun id hid hno => ?_⟩
  · rw [swapE_len] at hj
    rw [swapE_eg hi hp]; split
    · exact h.ids i hi
    · split
      · exact hidp
      · exact h.ids j hj
  · rw [swapE_len] at hj hk
    have hσ : ∀ j, eg (swapE A i p) j = eg A (if j = p then i else if j = i then p else j) := by
      intro j
      rw [swapE_eg hi hp]; split
      · rfl
      · split <;> rfl
    rw [hσ, hσ] at e
    have hq : ∀ q, q < A.length → (if q = p then i else if q = i then p else q) < A.length := by
      intro q hq
      split
      · exact hi
      · split <;> omega
    have := h.inj _ _ (hq j hj) (hq k hk) e
    split at this <;> split at this <;> (try split at this) <;> (try split at this) <;> omega
  · rw [swapE_len] at hj
    rw [swapE_eg hi hp, if_neg hjp, wg_set (by rw [h.len]; exact hidp)]
    by_cases e : j = i
    · rw [if_pos e, if_pos rfl, e]
    · rw [if_neg e, if_neg (fun e2 => hjp (h.inj j p hj hp e2))]; exact h.at_ j hj e
  · have hno' : ∀ j, j < A.length → (eg A j).id ≠ id := by
      intro j hj e
      by_cases e1 : j = i
      · subst e1; exact hno p (by rw [swapE_len]; exact hp) (by rw [swapE_eg hi hp, if_pos rfl]; exact e)
      · by_cases e2 : j = p
        · subst e2; exact hno i (by rw [swapE_len]; exact hi) (by rw [swapE_eg hi hp, if_neg (fun x => hne x.symm), if_pos rfl]; exact e)
        · exact hno j (by rw [swapE_len]; exact hj) (by rw [swapE_eg hi hp, if_neg e2, if_neg e1]; exact e)
    rw [wg_set (by rw [h.len]; exact hidp), if_neg (fun e => hno' p hp e.symm)]
    exact h.no id hid hno'
theorem WhEx.close {A : List Ent} {wh : List Int} {m i : Nat} (h : WhEx A wh m i) (hi : i < A.length) : WhOk A (wh.set (eg A i).id (i : Int)) m := by
  have hidi := h.ids i hi
  refine ⟨by simpa using h.len, h.ids, h.inj, fun j hj _ => ?_, fun id hid hno => ?_⟩
  · rw [wg_set (by rw [h.len]; exact hidi)]
    by_cases e : (eg A j).id = (eg A i).id
    · rw [if_pos e, h.inj j i hj hi e]
    · rw [if_neg e]; exact h.at_ j hj (fun x => e (by rw [x]))
  · rw [wg_set (by rw [h.len]; exact hidi), if_neg (fun e => hno i hi e.symm)]; exact h.no id hid hno

/-- A list in order. -/
def SortedE (l : List Ent) : Prop := l.Pairwise Ent.lt
/-- A heap that holds the entries l (in order). -/
structure HeapIs (A : List Ent) (wh : List Int) (m : Nat) (l : List Ent) : Prop where
  perm : A.Perm l
  sorted : SortedE l
  heap : HeapQ A
  where_ : WhOk A wh m

theorem sorted_unique {a b : List Ent} (ha : SortedE a) (hb : SortedE b) (h : a.Perm b) : a = b := by
  induction a generalizing b with
  | nil => exact h.nil_eq
  | cons x a ih =>
    cases b with
    | nil => exact absurd h.length_eq (by simp)
    | cons y b =>
      have ha' := List.pairwise_cons.1 ha
      have hb' := List.pairwise_cons.1 hb
      have hx : x ∈ y :: b := h.subset (by simp)
      have hy : y ∈ x :: a := h.symm.subset (by simp)
      have e : x = y := by
        rcases List.mem_cons.1 hx with e | hx
        · exact e
        · rcases List.mem_cons.1 hy with e | hy
          · exact e.symm
          · exact absurd (Ent.lt_trans (hb'.1 x hx) (ha'.1 y hy)) (Ent.lt_irrefl _)
      subst e
      rw [ih ha'.2 hb'.2 (h.cons_inv)]

theorem HeapIs.len {A : List Ent} {wh : List Int} {m : Nat} {l : List Ent} (h : HeapIs A wh m l) : A.length = l.length := h.perm.length_eq
theorem HeapIs.head {A : List Ent} {wh : List Int} {m : Nat} {x : Ent} {l : List Ent} (h : HeapIs A wh m (x :: l)) : eg A 0 = x := by
  have hl : 0 < A.length := by rw [h.len]; simp
  have hx : x ∈ A := h.perm.symm.subset (by simp)
  obtain ⟨j, hj, he⟩ := mem_eg hx
  have h1 := h.heap.min j hj
  have h2 : eg A 0 ∈ x :: l := h.perm.subset (eg_mem hl)
  rcases List.mem_cons.1 h2 with e | h2
  · exact e
  · have := (List.pairwise_cons.1 h.sorted).1 _ h2
    rw [he] at h1
    exact absurd (Ent.lt_of_le_of_lt h1 this) (Ent.lt_irrefl _)

/-- The entry of a number. -/
def findE (l : List Ent) (id : Nat) : Option Ent := l.find? (fun e => e.id == id)
def hasE (l : List Ent) (id : Nat) : Bool := l.any (fun e => e.id == id)
def cutE (l : List Ent) (id : Nat) : List Ent := l.filter (fun e => e.id != id)
theorem cutE_sorted {l : List Ent} (h : SortedE l) (id : Nat) : SortedE (cutE l id) := h.filter _

/-- x among entries in order. -/
def insE (x : Ent) : List Ent → List Ent
  | [] => [x]
  | y :: l => if y.lt x then y :: insE x l else x :: y :: l
theorem insE_perm (x : Ent) (l : List Ent) : (insE x l).Perm (x :: l) := by
  induction l with
  | nil => exact List.Perm.refl _
  | cons y l ih =>
    unfold insE; split
    · exact (ih.cons y).trans (List.Perm.swap x y l)
    · exact List.Perm.refl _
theorem insE_sorted {x : Ent} {l : List Ent} (h : SortedE l) (hx : ∀ y ∈ l, y.id ≠ x.id) : SortedE (insE x l) := by
  induction l with
  | nil => simp [insE, SortedE]
  | cons y l ih =>
    have h' := List.pairwise_cons.1 h
    unfold insE; split
    · rename_i hlt
      refine List.pairwise_cons.2 ⟨fun z hz => ?_, ih h'.2 (fun z hz => hx z (by simp [hz]))⟩
      rcases List.mem_cons.1 ((insE_perm x l).subset hz) with e | hz
      · rw [e]; exact hlt
      · exact h'.1 z hz
    · rename_i hlt
      have hxy : x.lt y := by
        have := hx y (by simp)
        unfold Ent.lt at *; omega
      refine List.pairwise_cons.2 ⟨fun z hz => ?_, h⟩
      rcases List.mem_cons.1 hz with e | hz
      · rw [e]; exact hxy
      · exact Ent.lt_trans hxy (h'.1 z hz)
end Go.Proofs.Ytdbiodofofnpgaa
namespace Go.Proofs.Ytdbiodofofnpgaa

theorem eg_take {A : List Ent} {n j : Nat} (h : j < n) : eg (A.take n) j = eg A j := by
  simp [eg, List.getD, List.getElem?_take, h]
theorem eg_snoc_lt {A : List Ent} {e : Ent} {j : Nat} (h : j < A.length) : eg (A ++ [e]) j = eg A j := by
  simp [eg, List.getD, List.getElem?_append_left h]
theorem eg_snoc {A : List Ent} {e : Ent} : eg (A ++ [e]) A.length = e := by
  simp [eg, List.getD]

theorem HeapQ.take {A : List Ent} (h : HeapQ A) (n : Nat) : HeapQ (A.take n) := by
  intro j h0 hj
  simp only [List.length_take] at hj
  have hp := par_lt h0
  rw [eg_take (by omega), eg_take (by omega)]
  exact h j h0 (by omega)

/-- One entry more, at the end. -/
theorem HeapQ.snoc {A : List Ent} (h : HeapQ A) (e : Ent) : SInv (A ++ [e]) A.length ∧ UnderQ (A ++ [e]) A.length := by
  refine ⟨fun j h0 hj => ?_, fun j h0 hj hp => ?_⟩
  · simp only [List.length_append, List.length_cons, List.length_nil] at hj
    have hp := par_lt h0
    refine ⟨fun h1 _ => ?_, fun h1 h2 => by omega⟩
    rw [eg_snoc_lt (by omega), eg_snoc_lt (by omega)]
    exact h j h0 (by omega)
  · simp only [List.length_append, List.length_cons, List.length_nil] at hj
    have := par_lt h0
    omega
theorem WhOk.snoc {A : List Ent} {wh : List Int} {m : Nat} (h : WhOk A wh m) {e : Ent} (he : e.id < m) (hno : ∀ j, j < A.length → (eg A j).id ≠ e.id) : WhEx (A ++ [e]) wh m A.length := by
  have hl : ∀ j, j < (A ++ [e]).length → j < A.length ∨ j = A.length := by intro j hj; simp at hj; omega
  refine ⟨h.len, fun j hj => ?_, fun j k hj hk ee => ?_, fun j hj hne => ?_, fun id hid hn => ?_⟩
  · rcases hl j hj with hj | rfl
    · rw [eg_snoc_lt hj]; exact h.ids j hj
    · rw [eg_snoc]; exact he
  · rcases hl j hj with hj | rfl <;> rcases hl k hk with hk | rfl
    · rw [eg_snoc_lt hj, eg_snoc_lt hk] at ee; exact h.inj j k hj hk ee
    · rw [eg_snoc_lt hj, eg_snoc] at ee; exact absurd ee (hno j hj)
    · rw [eg_snoc_lt hk, eg_snoc] at ee; exact absurd ee.symm (hno k hk)
    · rfl
  · rcases hl j hj with hj | rfl
    · rw [eg_snoc_lt hj]; exact h.at hj
    · exact absurd rfl hne
  · exact h.no id hid (fun j hj => by have := hn j (by simp; omega); rwa [eg_snoc_lt hj] at this)
theorem HeapIs.absent {A : List Ent} {wh : List Int} {m : Nat} {l : List Ent} (h : HeapIs A wh m l) {id : Nat} (hn : hasE l id = false) : ∀ j, j < A.length → (eg A j).id ≠ id := by
  intro j hj e
  have hm := h.perm.subset (eg_mem hj)
  simp only [hasE, List.any_eq_false, beq_iff_eq] at hn
  exact hn _ hm e
theorem HeapIs.wg_no {A : List Ent} {wh : List Int} {m : Nat} {l : List Ent} (h : HeapIs A wh m l) {id : Nat} (hid : id < m) (hn : hasE l id = false) : wg wh id = -1 := h.where_.no id hid (h.absent hn)
theorem HeapIs.wg_yes {A : List Ent} {wh : List Int} {m : Nat} {l : List Ent} (h : HeapIs A wh m l) {id : Nat} (hn : hasE l id = true) : ∃ i, i < A.length ∧ (eg A i).id = id ∧ wg wh id = (i : Int) := by
  simp only [hasE, List.any_eq_true, beq_iff_eq] at hn
  obtain ⟨e, he, hid⟩ := hn
  obtain ⟨i, hi, hie⟩ := mem_eg (h.perm.symm.subset he)
  refine ⟨i, hi, by rw [hie]; exact hid, ?_⟩
  rw [← hid, ← hie]; exact h.where_.at hi
theorem HeapIs.pushed {A A' : List Ent} {wh wh' : List Int} {m : Nat} {l : List Ent} {e : Ent} (h : HeapIs A wh m l) (hn : hasE l e.id = false) (hp : A'.Perm (A ++ [e])) (hh : HeapQ A') (hw : WhOk A' wh' m) : HeapIs A' wh' m (insE e l) := by
  refine ⟨?_, insE_sorted h.sorted (fun y hy e2 => ?_), hh, hw⟩
  · refine hp.trans (List.perm_append_comm.trans ?_)
    exact (h.perm.cons e).trans (insE_perm e l).symm
  · simp only [hasE, List.any_eq_false, beq_iff_eq] at hn
    exact hn y hy e2

theorem perm_set (A : List Ent) (i : Nat) (h : i < A.length) (x : Ent) : (A.set i x).Perm (x :: A.eraseIdx i) := by
  rw [List.set_eq_take_append_cons_drop, if_pos h, List.eraseIdx_eq_take_drop_succ]
  exact List.perm_middle
theorem perm_erase (A : List Ent) (i : Nat) (h : i < A.length) : A.Perm (eg A i :: A.eraseIdx i) := by
  rw [List.eraseIdx_eq_take_drop_succ]
  conv => lhs; rw [← List.take_append_drop i A, List.drop_eq_getElem_cons h, ← eg_of h]
  exact List.perm_middle
/-- Without the entry at i: without its number's. -/
theorem erase_cut {A : List Ent} {wh : List Int} {m : Nat} {l : List Ent} (h : HeapIs A wh m l) {i : Nat} (hi : i < A.length) : (A.eraseIdx i).Perm (cutE l (eg A i).id) := by
  have h1 : (cutE A (eg A i).id).Perm (cutE l (eg A i).id) := h.perm.filter _
  refine List.Perm.trans ?_ h1
  have h2 : (cutE A (eg A i).id).Perm (cutE (eg A i :: A.eraseIdx i) (eg A i).id) := (perm_erase A i hi).filter _
  refine List.Perm.trans ?_ h2.symm
  have h3 : cutE (eg A i :: A.eraseIdx i) (eg A i).id = A.eraseIdx i := by
    unfold cutE
    rw [List.filter_cons]
    simp only [bne_self_eq_false, Bool.false_eq_true, if_false]
    rw [List.filter_eq_self]
    intro y hy
    obtain ⟨k, hk, rfl⟩ := List.getElem_of_mem hy
    rw [List.getElem_eraseIdx]
    simp only [bne_iff_ne, ne_eq]
    have hkl : k < A.length - 1 := by rw [List.length_eraseIdx] at hk; split at hk <;> omega
    split
    · intro e
      rw [← eg_of (by omega)] at e
      have := h.where_.inj _ _ (by omega) hi e; omega
    · intro e
      rw [← eg_of (by omega)] at e
      have := h.where_.inj _ _ (by omega) hi e; omega
  rw [h3]
/-- Another time for one who has one. -/
theorem HeapIs.change {A : List Ent} {wh : List Int} {m : Nat} {l : List Ent} (h : HeapIs A wh m l) {i : Nat} (hi : i < A.length) {e : Ent} (he : (eg A i).id = e.id) : SInv (A.set i e) i ∧ WhOk (A.set i e) wh m := by
  refine ⟨SInv.change h.heap hi e, ?_⟩
  have hid : ∀ j, (eg (A.set i e) j).id = (eg A j).id := by
    intro j; rw [eg_set hi]; split
    · rename_i hj; rw [hj, he]
    · rfl
  have hw := h.where_
  refine ⟨hw.len, fun j hj => ?_, fun j k hj hk ee => ?_, fun j hj _ => ?_, fun id hid2 hn => ?_⟩
  · rw [hid]; exact hw.ids j (by simpa using hj)
  · rw [hid, hid] at ee; exact hw.inj j k (by simpa using hj) (by simpa using hk) ee
  · rw [hid]; exact hw.at (by simpa using hj)
  · exact hw.no id hid2 (fun j hj => by have := hn j (by simpa using hj); rwa [hid] at this)
theorem HeapIs.changed {A A' : List Ent} {wh wh' : List Int} {m : Nat} {l : List Ent} (h : HeapIs A wh m l) {i : Nat} (hi : i < A.length) {e : Ent} (he : (eg A i).id = e.id) (hp : A'.Perm (A.set i e)) (hh : HeapQ A') (hw : WhOk A' wh' m) : HeapIs A' wh' m (insE e (cutE l e.id)) := by
  refine ⟨?_, insE_sorted (cutE_sorted h.sorted _) (fun y hy e2 => ?_), hh, hw⟩
  · have := erase_cut h hi
    rw [he] at this
    exact hp.trans ((perm_set A i hi e).trans ((this.cons e).trans (insE_perm e _).symm))
  · simp only [cutE, List.mem_filter, bne_iff_ne, ne_eq] at hy
    exact hy.2 e2

/-- The last one is gone. -/
theorem HeapIs.cutLast {A : List Ent} {wh : List Int} {m n : Nat} {l : List Ent} (h : HeapIs A wh m l) (hn : A.length = n + 1) : HeapIs (A.take n) (wh.set (eg A n).id (-1)) m (cutE l (eg A n).id) := by
  have hw := h.where_
  have hlen : (A.take n).length = n := by simp; omega
  have hidn := hw.ids n (by omega)
  refine ⟨?_, cutE_sorted h.sorted _, h.heap.take n, ⟨by simpa using hw.len, fun j hj => ?_, fun j k hj hk ee => ?_, fun j hj _ => ?_, fun id hid hno => ?_⟩⟩
  · have := erase_cut h (i := n) (by omega)
    rw [List.eraseIdx_eq_take_drop_succ, List.drop_of_length_le (by omega), List.append_nil] at this
    exact this
  · rw [hlen] at hj; rw [eg_take hj]; exact hw.ids j (by omega)
  · rw [hlen] at hj hk; rw [eg_take hj, eg_take hk] at ee; exact hw.inj j k (by omega) (by omega) ee
  · rw [hlen] at hj
    rw [eg_take hj, wg_set (by rw [hw.len]; exact hidn), if_neg (fun e => by have := hw.inj j n (by omega) (by omega) e; omega)]
    exact hw.at (by omega)
  · rw [wg_set (by rw [hw.len]; exact hidn)]
    split
    · rfl
    · rename_i hne
      refine hw.no id hid (fun j hj e => ?_)
      by_cases ej : j = n
      · subst ej; exact hne e.symm
      · exact hno j (by omega) (by rw [eg_take (by omega)]; exact e)
/-- One in the midst is gone: the last one lies in its place. -/
theorem HeapIs.cutMid {A : List Ent} {wh : List Int} {m n i : Nat} {l : List Ent} (h : HeapIs A wh m l) (hn : A.length = n + 1) (hi : i < n) :
    SInv ((A.take n).set i (eg A n)) i ∧ WhOk ((A.take n).set i (eg A n)) ((wh.set (eg A i).id (-1)).set (eg A n).id (i : Int)) m ∧ ((A.take n).set i (eg A n)).Perm (cutE l (eg A i).id) := by
  have hw := h.where_
  have hlen : (A.take n).length = n := by simp; omega
  have hidn := hw.ids n (by omega)
  have hidi := hw.ids i (by omega)
  have hg : ∀ j, j < n → eg ((A.take n).set i (eg A n)) j = eg A (if j = i then n else j) := by
    intro j hj
    rw [eg_set (by omega)]; split
    · rfl
    · rw [eg_take hj]
  refine ⟨SInv.change (h.heap.take n) (by omega) _, ⟨by simpa using hw.len, fun j hj => ?_, fun j k hj hk ee => ?_, fun j hj _ => ?_, fun id hid hno => ?_⟩, ?_⟩
  · simp only [List.length_set, hlen] at hj
    rw [hg j hj]; exact hw.ids _ (by split <;> omega)
  · simp only [List.length_set, hlen] at hj hk
    rw [hg j hj, hg k hk] at ee
    have := hw.inj _ _ (by split <;> omega) (by split <;> omega) ee
    split at this <;> split at this <;> omega
  · simp only [List.length_set, hlen] at hj
    rw [hg j hj, wg_set (by simpa [hw.len] using hidn)]
    by_cases e : j = i
    · rw [if_pos e, if_pos rfl, e]
    · rw [if_neg e, if_neg (fun e2 => by have := hw.inj j n (by omega) (by omega) e2; omega), wg_set (by rw [hw.len]; exact hidi), if_neg (fun e2 => by have := hw.inj j i (by omega) (by omega) e2; omega)]
      exact hw.at (by omega)
  · have hno' : ∀ j, j < n → (eg A (if j = i then n else j)).id ≠ id := by
      intro j hj e; exact hno j (by simp only [List.length_set, hlen]; exact hj) (by rw [hg j hj]; exact e)
    have hn1 : id ≠ (eg A n).id := by
      intro e; exact hno' i hi (by rw [if_pos rfl]; exact e.symm)
    rw [wg_set (by simpa [hw.len] using hidn), if_neg hn1, wg_set (by rw [hw.len]; exact hidi)]
    split
    · rfl
    · rename_i hne
      refine hw.no id hid (fun j hj e => ?_)
      by_cases ej : j = n
      · subst ej; exact hn1 e.symm
      · by_cases ei : j = i
        · subst ei; exact hne e.symm
        · exact hno' j (by omega) (by rw [if_neg ei]; exact e)
  · have h1 := erase_cut h (i := i) (by omega)
    refine List.Perm.trans ?_ h1
    refine (perm_set _ i (by omega) _).trans ?_
    have e1 : A = A.take n ++ [eg A n] := by
      conv => lhs; rw [← List.take_append_drop n A, List.drop_eq_getElem_cons (by omega), ← eg_of (by omega), List.drop_of_length_le (by omega)]
    have e2 : A.eraseIdx i = (A.take n).eraseIdx i ++ [eg A n] := by
      conv => lhs; rw [e1]
      exact List.eraseIdx_append_of_lt_length (by omega) _
    rw [e2]
    exact (List.perm_append_comm (l₁ := [eg A n])).trans (List.Perm.refl _)
theorem HeapIs.cut {A A' : List Ent} {wh wh' : List Int} {m i : Nat} {l : List Ent} (h : HeapIs A wh m l) (hp : A'.Perm (cutE l (eg A i).id)) (hh : HeapQ A') (hw : WhOk A' wh' m) : HeapIs A' wh' m (cutE l (eg A i).id) :=
  ⟨hp, cutE_sorted h.sorted _, hh, hw⟩

theorem cutE_head {x : Ent} {l : List Ent} (h : ∀ y ∈ l, y.id ≠ x.id) : cutE (x :: l) x.id = l := by
  unfold cutE
  rw [List.filter_cons]
  simp only [bne_self_eq_false, Bool.false_eq_true, if_false]
  rw [List.filter_eq_self]
  intro y hy; simp [h y hy]
theorem HeapIs.ids_ne {A : List Ent} {wh : List Int} {m : Nat} {x : Ent} {l : List Ent} (h : HeapIs A wh m (x :: l)) : ∀ y ∈ l, y.id ≠ x.id := by
  intro y hy e
  obtain ⟨i, hi, hie⟩ := mem_eg (h.perm.symm.subset (List.mem_cons_of_mem x hy))
  have h0 := h.head
  have hl : 0 < A.length := by omega
  have : (eg A i).id = (eg A 0).id := by rw [hie, h0]; exact e
  have := h.where_.inj i 0 hi hl this
  subst this
  rw [h0] at hie
  subst hie
  exact absurd ((List.pairwise_cons.1 h.sorted).1 x hy) (Ent.lt_irrefl _)
theorem heapIs_new (m : Nat) : HeapIs [] (List.replicate m (-1)) m [] := by
  refine ⟨List.Perm.refl _, List.Pairwise.nil, fun j _ hj => by simp at hj, ⟨by simp, fun j hj => by simp at hj, fun j k hj => by simp at hj, fun j hj => by simp at hj, fun id hid _ => ?_⟩⟩
  simp [wg, List.getD, hid]
end Go.Proofs.Ytdbiodofofnpgaa
namespace Go.Proofs.Ytdbiodofofnpgaa

theorem set_eg (A : List Ent) (i : Nat) (hi : i < A.length) : A.set i (eg A i) = A := by
  refine List.ext_getElem? fun j => ?_
  rw [List.getElem?_set]
  by_cases e : i = j
  · subst e; rw [if_pos rfl, if_pos hi, eg_some hi]
  · rw [if_neg e]
theorem set_set_swap (L : List Ent) (k p : Nat) (e : Ent) (hk : k < L.length) (hne : p ≠ k) : swapE (L.set k e) k p = (L.set k (eg L p)).set p e := by
  unfold swapE
  rw [eg_set hk, if_neg hne, eg_set hk, if_pos rfl, List.set_set]

/-- On the way up: the entry e is to lie at k. -/
structure UpS (A0 : List Ent) (i0 m : Nat) (e : Ent) (L : List Ent) (wh : List Int) (k : Nat) : Prop where
  len : L.length = A0.length
  lt : k < A0.length
  inv : SInv (L.set k e) k
  ex : WhEx (L.set k e) wh m k
  perm : (L.set k e).Perm A0
  und : UnderQ A0 i0 → UnderQ (L.set k e) k
  idb : e.id < m

theorem UpS.start {A : List Ent} {wh : List Int} {m i : Nat} (hi : i < A.length) (hs : SInv A i) (hw : WhEx A wh m i) : UpS A i m (eg A i) A wh i := by
  have e := set_eg A i hi
  exact ⟨rfl, hi, by rw [e]; exact hs, by rw [e]; exact hw, by rw [e], fun h => by rw [e]; exact h, hw.ids i hi⟩
theorem UpS.step {A0 L : List Ent} {wh : List Int} {i0 m k : Nat} {e : Ent} (h : UpS A0 i0 m e L wh k) (hk : 0 < k) (hlt : e.lt (eg L (par k))) :
    UpS A0 i0 m e (L.set k (eg L (par k))) (wh.set (eg L (par k)).id (k : Int)) (par k) := by
  have hp := par_lt hk
  have hl := h.len
  have hkl := h.lt
  have hA : (L.set k e).length = A0.length := by simpa using hl
  have e1 := set_set_swap L k (par k) e (by omega) (by omega)
  have e2 : eg (L.set k e) k = e := by rw [eg_set (by omega), if_pos rfl]
  have e3 : eg (L.set k e) (par k) = eg L (par k) := by rw [eg_set (by omega), if_neg (by omega)]
  have hlt' : (eg (L.set k e) k).lt (eg (L.set k e) (par k)) := by rw [e2, e3]; exact hlt
  refine ⟨by simpa using hl, by omega, ?_, ?_, ?_, fun _ => ?_, h.idb⟩
  · rw [← e1]; exact h.inv.up hk (by omega) hlt'
  · rw [← e1]
    have := h.ex.move (p := par k) (by omega) (by omega) (by omega)
    rwa [e3] at this
  · rw [← e1]; exact (swapE_perm (by omega) (by omega)).trans h.perm
  · rw [← e1]; exact UnderQ.up hk (by omega) h.inv hlt'
theorem UpS.done {A0 L : List Ent} {wh : List Int} {i0 m k : Nat} {e : Ent} (h : UpS A0 i0 m e L wh k) (hd : k = 0 ∨ (eg L (par k)).le e) :
    (L.set k e).Perm A0 ∧ SInv (L.set k e) k ∧ OverQ (L.set k e) k ∧ (UnderQ A0 i0 → UnderQ (L.set k e) k) ∧ WhOk (L.set k e) (wh.set e.id (k : Int)) m ∧ (L.set k e).length = A0.length ∧ eg (L.set k e) k = e := by
  have hl := h.len
  have hkl := h.lt
  have hA : (L.set k e).length = A0.length := by simpa using hl
  have e2 : eg (L.set k e) k = e := by rw [eg_set (by omega), if_pos rfl]
  refine ⟨h.perm, h.inv, fun h0 => ?_, h.und, ?_, hA, e2⟩
  · have hp := par_lt h0
    rw [e2, eg_set (by omega), if_neg (by omega)]
    rcases hd with hd | hd
    · omega
    · exact hd
  · have := h.ex.close (by omega)
    rwa [e2] at this

/-- On the way down. -/
structure DnS (A0 : List Ent) (m : Nat) (e : Ent) (L : List Ent) (wh : List Int) (k : Nat) : Prop where
  len : L.length = A0.length
  lt : k < A0.length
  inv : DInv (L.set k e) k
  ex : WhEx (L.set k e) wh m k
  perm : (L.set k e).Perm A0
  idb : e.id < m
theorem DnS.start {A : List Ent} {wh : List Int} {m i : Nat} (hi : i < A.length) (hs : DInv A i) (hw : WhEx A wh m i) : DnS A m (eg A i) A wh i := by
  have e := set_eg A i hi
  exact ⟨rfl, hi, by rw [e]; exact hs, by rw [e]; exact hw, by rw [e], hw.ids i hi⟩
theorem par_iff {j k : Nat} (h0 : 0 < j) : par j = k ↔ j = 2 * k + 1 ∨ j = 2 * k + 2 := by unfold par; omega
theorem DnS.step {A0 L : List Ent} {wh : List Int} {m k b : Nat} {e : Ent} (h : DnS A0 m e L wh k) (hb : b < A0.length) (hp : b = 2 * k + 1 ∨ b = 2 * k + 2)
    (hmin : ∀ j, (j = 2 * k + 1 ∨ j = 2 * k + 2) → j < A0.length → (eg L b).le (eg L j)) (hlt : (eg L b).lt e) :
    DnS A0 m e (L.set k (eg L b)) (wh.set (eg L b).id (k : Int)) b := by
  have hl := h.len
  have hkl := h.lt
  have h0 : 0 < b := by omega
  have hpb : par b = k := (par_iff h0).2 hp
  have hA : (L.set k e).length = A0.length := by simpa using hl
  have e1 := set_set_swap L k b e (by omega) (by omega)
  have e2 : eg (L.set k e) k = e := by rw [eg_set (by omega), if_pos rfl]
  have e3 : ∀ j, j ≠ k → eg (L.set k e) j = eg L j := by intro j hj; rw [eg_set (by omega), if_neg hj]
  refine ⟨by simpa using hl, hb, ?_, ?_, ?_, h.idb⟩
  · rw [← e1]
    refine h.inv.down h0 (by omega) hpb (fun j hj0 hj hpj => ?_) ?_
    · have hj2 := (par_iff hj0).1 hpj
      rw [e3 _ (by omega), e3 _ (by omega)]
      exact hmin j hj2 (by omega)
    · rw [e2, e3 _ (by omega)]; exact hlt
  · rw [← e1]
    have := h.ex.move (p := b) (by omega) (by omega) (by omega)
    rwa [e3 _ (by omega)] at this
  · rw [← e1]; exact (swapE_perm (by omega) (by omega)).trans h.perm
theorem DnS.done {A0 L : List Ent} {wh : List Int} {m k : Nat} {e : Ent} (h : DnS A0 m e L wh k) (hd : ∀ j, (j = 2 * k + 1 ∨ j = 2 * k + 2) → j < A0.length → e.le (eg L j)) :
    (L.set k e).Perm A0 ∧ HeapQ (L.set k e) ∧ WhOk (L.set k e) (wh.set e.id (k : Int)) m ∧ (L.set k e).length = A0.length := by
  have hl := h.len
  have hkl := h.lt
  have hA : (L.set k e).length = A0.length := by simpa using hl
  have e2 : eg (L.set k e) k = e := by rw [eg_set (by omega), if_pos rfl]
  refine ⟨h.perm, h.inv.done (fun j h0 hj hp => ?_), ?_, hA⟩
  · have hj2 := (par_iff h0).1 hp
    rw [e2, eg_set (by omega), if_neg (by omega)]
    exact hd j hj2 (by omega)
  · have := h.ex.close (by omega)
    rwa [e2] at this

/-- What stays of two entries compared. -/
def cmpE (a b : Ent) : Int := if a.lt b then -1 else if b.lt a then 1 else 0
theorem cmpE_le {a b : Ent} : cmpE a b ≤ 0 ↔ a.le b := by
  unfold cmpE; split
  · rename_i h; simp [Ent.le_of_lt h]
  · rename_i h; split
    · rename_i h2; simp only [Ent.le, Ent.lt] at *; omega
    · rename_i h2; simp only [Ent.le, Ent.lt] at *; omega
theorem cmpE_lt {a b : Ent} : cmpE a b < 0 ↔ a.lt b := by
  unfold cmpE; split
  · rename_i h; simp [h]
  · rename_i h; split <;> simp [h]
theorem cmpE_bounds (a b : Ent) : -1 ≤ cmpE a b ∧ cmpE a b ≤ 1 := by unfold cmpE; (repeat split) <;> omega
end Go.Proofs.Ytdbiodofofnpgaa
namespace Go.Proofs.Ytdbiodofofnpgaa
open Go.RowKit

def Ent.cells (e : Ent) : List Value := [.int .i64 e.t, .int .i64 (e.id : Int)]
def Ent.val (e : Ent) : Value := .agg #[.int .i64 e.t, .int .i64 (e.id : Int)]
def entCells (A : List Ent) : List Value := A.flatMap Ent.cells
theorem entCells_length (A : List Ent) : (entCells A).length = A.length * 2 := by
  induction A with
  | nil => rfl
  | cons x l ih => simp only [entCells, List.flatMap_cons, List.length_append, List.length_cons] at ih ⊢; rw [ih]; simp [Ent.cells]; omega
theorem entCells_append (a b : List Ent) : entCells (a ++ b) = entCells a ++ entCells b := by simp [entCells]
theorem entCells_get (l : List Ent) (k : Nat) (h : k < l.length) (j : Nat) (hj : j < 2) : (entCells l)[k * 2 + j]? = (eg l k).cells[j]? := by
  induction l generalizing k with
  | nil => simp at h
  | cons x l ih =>
    rw [show entCells (x :: l) = x.cells ++ entCells l from rfl]
    cases k with
    | zero => rw [List.getElem?_append_left (by simp [Ent.cells]; omega)]; simp [eg]
    | succ k =>
      rw [List.getElem?_append_right (by simp [Ent.cells]; omega), show (Ent.cells x).length = 2 from rfl, show (k + 1) * 2 + j - 2 = k * 2 + j from by omega]
      rw [ih k (by simpa using h)]
      simp [eg]
theorem entCells_set (l : List Ent) (k : Nat) (e : Ent) : ((entCells l).set (k * 2) (.int .i64 e.t)).set (k * 2 + 1) (.int .i64 (e.id : Int)) = entCells (l.set k e) := by
  induction l generalizing k with
  | nil => rfl
  | cons x l ih =>
    cases k with
    | zero => rfl
    | succ k =>
      rw [show entCells (x :: l) = .int .i64 x.t :: .int .i64 (x.id : Int) :: entCells l from rfl, show (k + 1) * 2 = k * 2 + 1 + 1 from by omega]
      simp only [List.set_cons_succ]
      rw [ih k]; rfl
theorem entCells_take (l : List Ent) (k : Nat) : entCells (l.take k) = (entCells l).take (k * 2) := by
  induction l generalizing k with
  | nil => simp [entCells]
  | cons x l ih =>
    cases k with
    | zero => rfl
    | succ k =>
      rw [List.take_succ_cons, show entCells (x :: l.take k) = .int .i64 x.t :: .int .i64 (x.id : Int) :: entCells (l.take k) from rfl,
        show entCells (x :: l) = .int .i64 x.t :: .int .i64 (x.id : Int) :: entCells l from rfl, show (k + 1) * 2 = k * 2 + 1 + 1 from by omega, ih k]
      simp only [List.take_succ_cons]

/-- The heap's memory. -/
structure HpR (w : World) (g gw m : Nat) (v : Value) (n : Nat) (L : List Ent) (wh : List Int) : Prop where
  blk : Blk w g 167 #[v, .slice (some ⟨gw, 0, none⟩) m m]
  row : w.ownsRow 0 114 2 v n (entCells L)
  whe : w.ownsRow 0 3 1 (.slice (some ⟨gw, 0, none⟩) m m) m (intCells wh)
/-- Its blocks. -/
def HpF (g gw : Nat) (v : Value) (x : Nat) : Prop := x = g ∨ x = gw ∨ v.ownBlock = some x

theorem HpR.len {w : World} {g gw m : Nat} {v : Value} {n : Nat} {L : List Ent} {wh : List Int} (h : HpR w g gw m v n L wh) : L.length = n := by
  have := h.row.1; rw [entCells_length] at this; omega
theorem HpR.wlen {w : World} {g gw m : Nat} {v : Value} {n : Nat} {L : List Ent} {wh : List Int} (h : HpR w g gw m v n L wh) : wh.length = m := by
  have := h.whe.1; rwa [intCells_length, Nat.mul_one] at this
theorem HpR.lt {w : World} {g gw m : Nat} {v : Value} {n : Nat} {L : List Ent} {wh : List Int} (h : HpR w g gw m v n L wh) : ∀ x, HpF g gw v x → x < w.heap.size := by
  rintro x (rfl | rfl | hx)
  · exact h.blk.lt
  · exact (h.whe.lt x rfl).2
  · exact (h.row.lt x hx).2
theorem HpR.keep {G : Nat → Prop} {w w' : World} {g gw m : Nat} {v : Value} {n : Nat} {L : List Ent} {wh : List Int} (h : HpR w g gw m v n L wh) (hk : Keep G w w') (hd : ∀ x, HpF g gw v x → ¬ G x) : HpR w' g gw m v n L wh :=
  ⟨hk.blk h.blk (hd g (.inl rfl)), hk.own h.row (fun k hk => hd k (.inr (.inr hk))), hk.own h.whe (fun k hk => hd k (.inr (.inl (by simpa [Value.ownBlock] using hk.symm))))⟩
theorem HpR.below {w w' : World} {g gw m : Nat} {v : Value} {n : Nat} {L : List Ent} {wh : List Int} (h : HpR w g gw m v n L wh) (hb : Below w.heap.size w w') : HpR w' g gw m v n L wh :=
  h.keep (Keep.of_below (F := fun _ => False) hb) (fun _ _ hf => hf)
theorem HpR.setWh {w : World} {g gw m : Nat} {v : Value} {n : Nat} {L : List Ent} {wh : List Int} (h : HpR w g gw m v n L wh) (k : Nat) (x : Int) :
    HpR (w.setCell ⟨gw, k, none⟩ (.int .i64 x)) g gw m v n L (wh.set k x) := by
  have h1 : (Value.slice (some ⟨gw, 0, none⟩) m m).ownBlock ≠ some g := blk_ne h.blk h.whe (by decide)
  have h2 := own_ne h.row h.whe (by decide)
  refine ⟨h.blk.set_far (fun e => h1 (by simp [Value.ownBlock, e])), ?_, ?_⟩
  · exact h.row.kept (row := some gw) ⟨rfl, rfl, rfl, by simp, fun q _ hq => Below.heap_setCell w ⟨gw, k, none⟩ _ q (fun e => hq (by rw [e]))⟩ (by simpa [Value.ownBlock] using h2)
  · have := (h.whe.stored k (.int .i64 x)).1
    rwa [show (intCells wh).set k (.int .i64 x) = intCells (wh.set k x) from by simp [intCells, List.map_set]] at this
/-- Entry k turned. -/
theorem HpR.setEnt {w : World} {g gw m : Nat} {ge c : Nat} {n : Nat} {L : List Ent} {wh : List Int} (h : HpR w g gw m (.slice (some ⟨ge, 0, none⟩) n c) n L wh) (k : Nat) (e : Ent) :
    HpR ((w.setCell ⟨ge, k * 2, none⟩ (.int .i64 e.t)).setCell ⟨ge, k * 2 + 1, none⟩ (.int .i64 (e.id : Int))) g gw m (.slice (some ⟨ge, 0, none⟩) n c) n (L.set k e) wh := by
  have h1 : (Value.slice (some ⟨ge, 0, none⟩) n c).ownBlock ≠ some g := blk_ne h.blk h.row (by decide)
  have h2 := own_ne h.whe h.row (by decide)
  have hne : g ≠ ge := fun e => h1 (by simp [Value.ownBlock, e])
  have hne2 : (Value.slice (some ⟨gw, 0, none⟩) m m).ownBlock ≠ some ge := by simpa [Value.ownBlock] using h2
  refine ⟨(h.blk.set_far hne).set_far hne, ?_, own_kept_set (own_kept_set h.whe _ _ hne2) _ _ hne2⟩
  have a := (h.row.stored (k * 2) (.int .i64 e.t)).1
  have b := (a.stored (k * 2 + 1) (.int .i64 (e.id : Int))).1
  rwa [entCells_set] at b
theorem HpR.ent {w : World} {g gw m : Nat} {v : Value} {n : Nat} {L : List Ent} {wh : List Int} (h : HpR w g gw m v n L wh) (h0 : 0 < n) : ∃ ge c, v = .slice (some ⟨ge, 0, none⟩) n c ∧ n ≤ c := by
  rcases h.row.2 with ⟨_, hn⟩ | ⟨ge, c, cur, hv, hb, _, hn, _⟩
  · omega
  · exact ⟨ge, c, hv, hn⟩
end Go.Proofs.Ytdbiodofofnpgaa
namespace Go.Proofs.Ytdbiodofofnpgaa

def neverT : Int := 9223372036854775807
def ownT (t : Int) : Int := if t < 0 then 0 else t
def dueT (t now : Int) : Bool := decide (t ≠ neverT) && decide (ownT t ≤ ownT now)
def setE (l : List Ent) (id : Nat) (at_ : Int) : List Ent := if at_ = neverT then cutE l id else insE ⟨ownT at_, id⟩ (cutE l id)
def duesE (now : Int) (l : List Ent) : List Ent := l.takeWhile fun e => dueT e.t now
def restE (now : Int) (l : List Ent) : List Ent := l.dropWhile fun e => dueT e.t now
theorem dues_rest (now : Int) (l : List Ent) : duesE now l ++ restE now l = l := List.takeWhile_append_dropWhile
theorem duesE_cons (now : Int) (e : Ent) (l : List Ent) : duesE now (e :: l) = if dueT e.t now then e :: duesE now l else [] := by
  unfold duesE; rw [List.takeWhile_cons]
theorem restE_cons (now : Int) (e : Ent) (l : List Ent) : restE now (e :: l) = if dueT e.t now then restE now l else e :: l := by
  unfold restE; rw [List.dropWhile_cons]
theorem restE_head (now : Int) (l : List Ent) (e : Ent) (r : List Ent) (h : restE now l = e :: r) : dueT e.t now = false := by
  induction l with
  | nil => simp [restE] at h
  | cons y l ih =>
    rw [restE_cons] at h
    split at h
    · exact ih h
    · rename_i hy; injection h with h1 _; rw [← h1]; simpa using hy
theorem restE_none {now : Int} {l : List Ent} (hs : SortedE l) (hn : ∀ e ∈ l, e.t ≠ neverT ∧ 0 ≤ e.t) : ∀ e ∈ restE now l, dueT e.t now = false := by
  intro e he
  cases hr : restE now l with
  | nil => rw [hr] at he; simp at he
  | cons x r =>
    have hx := restE_head now l x r hr
    rw [hr] at he
    rcases List.mem_cons.1 he with e1 | e1
    · rw [e1]; exact hx
    · have hsub : (x :: r).Sublist l := by rw [← hr]; exact (List.dropWhile_suffix _).sublist
      have h2 := (List.pairwise_cons.1 (hs.sublist hsub)).1 e e1
      have nx := hn x (hsub.subset (by simp))
      have ne := hn e (hsub.subset (by simp [e1]))
      unfold dueT ownT at *
      unfold Ent.lt at h2
      simp only [Bool.and_eq_false_iff, decide_eq_false_iff_not] at hx ⊢
      rcases hx with hx | hx
      · exact absurd nx.1 hx
      · right; intro hle; apply hx
        split <;> split <;> split at hle <;> (try split at hle) <;> omega
theorem duesE_all {now : Int} {l : List Ent} : ∀ e ∈ duesE now l, dueT e.t now = true := by
  intro e he
  induction l with
  | nil => simp [duesE] at he
  | cons y l ih =>
    rw [duesE_cons] at he
    split at he
    · rename_i hy
      rcases List.mem_cons.1 he with e1 | e1
      · rw [e1]; exact hy
      · exact ih e1
    · simp at he
theorem restE_sorted {now : Int} {l : List Ent} (hs : SortedE l) : SortedE (restE now l) := hs.sublist (List.dropWhile_suffix _).sublist

theorem mem_cutE {l : List Ent} {id : Nat} {e : Ent} : e ∈ cutE l id ↔ e ∈ l ∧ e.id ≠ id := by simp [cutE]
theorem mem_insE {x : Ent} {l : List Ent} {e : Ent} : e ∈ insE x l ↔ e = x ∨ e ∈ l := by
  have := (insE_perm x l).mem_iff (a := e)
  rw [this]; simp
theorem insE_length (x : Ent) (l : List Ent) : (insE x l).length = l.length + 1 := by
  rw [(insE_perm x l).length_eq]; rfl
theorem setE_sorted {l : List Ent} (h : SortedE l) (id : Nat) (a : Int) : SortedE (setE l id a) := by
  unfold setE; split
  · exact cutE_sorted h id
  · exact insE_sorted (cutE_sorted h id) (fun y hy => (mem_cutE.1 hy).2)
theorem mem_setE {l : List Ent} {id : Nat} {a : Int} {e : Ent} : e ∈ setE l id a ↔ (e ∈ l ∧ e.id ≠ id) ∨ (a ≠ neverT ∧ e = ⟨ownT a, id⟩) := by
  unfold setE; split
  · rename_i h; simp [mem_cutE, h]
  · rename_i h; rw [mem_insE, mem_cutE]
    constructor
    · rintro (h1 | h1)
      · exact .inr ⟨h, h1⟩
      · exact .inl h1
    · rintro (h1 | ⟨_, h1⟩)
      · exact .inr h1
      · exact .inl h1
theorem cutE_none {l : List Ent} {id : Nat} (h : ∀ e ∈ l, e.id ≠ id) : cutE l id = l := by
  unfold cutE; rw [List.filter_eq_self]; intro e he; simp [h e he]
theorem ids_unique {l : List Ent} (h : l.Pairwise (fun a b => a.id ≠ b.id)) {a b : Ent} (ha : a ∈ l) (hb : b ∈ l) (e : a.id = b.id) : a = b := by
  induction l with
  | nil => simp at ha
  | cons x l ih =>
    have h' := List.pairwise_cons.1 h
    rcases List.mem_cons.1 ha with e1 | ha <;> rcases List.mem_cons.1 hb with e2 | hb
    · rw [e1, e2]
    · rw [e1] at e; exact absurd e (h'.1 b hb)
    · rw [e2] at e; exact absurd e.symm (h'.1 a ha)
    · exact ih h'.2 ha hb
theorem HeapIs.idsNe {A : List Ent} {wh : List Int} {m : Nat} {l : List Ent} (h : HeapIs A wh m l) {a b : Ent} (ha : a ∈ l) (hb : b ∈ l) (e : a.id = b.id) : a = b := by
  obtain ⟨i, hi, hie⟩ := mem_eg (h.perm.symm.subset ha)
  obtain ⟨j, hj, hje⟩ := mem_eg (h.perm.symm.subset hb)
  have := h.where_.inj i j hi hj (by rw [hie, hje]; exact e)
  subst this
  rw [← hie, ← hje]

/-! ### Deadlines of all from 0 on, each set once -/
structure AllSet (ats : List Int) (k : Nat) (l : List Ent) (n : Nat) : Prop where
  mem : ∀ e, e ∈ l ↔ e.id < k ∧ ats.getD e.id 0 ≠ neverT ∧ e.t = ownT (ats.getD e.id 0)
  len : l.length = n
theorem allSet_zero (ats : List Int) : AllSet ats 0 [] 0 := ⟨fun e => by simp, rfl⟩
theorem AllSet.step {ats : List Int} {k : Nat} {l : List Ent} {n : Nat} (h : AllSet ats k l n) :
    AllSet ats (k + 1) (setE l k (ats.getD k 0)) (if ats.getD k 0 = neverT then n else n + 1) := by
  have hc : cutE l k = l := cutE_none (fun e he => by have := ((h.mem e).1 he).1; omega)
  refine ⟨fun e => ?_, ?_⟩
  · rw [mem_setE, h.mem e]
    constructor
    · rintro (⟨⟨h1, h2⟩, h3⟩ | ⟨h1, rfl⟩)
      · exact ⟨by omega, h2⟩
      · exact ⟨by simp, h1, rfl⟩
    · rintro ⟨h1, h2, h3⟩
      by_cases e1 : e.id = k
      · right; rw [e1] at h2 h3; exact ⟨h2, Ent.eq_of h3 e1⟩
      · left; exact ⟨⟨by omega, h2, h3⟩, e1⟩
  · unfold setE; rw [hc]
    split
    · exact h.len
    · rw [insE_length, h.len]
theorem hasE_iff {l : List Ent} {id : Nat} : hasE l id = true ↔ ∃ e ∈ l, e.id = id := by simp [hasE]
/-- Who has a deadline behind Due. -/
theorem AllSet.has_rest {ats : List Int} {k : Nat} {l : List Ent} {n : Nat} {now : Int} (h : AllSet ats k l n) (hs : SortedE l) {i : Nat} (hi : i < k) :
    hasE (restE now l) i = !(dueT (ats.getD i 0) now || decide (ats.getD i 0 = neverT)) := by
  have hown : ∀ t : Int, t ≠ neverT → ownT t ≠ neverT ∧ 0 ≤ ownT t := by intro t ht; unfold ownT neverT at *; split <;> omega
  have hd : ∀ t : Int, t ≠ neverT → dueT (ownT t) now = dueT t now := by
    intro t ht
    have h1 := hown t ht
    have h2 : ownT (ownT t) = ownT t := by
      have h3 := h1.2
      generalize ownT t = y at *
      unfold ownT; rw [if_neg (by omega)]
    unfold dueT
    rw [decide_eq_true h1.1, decide_eq_true ht, h2]
  have hnn : ∀ e ∈ l, e.t ≠ neverT ∧ 0 ≤ e.t := by intro e he; have := (h.mem e).1 he; rw [this.2.2]; exact hown _ this.2.1
  rw [Bool.eq_iff_iff, hasE_iff]
  simp only [Bool.not_eq_true', Bool.or_eq_false_iff, decide_eq_false_iff_not]
  constructor
  · rintro ⟨e, he, rfl⟩
    have hl : e ∈ l := by rw [← dues_rest now l]; simp [he]
    have h1 := (h.mem e).1 hl
    have h2 := restE_none hs hnn e he
    rw [h1.2.2, hd _ h1.2.1] at h2
    exact ⟨h2, h1.2.1⟩
  · rintro ⟨h1, h2⟩
    have hm : (⟨ownT (ats.getD i 0), i⟩ : Ent) ∈ l := (h.mem _).2 ⟨hi, h2, rfl⟩
    rw [← dues_rest now l] at hm
    rcases List.mem_append.1 hm with hm | hm
    · have := duesE_all _ hm
      rw [hd _ h2, h1] at this; cases this
    · exact ⟨_, hm, rfl⟩
/-- Who is told due. -/
theorem AllSet.due {ats : List Int} {k : Nat} {l : List Ent} {n : Nat} {now : Int} (h : AllSet ats k l n) {e : Ent} (he : e ∈ duesE now l) :
    e.id < k ∧ dueT (ats.getD e.id 0) now = true := by
  have hl : e ∈ l := by rw [← dues_rest now l]; simp [he]
  have h1 := (h.mem e).1 hl
  have h2 := duesE_all e he
  refine ⟨h1.1, ?_⟩
  rw [h1.2.2] at h2
  have h3 := h1.2.1
  generalize ats.getD e.id 0 = t at *
  unfold dueT ownT at *
  simp only [Bool.and_eq_true, decide_eq_true_eq] at h2 ⊢
  refine ⟨h3, ?_⟩
  obtain ⟨_, h2⟩ := h2
  split at h2 <;> split at h2 <;> split <;> omega
end Go.Proofs.Ytdbiodofofnpgaa
namespace Go.Proofs.Ytdbiodofofnpgaa
open Go.RowKit

theorem isNaN_any (x : Int) (w : World) : Calls Try.prog 182 #[.int .i64 x] w fun e w' => e = .returned (.bool false) ∧ w = w' := by
  go_enter Try.func182, Try.ntmps182
  go_wp2
  go_ret
  exact ⟨by simp, rfl⟩
theorem isNaN64_any (x : Int) (w : World) : Calls Try.prog 181 #[.int .i64 x] w fun e w' => e = .returned (.bool false) ∧ w = w' := by
  go_enter Try.func181, Try.ntmps181
  go_wp2
  go_ret
  exact ⟨by simp, rfl⟩

def cmpI (x y : Int) : Int := if x < y then -1 else if y < x then 1 else 0
theorem compare_any (x y : Int) (w : World) : Calls Try.prog 148 #[.int .i64 x, .int .i64 y] w fun e w' => e = .returned (.int .i64 (cmpI x y)) ∧ w = w' := by
  by_cases h : x < y
  · go_enter Try.func148, Try.ntmps148
    go_wp2_with (go_at_call 182; refine (isNaN_any _ _).mono ?_; rintro e w1 ⟨rfl, rfl⟩)
    go_ret
    exact ⟨by simp [cmpI, h], rfl⟩
  · by_cases h2 : y < x
    all_goals
      go_enter Try.func148, Try.ntmps148
      go_wp2_with (go_at_call 182; refine (isNaN_any _ _).mono ?_; rintro e w1 ⟨rfl, rfl⟩)
      go_ret
      exact ⟨by unfold cmpI; first | (rw [if_neg (by omega), if_pos (by omega)] <;> rfl) | (rw [if_neg (by omega), if_neg (by omega)] <;> rfl), rfl⟩
theorem compare64_any (x y : Int) (w : World) : Calls Try.prog 147 #[.int .i64 x, .int .i64 y] w fun e w' => e = .returned (.int .i64 (cmpI x y)) ∧ w = w' := by
  by_cases h : x < y
  · go_enter Try.func147, Try.ntmps147
    go_wp2_with (go_at_call 181; refine (isNaN64_any _ _).mono ?_; rintro e w1 ⟨rfl, rfl⟩)
    go_ret
    exact ⟨by simp [cmpI, h], rfl⟩
  · by_cases h2 : y < x
    all_goals
      go_enter Try.func147, Try.ntmps147
      go_wp2_with (go_at_call 181; refine (isNaN64_any _ _).mono ?_; rintro e w1 ⟨rfl, rfl⟩)
      go_ret
      exact ⟨by unfold cmpI; first | (rw [if_neg (by omega), if_pos (by omega)] <;> rfl) | (rw [if_neg (by omega), if_neg (by omega)] <;> rfl), rfl⟩

def orI (x y : Int) : Int := if x = 0 then y else x
theorem or_any (g c : Nat) (x y : Int) (w : World) (h0 : w.cell? ⟨g, 0, none⟩ = some (.int .i64 x)) (h1 : w.cell? ⟨g, 1, none⟩ = some (.int .i64 y)) :
    Calls Try.prog 146 #[.slice (some ⟨g, 0, none⟩) 2 c] w fun e w' => e = .returned (.int .i64 (orI x y)) ∧ w = w' := by
  by_cases hx : x = 0
  · subst hx
    by_cases hy : y = 0
    · subst hy
      go_enter Try.func146, Try.ntmps146
      go_wp2
      go_loop [8] (fun i => ∃ k : Nat, k ≤ 2 ∧ i = .int .i64 k) (fun i => 2 - (intOf i).toNat)
      case atStart => exact ⟨0, by omega, rfl⟩
      case round =>
        obtain ⟨k, hk, rfl⟩ := hrel
        match k, hk with
        | 0, _ =>
          go_wp2
          go_round
          case rel => exact ⟨1, by omega, rfl⟩
          case measure => simp [intOf]
        | 1, _ =>
          go_wp2
          go_round
          case rel => exact ⟨2, by omega, rfl⟩
          case measure => simp [intOf]
        | 2, _ =>
          go_wp2
          go_ret
          exact ⟨by simp [orI], rfl⟩
    · have hy2 : (y == 0) = false := by simpa using hy
      go_enter Try.func146, Try.ntmps146
      go_wp2
      go_loop [8] (fun i => ∃ k : Nat, k ≤ 1 ∧ i = .int .i64 k) (fun i => 2 - (intOf i).toNat)
      case atStart => exact ⟨0, by omega, rfl⟩
      case round =>
        obtain ⟨k, hk, rfl⟩ := hrel
        match k, hk with
        | 0, _ =>
          go_wp2
          go_round
          case rel => exact ⟨1, by omega, rfl⟩
          case measure => simp [intOf]
        | 1, _ =>
          go_wp2
          go_ret
          exact ⟨by simp [orI], rfl⟩
  · have hx2 : (x == 0) = false := by simpa using hx
    go_enter Try.func146, Try.ntmps146
    go_wp2
    go_loop [8] (fun i => i = .int .i64 0) (fun i => 2 - (intOf i).toNat)
    case atStart => rfl
    case round =>
      obtain rfl := hrel
      go_wp2
      go_ret
      exact ⟨by simp [orI, hx], rfl⟩

theorem cmpE_or (a b : Ent) : orI (cmpI a.t b.t) (cmpI a.id b.id) = cmpE a b := by
  unfold orI cmpI cmpE Ent.lt
  repeat' split
  all_goals omega
set_option maxRecDepth 20000 in
theorem order_any (a b : Ent) (w : World) :
    Calls Try.prog 123 #[.agg #[.int .i64 a.t, .int .i64 (a.id : Int)], .agg #[.int .i64 b.t, .int .i64 (b.id : Int)]] w fun e w' => e = .returned (.int .i64 (cmpE a b)) ∧ Below w.heap.size w w' := by
  have HC := hid (cmpE_or a b)
  obtain ⟨at_, aid⟩ := a
  obtain ⟨bt, bid⟩ := b
  go_enter Try.func123, Try.ntmps123
  go_wp2_with fail
  refine wp_region_tail 10 (by kernel_rfl) (by kernel_rfl) ?_
  simp only [List.take_succ_cons, List.take_zero, List.drop_succ_cons, List.drop_zero]
  repeat still_step
  still_call (Calls.same (compare64_any _ _ _))
  repeat still_step
  still_call (Calls.same (compare_any _ _ _))
  refine wpStill_nil ?_
  go_wp2_with (go_at_call 146; go_loud (refine (or_any (w.heap.size + 1 + 1) _ (cmpI at_ bt) (cmpI aid bid) _ (by go_simp) (by go_simp)).mono ?_; rintro e w1 ⟨rfl, rfl⟩))
  go_ret
  refine ⟨by rw [← HC.out]; rfl, ?_⟩
  exact ((((Below.refl _ _).alloc (Nat.le_refl _) _).alloc (by simp) _).trans ((drewN_below _ 1).mono (by simp; omega))).alloc (by simp; omega) _
end Go.Proofs.Ytdbiodofofnpgaa
namespace Go.Proofs.Ytdbiodofofnpgaa
open Go.RowKit

theorem HpR.cell_ent {w : World} {g gw m ge c n : Nat} {L : List Ent} {wh : List Int} (h : HpR w g gw m (.slice (some ⟨ge, 0, none⟩) n c) n L wh) {i : Nat} (hi : i < n) :
    w.cell? ⟨ge, i * 2, none⟩ = some (.int .i64 (eg L i).t) ∧ w.cell? ⟨ge, i * 2 + 1, none⟩ = some (.int .i64 ((eg L i).id : Int)) ∧ w.frozen? ⟨ge, i * 2, none⟩ = false ∧ w.frozen? ⟨ge, i * 2 + 1, none⟩ = false := by
  have hl := h.len
  have h0 := entCells_get L i (by omega) 0 (by omega)
  have h1 := entCells_get L i (by omega) 1 (by omega)
  refine ⟨?_, ?_, h.row.frozenAt _, h.row.frozenAt _⟩
  · exact (h.row.cellAt (i * 2) (by omega)).trans h0
  · exact (h.row.cellAt (i * 2 + 1) (by omega)).trans h1
theorem HpR.cell_wh {w : World} {g gw m n : Nat} {v : Value} {L : List Ent} {wh : List Int} (h : HpR w g gw m v n L wh) {i : Nat} (hi : i < m) :
    w.cell? ⟨gw, i, none⟩ = some (.int .i64 (wg wh i)) ∧ w.frozen? ⟨gw, i, none⟩ = false := by
  have hl := h.wlen
  refine ⟨(h.whe.cellAt i (by omega)).trans ?_, h.whe.frozenAt _⟩
  rw [intCells_get _ _ (by omega)]
  have := wg_some (wh := wh) (i := i) (by omega)
  rw [List.getElem?_eq_getElem (by omega)] at this
  injection this with this
  rw [this]
theorem HpR.fields {w : World} {g gw m n : Nat} {v : Value} {L : List Ent} {wh : List Int} (h : HpR w g gw m v n L wh) :
    w.cell? ⟨g, 0, none⟩ = some v ∧ w.cell? ⟨g, 1, none⟩ = some (.slice (some ⟨gw, 0, none⟩) m m) ∧ w.frozen? ⟨g, 0, none⟩ = false :=
  ⟨h.blk.cell 0, h.blk.cell 1, h.blk.frozen 0⟩
theorem HpR.ne {w : World} {g gw m ge c n : Nat} {L : List Ent} {wh : List Int} (h : HpR w g gw m (.slice (some ⟨ge, 0, none⟩) n c) n L wh) : g ≠ ge ∧ g ≠ gw ∧ ge ≠ gw ∧ g < w.heap.size ∧ gw < w.heap.size ∧ ge < w.heap.size := by
  have h1 : (Value.slice (some ⟨ge, 0, none⟩) n c).ownBlock ≠ some g := blk_ne h.blk h.row (by decide)
  have h2 : (Value.slice (some ⟨gw, 0, none⟩) m m).ownBlock ≠ some g := blk_ne h.blk h.whe (by decide)
  have h3 := own_ne h.row h.whe (by decide)
  refine ⟨fun e => h1 (by simp [Value.ownBlock, e]), fun e => h2 (by simp [Value.ownBlock, e]), by simpa [Value.ownBlock] using h3, h.blk.lt, (h.whe.lt gw rfl).2, (h.row.lt ge rfl).2⟩

set_option maxRecDepth 20000 in
set_option maxHeartbeats 400000 in
theorem put_any (g gw m ge c n : Nat) (L : List Ent) (wh : List Int) (i : Nat) (e : Ent) (w : World) (h : HpR w g gw m (.slice (some ⟨ge, 0, none⟩) n c) n L wh) (hi : i < n) (he : e.id < m) :
    Calls Try.prog 125 #[.pointer (some ⟨g, 0, none⟩), .int .i64 (i : Int), .agg #[.int .i64 e.t, .int .i64 (e.id : Int)]] w fun en w' => en = .returned (.tuple #[]) ∧
      HpR w' g gw m (.slice (some ⟨ge, 0, none⟩) n c) n (L.set i e) (wh.set e.id (i : Int)) ∧ Keep (HpF g gw (.slice (some ⟨ge, 0, none⟩) n c)) w w' := by
  have H1 := h.below ((Below.refl w.heap.size w).alloc (Nat.le_refl _) (.cells #[.int .i64 e.t, .int .i64 (e.id : Int)] 114))
  have H2 := hid ((H1.setEnt i e).setWh e.id (i : Int))
  obtain ⟨e1, e2, e3, e4⟩ := h.cell_ent hi
  obtain ⟨q1, q2⟩ := h.cell_wh he
  obtain ⟨f0, f1, f2⟩ := h.fields
  obtain ⟨n1, n2, n3, n4, n5, n6⟩ := h.ne
  clear h H1
  go_enter Try.func125, Try.ntmps125
  go_wp2_with fail
  refine wp_region_tail 7 (by kernel_rfl) (by kernel_rfl) ?_
  simp only [List.take_succ_cons, List.take_zero, List.drop_succ_cons, List.drop_zero]
  repeat still_step
  refine wpStill_nil ?_
  go_wp2_with fail
  refine wp_region_tail 8 (by kernel_rfl) (by kernel_rfl) ?_
  simp only [List.take_succ_cons, List.take_zero, List.drop_succ_cons, List.drop_zero]
  repeat still_step
  refine wpStill_nil ?_
  go_wp2_with fail
  go_end0
  refine ⟨rfl, H2.out.below (drewN_below _ 2), ?_⟩
  have k1 : Keep (HpF g gw (.slice (some ⟨ge, 0, none⟩) n c)) w _ := Keep.alloc _ w (.cells #[.int .i64 e.t, .int .i64 (e.id : Int)] 114)
  have hge : HpF g gw (.slice (some ⟨ge, 0, none⟩) n c) ge := .inr (.inr rfl)
  have k2 := k1.trans (Keep.setCell _ _ ⟨ge, i * 2, none⟩ (.int .i64 e.t) hge) (fun _ => .inl)
  have k3 := k2.trans (Keep.setCell _ _ ⟨ge, i * 2 + 1, none⟩ (.int .i64 (e.id : Int)) hge) (fun _ => .inl)
  have k4 := k3.trans (Keep.setCell _ _ ⟨gw, e.id, none⟩ (.int .i64 (i : Int)) (.inr (.inl rfl))) (fun _ => .inl)
  exact k4.trans (Keep.drewN _ _ 2) (fun _ => .inl)
end Go.Proofs.Ytdbiodofofnpgaa
namespace Go.Proofs.Ytdbiodofofnpgaa
open Go.RowKit

def UpPost (g gw m ge c n : Nat) (A : List Ent) (i : Nat) (w w' : World) : Prop :=
  ∃ A' wh' i', HpR w' g gw m (.slice (some ⟨ge, 0, none⟩) n c) n A' wh' ∧ A'.Perm A ∧ i' < n ∧ eg A' i' = eg A i ∧ SInv A' i' ∧ OverQ A' i' ∧ (UnderQ A i → UnderQ A' i') ∧ WhOk A' wh' m ∧
    Keep (HpF g gw (.slice (some ⟨ge, 0, none⟩) n c)) w w'

theorem up_fin {g gw m ge c n : Nat} {A L : List Ent} {wh1 : List Int} {i k : Nat} {e : Ent} {w w' : World} (hu : UpS A i m e L wh1 k) (hd : k = 0 ∨ (eg L (par k)).le e) (hr : HpR w' g gw m (.slice (some ⟨ge, 0, none⟩) n c) n (L.set k e) (wh1.set e.id (k : Int)))
    (hk : Keep (HpF g gw (.slice (some ⟨ge, 0, none⟩) n c)) w w') (he : eg A i = e) (hl : A.length = n) : UpPost g gw m ge c n A i w w' := by
  obtain ⟨h1, h2, h3, h4, h5, h6, h7⟩ := hu.done hd
  exact ⟨_, _, k, hr, h1, by have := hu.lt; omega, by rw [h7, he], h2, h3, h4, h5, hk⟩

set_option maxRecDepth 20000 in
set_option maxHeartbeats 800000 in
theorem up_any (g gw m ge c n : Nat) (A : List Ent) (wh : List Int) (i : Nat) (w : World) (h : HpR w g gw m (.slice (some ⟨ge, 0, none⟩) n c) n A wh) (hi : i < n) (hs : SInv A i) (hw : WhEx A wh m i) (hn : n ≤ 100000) :
    Calls Try.prog 102 #[.pointer (some ⟨g, 0, none⟩), .int .i64 (i : Int)] w fun en w' => en = .returned (.tuple #[]) ∧ UpPost g gw m ge c n A i w w' := by
  have hlen := h.len
  have hUp := hid (UpS.start (by omega) hs hw)
  have HA := hid h
  have hE := hw.ids i (by omega)
  obtain ⟨e, he⟩ : ∃ e, eg A i = e := ⟨_, rfl⟩
  obtain ⟨e1, e2, -, -⟩ := h.cell_ent hi
  obtain ⟨f0, -, -⟩ := h.fields
  obtain ⟨n1, n2, n3, n4, n5, n6⟩ := h.ne
  rw [he] at hUp e1 e2 hE
  have HE := hid he
  have HL := hid hlen
  clear h hs hw he hlen
  have HK0 : Hid (Keep (HpF g gw (.slice (some ⟨ge, 0, none⟩) n c)) w (w.alloc (.cells #[.int .i64 e.t, .int .i64 (e.id : Int)] 114))) := Keep.alloc _ _ _
  have HR0 : Hid (HpR (w.alloc (.cells #[.int .i64 e.t, .int .i64 (e.id : Int)] 114)) g gw m (.slice (some ⟨ge, 0, none⟩) n c) n A wh) := HA.out.below ((Below.refl _ _).alloc (Nat.le_refl _) _)
  go_enter Try.func102, Try.ntmps102
  go_wp2_with fail
  go_loopw [1] (fun iv wr => ∃ (k : Nat) (L : List Ent) (wh1 : List Int), iv = .int .i64 (k : Int) ∧ HpR wr g gw m (.slice (some ⟨ge, 0, none⟩) n c) n L wh1 ∧ Hid (UpS A i m e L wh1 k) ∧
      wr.cell? ⟨w.heap.size, 0, none⟩ = some (.int .i64 e.t) ∧ wr.cell? ⟨w.heap.size, 1, none⟩ = some (.int .i64 (e.id : Int)) ∧ w.heap.size < wr.heap.size ∧ Keep (HpF g gw (.slice (some ⟨ge, 0, none⟩) n c)) w wr) (fun iv _ => (intOf iv).toNat)
  case atStart => exact ⟨i, A, wh, rfl, HR0.out, hUp, by go_simp, by go_simp, by simp, HK0.out⟩
  case round =>
    obtain ⟨k, L, wh1, rfl, hr, HU, b0, b1, hlt, hkp⟩ := hrel
    have hk : k < n := by have := HU.out.lt; have := HL.out; omega
    have HR := hid hr
    have HKP := hid hkp
    obtain ⟨f0, f1, f2⟩ := hr.fields
    obtain ⟨-, -, -, m4, m5, m6⟩ := hr.ne
    clear HR0 HK0 hkp HA n1 n2 n3 hUp
    by_cases hk0 : k = 0
    · subst hk0
      have HP := hid (put_any g gw m ge c n L wh1 0 e wr hr hk hE)
      clear hr
      go_wp2_with (go_at_call 125; refine HP.out.mono ?_; rintro en w2 ⟨rfl, hr2, hk2⟩)
      go_end0
      exact ⟨rfl, up_fin HU.out (.inl rfl) hr2 (HKP.out.trans hk2 (fun _ => .inl)) HE.out HL.out⟩
    · have hpk := par_lt (Nat.pos_of_ne_zero hk0)
      obtain ⟨q, hq⟩ : ∃ q, par k = q := ⟨_, rfl⟩
      obtain ⟨x, hx⟩ : ∃ x, eg L q = x := ⟨_, rfl⟩
      rw [hq] at hpk
      have hkq : ((k : Int) - 1) / 2 = (q : Int) := by unfold par at hq; omega
      obtain ⟨p1, p2, -, -⟩ := hr.cell_ent (i := q) (by omega)
      have hxid : x.id < m := by
        have h1 := HU.out.ex.ids q (by have := HU.out.lt; have := HU.out.len; simp; omega)
        rw [eg_set (by have := HU.out.lt; have := HU.out.len; omega), if_neg (by omega), hx] at h1; exact h1
      rw [hx] at p1 p2
      have HX : Hid (eg L (par k) = x) := by rw [hq]; exact hx
      have HQ := hid hq
      have hqn : q < n := by omega
      clear hx hr hq e1 e2
      by_cases hc : cmpE x e ≤ 0
      · have hc1 : decide (cmpE x e ≤ 0) = true := decide_eq_true hc
        go_wp2_with fail
        refine wp_region_tail 8 (by kernel_rfl) (by kernel_rfl) ?_
        simp only [List.take_succ_cons, List.take_zero, List.drop_succ_cons, List.drop_zero]
        repeat still_step
        refine wpStill_nil ?_
        go_wp2_with (first
          | (go_at_call 123; refine (order_any x e _).mono ?_; rintro en w2 ⟨rfl, hb2⟩; have hb3 := below_drewN hb2; obtain ⟨hc2, hf2⟩ := bcell hb3; have HR2 := hid (HR.out.below hb3); have HK2 := hid (HKP.out.trans (Keep.of_below (F := HpF g gw (.slice (some ⟨ge, 0, none⟩) n c)) hb3) (fun _ => .inl)); clear hb2 hb3)
          | (go_at_call 125; refine (put_any g gw m ge c n L wh1 k e _ HR2.out hk hE).mono ?_; rintro en w3 ⟨rfl, hr3, hk3⟩))
        go_end0
        exact ⟨rfl, up_fin HU.out (.inr (by rw [HX.out]; exact cmpE_le.1 hc)) hr3 (HK2.out.trans hk3 (fun _ => .inl)) HE.out HL.out⟩
      · have hc1 : decide (cmpE x e ≤ 0) = false := decide_eq_false hc
        have HC : Hid (e.lt x) := Ent.not_le.1 (fun h => hc (cmpE_le.2 h))
        clear hc
        go_wp2_with fail
        refine wp_region_tail 8 (by kernel_rfl) (by kernel_rfl) ?_
        simp only [List.take_succ_cons, List.take_zero, List.drop_succ_cons, List.drop_zero]
        repeat still_step
        refine wpStill_nil ?_
        go_wp2_with (first
          | (go_at_call 123; refine (order_any x e _).mono ?_; rintro en w2 ⟨rfl, hb2⟩; have hb3 := below_drewN hb2; obtain ⟨hc2, hf2⟩ := bcell hb3; have HR2 := hid (HR.out.below hb3); have HK2 := hid (HKP.out.trans (Keep.of_below (F := HpF g gw (.slice (some ⟨ge, 0, none⟩) n c)) hb3) (fun _ => .inl)); have hs2 := hb3.size; clear hb2 hb3)
          | (go_at_call 125; refine (put_any g gw m ge c n L wh1 k x _ HR2.out hk hxid).mono ?_; rintro en w3 ⟨rfl, hr3, hk3⟩))
        have hlt2 : w.heap.size < w2.heap.size := Nat.lt_of_lt_of_le hlt hs2
        have hnf : ¬ HpF g gw (.slice (some ⟨ge, 0, none⟩) n c) w.heap.size := by
          rintro (h1 | h1 | h1)
          · omega
          · omega
          · simp only [Value.ownBlock, Option.some.injEq] at h1; omega
        have B0 := ((hk3.cell (o := 0) hlt2 hnf).trans (hc2 _ 0 hlt)).trans b0
        have B1 := ((hk3.cell (o := 1) hlt2 hnf).trans (hc2 _ 1 hlt)).trans b1
        have hlt3 := Nat.lt_of_lt_of_le hlt2 hk3.size
        have HU2 : Hid (UpS A i m e (L.set k x) (wh1.set x.id (k : Int)) q) := by
          have := HU.out.step (Nat.pos_of_ne_zero hk0) (by rw [HX.out]; exact HC.out)
          rwa [HX.out, HQ.out] at this
        have HK3 := HK2.out.trans hk3 (fun _ => .inl)
        go_roundw
        case rel => exact ⟨q, _, _, rfl, hr3, HU2, B0, B1, hlt3, HK3⟩
        case measure => simp [intOf]; omega
end Go.Proofs.Ytdbiodofofnpgaa
