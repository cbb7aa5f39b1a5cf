/- Plain laws: a heap of entries in a list, and where each number's entry is; no program in sight. -/
import Derived.Test.YtdhoedohchbagaaBase
namespace Go.Proofs.Ytdhoedohchbagaa

/-- An entry: its time, its number. -/
structure Ent where
  t : Int
  id : Nat
  deriving DecidableEq, Inhabited

def Ent.lt (a b : Ent) : Prop := a.t < b.t ∨ (a.t = b.t ∧ a.id < b.id)
def Ent.le (a b : Ent) : Prop := a.t < b.t ∨ (a.t = b.t ∧ a.id ≤ b.id)
instance (a b : Ent) : Decidable (a.lt b) := by unfold Ent.lt; infer_instance
instance (a b : Ent) : Decidable (a.le b) := by unfold Ent.le; infer_instance
theorem Ent.le_refl (a : Ent) : a.le a := by unfold Ent.le; omega
theorem Ent.le_trans {a b c : Ent} (h : a.le b) (h2 : b.le c) : a.le c := by unfold Ent.le at *; omega
theorem Ent.lt_trans {a b c : Ent} (h : a.lt b) (h2 : b.lt c) : a.lt c := by unfold Ent.lt at *; omega
theorem Ent.le_of_lt {a b : Ent} (h : a.lt b) : a.le b := by unfold Ent.le Ent.lt at *; omega
theorem Ent.not_lt {a b : Ent} : ¬ a.lt b ↔ b.le a := by unfold Ent.le Ent.lt at *; omega
theorem Ent.not_le {a b : Ent} : ¬ a.le b ↔ b.lt a := by unfold Ent.le Ent.lt at *; omega
theorem Ent.lt_of_le_of_lt {a b c : Ent} (h : a.le b) (h2 : b.lt c) : a.lt c := by unfold Ent.le Ent.lt at *; omega
theorem Ent.lt_irrefl (a : Ent) : ¬ a.lt a := by unfold Ent.lt; omega
theorem Ent.eq_of {a b : Ent} (h1 : a.t = b.t) (h2 : a.id = b.id) : a = b := by cases a; cases b; simp_all

def eg (A : List Ent) (i : Nat) : Ent := A.getD i default
theorem eg_of {A : List Ent} {i : Nat} (h : i < A.length) : eg A i = A[i] := by simp [eg, List.getD, h]
theorem eg_some {A : List Ent} {i : Nat} (h : i < A.length) : A[i]? = some (eg A i) := by rw [eg_of h, List.getElem?_eq_getElem h]
theorem eg_mem {A : List Ent} {i : Nat} (h : i < A.length) : eg A i ∈ A := by rw [eg_of h]; exact List.getElem_mem h
theorem mem_eg {A : List Ent} {e : Ent} (h : e ∈ A) : ∃ i, i < A.length ∧ eg A i = e := by
  obtain ⟨i, hi, he⟩ := List.getElem_of_mem h
  exact ⟨i, hi, by rw [eg_of hi]; exact he⟩
theorem eg_set {A : List Ent} {i j : Nat} {x : Ent} (h : i < A.length) : eg (A.set i x) j = if j = i then x else eg A j := by
  unfold eg
  rw [List.getD_eq_getElem?_getD, List.getElem?_set]
  by_cases e : i = j
  · subst e; simp [h]
  · rw [if_neg e, if_neg (fun x => e x.symm), List.getD_eq_getElem?_getD]
def wg (wh : List Int) (i : Nat) : Int := wh.getD i 0
theorem wg_some {wh : List Int} {i : Nat} (h : i < wh.length) : wh[i]? = some (wg wh i) := by simp [wg, List.getD, h]
theorem wg_set {wh : List Int} {i j : Nat} {x : Int} (h : i < wh.length) : wg (wh.set i x) j = if j = i then x else wg wh j := by
  unfold wg
  rw [List.getD_eq_getElem?_getD, List.getElem?_set]
  by_cases e : i = j
  · subst e; simp [h]
  · rw [if_neg e, if_neg (fun x => e x.symm), List.getD_eq_getElem?_getD]

def par (j : Nat) : Nat := (j - 1) / 2
theorem par_lt {j : Nat} (h : 0 < j) : par j < j := by unfold par; omega
def swapE (A : List Ent) (i p : Nat) : List Ent := (A.set i (eg A p)).set p (eg A i)
theorem swapE_len (A : List Ent) (i p : Nat) : (swapE A i p).length = A.length := by simp [swapE]
theorem swapE_eg {A : List Ent} {i p : Nat} (hi : i < A.length) (hp : p < A.length) (j : Nat) : eg (swapE A i p) j = if j = p then eg A i else if j = i then eg A p else eg A j := by
  unfold swapE; rw [eg_set (by simpa using hp), eg_set hi]
theorem swapE_perm {A : List Ent} {i p : Nat} (hi : i < A.length) (hp : p < A.length) : (swapE A i p).Perm A := by
  unfold swapE; rw [eg_of hi, eg_of hp]; exact List.set_set_perm hi hp

def HeapQ (A : List Ent) : Prop := ∀ j, 0 < j → j < A.length → (eg A (par j)).le (eg A j)
def SInv (A : List Ent) (i : Nat) : Prop := ∀ j, 0 < j → j < A.length → (j ≠ i → par j ≠ i → (eg A (par j)).le (eg A j)) ∧ (0 < i → par j = i → (eg A (par i)).le (eg A j))
def UnderQ (A : List Ent) (i : Nat) : Prop := ∀ j, 0 < j → j < A.length → par j = i → (eg A i).le (eg A j)
def OverQ (A : List Ent) (i : Nat) : Prop := 0 < i → (eg A (par i)).le (eg A i)

theorem heap_of {A : List Ent} {i : Nat} (h : SInv A i) (hu : UnderQ A i) (ho : OverQ A i) : HeapQ A := by
  intro j h0 hl
  by_cases e : j = i
  · subst e; exact ho h0
  · by_cases e2 : par j = i
    · have := hu j h0 hl e2; rwa [e2]
    · exact (h j h0 hl).1 e e2
theorem HeapQ.sinv {A : List Ent} (h : HeapQ A) (i : Nat) (hi : i < A.length) : SInv A i := by
  intro j h0 hl
  refine ⟨fun _ _ => h j h0 hl, fun hi0 e => ?_⟩
  have h1 := h j h0 hl
  have h2 := h i hi0 hi
  rw [e] at h1
  exact Ent.le_trans h2 h1
theorem HeapQ.under {A : List Ent} (h : HeapQ A) (i : Nat) : UnderQ A i := fun j h0 hl e => by have := h j h0 hl; rwa [e] at this

/-- Behind a change at i the rest stays. -/
theorem SInv.change {A : List Ent} {i : Nat} (h : HeapQ A) (hi : i < A.length) (x : Ent) : SInv (A.set i x) i := by
  intro j h0 hl
  simp only [List.length_set] at hl
  simp only [eg_set hi]
  have hs := h.sinv i hi j h0 hl
  refine ⟨fun h1 h2 => ?_, fun h1 h2 => ?_⟩
  · rw [if_neg h2, if_neg h1]; exact hs.1 h1 h2
  · have hp := par_lt h1
    have hp2 := par_lt h0
    rw [if_neg (by omega), if_neg (by omega)]; exact hs.2 h1 h2

theorem SInv.up {A : List Ent} {i : Nat} (hi : 0 < i) (hl : i < A.length) (h : SInv A i) (_ : (eg A i).lt (eg A (par i))) : SInv (swapE A i (par i)) (par i) := by
  intro j h0 hj
  rw [swapE_len] at hj
  have hp := par_lt hi
  have hjp := par_lt h0
  simp only [swapE_eg hl (Nat.lt_trans hp hl)]
  have H := h j h0 hj
  refine ⟨fun h1 h2 => ?_, fun h1 h2 => ?_⟩
  · rw [if_neg h1, if_neg h2]
    by_cases e : j = i
    · exact absurd (by rw [e]) h2
    · rw [if_neg e]
      by_cases e2 : par j = i
      · rw [if_pos e2]; exact H.2 hi e2
      · rw [if_neg e2]; exact H.1 e e2
  · have hpp := par_lt h1
    rw [if_neg (by omega), if_neg (by omega), if_neg (by omega)]
    have HP := (h (par i) h1 (Nat.lt_trans hp hl)).1 (by omega) (by omega)
    by_cases e : j = i
    · rw [if_pos e]; exact HP
    · rw [if_neg e]
      have := H.1 e (by omega)
      rw [h2] at this
      exact Ent.le_trans HP this
theorem UnderQ.up {A : List Ent} {i : Nat} (hi : 0 < i) (hl : i < A.length) (h : SInv A i) (hlt : (eg A i).lt (eg A (par i))) : UnderQ (swapE A i (par i)) (par i) := by
  intro j h0 hj h2
  rw [swapE_len] at hj
  have hp := par_lt hi
  have hjp := par_lt h0
  simp only [swapE_eg hl (Nat.lt_trans hp hl)]
  simp only [if_true]
  rw [if_neg (show j ≠ par i by omega)]
  by_cases e : j = i
  · rw [if_pos e]; exact Ent.le_of_lt hlt
  · rw [if_neg e]
    have := (h j h0 hj).1 e (by omega)
    rw [h2] at this
    exact Ent.le_trans (Ent.le_of_lt hlt) this

/-- What holds of a heap but for i's place over those below it. -/
def DInv (A : List Ent) (i : Nat) : Prop := SInv A i ∧ OverQ A i
theorem DInv.down {A : List Ent} {i b : Nat} (h : DInv A i) (h0 : 0 < b) (hb : b < A.length) (hp : par b = i) (hmin : ∀ j, 0 < j → j < A.length → par j = i → (eg A b).le (eg A j)) (hlt : (eg A b).lt (eg A i)) :
    DInv (swapE A i b) b := by
  have hpb := par_lt h0
  have hi : i < A.length := by omega
  have hib : b ≠ i := by omega
  obtain ⟨hs, ho⟩ := h
  refine ⟨fun j hj0 hj => ?_, fun _ => ?_⟩
  · rw [swapE_len] at hj
    simp only [swapE_eg hi hb]
    have hpj := par_lt hj0
    have H := hs j hj0 hj
    refine ⟨fun h1 h2 => ?_, fun h1 h2 => ?_⟩
    · rw [if_neg h1, if_neg h2]
      by_cases e2 : par j = i
      · rw [if_pos e2, if_neg (by omega)]; exact hmin j hj0 hj e2
      · rw [if_neg e2]
        by_cases e : j = i
        · subst e
          rw [if_pos rfl]
          exact (hs b h0 hb).2 hj0 hp
        · rw [if_neg e]; exact H.1 e e2
    · rw [hp, if_neg (by omega), if_pos rfl, if_neg (by omega), if_neg (by omega)]
      have := H.1 (by omega) (by omega)
      rwa [h2] at this
  · simp only [swapE_eg hi hb]
    rw [hp]; simp only [if_true]; rw [if_neg (by omega)]; exact Ent.le_of_lt hlt
theorem DInv.done {A : List Ent} {i : Nat} (h : DInv A i) (hu : UnderQ A i) : HeapQ A := heap_of h.1 hu h.2

theorem HeapQ.min {A : List Ent} (h : HeapQ A) : ∀ j, j < A.length → (eg A 0).le (eg A j) := by
  intro j
  induction j using Nat.strongRecOn with
  | _ j ih =>
    intro hj
    by_cases e : j = 0
    · subst e; exact Ent.le_refl _
    · have hp := par_lt (Nat.pos_of_ne_zero e)
      exact Ent.le_trans (ih _ hp (by omega)) (h j (by omega) hj)

/-- Where each number's entry is; place i is not told yet. -/
structure WhEx (A : List Ent) (wh : List Int) (m i : Nat) : Prop where
  len : wh.length = m
  ids : ∀ j, j < A.length → (eg A j).id < m
  inj : ∀ j k, j < A.length → k < A.length → (eg A j).id = (eg A k).id → j = k
  at_ : ∀ j, j < A.length → j ≠ i → wg wh (eg A j).id = (j : Int)
  no : ∀ id, id < m → (∀ j, j < A.length → (eg A j).id ≠ id) → wg wh id = -1
def WhOk (A : List Ent) (wh : List Int) (m : Nat) : Prop := WhEx A wh m A.length

theorem WhOk.ex {A : List Ent} {wh : List Int} {m : Nat} (h : WhOk A wh m) (i : Nat) : WhEx A wh m i :=
  ⟨h.len, h.ids, h.inj, fun j hj _ => h.at_ j hj (by omega), h.no⟩
theorem WhOk.at {A : List Ent} {wh : List Int} {m : Nat} (h : WhOk A wh m) {j : Nat} (hj : j < A.length) : wg wh (eg A j).id = (j : Int) := h.at_ j hj (by omega)
theorem WhEx.move {A : List Ent} {wh : List Int} {m i p : Nat} (h : WhEx A wh m i) (hi : i < A.length) (hp : p < A.length) (hne : p ≠ i) : WhEx (swapE A i p) (wh.set (eg A p).id (i : Int)) m p := by
  have hidp := h.ids p hp
  refine ⟨by simpa using h.len, fun j hj => ?_, fun j k hj hk e => ?_, fun j hj hjp => ?_, fun id hid hno => ?_⟩
  · rw [swapE_len] at hj
    rw [swapE_eg hi hp]; split
    · exact h.ids i hi
    · split
      · exact hidp
      · exact h.ids j hj
  · rw [swapE_len] at hj hk
    have hσ : ∀ j, eg (swapE A i p) j = eg A (if j = p then i else if j = i then p else j) := by
      intro j
      rw [swapE_eg hi hp]; split
      · rfl
      · split <;> rfl
    rw [hσ, hσ] at e
    have hq : ∀ q, q < A.length → (if q = p then i else if q = i then p else q) < A.length := by
      intro q hq
      split
      · exact hi
      · split <;> omega
    have := h.inj _ _ (hq j hj) (hq k hk) e
    split at this <;> split at this <;> (try split at this) <;> (try split at this) <;> omega
  · rw [swapE_len] at hj
    rw [swapE_eg hi hp, if_neg hjp, wg_set (by rw [h.len]; exact hidp)]
    by_cases e : j = i
    · rw [if_pos e, if_pos rfl, e]
    · rw [if_neg e, if_neg (fun e2 => hjp (h.inj j p hj hp e2))]; exact h.at_ j hj e
  · have hno' : ∀ j, j < A.length → (eg A j).id ≠ id := by
      intro j hj e
      by_cases e1 : j = i
      · subst e1; exact hno p (by rw [swapE_len]; exact hp) (by rw [swapE_eg hi hp, if_pos rfl]; exact e)
      · by_cases e2 : j = p
        · subst e2; exact hno i (by rw [swapE_len]; exact hi) (by rw [swapE_eg hi hp, if_neg (fun x => hne x.symm), if_pos rfl]; exact e)
        · exact hno j (by rw [swapE_len]; exact hj) (by rw [swapE_eg hi hp, if_neg e2, if_neg e1]; exact e)
    rw [wg_set (by rw [h.len]; exact hidp), if_neg (fun e => hno' p hp e.symm)]
    exact h.no id hid hno'
theorem WhEx.close {A : List Ent} {wh : List Int} {m i : Nat} (h : WhEx A wh m i) (hi : i < A.length) : WhOk A (wh.set (eg A i).id (i : Int)) m := by
  have hidi := h.ids i hi
  refine ⟨by simpa using h.len, h.ids, h.inj, fun j hj _ => ?_, fun id hid hno => ?_⟩
  · rw [wg_set (by rw [h.len]; exact hidi)]
    by_cases e : (eg A j).id = (eg A i).id
    · rw [if_pos e, h.inj j i hj hi e]
    · rw [if_neg e]; exact h.at_ j hj (fun x => e (by rw [x]))
  · rw [wg_set (by rw [h.len]; exact hidi), if_neg (fun e => hno i hi e.symm)]; exact h.no id hid hno

/-- A list in order. -/
def SortedE (l : List Ent) : Prop := l.Pairwise Ent.lt
/-- A heap that holds the entries l (in order). -/
structure HeapIs (A : List Ent) (wh : List Int) (m : Nat) (l : List Ent) : Prop where
  perm : A.Perm l
  sorted : SortedE l
  heap : HeapQ A
  where_ : WhOk A wh m

theorem sorted_unique {a b : List Ent} (ha : SortedE a) (hb : SortedE b) (h : a.Perm b) : a = b := by
  induction a generalizing b with
  | nil => exact h.nil_eq
  | cons x a ih =>
    cases b with
    | nil => exact absurd h.length_eq (by simp)
    | cons y b =>
      have ha' := List.pairwise_cons.1 ha
      have hb' := List.pairwise_cons.1 hb
      have hx : x ∈ y :: b := h.subset (by simp)
      have hy : y ∈ x :: a := h.symm.subset (by simp)
      have e : x = y := by
        rcases List.mem_cons.1 hx with e | hx
        · exact e
        · rcases List.mem_cons.1 hy with e | hy
          · exact e.symm
          · exact absurd (Ent.lt_trans (hb'.1 x hx) (ha'.1 y hy)) (Ent.lt_irrefl _)
      subst e
      rw [ih ha'.2 hb'.2 (h.cons_inv)]

theorem HeapIs.len {A : List Ent} {wh : List Int} {m : Nat} {l : List Ent} (h : HeapIs A wh m l) : A.length = l.length := h.perm.length_eq
theorem HeapIs.head {A : List Ent} {wh : List Int} {m : Nat} {x : Ent} {l : List Ent} (h : HeapIs A wh m (x :: l)) : eg A 0 = x := by
  have hl : 0 < A.length := by rw [h.len]; simp
  have hx : x ∈ A := h.perm.symm.subset (by simp)
  obtain ⟨j, hj, he⟩ := mem_eg hx
  have h1 := h.heap.min j hj
  have h2 : eg A 0 ∈ x :: l := h.perm.subset (eg_mem hl)
  rcases List.mem_cons.1 h2 with e | h2
  · exact e
  · have := (List.pairwise_cons.1 h.sorted).1 _ h2
    rw [he] at h1
    exact absurd (Ent.lt_of_le_of_lt h1 this) (Ent.lt_irrefl _)

/-- The entry of a number. -/
def findE (l : List Ent) (id : Nat) : Option Ent := l.find? (fun e => e.id == id)
def hasE (l : List Ent) (id : Nat) : Bool := l.any (fun e => e.id == id)
def cutE (l : List Ent) (id : Nat) : List Ent := l.filter (fun e => e.id != id)
theorem cutE_sorted {l : List Ent} (h : SortedE l) (id : Nat) : SortedE (cutE l id) := h.filter _

/-- x among entries in order. -/
def insE (x : Ent) : List Ent → List Ent
  | [] => [x]
  | y :: l => if y.lt x then y :: insE x l else x :: y :: l
theorem insE_perm (x : Ent) (l : List Ent) : (insE x l).Perm (x :: l) := by
  induction l with
  | nil => exact List.Perm.refl _
  | cons y l ih =>
    unfold insE; split
    · exact (ih.cons y).trans (List.Perm.swap x y l)
    · exact List.Perm.refl _
theorem insE_sorted {x : Ent} {l : List Ent} (h : SortedE l) (hx : ∀ y ∈ l, y.id ≠ x.id) : SortedE (insE x l) := by
  induction l with
  | nil => simp [insE, SortedE]
  | cons y l ih =>
    have h' := List.pairwise_cons.1 h
    unfold insE; split
    · rename_i hlt
      refine List.pairwise_cons.2 ⟨fun z hz => ?_, ih h'.2 (fun z hz => hx z (by simp [hz]))⟩
      rcases List.mem_cons.1 ((insE_perm x l).subset hz) with e | hz
      · rw [e]; exact hlt
      · exact h'.1 z hz
    · rename_i hlt
      have hxy : x.lt y := by
        have := hx y (by simp)
        unfold Ent.lt at *; omega
      refine List.pairwise_cons.2 ⟨fun z hz => ?_, h⟩
      rcases List.mem_cons.1 hz with e | hz
      · rw [e]; exact hxy
      · exact Ent.lt_trans hxy (h'.1 z hz)
end Go.Proofs.Ytdhoedohchbagaa
