/- Plain laws: deadlines of many as entries in order: set, cut, due; no program in sight. -/
import Derived.Test.YtdhoedohchbagaaHb
namespace Go.Proofs.Ytdhoedohchbagaa

def neverT : Int := 9223372036854775807
def ownT (t : Int) : Int := if t < 0 then 0 else t
def dueT (t now : Int) : Bool := decide (t ≠ neverT) && decide (ownT t ≤ ownT now)
def setE (l : List Ent) (id : Nat) (at_ : Int) : List Ent := if at_ = neverT then cutE l id else insE ⟨ownT at_, id⟩ (cutE l id)
def duesE (now : Int) (l : List Ent) : List Ent := l.takeWhile fun e => dueT e.t now
def restE (now : Int) (l : List Ent) : List Ent := l.dropWhile fun e => dueT e.t now
theorem dues_rest (now : Int) (l : List Ent) : duesE now l ++ restE now l = l := List.takeWhile_append_dropWhile
theorem duesE_cons (now : Int) (e : Ent) (l : List Ent) : duesE now (e :: l) = if dueT e.t now then e :: duesE now l else [] := by
  unfold duesE; rw [List.takeWhile_cons]
theorem restE_cons (now : Int) (e : Ent) (l : List Ent) : restE now (e :: l) = if dueT e.t now then restE now l else e :: l := by
  unfold restE; rw [List.dropWhile_cons]
theorem restE_head (now : Int) (l : List Ent) (e : Ent) (r : List Ent) (h : restE now l = e :: r) : dueT e.t now = false := by
  induction l with
  | nil => simp [restE] at h
  | cons y l ih =>
    rw [restE_cons] at h
    split at h
    · exact ih h
    · rename_i hy; injection h with h1 _; rw [← h1]; simpa using hy
theorem restE_none {now : Int} {l : List Ent} (hs : SortedE l) (hn : ∀ e ∈ l, e.t ≠ neverT ∧ 0 ≤ e.t) : ∀ e ∈ restE now l, dueT e.t now = false := by
  intro e he
  cases hr : restE now l with
  | nil => rw [hr] at he; simp at he
  | cons x r =>
    have hx := restE_head now l x r hr
    rw [hr] at he
    rcases List.mem_cons.1 he with e1 | e1
    · rw [e1]; exact hx
    · have hsub : (x :: r).Sublist l := by rw [← hr]; exact (List.dropWhile_suffix _).sublist
      have h2 := (List.pairwise_cons.1 (hs.sublist hsub)).1 e e1
      have nx := hn x (hsub.subset (by simp))
      have ne := hn e (hsub.subset (by simp [e1]))
      unfold dueT ownT at *
      unfold Ent.lt at h2
      simp only [Bool.and_eq_false_iff, decide_eq_false_iff_not] at hx ⊢
      rcases hx with hx | hx
      · exact absurd nx.1 hx
      · right; intro hle; apply hx
        split <;> split <;> split at hle <;> (try split at hle) <;> omega
theorem duesE_all {now : Int} {l : List Ent} : ∀ e ∈ duesE now l, dueT e.t now = true := by
  intro e he
  induction l with
  | nil => simp [duesE] at he
  | cons y l ih =>
    rw [duesE_cons] at he
    split at he
    · rename_i hy
      rcases List.mem_cons.1 he with e1 | e1
      · rw [e1]; exact hy
      · exact ih e1
    · simp at he
theorem restE_sorted {now : Int} {l : List Ent} (hs : SortedE l) : SortedE (restE now l) := hs.sublist (List.dropWhile_suffix _).sublist

theorem mem_cutE {l : List Ent} {id : Nat} {e : Ent} : e ∈ cutE l id ↔ e ∈ l ∧ e.id ≠ id := by simp [cutE]
theorem mem_insE {x : Ent} {l : List Ent} {e : Ent} : e ∈ insE x l ↔ e = x ∨ e ∈ l := by
  have := (insE_perm x l).mem_iff (a := e)
  rw [this]; simp
theorem insE_length (x : Ent) (l : List Ent) : (insE x l).length = l.length + 1 := by
  rw [(insE_perm x l).length_eq]; rfl
theorem setE_sorted {l : List Ent} (h : SortedE l) (id : Nat) (a : Int) : SortedE (setE l id a) := by
  unfold setE; split
  · exact cutE_sorted h id
  · exact insE_sorted (cutE_sorted h id) (fun y hy => (mem_cutE.1 hy).2)
theorem mem_setE {l : List Ent} {id : Nat} {a : Int} {e : Ent} : e ∈ setE l id a ↔ (e ∈ l ∧ e.id ≠ id) ∨ (a ≠ neverT ∧ e = ⟨ownT a, id⟩) := by
  unfold setE; split
  · rename_i h; simp [mem_cutE, h]
  · rename_i h; rw [mem_insE, mem_cutE]
    constructor
    · rintro (h1 | h1)
      · exact .inr ⟨h, h1⟩
      · exact .inl h1
    · rintro (h1 | ⟨_, h1⟩)
      · exact .inr h1
      · exact .inl h1
theorem cutE_none {l : List Ent} {id : Nat} (h : ∀ e ∈ l, e.id ≠ id) : cutE l id = l := by
  unfold cutE; rw [List.filter_eq_self]; intro e he; simp [h e he]
theorem ids_unique {l : List Ent} (h : l.Pairwise (fun a b => a.id ≠ b.id)) {a b : Ent} (ha : a ∈ l) (hb : b ∈ l) (e : a.id = b.id) : a = b := by
  induction l with
  | nil => simp at ha
  | cons x l ih =>
    have h' := List.pairwise_cons.1 h
    rcases List.mem_cons.1 ha with e1 | ha <;> rcases List.mem_cons.1 hb with e2 | hb
    · rw [e1, e2]
    · rw [e1] at e; exact absurd e (h'.1 b hb)
    · rw [e2] at e; exact absurd e.symm (h'.1 a ha)
    · exact ih h'.2 ha hb
theorem HeapIs.idsNe {A : List Ent} {wh : List Int} {m : Nat} {l : List Ent} (h : HeapIs A wh m l) {a b : Ent} (ha : a ∈ l) (hb : b ∈ l) (e : a.id = b.id) : a = b := by
  obtain ⟨i, hi, hie⟩ := mem_eg (h.perm.symm.subset ha)
  obtain ⟨j, hj, hje⟩ := mem_eg (h.perm.symm.subset hb)
  have := h.where_.inj i j hi hj (by rw [hie, hje]; exact e)
  subst this
  rw [← hie, ← hje]

/-! ### Deadlines of all from 0 on, each set once -/
structure AllSet (ats : List Int) (k : Nat) (l : List Ent) (n : Nat) : Prop where
  mem : ∀ e, e ∈ l ↔ e.id < k ∧ ats.getD e.id 0 ≠ neverT ∧ e.t = ownT (ats.getD e.id 0)
  len : l.length = n
theorem allSet_zero (ats : List Int) : AllSet ats 0 [] 0 := ⟨fun e => by simp, rfl⟩
theorem AllSet.step {ats : List Int} {k : Nat} {l : List Ent} {n : Nat} (h : AllSet ats k l n) :
    AllSet ats (k + 1) (setE l k (ats.getD k 0)) (if ats.getD k 0 = neverT then n else n + 1) := by
  have hc : cutE l k = l := cutE_none (fun e he => by have := ((h.mem e).1 he).1; omega)
  refine ⟨fun e => ?_, ?_⟩
  · rw [mem_setE, h.mem e]
    constructor
    · rintro (⟨⟨h1, h2⟩, h3⟩ | ⟨h1, rfl⟩)
      · exact ⟨by omega, h2⟩
      · exact ⟨by simp, h1, rfl⟩
    · rintro ⟨h1, h2, h3⟩
      by_cases e1 : e.id = k
      · right; rw [e1] at h2 h3; exact ⟨h2, Ent.eq_of h3 e1⟩
      · left; exact ⟨⟨by omega, h2, h3⟩, e1⟩
  · unfold setE; rw [hc]
    split
    · exact h.len
    · rw [insE_length, h.len]
theorem hasE_iff {l : List Ent} {id : Nat} : hasE l id = true ↔ ∃ e ∈ l, e.id = id := by simp [hasE]
/-- Who has a deadline behind Due. -/
theorem AllSet.has_rest {ats : List Int} {k : Nat} {l : List Ent} {n : Nat} {now : Int} (h : AllSet ats k l n) (hs : SortedE l) {i : Nat} (hi : i < k) :
    hasE (restE now l) i = !(dueT (ats.getD i 0) now || decide (ats.getD i 0 = neverT)) := by
  have hown : ∀ t : Int, t ≠ neverT → ownT t ≠ neverT ∧ 0 ≤ ownT t := by intro t ht; unfold ownT neverT at *; split <;> omega
  have hd : ∀ t : Int, t ≠ neverT → dueT (ownT t) now = dueT t now := by
    intro t ht
    have h1 := hown t ht
    have h2 : ownT (ownT t) = ownT t := by
      have h3 := h1.2
      generalize ownT t = y at *
      unfold ownT; rw [if_neg (by omega)]
    unfold dueT
    rw [decide_eq_true h1.1, decide_eq_true ht, h2]
  have hnn : ∀ e ∈ l, e.t ≠ neverT ∧ 0 ≤ e.t := by intro e he; have := (h.mem e).1 he; rw [this.2.2]; exact hown _ this.2.1
  rw [Bool.eq_iff_iff, hasE_iff]
  simp only [Bool.not_eq_true', Bool.or_eq_false_iff, decide_eq_false_iff_not]
  constructor
  · rintro ⟨e, he, rfl⟩
    have hl : e ∈ l := by rw [← dues_rest now l]; simp [he]
    have h1 := (h.mem e).1 hl
    have h2 := restE_none hs hnn e he
    rw [h1.2.2, hd _ h1.2.1] at h2
    exact ⟨h2, h1.2.1⟩
  · rintro ⟨h1, h2⟩
    have hm : (⟨ownT (ats.getD i 0), i⟩ : Ent) ∈ l := (h.mem _).2 ⟨hi, h2, rfl⟩
    rw [← dues_rest now l] at hm
    rcases List.mem_append.1 hm with hm | hm
    · have := duesE_all _ hm
      rw [hd _ h2, h1] at this; cases this
    · exact ⟨_, hm, rfl⟩
/-- Who is told due. -/
theorem AllSet.due {ats : List Int} {k : Nat} {l : List Ent} {n : Nat} {now : Int} (h : AllSet ats k l n) {e : Ent} (he : e ∈ duesE now l) :
    e.id < k ∧ dueT (ats.getD e.id 0) now = true := by
  have hl : e ∈ l := by rw [← dues_rest now l]; simp [he]
  have h1 := (h.mem e).1 hl
  have h2 := duesE_all e he
  refine ⟨h1.1, ?_⟩
  rw [h1.2.2] at h2
  have h3 := h1.2.1
  generalize ats.getD e.id 0 = t at *
  unfold dueT ownT at *
  simp only [Bool.and_eq_true, decide_eq_true_eq] at h2 ⊢
  refine ⟨h3, ?_⟩
  obtain ⟨_, h2⟩ := h2
  split at h2 <;> split at h2 <;> split <;> omega
end Go.Proofs.Ytdhoedohchbagaa
