/- Plain laws: an entry more in a heap, another one, one less; no program in sight. -/
import Derived.Test.YtdhoedohchbagaaHa
namespace Go.Proofs.Ytdhoedohchbagaa

theorem eg_take {A : List Ent} {n j : Nat} (h : j < n) : eg (A.take n) j = eg A j := by
  simp [eg, List.getD, List.getElem?_take, h]
theorem eg_snoc_lt {A : List Ent} {e : Ent} {j : Nat} (h : j < A.length) : eg (A ++ [e]) j = eg A j := by
  simp [eg, List.getD, List.getElem?_append_left h]
theorem eg_snoc {A : List Ent} {e : Ent} : eg (A ++ [e]) A.length = e := by
  simp [eg, List.getD]

theorem HeapQ.take {A : List Ent} (h : HeapQ A) (n : Nat) : HeapQ (A.take n) := by
  intro j h0 hj
  simp only [List.length_take] at hj
  have hp := par_lt h0
  rw [eg_take (by omega), eg_take (by omega)]
  exact h j h0 (by omega)

/-- One entry more, at the end. -/
theorem HeapQ.snoc {A : List Ent} (h : HeapQ A) (e : Ent) : SInv (A ++ [e]) A.length ∧ UnderQ (A ++ [e]) A.length := by
  refine ⟨fun j h0 hj => ?_, fun j h0 hj hp => ?_⟩
  · simp only [List.length_append, List.length_cons, List.length_nil] at hj
    have hp := par_lt h0
    refine ⟨fun h1 _ => ?_, fun h1 h2 => by omega⟩
    rw [eg_snoc_lt (by omega), eg_snoc_lt (by omega)]
    exact h j h0 (by omega)
  · simp only [List.length_append, List.length_cons, List.length_nil] at hj
    have := par_lt h0
    omega
theorem WhOk.snoc {A : List Ent} {wh : List Int} {m : Nat} (h : WhOk A wh m) {e : Ent} (he : e.id < m) (hno : ∀ j, j < A.length → (eg A j).id ≠ e.id) : WhEx (A ++ [e]) wh m A.length := by
  have hl : ∀ j, j < (A ++ [e]).length → j < A.length ∨ j = A.length := by intro j hj; simp at hj; omega
  refine ⟨h.len, fun j hj => ?_, fun j k hj hk ee => ?_, fun j hj hne => ?_, fun id hid hn => ?_⟩
  · rcases hl j hj with hj | rfl
    · rw [eg_snoc_lt hj]; exact h.ids j hj
    · rw [eg_snoc]; exact he
  · rcases hl j hj with hj | rfl <;> rcases hl k hk with hk | rfl
    · rw [eg_snoc_lt hj, eg_snoc_lt hk] at ee; exact h.inj j k hj hk ee
    · rw [eg_snoc_lt hj, eg_snoc] at ee; exact absurd ee (hno j hj)
    · rw [eg_snoc_lt hk, eg_snoc] at ee; exact absurd ee.symm (hno k hk)
    · rfl
  · rcases hl j hj with hj | rfl
    · rw [eg_snoc_lt hj]; exact h.at hj
    · exact absurd rfl hne
  · exact h.no id hid (fun j hj => by have := hn j (by simp; omega); rwa [eg_snoc_lt hj] at this)
theorem HeapIs.absent {A : List Ent} {wh : List Int} {m : Nat} {l : List Ent} (h : HeapIs A wh m l) {id : Nat} (hn : hasE l id = false) : ∀ j, j < A.length → (eg A j).id ≠ id := by
  intro j hj e
  have hm := h.perm.subset (eg_mem hj)
  simp only [hasE, List.any_eq_false, beq_iff_eq] at hn
  exact hn _ hm e
theorem HeapIs.wg_no {A : List Ent} {wh : List Int} {m : Nat} {l : List Ent} (h : HeapIs A wh m l) {id : Nat} (hid : id < m) (hn : hasE l id = false) : wg wh id = -1 := h.where_.no id hid (h.absent hn)
theorem HeapIs.wg_yes {A : List Ent} {wh : List Int} {m : Nat} {l : List Ent} (h : HeapIs A wh m l) {id : Nat} (hn : hasE l id = true) : ∃ i, i < A.length ∧ (eg A i).id = id ∧ wg wh id = (i : Int) := by
  simp only [hasE, List.any_eq_true, beq_iff_eq] at hn
  obtain ⟨e, he, hid⟩ := hn
  obtain ⟨i, hi, hie⟩ := mem_eg (h.perm.symm.subset he)
  refine ⟨i, hi, by rw [hie]; exact hid, ?_⟩
  rw [← hid, ← hie]; exact h.where_.at hi
theorem HeapIs.pushed {A A' : List Ent} {wh wh' : List Int} {m : Nat} {l : List Ent} {e : Ent} (h : HeapIs A wh m l) (hn : hasE l e.id = false) (hp : A'.Perm (A ++ [e])) (hh : HeapQ A') (hw : WhOk A' wh' m) : HeapIs A' wh' m (insE e l) := by
  refine ⟨?_, insE_sorted h.sorted (fun y hy e2 => ?_), hh, hw⟩
  · refine hp.trans (List.perm_append_comm.trans ?_)
    exact (h.perm.cons e).trans (insE_perm e l).symm
  · simp only [hasE, List.any_eq_false, beq_iff_eq] at hn
    exact hn y hy e2

theorem perm_set (A : List Ent) (i : Nat) (h : i < A.length) (x : Ent) : (A.set i x).Perm (x :: A.eraseIdx i) := by
  rw [List.set_eq_take_append_cons_drop, if_pos h, List.eraseIdx_eq_take_drop_succ]
  exact List.perm_middle
theorem perm_erase (A : List Ent) (i : Nat) (h : i < A.length) : A.Perm (eg A i :: A.eraseIdx i) := by
  rw [List.eraseIdx_eq_take_drop_succ]
  conv => lhs; rw [← List.take_append_drop i A, List.drop_eq_getElem_cons h, ← eg_of h]
  exact List.perm_middle
/-- Without the entry at i: without its number's. -/
theorem erase_cut {A : List Ent} {wh : List Int} {m : Nat} {l : List Ent} (h : HeapIs A wh m l) {i : Nat} (hi : i < A.length) : (A.eraseIdx i).Perm (cutE l (eg A i).id) := by
  have h1 : (cutE A (eg A i).id).Perm (cutE l (eg A i).id) := h.perm.filter _
  refine List.Perm.trans ?_ h1
  have h2 : (cutE A (eg A i).id).Perm (cutE (eg A i :: A.eraseIdx i) (eg A i).id) := (perm_erase A i hi).filter _
  refine List.Perm.trans ?_ h2.symm
  have h3 : cutE (eg A i :: A.eraseIdx i) (eg A i).id = A.eraseIdx i := by
    unfold cutE
    rw [List.filter_cons]
    simp only [bne_self_eq_false, Bool.false_eq_true, if_false]
    rw [List.filter_eq_self]
    intro y hy
    obtain ⟨k, hk, rfl⟩ := List.getElem_of_mem hy
    rw [List.getElem_eraseIdx]
    simp only [bne_iff_ne, ne_eq]
    have hkl : k < A.length - 1 := by rw [List.length_eraseIdx] at hk; split at hk <;> omega
    split
    · intro e
      rw [← eg_of (by omega)] at e
      have := h.where_.inj _ _ (by omega) hi e; omega
    · intro e
      rw [← eg_of (by omega)] at e
      have := h.where_.inj _ _ (by omega) hi e; omega
  rw [h3]
/-- Another time for one who has one. -/
theorem HeapIs.change {A : List Ent} {wh : List Int} {m : Nat} {l : List Ent} (h : HeapIs A wh m l) {i : Nat} (hi : i < A.length) {e : Ent} (he : (eg A i).id = e.id) : SInv (A.set i e) i ∧ WhOk (A.set i e) wh m := by
  refine ⟨SInv.change h.heap hi e, ?_⟩
  have hid : ∀ j, (eg (A.set i e) j).id = (eg A j).id := by
    intro j; rw [eg_set hi]; split
    · rename_i hj; rw [hj, he]
    · rfl
  have hw := h.where_
  refine ⟨hw.len, fun j hj => ?_, fun j k hj hk ee => ?_, fun j hj _ => ?_, fun id hid2 hn => ?_⟩
  · rw [hid]; exact hw.ids j (by simpa using hj)
  · rw [hid, hid] at ee; exact hw.inj j k (by simpa using hj) (by simpa using hk) ee
  · rw [hid]; exact hw.at (by simpa using hj)
  · exact hw.no id hid2 (fun j hj => by have := hn j (by simpa using hj); rwa [hid] at this)
theorem HeapIs.changed {A A' : List Ent} {wh wh' : List Int} {m : Nat} {l : List Ent} (h : HeapIs A wh m l) {i : Nat} (hi : i < A.length) {e : Ent} (he : (eg A i).id = e.id) (hp : A'.Perm (A.set i e)) (hh : HeapQ A') (hw : WhOk A' wh' m) : HeapIs A' wh' m (insE e (cutE l e.id)) := by
  refine ⟨?_, insE_sorted (cutE_sorted h.sorted _) (fun y hy e2 => ?_), hh, hw⟩
  · have := erase_cut h hi
    rw [he] at this
    exact hp.trans ((perm_set A i hi e).trans ((this.cons e).trans (insE_perm e _).symm))
  · simp only [cutE, List.mem_filter, bne_iff_ne, ne_eq] at hy
    exact hy.2 e2

/-- The last one is gone. -/
theorem HeapIs.cutLast {A : List Ent} {wh : List Int} {m n : Nat} {l : List Ent} (h : HeapIs A wh m l) (hn : A.length = n + 1) : HeapIs (A.take n) (wh.set (eg A n).id (-1)) m (cutE l (eg A n).id) := by
  have hw := h.where_
  have hlen : (A.take n).length = n := by simp; omega
  have hidn := hw.ids n (by omega)
  refine ⟨?_, cutE_sorted h.sorted _, h.heap.take n, ⟨by simpa using hw.len, fun j hj => ?_, fun j k hj hk ee => ?_, fun j hj _ => ?_, fun id hid hno => ?_⟩⟩
  · have := erase_cut h (i := n) (by omega)
    rw [List.eraseIdx_eq_take_drop_succ, List.drop_of_length_le (by omega), List.append_nil] at this
    exact this
  · rw [hlen] at hj; rw [eg_take hj]; exact hw.ids j (by omega)
  · rw [hlen] at hj hk; rw [eg_take hj, eg_take hk] at ee; exact hw.inj j k (by omega) (by omega) ee
  · rw [hlen] at hj
    rw [eg_take hj, wg_set (by rw [hw.len]; exact hidn), if_neg (fun e => by have := hw.inj j n (by omega) (by omega) e; omega)]
    exact hw.at (by omega)
  · rw [wg_set (by rw [hw.len]; exact hidn)]
    split
    · rfl
    · rename_i hne
      refine hw.no id hid (fun j hj e => ?_)
      by_cases ej : j = n
      · subst ej; exact hne e.symm
      · exact hno j (by omega) (by rw [eg_take (by omega)]; exact e)
/-- One in the midst is gone: the last one lies in its place. -/
theorem HeapIs.cutMid {A : List Ent} {wh : List Int} {m n i : Nat} {l : List Ent} (h : HeapIs A wh m l) (hn : A.length = n + 1) (hi : i < n) :
    SInv ((A.take n).set i (eg A n)) i ∧ WhOk ((A.take n).set i (eg A n)) ((wh.set (eg A i).id (-1)).set (eg A n).id (i : Int)) m ∧ ((A.take n).set i (eg A n)).Perm (cutE l (eg A i).id) := by
  have hw := h.where_
  have hlen : (A.take n).length = n := by simp; omega
  have hidn := hw.ids n (by omega)
  have hidi := hw.ids i (by omega)
  have hg : ∀ j, j < n → eg ((A.take n).set i (eg A n)) j = eg A (if j = i then n else j) := by
    intro j hj
    rw [eg_set (by omega)]; split
    · rfl
    · rw [eg_take hj]
  refine ⟨SInv.change (h.heap.take n) (by omega) _, ⟨by simpa using hw.len, fun j hj => ?_, fun j k hj hk ee => ?_, fun j hj _ => ?_, fun id hid hno => ?_⟩, ?_⟩
  · simp only [List.length_set, hlen] at hj
    rw [hg j hj]; exact hw.ids _ (by split <;> omega)
  · simp only [List.length_set, hlen] at hj hk
    rw [hg j hj, hg k hk] at ee
    have := hw.inj _ _ (by split <;> omega) (by split <;> omega) ee
    split at this <;> split at this <;> omega
  · simp only [List.length_set, hlen] at hj
    rw [hg j hj, wg_set (by simpa [hw.len] using hidn)]
    by_cases e : j = i
    · rw [if_pos e, if_pos rfl, e]
    · rw [if_neg e, if_neg (fun e2 => by have := hw.inj j n (by omega) (by omega) e2; omega), wg_set (by rw [hw.len]; exact hidi), if_neg (fun e2 => by have := hw.inj j i (by omega) (by omega) e2; omega)]
      exact hw.at (by omega)
  · have hno' : ∀ j, j < n → (eg A (if j = i then n else j)).id ≠ id := by
      intro j hj e; exact hno j (by simp only [List.length_set, hlen]; exact hj) (by rw [hg j hj]; exact e)
    have hn1 : id ≠ (eg A n).id := by
      intro e; exact hno' i hi (by rw [if_pos rfl]; exact e.symm)
    rw [wg_set (by simpa [hw.len] using hidn), if_neg hn1, wg_set (by rw [hw.len]; exact hidi)]
    split
    · rfl
    · rename_i hne
      refine hw.no id hid (fun j hj e => ?_)
      by_cases ej : j = n
      · subst ej; exact hn1 e.symm
      · by_cases ei : j = i
        · subst ei; exact hne e.symm
        · exact hno' j (by omega) (by rw [if_neg ei]; exact e)
  · have h1 := erase_cut h (i := i) (by omega)
    refine List.Perm.trans ?_ h1
    refine (perm_set _ i (by omega) _).trans ?_
    have e1 : A = A.take n ++ [eg A n] := by
      conv => lhs; rw [← List.take_append_drop n A, List.drop_eq_getElem_cons (by omega), ← eg_of (by omega), List.drop_of_length_le (by omega)]
    have e2 : A.eraseIdx i = (A.take n).eraseIdx i ++ [eg A n] := by
      conv => lhs; rw [e1]
      exact List.eraseIdx_append_of_lt_length (by omega) _
    rw [e2]
    exact (List.perm_append_comm (l₁ := [eg A n])).trans (List.Perm.refl _)
theorem HeapIs.cut {A A' : List Ent} {wh wh' : List Int} {m i : Nat} {l : List Ent} (h : HeapIs A wh m l) (hp : A'.Perm (cutE l (eg A i).id)) (hh : HeapQ A') (hw : WhOk A' wh' m) : HeapIs A' wh' m (cutE l (eg A i).id) :=
  ⟨hp, cutE_sorted h.sorted _, hh, hw⟩

theorem cutE_head {x : Ent} {l : List Ent} (h : ∀ y ∈ l, y.id ≠ x.id) : cutE (x :: l) x.id = l := by
  unfold cutE
  rw [List.filter_cons]
  simp only [bne_self_eq_false, Bool.false_eq_true, if_false]
  rw [List.filter_eq_self]
  intro y hy; simp [h y hy]
theorem HeapIs.ids_ne {A : List Ent} {wh : List Int} {m : Nat} {x : Ent} {l : List Ent} (h : HeapIs A wh m (x :: l)) : ∀ y ∈ l, y.id ≠ x.id := by
  intro y hy e
  obtain ⟨i, hi, hie⟩ := mem_eg (h.perm.symm.subset (List.mem_cons_of_mem x hy))
  have h0 := h.head
  have hl : 0 < A.length := by omega
  have : (eg A i).id = (eg A 0).id := by rw [hie, h0]; exact e
  have := h.where_.inj i 0 hi hl this
  subst this
  rw [h0] at hie
  subst hie
  exact absurd ((List.pairwise_cons.1 h.sorted).1 x hy) (Ent.lt_irrefl _)
theorem heapIs_new (m : Nat) : HeapIs [] (List.replicate m (-1)) m [] := by
  refine ⟨List.Perm.refl _, List.Pairwise.nil, fun j _ hj => by simp at hj, ⟨by simp, fun j hj => by simp at hj, fun j k hj => by simp at hj, fun j hj => by simp at hj, fun id hid _ => ?_⟩⟩
  simp [wg, List.getD, hid]
end Go.Proofs.Ytdhoedohchbagaa
