/- Plain laws: how an entry goes up and down in a heap, step by step, while its place is open; no program in sight. -/
import Derived.Test.YtdhoedohchbagaaHb
namespace Go.Proofs.Ytdhoedohchbagaa

theorem set_eg (A : List Ent) (i : Nat) (hi : i < A.length) : A.set i (eg A i) = A := by
  refine List.ext_getElem? fun j => ?_
  rw [List.getElem?_set]
  by_cases e : i = j
  · subst e; rw [if_pos rfl, if_pos hi, eg_some hi]
  · rw [if_neg e]
theorem set_set_swap (L : List Ent) (k p : Nat) (e : Ent) (hk : k < L.length) (hne : p ≠ k) : swapE (L.set k e) k p = (L.set k (eg L p)).set p e := by
  unfold swapE
  rw [eg_set hk, if_neg hne, eg_set hk, if_pos rfl, List.set_set]

/-- On the way up: the entry e is to lie at k. -/
structure UpS (A0 : List Ent) (i0 m : Nat) (e : Ent) (L : List Ent) (wh : List Int) (k : Nat) : Prop where
  len : L.length = A0.length
  lt : k < A0.length
  inv : SInv (L.set k e) k
  ex : WhEx (L.set k e) wh m k
  perm : (L.set k e).Perm A0
  und : UnderQ A0 i0 → UnderQ (L.set k e) k
  idb : e.id < m

theorem UpS.start {A : List Ent} {wh : List Int} {m i : Nat} (hi : i < A.length) (hs : SInv A i) (hw : WhEx A wh m i) : UpS A i m (eg A i) A wh i := by
  have e := set_eg A i hi
  exact ⟨rfl, hi, by rw [e]; exact hs, by rw [e]; exact hw, by rw [e], fun h => by rw [e]; exact h, hw.ids i hi⟩
theorem UpS.step {A0 L : List Ent} {wh : List Int} {i0 m k : Nat} {e : Ent} (h : UpS A0 i0 m e L wh k) (hk : 0 < k) (hlt : e.lt (eg L (par k))) :
    UpS A0 i0 m e (L.set k (eg L (par k))) (wh.set (eg L (par k)).id (k : Int)) (par k) := by
  have hp := par_lt hk
  have hl := h.len
  have hkl := h.lt
  have hA : (L.set k e).length = A0.length := by simpa using hl
  have e1 := set_set_swap L k (par k) e (by omega) (by omega)
  have e2 : eg (L.set k e) k = e := by rw [eg_set (by omega), if_pos rfl]
  have e3 : eg (L.set k e) (par k) = eg L (par k) := by rw [eg_set (by omega), if_neg (by omega)]
  have hlt' : (eg (L.set k e) k).lt (eg (L.set k e) (par k)) := by rw [e2, e3]; exact hlt
  refine ⟨by simpa using hl, by omega, ?_, ?_, ?_, fun _ => ?_, h.idb⟩
  · rw [← e1]; exact h.inv.up hk (by omega) hlt'
  · rw [← e1]
    have := h.ex.move (p := par k) (by omega) (by omega) (by omega)
    rwa [e3] at this
  · rw [← e1]; exact (swapE_perm (by omega) (by omega)).trans h.perm
  · rw [← e1]; exact UnderQ.up hk (by omega) h.inv hlt'
theorem UpS.done {A0 L : List Ent} {wh : List Int} {i0 m k : Nat} {e : Ent} (h : UpS A0 i0 m e L wh k) (hd : k = 0 ∨ (eg L (par k)).le e) :
    (L.set k e).Perm A0 ∧ SInv (L.set k e) k ∧ OverQ (L.set k e) k ∧ (UnderQ A0 i0 → UnderQ (L.set k e) k) ∧ WhOk (L.set k e) (wh.set e.id (k : Int)) m ∧ (L.set k e).length = A0.length ∧ eg (L.set k e) k = e := by
  have hl := h.len
  have hkl := h.lt
  have hA : (L.set k e).length = A0.length := by simpa using hl
  have e2 : eg (L.set k e) k = e := by rw [eg_set (by omega), if_pos rfl]
  refine ⟨h.perm, h.inv, fun h0 => ?_, h.und, ?_, hA, e2⟩
  · have hp := par_lt h0
    rw [e2, eg_set (by omega), if_neg (by omega)]
    rcases hd with hd | hd
    · omega
    · exact hd
  · have := h.ex.close (by omega)
    rwa [e2] at this

/-- On the way down. -/
structure DnS (A0 : List Ent) (m : Nat) (e : Ent) (L : List Ent) (wh : List Int) (k : Nat) : Prop where
  len : L.length = A0.length
  lt : k < A0.length
  inv : DInv (L.set k e) k
  ex : WhEx (L.set k e) wh m k
  perm : (L.set k e).Perm A0
  idb : e.id < m
theorem DnS.start {A : List Ent} {wh : List Int} {m i : Nat} (hi : i < A.length) (hs : DInv A i) (hw : WhEx A wh m i) : DnS A m (eg A i) A wh i := by
  have e := set_eg A i hi
  exact ⟨rfl, hi, by rw [e]; exact hs, by rw [e]; exact hw, by rw [e], hw.ids i hi⟩
theorem par_iff {j k : Nat} (h0 : 0 < j) : par j = k ↔ j = 2 * k + 1 ∨ j = 2 * k + 2 := by unfold par; omega
theorem DnS.step {A0 L : List Ent} {wh : List Int} {m k b : Nat} {e : Ent} (h : DnS A0 m e L wh k) (hb : b < A0.length) (hp : b = 2 * k + 1 ∨ b = 2 * k + 2)
    (hmin : ∀ j, (j = 2 * k + 1 ∨ j = 2 * k + 2) → j < A0.length → (eg L b).le (eg L j)) (hlt : (eg L b).lt e) :
    DnS A0 m e (L.set k (eg L b)) (wh.set (eg L b).id (k : Int)) b := by
  have hl := h.len
  have hkl := h.lt
  have h0 : 0 < b := by omega
  have hpb : par b = k := (par_iff h0).2 hp
  have hA : (L.set k e).length = A0.length := by simpa using hl
  have e1 := set_set_swap L k b e (by omega) (by omega)
  have e2 : eg (L.set k e) k = e := by rw [eg_set (by omega), if_pos rfl]
  have e3 : ∀ j, j ≠ k → eg (L.set k e) j = eg L j := by intro j hj; rw [eg_set (by omega), if_neg hj]
  refine ⟨by simpa using hl, hb, ?_, ?_, ?_, h.idb⟩
  · rw [← e1]
    refine h.inv.down h0 (by omega) hpb (fun j hj0 hj hpj => ?_) ?_
    · have hj2 := (par_iff hj0).1 hpj
      rw [e3 _ (by omega), e3 _ (by omega)]
      exact hmin j hj2 (by omega)
    · rw [e2, e3 _ (by omega)]; exact hlt
  · rw [← e1]
    have := h.ex.move (p := b) (by omega) (by omega) (by omega)
    rwa [e3 _ (by omega)] at this
  · rw [← e1]; exact (swapE_perm (by omega) (by omega)).trans h.perm
theorem DnS.done {A0 L : List Ent} {wh : List Int} {m k : Nat} {e : Ent} (h : DnS A0 m e L wh k) (hd : ∀ j, (j = 2 * k + 1 ∨ j = 2 * k + 2) → j < A0.length → e.le (eg L j)) :
    (L.set k e).Perm A0 ∧ HeapQ (L.set k e) ∧ WhOk (L.set k e) (wh.set e.id (k : Int)) m ∧ (L.set k e).length = A0.length := by
  have hl := h.len
  have hkl := h.lt
  have hA : (L.set k e).length = A0.length := by simpa using hl
  have e2 : eg (L.set k e) k = e := by rw [eg_set (by omega), if_pos rfl]
  refine ⟨h.perm, h.inv.done (fun j h0 hj hp => ?_), ?_, hA⟩
  · have hj2 := (par_iff h0).1 hp
    rw [e2, eg_set (by omega), if_neg (by omega)]
    exact hd j hj2 (by omega)
  · have := h.ex.close (by omega)
    rwa [e2] at this

/-- What stays of two entries compared. -/
def cmpE (a b : Ent) : Int := if a.lt b then -1 else if b.lt a then 1 else 0
theorem cmpE_le {a b : Ent} : cmpE a b ≤ 0 ↔ a.le b := by
  unfold cmpE; split
  · rename_i h; simp [Ent.le_of_lt h]
  · rename_i h; split
    · rename_i h2; simp only [Ent.le, Ent.lt] at *; omega
    · rename_i h2; simp only [Ent.le, Ent.lt] at *; omega
theorem cmpE_lt {a b : Ent} : cmpE a b < 0 ↔ a.lt b := by
  unfold cmpE; split
  · rename_i h; simp [h]
  · rename_i h; split <;> simp [h]
theorem cmpE_bounds (a b : Ent) : -1 ≤ cmpE a b ∧ cmpE a b ≤ 1 := by unfold cmpE; (repeat split) <;> omega
end Go.Proofs.Ytdhoedohchbagaa
