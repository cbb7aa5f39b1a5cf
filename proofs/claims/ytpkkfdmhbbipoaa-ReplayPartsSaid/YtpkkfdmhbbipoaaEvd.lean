/- Events by rounds: each round's events, one row behind the other. -/
import Derived.Test.YtpkkfdmhbbipoaaEvc
namespace Go.Proofs.Ytpkkfdmhbbipoaa
open Go.RowKit

theorem Try.infoEl : (Try.prog.info? 22).map (fun i => (i.zero, i.size, i.bytes)) = some (some (.slice none 0 0), 1, 24) := by kernel_rfl
def lastAdd : List (List EvV) → EvV → List (List EvV)
  | [], _ => []
  | [r], x => [r ++ [x]]
  | r :: s :: l, x => r :: lastAdd (s :: l) x
def cutStep (L : List (List EvV)) (x : EvV) : List (List EvV) := lastAdd (if x.kind = 1 then L ++ [[]] else L) x
def cutEvs (l : List EvV) : List (List EvV) := l.foldl cutStep []
theorem lastAdd_length (L : List (List EvV)) (x : EvV) : (lastAdd L x).length = L.length := by
  induction L with
  | nil => rfl
  | cons r L ih =>
    cases L with
    | nil => rfl
    | cons s l => simp only [lastAdd, List.length_cons] at ih ⊢; omega
theorem lastAdd_get (L : List (List EvV)) (x : EvV) (j : Nat) : (lastAdd L x)[j]? = if j + 1 = L.length then (L[j]?).map (· ++ [x]) else L[j]? := by
  induction L generalizing j with
  | nil => simp [lastAdd]
  | cons r L ih =>
    cases L with
    | nil =>
      cases j with
      | zero => simp [lastAdd]
      | succ j => simp [lastAdd]
    | cons s l =>
      cases j with
      | zero => simp [lastAdd]
      | succ j =>
        have := ih j
        simp only [lastAdd, List.getElem?_cons_succ, List.length_cons] at this ⊢
        rw [this]
        by_cases h : j + 1 = l.length + 1
        · rw [if_pos h, if_pos (by omega)]
        · rw [if_neg h, if_neg (by omega)]
/-- Rows of events in memory, one row each, and the row of them. -/
structure CutAt (base : Nat) (w : World) (L : List (List EvV)) (vs : List Value) (ov : Value) : Prop where
  out : w.ownsRow base 22 1 ov L.length vs
  len : vs.length = L.length
  row : ∀ (j : Nat) x, L[j]? = some x → ∃ A c, vs[j]? = some (.slice A x.length c) ∧ w.ownsRow base 72 12 (.slice A x.length c) x.length (evCells x)
  sep : ∀ (j : Nat) v, vs[j]? = some v → ∀ k, v.ownBlock = some k → ov.ownBlock ≠ some k ∧ ∀ (i : Nat) u, vs[i]? = some u → u.ownBlock = some k → i = j
theorem CutAt.keep {base : Nat} {w w' : World} {L : List (List EvV)} {vs : List Value} {ov : Value} {G : Nat → Prop} (h : CutAt base w L vs ov) (hk : Keep G w w') (hg : ∀ k, base ≤ k → k < w.heap.size → ¬ G k) : CutAt base w' L vs ov :=
  ⟨hk.own h.out (fun k hv => hg k (h.out.lt k hv).1 (h.out.lt k hv).2), h.len, fun j x hj => by
    obtain ⟨A, c, h1, h2⟩ := h.row j x hj
    exact ⟨A, c, h1, hk.own h2 (fun k hv => hg k (h2.lt k hv).1 (h2.lt k hv).2)⟩, h.sep⟩
theorem CutAt.below {base : Nat} {w w' : World} {L : List (List EvV)} {vs : List Value} {ov : Value} (h : CutAt base w L vs ov) (hb : Below w.heap.size w w') : CutAt base w' L vs ov :=
  h.keep (G := fun _ => False) (Keep.of_below hb) (fun _ _ _ h => h)
/-- A new round: an empty row behind the others. -/
theorem CutAt.push {base : Nat} {w w' : World} {L : List (List EvV)} {vs : List Value} {ov ov' : Value} (h : CutAt base w L vs ov) (hk : Keep (fun k => ov.ownBlock = some k) w w') (ho : w'.ownsRow base 22 1 ov' (L.length + 1) (vs ++ [.slice none 0 0])) (hf : ∀ k, ov'.ownBlock = some k → ov.ownBlock = some k ∨ w.heap.size ≤ k) : CutAt base w' (L ++ [[]]) (vs ++ [.slice none 0 0]) ov' := by
  have hlt : ∀ (j : Nat) v, (vs ++ [Value.slice none 0 0])[j]? = some v → (vs[j]? = some v) ∨ v = .slice none 0 0 := by
    intro j v hj
    by_cases hjl : j < vs.length
    · rw [List.getElem?_append_left hjl] at hj; exact .inl hj
    · rw [List.getElem?_append_right (by omega)] at hj
      have hm := List.mem_of_getElem? hj
      rw [List.mem_singleton] at hm; exact .inr hm
  have hsz : ∀ (j : Nat) v k, vs[j]? = some v → v.ownBlock = some k → k < w.heap.size := by
    intro j v k hj hv
    have hjl : j < L.length := by rw [← h.len]; exact (List.getElem?_eq_some_iff.1 hj).1
    obtain ⟨A, c, h1, h2⟩ := h.row j _ (List.getElem?_eq_getElem hjl)
    rw [hj] at h1
    obtain rfl := Option.some.inj h1
    exact (h2.lt k hv).2
  refine ⟨by rw [List.length_append]; exact ho, by rw [List.length_append, List.length_append, h.len]; rfl, fun j x hj => ?_, fun j v hj k hv => ?_⟩
  · by_cases hjl : j < L.length
    · rw [List.getElem?_append_left hjl] at hj
      obtain ⟨A, c, h1, h2⟩ := h.row j x hj
      exact ⟨A, c, by rw [List.getElem?_append_left (by rw [h.len]; exact hjl)]; exact h1, hk.own h2 (fun k hv e => (h.sep j _ h1 k hv).1 e)⟩
    · rw [List.getElem?_append_right (by omega)] at hj
      have hm := List.mem_of_getElem? hj
      rw [List.mem_singleton] at hm; subst hm
      have hj0 : j = L.length := by have h1 := (List.getElem?_eq_some_iff.1 hj).1; simp at h1; omega
      subst hj0
      exact ⟨none, 0, by rw [← h.len, List.getElem?_append_right (Nat.le_refl _), Nat.sub_self]; rfl, World.ownsRow_nil _ _ _ _⟩
  · rcases hlt j v hj with hv2 | rfl
    · refine ⟨fun e => ?_, fun i u hi hu => ?_⟩
      · rcases hf k e with h1 | h1
        · exact (h.sep j v hv2 k hv).1 h1
        · have := hsz j v k hv2 hv; omega
      · rcases hlt i u hi with hu2 | rfl
        · exact (h.sep j v hv2 k hv).2 i u hu2 hu
        · cases hu
    · cases hv
/-- One more event in the last round. -/
theorem CutAt.last {base : Nat} {w w1 w2 : World} {L : List (List EvV)} {vs : List Value} {ov v0 : Value} {x0 : List EvV} {x : EvV} {g c : Nat} (h : CutAt base w L vs ov) (n : Nat) (hn : n + 1 = L.length) (hx : L[n]? = some x0) (hv : vs[n]? = some v0)
    (hk : Keep (fun k => v0.ownBlock = some k) w w1) (ho : w1.ownsRow base 72 12 (.slice (some ⟨g, 0, none⟩) (x0.length + 1) c) (x0.length + 1) (evCells (x0 ++ [x]))) (hf : v0.ownBlock = some g ∨ w.heap.size ≤ g)
    (hk2 : Keep (fun k => ov.ownBlock = some k) w1 w2) (ho2 : w2.ownsRow base 22 1 ov L.length (vs.set n (.slice (some ⟨g, 0, none⟩) (x0.length + 1) c))) : CutAt base w2 (lastAdd L x) (vs.set n (.slice (some ⟨g, 0, none⟩) (x0.length + 1) c)) ov := by
  have hovg : ov.ownBlock ≠ some g := by
    intro e
    rcases hf with h1 | h1
    · exact (h.sep n v0 hv g h1).1 e
    · have := (h.out.lt g e).2; omega
  have hlt : ∀ (j : Nat) v, (vs.set n (.slice (some ⟨g, 0, none⟩) (x0.length + 1) c))[j]? = some v → (j ≠ n ∧ vs[j]? = some v) ∨ (j = n ∧ v = .slice (some ⟨g, 0, none⟩) (x0.length + 1) c) := by
    intro j v hj
    rw [List.getElem?_set] at hj
    by_cases e : n = j
    · rw [if_pos e] at hj
      split at hj
      · exact .inr ⟨e.symm, (Option.some.inj hj).symm⟩
      · cases hj
    · rw [if_neg e] at hj; exact .inl ⟨fun e2 => e e2.symm, hj⟩
  have hsz : ∀ (j : Nat) v k, vs[j]? = some v → v.ownBlock = some k → k < w.heap.size := by
    intro j v k hj hv
    have hjl : j < L.length := by rw [← h.len]; exact (List.getElem?_eq_some_iff.1 hj).1
    obtain ⟨A, c, h1, h2⟩ := h.row j _ (List.getElem?_eq_getElem hjl)
    rw [hj] at h1
    obtain rfl := Option.some.inj h1
    exact (h2.lt k hv).2
  have hone : ∀ (j : Nat) v, j ≠ n → vs[j]? = some v → v.ownBlock ≠ some g := by
    intro j v hj hv2 e
    rcases hf with h1 | h1
    · exact hj ((h.sep n v0 hv g h1).2 j v hv2 e)
    · have := hsz j v g hv2 e; omega
  refine ⟨by rw [lastAdd_length]; exact ho2, by rw [List.length_set, lastAdd_length, h.len], fun j y hj => ?_, fun j v hj k hvk => ?_⟩
  · rw [lastAdd_get] at hj
    by_cases e : j = n
    · subst e
      rw [if_pos hn, hx] at hj
      obtain rfl := Option.some.inj hj
      refine ⟨some ⟨g, 0, none⟩, c, ?_, ?_⟩
      · rw [List.getElem?_set_self (by rw [h.len]; omega), List.length_append]; rfl
      · rw [List.length_append]
        exact hk2.own ho (fun k hv' e2 => by cases hv'; exact hovg e2)
    · rw [if_neg (by omega)] at hj
      obtain ⟨A, c', h1, h2⟩ := h.row j y hj
      refine ⟨A, c', by rw [List.getElem?_set_ne (fun e2 => e e2.symm)]; exact h1, ?_⟩
      exact hk2.own (hk.own h2 (fun k hv' e2 => e ((h.sep n v0 hv k e2).2 j _ h1 hv'))) (fun k hv' e2 => (h.sep j _ h1 k hv').1 e2)
  · rcases hlt j v hj with ⟨h1, h2⟩ | ⟨rfl, rfl⟩
    · refine ⟨(h.sep j v h2 k hvk).1, fun i u hi hu => ?_⟩
      rcases hlt i u hi with ⟨h3, h4⟩ | ⟨rfl, rfl⟩
      · exact (h.sep j v h2 k hvk).2 i u h4 hu
      · have e : g = k := Option.some.inj hu
        subst e
        exact absurd hvk (hone j v h1 h2)
    · have e : g = k := Option.some.inj hvk
      subst e
      refine ⟨hovg, fun i u hi hu => ?_⟩
      rcases hlt i u hi with ⟨h3, h4⟩ | ⟨rfl, rfl⟩
      · exact absurd hu (hone i u h3 h4)
      · rfl
end Go.Proofs.Ytpkkfdmhbbipoaa
