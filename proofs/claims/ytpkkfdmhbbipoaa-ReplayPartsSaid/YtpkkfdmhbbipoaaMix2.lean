/- Regions that draw their order, walked along a tree of orders: operations that look at no memory first, then whatever may come up, one branch for each. No program in sight. -/
import Derived.Test.YtpkkfdmhbbipoaaMix
namespace Go.Proofs.Ytpkkfdmhbbipoaa
open Go.RowKit

/-- A tree of orders: 'val': it looks at no memory and is taken first; 'op': only it may come up; 'two', 'three': just these may come up. -/
inductive Ord where
  | nil : Ord
  | val : Nat → Ord → Ord
  | op : Nat → Ord → Ord
  | two : Nat → Ord → Nat → Ord → Ord
  | three : Nat → Ord → Nat → Ord → Nat → Ord → Ord

def valOnly2 : Op → Bool
  | .nilCheck _ => true
  | o => valOnly o

section
variable {P : Program} {w w' : World} {n : Next}
theorem run_bindNil {α : Type} {s : Sem α} {f : α → Sem Next} (hf : ∀ a w1 w2 n, (f a).run P w1 = .ok n w2 → ∃ u, n = .value u) (h : (s >>= f).run P w = .ok n w') : ∃ u, n = .value u := by
  rw [Sem.run_bind] at h
  cases hs : s.run P w with
  | ok a w1 => rw [hs] at h; exact hf a w1 _ _ h
  | halt x w1 => rw [hs] at h; simp [Result.andThen] at h
theorem run_pureNil {u : Value} (h : (pure (Next.value u) : Sem Next).run P w = .ok n w') : ∃ u, n = .value u := by
  rw [Sem.run_pure] at h; injection h with h1 _; exact ⟨u, h1.symm⟩
theorem valOnly2_spec {ρ : Operand → Value} {o : Oper} (ho : valOnly2 o.op = true) (h : (execOp ρ o).run P w = .ok n w') : ∃ u, n = .value u := by
  obtain ⟨dst, op, ty, pos, aft, grd⟩ := o
  cases op
  case nilCheck =>
    simp only [execOp] at h
    split at h
    · simp [runtimePanic] at h
    · simp [runtimePanic] at h
    · simp [runtimePanic] at h
    · split at h
      · simp [runtimePanic] at h
      · refine run_bindNil ?_ h
        intro a w1 w2 n h
        refine run_bindNil ?_ h
        intro a w1 w2 n h
        split at h
        · refine run_bindNil ?_ h
          intro a w1 w2 n h
          exact run_pureNil h
        · exact run_pureNil h
      · exact run_pureNil h
    · exact run_pureNil h
  all_goals first | exact valOnly_spec (o := ⟨dst, _, ty, pos, aft, grd⟩) (by simpa only [valOnly2] using ho) h | (simp [valOnly2, valOnly] at ho)
end

def ordB (md : Region.Mode) (ops : Array Oper) : Ord → Array Bool → Bool
  | .nil, listed => (Region.ready md ops listed).isEmpty
  | .val i r, listed => (Region.ready md ops listed).contains i && Region.free md ops listed i && (match ops[i]? with | some o => valOnly2 o.op | none => false) && ordB md ops r (listed.setIfInBounds i true)
  | .op i r, listed => Region.ready md ops listed == [i] && ordB md ops r (listed.setIfInBounds i true)
  | .two i r j s, listed => Region.ready md ops listed == [i, j] && ordB md ops r (listed.setIfInBounds i true) && ordB md ops s (listed.setIfInBounds j true)
  | .three i r j s k t, listed => Region.ready md ops listed == [i, j, k] && ordB md ops r (listed.setIfInBounds i true) && ordB md ops s (listed.setIfInBounds j true) && ordB md ops t (listed.setIfInBounds k true)

section
variable {P : Program} {ops : Array Oper} {Q : Exit → Act → World → Prop}
def wpOrd (P : Program) (ops : Array Oper) (Q : Exit → Act → World → Prop) : Ord → Act → World → Prop
  | .nil, a, w => Q .normal a w
  | .val i r, a, w => ∃ o, ops[i]? = some o ∧ wpQuiet P ops (fun _ => True) (fun a' => wpOrd P ops Q r a' w) [o] a
  | .op i r, a, w => ∃ o, ops[i]? = some o ∧ wpList P ops (Exit.then (wpOrd P ops Q r) Q) [o] a w
  | .two i r j s, a, w => (∃ o, ops[i]? = some o ∧ wpList P ops (Exit.then (wpOrd P ops Q r) Q) [o] a w) ∧ (∃ o, ops[j]? = some o ∧ wpList P ops (Exit.then (wpOrd P ops Q s) Q) [o] a w)
  | .three i r j s k t, a, w => (∃ o, ops[i]? = some o ∧ wpList P ops (Exit.then (wpOrd P ops Q r) Q) [o] a w) ∧ (∃ o, ops[j]? = some o ∧ wpList P ops (Exit.then (wpOrd P ops Q s) Q) [o] a w) ∧
      (∃ o, ops[k]? = some o ∧ wpList P ops (Exit.then (wpOrd P ops Q t) Q) [o] a w)

def Ord.depth : Ord → Nat
  | .nil => 0
  | .val _ r => r.depth + 1
  | .op _ r => r.depth + 1
  | .two _ r _ _ => r.depth + 1
  | .three _ r _ _ _ _ => r.depth + 1
def Ord.even : Ord → Bool
  | .nil => true
  | .val _ r => r.even
  | .op _ r => r.even
  | .two _ r _ s => r.even && s.even && r.depth == s.depth
  | .three _ r _ s _ t => r.even && s.even && t.even && r.depth == s.depth && r.depth == t.depth

theorem wpOrd_list {i : Nat} {o : Oper} {next : Act → World → Prop} {K : Act → World → Prop} {a : Act} {w : World} (ho : ops[i]? = some o) (h : wpList P ops (Exit.then next Q) [o] a w) (hn : ∀ a w, next a w → K a w) : wpOp P ops Q i K a w := by
  unfold wpOp
  simp only [ho]
  simp only [wpList] at h
  by_cases hw : Region.wanted o (yielded ops a.tmps) = true
  · rw [if_pos hw] at h ⊢
    rcases h with h | ⟨h1, a2, w2, h2⟩
    · refine .inl ?_
      have h3 := Oper.wp_mono (K' := K) (fun a' w' hk => hn a' w' hk) h
      exact wp_then h3
    · exact .inr ⟨h1, a2, w2, h2⟩
  · rw [if_neg hw] at h ⊢
    exact hn _ _ h

theorem wpOrd_sound {md : Region.Mode} (hsel : Region.noSelect ops = true) (hQ : ∀ c a w, ¬ Q (.panic c) a w) : ∀ (π : Ord) (listed : Array Bool) (a : Act) (w : World), ordB md ops π listed = true → π.even = true →
    wpOrd P ops Q π a w → wpAny P md ops Q π.depth listed a w
  | .nil, listed, a, w, hB, _, h => ⟨by simpa [ordB] using hB, h⟩
  | .val i r, listed, a, w, hB, hE, ⟨o, ho, h⟩ => by
    simp only [ordB, Bool.and_eq_true, ho] at hB
    obtain ⟨⟨⟨hr, hf⟩, hv⟩, hB'⟩ := hB
    simp only [wpQuiet] at h
    have key : ∃ v, Yields P ops o v a ∧ wpOrd P ops Q r (a.put o.dst v) w := by
      by_cases hw : Region.wanted o (yielded ops a.tmps) = true
      · rw [if_pos hw] at h
        obtain ⟨v, h1, h2⟩ := h
        refine ⟨v, .inl ⟨hw, fun w' => ?_⟩, h2⟩
        have h3 := h1 w' trivial
        unfold Oper.quietAt at h3
        cases hrun : (execOp a.eval o).run P w' with
        | ok n w1 =>
          obtain ⟨u, rfl⟩ := valOnly2_spec hv hrun
          rw [hrun] at h3
          simp only [Oper.quietUpon] at h3
          rw [h3.1, h3.2]
        | halt x w1 => rw [hrun] at h3; simp only [Oper.quietUpon] at h3
      · rw [if_neg hw] at h
        exact ⟨undef, .inr ⟨by simpa using hw, rfl⟩, h⟩
    obtain ⟨v, hy, hn⟩ := key
    exact wpAny_first ho (fun j o cs b => Region.noSelect_spec hsel j o cs b) (fun c a w hq => absurd hq (hQ c _ _)) r.depth listed a w
      (fun j oj hj hne hun hno => Region.free_spec ho hf j oj hj hne hun hno) (by simpa using hr) hy (wpOrd_sound hsel hQ r _ _ _ hB' hE hn)
  | .op i r, listed, a, w, hB, hE, ⟨o, ho, h⟩ => by
    simp only [ordB, Bool.and_eq_true, beq_iff_eq] at hB
    obtain ⟨hr, hB'⟩ := hB
    refine ⟨fun h0 => (by rw [hr] at h0; cases h0), fun j hj => ?_⟩
    rw [hr] at hj
    obtain rfl : j = i := by simpa using hj
    exact wpOrd_list ho h (fun a' w' hk => wpOrd_sound hsel hQ r _ a' w' hB' hE hk)
  | .two i r k s, listed, a, w, hB, hE, ⟨⟨o, ho, h⟩, ⟨o2, ho2, h2⟩⟩ => by
    simp only [ordB, Bool.and_eq_true, beq_iff_eq] at hB
    simp only [Ord.even, Bool.and_eq_true, beq_iff_eq] at hE
    obtain ⟨⟨hr, hB'⟩, hB2⟩ := hB
    obtain ⟨⟨hE1, hE2⟩, hd⟩ := hE
    refine ⟨fun h0 => (by rw [hr] at h0; cases h0), fun j hj => ?_⟩
    rw [hr] at hj
    rcases (by simpa using hj : j = i ∨ j = k) with rfl | rfl
    · exact wpOrd_list ho h (fun a' w' hk => wpOrd_sound hsel hQ r _ a' w' hB' hE1 hk)
    · exact wpOrd_list ho2 h2 (fun a' w' hk => by have := wpOrd_sound hsel hQ s _ a' w' hB2 hE2 hk; rwa [← hd] at this)
  | .three i r k s l t, listed, a, w, hB, hE, ⟨⟨o, ho, h⟩, ⟨o2, ho2, h2⟩, ⟨o3, ho3, h3⟩⟩ => by
    simp only [ordB, Bool.and_eq_true, beq_iff_eq] at hB
    simp only [Ord.even, Bool.and_eq_true, beq_iff_eq] at hE
    obtain ⟨⟨⟨hr, hB'⟩, hB2⟩, hB3⟩ := hB
    obtain ⟨⟨⟨⟨hE1, hE2⟩, hE3⟩, hd⟩, hd2⟩ := hE
    refine ⟨fun h0 => (by rw [hr] at h0; cases h0), fun j hj => ?_⟩
    rw [hr] at hj
    rcases (by simpa using hj : j = i ∨ j = k ∨ j = l) with rfl | rfl | rfl
    · exact wpOrd_list ho h (fun a' w' hk => wpOrd_sound hsel hQ r _ a' w' hB' hE1 hk)
    · exact wpOrd_list ho2 h2 (fun a' w' hk => by have := wpOrd_sound hsel hQ s _ a' w' hB2 hE2 hk; rwa [← hd] at this)
    · exact wpOrd_list ho3 h3 (fun a' w' hk => by have := wpOrd_sound hsel hQ t _ a' w' hB3 hE3 hk; rwa [← hd2] at this)

/-- THE RULE. -/
theorem wp_region_ord {id : Nat} {a : Act} {w : World} {l : List Oper} (π : Ord) (hm : P.follows .mixedOrders = true)
    (hB : (Region.noSelect l.toArray && (π.depth == l.length && (π.even && ordB .any l.toArray π (Array.replicate l.length false)))) = true)
    (h : wpOrd P l.toArray (OnlyBack Q) π a (w.drewN 1)) : (Code.region id l.toArray true).wp P Q a w := by
  simp only [Bool.and_eq_true, beq_iff_eq] at hB
  obtain ⟨h1, h2, hE, h3⟩ := hB
  refine Code.wp_mono (Q := OnlyBack Q) (fun e a w q => by cases e <;> first | exact q | exact q.elim) (wp_region_any hm ?_)
  have := wpOrd_sound (md := .any) h1 (fun c a w hq => hq) π (Array.replicate l.length false) a w.drew h3 hE h
  rw [h2] at this
  simpa using this
theorem wpOrd_nil {a : Act} {w : World} (h : Q .normal a w) : wpOrd P ops (OnlyBack Q) .nil a w := h
theorem wpOrd_val {l : List Oper} {i : Nat} {r : Ord} {a : Act} {w : World} {o : Oper} (ho : nth l i = some o)
    (h : wpQuiet P l.toArray (fun _ => True) (fun a' => wpOrd P l.toArray Q r a' w) [o] a) : wpOrd P l.toArray Q (.val i r) a w := ⟨o, by rw [← ho, nth_eq]; simp, h⟩
theorem wpOrd_op {l : List Oper} {i : Nat} {r : Ord} {a : Act} {w : World} {o : Oper} (ho : nth l i = some o)
    (h : wpList P l.toArray (Exit.then (wpOrd P l.toArray Q r) Q) [o] a w) : wpOrd P l.toArray Q (.op i r) a w := ⟨o, by rw [← ho, nth_eq]; simp, h⟩
theorem wpOrd_two {l : List Oper} {i j : Nat} {r s : Ord} {a : Act} {w : World} {o o2 : Oper} (ho : nth l i = some o) (ho2 : nth l j = some o2)
    (h : wpList P l.toArray (Exit.then (wpOrd P l.toArray Q r) Q) [o] a w) (h2 : wpList P l.toArray (Exit.then (wpOrd P l.toArray Q s) Q) [o2] a w) : wpOrd P l.toArray Q (.two i r j s) a w :=
  ⟨⟨o, by rw [← ho, nth_eq]; simp, h⟩, ⟨o2, by rw [← ho2, nth_eq]; simp, h2⟩⟩
theorem wpOrd_three {l : List Oper} {i j k : Nat} {r s t : Ord} {a : Act} {w : World} {o o2 o3 : Oper} (ho : nth l i = some o) (ho2 : nth l j = some o2) (ho3 : nth l k = some o3)
    (h : wpList P l.toArray (Exit.then (wpOrd P l.toArray Q r) Q) [o] a w) (h2 : wpList P l.toArray (Exit.then (wpOrd P l.toArray Q s) Q) [o2] a w) (h3 : wpList P l.toArray (Exit.then (wpOrd P l.toArray Q t) Q) [o3] a w) : wpOrd P l.toArray Q (.three i r j s k t) a w :=
  ⟨⟨o, by rw [← ho, nth_eq]; simp, h⟩, ⟨o2, by rw [← ho2, nth_eq]; simp, h2⟩, ⟨o3, by rw [← ho3, nth_eq]; simp, h3⟩⟩
theorem wpOrd_on {r : Ord} {a : Act} {w : World} (h : wpOrd P ops Q r a w) : Exit.then (wpOrd P ops Q r) Q .normal a w := h
end
end Go.Proofs.Ytpkkfdmhbbipoaa
