/- Regions that draw their order, walked in ONE order: operations that look at no memory are taken first; all others stand in a forced chain. No program in sight. -/
import Derived.Test.YtpkkfdmhbbipoaaBase
import Derived.Deep.QuietTactic
import Derived.BigQuiet
import Derived.Deep.RegionHeld3
namespace Go.Proofs.Ytpkkfdmhbbipoaa
open Go.RowKit

/-- Operations that answer with a value (they call no Go function and store nothing). -/
def valOnly : Op → Bool
  | .move _ | .assign _ | .pick .. | .build .. | .binOp .. | .unOp .. | .convert .. | .slice .. | .fieldAddr .. | .field .. | .indexAddr .. | .index .. | .extract .. | .makeInterface .. => true
  | .call c => match c.callee with
    | .builtin .len | .builtin .cap | .builtin .min | .builtin .max => true
    | _ => false
  | _ => false

section
variable {P : Program} {w w' : World} {n : Next}
theorem run_val {s : Sem Value} (h : ((do pure (Next.value (← s)) : Sem Next)).run P w = .ok n w') : ∃ u, n = .value u := by
  rw [Sem.run_bind] at h
  cases hs : s.run P w with
  | ok a w1 => rw [hs] at h; simp at h; exact ⟨a, h.1.symm⟩
  | halt x w1 => rw [hs] at h; simp [Result.andThen] at h
theorem valOnly_spec {ρ : Operand → Value} {o : Oper} (ho : valOnly o.op = true) (h : (execOp ρ o).run P w = .ok n w') : ∃ u, n = .value u := by
  obtain ⟨dst, op, ty, pos, aft, grd⟩ := o
  cases op
  case move => exact run_val (s := pure _) h
  case assign => exact run_val (s := pure _) h
  case pick c a b =>
    simp only [execOp] at h
    rw [Sem.run_bind] at h
    cases hs : (asBool (ρ c)).run P w with
    | ok a w1 => rw [hs] at h; simp at h; exact ⟨_, h.1.symm⟩
    | halt x w1 => rw [hs] at h; simp [Result.andThen] at h
  case build => exact run_val h
  case binOp => exact run_val h
  case unOp => exact run_val h
  case convert => exact run_val h
  case slice => exact run_val h
  case fieldAddr => exact run_val h
  case field => exact run_val h
  case indexAddr => exact run_val h
  case index => exact run_val h
  case extract => exact run_val h
  case makeInterface => exact run_val h
  case call c =>
    obtain ⟨callee, args, ats⟩ := c
    cases callee
    case builtin b =>
      cases b <;> simp only [valOnly, Bool.false_eq_true] at ho
      all_goals
        rw [BigFrame.execOp_builtin] at h
        first
          | (rw [BigFrame.builtin_len] at h; exact run_val h)
          | (rw [BigFrame.builtin_cap] at h; exact run_val h)
          | (rw [BigFrame.builtin_min] at h; exact run_val h)
          | (rw [BigFrame.builtin_max] at h; exact run_val h)
    all_goals (simp [valOnly] at ho)
  all_goals (simp [valOnly] at ho)
end

/-- One order: the operations' numbers; 'true': it looks at no memory. -/
def mixB (md : Region.Mode) (ops : Array Oper) : List (Nat × Bool) → Array Bool → Bool
  | [], listed => (Region.ready md ops listed).isEmpty
  | (i, true) :: r, listed => (Region.ready md ops listed).contains i && Region.free md ops listed i && (match ops[i]? with | some o => valOnly o.op | none => false) && mixB md ops r (listed.setIfInBounds i true)
  | (i, false) :: r, listed => Region.ready md ops listed == [i] && mixB md ops r (listed.setIfInBounds i true)

section
variable {P : Program} {ops : Array Oper} {Q : Exit → Act → World → Prop}
def wpMix (P : Program) (ops : Array Oper) (Q : Exit → Act → World → Prop) : List (Nat × Bool) → Act → World → Prop
  | [], a, w => Q .normal a w
  | (i, true) :: r, a, w => ∃ o, ops[i]? = some o ∧ wpQuiet P ops (fun _ => True) (fun a' => wpMix P ops Q r a' w) [o] a
  | (i, false) :: r, a, w => ∃ o, ops[i]? = some o ∧ wpList P ops (Exit.then (wpMix P ops Q r) Q) [o] a w

theorem wp_then {o : Oper} {a : Act} {w : World} {K next : Act → World → Prop} (h : o.wp P a w K (Exit.then next Q)) : o.wp P a w K Q := by
  unfold Oper.wp at *
  generalize (execOp a.eval o).run P w = r at *
  cases r with
  | ok n w' => cases n <;> first | exact h | exact Calls.mono h (fun e w'' he => by cases e <;> exact he)
  | halt x w' => cases x <;> exact h

theorem wpMix_sound {md : Region.Mode} (hsel : Region.noSelect ops = true) (hQ : ∀ c a w, ¬ Q (.panic c) a w) : ∀ (π : List (Nat × Bool)) (listed : Array Bool) (a : Act) (w : World), mixB md ops π listed = true →
    wpMix P ops Q π a w → wpAny P md ops Q π.length listed a w
  | [], listed, a, w, hB, h => ⟨by simpa [mixB] using hB, h⟩
  | (i, true) :: r, listed, a, w, hB, ⟨o, ho, h⟩ => by
    simp only [mixB, Bool.and_eq_true, ho] at hB
    obtain ⟨⟨⟨hr, hf⟩, hv⟩, hB'⟩ := hB
    simp only [wpQuiet] at h
    have key : ∃ v, Yields P ops o v a ∧ wpMix P ops Q r (a.put o.dst v) w := by
      by_cases hw : Region.wanted o (yielded ops a.tmps) = true
      · rw [if_pos hw] at h
        obtain ⟨v, h1, h2⟩ := h
        refine ⟨v, .inl ⟨hw, fun w' => ?_⟩, h2⟩
        have h3 := h1 w' trivial
        unfold Oper.quietAt at h3
        cases hrun : (execOp a.eval o).run P w' with
        | ok n w1 =>
          obtain ⟨u, rfl⟩ := valOnly_spec hv hrun
          rw [hrun] at h3
          simp only [Oper.quietUpon] at h3
          rw [h3.1, h3.2]
        | halt x w1 => rw [hrun] at h3; simp only [Oper.quietUpon] at h3
      · rw [if_neg hw] at h
        exact ⟨undef, .inr ⟨by simpa using hw, rfl⟩, h⟩
    obtain ⟨v, hy, hn⟩ := key
    exact wpAny_first ho (fun j o cs b => Region.noSelect_spec hsel j o cs b) (fun c a w hq => absurd hq (hQ c _ _)) r.length listed a w
      (fun j oj hj hne hun hno => Region.free_spec ho hf j oj hj hne hun hno) (by simpa using hr) hy (wpMix_sound hsel hQ r _ _ _ hB' hn)
  | (i, false) :: r, listed, a, w, hB, ⟨o, ho, h⟩ => by
    simp only [mixB, Bool.and_eq_true, beq_iff_eq] at hB
    obtain ⟨hr, hB'⟩ := hB
    refine ⟨fun h0 => (by rw [hr] at h0; cases h0), fun j hj => ?_⟩
    rw [hr] at hj
    obtain rfl : j = i := by simpa using hj
    have ih := fun a' w' => wpMix_sound hsel hQ r (listed.setIfInBounds j true) a' w' hB'
    unfold wpOp
    simp only [ho]
    simp only [wpList] at h
    by_cases hw : Region.wanted o (yielded ops a.tmps) = true
    · rw [if_pos hw] at h ⊢
      rcases h with h | ⟨h1, a2, w2, h2⟩
      · refine .inl ?_
        have h3 := Oper.wp_mono (K' := wpAny P md ops Q r.length (listed.setIfInBounds j true)) (fun a' w' hk => ih a' w' hk) h
        exact wp_then h3
      · exact .inr ⟨h1, a2, w2, h2⟩
    · rw [if_neg hw] at h ⊢
      exact ih _ _ h
/-- Neither a panic nor the end of all memory. -/
def OnlyBack (Q : Exit → Act → World → Prop) : Exit → Act → World → Prop
  | .panic _, _, _ => False
  | e, a, w => Q e a w
theorem OnlyBack.normal {a : Act} {w : World} (h : Q .normal a w) : OnlyBack Q .normal a w := h

/-- THE RULE: a region that draws its order, in one order. -/
theorem wp_region_mix {id : Nat} {a : Act} {w : World} {l : List Oper} (π : List (Nat × Bool)) (hm : P.follows .mixedOrders = true)
    (hB : (Region.noSelect l.toArray && (π.length == l.length && mixB .any l.toArray π (Array.replicate l.length false))) = true)
    (h : wpMix P l.toArray (OnlyBack Q) π a w.drew) : (Code.region id l.toArray true).wp P Q a w := by
  simp only [Bool.and_eq_true, beq_iff_eq] at hB
  obtain ⟨h1, h2, h3⟩ := hB
  refine Code.wp_mono (Q := OnlyBack Q) (fun e a w q => by cases e <;> first | exact q | exact q.elim) (wp_region_any hm ?_)
  have := wpMix_sound (md := .any) h1 (fun c a w hq => hq) π (Array.replicate l.length false) a w.drew h3 h
  rw [h2] at this
  simpa using this
def nth : List Oper → Nat → Option Oper
  | [], _ => none
  | o :: _, 0 => some o
  | _ :: l, i + 1 => nth l i
theorem nth_eq (l : List Oper) (i : Nat) : nth l i = l[i]? := by
  induction l generalizing i with
  | nil => rfl
  | cons o l ih => cases i with
    | zero => rfl
    | succ i => simp only [nth, List.getElem?_cons_succ]; exact ih i
theorem wpMix_nil {a : Act} {w : World} (h : Q .normal a w) : wpMix P ops (OnlyBack Q) [] a w := h
theorem wpMix_val {l : List Oper} {i : Nat} {r : List (Nat × Bool)} {a : Act} {w : World} {o : Oper} (ho : nth l i = some o)
    (h : wpQuiet P l.toArray (fun _ => True) (fun a' => wpMix P l.toArray Q r a' w) [o] a) : wpMix P l.toArray Q ((i, true) :: r) a w := ⟨o, by rw [← ho, nth_eq]; simp, h⟩
theorem wpMix_op {l : List Oper} {i : Nat} {r : List (Nat × Bool)} {a : Act} {w : World} {o : Oper} (ho : nth l i = some o)
    (h : wpList P l.toArray (Exit.then (wpMix P l.toArray Q r) Q) [o] a w) : wpMix P l.toArray Q ((i, false) :: r) a w := ⟨o, by rw [← ho, nth_eq]; simp, h⟩
theorem wpMix_on {r : List (Nat × Bool)} {a : Act} {w : World} (h : wpMix P ops Q r a w) : Exit.then (wpMix P ops Q r) Q .normal a w := h

end
end Go.Proofs.Ytpkkfdmhbbipoaa
