/- Regions that draw their order, walked along a tree of orders (part Mix2), where loads of cells that no early operation turns are taken first too: a condition on the world that every operation but the late ones keeps. No program in sight. -/
import Derived.Test.YtpkkfdmhbbipoaaMix2
import Derived.Test.YtpkkfdmhbbipoaaBq
import Derived.OrdersHeld
namespace Go.Proofs.Ytpkkfdmhbbipoaa
open Go.RowKit

def valOnly3 : Op → Bool
  | .load .. => true
  | o => valOnly2 o
section
variable {P : Program} {w w' : World} {n : Next}
theorem valOnly3_spec {ρ : Operand → Value} {o : Oper} (ho : valOnly3 o.op = true) (h : (execOp ρ o).run P w = .ok n w') : ∃ u, n = .value u := by
  obtain ⟨dst, op, ty, pos, aft, grd⟩ := o
  cases op
  case load => exact run_val h
  all_goals exact valOnly2_spec (o := ⟨dst, _, ty, pos, aft, grd⟩) (by simpa only [valOnly3] using ho) h
end

section
variable {P : Program} {ops : Array Oper} {Q : Exit → Act → World → Prop} {md : Region.Mode} {S : World → Prop} {late : List Nat}
/-- What follows an operation: unless it is a late one, it keeps S. -/
def KT (b : Bool) (S : World → Prop) (w w' : World) (p : Prop) : Prop := (b = false → S w → S w') ∧ p
theorem KT.keep {b : Bool} {w w' : World} {p : Prop} (h : S w') (hp : p) : KT b S w w' p := ⟨fun _ _ => h, hp⟩
theorem KT.past {b : Bool} {w w' : World} {p : Prop} (h : b = true) (hp : p) : KT b S w w' p := ⟨fun h2 => (by rw [h] at h2; cases h2), hp⟩
theorem KT.same {b : Bool} {w : World} {p : Prop} (hp : p) : KT b S w w p := ⟨fun _ h => h, hp⟩

def wpAnyT (P : Program) (md : Region.Mode) (ops : Array Oper) (Q : Exit → Act → World → Prop) (S : World → Prop) (late : List Nat) : Nat → Array Bool → Act → World → Prop
  | 0, listed, a, w => Region.ready md ops listed = [] ∧ Q .normal a w
  | n + 1, listed, a, w => (Region.ready md ops listed = [] → Q .normal a w) ∧
    ∀ i ∈ Region.ready md ops listed, wpOp P ops Q i (fun a' w' => KT (late.contains i) S w w' (wpAnyT P md ops Q S late n (listed.setIfInBounds i true) a' w')) a w
theorem wpAnyT_any : ∀ (n : Nat) (listed : Array Bool) (a : Act) (w : World), wpAnyT P md ops Q S late n listed a w → wpAny P md ops Q n listed a w
  | 0, _, _, _, h => h
  | n + 1, _, _, _, h => ⟨h.1, fun i hi => wpOp_mono (fun a' w' h' => wpAnyT_any n _ a' w' h'.2) (h.2 i hi)⟩

theorem wpAnyT_first {C : World → Prop} {i : Nat} {oi : Oper} {v : Value} (hi : ops[i]? = some oi) (hsel : ∀ (j : Nat) (o : Oper) cs b, ops[j]? = some o → o.op ≠ .select cs b)
    (hQ : ∀ c a w, Q (.panic c) (a.put oi.dst v) w → Q (.panic c) a w)
    (hC : (∀ w, C w) ∨ (C = S ∧ ∀ j, late.contains j = true → ∀ oj, ops[j]? = some oj → ∃ e ∈ oj.after, Region.binds md e = true ∧ e.on = i)) :
    ∀ (n : Nat) (listed : Array Bool) (a : Act) (w : World),
      (∀ j oj, ops[j]? = some oj → j ≠ i → listed.getD j true = false → (∀ e ∈ oj.after, Region.binds md e = true → e.on ≠ i) → oi.apart ops oj = true) →
      i ∈ Region.ready md ops listed → YieldsIf P ops C oi v a → C w →
      wpAnyT P md ops Q S late n (listed.setIfInBounds i true) (a.put oi.dst v) w → wpAnyT P md ops Q S late (n + 1) listed a w := by
  intro n
  induction n with
  | zero =>
    intro listed a w _ hr hy hw H
    refine ⟨fun h => (by rw [h] at hr; cases hr), fun j hj => ?_⟩
    by_cases hji : j = i
    · subst hji; exact hy.wpOp hi hw (KT.same H)
    · have := ready_mono hj hji
      rw [H.1] at this
      cases this
  | succ n ih =>
    intro listed a w hfree hr hy hw H
    refine ⟨fun h => (by rw [h] at hr; cases hr), fun j hj => ?_⟩
    by_cases hji : j = i
    · subst hji; exact hy.wpOp hi hw (KT.same H)
    · have hun : listed.getD i true = false := (mem_ready.1 hr).1
      have hunF : listed.getD i false = false := by
        rcases Nat.lt_or_ge i listed.size with h' | h'
        · simp [h'] at hun ⊢; exact hun
        · simp [Array.getElem?_eq_none h']
      obtain ⟨hjun, oj, hoj, hall⟩ := mem_ready.1 hj
      have hnot : ∀ e ∈ oj.after, Region.binds md e = true → e.on ≠ i := fun e he hb heq => by
        have h1 := hall e he hb
        rw [heq, hunF] at h1
        cases h1
      have hstep : ∀ w', (late.contains j = false → S w → S w') → C w' := fun w' h => by
        rcases hC with hC | ⟨rfl, hC⟩
        · exact hC w'
        · refine h ?_ hw
          cases hl : late.contains j with
          | false => rfl
          | true =>
            obtain ⟨e, he, hb, heq⟩ := hC j hl oj hoj
            exact absurd heq (hnot e he hb)
      have h2 := wpOp_putIf hoj (hfree j oj hoj hji hjun hnot) (fun cs b => hsel i oi cs b hi) (fun cs b => hsel j oj cs b hoj) hQ hy (H.2 j (ready_mono hj hji))
      have hfree' : ∀ k ok, ops[k]? = some ok → k ≠ i → (listed.setIfInBounds j true).getD k true = false → (∀ e ∈ ok.after, Region.binds md e = true → e.on ≠ i) → oi.apart ops ok = true := fun k ok hk hki hku hno => by
        refine hfree k ok hk hki ?_ hno
        by_cases hjk : j = k
        · subst hjk; exact hjun
        · rw [getD_set_ne true hjk] at hku; exact hku
      refine wpOp_mono (fun a' w' h3 => ⟨h3.2.1, ih (listed.setIfInBounds j true) a' w' hfree' (ready_mono hr (Ne.symm hji)) h3.1 (hstep w' h3.2.1) ?_⟩) h2
      rw [Array.setIfInBounds_comm _ _ hji]
      exact h3.2.2

def lateOk (md : Region.Mode) (ops : Array Oper) (late : List Nat) (i : Nat) : Bool :=
  late.all fun j => match ops[j]? with
    | some oj => oj.after.any fun e => Region.binds md e && e.on == i
    | none => true
theorem lateOk_spec {i : Nat} (h : lateOk md ops late i = true) (j : Nat) (hj : late.contains j = true) (oj : Oper) (ho : ops[j]? = some oj) : ∃ e ∈ oj.after, Region.binds md e = true ∧ e.on = i := by
  unfold lateOk at h
  rw [List.all_eq_true] at h
  have h1 := h j (by simpa using hj)
  rw [ho] at h1
  simp only [Array.any_eq_true] at h1
  obtain ⟨k, hk, h2⟩ := h1
  simp only [Bool.and_eq_true, beq_iff_eq] at h2
  exact ⟨oj.after[k], Array.getElem_mem hk, h2⟩

def ordT (md : Region.Mode) (ops : Array Oper) (late : List Nat) : Ord → Array Bool → Bool
  | .nil, listed => (Region.ready md ops listed).isEmpty
  | .val i r, listed => (Region.ready md ops listed).contains i && Region.free md ops listed i && (match ops[i]? with | some o => valOnly2 o.op || (valOnly3 o.op && lateOk md ops late i) | none => false) && ordT md ops late r (listed.setIfInBounds i true)
  | .op i r, listed => Region.ready md ops listed == [i] && ordT md ops late r (listed.setIfInBounds i true)
  | .two i r j s, listed => Region.ready md ops listed == [i, j] && ordT md ops late r (listed.setIfInBounds i true) && ordT md ops late s (listed.setIfInBounds j true)
  | .three i r j s k t, listed => Region.ready md ops listed == [i, j, k] && ordT md ops late r (listed.setIfInBounds i true) && ordT md ops late s (listed.setIfInBounds j true) && ordT md ops late t (listed.setIfInBounds k true)

def wpOrdT (P : Program) (ops : Array Oper) (Q : Exit → Act → World → Prop) (S : World → Prop) (late : List Nat) : Ord → Act → World → Prop
  | .nil, a, w => Q .normal a w
  | .val i r, a, w => ∃ o, ops[i]? = some o ∧ ((valOnly2 o.op = true ∧ wpQuiet P ops (fun _ => True) (fun a' => wpOrdT P ops Q S late r a' w) [o] a) ∨ (valOnly2 o.op = false ∧ S w ∧ wpQuiet P ops S (fun a' => wpOrdT P ops Q S late r a' w) [o] a))
  | .op i r, a, w => ∃ o, ops[i]? = some o ∧ wpList P ops (Exit.then (fun a' w' => KT (late.contains i) S w w' (wpOrdT P ops Q S late r a' w')) Q) [o] a w
  | .two i r j s, a, w => (∃ o, ops[i]? = some o ∧ wpList P ops (Exit.then (fun a' w' => KT (late.contains i) S w w' (wpOrdT P ops Q S late r a' w')) Q) [o] a w) ∧
      (∃ o, ops[j]? = some o ∧ wpList P ops (Exit.then (fun a' w' => KT (late.contains j) S w w' (wpOrdT P ops Q S late s a' w')) Q) [o] a w)
  | .three i r j s k t, a, w => (∃ o, ops[i]? = some o ∧ wpList P ops (Exit.then (fun a' w' => KT (late.contains i) S w w' (wpOrdT P ops Q S late r a' w')) Q) [o] a w) ∧
      (∃ o, ops[j]? = some o ∧ wpList P ops (Exit.then (fun a' w' => KT (late.contains j) S w w' (wpOrdT P ops Q S late s a' w')) Q) [o] a w) ∧
      (∃ o, ops[k]? = some o ∧ wpList P ops (Exit.then (fun a' w' => KT (late.contains k) S w w' (wpOrdT P ops Q S late t a' w')) Q) [o] a w)

theorem wpOrdT_list {i : Nat} {o : Oper} {next K : Act → World → Prop} {a : Act} {w : World} (ho : ops[i]? = some o) (h : wpList P ops (Exit.then next Q) [o] a w) (hn : ∀ a w, next a w → K a w) : wpOp P ops Q i K a w := wpOrd_list ho h hn

theorem wpOrdT_sound (hsel : Region.noSelect ops = true) (hQ : ∀ c a w, ¬ Q (.panic c) a w) : ∀ (π : Ord) (listed : Array Bool) (a : Act) (w : World), ordT md ops late π listed = true → π.even = true →
    wpOrdT P ops Q S late π a w → wpAnyT P md ops Q S late π.depth listed a w
  | .nil, listed, a, w, hB, _, h => ⟨by simpa [ordT] using hB, h⟩
  | .val i r, listed, a, w, hB, hE, ⟨o, ho, h⟩ => by
    simp only [ordT, Bool.and_eq_true, ho] at hB
    obtain ⟨⟨⟨hr, hf⟩, hv⟩, hB'⟩ := hB
    have key : ∀ C : World → Prop, valOnly3 o.op = true → wpQuiet P ops C (fun a' => wpOrdT P ops Q S late r a' w) [o] a → ∃ v, YieldsIf P ops C o v a ∧ wpOrdT P ops Q S late r (a.put o.dst v) w := fun C hv3 h => by
      simp only [wpQuiet] at h
      by_cases hw : Region.wanted o (yielded ops a.tmps) = true
      · rw [if_pos hw] at h
        obtain ⟨v, h1, h2⟩ := h
        refine ⟨v, .inl ⟨hw, fun w' hw' => ?_⟩, h2⟩
        have h3 := h1 w' hw'
        unfold Oper.quietAt at h3
        cases hrun : (execOp a.eval o).run P w' with
        | ok n w1 =>
          obtain ⟨u, rfl⟩ := valOnly3_spec hv3 hrun
          rw [hrun] at h3
          simp only [Oper.quietUpon] at h3
          rw [h3.1, h3.2]
        | halt x w1 => rw [hrun] at h3; simp only [Oper.quietUpon] at h3
      · rw [if_neg hw] at h
        exact ⟨undef, .inr ⟨by simpa using hw, rfl⟩, h⟩
    have hfree := fun j oj hj hne hun hno => Region.free_spec ho hf j oj hj hne hun hno
    rcases h with ⟨h2, h⟩ | ⟨h2, hS, h⟩
    · have h3 : valOnly3 o.op = true := by
        obtain ⟨dst, op, ty, pos, aft, grd⟩ := o
        cases op <;> first | rfl | exact h2
      obtain ⟨v, hy, hn⟩ := key _ h3 h
      exact wpAnyT_first (C := fun _ => True) ho (fun j o cs b => Region.noSelect_spec hsel j o cs b) (fun c a w hq => absurd hq (hQ c _ _)) (.inl fun _ => trivial) r.depth listed a w
        hfree (by simpa using hr) hy trivial (wpOrdT_sound hsel hQ r _ _ _ hB' hE hn)
    · rw [h2, Bool.false_or, Bool.and_eq_true] at hv
      obtain ⟨v, hy, hn⟩ := key _ hv.1 h
      exact wpAnyT_first (C := S) ho (fun j o cs b => Region.noSelect_spec hsel j o cs b) (fun c a w hq => absurd hq (hQ c _ _)) (.inr ⟨rfl, fun j hj oj hoj => lateOk_spec hv.2 j hj oj hoj⟩) r.depth listed a w
        hfree (by simpa using hr) hy hS (wpOrdT_sound hsel hQ r _ _ _ hB' hE hn)
  | .op i r, listed, a, w, hB, hE, ⟨o, ho, h⟩ => by
    simp only [ordT, Bool.and_eq_true, beq_iff_eq] at hB
    obtain ⟨hr, hB'⟩ := hB
    refine ⟨fun h0 => (by rw [hr] at h0; cases h0), fun j hj => ?_⟩
    rw [hr] at hj
    obtain rfl : j = i := by simpa using hj
    exact wpOrdT_list ho h (fun a' w' hk => ⟨hk.1, wpOrdT_sound hsel hQ r _ a' w' hB' hE hk.2⟩)
  | .two i r k s, listed, a, w, hB, hE, ⟨⟨o, ho, h⟩, ⟨o2, ho2, h2⟩⟩ => by
    simp only [ordT, Bool.and_eq_true, beq_iff_eq] at hB
    simp only [Ord.even, Bool.and_eq_true, beq_iff_eq] at hE
    obtain ⟨⟨hr, hB'⟩, hB2⟩ := hB
    obtain ⟨⟨hE1, hE2⟩, hd⟩ := hE
    refine ⟨fun h0 => (by rw [hr] at h0; cases h0), fun j hj => ?_⟩
    rw [hr] at hj
    rcases (by simpa using hj : j = i ∨ j = k) with rfl | rfl
    · exact wpOrdT_list ho h (fun a' w' hk => ⟨hk.1, wpOrdT_sound hsel hQ r _ a' w' hB' hE1 hk.2⟩)
    · exact wpOrdT_list ho2 h2 (fun a' w' hk => ⟨hk.1, by have := wpOrdT_sound hsel hQ s _ a' w' hB2 hE2 hk.2; rwa [← hd] at this⟩)
  | .three i r k s l t, listed, a, w, hB, hE, ⟨⟨o, ho, h⟩, ⟨o2, ho2, h2⟩, ⟨o3, ho3, h3⟩⟩ => by
    simp only [ordT, Bool.and_eq_true, beq_iff_eq] at hB
    simp only [Ord.even, Bool.and_eq_true, beq_iff_eq] at hE
    obtain ⟨⟨⟨hr, hB'⟩, hB2⟩, hB3⟩ := hB
    obtain ⟨⟨⟨⟨hE1, hE2⟩, hE3⟩, hd⟩, hd2⟩ := hE
    refine ⟨fun h0 => (by rw [hr] at h0; cases h0), fun j hj => ?_⟩
    rw [hr] at hj
    rcases (by simpa using hj : j = i ∨ j = k ∨ j = l) with rfl | rfl | rfl
    · exact wpOrdT_list ho h (fun a' w' hk => ⟨hk.1, wpOrdT_sound hsel hQ r _ a' w' hB' hE1 hk.2⟩)
    · exact wpOrdT_list ho2 h2 (fun a' w' hk => ⟨hk.1, by have := wpOrdT_sound hsel hQ s _ a' w' hB2 hE2 hk.2; rwa [← hd] at this⟩)
    · exact wpOrdT_list ho3 h3 (fun a' w' hk => ⟨hk.1, by have := wpOrdT_sound hsel hQ t _ a' w' hB3 hE3 hk.2; rwa [← hd2] at this⟩)

/-- THE RULE: loads of blocks below B are taken first. -/
theorem wp_region_ordT {id : Nat} {a : Act} {w : World} {l : List Oper} (B : Nat) (late : List Nat) (π : Ord) (hm : P.follows .mixedOrders = true)
    (hB : (Region.noSelect l.toArray && (π.depth == l.length && (π.even && ordT .any l.toArray late π (Array.replicate l.length false)))) = true)
    (h : wpOrdT P l.toArray (OnlyBack Q) (fun w' => ∃ q : BW B w, w' = q.1) late π a (w.drewN 1)) : (Code.region id l.toArray true).wp P Q a w := by
  simp only [Bool.and_eq_true, beq_iff_eq] at hB
  obtain ⟨h1, h2, hE, h3⟩ := hB
  refine Code.wp_mono (Q := OnlyBack Q) (fun e a w q => by cases e <;> first | exact q | exact q.elim) (wp_region_any hm ?_)
  have := wpAnyT_any _ _ _ _ (wpOrdT_sound (md := .any) h1 (fun c a w hq => hq) π (Array.replicate l.length false) a w.drew h3 hE h)
  rw [h2] at this
  simpa using this
theorem wpOrdT_nil {a : Act} {w : World} (h : Q .normal a w) : wpOrdT P ops (OnlyBack Q) S late .nil a w := h
theorem wpOrdT_val {l : List Oper} {i : Nat} {r : Ord} {a : Act} {w : World} {o : Oper} (ho : nth l i = some o) (hv : valOnly2 o.op = true)
    (h : wpQuiet P l.toArray (fun _ => True) (fun a' => wpOrdT P l.toArray Q S late r a' w) [o] a) : wpOrdT P l.toArray Q S late (.val i r) a w := ⟨o, by rw [← ho, nth_eq]; simp, .inl ⟨hv, h⟩⟩
theorem wpOrdT_load {l : List Oper} {i : Nat} {r : Ord} {a : Act} {w : World} {o : Oper} (ho : nth l i = some o) (hv : valOnly2 o.op = false) (hS : S w)
    (h : wpQuiet P l.toArray S (fun a' => wpOrdT P l.toArray Q S late r a' w) [o] a) : wpOrdT P l.toArray Q S late (.val i r) a w := ⟨o, by rw [← ho, nth_eq]; simp, .inr ⟨hv, hS, h⟩⟩
theorem wpOrdT_op {l : List Oper} {i : Nat} {r : Ord} {a : Act} {w : World} {o : Oper} (ho : nth l i = some o)
    (h : wpList P l.toArray (Exit.then (fun a' w' => KT (late.contains i) S w w' (wpOrdT P l.toArray Q S late r a' w')) Q) [o] a w) : wpOrdT P l.toArray Q S late (.op i r) a w := ⟨o, by rw [← ho, nth_eq]; simp, h⟩
theorem wpOrdT_two {l : List Oper} {i j : Nat} {r s : Ord} {a : Act} {w : World} {o o2 : Oper} (ho : nth l i = some o) (ho2 : nth l j = some o2)
    (h : wpList P l.toArray (Exit.then (fun a' w' => KT (late.contains i) S w w' (wpOrdT P l.toArray Q S late r a' w')) Q) [o] a w) (h2 : wpList P l.toArray (Exit.then (fun a' w' => KT (late.contains j) S w w' (wpOrdT P l.toArray Q S late s a' w')) Q) [o2] a w) : wpOrdT P l.toArray Q S late (.two i r j s) a w :=
  ⟨⟨o, by rw [← ho, nth_eq]; simp, h⟩, ⟨o2, by rw [← ho2, nth_eq]; simp, h2⟩⟩
theorem wpOrdT_three {l : List Oper} {i j k : Nat} {r s t : Ord} {a : Act} {w : World} {o o2 o3 : Oper} (ho : nth l i = some o) (ho2 : nth l j = some o2) (ho3 : nth l k = some o3)
    (h : wpList P l.toArray (Exit.then (fun a' w' => KT (late.contains i) S w w' (wpOrdT P l.toArray Q S late r a' w')) Q) [o] a w) (h2 : wpList P l.toArray (Exit.then (fun a' w' => KT (late.contains j) S w w' (wpOrdT P l.toArray Q S late s a' w')) Q) [o2] a w)
    (h3 : wpList P l.toArray (Exit.then (fun a' w' => KT (late.contains k) S w w' (wpOrdT P l.toArray Q S late t a' w')) Q) [o3] a w) : wpOrdT P l.toArray Q S late (.three i r j s k t) a w :=
  ⟨⟨o, by rw [← ho, nth_eq]; simp, h⟩, ⟨o2, by rw [← ho2, nth_eq]; simp, h2⟩, ⟨o3, by rw [← ho3, nth_eq]; simp, h3⟩⟩
theorem inBW {B : Nat} {w w' : World} (h : Below B w w') : ∃ q : BW B w, w' = q.1 := ⟨⟨w', h⟩, rfl⟩
end
theorem callSame {P : Program} {f : Nat} {args : Array Value} {v : Value} {B : Nat} {w : World} {q : BW B w} (h : Calls P f args q.1 fun e w' => e = .returned v ∧ q.1 = w') :
    Calls P f args q.1 fun e w'' => e = .returned v ∧ ∃ q' : BW B w, w'' = q'.1 :=
  h.mono fun _ _ ⟨he, hb⟩ => ⟨he, q, hb.symm⟩
theorem callBWq {P : Program} {f : Nat} {args : Array Value} {v : Value} {B : Nat} {w : World} (hB : B ≤ w.heap.size) (h : ∀ q : BW B w, Calls P f args q.1 fun e w' => e = .returned v ∧ Below q.1.heap.size q.1 w') (q : BW B w) :
    Calls P f args q.1 fun e w'' => e = .returned v ∧ ∃ q' : BW B w, w'' = q'.1 :=
  (h q).mono fun _ w'' ⟨he, hb⟩ => ⟨he, ⟨⟨w'', q.2.trans (hb.mono (Nat.le_trans hB q.2.size))⟩, rfl⟩⟩

/-- The worlds in which, of w's blocks, only those of F have turned. -/
def KW (F : Nat → Prop) (w : World) : Type := {w' : World // Keep F w w'}
instance KW.nonempty {F : Nat → Prop} {w : World} : Nonempty (KW F w) := ⟨⟨w, Keep.refl F w⟩⟩
theorem KW.keep {F : Nat → Prop} {w : World} (q : KW F w) : Keep F w q.1 := q.2
theorem KW.cellAt {F : Nat → Prop} {w : World} {g i : Nat} {v : Value} (hg : g < w.heap.size) (hf : ¬ F g) (h : w.cell? ⟨g, i, none⟩ = some v) (q : KW F w) : q.1.cell? ⟨g, i, none⟩ = some v := (q.2.cell hg hf).trans h
theorem inKW {F : Nat → Prop} {w w' : World} (h : Keep F w w') : ∃ q : KW F w, w' = q.1 := ⟨⟨w', h⟩, rfl⟩
/-- THE RULE, where calls turn blocks of F: loads of other blocks are taken first. -/
theorem wp_region_ordK {P : Program} {Q : Exit → Act → World → Prop} {id : Nat} {a : Act} {w : World} {l : List Oper} (F : Nat → Prop) (late : List Nat) (π : Ord) (hm : P.follows .mixedOrders = true)
    (hB : (Region.noSelect l.toArray && (π.depth == l.length && (π.even && ordT .any l.toArray late π (Array.replicate l.length false)))) = true)
    (h : wpOrdT P l.toArray (OnlyBack Q) (fun w' => ∃ q : KW F w, w' = q.1) late π a (w.drewN 1)) : (Code.region id l.toArray true).wp P Q a w := by
  simp only [Bool.and_eq_true, beq_iff_eq] at hB
  obtain ⟨h1, h2, hE, h3⟩ := hB
  refine Code.wp_mono (Q := OnlyBack Q) (fun e a w q => by cases e <;> first | exact q | exact q.elim) (wp_region_any hm ?_)
  have := wpAnyT_any _ _ _ _ (wpOrdT_sound (md := .any) h1 (fun c a w hq => hq) π (Array.replicate l.length false) a w.drew h3 hE h)
  rw [h2] at this
  simpa using this
end Go.Proofs.Ytpkkfdmhbbipoaa
