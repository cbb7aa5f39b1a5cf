/- Plain laws of layer 11: patterns the other way round, and what a table tells that begins once. No program in sight. The walk of span.Back: a loop over slices.Backward. The walks of package span: from, From. The walks of package span: From, find, Find, Text; layer 11's lives. -/
import Derived.Test.YtgiffdgicmdmgaaMh
import Derived.RangeFuncNested
import Derived.RangeFuncBox
import Derived.RangeFuncLeaves
import Derived.Shelf.Abstract
import Derived.WalkKit
import Derived.OwnWalkIn
import Derived.TacticsInMore
import Derived.LoopNIn
import Derived.LoopIn
import Derived.Test.YtgiffdgicmdmgaaMa
import Derived.Test.YtgiffdgicmdmgaaMl
import Derived.Test.YtgiffdgicmdmgaaMn
import Derived.Test.YtgiffdgicmdmgaaMf
import Derived.Test.YtgiffdgicmdmgaaMo
namespace Go.Proofs.Ytgiffdgicmdmgaa
open Go.RowKit

/-- Whether the first k items match the first i bytes. -/
def atA (l : List Item) (w : List UInt8) (k i : Nat) : Bool := (endsM (l.take k) w (placesM (w.length + 1) 0 false)).getD i false
theorem placesM_len (n : Nat) (one : Int) (all : Bool) : (placesM n one all).length = n := by simp [placesM]
theorem atA_zero (l : List Item) (w : List UInt8) (i : Nat) : atA l w 0 i = decide (i = 0) := by
  unfold atA
  rw [List.take_zero]
  show (placesM (w.length + 1) 0 false).getD i false = _
  rw [Bool.eq_iff_iff, placesM_get, decide_eq_true_eq]
  constructor
  · rintro ⟨_, h | h⟩
    · cases h
    · omega
  · rintro rfl; exact ⟨by omega, .inr rfl⟩
theorem atA_len (l : List Item) (w : List UInt8) (k : Nat) : (endsM (l.take k) w (placesM (w.length + 1) 0 false)).length = w.length + 1 := endsM_length _ w _ (placesM_len _ _ _)
theorem endsA_succ (l : List Item) (w : List UInt8) (k : Nat) (h : k < l.length) : endsM (l.take (k + 1)) w (placesM (w.length + 1) 0 false) = stepM l[k] w (endsM (l.take k) w (placesM (w.length + 1) 0 false)) := endsM_succ l w _ k h
theorem atA_run (l : List Item) (w : List UInt8) (k i : Nat) (h : k < l.length) (hr : runB l k = true) (hi : i ≤ w.length) : atA l w (k + 1) i = (atA l w k i || (decide (0 < i) && atA l w (k + 1) (i - 1))) := by
  unfold atA
  have hl := atA_len l w k
  rw [endsA_succ l w k h]
  have hr' : (l[k]).run = true := by rw [← runB_at l k h]; exact hr
  have := stepM_run (l[k]) w (endsM (l.take k) w (placesM (w.length + 1) 0 false)) hr' i (by omega)
  rw [List.getD, this]
  simp [List.getD, show i < (endsM (l.take k) w (placesM (w.length + 1) 0 false)).length by omega]
theorem atA_set0 (l : List Item) (w : List UInt8) (k : Nat) (h : k < l.length) (hr : runB l k = false) : atA l w (k + 1) 0 = false := by
  unfold atA
  rw [endsA_succ l w k h]
  have hr' : (l[k]).run = false := by rw [← runB_at l k h]; exact hr
  rw [List.getD, stepM_set0 _ _ _ hr']; rfl
theorem atA_set (l : List Item) (w : List UInt8) (k i : Nat) (h : k < l.length) (hr : runB l k = false) (hi : i < w.length) : atA l w (k + 1) (i + 1) = (atA l w k i && hasB l (w[i]).toNat k) := by
  unfold atA
  have hl := atA_len l w k
  rw [endsA_succ l w k h]
  have hr' : (l[k]).run = false := by rw [← runB_at l k h]; exact hr
  rw [List.getD, stepM_set _ _ _ hr' i hi hl, hasB_at l _ k h]
  simp [List.getD, show i < (endsM (l.take k) w (placesM (w.length + 1) 0 false)).length by omega]
def atT (l : List Item) (w : List UInt8) (i k : Nat) : Bool := atA l w (toK l k) i
theorem atT_ge (l : List Item) (w : List UInt8) (i k : Nat) (hi : i ≤ w.length) (h : atA l w k i = true) : atT l w i k = true := by
  unfold atT toK
  cases hr : runB l k
  · exact h
  · rw [if_pos rfl, atA_run l w k i (run_lt l k hr) hr hi, h]; rfl
theorem atT_closed (l : List Item) (w : List UInt8) (i k : Nat) (hi : i ≤ w.length) (h : atT l w i k = true) (hr : runB l k = true) : atT l w i (k + 1) = true := by
  refine atT_ge l w i (k + 1) hi ?_
  unfold atT toK at h; rwa [if_pos hr] at h
/-- A state that means what it should behind i bytes, when the table began once. -/
def StateA (l : List Item) (w : List UInt8) (i : Nat) (x : BitVec 64) : Prop := ∀ k, k < 64 → x.getLsbD k = (decide (k ≤ l.length) && atT l w i k)
theorem close_stateA (l : List Item) (w : List UInt8) (i : Nat) (x : BitVec 64) (hi : i ≤ w.length) (h : StateA l w i x) : closeW l x = x := by
  refine bv_ext fun k hk => ?_
  rw [closeW_bit l x k hk]
  by_cases hkl : k ≤ l.length
  · rw [clo_closed]
    · simp [hkl]
    · intro j hj hx hr
      rw [h j (by omega), Bool.and_eq_true] at hx
      rw [h (j + 1) (by omega), atT_closed l w i j hi hx.2 hr]; simp; omega
  · rw [h k hk]; simp [hkl]
theorem start_cloA (l : List Item) (w : List UInt8) (k : Nat) (hkl : k ≤ l.length) : clo (runB l) (fun j => decide (j = 0)) k = atA l w k 0 := by
  induction k with
  | zero => rw [atA_zero l w 0]; rfl
  | succ k ih =>
    rw [clo, ih (by omega)]
    cases hr : runB l k with
    | true => rw [atA_run l w k 0 (by omega) hr (by omega)]; simp
    | false => rw [atA_set0 l w k (by omega) hr]; simp
theorem start_stateA (l : List Item) (w : List UInt8) : StateA l w 0 (startW l) := by
  intro k hk
  rw [start_bit l k hk]
  by_cases hkl : k ≤ l.length
  · rw [start_cloA l w k hkl]
    congr 1
    unfold atT toK
    cases hr : runB l k with
    | false => rfl
    | true => rw [if_pos rfl, atA_run l w k 0 (run_lt l k hr) hr (by omega)]; simp
  · simp [hkl]
theorem step_stateA (l : List Item) (w : List UInt8) (i : Nat) (x : BitVec 64) (hn : l.length < 64) (hg : ∀ k, runB l k = true → ∀ b, hasB l b k = false) (hi : i < w.length) (h : StateA l w i x) :
    StateA l w (i + 1) (stepW l x (w[i]).toNat) := by
  intro k hk
  unfold stepW
  rw [close_stateA l w i x (by omega) h, closeW_bit l _ k hk]
  by_cases hkl : k ≤ l.length
  · simp only [hkl, decide_true, Bool.true_and]
    have hraw : ∀ j, j ≤ l.length → (((x &&& runsW l) ||| ((x &&& hasW l (w[i]).toNat) <<< 1)).getLsbD j) =
        ((atT l w i j && runB l j) || (decide (0 < j) && (atT l w i (j - 1) && hasB l (w[i]).toNat (j - 1)))) := by
      intro j hj
      rw [BitVec.getLsbD_or, shl1_bit _ _ (by omega), BitVec.getLsbD_and, BitVec.getLsbD_and, h j (by omega), h (j - 1) (by omega)]
      unfold runsW hasW
      rw [bv_bit _ _ (by omega), bv_bit _ _ (by omega)]
      simp [hj, show j - 1 ≤ l.length by omega]
    generalize ((x &&& runsW l) ||| ((x &&& hasW l (w[i]).toNat) <<< 1)) = z at *
    clear hk
    induction k with
    | zero =>
      show z.getLsbD 0 = atT l w (i + 1) 0
      rw [hraw 0 (by omega)]
      unfold atT toK
      cases hr : runB l 0 with
      | false => simp [atA_zero]
      | true =>
        simp only [if_true, Bool.and_true, Nat.lt_irrefl, decide_false, Bool.false_and, Bool.or_false]
        rw [atA_run l w 0 (i + 1) (run_lt l _ hr) hr (by omega), atA_zero]
        simp
    | succ k ih =>
      rw [clo, ih (by omega), hraw (k + 1) hkl]
      simp only [Nat.add_sub_cancel, Nat.zero_lt_succ, decide_true, Bool.true_and]
      have hkey : ((atT l w i k && hasB l (w[i]).toNat k) || (atT l w (i + 1) k && runB l k)) = atA l w (k + 1) (i + 1) := by
        cases hr : runB l k with
        | false =>
          rw [atA_set l w k i (by omega) hr hi]
          unfold atT toK; rw [hr]; simp
        | true =>
          rw [hg k hr]
          unfold atT toK; rw [hr]; simp
      have e1 : ∀ a b c : Bool, (a || b || c) = (a || (b || c)) := fun a b c => Bool.or_assoc a b c
      rw [e1, hkey]
      unfold atT toK
      cases hr : runB l (k + 1) with
      | false => simp
      | true =>
        simp only [if_true, Bool.and_true]
        rw [atA_run l w (k + 1) (i + 1) (run_lt l _ hr) hr (by omega)]
        simp [Bool.or_comm]
  · simp [hkl]
theorem done_stateA (l : List Item) (w : List UInt8) (i : Nat) (x : BitVec 64) (hn : l.length < 64) (hi : i ≤ w.length) (h : StateA l w i x) : doneW l x = matchR l (w.take i) := by
  have hd : doneW l x = (endsM l w (placesM (w.length + 1) 0 false)).getD i false := by
    unfold doneW
    rw [close_stateA l w i x hi h, h l.length hn]
    unfold atT toK
    rw [runB_out l _ (Nat.le_refl _)]
    unfold atA
    simp
  rw [hd, Bool.eq_iff_iff, ends_spec l w _ (placesM_len _ _ _) i hi]
  constructor
  · rintro ⟨j, _, h, hm⟩
    rw [placesM_get] at h
    obtain ⟨_, h | h⟩ := h
    · cases h
    · obtain rfl : j = 0 := by omega
      simpa [sub] using hm
  · intro h
    exact ⟨0, by omega, (placesM_get _ _ _ _).2 ⟨by omega, .inr rfl⟩, by simpa [sub] using h⟩

/-- Behind the state 0 nothing is told any more. -/
theorem step_zero (l : List Item) (b : Nat) : stepW l 0 b = 0 := by
  have hz : closeW l 0 = 0 := by
    refine bv_ext fun k hk => ?_
    rw [closeW_bit l 0 k hk, clo_closed]
    · simp
    · intro j _ h; simp at h
  unfold stepW
  rw [hz]
  have e : ((0 : BitVec 64) &&& runsW l ||| ((0 : BitVec 64) &&& hasW l b) <<< 1) = 0 := by simp
  rw [e, hz]
theorem stateA_zero (l : List Item) (w : List UInt8) (hn : l.length < 64) (hg : ∀ k, runB l k = true → ∀ b, hasB l b k = false) (i : Nat) (h : StateA l w i 0) (j : Nat) (hij : i ≤ j) (hj : j ≤ w.length) : StateA l w j 0 := by
  induction j with
  | zero => obtain rfl : i = 0 := by omega
            exact h
  | succ j ih =>
    rcases Nat.lt_or_ge j i with h1 | h1
    · obtain rfl : i = j + 1 := by omega
      exact h
    · have := step_stateA l w j 0 hn hg (by omega) (ih h1 (by omega))
      rwa [step_zero] at this
theorem done_zero (l : List Item) : doneW l 0 = false := by
  unfold doneW
  by_cases hk : l.length < 64
  · rw [closeW_bit l 0 _ hk, clo_closed]
    · simp
    · intro j _ h; simp at h
  · exact BitVec.getLsbD_of_ge _ _ (by omega)

/-! ### The other way round -/
theorem matchR_one (x : Item) (s : List UInt8) : matchR [x] s = true ↔ x.run = true ∨ ∃ c, s = [c] ∧ x.set.has c.toNat = true := by
  unfold matchR
  cases hr : x.run
  · cases s with
    | nil => simp
    | cons c r =>
      simp only [matchR, Bool.false_eq_true, if_false, Bool.and_eq_true, List.isEmpty_iff, false_or]
      constructor
      · rintro ⟨h1, rfl⟩; exact ⟨c, rfl, h1⟩
      · rintro ⟨d, h1, h2⟩
        obtain ⟨rfl, rfl⟩ := List.cons.inj h1
        exact ⟨h2, rfl⟩
  · simp only [if_true, true_or, iff_true, List.any_eq_true, List.mem_range]
    exact ⟨s.length, by omega, by simp [matchR]⟩
theorem run_false_of (x : Item) (s : List UInt8) (h : matchR [x] s = true) (hs : x.run = false) : ∃ c, s = [c] ∧ x.set.has c.toNat = true := by
  rcases (matchR_one x s).1 h with h | h
  · rw [hs] at h; cases h
  · exact h
theorem one_rev (x : Item) (s : List UInt8) : matchR [x] s.reverse = matchR [x] s := by
  rw [Bool.eq_iff_iff, matchR_one, matchR_one]
  constructor
  · rintro (h | ⟨c, h, hc⟩)
    · exact .inl h
    · exact .inr ⟨c, by have := congrArg List.reverse h; simpa using this, hc⟩
  · rintro (h | ⟨c, h, hc⟩)
    · exact .inl h
    · exact .inr ⟨c, by rw [h]; rfl, hc⟩
/-- A pattern the other way round matches just what the pattern matches, the other way round. -/
theorem match_rev (l : List Item) (s : List UInt8) : matchR l.reverse s.reverse = matchR l s := by
  rw [Bool.eq_iff_iff]
  induction l generalizing s with
  | nil => simp [matchR]
  | cons x l ih =>
    rw [List.reverse_cons, matchR_append, show x :: l = [x] ++ l from rfl, matchR_append]
    constructor
    · rintro ⟨i, hi, h1, h2⟩
      rw [List.length_reverse] at hi
      refine ⟨s.length - i, by omega, ?_, ?_⟩
      · rw [List.drop_reverse, one_rev] at h2
        exact h2
      · rw [← ih]
        rw [List.take_reverse] at h1
        exact h1
    · rintro ⟨i, hi, h1, h2⟩
      refine ⟨s.length - i, by simp, ?_, ?_⟩
      · rw [List.take_reverse, show s.length - (s.length - i) = i from by omega]
        exact (ih _).2 h2
      · rw [List.drop_reverse, show s.length - (s.length - i) = i from by omega, one_rev]
        exact h1

/-! ### From where -/
/-- What is told behind k steps back from a place: the least place so far, and whether there is one. -/
def downM (l : List Item) (w : List UInt8) (tt : Nat) : Nat → Nat × Bool
  | 0 => (0, false)
  | k + 1 => if matchM l (sub w (tt - (k + 1)) tt) then (tt - (k + 1), true) else downM l w tt k
theorem downM_spec (l : List Item) (w : List UInt8) (tt : Nat) (h0 : matchM l [] = false) (k : Nat) (hk : k ≤ tt) :
    downM l w tt k = match (startsM l w tt).filter (fun s => tt - k ≤ s) with | [] => (0, false) | s :: _ => (s, true) := by
  induction k with
  | zero =>
    have : (startsM l w tt).filter (fun s => tt - 0 ≤ s) = [] := by
      rw [List.filter_eq_nil_iff]
      intro s hs h
      rw [mem_startsM] at hs
      simp at h
      obtain rfl : s = tt := by omega
      rw [sub_self, ← matchM_eq, h0] at hs
      cases hs.2
    rw [this]; rfl
  | succ k ih =>
    have ih := ih (by omega)
    -- the places from tt - (k + 1) on
    have hsp : ∀ m, m < tt + 1 → (startsTo l w tt (tt + 1)).filter (fun s => m ≤ s) = (if matchM l (sub w m tt) then [m] else []) ++ (startsTo l w tt (tt + 1)).filter (fun s => m + 1 ≤ s) := by
      intro m hm
      unfold startsTo
      rw [List.filter_filter, List.filter_filter]
      have hr : List.range (tt + 1) = List.range m ++ m :: (List.range (tt - m)).map (fun i => m + 1 + i) := by
        have : tt + 1 = m + (1 + (tt - m)) := by omega
        rw [this, List.range_add, List.range_add]
        simp [Function.comp_def, Nat.add_assoc]
      rw [hr, List.filter_append, List.filter_append, List.filter_cons, List.filter_cons]
      have e1 : (List.range m).filter (fun a => decide (m ≤ a) && matchM l (sub w a tt)) = [] := by
        rw [List.filter_eq_nil_iff]; intro a ha; rw [List.mem_range] at ha; simp; omega
      have e2 : (List.range m).filter (fun a => decide (m + 1 ≤ a) && matchM l (sub w a tt)) = [] := by
        rw [List.filter_eq_nil_iff]; intro a ha; rw [List.mem_range] at ha; simp; omega
      have e3 : ((List.range (tt - m)).map (fun i => m + 1 + i)).filter (fun a => decide (m ≤ a) && matchM l (sub w a tt)) = ((List.range (tt - m)).map (fun i => m + 1 + i)).filter (fun a => decide (m + 1 ≤ a) && matchM l (sub w a tt)) := by
        refine List.filter_congr fun a ha => ?_
        rw [List.mem_map] at ha
        obtain ⟨i, _, rfl⟩ := ha
        have h1 : m ≤ m + 1 + i := by omega
        have h2 : m + 1 ≤ m + 1 + i := by omega
        simp [h1, h2]
      rw [e1, e2, e3]
      have d1 : ¬ (m + 1 ≤ m) := by omega
      simp only [Nat.le_refl, decide_true, Bool.true_and, d1, decide_false, Bool.false_and, List.nil_append, Bool.false_eq_true, if_false]
      by_cases hm : matchM l (sub w m tt) = true <;> simp [hm]
    rw [downM]
    have hs := hsp (tt - (k + 1)) (by omega)
    rw [show tt - (k + 1) + 1 = tt - k from by omega] at hs
    show _ = match (startsTo l w tt (tt + 1)).filter (fun s => tt - (k + 1) ≤ s) with | [] => (0, false) | s :: _ => (s, true)
    rw [hs]
    by_cases hm : matchM l (sub w (tt - (k + 1)) tt) = true
    · rw [if_pos hm, if_pos hm]; rfl
    · rw [if_neg hm, if_neg hm, ih]; rfl
/-- What From tells of a place that there is. -/
def fromM (l : List Item) (w : List UInt8) (tt : Nat) : Nat × Bool := match startsM l w tt with | [] => (0, false) | s :: _ => (s, true)
theorem downM_all (l : List Item) (w : List UInt8) (tt : Nat) (h0 : matchM l [] = false) : downM l w tt tt = fromM l w tt := by
  rw [downM_spec l w tt h0 tt (Nat.le_refl _), fromM]
  have : (startsM l w tt).filter (fun s => tt - tt ≤ s) = startsM l w tt := by
    rw [List.filter_eq_self]; intro a _; simp
  rw [this]
theorem downM_stay (l : List Item) (w : List UInt8) (tt k : Nat) (hk : k ≤ tt) (h : ∀ j, k < j → j ≤ tt → matchM l (sub w (tt - j) tt) = false) : downM l w tt tt = downM l w tt k := by
  obtain ⟨d, rfl⟩ : ∃ d, tt = k + d := ⟨tt - k, by omega⟩
  have : ∀ e, e ≤ d → downM l w (k + d) (k + e) = downM l w (k + d) k := by
    intro e
    induction e with
    | zero => intro _; rfl
    | succ e ih =>
      intro he
      rw [show k + (e + 1) = (k + e) + 1 from by omega, downM, h (k + e + 1) (by omega) (by omega)]
      simp only [Bool.false_eq_true, if_false]
      exact ih (by omega)
  exact this d (Nat.le_refl _)
/-- The text that is read back from a place. -/
def backT (w : List UInt8) (tt : Nat) : List UInt8 := (w.take tt).reverse
theorem backT_length (w : List UInt8) (tt : Nat) (h : tt ≤ w.length) : (backT w tt).length = tt := by simp [backT]; omega
theorem backT_get (w : List UInt8) (tt k : Nat) (h : tt ≤ w.length) (hk : k < tt) : (backT w tt)[k]'(by rw [backT_length w tt h]; exact hk) = w[tt - 1 - k] := by
  simp only [backT, List.getElem_reverse, List.length_take, List.getElem_take]
  congr 1; omega
theorem backT_match (l : List Item) (w : List UInt8) (tt k : Nat) (h : tt ≤ w.length) (hk : k ≤ tt) : matchR l.reverse ((backT w tt).take k) = matchM l (sub w (tt - k) tt) := by
  rw [matchM_eq]
  have e : (backT w tt).take k = (sub w (tt - k) tt).reverse := by
    unfold backT sub
    rw [List.take_reverse, List.length_take, Nat.min_eq_left h, List.drop_take]
  rw [e, match_rev]
theorem done_back (l : List Item) (w : List UInt8) (tt k : Nat) (x : BitVec 64) (hn : l.length < 64) (h : tt ≤ w.length) (hk : k ≤ tt) (hx : StateA l.reverse (backT w tt) k x) : doneW l.reverse x = matchM l (sub w (tt - k) tt) := by
  rw [done_stateA l.reverse _ k x (by simpa using hn) (by rw [backT_length w tt h]; exact hk) hx, backT_match l w tt k h hk]
theorem good_rev (l : List Item) (h : goodM l = true) : goodM l.reverse = true := by
  unfold goodM at *
  simpa using h
theorem least_rev (l : List Item) : leastM l.reverse = leastM l := by
  unfold leastM
  rw [List.filter_reverse, List.length_reverse]
end Go.Proofs.Ytgiffdgicmdmgaa
namespace Go.Proofs.Ytgiffdgicmdmgaa
open Go.RowKit Go.Shelf

attribute [local go_sem] Oper.semAt_some

/-- What has come of a slice, the last one first, when k rounds are over. -/
def upB (zs : List Item) (k : Nat) : List (Nat × Item) := (List.range k).map fun j => (zs.length - 1 - j, zs.getD (zs.length - 1 - j) noItem)
theorem upB_succ (zs : List Item) (k : Nat) : upB zs (k + 1) = upB zs k ++ [(zs.length - 1 - k, zs.getD (zs.length - 1 - k) noItem)] := by simp [upB, List.range_succ]
theorem upB_length (zs : List Item) (k : Nat) : (upB zs k).length = k := by simp [upB]
theorem upB_all (zs : List Item) : (upB zs zs.length).map Prod.snd = zs.reverse := by
  apply List.ext_getElem
  · simp [upB]
  · intro i h1 h2
    have h3 : i < zs.length := by simpa using h2
    have h4 : zs.length - 1 - i < zs.length := by omega
    simp [upB, List.getD, h4]
def encB (x : Nat × Item) : Array Value := #[.int .i64 (x.1 : Int), x.2.val]
/-- What a round that goes on keeps: what lay below n₀, and the box Bs. -/
def KpB (n₀ Bs : Nat) (t : TypeId) (A B : World) : Prop := Below n₀ A B ∧ ∀ v, Boxed A Bs t v → Boxed B Bs t v
theorem KpB_t {n₀ Bs : Nat} {t : TypeId} {A B C : World} (h : KpB n₀ Bs t A B) (k : KpB n₀ Bs t B C) : KpB n₀ Bs t A C := ⟨h.1.trans k.1, fun v hv => k.2 v (h.2 v hv)⟩
theorem KpB_b {n₀ Bs : Nat} {t : TypeId} {w : World} (hn : n₀ ≤ w.heap.size) (W : World) (l : Nat) (o o' : Obj) (hl : w.heap.size ≤ l) (h : W.heap[l]? = some o) (hc : o.isCells = false) (hw : o.isWalk = false) : KpB n₀ Bs t W (W.putObj l o') :=
  ⟨belowK_b hn W l o o' hl h hc hw, fun v hv => hv.kept (grownBy_putObj' W l o') (fun e => by
    cases e
    have h2 : W.heap[Bs]? = _ := hv
    rw [h2] at h; cases h; cases hc)⟩

set_option maxRecDepth 100000 in
set_option maxHeartbeats 2000000 in
theorem backw1_in (F : Fence) (n : Nat) (h7 : F.fn 99) (hro : F.round = none) (hn : 1 ≤ n) (l Bs n₀ len cap : Nat) (A : Option Addr) (zs : List Item) (hz : zs.length = len) (hreach : len ≤ 1000000) (hb : itemCells zs = [] ∨ ∀ a, A = some a → a.block < n₀) (J Jx : List (Nat × Item) → World → Prop)
    (hY : ∀ pre x W, J pre W → pre.length < len → YieldAt F (n - 1) Try.prog l (encB x) W fun e W' =>
      (e = .returned (.bool true) ∧ J (pre ++ [x]) W' ∧ KpB n₀ Bs 34 W W') ∨ (e = .returned (.bool false) ∧ Jx (pre ++ [x]) W'))
    (W : World) (hn0 : n₀ ≤ W.heap.size) (hBs : Boxed W Bs 34 (.slice A len cap)) (hc : Rd W A (itemCells zs)) (h0 : J [] W) :
    CallsIn F n Try.prog 99 #[.func (.yield l) #[] #[], .pointer (some ⟨Bs, 0, none⟩)] W fun e W' => (∃ v, e = .returned v) ∧
      ((∃ ys, ys = upB zs len ∧ J ys W') ∨ (∃ pre, (∃ k, k ≤ len ∧ pre = upB zs k) ∧ Jx pre W')) := by
  have HZ := hid hz; clear hz
  refine callsIn_of_wp Try.func99 rfl h7 ?_ hro
  simp only [Try.ntmps99, List.size_toArray, List.length_cons, List.length_nil, Nat.reduceAdd, Nat.reduceSub, Array.replicate_succ, Array.replicate_zero, List.push_toArray, List.append_toArray, List.nil_append, List.cons_append]
  have hBc := hBs.cell
  gi_wp2
  gi_loopw [3] (fun i wr => ∃ k : Nat, k ≤ len ∧ i = .int .i64 ((len : Int) - 1 - (k : Int)) ∧ J (upB zs k) wr ∧ KpB n₀ Bs 34 W wr)
    (fun i _ => (intOf i + 1).toNat)
  case atStart => exact ⟨0, Nat.zero_le _, by simp, h0, Below.refl _ _, fun _ h => h⟩
  case round =>
    obtain ⟨k, hk, rfl, hJs, hnx⟩ := hrel
    have hBr := (hnx.2 _ hBs).cell
    by_cases hlt : k < len
    · obtain ⟨m, hm⟩ : ∃ m : Nat, m = len - 1 - k := ⟨_, rfl⟩
      have HK : Hid (m < zs.length) := by rw [Hid, HZ.out]; omega
      have hrd : Rd wr A (itemCells zs) := by
        rcases hc with h | ⟨b, off, hA, h1, h2⟩
        · exact .inl h
        rcases hb with h | hb
        · exact .inl h
        · exact .inr ⟨b, off, hA, Nat.lt_of_lt_of_le (hb _ hA) (Nat.le_trans hn0 hnx.1.size), fun j u hj => (hnx.1.cell (p := ⟨b, off + j, none⟩) (hb ⟨b, off, none⟩ hA)).trans (h2 j u hj)⟩
      obtain ⟨b, off, rfl, hbl, hcs⟩ := hrd.at (by rw [itemCells_length, HZ.out]; omega)
      obtain ⟨d0, d1, d2, d3, d4⟩ := item_at hcs m HK.out
      have HX : Hid (zs.getD (zs.length - 1 - k) noItem = zs[m]'HK.out) := by
        have e : zs.length - 1 - k = m := by rw [HZ.out]; omega
        have := HK.out
        rw [Hid, e]; simp [List.getD, this]
      have HU : Hid (upB zs (k + 1) = upB zs k ++ [(m, zs[m]'HK.out)]) := by
        have e : zs.length - 1 - k = m := by rw [HZ.out]; omega
        rw [Hid, upB_succ, HX.out, e]
      obtain ⟨y, hy⟩ : ∃ y, upB zs (k + 1) = y := ⟨_, rfl⟩
      have HY2 := hid hy
      rw [hy] at HU
      obtain ⟨pr, hpr⟩ : ∃ pr, upB zs k = pr := ⟨_, rfl⟩
      have hpl : pr.length = k := by rw [← hpr, upB_length]
      rw [hpr] at HU hJs
      generalize zs[m]'HK.out = x at *
      have hi1 : (len : Int) - 1 - (k : Int) = (m : Int) := by omega
      rw [hi1]
      have hmk : (m : Int) + (k : Int) + 1 = (len : Int) := by omega
      have hml : m < len := by omega
      obtain ⟨fn, tmps, assign, body, hyy, hR⟩ := hY pr (m, x) wr hJs (by omega)
      have HK2 := hid hnx
      have HPL : Hid (upB zs (k + 1) = y) := hy
      have HHM := hid hm
      clear hm hi1 hJs hnx hpl hpr hy hcs hrd hc HX
      obtain ⟨r, x0, x1, x2, x3⟩ := x
      simp only [encB, Item.val] at hyy hR
      dsimp only at hyy d0 d1 d2 d3 d4
      gi_wp2
      refine hR.mono ?_
      rintro e W3 (⟨rfl, hJ3, hk3⟩ | ⟨rfl, hJx3⟩)
      · gi_wp2
        go_roundw
        case rel => exact ⟨k + 1, by omega, by go_num, by rw [HPL.out, HU.out]; exact hJ3, KpB_t HK2.out hk3⟩
        case measure => simp [intOf]
      · gi_wp2
        refine bodyPost_ret (results_none rfl _ _ _) rfl ?_
        exact ⟨⟨_, rfl⟩, .inr ⟨_, ⟨k + 1, by omega, by rw [HPL.out, HU.out]⟩, hJx3⟩⟩
    · obtain rfl : k = len := by omega
      gi_wp2
      go_end0
      exact ⟨⟨_, rfl⟩, .inl ⟨_, rfl, hJs⟩⟩

set_option maxHeartbeats 1000000 in
/-- slices.Backward: the slice is boxed; the function value captures the box. -/
theorem backw_in (F : Fence) (n : Nat) (h5 : F.fn 78) (hro : F.round = none) (a : Option Addr) (len cap : Nat) (w : World) :
    CallsIn F n Try.prog 78 #[.slice a len cap] w fun e w' => e = .returned (.func (.func 99) #[] #[.pointer (some ⟨w.heap.size, 0, none⟩)]) ∧ w' = w.alloc (.cells #[.slice a len cap] 34) := by
  refine callsIn_of_wp Try.func78 rfl h5 ?_ hro
  simp only [Try.ntmps78, List.size_toArray, List.length_cons, List.length_nil, Nat.reduceAdd, Nat.reduceSub, Array.replicate_succ, Array.replicate_zero, List.push_toArray, List.append_toArray, List.nil_append, List.cons_append]
  gi_wp2
  go_ret
  exact ⟨rfl, rfl⟩

theorem backw_stops (F : Fence) (n : Nat) (h8 : F.fn 99) (hro : F.round = none) (hn : 1 ≤ n) (Bs n₀ len cap : Nat) (A : Option Addr) (zs : List Item) (hz : zs.length = len) (hreach : len ≤ 1000000) (w : World) (hBs : Boxed w Bs 34 (.slice A len cap)) (hn₀ : n₀ ≤ w.heap.size)
    (hb : itemCells zs = [] ∨ ∀ a, A = some a → a.block < n₀) (hc : Rd w A (itemCells zs)) :
    SeqStopsK F n Try.prog 99 #[.pointer (some ⟨Bs, 0, none⟩)] encB (KpB n₀ Bs 34) (fun ys => ys = upB zs len)
      (fun pre => ∃ k, k ≤ len ∧ pre = upB zs k) len w := fun l J Jx W hW _ _ hY h0 => by
  have hc' : Rd W A (itemCells zs) := hc.below hW
  have hB' : Boxed W Bs 34 (.slice A len cap) := (hW.block Bs hBs.lt).trans hBs
  exact backw1_in F n h8 hro hn l Bs n₀ len cap A zs hz hreach hb J Jx hY W (Nat.le_trans hn₀ hW.size) hB' hc' h0

theorem blk_ownF {β : Type} (B0 g : Nat) (t : TypeId) (cs : Array Value) : OwnFrom B0 (fun (_ : β) W => Blk W g t cs) := fun _ X Y row hs hg hrow => by
  refine (hg.block g (Blk.lt hs) (fun e' => ?_)).trans hs
  obtain ⟨_, o, ho, hc⟩ := hrow g e'.symm
  have h2 : X.heap[g]? = _ := hs
  rw [h2] at ho; cases ho; cases hc
theorem itemCells_one1 (x : Item) : itemCells [x] = [.bool x.run, w64 x.set.w0, w64 x.set.w1, w64 x.set.w2, w64 x.set.w3] := by simp [itemCells, Item.cells, BSet.cells]

set_option maxRecDepth 100000 in
set_option maxHeartbeats 4000000 in
theorem backI_any (A : Option Addr) (m c : Nat) (zs : List Item) (w : World) (hz : zs.length = m) (hm : m ≤ 1000000) (hr : Rd w A (itemCells zs)) :
    Calls Try.prog 54 #[.slice A m c] w fun e W' => ∃ A' c', e = .returned (.slice A' m c') ∧ W'.ownsRow w.heap.size 52 5 (.slice A' m c') m (itemCells zs.reverse) ∧ Below w.heap.size w W' := by
  refine (callsIn_wide (n := 3)).1 ?_
  obtain ⟨i0, hi, hz0, hz1, hz2⟩ := info_parts Try.infoItem
  have hro : Fence.wide.round = none := rfl
  have h1 : 1 ≤ 3 := by omega
  have hA : itemCells zs = [] ∨ ∀ a, A = some a → a.block < w.heap.size := by
    rcases hr with h | ⟨b, off, rfl, h2, _⟩
    · exact .inl h
    · exact .inr fun a e => by cases e; exact h2
  have HZ := hid hz
  refine callsIn_of_wp_marks Try.func54 rfl trivial ?_ hro
  simp only [Try.ntmps54, List.size_toArray, List.length_cons, List.length_nil, Nat.reduceAdd, Nat.reduceSub, Array.replicate_succ, Array.replicate_zero, List.push_toArray, List.append_toArray, List.nil_append, List.cons_append]
  gi_wp2_with (refine ⟨trivial, ?_⟩; gi_at_call 78; refine (backw_in Fence.wide 2 trivial hro _ _ _ _).mono ?_; rintro e w' ⟨rfl, rfl⟩)
  have bO := Boxed.new w 34 (.slice none 0 0)
  have bN := Boxed.new (w.alloc (.cells #[.slice none 0 0] 34)) 34 (.slice A m c)
  rw [World.size_alloc] at bN
  have hB0 : Below w.heap.size w ((w.alloc (.cells #[.slice none 0 0] 34)).alloc (.cells #[.slice A m c] 34)) := ((Below.refl _ w).alloc (Nat.le_refl _) _).alloc (by simp) _
  refine wpIn_rangeFunc_ownH hro h1 (gf := 99) (lb := #[.pointer (some ⟨w.heap.size + 1, 0, none⟩)]) rfl trivial (enters_of Try.func99 (by kernel_rfl) rfl)
    (backw_stops Fence.wide 2 trivial hro (by omega) (w.heap.size + 1) w.heap.size m c A zs HZ.out hm _ bN (by simp; omega) hA (hr.below hB0)) KpB_t (KpB_b (by simp; omega)) (Below.refl _ _) (fun _ => rfl)
    (fun pre W => ((∃ v, Boxed W w.heap.size 34 v ∧ W.ownsRow w.heap.size 52 5 v pre.length (itemCells (pre.map Prod.snd)) ∧ True) ∧ Boxed W (w.heap.size + 1) 34 (.slice A m c)) ∧ Below w.heap.size w W)
    (fun _ _ _ => False)
    (OwnFrom.and (OwnFrom.and (Own.from (holdsRow_own w.heap.size w.heap.size 34 52 5 (fun (pre : List (Nat × Item)) => pre.length) (fun (pre : List (Nat × Item)) => itemCells (pre.map Prod.snd)) (fun _ _ => True)) _) (Own.from (boxed_own _ _ _) _)) (ownFrom_below (Nat.le_refl _) (by simp; omega)))
    (fun _ _ _ _ _ hs _ _ => hs)
    ⟨⟨⟨_, bO.alloc _, World.ownsRow_nil _ _ _ _, trivial⟩, bN⟩, hB0⟩
    (fun x a' W => ∃ Bx, w.heap.size + 1 < Bx ∧ Blk W Bx 52 x.2.cells.toArray ∧ a' = { tmps := #[.slice A m c, undef, .slice none 0 0, .pointer (some ⟨w.heap.size, 0, none⟩), undef, .pointer (some ⟨Bx, 0, none⟩), .slice A m c, .func (.func 99) #[] #[.pointer (some ⟨w.heap.size + 1, 0, none⟩)], .int .i64 (x.1 : Int), x.2.val, undef, undef, undef, undef, undef], defers := [] })
    (fun x a' s X Y row h hg hrow => by obtain ⟨Bx, h1, h2, h3⟩ := h; exact ⟨Bx, h1, blk_ownF (β := Unit) _ Bx _ _ s X Y row h2 hg hrow, h3⟩) ?assign ?body ?done ?stop
  case assign =>
    rintro l pre ⟨i, r, x0, x1, x2, x3⟩ W K hi hK
    simp only [encB, Item.val, Item.cells, BSet.cells] at hK ⊢
    gi_wp2
    obtain ⟨⟨⟨v, hv, hrow, _⟩, bN'⟩, hB⟩ := hi
    exact hK _ _ ((KeepsOthers.alloc _ _).from _) ⟨(Below.refl _ W).alloc hB.size _, fun v hv => hv.alloc _⟩ ⟨⟨⟨v, hv.alloc _, hrow.alloc _, trivial⟩, bN'.alloc _⟩, hB.alloc hB.size _⟩ ⟨W.heap.size, bN'.lt, Blk.new _ _ _, rfl⟩
  case body =>
    rintro l pre ⟨i, r, x0, x1, x2, x3⟩ a' W hl hrr ⟨⟨⟨v, hv, hrow, _⟩, bN'⟩, hB⟩ ⟨Bx, hBx, bX, rfl⟩ hlt
    have hc := hv.cell
    have d0 := bX.cell 0
    have d1 := bX.cell 1
    have d2 := bX.cell 2
    have d3 := bX.cell 3
    have d4 := bX.cell 4
    simp only [Item.cells, BSet.cells, List.getElem?_toArray, List.getElem?_cons_zero, List.getElem?_cons_succ] at d0 d1 d2 d3 d4
    have hlt' : pre.length < m := hlt
    have HBX := hid bX
    clear bX hlt
    gi_wp2_with (gi_at_builtin; refine wpListIn_append_own _ rfl _ _ 34 rfl w.heap.size 52 i0 _ 5 40 Try.underlying34 hi hz0 hz1 hz2 rfl (by decide) _ _ _ rfl (hrow.alloc _) ⟨W.heap.size, 0, none⟩ 1 1 (itemCells [⟨r, ⟨x0, x1, x2, x3⟩⟩]) rfl rfl (cells_new (cs := itemCells [⟨r, ⟨x0, x1, x2, x3⟩⟩])) (itemCells_one _) (by unfold maxLen; omega) (by omega) (by have := hB.size; simp; omega) ?_; intro v' w1 hown' hgrow _; obtain ⟨g', cap', rfl⟩ := ownsRow_succ hown'; obtain ⟨hv1, hv2, hr2, hk2, hb2⟩ := hv.appended (by decide) hrow hB.size (Nat.le_refl _) hown' hgrow; have hc1 := hv1.cell; have hf1 := hv1.frozen)
    have hbN2 : ∀ u, Boxed W (w.heap.size + 1) 34 u → Boxed (w1.setCell ⟨w.heap.size, 0, none⟩ (.slice (some ⟨g', 0, none⟩) (pre.length + 1) cap')) (w.heap.size + 1) 34 u := fun u hu =>
      (((hu.alloc _).kept hgrow (hu.not_row (by decide) hrow))).kept (grownBy_setCell' w1 w.heap.size _) (fun e => by have := Option.some.inj e; omega)
    have e1 : (pre ++ [(i, (⟨r, ⟨x0, x1, x2, x3⟩⟩ : Item))]).length = pre.length + 1 := by simp
    have e2 : itemCells ((pre ++ [(i, (⟨r, ⟨x0, x1, x2, x3⟩⟩ : Item))]).map Prod.snd) = itemCells (pre.map Prod.snd) ++ itemCells [⟨r, ⟨x0, x1, x2, x3⟩⟩] := by rw [List.map_append, itemCells_append]; rfl
    exact ⟨hk2.from _, ⟨hb2, hbN2⟩, ⟨⟨_, hv2, by rw [e1, e2]; exact hr2⟩, hbN2 _ bN'⟩, hB.trans hb2⟩
  case done =>
    rintro D ys W hD rfl ⟨⟨⟨v, hv, hrow, _⟩, bN⟩, hB⟩ hK
    have hc := hv.cell
    gi_wp2
    refine ⟨by simp, .inl ⟨_, _, rfl, run_takeDeferred hK, ?_⟩⟩
    rw [upB_length, ← HZ.out, upB_all, HZ.out] at hrow
    obtain ⟨A', c', rfl⟩ : ∃ A' c', v = .slice A' m c' := by
      obtain ⟨A', c', h, _⟩ := own_shape hrow
      exact ⟨A', c', h⟩
    exact ⟨_, results_tmp rfl _ _ _, A', c', rfl, ownsRow_putObj hrow _ hK rfl, hB.trans (belowK_b (w := w) (Nat.le_refl _) W D _ _ (by simp at hD; omega) hK rfl rfl)⟩
  case stop =>
    rintro D c pre W _ _ h _
    exact h.elim
end Go.Proofs.Ytgiffdgicmdmgaa
namespace Go.Proofs.Ytgiffdgicmdmgaa
open Go.RowKit

set_option maxHeartbeats 1000000 in
theorem backC_any (A : Option Addr) (m c : Nat) (zs : List Item) (w : World) (hz : zs.length = m) (hm : m ≤ 1000000) (hr : Rd w A (itemCells zs)) :
    Calls Try.prog 27 #[.slice A m c] w fun e W' => ∃ A' c', e = .returned (.slice A' m c') ∧ W'.ownsRow w.heap.size 52 5 (.slice A' m c') m (itemCells zs.reverse) ∧ Below w.heap.size w W' := by
  have C := hid (backI_any A m c zs w hz hm hr)
  clear hz
  go_enter Try.func27, Try.ntmps27
  go_wp2_with fail
  refine C.out.mono ?_
  rintro en w1 ⟨A1, c1, rfl, hown1, hb1⟩
  go_wp2_with fail
  go_ret
  exact ⟨A1, c1, rfl, hown1, hb1⟩

/-- What span.from tells. -/
def fromW (l : List Item) (w : List UInt8) (tt : Nat) : Nat × Bool := if goodM l = true ∧ matchM l [] = false then fromM l w tt else (0, false)
theorem matchM_rev_nil (l : List Item) : matchM l.reverse [] = matchM l [] := by
  rw [matchM_eq, matchM_eq, ← match_rev l []]; rfl

set_option maxRecDepth 100000 in
set_option maxHeartbeats 4000000 in
theorem fromI_any (A : Option Addr) (m c : Nat) (l : List Item) (s : ByteArray) (tt : Nat) (w : World) (hl : l.length = m) (hm : m ≤ 1000000) (hr : Rd w A (itemCells l)) (ht : tt ≤ s.size) (hs : s.size ≤ 1000000) :
    Calls Try.prog 56 #[.slice A m c, .string s, .int .i64 (tt : Int)] w fun e w' => e = .returned (.tuple #[.int .i64 ((fromW l s.data.toList tt).1 : Int), .bool (fromW l s.data.toList tt).2]) ∧ Below w.heap.size w w' := by
  have HL := hid hl
  have C1 := hid (backI_any A m c l w hl hm hr)
  have HGR : Hid (goodM l.reverse = true → goodM l = true) := fun h => by have := good_rev _ h; rwa [List.reverse_reverse] at this
  have HGR2 := hid (good_rev l)
  have HNR := hid (matchM_rev_nil l)
  have HLR : Hid (l.reverse.length = m) := by rw [Hid, List.length_reverse, hl]
  have HSZ := hid (size_list s)
  obtain ⟨R, hR⟩ : ∃ R, fromW l s.data.toList tt = R := ⟨_, rfl⟩
  have HR := hid hR
  rw [hR]
  obtain ⟨r1, r2⟩ := R
  simp only
  clear hR hl
  go_enter Try.func56, Try.ntmps56
  go_wp2_with fail
  refine C1.out.mono ?_
  rintro en w1 ⟨A1, c1, rfl, hown1, hb1⟩
  have HR1 := hid (Rd_of_own hown1)
  have HB1 := hid hb1
  have C2 := hid (compileB_any A1 m c1 l.reverse w1 HLR.out (by omega) HR1.out)
  clear hown1 hb1 C1
  go_wp2_with fail
  refine C2.out.mono ?_
  rintro en w2 ⟨hres, hb2⟩
  have HB2 := hid (HB1.out.trans (hb2.mono HB1.out.size))
  have hsz := HB1.out.size
  clear C2 hb2
  rcases hres with ⟨hg, rfl⟩ | ⟨hg, hmm, rfl⟩ | ⟨hg, hmm, g, rfl, ht2, hgl, -⟩
  · have e : r1 = 0 ∧ r2 = false := by
      have := HR.out
      rw [fromW, if_neg] at this
      · cases this; exact ⟨rfl, rfl⟩
      · rintro ⟨h, _⟩; rw [HGR2.out h] at hg; cases hg
    obtain ⟨rfl, rfl⟩ := e
    clear hg
    go_wp2_with fail
    go_ret2
    exact ⟨rfl, HB2.out⟩
  · have e : r1 = 0 ∧ r2 = false := by
      have := HR.out
      rw [fromW, if_neg] at this
      · cases this; exact ⟨rfl, rfl⟩
      · rintro ⟨_, h⟩; rw [HNR.out, h] at hmm; cases hmm
    obtain ⟨rfl, rfl⟩ := e
    clear hg hmm
    go_wp2_with fail
    go_ret2
    exact ⟨rfl, HB2.out⟩
  · have hm0 : matchM l [] = false := by rw [← HNR.out]; exact hmm
    have HM0 := hid hm0
    have hln := good_has _ hg
    have HHA := hid hln.1
    have h60 : m ≤ 60 := by have := hln.2; rw [HLR.out] at this; omega
    have HLN : Hid (l.reverse.length ≤ 60) := by rw [Hid, HLR.out]; exact h60
    have HE : Hid ((r1, r2) = downM l s.data.toList tt tt) := by
      have := HR.out
      rw [fromW, if_pos ⟨HGR.out hg, hm0⟩, ← downM_all l _ tt hm0] at this
      exact this.symm
    have HT := hid ht2
    have HST := hid (start_stateA l.reverse (backT s.data.toList tt))
    have HBL := hid (backT_length s.data.toList tt (by rw [HSZ.out]; exact ht))
    have C3 := hid (startC_any g l.reverse w2 HLN.out HT.out)
    obtain ⟨x0, hx0⟩ : ∃ x0, startW l.reverse = x0 := ⟨_, rfl⟩
    rw [hx0] at C3 HST
    clear hm0 hmm hg hln ht2 HR HGR HGR2 HNR hx0
    go_wp2_with fail
    refine C3.out.mono ?_
    rintro en w3 ⟨rfl, rfl⟩
    clear C3
    go_wp2_with fail
    go_loopw [10, 11, 12, 13] (fun o p xv iv wr => ∃ (k : Nat) (x : BitVec 64) (o1 : Nat) (o2 : Bool), k ≤ tt ∧ o = .int .i64 (o1 : Int) ∧ p = .bool o2 ∧ xv = w64 x ∧ iv = .int .i64 ((tt : Int) - 1 - (k : Int)) ∧ Hid (StateA l.reverse (backT s.data.toList tt) k x) ∧ Hid (downM l s.data.toList tt k = (o1, o2)) ∧ Below w.heap.size w wr ∧ Below w2.heap.size w2 wr) (fun _ _ _ iv _ => (intOf iv + 1).toNat)
    case atStart => exact ⟨0, x0, 0, false, by omega, rfl, rfl, rfl, by simp, HST.out, rfl, HB2.out, Below.refl _ _⟩
    case round =>
      obtain ⟨k, x, o1, o2, hk, rfl, rfl, rfl, rfl, HSX, HDX, hbr, hbr2⟩ := hrel
      have HBR := hid hbr; have HBR2 := hid hbr2
      clear hbr hbr2
      by_cases hkt : k < tt
      · obtain ⟨i, hi⟩ : ∃ i : Nat, i = tt - 1 - k := ⟨_, rfl⟩
        have hi1 : (tt : Int) - 1 - (k : Int) = (i : Int) := by omega
        have hik : (i : Int) + (k : Int) + 1 = (tt : Int) := by omega
        have his : i < s.size := by omega
        rw [hi1]
        by_cases hx : x = 0
        · -- the state is empty: nothing comes any more
          subst hx
          have HF : Hid (r1 = o1 ∧ r2 = o2) := by
            have h1 := HE.out
            rw [downM_stay l s.data.toList tt k (by omega) (fun j hj1 hj2 => by
              have hz := stateA_zero l.reverse _ (by have := HLN.out; omega) HHA.out k HSX.out j (by omega) (by rw [HBL.out]; exact hj2)
              rw [← done_back l s.data.toList tt j 0 (by rw [HL.out]; omega) (by rw [HSZ.out]; exact ht) hj2 hz]
              exact done_zero _), HDX.out] at h1
            cases h1; exact ⟨rfl, rfl⟩
          go_wp2_with fail
          go_ret2
          exact ⟨by rw [HF.out.1, HF.out.2]; rfl, HBR.out⟩
        · have hx0 : ((x.toNat : Int) == 0) = false := by
            rw [beq_eq_false_iff_ne]
            intro h
            exact hx (BitVec.eq_of_toNat_eq (by simpa using h))
          have hx1 : ((x.toNat : Int) != 0) = true := by rw [bne, hx0]; rfl
          have HKB : Hid (k < (backT s.data.toList tt).length) := by rw [Hid, HBL.out]; exact hkt
          have HNB : Hid ((backT s.data.toList tt)[k]'HKB.out = s[i]'his) := by
            rw [Hid, backT_get s.data.toList tt k (by rw [HSZ.out]; exact ht) hkt]
            have : s.data.toList[tt - 1 - k]'(by have := HSZ.out; omega) = s.data.toList[i]'(by have := HSZ.out; omega) := by
              congr 1; omega
            rw [this]; rfl
          have HS2 := hid (step_stateA l.reverse _ k x (by have := HLN.out; omega) HHA.out HKB.out HSX.out)
          rw [HNB.out] at HS2
          have HT2 := hid (HT.out.below (by exact HBR2.out))
          have C4 := hid (stepC_any g l.reverse x (s[i]'his).toNat wr HLN.out (UInt8.toNat_lt _) HT2.out)
          obtain ⟨x2, hx2⟩ : ∃ x2, stepW l.reverse x (s[i]'his).toNat = x2 := ⟨_, rfl⟩
          rw [hx2] at C4 HS2
          have HD := hid (done_back l s.data.toList tt (k + 1) x2 (by rw [HL.out]; omega) (by rw [HSZ.out]; exact ht) hkt HS2.out)
          have HDS : Hid (downM l s.data.toList tt (k + 1) = if doneW l.reverse x2 = true then (i, true) else (o1, o2)) := by
            rw [Hid, downM, HD.out, HDX.out]
            have e : tt - (k + 1) = i := by omega
            rw [e]
          clear hx hx2 HNB hi hi1 HSX HDX HT HD HKB
          go_wp2_with fail
          refine C4.out.mono ?_
          rintro en w4 ⟨rfl, hb4⟩
          have HB4 := hid (HBR.out.trans (hb4.mono HBR.out.size))
          have HB42 := hid (HBR2.out.trans (hb4.mono HBR2.out.size))
          have C5 := hid (done_any g l.reverse x2 w4 HLN.out (HT2.out.below hb4))
          clear C4 hb4 HBR HBR2 HT2
          go_wp2_with fail
          refine C5.out.mono ?_
          rintro en w5 ⟨rfl, hb5⟩
          have HB5 := hid (HB4.out.trans (hb5.mono HB4.out.size))
          have HB52 := hid (HB42.out.trans (hb5.mono HB42.out.size))
          clear C5 hb5 HB4 HB42
          cases hd : doneW l.reverse x2
          · rw [hd] at HDS
            clear hd
            go_wp2_with fail
            go_roundw
            case rel => exact ⟨k + 1, x2, o1, o2, by omega, rfl, rfl, rfl, by go_num, HS2.out, HDS.out, HB5.out, HB52.out⟩
            case measure => simp [intOf]
          · rw [hd] at HDS
            clear hd
            go_wp2_with fail
            go_roundw
            case rel => exact ⟨k + 1, x2, i, true, by omega, rfl, rfl, rfl, by go_num, HS2.out, HDS.out, HB5.out, HB52.out⟩
            case measure => simp [intOf]
      · have hkk : k = tt := by omega
        have hk1 : (tt : Int) - 1 - (k : Int) < 0 := by omega
        have HF : Hid (r1 = o1 ∧ r2 = o2) := by
          have h1 := HE.out
          rw [← hkk] at HDX
          rw [hkk] at HDX
          rw [HDX.out] at h1
          cases h1; exact ⟨rfl, rfl⟩
        clear hkk
        go_wp2_with fail
        go_ret2
        exact ⟨by rw [HF.out.1, HF.out.2]; rfl, HBR.out⟩
end Go.Proofs.Ytgiffdgicmdmgaa
namespace Go.Proofs.Ytgiffdgicmdmgaa
open Go.RowKit PopT

def fromZ (l : List Item) (w : List UInt8) (tt : Int) : Nat × Bool := if 0 ≤ tt ∧ tt ≤ w.length then fromW l w tt.toNat else (0, false)
theorem fromZ_in (l : List Item) (w : List UInt8) (t : Nat) (h : t ≤ w.length) : fromZ l w (t : Int) = fromW l w t := by
  rw [fromZ, if_pos ⟨by omega, by omega⟩]; rfl

set_option maxHeartbeats 1000000 in
theorem fromC_any (A : Option Addr) (m c : Nat) (l : List Item) (s : ByteArray) (tt : Int) (w : World) (hl : l.length = m) (hm : m ≤ 1000000) (hr : Rd w A (itemCells l)) (hs : s.size ≤ 1000000) (h1 : -9223372036854775808 ≤ tt) (h2 : tt ≤ 9223372036854775807) :
    Calls Try.prog 33 #[.slice A m c, .string s, .int .i64 tt] w fun e w' => e = .returned (.tuple #[.int .i64 ((fromZ l s.data.toList tt).1 : Int), .bool (fromZ l s.data.toList tt).2]) ∧ Below w.heap.size w w' := by
  have HSZ := hid (size_list s)
  by_cases hin : 0 ≤ tt ∧ tt ≤ s.size
  · obtain ⟨t, rfl⟩ : ∃ t : Nat, tt = t := ⟨tt.toNat, by omega⟩
    have hts : t ≤ s.size := by omega
    have C := hid (fromI_any A m c l s t w hl hm hr hts hs)
    rw [fromZ_in l _ t (by rw [HSZ.out]; exact hts)]
    obtain ⟨⟨r1, r2⟩, hR⟩ : ∃ R, fromW l s.data.toList t = R := ⟨_, rfl⟩
    rw [hR] at C ⊢
    simp only at C ⊢
    clear hR hl hin
    go_enter Try.func33, Try.ntmps33
    go_wp2_with fail
    refine C.out.mono ?_
    rintro en w1 ⟨rfl, hb1⟩
    go_wp2_with fail
    go_ret2
    exact ⟨rfl, hb1⟩
  · have e : fromZ l s.data.toList tt = (0, false) := by rw [fromZ, if_neg]; rw [HSZ.out]; exact hin
    rw [e]
    clear e hl
    go_enter Try.func33, Try.ntmps33
    by_cases h0 : tt < 0
    · go_wp2_with fail
      go_ret2
      exact ⟨rfl, Below.refl _ _⟩
    · have h3 : (s.size : Int) < tt := by omega
      go_wp2_with fail
      go_ret2
      exact ⟨rfl, Below.refl _ _⟩

/-- What span.find tells. -/
def findW (l : List Item) (w : List UInt8) : Nat × Nat × Bool := if goodM l = true ∧ matchM l [] = false then firstM l w else (0, 0, false)
theorem find_first (l : List Item) (w : List UInt8) (i : Nat) (hi : i < w.length) (h : ∀ j, j ≤ i → (endsAll l w).getD j false = false) (hd : (endsAll l w).getD (i + 1) false = true) : firstM l w = ((fromM l w (i + 1)).1, i + 1, true) ∧ (fromM l w (i + 1)).2 = true := by
  have h0 : ∀ j, j < i + 1 → (startsM l w j).length = 0 := by
    intro j hj
    have h1 := h j (by omega)
    rw [ends_starts l w j (by omega), decide_eq_false_iff_not] at h1
    omega
  have h2 : 0 < (startsM l w (i + 1)).length := by
    rw [ends_starts l w (i + 1) (by omega), decide_eq_true_eq] at hd
    exact hd
  rw [first_is l w (i + 1) (by omega) h0 h2, fromM]
  cases hs : startsM l w (i + 1) with
  | nil => rw [hs] at h2; simp at h2
  | cons a r => exact ⟨rfl, rfl⟩
theorem find_never (l : List Item) (w : List UInt8) (h : ∀ j, j ≤ w.length → (endsAll l w).getD j false = false) : firstM l w = (0, 0, false) := by
  refine first_none l w fun j hj => ?_
  have h1 := h j (by omega)
  rw [ends_starts l w j (by omega), decide_eq_false_iff_not] at h1
  omega

set_option maxRecDepth 100000 in
set_option maxHeartbeats 4000000 in
theorem findI_any (A : Option Addr) (m c : Nat) (l : List Item) (s : ByteArray) (w : World) (hl : l.length = m) (hm : m ≤ 1000000) (hr : Rd w A (itemCells l)) (hs : s.size ≤ 1000000) :
    Calls Try.prog 52 #[.slice A m c, .string s] w fun e w' => e = .returned (.tuple #[.int .i64 ((findW l s.data.toList).1 : Int), .int .i64 ((findW l s.data.toList).2.1 : Int), .bool (findW l s.data.toList).2.2]) ∧ Below w.heap.size w w' := by
  have HL := hid hl
  have HR0 := hid hr
  have HSZ := hid (size_list s)
  have C2 := hid (compileB_any A m c l w hl (by omega) hr)
  obtain ⟨⟨r1, r2, r3⟩, hR⟩ : ∃ R, findW l s.data.toList = R := ⟨_, rfl⟩
  have HR := hid hR
  rw [hR]
  simp only
  clear hR hl hr
  go_enter Try.func52, Try.ntmps52
  go_wp2_with fail
  refine C2.out.mono ?_
  rintro en w2 ⟨hres, hb2⟩
  have HB2 := hid hb2
  clear C2 hb2
  rcases hres with ⟨hg, rfl⟩ | ⟨hg, hmm, rfl⟩ | ⟨hg, hmm, g, rfl, ht2, hgl, -⟩
  · have e : r1 = 0 ∧ r2 = 0 ∧ r3 = false := by
      have := HR.out
      rw [findW, if_neg] at this
      · cases this; exact ⟨rfl, rfl, rfl⟩
      · rintro ⟨h, _⟩; rw [h] at hg; cases hg
    obtain ⟨rfl, rfl, rfl⟩ := e
    clear hg
    go_wp2_with fail
    go_ret3
    exact ⟨rfl, HB2.out⟩
  · have e : r1 = 0 ∧ r2 = 0 ∧ r3 = false := by
      have := HR.out
      rw [findW, if_neg] at this
      · cases this; exact ⟨rfl, rfl, rfl⟩
      · rintro ⟨_, h⟩; rw [h] at hmm; cases hmm
    obtain ⟨rfl, rfl, rfl⟩ := e
    clear hg hmm
    go_wp2_with fail
    go_ret3
    exact ⟨rfl, HB2.out⟩
  · have HM0 := hid hmm
    have HG := hid hg
    have hln := good_has _ hg
    have HHA := hid hln.1
    have h60 : m ≤ 60 := by have := hln.2; rw [HL.out] at this; omega
    have HLN : Hid (l.length ≤ 60) := by rw [Hid, HL.out]; exact h60
    have HE : Hid (firstM l s.data.toList = (r1, r2, r3)) := by
      have := HR.out
      rwa [findW, if_pos ⟨hg, hmm⟩] at this
    have HT := hid ht2
    have HST := hid (start_state l s.data.toList)
    have HE0 := hid (ends_zero l s.data.toList hmm)
    have C3 := hid (startC_any g l w2 HLN.out HT.out)
    obtain ⟨x0, hx0⟩ : ∃ x0, startW l = x0 := ⟨_, rfl⟩
    rw [hx0] at C3 HST
    clear hmm hg hln ht2 HR hx0
    go_wp2_with fail
    refine C3.out.mono ?_
    rintro en w3 ⟨rfl, rfl⟩
    clear C3
    go_wp2_with fail
    go_loopw [9, 24] (fun xv iv wr => ∃ (k : Nat) (x : BitVec 64), k ≤ s.size ∧ xv = w64 x ∧ iv = .int .i64 (k : Int) ∧ Hid (StateAt l s.data.toList k x) ∧ Hid (∀ j, j ≤ k → (endsAll l s.data.toList).getD j false = false) ∧ Below w.heap.size w wr ∧ Below w2.heap.size w2 wr) (fun _ iv _ => s.size - (intOf iv).toNat)
    case atStart => exact ⟨0, x0, by omega, rfl, rfl, HST.out, fun j hj => by obtain rfl : j = 0 := by omega
                                                                              exact HE0.out, HB2.out, Below.refl _ _⟩
    case round =>
      obtain ⟨k, x, hk, rfl, rfl, HSX, HNO, hbr, hbr2⟩ := hrel
      have HBR := hid hbr; have HBR2 := hid hbr2
      clear hbr hbr2
      by_cases hks : k < s.size
      · have HKB : Hid (k < s.data.toList.length) := by rw [Hid, HSZ.out]; exact hks
        have HNB : Hid (s.data.toList[k]'HKB.out = s[k]'hks) := rfl
        have HS2 := hid (seek_state l _ k x (by have := HLN.out; omega) HHA.out HKB.out HSX.out)
        rw [HNB.out] at HS2
        have HT2 := hid (HT.out.below HBR2.out)
        have C4 := hid (seek_any g l x (s[k]'hks).toNat wr HLN.out (UInt8.toNat_lt _) HT2.out)
        obtain ⟨x2, hx2⟩ : ∃ x2, seekW l x (s[k]'hks).toNat = x2 := ⟨_, rfl⟩
        rw [hx2] at C4 HS2
        have HD := hid (done_state l s.data.toList (k + 1) x2 (by have := HLN.out; omega) (by have := HKB.out; omega) HS2.out)
        clear hx2 HNB HSX HT
        go_wp2_with fail
        refine C4.out.mono ?_
        rintro en w4 ⟨rfl, hb4⟩
        have HB4 := hid (HBR.out.trans (hb4.mono HBR.out.size))
        have HB42 := hid (HBR2.out.trans (hb4.mono HBR2.out.size))
        have C5 := hid (done_any g l x2 w4 HLN.out (HT2.out.below hb4))
        clear C4 hb4 HBR HBR2 HT2
        go_wp2_with fail
        refine C5.out.mono ?_
        rintro en w5 ⟨rfl, hb5⟩
        have HB5 := hid (HB4.out.trans (hb5.mono HB4.out.size))
        have HB52 := hid (HB42.out.trans (hb5.mono HB42.out.size))
        clear C5 hb5 HB4 HB42
        cases hd : doneW l x2
        · have HNO2 : Hid (∀ j, j ≤ k + 1 → (endsAll l s.data.toList).getD j false = false) := by
            intro j hj
            rcases Nat.lt_or_ge k j with h | h
            · obtain rfl : j = k + 1 := by omega
              rw [← HD.out]; exact hd
            · exact HNO.out j h
          clear hd HD HNO HKB
          go_wp2_with fail
          go_roundw
          case rel => exact ⟨k + 1, x2, by omega, rfl, by go_num, HS2.out, HNO2.out, HB5.out, HB52.out⟩
          case measure => simp [intOf]; omega
        · have HFF := hid (find_first l s.data.toList k HKB.out HNO.out (by rw [← HD.out]; exact hd))
          have HFR : Hid (fromW l s.data.toList (k + 1) = fromM l s.data.toList (k + 1)) := by rw [Hid, fromW, if_pos ⟨HG.out, HM0.out⟩]
          have C6 := hid (fromI_any A m c l s (k + 1) w5 HL.out hm (HR0.out.below HB5.out) (by omega) hs)
          rw [HFR.out] at C6
          obtain ⟨⟨f1, f2⟩, hF⟩ : ∃ F, fromM l s.data.toList (k + 1) = F := ⟨_, rfl⟩
          rw [hF] at C6 HFF
          have HEQ : Hid (r1 = f1 ∧ r2 = k + 1 ∧ r3 = true ∧ f2 = true) := by
            have h1 := HFF.out.1
            rw [HE.out] at h1
            cases h1
            exact ⟨rfl, rfl, rfl, HFF.out.2⟩
          have hk1 : ((k + 1 : Nat) : Int) = (k : Int) + 1 := by omega
          simp only [hk1] at C6
          clear hd HD HNO HKB HFF HFR hF hk1
          go_wp2_with fail
          refine C6.out.mono ?_
          rintro en w6 ⟨rfl, hb6⟩
          have HB6 := hid (HB5.out.trans (hb6.mono HB5.out.size))
          clear C6 hb6
          obtain ⟨rfl, rfl, rfl, rfl⟩ := HEQ.out
          go_wp2_with fail
          go_ret3
          exact ⟨rfl, HB6.out⟩
      · have HEQ : Hid (r1 = 0 ∧ r2 = 0 ∧ r3 = false) := by
          have h1 := find_never l s.data.toList fun j hj => HNO.out j (by rw [HSZ.out] at hj; omega)
          rw [HE.out] at h1
          cases h1
          exact ⟨rfl, rfl, rfl⟩
        obtain ⟨rfl, rfl, rfl⟩ := HEQ.out
        go_wp2_with fail
        go_ret3
        exact ⟨rfl, HBR.out⟩

set_option maxHeartbeats 1000000 in
theorem findC_any (A : Option Addr) (m c : Nat) (l : List Item) (s : ByteArray) (w : World) (hl : l.length = m) (hm : m ≤ 1000000) (hr : Rd w A (itemCells l)) (hs : s.size ≤ 1000000) :
    Calls Try.prog 32 #[.slice A m c, .string s] w fun e w' => e = .returned (.tuple #[.int .i64 ((findW l s.data.toList).1 : Int), .int .i64 ((findW l s.data.toList).2.1 : Int), .bool (findW l s.data.toList).2.2]) ∧ Below w.heap.size w w' := by
  have C := hid (findI_any A m c l s w hl hm hr hs)
  obtain ⟨⟨r1, r2, r3⟩, hR⟩ : ∃ R, findW l s.data.toList = R := ⟨_, rfl⟩
  rw [hR] at C ⊢
  simp only at C ⊢
  clear hR hl
  go_enter Try.func32, Try.ntmps32
  go_wp2_with fail
  refine C.out.mono ?_
  rintro en w1 ⟨rfl, hb1⟩
  go_wp2_with fail
  go_ret3
  exact ⟨rfl, hb1⟩

theorem first_bounds (l : List Item) (w : List UInt8) : (firstM l w).1 ≤ (firstM l w).2.1 ∧ (firstM l w).2.1 ≤ w.length := by
  unfold firstM
  cases hi : idxB true (endsAll l w) with
  | none => simp
  | some tt =>
    obtain ⟨h1, h2⟩ := starts_some l w tt hi
    refine ⟨?_, h1⟩
    cases hs : startsM l w tt with
    | nil => exact absurd hs h2
    | cons a r =>
      have : a ∈ startsM l w tt := by rw [hs]; exact List.mem_cons_self
      show (startsM l w tt).headD 0 ≤ tt
      rw [hs]; exact ((mem_startsM l w tt a).1 this).1
theorem findW_bounds (l : List Item) (w : List UInt8) : (findW l w).1 ≤ (findW l w).2.1 ∧ (findW l w).2.1 ≤ w.length := by
  unfold findW
  split
  · exact first_bounds l w
  · simp
/-- What Text tells. -/
def textW (p s : ByteArray) : ByteArray × Bool := if (parseM p).2.2 = 0 then (s.extract (findW (parseM p).1 s.data.toList).1 (findW (parseM p).1 s.data.toList).2.1, (findW (parseM p).1 s.data.toList).2.2) else (⟨#[]⟩, false)

set_option maxHeartbeats 1000000 in
theorem textC_any (p s : ByteArray) (w : World) (hp : p.size ≤ 1000000) (hs : s.size ≤ 1000000) :
    Calls Try.prog 22 #[.string p, .string s] w fun e w' => e = .returned (.tuple #[.string (textW p s).1, .bool (textW p s).2]) ∧ Below w.heap.size w w' := by
  have C1 := hid (parse_any p hp w)
  have HSZ := hid (size_list s)
  have HLN := hid (parseM_len' p)
  obtain ⟨⟨t1, t2⟩, hT⟩ : ∃ T, textW p s = T := ⟨_, rfl⟩
  have HT := hid hT
  rw [hT]
  simp only
  clear hT
  rw [textW] at HT
  obtain ⟨⟨l, a, e⟩, hR⟩ : ∃ R, parseM p = R := ⟨_, rfl⟩
  rw [hR] at C1 HT HLN
  simp only at HT HLN
  obtain ⟨n, hn⟩ : ∃ n, l.length = n := ⟨_, rfl⟩
  have HN := hid hn
  rw [hn] at HLN
  have hn60 : n ≤ 60 := HLN.out
  clear hR
  go_enter Try.func22, Try.ntmps22
  go_wp2_with fail
  refine C1.out.mono ?_
  rintro en w1 ⟨A1, c1, rfl, hown1, hb1⟩
  simp only at hown1
  have HR1 := hid (Rd_of_own hown1)
  have HB1 := hid hb1
  clear hown1 hb1 C1
  simp only [hn]
  clear hn
  by_cases he : e = 0
  · subst he
    have C2 := hid (findI_any A1 n c1 l s w1 HN.out (by omega) HR1.out hs)
    have HBD := hid (findW_bounds l s.data.toList)
    obtain ⟨⟨r1, r2, r3⟩, hR⟩ : ∃ R, findW l s.data.toList = R := ⟨_, rfl⟩
    rw [hR] at C2 HT HBD
    simp only [if_true] at C2 HT HBD
    rw [HSZ.out] at HBD
    have hb1 : r1 ≤ r2 := HBD.out.1
    have hb2 : r2 ≤ s.size := HBD.out.2
    clear hR
    go_wp2_with fail
    refine C2.out.mono ?_
    rintro en w2 ⟨rfl, hb2'⟩
    have HB2 := hid (HB1.out.trans (hb2'.mono HB1.out.size))
    clear C2 hb2'
    go_wp2_with fail
    go_ret2
    have e1 := HT.out
    cases e1
    exact ⟨rfl, HB2.out⟩
  · have he0 : ((e : Int) == 0) = false := by rw [beq_eq_false_iff_ne]; omega
    rw [if_neg he] at HT
    obtain ⟨rfl, rfl⟩ : t1 = ⟨#[]⟩ ∧ t2 = false := by have := HT.out; cases this; exact ⟨rfl, rfl⟩
    clear HT
    go_wp2_with fail
    go_ret2
    exact ⟨rfl, HB1.out⟩

theorem live11 : textW ⟨#[97, 42, 98]⟩ ⟨#[120, 97, 97, 98]⟩ = (⟨#[97, 97, 98]⟩, true) := by kernel_rfl

set_option maxHeartbeats 1000000 in
theorem lives11_any (w : World) : Calls Try.prog 23 #[] w fun e w' => e = .returned (.bool true) ∧ Below w.heap.size w w' := by
  have C := hid (textC_any ⟨#[97, 42, 98]⟩ ⟨#[120, 97, 97, 98]⟩ w (by decide) (by decide))
  rw [live11] at C
  go_enter Try.func23, Try.ntmps23
  go_wp2_with fail
  refine C.out.mono ?_
  rintro en w1 ⟨rfl, hb1⟩
  go_wp2_with fail
  go_ret
  exact ⟨rfl, hb1⟩
end Go.Proofs.Ytgiffdgicmdmgaa
