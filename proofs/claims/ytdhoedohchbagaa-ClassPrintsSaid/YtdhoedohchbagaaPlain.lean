/- Plain laws of patterns: what 'ends' computes is what patterns mean. No program in sight. -/
import Derived.Test.YtdhoedohchbagaaMod
namespace Go.Proofs.Ytdhoedohchbagaa
open Go.RowKit

/-- What patterns mean: item by item. -/
def matchR : List Item → List UInt8 → Bool
  | [], s => s.isEmpty
  | x :: l, s => if x.run then (List.range (s.length + 1)).any (fun i => matchR l (s.drop i)) else
      match s with
      | [] => false
      | c :: r => x.set.has c.toNat && matchR l r

def sub (s : List UInt8) (i j : Nat) : List UInt8 := (s.drop i).take (j - i)

theorem stepRun_spec (p : Bool) (L : List Bool) (i : Nat) : (stepRun p L).getD i false = true ↔ i < L.length ∧ (p = true ∨ ∃ k, k ≤ i ∧ L.getD k false = true) := by
  induction L generalizing p i with
  | nil => simp [stepRun]
  | cons a r ih =>
    cases i with
    | zero =>
      simp only [stepRun, List.getD_cons_zero, Bool.or_eq_true, List.length_cons]
      constructor
      · rintro (h | h)
        · exact ⟨by omega, .inr ⟨0, by omega, by simpa using h⟩⟩
        · exact ⟨by omega, .inl h⟩
      · rintro ⟨_, h | ⟨k, hk, h⟩⟩
        · exact .inr h
        · obtain rfl : k = 0 := by omega
          exact .inl (by simpa using h)
    | succ i =>
      simp only [stepRun, List.getD_cons_succ, ih, List.length_cons, Bool.or_eq_true]
      constructor
      · rintro ⟨h1, (h | h) | ⟨k, hk, h⟩⟩
        · exact ⟨by omega, .inr ⟨0, by omega, by simpa using h⟩⟩
        · exact ⟨by omega, .inl h⟩
        · exact ⟨by omega, .inr ⟨k + 1, by omega, by simpa using h⟩⟩
      · rintro ⟨h1, h | ⟨k, hk, h⟩⟩
        · exact ⟨by omega, .inl (.inr h)⟩
        · cases k with
          | zero => exact ⟨by omega, .inl (.inl (by simpa using h))⟩
          | succ k => exact ⟨by omega, .inr ⟨k, by omega, by simpa using h⟩⟩

theorem sub_self (s : List UInt8) (j : Nat) : sub s j j = [] := by simp [sub]
theorem sub_length (s : List UInt8) (i j : Nat) (h : j ≤ s.length) : (sub s i j).length = j - i := by simp [sub]; omega
theorem sub_drop (s : List UInt8) (i j k : Nat) : (sub s i j).drop k = sub s (i + k) j := by
  unfold sub
  rw [List.drop_take, List.drop_drop]; congr 1; omega
theorem sub_cons (s : List UInt8) (i j : Nat) (h : i < j) (hj : j ≤ s.length) : sub s i j = s[i] :: sub s (i + 1) j := by
  unfold sub
  rw [List.drop_eq_getElem_cons (by omega), show j - i = (j - (i + 1)) + 1 from by omega, List.take_succ_cons]

/-- What 'ends' tells of a place. -/
theorem ends_spec (l : List Item) (s : List UInt8) (a : List Bool) (ha : a.length = s.length + 1) (j : Nat) (hj : j ≤ s.length) :
    (endsM l s a).getD j false = true ↔ ∃ i, i ≤ j ∧ a.getD i false = true ∧ matchR l (sub s i j) = true := by
  induction l generalizing a with
  | nil =>
    simp only [endsM, List.foldl_nil, matchR, List.isEmpty_iff]
    constructor
    · intro h; exact ⟨j, Nat.le_refl _, h, sub_self s j⟩
    · rintro ⟨i, hi, h, e⟩
      have := sub_length s i j hj
      rw [e] at this; simp at this
      obtain rfl : i = j := by omega
      exact h
  | cons x l ih =>
    have hl := stepM_length x s a ha
    rw [show endsM (x :: l) s a = endsM l s (stepM x s a) from rfl, ih _ hl]
    cases hr : x.run
    · constructor
      · rintro ⟨i, hi, h, hm⟩
        cases i with
        | zero => rw [List.getD, stepM_set0 x s a hr] at h; simp at h
        | succ i =>
          rw [List.getD, stepM_set x s a hr i (by omega) ha] at h
          simp only [Option.getD_some, Bool.and_eq_true] at h
          refine ⟨i, by omega, ?_, ?_⟩
          · rw [List.getD, List.getElem?_eq_getElem (by omega)]; exact h.1
          · rw [sub_cons s i j (by omega) hj]
            simp [matchR, hr, h.2, hm]
      · rintro ⟨i, hi, h, hm⟩
        by_cases hij : i < j
        · rw [sub_cons s i j hij hj] at hm
          simp only [matchR, hr, Bool.false_eq_true, if_false, Bool.and_eq_true] at hm
          refine ⟨i + 1, by omega, ?_, hm.2⟩
          rw [List.getD, stepM_set x s a hr i (by omega) ha]
          rw [List.getD, List.getElem?_eq_getElem (by omega)] at h
          simp only [Option.getD_some] at h ⊢
          rw [h, hm.1]; rfl
        · obtain rfl : i = j := by omega
          rw [sub_self] at hm
          simp [matchR, hr] at hm
    · have hst : ∀ i, (stepM x s a).getD i false = true ↔ i < a.length ∧ ∃ k, k ≤ i ∧ a.getD k false = true := by
        intro i
        rw [stepM, if_pos hr, stepRun_spec]; simp
      constructor
      · rintro ⟨i, hi, h, hm⟩
        obtain ⟨_, k, hk, hak⟩ := (hst i).1 h
        refine ⟨k, by omega, hak, ?_⟩
        simp only [matchR, hr, if_true, List.any_eq_true, List.mem_range]
        exact ⟨i - k, by rw [sub_length s k j hj]; omega, by rw [sub_drop, show k + (i - k) = i from by omega]; exact hm⟩
      · rintro ⟨k, hk, hak, hm⟩
        simp only [matchR, hr, if_true, List.any_eq_true, List.mem_range] at hm
        obtain ⟨d, hd, hm⟩ := hm
        rw [sub_length s k j hj] at hd
        rw [sub_drop] at hm
        exact ⟨k + d, by omega, (hst _).2 ⟨by omega, k, by omega, hak⟩, hm⟩

theorem placesM_get (n : Nat) (one : Int) (all : Bool) (i : Nat) : (placesM n one all).getD i false = true ↔ i < n ∧ (all = true ∨ (i : Int) = one) := by
  unfold placesM
  by_cases h : i < n
  · simp [List.getD, h]
  · simp [List.getD, h]

/-- Whether a pattern matches all of a text, as the program computes it. -/
def matchM (l : List Item) (s : List UInt8) : Bool := (endsM l s (placesM (s.length + 1) 0 false)).getD s.length false
theorem matchM_eq (l : List Item) (s : List UInt8) : matchM l s = matchR l s := by
  rw [Bool.eq_iff_iff]
  unfold matchM
  rw [ends_spec l s _ (by simp [placesM]) s.length (Nat.le_refl _)]
  constructor
  · rintro ⟨i, _, h, hm⟩
    rw [placesM_get] at h
    obtain ⟨_, h | h⟩ := h
    · cases h
    · obtain rfl : i = 0 := by omega
      simpa [sub] using hm
  · intro h
    exact ⟨0, by omega, (placesM_get _ _ _ _).2 ⟨by omega, .inr rfl⟩, by simpa [sub] using h⟩

/-- One pattern behind another one. -/
theorem matchR_append (l m : List Item) (s : List UInt8) : matchR (l ++ m) s = true ↔ ∃ i, i ≤ s.length ∧ matchR l (s.take i) = true ∧ matchR m (s.drop i) = true := by
  induction l generalizing s with
  | nil =>
    constructor
    · intro h; exact ⟨0, by omega, rfl, by simpa using h⟩
    · rintro ⟨i, hi, h, hm⟩
      have h0 : s.take i = [] := by simpa [matchR] using h
      have : (s.take i).length = i := by simp; omega
      rw [h0] at this; simp at this
      subst this; simpa using hm
  | cons x l ih =>
    rw [List.cons_append]
    cases hr : x.run
    · cases s with
      | nil => simp [matchR, hr]
      | cons c r =>
        simp only [matchR, hr, Bool.false_eq_true, if_false, Bool.and_eq_true, ih]
        constructor
        · rintro ⟨hc, i, hi, h1, h2⟩
          exact ⟨i + 1, by simp; omega, by simp [hc, h1], by simpa using h2⟩
        · rintro ⟨i, hi, h1, h2⟩
          cases i with
          | zero => simp at h1
          | succ i =>
            simp only [List.take_succ_cons, Bool.and_eq_true] at h1
            exact ⟨h1.1, i, by simpa using hi, h1.2, by simpa using h2⟩
    · simp only [matchR, hr, if_true, List.any_eq_true, List.mem_range, ih]
      constructor
      · rintro ⟨d, hd, i, hi, h1, h2⟩
        simp only [List.length_drop] at hi
        refine ⟨d + i, by omega, ⟨d, by simp; omega, ?_⟩, by rw [← List.drop_drop]; exact h2⟩
        rw [List.drop_take]; rw [show d + i - d = i from by omega]; exact h1
      · rintro ⟨i, hi, ⟨d, hd, h1⟩, h2⟩
        simp only [List.length_take] at hd
        refine ⟨d, by omega, i - d, by simp; omega, ?_, ?_⟩
        · rw [List.drop_take] at h1; exact h1
        · rw [List.drop_drop, show d + (i - d) = i from by omega]; exact h2

/-- The place of the first Bool that is v. -/
def idxB (v : Bool) : List Bool → Option Nat
  | [] => none
  | a :: r => if a == v then some 0 else (idxB v r).map (· + 1)
theorem idxB_drop (v : Bool) (L : List Bool) (k : Nat) (h : k < L.length) : idxB v (L.drop k) = if L[k] == v then some 0 else (idxB v (L.drop (k + 1))).map (· + 1) := by
  rw [List.drop_eq_getElem_cons h]; rfl
theorem idxB_some (v : Bool) (L : List Bool) (k : Nat) : idxB v L = some k ↔ k < L.length ∧ L.getD k (!v) = v ∧ ∀ j, j < k → L.getD j v ≠ v := by
  induction L generalizing k with
  | nil => simp [idxB]
  | cons a r ih =>
    unfold idxB
    by_cases ha : a = v
    · subst ha
      simp only [beq_self_eq_true, if_true, Option.some.injEq]
      constructor
      · rintro rfl; simp
      · rintro ⟨h1, h2, h3⟩
        cases k with
        | zero => rfl
        | succ k => exact absurd rfl (h3 0 (by omega))
    · have : (a == v) = false := by simpa using ha
      simp only [this, Bool.false_eq_true, if_false, Option.map_eq_some_iff]
      constructor
      · rintro ⟨j, hj, rfl⟩
        obtain ⟨h1, h2, h3⟩ := (ih j).1 hj
        refine ⟨by simpa using h1, by simpa using h2, fun i hi => ?_⟩
        cases i with
        | zero => simpa using ha
        | succ i => simpa using h3 i (by omega)
      · rintro ⟨h1, h2, h3⟩
        cases k with
        | zero => simp at h2; exact absurd h2 ha
        | succ k => exact ⟨k, (ih k).2 ⟨by simpa using h1, by simpa using h2, fun j hj => by simpa using h3 (j + 1) (by omega)⟩, rfl⟩
theorem idxB_none (v : Bool) (L : List Bool) : idxB v L = none ↔ ∀ j, j < L.length → L.getD j v ≠ v := by
  induction L with
  | nil => simp [idxB]
  | cons a r ih =>
    unfold idxB
    by_cases ha : a = v
    · subst ha
      simp only [beq_self_eq_true, if_true, reduceCtorEq, false_iff]
      intro h; exact h 0 (by simp) rfl
    · have : (a == v) = false := by simpa using ha
      simp only [this, Bool.false_eq_true, if_false, Option.map_eq_none_iff, ih]
      constructor
      · intro h j hj
        cases j with
        | zero => simpa using ha
        | succ j => simpa using h j (by simpa using hj)
      · intro h j hj
        simpa using h (j + 1) (by simpa using hj)

/-- All places from which a pattern occurs to one. -/
def startsTo (l : List Item) (w : List UInt8) (to k : Nat) : List Nat := (List.range k).filter fun i => matchM l (sub w i to)
def startsM (l : List Item) (w : List UInt8) (to : Nat) : List Nat := startsTo l w to (to + 1)
theorem startsTo_succ (l : List Item) (w : List UInt8) (to k : Nat) : startsTo l w to (k + 1) = startsTo l w to k ++ if matchM l (sub w k to) then [k] else [] := by
  unfold startsTo; rw [List.range_succ, List.filter_append]; simp [List.filter_cons]
theorem startsTo_length (l : List Item) (w : List UInt8) (to k : Nat) : (startsTo l w to k).length ≤ k := Nat.le_trans (List.length_filter_le _ _) (by simp)
def optI : Option Nat → Int | none => -1 | some k => k
def endsAll (l : List Item) (w : List UInt8) : List Bool := endsM l w (placesM (w.length + 1) 0 true)
def firstM (l : List Item) (w : List UInt8) : Nat × Nat × Bool :=
  match idxB true (endsAll l w) with
  | none => (0, 0, false)
  | some to => ((startsM l w to).headD 0, to, true)

theorem endsAll_length (l : List Item) (w : List UInt8) : (endsAll l w).length = w.length + 1 := endsM_length l w _ (by simp [placesM])
theorem endsAll_spec (l : List Item) (w : List UInt8) (j : Nat) (hj : j ≤ w.length) : (endsAll l w).getD j false = true ↔ ∃ i, i ≤ j ∧ matchR l (sub w i j) = true := by
  unfold endsAll
  rw [ends_spec l w _ (by simp [placesM]) j hj]
  constructor
  · rintro ⟨i, h1, _, h3⟩; exact ⟨i, h1, h3⟩
  · rintro ⟨i, h1, h3⟩; exact ⟨i, h1, (placesM_get _ _ _ _).2 ⟨by omega, .inl rfl⟩, h3⟩
theorem mem_startsM (l : List Item) (w : List UInt8) (to i : Nat) : i ∈ startsM l w to ↔ i ≤ to ∧ matchR l (sub w i to) = true := by
  simp [startsM, startsTo, matchM_eq]; omega
theorem starts_some (l : List Item) (w : List UInt8) (to : Nat) (h : idxB true (endsAll l w) = some to) : to ≤ w.length ∧ startsM l w to ≠ [] := by
  obtain ⟨h1, h2, _⟩ := (idxB_some _ _ _).1 h
  rw [endsAll_length] at h1
  obtain ⟨i, hi, hm⟩ := (endsAll_spec l w to (by omega)).1 h2
  exact ⟨by omega, List.ne_nil_of_mem ((mem_startsM l w to i).2 ⟨hi, hm⟩)⟩

/-! ### Where a pattern occurs first does not hang on what comes later -/
theorem sub_app (w m : List UInt8) (i j : Nat) (h : j ≤ w.length) : sub (w ++ m) i j = sub w i j := by
  unfold sub
  by_cases hi : i ≤ j
  · rw [List.drop_append_of_le_length (by omega), List.take_append_of_le_length (by simp; omega)]
  · rw [show j - i = 0 from by omega]; simp
theorem startsM_app (l : List Item) (w m : List UInt8) (to : Nat) (h : to ≤ w.length) : startsM l (w ++ m) to = startsM l w to := by
  unfold startsM startsTo
  refine List.filter_congr fun i _ => ?_
  rw [sub_app w m i to h]
theorem getD_tf {L : List Bool} {j : Nat} (h : j < L.length) : (L.getD j true ≠ true) ↔ ¬ L.getD j false = true := by
  simp [List.getD, h]
theorem first_app (l : List Item) (w m : List UInt8) (k : Nat) (h : idxB true (endsAll l w) = some k) : idxB true (endsAll l (w ++ m)) = some k := by
  obtain ⟨h1, h2, h3⟩ := (idxB_some _ _ _).1 h
  have e1 := endsAll_length l w
  have e2 := endsAll_length l (w ++ m)
  rw [List.length_append] at e2
  have key : ∀ j, j ≤ w.length → ((endsAll l (w ++ m)).getD j false = true ↔ (endsAll l w).getD j false = true) := by
    intro j hj
    rw [endsAll_spec l w j hj, endsAll_spec l (w ++ m) j (by simp; omega)]
    constructor
    · rintro ⟨i, hi, hm⟩; exact ⟨i, hi, by rwa [sub_app w m i j hj] at hm⟩
    · rintro ⟨i, hi, hm⟩; exact ⟨i, hi, by rwa [sub_app w m i j hj]⟩
  refine (idxB_some _ _ _).2 ⟨by omega, (key k (by omega)).2 h2, fun j hj => ?_⟩
  rw [getD_tf (by omega), key j (by omega), ← getD_tf (by omega)]
  exact h3 j hj
theorem first_late (l : List Item) (w m : List UInt8) (k : Nat) (h : idxB true (endsAll l w) = none) (h2 : idxB true (endsAll l (w ++ m)) = some k) : w.length < k := by
  rcases Nat.lt_or_ge w.length k with hlt | hge
  · exact hlt
  · exfalso
    obtain ⟨h1, hk, _⟩ := (idxB_some _ _ _).1 h2
    have e1 := endsAll_length l w
    have hn := (idxB_none _ _).1 h k (by omega)
    rw [getD_tf (by omega)] at hn
    apply hn
    obtain ⟨i, hi, hm⟩ := (endsAll_spec l (w ++ m) k (by simp; omega)).1 hk
    exact (endsAll_spec l w k hge).2 ⟨i, hi, by rwa [sub_app w m i k hge] at hm⟩
theorem stays_law (l : List Item) (w m : List UInt8) : ((firstM l w).2.2 = true → firstM l (w ++ m) = firstM l w) ∧ ((firstM l w).2.2 = false → (firstM l (w ++ m)).2.2 = true → w.length < (firstM l (w ++ m)).2.1) := by
  unfold firstM
  cases h : idxB true (endsAll l w) with
  | none =>
    refine ⟨fun hh => by simp at hh, fun _ => ?_⟩
    cases h2 : idxB true (endsAll l (w ++ m)) with
    | none => intro hh; simp at hh
    | some k => intro _; exact first_late l w m k h h2
  | some k =>
    refine ⟨fun _ => ?_, fun hh => by simp at hh⟩
    have hk := (starts_some l w k h).1
    rw [first_app l w m k h]
    simp only [startsM_app l w m k hk]

/-! ### A pattern that may match matches a text as short as it says -/
theorem shortOf_set (x : Item) (hr : x.run = false) (hv : (bytesM x.set).isEmpty = false) : ∃ c, shortOf x = [c] ∧ x.set.has c.toNat = true := by
  cases hb : (bytesM x.set).reverse with
  | nil => have := congrArg List.length hb; simp at this; rw [this] at hv; simp at hv
  | cons c r =>
    have e : bytesM x.set = r.reverse ++ [c] := by have := congrArg List.reverse hb; simpa using this
    refine ⟨c, ?_, (mem_bytesM _ _).1 (by rw [e]; simp)⟩
    unfold shortOf
    rw [if_neg (by simp [hr]), e]; simp
theorem short_matches (l : List Item) (h : voidM l = false) : matchR l (shortM l) = true ∧ (shortM l).length = leastM l := by
  induction l with
  | nil => exact ⟨rfl, rfl⟩
  | cons x l ih =>
    unfold voidM at h
    rw [List.any_cons, Bool.or_eq_false_iff] at h
    obtain ⟨h1, h2⟩ := ih h.2
    have es : shortM (x :: l) = shortOf x ++ shortM l := rfl
    cases hr : x.run
    · obtain ⟨c, hc, hh⟩ := shortOf_set x hr (by have := h.1; rw [hr] at this; simpa using this)
      rw [es, hc]
      refine ⟨by simp [matchR, hr, hh, h1], ?_⟩
      have : leastM (x :: l) = leastM l + 1 := by simp [leastM, hr]
      rw [this, ← h2]; simp
    · have e0 : shortOf x = [] := by unfold shortOf; rw [if_pos hr]
      rw [es, e0, List.nil_append]
      have : leastM (x :: l) = leastM l := by simp [leastM, hr]
      rw [this]
      refine ⟨?_, h2⟩
      simp only [matchR, hr, if_true, List.any_eq_true, List.mem_range]
      exact ⟨0, by omega, by simpa using h1⟩
theorem exact_length (l : List Item) (s : List UInt8) (hr : l.any (fun x => x.run) = false) (h : matchR l s = true) : s.length = leastM l := by
  induction l generalizing s with
  | nil => have : s = [] := by simpa [matchR] using h
           rw [this]; rfl
  | cons x l ih =>
    rw [List.any_cons, Bool.or_eq_false_iff] at hr
    cases s with
    | nil => simp [matchR, hr.1] at h
    | cons c r =>
      simp only [matchR, hr.1, Bool.false_eq_true, if_false, Bool.and_eq_true] at h
      have := ih r hr.2 h.2
      simp [leastM, hr.1] at this ⊢; exact this

/-- Behind k places: the text is cut at one of them into what the two patterns match. -/
def anyTo (l m : List Item) (s : List UInt8) (k : Nat) : Bool := (List.range k).any fun i => matchM l (s.take i) && matchM m (s.drop i)
theorem anyTo_succ (l m : List Item) (s : List UInt8) (k : Nat) : anyTo l m s (k + 1) = (anyTo l m s k || (matchM l (s.take k) && matchM m (s.drop k))) := by
  unfold anyTo; rw [List.range_succ, List.any_append]; simp
theorem joins_law (l m : List Item) (s : List UInt8) : matchM (l ++ m) s = anyTo l m s (s.length + 1) := by
  rw [Bool.eq_iff_iff, matchM_eq, matchR_append]
  simp only [anyTo, List.any_eq_true, List.mem_range, Bool.and_eq_true, matchM_eq]
  constructor
  · rintro ⟨i, hi, h⟩; exact ⟨i, by omega, h⟩
  · rintro ⟨i, hi, h⟩; exact ⟨i, by omega, h⟩

end Go.Proofs.Ytdhoedohchbagaa
