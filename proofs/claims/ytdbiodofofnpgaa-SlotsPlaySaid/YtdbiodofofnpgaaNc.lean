/- Slots as a list in plain Lean: who is in which slot, by their numbers. Slots as an object: what each call tells, over the list. The shelf's layings of 'slices.Sorted(maps.Keys(m))', keys of an integer's kind, at this program (numbers of seat r5); Live. Slots as an object: Who, Free, Live. -/
import Derived.Test.YtdbiodofofnpgaaNb
import Derived.Lib.SlKeysI
import Derived.Shelf.SlIterI.Nil
import Derived.Shelf.SortM.Plain
import Derived.Shelf.SortM.SortNone
namespace Go.Proofs.Ytdbiodofofnpgaa
open Go.RowKit Go.Maps

abbrev SlL := List (Nat × Nat)
def sEnt (x : Nat × Nat) : Lit × DataW Unit := (.int .i64 (x.1 : Int), .lit (.int .i64 (x.2 : Int)))
def mapL (L : SlL) : DataW Unit := .map (L.map sEnt)
def whoAt (L : SlL) (k : Nat) : Int := match L.find? (fun x => x.2 == k) with
  | some x => (x.1 : Int)
  | none => -1
def whoL (m : Nat) (L : SlL) : List Int := (List.range m).map (whoAt L)
structure LOk (m : Nat) (L : SlL) (next : Nat) : Prop where
  ids : L.Pairwise (fun a b => a.1 < b.1)
  lt : ∀ x ∈ L, x.1 < next ∧ x.2 < m
  slots : L.Pairwise (fun a b => a.2 ≠ b.2)
def slotL (L : SlL) (id : Int) : Option Nat := (L.find? (fun x => decide ((x.1 : Int) = id))).map Prod.snd
def closeL (L : SlL) (id : Int) : SlL := L.filter fun x => !decide ((x.1 : Int) = id)
def freeL (m : Nat) (L : SlL) : Option Nat := idxI (-1) (whoL m L)

theorem LOk.nil (m : Nat) : LOk m [] 0 := ⟨List.Pairwise.nil, fun x h => by simp at h, List.Pairwise.nil⟩
theorem whoAt_nil (k : Nat) : whoAt [] k = -1 := rfl
theorem whoAt_cons (x : Nat × Nat) (L : SlL) (k : Nat) : whoAt (x :: L) k = if x.2 = k then (x.1 : Int) else whoAt L k := by
  unfold whoAt
  rw [List.find?_cons]
  by_cases h : x.2 = k
  · simp [h]
  · have e : (x.2 == k) = false := by rw [beq_eq_false_iff_ne]; exact h
    simp only [e, if_neg h]
theorem whoAt_ge (L : SlL) (k : Nat) : -1 ≤ whoAt L k := by
  unfold whoAt
  split <;> omega
theorem whoL_length (m : Nat) (L : SlL) : (whoL m L).length = m := by simp [whoL]
theorem whoL_get (m : Nat) (L : SlL) (k : Nat) (h : k < m) : (whoL m L)[k]'(by rw [whoL_length]; exact h) = whoAt L k := by simp [whoL]
theorem whoL_nil (m : Nat) : whoL m [] = List.replicate m (-1) := by
  apply List.ext_getElem
  · simp [whoL]
  · intro i h1 h2; simp [whoL, whoAt_nil]
theorem sameI (a b : Int) : (Lit.int .i64 a).sameKey (.int .i64 b) = decide (a = b) := by simp [Lit.sameKey]
theorem mapL_has (L : SlL) (id : Int) : Maps.has (mapL L) (.int .i64 id) = (slotL L id).isSome := by
  unfold mapL slotL
  rw [has_eq]
  induction L with
  | nil => rfl
  | cons x L ih =>
    rw [List.map_cons, List.any_cons, ih, List.find?_cons]
    show ((Lit.int .i64 (x.1 : Int)).sameKey (.int .i64 id) || _) = _
    rw [sameI]
    by_cases h : (x.1 : Int) = id
    · simp [h]
    · simp [h]
theorem mapL_at (L : SlL) (id : Int) (z : DataW Unit) : (mapL L).atKey (.int .i64 id) z = match slotL L id with
    | some k => .lit (.int .i64 (k : Int))
    | none => z := by
  unfold mapL slotL DataW.atKey
  dsimp only
  induction L with
  | nil => rfl
  | cons x L ih =>
    rw [List.map_cons, List.find?_cons, List.find?_cons]
    have e : (sEnt x).1.sameKey (.int .i64 id) = decide ((x.1 : Int) = id) := sameI _ _
    rw [e]
    by_cases h : (x.1 : Int) = id
    · simp [h]; rfl
    · simp only [h, decide_false]; exact ih
theorem mapL_size (L : SlL) : Maps.size (mapL L) = L.length := by simp [mapL, size_eq]
theorem mapL_del (L : SlL) (id : Int) : (mapL L).del (.int .i64 id) = mapL (closeL L id) := by
  unfold mapL closeL DataW.del
  dsimp only
  congr 1
  induction L with
  | nil => rfl
  | cons x L ih =>
    rw [List.map_cons, List.filter_cons, List.filter_cons, ih]
    have e : (sEnt x).1.sameKey (.int .i64 id) = decide ((x.1 : Int) = id) := sameI _ _
    rw [e]
    by_cases h : (x.1 : Int) = id
    · simp [h]
    · simp [h]
theorem insert_last (x : Lit × DataW Unit) (l : List (Lit × DataW Unit)) (h : ∀ y ∈ l, x.1.before y.1 = false) : DataW.insert x l = l ++ [x] := by
  induction l with
  | nil => rfl
  | cons y l ih =>
    have := h y (List.mem_cons_self ..)
    unfold DataW.insert
    rw [this]
    simp [ih (fun z hz => h z (List.mem_cons_of_mem _ hz))]
theorem mapL_put (L : SlL) (next k : Nat) (h : ∀ x ∈ L, x.1 < next) : (mapL L).put (.int .i64 (next : Int)) (.lit (.int .i64 (k : Int))) = mapL (L ++ [(next, k)]) := by
  unfold mapL DataW.put
  dsimp only
  congr 1
  rw [List.map_append]
  have e : (L.map sEnt).filter (fun p => !p.1.sameKey (.int .i64 (next : Int))) = L.map sEnt := by
    rw [List.filter_eq_self]
    intro y hy
    obtain ⟨x, hx, rfl⟩ := List.mem_map.1 hy
    have := h x hx
    have e : (sEnt x).1.sameKey (.int .i64 (next : Int)) = decide ((x.1 : Int) = (next : Int)) := sameI _ _
    rw [e]; simp; omega
  rw [e, insert_last]
  · rfl
  · intro y hy
    obtain ⟨x, hx, rfl⟩ := List.mem_map.1 hy
    have := h x hx
    show decide ((next : Int) < (x.1 : Int)) = false
    simp; omega
theorem whoAt_none {L : SlL} {k : Nat} : whoAt L k = -1 ↔ ∀ x ∈ L, x.2 ≠ k := by
  induction L with
  | nil => simp [whoAt_nil]
  | cons x L ih =>
    rw [whoAt_cons]
    by_cases h : x.2 = k
    · first | (simp [h]; done) | (simp [h]; omega)
    · simp [h, ih]
theorem whoAt_append (L : SlL) (y : Nat × Nat) (k : Nat) (h : ∀ x ∈ L, x.2 ≠ y.2) : whoAt (L ++ [y]) k = if y.2 = k then (y.1 : Int) else whoAt L k := by
  induction L with
  | nil => rw [List.nil_append, whoAt_cons, whoAt_nil]
  | cons x L ih =>
    rw [List.cons_append, whoAt_cons, ih (fun z hz => h z (List.mem_cons_of_mem _ hz)), whoAt_cons]
    have := h x (List.mem_cons_self ..)
    by_cases h1 : y.2 = k
    · rw [if_pos h1, if_neg (by omega), if_pos h1]
    · rw [if_neg h1, if_neg h1]
theorem whoL_put (m : Nat) (L : SlL) (next k : Nat) (h : ∀ x ∈ L, x.2 ≠ k) : (whoL m L).set k (next : Int) = whoL m (L ++ [(next, k)]) := by
  apply List.ext_getElem
  · simp [whoL]
  · intro i h1 h2
    have hi : i < m := by simpa [whoL] using h2
    rw [List.getElem_set, whoL_get _ _ _ hi, whoL_get _ _ _ hi, whoAt_append _ _ _ h]
theorem whoAt_close {m next : Nat} {L : SlL} (hL : LOk m L next) (id : Int) (k j : Nat) (hk : slotL L id = some k) : whoAt (closeL L id) j = if k = j then -1 else whoAt L j := by
  obtain ⟨h1, h2, h3⟩ := hL
  unfold slotL at hk
  induction L with
  | nil => simp at hk
  | cons x L ih =>
    rw [List.find?_cons] at hk
    rw [List.pairwise_cons] at h1 h3
    unfold closeL
    rw [List.filter_cons]
    by_cases h : (x.1 : Int) = id
    · simp only [h, decide_true, Option.map_some, Option.some.injEq] at hk
      have e : L.filter (fun x => !decide ((x.1 : Int) = id)) = L := by
        rw [List.filter_eq_self]
        intro y hy
        have := h1.1 y hy
        simp; omega
      simp only [h, decide_true, Bool.not_true, Bool.false_eq_true, if_false, e, whoAt_cons, hk]
      by_cases hj : k = j
      · rw [if_pos hj, whoAt_none]
        intro y hy; have := h3.1 y hy; omega
      · rw [if_neg hj, if_neg hj]
    · simp only [h, decide_false] at hk
      simp only [h, decide_false, Bool.not_false, if_true, whoAt_cons]
      have := ih hk h1.2 (fun y hy => h2 y (List.mem_cons_of_mem _ hy)) h3.2
      unfold closeL at this
      rw [this]
      have hkm : ∃ y ∈ L, y.2 = k := by
        rcases e : L.find? (fun x => decide ((x.1 : Int) = id)) with _ | y
        · rw [e] at hk; simp at hk
        · rw [e] at hk; exact ⟨y, List.mem_of_find?_eq_some e, by simpa using hk⟩
      obtain ⟨y, hy, rfl⟩ := hkm
      have := h3.1 y hy
      by_cases hj : x.2 = j
      · rw [if_pos hj, if_neg (by omega), if_pos hj]
      · rw [if_neg hj, if_neg hj]
theorem whoL_close {m next : Nat} {L : SlL} (hL : LOk m L next) (id : Int) (k : Nat) (hk : slotL L id = some k) : (whoL m L).set k (-1) = whoL m (closeL L id) := by
  apply List.ext_getElem
  · simp [whoL]
  · intro i h1 h2
    have hi : i < m := by simpa [whoL] using h2
    rw [List.getElem_set, whoL_get _ _ _ hi, whoL_get _ _ _ hi, whoAt_close hL id k i hk]
theorem closeL_none {L : SlL} {id : Int} (h : slotL L id = none) : closeL L id = L := by
  unfold closeL
  rw [List.filter_eq_self]
  intro x hx
  unfold slotL at h
  simp only [Option.map_eq_none_iff, List.find?_eq_none] at h
  simpa using h x hx
theorem slotL_mem {L : SlL} {id : Int} {k : Nat} (h : slotL L id = some k) : ∃ x ∈ L, (x.1 : Int) = id ∧ x.2 = k := by
  unfold slotL at h
  rcases e : L.find? (fun x => decide ((x.1 : Int) = id)) with _ | y
  · rw [e] at h; simp at h
  · rw [e] at h
    have := List.find?_some e
    exact ⟨y, List.mem_of_find?_eq_some e, by simpa using this, by simpa using h⟩
theorem LOk.close {m next : Nat} {L : SlL} (h : LOk m L next) (id : Int) : LOk m (closeL L id) next :=
  ⟨h.ids.filter _, fun x hx => h.lt x (List.mem_filter.1 hx).1, h.slots.filter _⟩
theorem LOk.put {m next k : Nat} {L : SlL} (h : LOk m L next) (hk : k < m) (hf : ∀ x ∈ L, x.2 ≠ k) : LOk m (L ++ [(next, k)]) (next + 1) := by
  refine ⟨?_, ?_, ?_⟩
  · rw [List.pairwise_append]
    exact ⟨h.ids, List.pairwise_singleton .., fun a ha b hb => by simp at hb; subst hb; exact (h.lt a ha).1⟩
  · intro x hx
    rcases List.mem_append.1 hx with hx | hx
    · have := h.lt x hx; omega
    · simp at hx; subst hx; exact ⟨by simp, hk⟩
  · rw [List.pairwise_append]
    exact ⟨h.slots, List.pairwise_singleton .., fun a ha b hb => by simp at hb; subst hb; exact hf a ha⟩
theorem LOk.step {m next : Nat} {L : SlL} (h : LOk m L next) : LOk m L (next + 1) := ⟨h.ids, fun x hx => by have := h.lt x hx; omega, h.slots⟩
theorem count_but (p : Nat → Bool) (a m : Nat) (ha : a < m) (hp : p a = true) : ((List.range m).countP fun k => p k && k != a) + 1 = (List.range m).countP p := by
  induction m with
  | zero => omega
  | succ m ih =>
    rw [List.range_succ, List.countP_append, List.countP_append]
    by_cases h : a = m
    · subst h
      have : (List.range a).countP (fun k => p k && k != a) = (List.range a).countP p := by
        apply List.countP_congr
        intro x hx
        have := List.mem_range.1 hx
        have : (x != a) = true := by simp; omega
        rw [this, Bool.and_true]
      rw [this]
      simp [hp]
    · have := ih (by omega)
      have e : (m != a) = true := by simp; omega
      simp only [List.countP_singleton, e, Bool.and_true]
      omega
theorem count_free {m next : Nat} {L : SlL} (h : LOk m L next) : ((List.range m).countP fun k => decide (whoAt L k = -1)) + L.length = m := by
  obtain ⟨-, h2, h3⟩ := h
  induction L with
  | nil =>
    have : (List.range m).countP (fun k => decide (whoAt [] k = -1)) = (List.range m).length := by
      rw [List.countP_eq_length]; intro a _; simp [whoAt_nil]
    rw [this]; simp
  | cons x L ih =>
    rw [List.pairwise_cons] at h3
    have i := ih (fun y hy => h2 y (List.mem_cons_of_mem _ hy)) h3.2
    have hx := h2 x (List.mem_cons_self ..)
    have c := count_but (fun k => decide (whoAt L k = -1)) x.2 m hx.2 (by simp; exact whoAt_none.2 (fun y hy => Ne.symm (h3.1 y hy)))
    have e : (List.range m).countP (fun k => decide (whoAt (x :: L) k = -1)) = (List.range m).countP (fun k => decide (whoAt L k = -1) && k != x.2) := by
      apply List.countP_congr
      intro k _
      rw [whoAt_cons]
      by_cases hk : x.2 = k
      · subst hk; first | (simp; done) | (simp; omega)
      · have : (k != x.2) = true := by simp; omega
        simp [hk, this]
    rw [e, List.length_cons]; omega
theorem idxI_some {v : Int} {l : List Int} {k : Nat} (h : idxI v l = some k) : ∃ hk : k < l.length, l[k] = v := by
  induction l generalizing k with
  | nil => simp [idxI] at h
  | cons a l ih =>
    unfold idxI at h
    by_cases ha : a = v
    · rw [if_pos ha] at h; cases h; exact ⟨by simp, ha⟩
    · rw [if_neg ha] at h
      rcases e : idxI v l with _ | j
      · rw [e] at h; simp at h
      · rw [e] at h; simp at h; subst h
        obtain ⟨h1, h2⟩ := ih e
        exact ⟨by simpa using h1, by simpa using h2⟩
theorem idxI_none {v : Int} {l : List Int} : idxI v l = none ↔ ∀ x ∈ l, x ≠ v := by
  induction l with
  | nil => simp [idxI]
  | cons a l ih =>
    unfold idxI
    by_cases ha : a = v
    · simp [ha]
    · simp [ha, ih]
theorem freeL_some {m k : Nat} {L : SlL} (h : freeL m L = some k) : k < m ∧ ∀ x ∈ L, x.2 ≠ k := by
  obtain ⟨h1, h2⟩ := idxI_some h
  have hk : k < m := by rwa [whoL_length] at h1
  rw [whoL_get _ _ _ hk] at h2
  exact ⟨hk, whoAt_none.1 h2⟩
theorem freeL_none {m next : Nat} {L : SlL} (h : LOk m L next) : freeL m L = none ↔ L.length = m := by
  have c := count_free h
  unfold freeL
  rw [idxI_none]
  have e : ((List.range m).countP fun k => decide (whoAt L k = -1)) = 0 ↔ ∀ x ∈ whoL m L, x ≠ -1 := by
    rw [List.countP_eq_zero]
    unfold whoL
    simp
  rw [← e]; omega
theorem LOk.le {m next : Nat} {L : SlL} (h : LOk m L next) : L.length ≤ m := by have := count_free h; omega
theorem mapL_keys (L : SlL) : intKeys (mapL L) = L.map fun x => (x.1 : Int) := by
  unfold mapL intKeys
  dsimp only
  rw [List.map_map]; rfl
theorem sorted_ids {m next : Nat} {L : SlL} (h : LOk m L next) {ss : List Int} (hp : ss.Perm (intKeys (mapL L))) : ss.mergeSort (fun x y => decide (x ≤ y)) = L.map fun x => (x.1 : Int) := by
  have e : ss.mergeSort (fun x y => decide (x ≤ y)) = (intKeys (mapL L)).mergeSort (fun x y => decide (x ≤ y)) := mergeSort_of_perm_i hp
  rw [e, mapL_keys]
  apply List.mergeSort_of_pairwise
  rw [List.pairwise_map]
  exact h.ids.imp (fun {a b} hab => by simp; omega)
end Go.Proofs.Ytdbiodofofnpgaa
namespace Go.Proofs.Ytdbiodofofnpgaa
open Go.RowKit Go.Maps

def SL (w : World) (g gw gm base m : Nat) (L : SlL) (next : Nat) : Prop := ∃ n, n ≤ next ∧ SlP w g gw gm base m (whoL m L) next n (mapL L) ∧ LOk m L next ∧ m ≤ 1024 ∧ 1 ≤ m ∧ next ≤ 4096
def slotV (o : Option Nat) : Int := match o with
  | some k => (k : Int)
  | none => 0
def whoZ (m : Nat) (L : SlL) (z : Int) : Int := if 0 ≤ z ∧ z < (m : Int) then whoAt L z.toNat else -1
def whoV (z : Int) : Int := if z = -1 then 0 else z
section
variable {g gw gm base m next : Nat} {L : SlL} {w w' : World}
theorem SL.below (h : SL w g gw gm base m L next) (hb : Below w.heap.size w w') : SL w' g gw gm base m L next := by
  obtain ⟨n, h1, h2, h3⟩ := h
  exact ⟨n, h1, h2.below hb, h3⟩
theorem SL.ok (h : SL w g gw gm base m L next) : LOk m L next ∧ m ≤ 1024 ∧ 1 ≤ m ∧ next ≤ 4096 := by
  obtain ⟨n, h1, h2, h3, h4, h5, h6⟩ := h
  exact ⟨h3, h4, h5, h6⟩
theorem SL.size (h : SL w g gw gm base m L next) : base ≤ w.heap.size := by
  obtain ⟨n, h1, h2, h3⟩ := h
  have := h2.1.lt
  have := h2.2.2.2.1
  omega
theorem slNew_any (most : Nat) (h1 : 1 ≤ most) (h2 : most ≤ 1024) (w : World) :
    Calls Try.prog 39 #[.int .i64 (most : Int)] w fun e w' => ∃ g gw gm, e = .returned (.pointer (some ⟨g, 0, none⟩)) ∧ SL w' g gw gm w.heap.size most [] 0 ∧ Below w.heap.size w w' := by
  refine (new_any most h1 h2 w).mono ?_
  rintro e w1 ⟨g, gw, gm, rfl, hs, hb⟩
  refine ⟨g, gw, gm, rfl, ⟨0, Nat.le_refl _, ?_, LOk.nil _, h2, h1, by omega⟩, hb⟩
  rw [whoL_nil]; exact hs
theorem slNext_any (h : SL w g gw gm base m L next) : Calls Try.prog 92 #[.pointer (some ⟨g, 0, none⟩)] w fun e w' => e = .returned (.int .i64 (next : Int)) ∧ w = w' := by
  obtain ⟨n, h1, h2, h3⟩ := h
  exact next_any g gw gm base m _ next n _ w h2
theorem slSkip_any (h : SL w g gw gm base m L next) (hn : next < 4096) : Calls Try.prog 49 #[.pointer (some ⟨g, 0, none⟩)] w fun e w' => e = .returned (.int .i64 (next : Int)) ∧ SL w' g gw gm base m L (next + 1) ∧ Below base w w' := by
  obtain ⟨n, h1, h2, h3, h4, h5, h6⟩ := h
  refine (skip_any g gw gm base m _ next n _ w h2 hn).mono ?_
  rintro e w1 ⟨rfl, hs, hb⟩
  exact ⟨rfl, ⟨n, by omega, hs, h3.step, h4, h5, by omega⟩, hb⟩
theorem slOpenYes_any {k : Nat} (h : SL w g gw gm base m L next) (hn : next < 4096) (hk : freeL m L = some k) : Calls Try.prog 41 #[.pointer (some ⟨g, 0, none⟩)] w fun e w' => e = .returned (.tuple #[.int .i64 (next : Int), .int .i64 (k : Int), .bool true]) ∧ SL w' g gw gm base m (L ++ [(next, k)]) (next + 1) ∧ Below base w w' := by
  obtain ⟨n, h1, h2, h3, h4, h5, h6⟩ := h
  obtain ⟨hkm, hkf⟩ := freeL_some hk
  have hne : L.length ≠ m := fun e => by have := (freeL_none h3).2 e; rw [hk] at this; cases this
  refine (openOk_any g gw gm base m _ next n k _ w h2 hn (by rw [mapL_size]; exact hne) h4 (by omega) hk hkm).mono ?_
  rintro e w1 ⟨rfl, hs, hb⟩
  rw [whoL_put m L next k hkf, mapL_put L next k (fun x hx => (h3.lt x hx).1)] at hs
  exact ⟨rfl, ⟨n + 1, by omega, hs, h3.put hkm hkf, h4, h5, by omega⟩, hb⟩
theorem slOpenNo_any (h : SL w g gw gm base m L next) (hk : next = 4096 ∨ L.length = m) : Calls Try.prog 41 #[.pointer (some ⟨g, 0, none⟩)] w fun e w' => e = .returned (.tuple #[.int .i64 0, .int .i64 0, .bool false]) ∧ Below w.heap.size w w' := by
  obtain ⟨n, h1, h2, h3, h4, h5, h6⟩ := h
  by_cases hn : next = 4096
  · subst hn; exact openEnd_any g gw gm base m _ n _ w h2
  · have hl : L.length = m := by omega
    exact openFull_any g gw gm base m _ next n _ w h2 (by omega) (by rw [mapL_size]; exact hl)
theorem slSlot_any (id : Int) (h : SL w g gw gm base m L next) (hw : (Lit.int .i64 id).wf = true) : Calls Try.prog 88 #[.pointer (some ⟨g, 0, none⟩), .int .i64 id] w fun e w' => e = .returned (.tuple #[.int .i64 (slotV (slotL L id)), .bool (slotL L id).isSome]) ∧ w = w' := by
  obtain ⟨n, h1, h2, h3⟩ := h
  refine (slot_any g gw gm base m _ next n _ id w h2 hw).mono ?_
  rintro e w1 ⟨c, rfl, hc, rfl⟩
  rw [mapL_has]
  refine ⟨?_, rfl⟩
  rw [mapL_at] at hc
  have : c = slotV (slotL L id) := by
    unfold slotV
    cases hs : slotL L id with
    | none => rw [hs] at hc; injection hc with hc; injection hc with _ hc; exact hc.symm
    | some k => rw [hs] at hc; injection hc with hc; injection hc with _ hc; exact hc.symm
  rw [this]
theorem slClose_any (id : Int) (h : SL w g gw gm base m L next) (hw : (Lit.int .i64 id).wf = true) : Calls Try.prog 43 #[.pointer (some ⟨g, 0, none⟩), .int .i64 id] w fun e w' => e = .returned (.bool (slotL L id).isSome) ∧ SL w' g gw gm base m (closeL L id) next ∧ Below base w w' := by
  have h0 := h
  obtain ⟨n, h1, h2, h3, h4, h5, h6⟩ := h
  cases hs : slotL L id with
  | none =>
    refine (closeNo_any g gw gm base m _ next n _ id w h2 hw (by rw [mapL_has, hs]; rfl)).mono ?_
    rintro e w1 ⟨rfl, rfl⟩
    rw [closeL_none hs]
    exact ⟨rfl, h0, Below.refl _ _⟩
  | some k =>
    obtain ⟨x, hx, -, rfl⟩ := slotL_mem hs
    refine (closeYes_any g gw gm base m _ next n _ id x.2 w h2 hw (by rw [mapL_has, hs]; rfl) (by rw [mapL_at, hs]) (h3.lt x hx).2).mono ?_
    rintro e w1 ⟨rfl, hs1, hb⟩
    rw [whoL_close h3 id x.2 hs, mapL_del] at hs1
    exact ⟨rfl, ⟨n, h1, hs1, h3.close id, h4, h5, h6⟩, hb⟩
end
end Go.Proofs.Ytdbiodofofnpgaa
namespace Go.Proofs.Ytdbiodofofnpgaa
open Go.RowKit Go.Maps Go.Sort Go.Shelf

def Try.keysA_ren : Go.Shelf.Ren := ⟨fun | 7 => 90 | 10 => 120 | n => n, fun | 23 => 158 | 26 => 3 | 3 => 3 | 28 => 164 | 0 => 0 | 27 => 163 | 33 => 83 | 4 => 4 | n => n, fun | n => n⟩
theorem Try.keysA : Go.Proofs.SlLaysZI.n7 Try.prog Try.keysA_ren := {
  mixed := by kernel_rfl
  f7 := ⟨Try.f90.name, by decide, Try.func90.trans (congrArg some (by kernel_rfl))⟩
  f10 := ⟨Try.f120.name, by decide, Try.func120.trans (congrArg some (by kernel_rfl))⟩
  t0 := Try.underlying0
  a0 := Try.isAgg0
  z0 := Try.sizeOf0
  v0 := Try.zeroValue0
  t4 := Try.underlying4
  a4 := Try.isAgg4
  z4 := Try.sizeOf4
  v4 := Try.zeroValue4
  t23 := Try.underlying158
  a23 := Try.isAgg158
  z23 := Try.sizeOf158
  v23 := Try.zeroValue158
  t26 := Try.underlying3
  a26 := Try.isAgg3
  z26 := Try.sizeOf3
  v26 := Try.zeroValue3
  t27 := Try.underlying163
  a27 := Try.isAgg163
  z27 := Try.sizeOf163
  v27 := Try.zeroValue163
  t28 := Try.underlying164
  a28 := Try.isAgg164
  z28 := Try.sizeOf164
  v28 := Try.zeroValue164
  t33 := Try.underlying83
  a33 := Try.isAgg83
  z33 := Try.sizeOf83
  v33 := Try.zeroValue83 }

def Try.sortedA_ren : Go.Shelf.Ren := ⟨fun | 6 => 89 | 8 => 118 | 9 => 119 | 11 => 142 | 13 => 144 | 12 => 143 | 23 => 171 | 24 => 172 | 14 => 162 | 15 => 163 | 16 => 164 | 17 => 165 | 18 => 166 | 19 => 167 | 20 => 168 | 21 => 169 | 22 => 170 | 25 => 198 | 26 => 199 | 27 => 200 | 28 => 201 | 29 => 202 | 30 => 182 | 31 => 215 | n => n, fun | 26 => 3 | 28 => 164 | 24 => 84 | 0 => 0 | 3 => 3 | 37 => 214 | 48 => 252 | 50 => 185 | 4 => 4 | 40 => 245 | 39 => 244 | 45 => 24 | 5 => 5 | 9 => 9 | 51 => 271 | 55 => 274 | 57 => 288 | 58 => 289 | 33 => 83 | n => n, fun | n => n⟩
theorem Try.sortedA : Go.Proofs.SlLaysZI.n6 Try.prog Try.sortedA_ren := {
  mixed := by kernel_rfl
  f6 := ⟨Try.f89.name, by decide, Try.func89.trans (congrArg some (by kernel_rfl))⟩
  f8 := ⟨Try.f118.name, by decide, Try.func118.trans (congrArg some (by kernel_rfl))⟩
  f11 := ⟨Try.f142.name, by decide, Try.func142.trans (congrArg some (by kernel_rfl))⟩
  t0 := Try.underlying0
  a0 := Try.isAgg0
  z0 := Try.sizeOf0
  v0 := Try.zeroValue0
  t24 := Try.underlying84
  a24 := Try.isAgg84
  z24 := Try.sizeOf84
  v24 := Try.zeroValue84
  t26 := Try.underlying3
  a26 := Try.isAgg3
  z26 := Try.sizeOf3
  v26 := Try.zeroValue3
  t28 := Try.underlying164
  a28 := Try.isAgg164
  z28 := Try.sizeOf164
  v28 := Try.zeroValue164
  i26 := by kernel_rfl }

def Try.sortA_ren : Go.Shelf.Ren := ⟨fun | 5 => 119 | 8 => 144 | 7 => 143 | 19 => 171 | 20 => 172 | 10 => 162 | 11 => 163 | 12 => 164 | 13 => 165 | 14 => 166 | 15 => 167 | 16 => 168 | 17 => 169 | 18 => 170 | 30 => 198 | 31 => 199 | 32 => 200 | 33 => 201 | 34 => 202 | 35 => 182 | 40 => 215 | n => n, fun | 23 => 84 | 25 => 3 | 3 => 3 | 32 => 214 | 22 => 84 | 0 => 0 | 44 => 252 | 46 => 185 | 4 => 4 | 36 => 245 | 35 => 244 | 41 => 24 | 5 => 5 | 9 => 9 | 53 => 271 | 57 => 274 | 63 => 288 | 64 => 289 | n => n, fun | n => n⟩
theorem Try.sortA : Go.Proofs.SlLaysM.n5 Try.prog Try.sortA_ren := {
  mixed := by kernel_rfl
  f5 := ⟨Try.f119.name, by decide, Try.func119.trans (congrArg some (by kernel_rfl))⟩
  f7 := ⟨Try.f143.name, by decide, Try.func143.trans (congrArg some (by kernel_rfl))⟩
  f8 := Try.func144.trans (congrArg some (by kernel_rfl))
  f10 := ⟨Try.f162.name, by decide, Try.func162.trans (congrArg some (by kernel_rfl))⟩
  f11 := ⟨Try.f163.name, by decide, Try.func163.trans (congrArg some (by kernel_rfl))⟩
  f12 := ⟨Try.f164.name, by decide, Try.func164.trans (congrArg some (by kernel_rfl))⟩
  f13 := ⟨Try.f165.name, by decide, Try.func165.trans (congrArg some (by kernel_rfl))⟩
  f14 := ⟨Try.f166.name, by decide, Try.func166.trans (congrArg some (by kernel_rfl))⟩
  f15 := ⟨Try.f167.name, by decide, Try.func167.trans (congrArg some (by kernel_rfl))⟩
  f16 := ⟨Try.f168.name, by decide, Try.func168.trans (congrArg some (by kernel_rfl))⟩
  f17 := ⟨Try.f169.name, by decide, Try.func169.trans (congrArg some (by kernel_rfl))⟩
  f18 := ⟨Try.f170.name, by decide, Try.func170.trans (congrArg some (by kernel_rfl))⟩
  f19 := Try.func171.trans (congrArg some (by kernel_rfl))
  f20 := Try.func172.trans (congrArg some (by kernel_rfl))
  f30 := ⟨Try.f198.name, by decide, Try.func198.trans (congrArg some (by kernel_rfl))⟩
  f31 := Try.func199.trans (congrArg some (by kernel_rfl))
  f32 := Try.func200.trans (congrArg some (by kernel_rfl))
  f33 := ⟨Try.f201.name, by decide, Try.func201.trans (congrArg some (by kernel_rfl))⟩
  f34 := ⟨Try.f202.name, by decide, Try.func202.trans (congrArg some (by kernel_rfl))⟩
  f35 := ⟨Try.f182.name, by decide, Try.func182.trans (congrArg some (by kernel_rfl))⟩
  f40 := ⟨Try.f215.name, by decide, Try.func215.trans (congrArg some (by kernel_rfl))⟩
  t0 := Try.underlying0
  a0 := Try.isAgg0
  z0 := Try.sizeOf0
  v0 := Try.zeroValue0
  t3 := Try.underlying3
  a3 := Try.isAgg3
  z3 := Try.sizeOf3
  v3 := Try.zeroValue3
  t4 := Try.underlying4
  a4 := Try.isAgg4
  z4 := Try.sizeOf4
  v4 := Try.zeroValue4
  t5 := Try.underlying5
  a5 := Try.isAgg5
  z5 := Try.sizeOf5
  v5 := Try.zeroValue5
  t9 := Try.underlying9
  a9 := Try.isAgg9
  z9 := Try.sizeOf9
  v9 := Try.zeroValue9
  t22 := Try.underlying84
  a22 := Try.isAgg84
  z22 := Try.sizeOf84
  v22 := Try.zeroValue84
  t23 := Try.underlying84
  a23 := Try.isAgg84
  z23 := Try.sizeOf84
  v23 := Try.zeroValue84
  t25 := Try.underlying3
  a25 := Try.isAgg3
  z25 := Try.sizeOf3
  v25 := Try.zeroValue3
  t32 := Try.underlying214
  a32 := Try.isAgg214
  z32 := Try.sizeOf214
  v32 := Try.zeroValue214
  t35 := Try.underlying244
  a35 := Try.isAgg244
  z35 := Try.sizeOf244
  v35 := Try.zeroValue244
  t36 := Try.underlying245
  a36 := Try.isAgg245
  z36 := Try.sizeOf245
  v36 := Try.zeroValue245
  t41 := Try.underlying24
  a41 := Try.isAgg24
  z41 := Try.sizeOf24
  v41 := Try.zeroValue24
  t44 := Try.underlying252
  a44 := Try.isAgg252
  z44 := Try.sizeOf252
  v44 := Try.zeroValue252
  t46 := Try.underlying185
  a46 := Try.isAgg185
  z46 := Try.sizeOf185
  v46 := Try.zeroValue185
  t53 := Try.underlying271
  a53 := Try.isAgg271
  z53 := Try.sizeOf271
  v53 := Try.zeroValue271
  t57 := Try.underlying274
  a57 := Try.isAgg274
  z57 := Try.sizeOf274
  v57 := Try.zeroValue274
  t63 := Try.underlying288
  a63 := Try.isAgg288
  z63 := Try.sizeOf288
  v63 := Try.zeroValue288
  t64 := Try.underlying289
  a64 := Try.isAgg289
  z64 := Try.sizeOf289
  v64 := Try.zeroValue289 }

theorem Try.sortsA (m : Nat) : AnyZI.SortsIn Try.prog Try.sortedA_ren Fence.wide m :=
  ⟨fun blk off cap ss W hH hblk hsz => callsIn_wide.2 (AnyM.slices_Sort_int Try.sortA blk off cap ss W hH hblk hsz),
   fun p cap W => callsIn_wide.2 (AnyM.slices_Sort_int_none Try.sortA p cap W)⟩

set_option maxRecDepth 20000 in
set_option maxHeartbeats 1000000 in
theorem live_any (g gw gm base m : Nat) (who : List Int) (next n : Nat) (D : DataW Unit) (w : World) (h : SlP w g gw gm base m who next n D) (hmax : Maps.size D ≤ 100000) :
    Calls Try.prog 44 #[.pointer (some ⟨g, 0, none⟩)] w fun e w' => ∃ (v : Value) (ss : List Int), e = .returned v ∧ ss.Perm (intKeys D) ∧
      w'.ownsRow w.heap.size 3 1 v ss.length ((ss.mergeSort (fun x y => decide (x ≤ y))).map encZ) ∧ (v = .slice none 0 0 ↔ ss = []) ∧ Below w.heap.size w w' := by
  obtain ⟨hb, _, hown, _⟩ := h
  have c1 := hb.cell 1
  simp only [List.getElem?_toArray] at c1
  clear hb
  refine (callsIn_wide (n := 6)).1 ?_
  have hbl := hown.lt
  have hseq : SeqGives Fence.wide 2 Try.prog 120 #[.pointer (some ⟨w.heap.size, 0, none⟩)] encZ (fun ss => ss.Perm (intKeys D)) (Maps.size D) (w.alloc (.cells #[.map (some gm)] 158)) :=
    AnyZI.keys_gives (ρ := Try.keysA_ren) { Try.keysA with } Fence.wide _ trivial rfl (by omega) w.heap.size gm n D _ (by simp) (by simp) (by
      obtain ⟨es, clock, hb, Ft, hs, hD⟩ := hown
      exact ⟨es, clock, (Below.heap_alloc _ _ gm hbl).trans hb, Ft, hs, hD⟩)
  have cK : ∀ mb W, CallsIn Fence.wide 5 Try.prog 90 #[.map mb] W fun e w' => e = .returned (.func (.func 120) #[] #[.pointer (some ⟨W.heap.size, 0, none⟩)]) ∧ w' = W.alloc (.cells #[.map mb] 158) := fun mb W => AnyZI.keys_in Try.keysA Fence.wide 5 trivial rfl mb W
  have cS := AnyZI.sorted_in Try.sortedA Fence.wide 5 trivial trivial trivial trivial rfl (by omega) (Try.sortsA _) (enters_of Try.func119 (by kernel_rfl) rfl) 120 #[.pointer (some ⟨w.heap.size, 0, none⟩)] trivial (enters_of Try.func120 (by kernel_rfl) rfl) _ _ (by unfold maxLen; omega) (by omega) _ hseq
  change CallsIn _ _ Try.prog 89 _ _ _ at cS
  have hfK : Fence.wide.fn 90 := trivial
  have hfS : Fence.wide.fn 89 := trivial
  refine callsIn_of_wp Try.func44 rfl trivial ?_ rfl
  simp only [Try.ntmps44, List.size_toArray, List.length_cons, List.length_nil, Nat.reduceAdd, Nat.reduceSub, Array.replicate_succ, Array.replicate_zero, List.push_toArray, List.append_toArray, List.nil_append, List.cons_append]
  gi_wp2_with (first
    | (gi_at_call 90; refine (cK _ _).mono ?_; rintro e w' ⟨rfl, rfl⟩)
    | (gi_at_call 89; refine cS.mono ?_; rintro e w' ⟨v, ss, rfl, hS, hrow, hnil, hb⟩))
  go_ret
  exact ⟨v, ss, rfl, hS, ownsRow_base_a hrow (by simp), hnil, ((Below.refl _ w).alloc (Nat.le_refl _) _).trans (hb.mono (by simp))⟩
end Go.Proofs.Ytdbiodofofnpgaa
namespace Go.Proofs.Ytdbiodofofnpgaa
open Go.RowKit Go.Maps

theorem getD_at {α : Type} (l : List α) (i : Nat) (d : α) (h : i < l.length) : l.getD i d = l[i] := by rw [List.getD_eq_getElem?_getD, List.getElem?_eq_getElem h]; rfl

set_option maxRecDepth 20000 in
set_option maxHeartbeats 800000 in
theorem who_any (g gw gm base m : Nat) (who : List Int) (next n : Nat) (D : DataW Unit) (z : Int) (w : World) (h : SlP w g gw gm base m who next n D) (_ : m ≤ 1024) :
    Calls Try.prog 40 #[.pointer (some ⟨g, 0, none⟩), .int .i64 z] w fun e w' => e = .returned (.tuple #[.int .i64 (whoV (if 0 ≤ z ∧ z < (m : Int) then who.getD z.toNat (-1) else -1)), .bool (decide ((if 0 ≤ z ∧ z < (m : Int) then who.getD z.toNat (-1) else -1) ≠ -1))]) ∧ w = w' := by
  have hl := h.len
  obtain ⟨hb, ho, _⟩ := h
  have c0 := hb.cell 0
  simp only [List.getElem?_toArray] at c0
  clear hb
  by_cases h1 : 0 ≤ z ∧ z < (m : Int)
  · rw [if_pos h1]
    obtain ⟨h2, h3⟩ := h1
    obtain ⟨k, rfl⟩ : ∃ k : Nat, z = (k : Int) := ⟨z.toNat, by omega⟩
    have hk : k < who.length := by omega
    rw [Int.toNat_natCast, getD_at _ _ _ hk]
    have c2 := (ho.cellAt k (by omega)).trans (intCells_get who k hk)
    obtain ⟨x, hx⟩ : ∃ x, who[k]'hk = x := ⟨_, rfl⟩
    rw [hx] at c2 ⊢
    clear hx ho hl hk
    by_cases hx : x = -1
    · subst hx
      go_enter Try.func40, Try.ntmps40
      go_wp2_with fail
      go_ret2
      exact ⟨rfl, rfl⟩
    · rw [whoV, if_neg hx, decide_eq_true hx]
      have e1 : (x == -1) = false := by rw [beq_eq_false_iff_ne]; exact hx
      go_enter Try.func40, Try.ntmps40
      go_wp2_with fail
      go_ret2
      exact ⟨rfl, rfl⟩
  · rw [if_neg h1]
    clear ho hl
    by_cases h2 : z < 0
    · go_enter Try.func40, Try.ntmps40
      go_wp2_with fail
      go_ret2
      exact ⟨rfl, rfl⟩
    · have h3 : (m : Int) ≤ z := by omega
      have h4 : 0 ≤ z := by omega
      clear h1
      go_enter Try.func40, Try.ntmps40
      go_wp2_with fail
      go_ret2
      exact ⟨rfl, rfl⟩
section
variable {g gw gm base m next : Nat} {L : SlL} {w w' : World}
theorem slWho_any (z : Int) (h : SL w g gw gm base m L next) : Calls Try.prog 40 #[.pointer (some ⟨g, 0, none⟩), .int .i64 z] w fun e w' => e = .returned (.tuple #[.int .i64 (whoV (whoZ m L z)), .bool (decide (whoZ m L z ≠ -1))]) ∧ w = w' := by
  obtain ⟨n, h1, h2, h3, h4, h5, h6⟩ := h
  have := who_any g gw gm base m _ next n _ z w h2 h4
  have e : (if 0 ≤ z ∧ z < (m : Int) then (whoL m L).getD z.toNat (-1) else -1) = whoZ m L z := by
    unfold whoZ
    split
    · rename_i hz
      have hk : z.toNat < m := by omega
      rw [getD_at _ _ _ (by rw [whoL_length]; exact hk), whoL_get _ _ _ hk]
    · rfl
  rw [e] at this
  exact this
theorem slLive_any (h : SL w g gw gm base m L next) : Calls Try.prog 44 #[.pointer (some ⟨g, 0, none⟩)] w fun e w' => ∃ A c, e = .returned (.slice A L.length c) ∧ w'.ownsRow w.heap.size 3 1 (.slice A L.length c) L.length (intCells (L.map fun x => (x.1 : Int))) ∧ Below w.heap.size w w' := by
  obtain ⟨n, h1, h2, h3, h4, h5, h6⟩ := h
  have hle := h3.le
  refine (live_any g gw gm base m _ next n _ w h2 (by rw [mapL_size]; omega)).mono ?_
  rintro e w1 ⟨v, ss, rfl, hp, ho, hn, hb⟩
  have hs : ss.length = L.length := by rw [hp.length_eq, mapL_keys, List.length_map]
  rw [sorted_ids h3 hp, hs] at ho
  have hv : ∃ A c, v = .slice A L.length c := by
    rcases ho.2 with ⟨hv, h0⟩ | ⟨g', cap, cur, hv, _⟩
    · exact ⟨none, 0, by rw [h0]; exact hv⟩
    · exact ⟨_, _, hv⟩
  obtain ⟨A, c, rfl⟩ := hv
  exact ⟨A, c, rfl, ho, hb⟩
end

set_option maxRecDepth 20000 in
set_option maxHeartbeats 800000 in
theorem free_any (g gw gm base m : Nat) (who : List Int) (next n : Nat) (D : DataW Unit) (w : World) (h : SlP w g gw gm base m who next n D) (hm : m ≤ 1024) (hs : Maps.size D ≤ m) :
    Calls Try.prog 45 #[.pointer (some ⟨g, 0, none⟩)] w fun e w' => e = .returned (.int .i64 ((m : Int) - (Maps.size D : Int))) ∧ Below w.heap.size w w' := by
  obtain ⟨hb, ho, hmp, _⟩ := h
  have c0 := hb.cell 0
  have c1 := hb.cell 1
  simp only [List.getElem?_toArray] at c0 c1
  have hlen : ∀ q ty, (Builtin.len_ #[158] ty #[.map (some gm)]).run Try.prog (w.drewN q) = .ok (.int .i64 (Maps.size D)) (w.drewN q) := fun q ty => World.ownsMap.len (w := w.drewN q) hmp Try.underlying158 ty
  clear hb ho hmp
  go_enter Try.func45, Try.ntmps45
  go_wp2_with fail
  go_quiet (fail)
  go_wp2_with fail
  go_ret
  exact ⟨rfl, ⟨rfl, rfl, rfl, Nat.le_refl _, fun _ _ => rfl⟩⟩
section
variable {g gw gm base m next : Nat} {L : SlL} {w w' : World}
theorem slFree_any (h : SL w g gw gm base m L next) : Calls Try.prog 45 #[.pointer (some ⟨g, 0, none⟩)] w fun e w' => e = .returned (.int .i64 ((m : Int) - (L.length : Int))) ∧ Below w.heap.size w w' := by
  obtain ⟨n, h1, h2, h3, h4, h5, h6⟩ := h
  have hle := h3.le
  have := free_any g gw gm base m _ next n _ w h2 h4 (by rw [mapL_size]; exact hle)
  rwa [mapL_size] at this
end
end Go.Proofs.Ytdbiodofofnpgaa
