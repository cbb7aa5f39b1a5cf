/- Walks: package tick: own, Own, Due; package heap: may, Min, Len, Most, At; the heap as an object. -/
import Derived.Test.YtdhoedohchbagaaHj
import Derived.Test.YtdhoedohchbagaaHe
namespace Go.Proofs.Ytdhoedohchbagaa
open Go.RowKit

theorem own_any (t : Int) (w : World) : Calls Try.prog 105 #[.int .i64 t] w fun e w' => e = .returned (.int .i64 (ownT t)) ∧ w = w' := by
  by_cases h : t < 0
  · have e : ownT t = 0 := by unfold ownT; rw [if_pos h]
    have hm : max t 0 = 0 := by omega
    rw [e]
    go_enter Try.func105, Try.ntmps105
    go_wp2
    go_ret
    exact ⟨by first | rfl | (show Ending.returned (.int .i64 _) = _; congr 2; omega), rfl⟩
  · have e : ownT t = t := by unfold ownT; rw [if_neg h]
    have hm : max t 0 = t := by omega
    rw [e]
    go_enter Try.func105, Try.ntmps105
    go_wp2
    go_ret
    exact ⟨by first | rfl | (show Ending.returned (.int .i64 _) = _; congr 2; omega), rfl⟩
theorem ownC_any (t : Int) (w : World) : Calls Try.prog 75 #[.int .i64 t] w fun e w' => e = .returned (.int .i64 (ownT t)) ∧ w = w' := by
  go_enter Try.func75, Try.ntmps75
  go_wp2_with (go_at_call 105; refine (own_any t _).mono ?_; rintro e w1 ⟨rfl, rfl⟩)
  go_ret
  exact ⟨rfl, rfl⟩
theorem due_any (t now : Int) (w : World) : Calls Try.prog 79 #[.int .i64 t, .int .i64 now] w fun e w' => e = .returned (.bool (dueT t now)) ∧ w = w' := by
  by_cases h : t = 9223372036854775807
  · have e : dueT t now = false := by unfold dueT neverT; simp [h]
    rw [e]
    have hb : (t != 9223372036854775807) = false := by simp [h]
    clear h e
    go_enter Try.func79, Try.ntmps79
    go_wp2
    go_ret
    exact ⟨rfl, rfl⟩
  · have e : dueT t now = decide (ownT t ≤ ownT now) := by unfold dueT neverT; simp [h]
    rw [e]
    have hb : (t != 9223372036854775807) = true := by simp [h]
    clear h e
    go_enter Try.func79, Try.ntmps79
    go_wp2_with (first | (go_at_call 105; refine (own_any _ _).mono ?_; rintro e w1 ⟨rfl, rfl⟩))
    go_ret
    exact ⟨rfl, rfl⟩

/-- A heap of at most m that holds the entries l. -/
def HpI (w : World) (g gw m : Nat) (v : Value) (l : List Ent) : Prop := ∃ n L wh, HpR w g gw m v n L wh ∧ HeapIs L wh m l ∧ n = l.length ∧ m ≤ 1024 ∧ n ≤ m
theorem nodup_le {m : Nat} {l : List Nat} (hn : l.Nodup) (h : ∀ x ∈ l, x < m) : l.length ≤ m := by
  induction m generalizing l with
  | zero =>
    cases l with
    | nil => simp
    | cons x l => exact absurd (h x (by simp)) (by omega)
  | succ m ih =>
    by_cases hm : m ∈ l
    · have hp := List.perm_cons_erase hm
      have hn2 := hp.nodup hn
      have h2 := ih (l := l.erase m) (List.nodup_cons.1 hn2).2 (fun x hx => by
        have h1 := h x (List.mem_of_mem_erase hx)
        have h3 : x ≠ m := fun e => (List.nodup_cons.1 hn2).1 (e ▸ hx)
        omega)
      have := hp.length_eq
      simp only [List.length_cons] at this
      omega
    · have := ih hn (fun x hx => by
        have h1 := h x hx
        have h3 : x ≠ m := fun e => hm (e ▸ hx)
        omega)
      omega
theorem HeapIs.le {A : List Ent} {wh : List Int} {m : Nat} {l : List Ent} (h : HeapIs A wh m l) : A.length ≤ m := by
  have h1 : (A.map Ent.id).Nodup := by
    rw [List.nodup_iff_pairwise_ne, List.pairwise_iff_getElem]
    intro i j hi hj hij e
    simp only [List.length_map] at hi hj
    simp only [List.getElem_map] at e
    rw [← eg_of hi, ← eg_of hj] at e
    have := h.where_.inj i j hi hj e; omega
  have := nodup_le h1 (m := m) (fun x hx => by
    obtain ⟨e, he, rfl⟩ := List.mem_map.1 hx
    obtain ⟨i, hi, rfl⟩ := mem_eg he
    exact h.where_.ids i hi)
  simpa using this
theorem HpI.keep {G : Nat → Prop} {w w' : World} {g gw m : Nat} {v : Value} {l : List Ent} (h : HpI w g gw m v l) (hk : Keep G w w') (hd : ∀ x, HpF g gw v x → ¬ G x) : HpI w' g gw m v l := by
  obtain ⟨n, L, wh, hr, r⟩ := h
  exact ⟨n, L, wh, hr.keep hk hd, r⟩
theorem HpI.below {w w' : World} {g gw m : Nat} {v : Value} {l : List Ent} (h : HpI w g gw m v l) (hb : Below w.heap.size w w') : HpI w' g gw m v l :=
  h.keep (Keep.of_below (F := fun _ => False) hb) (fun _ _ hf => hf)
theorem HpI.lt {w : World} {g gw m : Nat} {v : Value} {l : List Ent} (h : HpI w g gw m v l) : ∀ x, HpF g gw v x → x < w.heap.size := by
  obtain ⟨n, L, wh, hr, r⟩ := h
  exact hr.lt

set_option maxHeartbeats 400000 in
theorem may_any (g gw m n : Nat) (v : Value) (L : List Ent) (wh : List Int) (id : Int) (w : World) (h : HpR w g gw m v n L wh) :
    Calls Try.prog 74 #[.pointer (some ⟨g, 0, none⟩), .int .i64 id] w fun e w' => e = .returned (.bool (decide (0 ≤ id) && decide (id < (m : Int)))) ∧ w = w' := by
  obtain ⟨f0, f1, f2⟩ := h.fields
  clear h
  by_cases h1 : 0 ≤ id
  all_goals
    go_enter Try.func74, Try.ntmps74
    go_wp2
    go_ret
    exact ⟨by simp [h1] <;> omega, rfl⟩
theorem mayNil_any (id : Int) (w : World) :
    Calls Try.prog 74 #[.pointer none, .int .i64 id] w fun e w' => e = .returned (.bool false) ∧ w = w' := by
  go_enter Try.func74, Try.ntmps74
  go_wp2
  go_ret
  exact ⟨rfl, rfl⟩

set_option maxHeartbeats 400000 in
theorem minNone_any (g gw m : Nat) (v : Value) (w : World) (h : HpI w g gw m v []) :
    Calls Try.prog 71 #[.pointer (some ⟨g, 0, none⟩)] w fun e w' => e = .returned (.tuple #[.agg #[.int .i64 0, .int .i64 0], .bool false]) ∧ Below w.heap.size w w' := by
  obtain ⟨n, L, wh, hr, hh, hn, hm, hnm⟩ := h
  obtain rfl : n = 0 := hn
  obtain ⟨f0, -, -⟩ := hr.fields
  obtain ⟨A, c, rfl, _⟩ := own_shape hr.row
  have hlt := hr.blk.lt
  clear hr hh
  go_enter Try.func71, Try.ntmps71
  go_wp2
  exact bodyPost_ret (v := .tuple #[.agg #[.int .i64 0, .int .i64 0], .bool false]) (by simp [results, Try.results71, go_sem]) rfl ⟨rfl, (Below.refl _ _).alloc (Nat.le_refl _) _⟩

set_option maxHeartbeats 400000 in
theorem min_any (g gw m : Nat) (v : Value) (x : Ent) (l : List Ent) (w : World) (h : HpI w g gw m v (x :: l)) :
    Calls Try.prog 71 #[.pointer (some ⟨g, 0, none⟩)] w fun e w' => e = .returned (.tuple #[.agg #[.int .i64 x.t, .int .i64 (x.id : Int)], .bool true]) ∧ Below w.heap.size w w' := by
  obtain ⟨n, L, wh, hr, hh, hn, hm, hnm⟩ := h
  have hx := hh.head
  have hn0 : 0 < n := by rw [hn]; simp
  obtain ⟨ge, c, rfl, _⟩ := hr.ent hn0
  obtain ⟨e1, e2, -, -⟩ := hr.cell_ent (i := 0) hn0
  obtain ⟨f0, -, -⟩ := hr.fields
  obtain ⟨-, -, -, n4, n5, n6⟩ := hr.ne
  rw [hx] at e1 e2
  have hne : ((n : Int) == 0) = false := by simp; omega
  clear hr hh hx hn
  go_enter Try.func71, Try.ntmps71
  go_wp2
  exact bodyPost_ret (v := .tuple #[.agg #[.int .i64 x.t, .int .i64 (x.id : Int)], .bool true]) (by simp [results, Try.results71, go_sem]) rfl ⟨rfl, (Below.refl _ _).alloc (Nat.le_refl _) _⟩

theorem len_any (g gw m : Nat) (v : Value) (l : List Ent) (w : World) (h : HpI w g gw m v l) :
    Calls Try.prog 25 #[.pointer (some ⟨g, 0, none⟩)] w fun e w' => e = .returned (.int .i64 (l.length : Int)) ∧ w = w' := by
  obtain ⟨n, L, wh, hr, hh, rfl, hm, hnm⟩ := h
  obtain ⟨f0, -, -⟩ := hr.fields
  obtain ⟨A, c, rfl, _⟩ := own_shape hr.row
  clear hr hh
  go_enter Try.func25, Try.ntmps25
  go_wp2
  go_ret
  exact ⟨rfl, rfl⟩
theorem most_any (g gw m : Nat) (v : Value) (l : List Ent) (w : World) (h : HpI w g gw m v l) :
    Calls Try.prog 65 #[.pointer (some ⟨g, 0, none⟩)] w fun e w' => e = .returned (.int .i64 (m : Int)) ∧ w = w' := by
  obtain ⟨n, L, wh, hr, hh, rfl, hm, hnm⟩ := h
  obtain ⟨-, f1, -⟩ := hr.fields
  clear hr hh
  go_enter Try.func65, Try.ntmps65
  go_wp2
  go_ret
  exact ⟨rfl, rfl⟩
end Go.Proofs.Ytdhoedohchbagaa
