/- Walks: package tick: own, Own, Due; package heap: may, Min, Len, Most, At; the heap as an object. Walks: package heap: At, cut, pop, Pop over the heap as an object. Walks: package heap: pop of an empty heap, Pop. Walks: package heap: Set. -/
import Derived.Test.YtdbiodofofnpgaaKb
import Derived.Test.YtdbiodofofnpgaaKa
import Derived.Test.YtdbiodofofnpgaaNa
namespace Go.Proofs.Ytdbiodofofnpgaa
open Go.RowKit

theorem own_any (t : Int) (w : World) : Calls Try.prog 124 #[.int .i64 t] w fun e w' => e = .returned (.int .i64 (ownT t)) ∧ w = w' := by
  by_cases h : t < 0
  · have e : ownT t = 0 := by unfold ownT; rw [if_pos h]
    have hm : max t 0 = 0 := by omega
    rw [e]
    go_enter Try.func124, Try.ntmps124
    go_wp2
    go_ret
    exact ⟨by first | rfl | (show Ending.returned (.int .i64 _) = _; congr 2; omega), rfl⟩
  · have e : ownT t = t := by unfold ownT; rw [if_neg h]
    have hm : max t 0 = t := by omega
    rw [e]
    go_enter Try.func124, Try.ntmps124
    go_wp2
    go_ret
    exact ⟨by first | rfl | (show Ending.returned (.int .i64 _) = _; congr 2; omega), rfl⟩
theorem ownC_any (t : Int) (w : World) : Calls Try.prog 100 #[.int .i64 t] w fun e w' => e = .returned (.int .i64 (ownT t)) ∧ w = w' := by
  go_enter Try.func100, Try.ntmps100
  go_wp2_with (go_at_call 124; refine (own_any t _).mono ?_; rintro e w1 ⟨rfl, rfl⟩)
  go_ret
  exact ⟨rfl, rfl⟩
theorem due_any (t now : Int) (w : World) : Calls Try.prog 106 #[.int .i64 t, .int .i64 now] w fun e w' => e = .returned (.bool (dueT t now)) ∧ w = w' := by
  by_cases h : t = 9223372036854775807
  · have e : dueT t now = false := by unfold dueT neverT; simp [h]
    rw [e]
    have hb : (t != 9223372036854775807) = false := by simp [h]
    clear h e
    go_enter Try.func106, Try.ntmps106
    go_wp2
    go_ret
    exact ⟨rfl, rfl⟩
  · have e : dueT t now = decide (ownT t ≤ ownT now) := by unfold dueT neverT; simp [h]
    rw [e]
    have hb : (t != 9223372036854775807) = true := by simp [h]
    clear h e
    go_enter Try.func106, Try.ntmps106
    go_wp2_with (first | (go_at_call 124; refine (own_any _ _).mono ?_; rintro e w1 ⟨rfl, rfl⟩))
    go_ret
    exact ⟨rfl, rfl⟩

/-- A heap of at most m that holds the entries l. -/
def HpI (w : World) (g gw m : Nat) (v : Value) (l : List Ent) : Prop := ∃ n L wh, HpR w g gw m v n L wh ∧ HeapIs L wh m l ∧ n = l.length ∧ m ≤ 1024 ∧ n ≤ m
theorem nodup_le {m : Nat} {l : List Nat} (hn : l.Nodup) (h : ∀ x ∈ l, x < m) : l.length ≤ m := by
  induction m generalizing l with
  | zero =>
    cases l with
    | nil => simp
    | cons x l => exact absurd (h x (by simp)) (by omega)
  | succ m ih =>
    by_cases hm : m ∈ l
    · have hp := List.perm_cons_erase hm
      have hn2 := hp.nodup hn
      have h2 := ih (l := l.erase m) (List.nodup_cons.1 hn2).2 (fun x hx => by
        have h1 := h x (List.mem_of_mem_erase hx)
        have h3 : x ≠ m := fun e => (List.nodup_cons.1 hn2).1 (e ▸ hx)
        omega)
      have := hp.length_eq
      simp only [List.length_cons] at this
      omega
    · have := ih hn (fun x hx => by
        have h1 := h x hx
        have h3 : x ≠ m := fun e => hm (e ▸ hx)
        omega)
      omega
theorem HeapIs.le {A : List Ent} {wh : List Int} {m : Nat} {l : List Ent} (h : HeapIs A wh m l) : A.length ≤ m := by
  have h1 : (A.map Ent.id).Nodup := by
    rw [List.nodup_iff_pairwise_ne, List.pairwise_iff_getElem]
    intro i j hi hj hij e
    simp only [List.length_map] at hi hj
    simp only [List.getElem_map] at e
    rw [← eg_of hi, ← eg_of hj] at e
    have := h.where_.inj i j hi hj e; omega
  have := nodup_le h1 (m := m) (fun x hx => by
    obtain ⟨e, he, rfl⟩ := List.mem_map.1 hx
    obtain ⟨i, hi, rfl⟩ := mem_eg he
    exact h.where_.ids i hi)
  simpa using this
theorem HpI.keep {G : Nat → Prop} {w w' : World} {g gw m : Nat} {v : Value} {l : List Ent} (h : HpI w g gw m v l) (hk : Keep G w w') (hd : ∀ x, HpF g gw v x → ¬ G x) : HpI w' g gw m v l := by
  obtain ⟨n, L, wh, hr, r⟩ := h
  exact ⟨n, L, wh, hr.keep hk hd, r⟩
theorem HpI.below {w w' : World} {g gw m : Nat} {v : Value} {l : List Ent} (h : HpI w g gw m v l) (hb : Below w.heap.size w w') : HpI w' g gw m v l :=
  h.keep (Keep.of_below (F := fun _ => False) hb) (fun _ _ hf => hf)
theorem HpI.lt {w : World} {g gw m : Nat} {v : Value} {l : List Ent} (h : HpI w g gw m v l) : ∀ x, HpF g gw v x → x < w.heap.size := by
  obtain ⟨n, L, wh, hr, r⟩ := h
  exact hr.lt

set_option maxHeartbeats 400000 in
theorem may_any (g gw m n : Nat) (v : Value) (L : List Ent) (wh : List Int) (id : Int) (w : World) (h : HpR w g gw m v n L wh) :
    Calls Try.prog 99 #[.pointer (some ⟨g, 0, none⟩), .int .i64 id] w fun e w' => e = .returned (.bool (decide (0 ≤ id) && decide (id < (m : Int)))) ∧ w = w' := by
  obtain ⟨f0, f1, f2⟩ := h.fields
  clear h
  by_cases h1 : 0 ≤ id
  all_goals
    go_enter Try.func99, Try.ntmps99
    go_wp2
    go_ret
    exact ⟨by simp [h1] <;> omega, rfl⟩
theorem mayNil_any (id : Int) (w : World) :
    Calls Try.prog 99 #[.pointer none, .int .i64 id] w fun e w' => e = .returned (.bool false) ∧ w = w' := by
  go_enter Try.func99, Try.ntmps99
  go_wp2
  go_ret
  exact ⟨rfl, rfl⟩

set_option maxHeartbeats 400000 in
theorem minNone_any (g gw m : Nat) (v : Value) (w : World) (h : HpI w g gw m v []) :
    Calls Try.prog 93 #[.pointer (some ⟨g, 0, none⟩)] w fun e w' => e = .returned (.tuple #[.agg #[.int .i64 0, .int .i64 0], .bool false]) ∧ Below w.heap.size w w' := by
  obtain ⟨n, L, wh, hr, hh, hn, hm, hnm⟩ := h
  obtain rfl : n = 0 := hn
  obtain ⟨f0, -, -⟩ := hr.fields
  obtain ⟨A, c, rfl, _⟩ := own_shape hr.row
  have hlt := hr.blk.lt
  clear hr hh
  go_enter Try.func93, Try.ntmps93
  go_wp2
  exact bodyPost_ret (v := .tuple #[.agg #[.int .i64 0, .int .i64 0], .bool false]) (by simp [results, Try.results93, go_sem]) rfl ⟨rfl, (Below.refl _ _).alloc (Nat.le_refl _) _⟩

set_option maxHeartbeats 400000 in
theorem min_any (g gw m : Nat) (v : Value) (x : Ent) (l : List Ent) (w : World) (h : HpI w g gw m v (x :: l)) :
    Calls Try.prog 93 #[.pointer (some ⟨g, 0, none⟩)] w fun e w' => e = .returned (.tuple #[.agg #[.int .i64 x.t, .int .i64 (x.id : Int)], .bool true]) ∧ Below w.heap.size w w' := by
  obtain ⟨n, L, wh, hr, hh, hn, hm, hnm⟩ := h
  have hx := hh.head
  have hn0 : 0 < n := by rw [hn]; simp
  obtain ⟨ge, c, rfl, _⟩ := hr.ent hn0
  obtain ⟨e1, e2, -, -⟩ := hr.cell_ent (i := 0) hn0
  obtain ⟨f0, -, -⟩ := hr.fields
  obtain ⟨-, -, -, n4, n5, n6⟩ := hr.ne
  rw [hx] at e1 e2
  have hne : ((n : Int) == 0) = false := by simp; omega
  clear hr hh hx hn
  go_enter Try.func93, Try.ntmps93
  go_wp2
  exact bodyPost_ret (v := .tuple #[.agg #[.int .i64 x.t, .int .i64 (x.id : Int)], .bool true]) (by simp [results, Try.results93, go_sem]) rfl ⟨rfl, (Below.refl _ _).alloc (Nat.le_refl _) _⟩

theorem len_any (g gw m : Nat) (v : Value) (l : List Ent) (w : World) (h : HpI w g gw m v l) :
    Calls Try.prog 96 #[.pointer (some ⟨g, 0, none⟩)] w fun e w' => e = .returned (.int .i64 (l.length : Int)) ∧ w = w' := by
  obtain ⟨n, L, wh, hr, hh, rfl, hm, hnm⟩ := h
  obtain ⟨f0, -, -⟩ := hr.fields
  obtain ⟨A, c, rfl, _⟩ := own_shape hr.row
  clear hr hh
  go_enter Try.func96, Try.ntmps96
  go_wp2
  go_ret
  exact ⟨rfl, rfl⟩
theorem most_any (g gw m : Nat) (v : Value) (l : List Ent) (w : World) (h : HpI w g gw m v l) :
    Calls Try.prog 54 #[.pointer (some ⟨g, 0, none⟩)] w fun e w' => e = .returned (.int .i64 (m : Int)) ∧ w = w' := by
  obtain ⟨n, L, wh, hr, hh, rfl, hm, hnm⟩ := h
  obtain ⟨-, f1, -⟩ := hr.fields
  clear hr hh
  go_enter Try.func54, Try.ntmps54
  go_wp2
  go_ret
  exact ⟨rfl, rfl⟩
end Go.Proofs.Ytdbiodofofnpgaa
namespace Go.Proofs.Ytdbiodofofnpgaa
open Go.RowKit

/-- What a call leaves of a heap: it holds l, and nothing but its own blocks has turned. -/
def HpPost (g gw m : Nat) (v : Value) (l : List Ent) (w w' : World) : Prop :=
  ∃ v', HpI w' g gw m v' l ∧ Keep (HpF g gw v) w w' ∧ ∀ k, v'.ownBlock = some k → v.ownBlock = some k ∨ w.heap.size ≤ k
theorem HpPost.trans {g gw m : Nat} {v : Value} {l1 l2 : List Ent} {w w1 w2 : World} (h : HpPost g gw m v l1 w w1) (h2 : ∀ v1, HpI w1 g gw m v1 l1 → HpPost g gw m v1 l2 w1 w2) : HpPost g gw m v l2 w w2 := by
  obtain ⟨v1, hi1, hk1, hb1⟩ := h
  obtain ⟨v2, hi2, hk2, hb2⟩ := h2 v1 hi1
  have hs := hk1.size
  refine ⟨v2, hi2, hk1.trans hk2 ?_, fun k hk => ?_⟩
  · rintro k (h | h | h)
    · exact .inl (.inl h)
    · exact .inl (.inr (.inl h))
    · rcases hb1 k h with h | h
      · exact .inl (.inr (.inr h))
      · exact .inr h
  · rcases hb2 k hk with h | h
    · exact hb1 k h
    · exact .inr (Nat.le_trans hs h)
theorem HpI.post {g gw m : Nat} {v : Value} {l : List Ent} {w w' : World} (h : HpI w g gw m v l) (hb : Below w.heap.size w w') : HpPost g gw m v l w w' :=
  ⟨v, h.below hb, Keep.of_below hb, fun _ hk => .inl hk⟩
theorem HpPost.pre {g gw m : Nat} {v : Value} {l : List Ent} {w w1 w' : World} (hb : Below w.heap.size w w1) (h : HpPost g gw m v l w1 w') : HpPost g gw m v l w w' := by
  obtain ⟨v', h1, h2, h3⟩ := h
  exact ⟨v', h1, (Keep.of_below hb).trans h2 (fun _ => .inl), fun k hk => (h3 k hk).imp id (fun h => Nat.le_trans hb.size h)⟩
theorem HpPost.suf {g gw m : Nat} {v : Value} {l : List Ent} {w w1 w' : World} (h : HpPost g gw m v l w w1) (hb : Below w1.heap.size w1 w') : HpPost g gw m v l w w' := by
  obtain ⟨v', h1, h2, h3⟩ := h
  exact ⟨v', h1.below hb, h2.trans (Keep.of_below (F := HpF g gw v) hb) (fun _ => .inl), h3⟩
theorem HpPost.box {g gw m B : Nat} {v : Value} {l : List Ent} {w W w4 w5 : World} (P : HpPost g gw m v l W w4) (hb : Below w.heap.size w W) (hB : w.heap.size ≤ B) (hBW : B < W.heap.size) (hn : ¬ HpF g gw v B) (hk : Keep (fun k => k = B) w4 w5) : HpPost g gw m v l w w5 := by
  obtain ⟨v', h1, h2, h3⟩ := P
  refine ⟨v', h1.keep hk ?_, ((Keep.of_below hb).trans h2 (fun _ => .inl)).trans hk (fun k hk => .inr (by omega)), fun k hk => (h3 k hk).imp id (fun h => Nat.le_trans hb.size h)⟩
  rintro x hx rfl
  rcases hx with hx | hx | hx
  · exact hn (.inl hx)
  · exact hn (.inr (.inl hx))
  · rcases h3 _ hx with h | h
    · exact hn (.inr (.inr h))
    · omega
theorem keep_box2 (B : Nat) (w : World) (u0 u1 : Value) : Keep (fun k => k = B) w ((w.setCell ⟨B, 0, none⟩ u0).setCell ⟨B, 1, none⟩ u1) :=
  (Keep.setCell (fun k => k = B) w ⟨B, 0, none⟩ u0 rfl).trans (Keep.setCell (fun k => k = B) _ ⟨B, 1, none⟩ u1 rfl) (fun _ => .inl)
/-- The slice's block is a row's of its own, the heap's other blocks stay. -/
theorem HpPost.lower {g gw m : Nat} {v : Value} {l : List Ent} {w w' : World} {B : Nat} (h : HpPost g gw m v l w w') (hB : B ≤ w.heap.size) (hf : ∀ k, HpF g gw v k → B ≤ k) : Below B w w' ∧ ∃ v', HpI w' g gw m v' l ∧ ∀ k, HpF g gw v' k → B ≤ k := by
  obtain ⟨v', h1, h2, h3⟩ := h
  refine ⟨h2.below hB hf, v', h1, ?_⟩
  rintro k (hk | hk | hk)
  · exact hf k (.inl hk)
  · exact hf k (.inr (.inl hk))
  · rcases h3 k hk with hk | hk
    · exact hf k (.inr (.inr hk))
    · omega

theorem cutH_any (g gw m n i : Nat) (v : Value) (L : List Ent) (wh : List Int) (l : List Ent) (w : World) (hr : HpR w g gw m v n L wh) (hh : HeapIs L wh m l) (hm : m ≤ 1024) (hi : i < n) :
    Calls Try.prog 101 #[.pointer (some ⟨g, 0, none⟩), .int .i64 (i : Int)] w fun en w' => en = .returned (.tuple #[]) ∧ HpPost g gw m v (cutE l (eg L i).id) w w' := by
  have hlen := hr.len
  have hle := hh.le
  obtain ⟨ge, c, rfl, hc⟩ := hr.ent (by omega)
  refine (cut_any g gw m ge c n (n - 1) i L wh l w hr hh hc (by omega) hi (by omega)).mono ?_
  rintro en w' ⟨rfl, A', wh', hr', hh', hk⟩
  have hl' := hh'.len
  have hlr := hr'.len
  have hle' := hh'.le
  exact ⟨rfl, _, ⟨_, A', wh', hr', hh', by omega, hm, by omega⟩, hk.mono (fun k _ h => h), fun k hk => .inl hk⟩

theorem HpI.cutHead {g gw m : Nat} {v : Value} {x : Ent} {l : List Ent} {w : World} (h : HpI w g gw m v (x :: l)) :
    Calls Try.prog 101 #[.pointer (some ⟨g, 0, none⟩), .int .i64 0] w fun en w' => en = .returned (.tuple #[]) ∧ HpPost g gw m v l w w' := by
  obtain ⟨n, L, wh, hr, hh, hn, hm, hnm⟩ := h
  have h1 := cutH_any g gw m n 0 v L wh _ w hr hh hm (by rw [hn]; simp)
  rw [hh.head, cutE_head hh.ids_ne] at h1
  exact h1

set_option maxRecDepth 20000 in
set_option maxHeartbeats 400000 in
theorem at_yes (g gw m : Nat) (v : Value) (l : List Ent) (e : Ent) (w : World) (h : HpI w g gw m v l) (he : e ∈ l) :
    Calls Try.prog 94 #[.pointer (some ⟨g, 0, none⟩), .int .i64 (e.id : Int)] w fun en w' => en = .returned (.tuple #[.int .i64 e.t, .bool true]) ∧ Below w.heap.size w w' := by
  obtain ⟨n, L, wh, hr, hh, hn, hm, hnm⟩ := h
  obtain ⟨i, hi, hid', hwg⟩ := hh.wg_yes (hasE_iff.2 ⟨e, he, rfl⟩)
  have hl := hr.len
  have hem : e.id < m := by rw [← hid']; exact hh.where_.ids i hi
  have hee : eg L i = e := hh.idsNe (hh.perm.subset (eg_mem hi)) he hid'
  obtain ⟨ge, c, rfl, hc⟩ := hr.ent (by omega)
  obtain ⟨e1, e2, -, -⟩ := hr.cell_ent (i := i) (by omega)
  obtain ⟨q1, -⟩ := hr.cell_wh hem
  obtain ⟨f0, f1, -⟩ := hr.fields
  rw [hee] at e1 e2
  rw [hwg] at q1
  have hin : i < n := by omega
  have HM := hid (may_any g gw m n _ L wh (e.id : Int) w hr)
  have hmay : (decide (0 ≤ (e.id : Int)) && decide ((e.id : Int) < (m : Int))) = true := by simp [hem]
  rw [hmay] at HM
  have hne : ((i : Int) == -1) = false := by simp <;> omega
  clear hr hh hn hl hi hid' hwg hee hmay
  go_enter Try.func94, Try.ntmps94
  go_wp2_with (go_at_call 99; refine HM.out.mono ?_; rintro en w2 ⟨rfl, rfl⟩)
  go_quiet (fail)
  go_wp2
  go_ret2
  exact ⟨rfl, drewN_below _ _⟩

set_option maxRecDepth 20000 in
set_option maxHeartbeats 400000 in
theorem at_no (g gw m : Nat) (v : Value) (l : List Ent) (id : Int) (w : World) (h : HpI w g gw m v l) (hno : id < 0 ∨ (m : Int) ≤ id ∨ hasE l id.toNat = false) :
    Calls Try.prog 94 #[.pointer (some ⟨g, 0, none⟩), .int .i64 id] w fun en w' => en = .returned (.tuple #[.int .i64 0, .bool false]) ∧ Below w.heap.size w w' := by
  obtain ⟨n, L, wh, hr, hh, hn, hm, hnm⟩ := h
  have HM := hid (may_any g gw m n _ L wh id w hr)
  by_cases hb : 0 ≤ id ∧ id < (m : Int)
  · obtain ⟨k, rfl⟩ : ∃ k : Nat, id = (k : Int) := ⟨id.toNat, by omega⟩
    have hno : hasE l k = false := by
      rcases hno with h | h | h
      · omega
      · omega
      · simpa using h
    have hkm : k < m := by omega
    have hmay : (decide (0 ≤ (k : Int)) && decide ((k : Int) < (m : Int))) = true := by simp <;> omega
    rw [hmay] at HM
    obtain ⟨q1, -⟩ := hr.cell_wh hkm
    rw [hh.wg_no hkm hno] at q1
    obtain ⟨f0, f1, -⟩ := hr.fields
    clear hr hh hn hmay hno hb
    go_enter Try.func94, Try.ntmps94
    go_wp2_with (go_at_call 99; refine HM.out.mono ?_; rintro en w2 ⟨rfl, rfl⟩)
    go_ret2
    exact ⟨rfl, Below.refl _ _⟩
  · have hmay : (decide (0 ≤ id) && decide (id < (m : Int))) = false := by
      rw [Bool.and_eq_false_iff, decide_eq_false_iff_not, decide_eq_false_iff_not]; omega
    rw [hmay] at HM
    clear hr hh hn hmay hno hb
    go_enter Try.func94, Try.ntmps94
    go_wp2_with (go_at_call 99; refine HM.out.mono ?_; rintro en w2 ⟨rfl, rfl⟩)
    go_ret2
    exact ⟨rfl, Below.refl _ _⟩

set_option maxHeartbeats 400000 in
theorem pop0_some (g gw m : Nat) (v : Value) (x : Ent) (l : List Ent) (w : World) (h : HpI w g gw m v (x :: l)) :
    Calls Try.prog 104 #[.pointer (some ⟨g, 0, none⟩)] w fun en w' => en = .returned (.tuple #[.agg #[.int .i64 x.t, .int .i64 (x.id : Int)], .bool true]) ∧ HpPost g gw m v l w w' := by
  have HI := hid h
  clear h
  go_enter Try.func104, Try.ntmps104
  go_wp2_with fail
  have H1 := hid (HI.out.below ((Below.refl _ _).alloc (Nat.le_refl _) (.cells #[.int .i64 0, .int .i64 0] 114)))
  refine (min_any g gw m v x l _ H1.out).mono ?_
  rintro en w1 ⟨rfl, hb1⟩
  have H2 := hid (H1.out.below hb1)
  have hs1 := hb1.size
  rw [World.size_alloc] at hs1
  have B1 : Hid (Below w.heap.size w w1) := ((Below.refl _ _).alloc (Nat.le_refl _) _).trans (hb1.mono (by simp))
  have HB1 := hid hb1
  clear hb1
  go_wp2_with fail
  have HC := hid ((H2.out.below ((Below.refl _ _).alloc (Nat.le_refl _) (.cells #[.int .i64 x.t, .int .i64 (x.id : Int)] 114))).cutHead)
  have hn0 : ¬ HpF g gw v w.heap.size := fun h => absurd (HI.out.lt _ h) (Nat.lt_irrefl _)
  have hn1 : ¬ HpF g gw v w1.heap.size := fun h => absurd (H2.out.lt _ h) (Nat.lt_irrefl _)
  refine HC.out.mono ?_
  rintro en w4 ⟨rfl, hp⟩
  have hk := hp.choose_spec.2.1
  have K1 : Keep (HpF g gw v) (w.alloc (.cells #[.int .i64 0, .int .i64 0] 114)) w4 := ((Keep.of_below HB1.out).trans (Keep.alloc (HpF g gw v) w1 _) (fun _ => .inl)).trans hk (fun _ => .inl)
  have hlt0 : w.heap.size < (w.alloc (.cells #[.int .i64 0, .int .i64 0] 114)).heap.size := by simp
  have t0 : w4.cell? ⟨w.heap.size, 0, none⟩ = some (.int .i64 0) := (K1.cell (o := 0) hlt0 hn0).trans ((Blk.new w _ _).cell 0)
  have t1 : w4.cell? ⟨w.heap.size, 1, none⟩ = some (.int .i64 0) := (K1.cell (o := 1) hlt0 hn0).trans ((Blk.new w _ _).cell 1)
  have t2 := (K1.frozen (o := 0) hlt0 hn0).trans ((Blk.new w _ _).frozen 0)
  have t3 := (K1.frozen (o := 1) hlt0 hn0).trans ((Blk.new w _ _).frozen 1)
  have t4 : w4.cell? ⟨w1.heap.size, 0, none⟩ = some (.int .i64 x.t) := (hk.cell (b := w1.heap.size) (o := 0) (by simp) hn1).trans ((Blk.new w1 _ _).cell 0)
  have t5 : w4.cell? ⟨w1.heap.size, 1, none⟩ = some (.int .i64 (x.id : Int)) := (hk.cell (b := w1.heap.size) (o := 1) (by simp) hn1).trans ((Blk.new w1 _ _).cell 1)
  have HP : Hid (HpPost g gw m v l w ((w4.setCell ⟨w.heap.size, 0, none⟩ (.int .i64 x.t)).setCell ⟨w.heap.size, 1, none⟩ (.int .i64 (x.id : Int)))) :=
    hp.box (B1.out.alloc (by omega) _) (Nat.le_refl _) (by simp; omega) hn0 (keep_box2 _ _ _ _)
  have s0 : (w4.setCell ⟨w.heap.size, 0, none⟩ (.int .i64 x.t)).cell? ⟨w.heap.size, 0, none⟩ = some (.int .i64 x.t) := cell_set_same t0
  clear hp hk HC H1 H2 K1 HB1
  go_wp2_with fail
  exact bodyPost_ret (v := .tuple #[.agg #[.int .i64 x.t, .int .i64 (x.id : Int)], .bool true]) (by simp [results, Try.results104, go_sem, s0, t1]) rfl ⟨rfl, HP.out⟩
end Go.Proofs.Ytdbiodofofnpgaa
namespace Go.Proofs.Ytdbiodofofnpgaa
open Go.RowKit

set_option maxHeartbeats 400000 in
theorem pop0_none (g gw m : Nat) (v : Value) (w : World) (h : HpI w g gw m v []) :
    Calls Try.prog 104 #[.pointer (some ⟨g, 0, none⟩)] w fun en w' => en = .returned (.tuple #[.agg #[.int .i64 0, .int .i64 0], .bool false]) ∧ Below w.heap.size w w' := by
  have HI := hid h
  clear h
  go_enter Try.func104, Try.ntmps104
  go_wp2_with fail
  have H1 := hid (HI.out.below ((Below.refl _ _).alloc (Nat.le_refl _) (.cells #[.int .i64 0, .int .i64 0] 114)))
  refine (minNone_any g gw m v _ H1.out).mono ?_
  rintro en w1 ⟨rfl, hb1⟩
  have hs1 := hb1.size
  rw [World.size_alloc] at hs1
  have B1 : Hid (Below w.heap.size w w1) := ((Below.refl _ _).alloc (Nat.le_refl _) _).trans (hb1.mono (by simp))
  have t0 : w1.cell? ⟨w.heap.size, 0, none⟩ = some (.int .i64 0) := (hb1.cell (p := ⟨w.heap.size, 0, none⟩) (by simp)).trans ((Blk.new w _ _).cell 0)
  have t1 : w1.cell? ⟨w.heap.size, 1, none⟩ = some (.int .i64 0) := (hb1.cell (p := ⟨w.heap.size, 1, none⟩) (by simp)).trans ((Blk.new w _ _).cell 1)
  have t2 := (hb1.frozen (p := ⟨w.heap.size, 0, none⟩) (by simp)).trans ((Blk.new w _ _).frozen 0)
  have t3 := (hb1.frozen (p := ⟨w.heap.size, 1, none⟩) (by simp)).trans ((Blk.new w _ _).frozen 1)
  have hne : w.heap.size ≠ w1.heap.size := by omega
  have hlt : w.heap.size < w1.heap.size := by omega
  have s0 : (w1.setCell ⟨w.heap.size, 0, none⟩ (.int .i64 0)).cell? ⟨w.heap.size, 0, none⟩ = some (.int .i64 0) := cell_set_same t0
  have HB : Hid (∀ o u0 u1, Below w.heap.size w (((w1.setCell ⟨w.heap.size, 0, none⟩ u0).setCell ⟨w.heap.size, 1, none⟩ u1).alloc o)) := fun o u0 u1 => ((B1.out.setCell (Nat.le_refl _) _).setCell (Nat.le_refl _) _).alloc (by simp; omega) _
  clear hb1 H1
  go_wp2_with fail
  exact bodyPost_ret (v := .tuple #[.agg #[.int .i64 0, .int .i64 0], .bool false]) (by simp [results, Try.results104, go_sem, s0, t1, hlt]) rfl ⟨rfl, HB.out _ _ _⟩

set_option maxHeartbeats 400000 in
theorem pop_none (g gw m : Nat) (v : Value) (w : World) (h : HpI w g gw m v []) :
    Calls Try.prog 61 #[.pointer (some ⟨g, 0, none⟩)] w fun en w' => en = .returned (.tuple #[.agg #[.int .i64 0, .int .i64 0], .bool false]) ∧ Below w.heap.size w w' := by
  have HI := hid h
  clear h
  go_enter Try.func61, Try.ntmps61
  go_wp2_with fail
  have H1 := hid (HI.out.below ((Below.refl _ _).alloc (Nat.le_refl _) (.cells #[.int .i64 0, .int .i64 0] 114)))
  refine (pop0_none g gw m v _ H1.out).mono ?_
  rintro en w1 ⟨rfl, hb1⟩
  have hs1 := hb1.size
  rw [World.size_alloc] at hs1
  have B1 : Hid (Below w.heap.size w w1) := ((Below.refl _ _).alloc (Nat.le_refl _) _).trans (hb1.mono (by simp))
  have t0 : w1.cell? ⟨w.heap.size, 0, none⟩ = some (.int .i64 0) := (hb1.cell (p := ⟨w.heap.size, 0, none⟩) (by simp)).trans ((Blk.new w _ _).cell 0)
  have t1 : w1.cell? ⟨w.heap.size, 1, none⟩ = some (.int .i64 0) := (hb1.cell (p := ⟨w.heap.size, 1, none⟩) (by simp)).trans ((Blk.new w _ _).cell 1)
  have t2 := (hb1.frozen (p := ⟨w.heap.size, 0, none⟩) (by simp)).trans ((Blk.new w _ _).frozen 0)
  have t3 := (hb1.frozen (p := ⟨w.heap.size, 1, none⟩) (by simp)).trans ((Blk.new w _ _).frozen 1)
  have s0 : (w1.setCell ⟨w.heap.size, 0, none⟩ (.int .i64 0)).cell? ⟨w.heap.size, 0, none⟩ = some (.int .i64 0) := cell_set_same t0
  have HB : Hid (∀ u0 u1, Below w.heap.size w ((w1.setCell ⟨w.heap.size, 0, none⟩ u0).setCell ⟨w.heap.size, 1, none⟩ u1)) := fun u0 u1 => (B1.out.setCell (Nat.le_refl _) _).setCell (Nat.le_refl _) _
  clear hb1 H1
  go_wp2_with fail
  exact bodyPost_ret (v := .tuple #[.agg #[.int .i64 0, .int .i64 0], .bool false]) (by simp [results, Try.results61, go_sem, s0, t1]) rfl ⟨rfl, HB.out _ _⟩

set_option maxHeartbeats 400000 in
theorem pop_some (g gw m : Nat) (v : Value) (x : Ent) (l : List Ent) (w : World) (h : HpI w g gw m v (x :: l)) :
    Calls Try.prog 61 #[.pointer (some ⟨g, 0, none⟩)] w fun en w' => en = .returned (.tuple #[.agg #[.int .i64 x.t, .int .i64 (x.id : Int)], .bool true]) ∧ HpPost g gw m v l w w' := by
  have HI := hid h
  clear h
  go_enter Try.func61, Try.ntmps61
  go_wp2_with fail
  have H1 := hid (HI.out.below ((Below.refl _ _).alloc (Nat.le_refl _) (.cells #[.int .i64 0, .int .i64 0] 114)))
  have hn0 : ¬ HpF g gw v w.heap.size := fun h => absurd (HI.out.lt _ h) (Nat.lt_irrefl _)
  refine (pop0_some g gw m v x l _ H1.out).mono ?_
  rintro en w1 ⟨rfl, hp⟩
  have hk := hp.choose_spec.2.1
  have hlt0 : w.heap.size < (w.alloc (.cells #[.int .i64 0, .int .i64 0] 114)).heap.size := by simp
  have t0 : w1.cell? ⟨w.heap.size, 0, none⟩ = some (.int .i64 0) := (hk.cell (o := 0) hlt0 hn0).trans ((Blk.new w _ _).cell 0)
  have t1 : w1.cell? ⟨w.heap.size, 1, none⟩ = some (.int .i64 0) := (hk.cell (o := 1) hlt0 hn0).trans ((Blk.new w _ _).cell 1)
  have t2 := (hk.frozen (o := 0) hlt0 hn0).trans ((Blk.new w _ _).frozen 0)
  have t3 := (hk.frozen (o := 1) hlt0 hn0).trans ((Blk.new w _ _).frozen 1)
  have HP : Hid (HpPost g gw m v l w ((w1.setCell ⟨w.heap.size, 0, none⟩ (.int .i64 x.t)).setCell ⟨w.heap.size, 1, none⟩ (.int .i64 (x.id : Int)))) :=
    hp.box ((Below.refl _ _).alloc (Nat.le_refl _) _) (Nat.le_refl _) (by simp) hn0 (keep_box2 _ _ _ _)
  have s0 : (w1.setCell ⟨w.heap.size, 0, none⟩ (.int .i64 x.t)).cell? ⟨w.heap.size, 0, none⟩ = some (.int .i64 x.t) := cell_set_same t0
  clear hp hk H1
  go_wp2_with fail
  exact bodyPost_ret (v := .tuple #[.agg #[.int .i64 x.t, .int .i64 (x.id : Int)], .bool true]) (by simp [results, Try.results61, go_sem, s0, t1]) rfl ⟨rfl, HP.out⟩
end Go.Proofs.Ytdbiodofofnpgaa
namespace Go.Proofs.Ytdbiodofofnpgaa
open Go.RowKit

theorem Try.infoEntry : (Try.prog.info? 114).map (fun i => (i.zero, i.size, i.bytes)) = some (some (.agg #[.int .i64 0, .int .i64 0]), 2, 16) := by kernel_rfl

set_option maxHeartbeats 400000 in
theorem set_out (g gw m : Nat) (v : Value) (l : List Ent) (id at_ : Int) (w : World) (h : HpI w g gw m v l) (hb : id < 0 ∨ (m : Int) ≤ id) :
    Calls Try.prog 57 #[.pointer (some ⟨g, 0, none⟩), .int .i64 id, .int .i64 at_] w fun en w' => en = .returned (.bool false) ∧ w = w' := by
  obtain ⟨n, L, wh, hr, hh, hn, hm, hnm⟩ := h
  have HM := hid (may_any g gw m n _ L wh id w hr)
  have hmay : (decide (0 ≤ id) && decide (id < (m : Int))) = false := by
    rw [Bool.and_eq_false_iff, decide_eq_false_iff_not, decide_eq_false_iff_not]; omega
  rw [hmay] at HM
  clear hr hh hn hmay hb
  go_enter Try.func57, Try.ntmps57
  go_wp2_with (go_at_call 99; refine HM.out.mono ?_; rintro en w2 ⟨rfl, rfl⟩)
  go_ret
  exact ⟨rfl, rfl⟩

set_option maxRecDepth 20000 in
set_option maxHeartbeats 800000 in
theorem set_none (g gw m : Nat) (v : Value) (l : List Ent) (k : Nat) (w : World) (h : HpI w g gw m v l) (hk : k < m) (hno : hasE l k = false) (at_ : Int) (hat : (at_ == 9223372036854775807) = true) :
    Calls Try.prog 57 #[.pointer (some ⟨g, 0, none⟩), .int .i64 (k : Int), .int .i64 at_] w fun en w' => en = .returned (.bool true) ∧ Below w.heap.size w w' := by
  obtain ⟨n, L, wh, hr, hh, hn, hm, hnm⟩ := h
  have HM := hid (may_any g gw m n _ L wh (k : Int) w hr)
  have hmay : (decide (0 ≤ (k : Int)) && decide ((k : Int) < (m : Int))) = true := by simp [hk]
  rw [hmay] at HM
  obtain ⟨q1, -⟩ := hr.cell_wh hk
  rw [hh.wg_no hk hno] at q1
  obtain ⟨f0, f1, -⟩ := hr.fields
  obtain ⟨m4, m5⟩ : g < w.heap.size ∧ gw < w.heap.size := ⟨hr.lt _ (.inl rfl), hr.lt _ (.inr (.inl rfl))⟩
  clear hr hh hn hmay hno
  go_enter Try.func57, Try.ntmps57
  go_wp2_with (first
    | (go_at_call 99; refine HM.out.mono ?_; rintro en w2 ⟨rfl, rfl⟩)
    | (go_at_call 100; refine (ownC_any _ _).mono ?_; rintro en w2 ⟨rfl, rfl⟩))
  go_ret
  exact ⟨rfl, (Below.refl _ _).alloc (Nat.le_refl _) _⟩

set_option maxRecDepth 20000 in
set_option maxHeartbeats 800000 in
theorem set_gone (g gw m : Nat) (v : Value) (l : List Ent) (k : Nat) (w : World) (h : HpI w g gw m v l) (hk : k < m) (hyes : hasE l k = true) (at_ : Int) (hat : (at_ == 9223372036854775807) = true) :
    Calls Try.prog 57 #[.pointer (some ⟨g, 0, none⟩), .int .i64 (k : Int), .int .i64 at_] w fun en w' => en = .returned (.bool true) ∧ HpPost g gw m v (cutE l k) w w' := by
  obtain ⟨n, L, wh, hr, hh, hn, hm, hnm⟩ := h
  have HM := hid (may_any g gw m n _ L wh (k : Int) w hr)
  have hmay : (decide (0 ≤ (k : Int)) && decide ((k : Int) < (m : Int))) = true := by simp [hk]
  rw [hmay] at HM
  obtain ⟨i, hi, hid', hwg⟩ := hh.wg_yes hyes
  have hl := hr.len
  obtain ⟨q1, -⟩ := hr.cell_wh hk
  rw [hwg] at q1
  obtain ⟨f0, f1, -⟩ := hr.fields
  obtain ⟨m4, m5⟩ : g < w.heap.size ∧ gw < w.heap.size := ⟨hr.lt _ (.inl rfl), hr.lt _ (.inr (.inl rfl))⟩
  have hne : ((i : Int) == -1) = false := by simp <;> omega
  have hne2 : ((i : Int) != -1) = true := by simp <;> omega
  have HC := hid (cutH_any g gw m n i v L wh l _ (hr.below ((Below.refl _ _).alloc (Nat.le_refl _) (.cells #[.int .i64 (ownT at_), .int .i64 (k : Int)] 114))) hh hm (by omega))
  rw [hid'] at HC
  clear hr hh hn hmay hyes hi hid' hwg hl
  go_enter Try.func57, Try.ntmps57
  go_wp2_with (first
    | (go_at_call 99; refine HM.out.mono ?_; rintro en w2 ⟨rfl, rfl⟩)
    | (go_at_call 100; refine (ownC_any _ _).mono ?_; rintro en w2 ⟨rfl, rfl⟩)
    | (go_at_call 101; refine HC.out.mono ?_; rintro en w5 ⟨rfl, hp⟩))
  go_ret
  exact ⟨rfl, hp.pre ((Below.refl _ _).alloc (Nat.le_refl _) _)⟩

set_option maxRecDepth 20000 in
set_option maxHeartbeats 800000 in
theorem set_old (g gw m : Nat) (v : Value) (l : List Ent) (k : Nat) (w : World) (h : HpI w g gw m v l) (hk : k < m) (hyes : hasE l k = true) (at_ : Int) (hat : (at_ == 9223372036854775807) = false) :
    Calls Try.prog 57 #[.pointer (some ⟨g, 0, none⟩), .int .i64 (k : Int), .int .i64 at_] w fun en w' => en = .returned (.bool true) ∧ HpPost g gw m v (insE ⟨ownT at_, k⟩ (cutE l k)) w w' := by
  obtain ⟨n, L, wh, hr, hh, hn, hm, hnm⟩ := h
  have HM := hid (may_any g gw m n _ L wh (k : Int) w hr)
  have hmay : (decide (0 ≤ (k : Int)) && decide ((k : Int) < (m : Int))) = true := by simp [hk]
  rw [hmay] at HM
  obtain ⟨i, hi, hid', hwg⟩ := hh.wg_yes hyes
  have hl := hr.len
  obtain ⟨ge, c, rfl, hc⟩ := hr.ent (by omega)
  obtain ⟨q1, -⟩ := hr.cell_wh hk
  rw [hwg] at q1
  obtain ⟨f0, f1, -⟩ := hr.fields
  obtain ⟨e1, e2, e3, e4⟩ := hr.cell_ent (i := i) (by omega)
  obtain ⟨n1, n2, n3, n4, n5, n6⟩ := hr.ne
  have hne : ((i : Int) == -1) = false := by simp <;> omega
  have hne2 : ((i : Int) != -1) = true := by simp <;> omega
  have hin : i < n := by omega
  have hr1 := hr.below ((Below.refl _ _).alloc (Nat.le_refl _) (.cells #[.int .i64 (ownT at_), .int .i64 (k : Int)] 114))
  have hr2 := (hr1.setEnt i ⟨ownT at_, k⟩).below (drewN_below _ 1)
  obtain ⟨hs, hw⟩ := hh.change hi (e := ⟨ownT at_, k⟩) hid'
  have HS := hid (settle_any g gw m ge c n _ wh i _ hr2 hin hs (hw.ex i) (by omega))
  have K1 : Hid (Keep (HpF g gw (.slice (some ⟨ge, 0, none⟩) n c)) w ((((w.alloc (.cells #[.int .i64 (ownT at_), .int .i64 (k : Int)] 114)).setCell ⟨ge, i * 2, none⟩ (.int .i64 (ownT at_))).setCell ⟨ge, i * 2 + 1, none⟩ (.int .i64 (k : Int))).drewN 1)) := by
    have hge : HpF g gw (.slice (some ⟨ge, 0, none⟩) n c) ge := .inr (.inr rfl)
    have k1 := (Keep.alloc (HpF g gw (.slice (some ⟨ge, 0, none⟩) n c)) w (.cells #[.int .i64 (ownT at_), .int .i64 (k : Int)] 114)).trans (Keep.setCell (HpF g gw (.slice (some ⟨ge, 0, none⟩) n c)) _ ⟨ge, i * 2, none⟩ (.int .i64 (ownT at_)) hge) (fun _ => .inl)
    have k2 := k1.trans (Keep.setCell (HpF g gw (.slice (some ⟨ge, 0, none⟩) n c)) _ ⟨ge, i * 2 + 1, none⟩ (.int .i64 (k : Int)) hge) (fun _ => .inl)
    exact k2.trans (Keep.drewN (HpF g gw (.slice (some ⟨ge, 0, none⟩) n c)) _ 1) (fun _ => .inl)
  have HH := hid hh
  have HI := hid hi
  have HD := hid hid'
  clear hr hr1 hr2 hh hn hmay hyes hi hid' hwg hl hs hw
  go_enter Try.func57, Try.ntmps57
  go_wp2_with (first
    | (go_at_call 99; refine HM.out.mono ?_; rintro en w2 ⟨rfl, rfl⟩)
    | (go_at_call 100; refine (ownC_any _ _).mono ?_; rintro en w2 ⟨rfl, rfl⟩))
  refine wp_region_tail 7 (by kernel_rfl) (by kernel_rfl) ?_
  simp only [List.take_succ_cons, List.take_zero, List.drop_succ_cons, List.drop_zero]
  repeat still_step
  refine wpStill_nil ?_
  go_wp2_with fail
  refine HS.out.mono ?_
  rintro en w5 ⟨rfl, A5, wh5, hr5, hp5, hh5, hw5, hk5⟩
  have HR : HpPost g gw m (.slice (some ⟨ge, 0, none⟩) n c) (insE ⟨ownT at_, k⟩ (cutE l k)) w w5 := by
    have h1 := HH.out.changed HI.out (e := ⟨ownT at_, k⟩) HD.out hp5 hh5 hw5
    have hle := h1.le
    have hl5 := hr5.len
    have h2 : A5.length = (insE ⟨ownT at_, k⟩ (cutE l k)).length := h1.len
    exact ⟨_, ⟨_, A5, wh5, hr5, h1, by omega, hm, by omega⟩, K1.out.trans hk5 (fun _ => .inl), fun k hk => .inl hk⟩
  clear HS hr5 hp5 hh5 hw5 hk5
  go_wp2_with fail
  go_ret
  exact ⟨rfl, HR⟩

theorem set_new_fin {w0 w5 : World} {g gw m n ge c : Nat} {v : Value} {L : List Ent} {wh : List Int} {e : Ent} (h : HpR w0 g gw m v n L wh) (hk : Keep (fun k => v.ownBlock = some k) w0 w5)
    (ho : w5.ownsRow 0 114 2 (.slice (some ⟨ge, 0, none⟩) (n + 1) c) (n + 1) (entCells L ++ e.cells)) : HpR (w5.setCell ⟨g, 0, none⟩ (.slice (some ⟨ge, 0, none⟩) (n + 1) c)) g gw m (.slice (some ⟨ge, 0, none⟩) (n + 1) c) (n + 1) (L ++ [e]) wh := by
  have hb := hk.blk h.blk (blk_ne h.blk h.row (by decide))
  have hw := hk.own h.whe (fun k hk1 hk2 => by
    rcases own_ne h.row h.whe (by decide) with h1 | h1
    · rw [h1] at hk2; cases hk2
    · exact h1 (hk2.trans hk1.symm))
  have hr : w5.ownsRow 0 114 2 (.slice (some ⟨ge, 0, none⟩) (n + 1) c) (n + 1) (entCells (L ++ [e])) := by
    rw [entCells_append]; simpa [entCells] using ho
  exact ⟨hb.set 0 _, own_kept_set hr ⟨g, 0, none⟩ _ (blk_ne hb hr (by decide)), own_kept_set hw ⟨g, 0, none⟩ _ (blk_ne hb hw (by decide))⟩
set_option maxRecDepth 20000 in
set_option maxHeartbeats 800000 in
theorem set_new (g gw m : Nat) (v : Value) (l : List Ent) (k : Nat) (w : World) (h : HpI w g gw m v l) (hk : k < m) (hno : hasE l k = false) (at_ : Int) (hat : (at_ == 9223372036854775807) = false) :
    Calls Try.prog 57 #[.pointer (some ⟨g, 0, none⟩), .int .i64 (k : Int), .int .i64 at_] w fun en w' => en = .returned (.bool true) ∧ HpPost g gw m v (insE ⟨ownT at_, k⟩ l) w w' := by
  obtain ⟨n, L, wh, hr, hh, hn, hm, hnm⟩ := h
  obtain ⟨A0, c0, rfl, _⟩ := own_shape hr.row
  have HM := hid (may_any g gw m n _ L wh (k : Int) w hr)
  have hmay : (decide (0 ≤ (k : Int)) && decide ((k : Int) < (m : Int))) = true := by simp [hk]
  rw [hmay] at HM
  have hl := hr.len
  obtain ⟨q1, -⟩ := hr.cell_wh hk
  rw [hh.wg_no hk hno] at q1
  obtain ⟨f0, f1, f2⟩ := hr.fields
  obtain ⟨m4, m5⟩ : g < w.heap.size ∧ gw < w.heap.size := ⟨hr.lt _ (.inl rfl), hr.lt _ (.inr (.inl rfl))⟩
  have hngv := blk_ne hr.blk hr.row (by decide)
  have hr1 := (hr.below ((Below.refl _ _).alloc (Nat.le_refl _) (.cells #[.int .i64 (ownT at_), .int .i64 (k : Int)] 114))).below (drewN_below _ 1)
  have HR1 := hid hr1
  obtain ⟨hs, hu⟩ := hh.heap.snoc ⟨ownT at_, k⟩
  have hw := hh.where_.snoc (e := ⟨ownT at_, k⟩) hk (hh.absent hno)
  have HSU := hid (And.intro hs (And.intro hu hw))
  have HH := hid hh
  have HNO := hid hno
  have HL := hid hl
  clear hr hr1 hh hn hmay hno hl hs hu hw
  go_enter Try.func57, Try.ntmps57
  go_wp2_with (first
    | (go_at_call 99; refine HM.out.mono ?_; rintro en w2 ⟨rfl, rfl⟩)
    | (go_at_call 100; refine (ownC_any _ _).mono ?_; rintro en w2 ⟨rfl, rfl⟩))
  refine wp_region_ord (.val 0 (.val 1 (.val 2 (.val 3 (.two 4 (.op 5 (.op 6 (.op 7 (.val 8 (.val 9 (.op 10 (.nil))))))) 5 (.two 4 (.op 6 (.op 7 (.val 8 (.val 9 (.op 10 (.nil)))))) 6 (.op 4 (.op 7 (.val 8 (.val 9 (.op 10 (.nil)))))))))))) (by kernel_rfl) (by kernel_rfl) ?_
  repeat (refine wpOrd_val rfl ?_; go_big_quiet_step (fail); refine wpQuiet_nil ?_)
  refine wpOrd_two rfl rfl ?_ ?_
  · go_wp2_with fail
    refine wpOrd_op rfl ?_
    go_wp2_with fail
    refine wpOrd_op rfl ?_
    go_wp2_with fail
    refine wpOrd_op rfl ?_
    go_wp2_with (at_builtin; refine wpList_append1K _ rfl _ _ 104 rfl 0 114 _ 2 16 Try.underlying104 Try.infoEntry rfl (by decide) _ _ _ rfl HR1.out.row 1 (Ent.cells ⟨ownT at_, k⟩) (by go_simp) rfl rfl ?_ (by decide) (Nat.zero_le _) ?_)
    · omega
    intro ge c w5 hown5 hk5 hf5
    have g5 := (hk5.cell (b := g) (o := 0) (by simp; omega) hngv).trans HR1.out.fields.1
    have h5 := (hk5.frozen (b := g) (o := 0) (by simp; omega) hngv).trans HR1.out.fields.2.2
    have hlt5 : g < w5.heap.size := Nat.lt_of_lt_of_le (by simp; omega) hk5.size
    have HR6 := hid (set_new_fin HR1.out hk5 hown5)
    have HK6 : Hid (Keep (HpF g gw (.slice A0 n c0)) w (w5.setCell ⟨g, 0, none⟩ (.slice (some ⟨ge, 0, none⟩) (n + 1) c))) := by
      have k1 := ((Keep.alloc (HpF g gw (.slice A0 n c0)) w (.cells #[.int .i64 (ownT at_), .int .i64 (k : Int)] 114)).trans (Keep.drewN (HpF g gw (.slice A0 n c0)) _ 1) (fun _ => .inl)).trans hk5 (fun k hk => .inl (.inr (.inr hk)))
      exact k1.trans (Keep.setCell (HpF g gw (.slice A0 n c0)) w5 ⟨g, 0, none⟩ _ (.inl rfl)) (fun _ => .inl)
    have HF5 := hid hf5
    clear hown5 hk5 hf5
    go_wp2_with fail
    repeat (refine wpOrd_val rfl ?_; go_big_quiet_step (fail); refine wpQuiet_nil ?_)
    refine wpOrd_op rfl ?_
    go_wp2_with fail
    refine wpOrd_nil ?_
    have HU := hid (up_any g gw m ge c (n + 1) (L ++ [⟨ownT at_, k⟩]) wh n _ HR6.out (by omega) (by have := HSU.out.1; rwa [HL.out] at this) (by have := HSU.out.2.2; rwa [HL.out] at this) (by omega))
    have hn1 : ((n + 1 : Nat) : Int) - 1 = (n : Int) := by omega
    go_wp2_with fail
    refine HU.out.mono ?_
    rintro en w7 ⟨rfl, A7, wh7, i7, hr7, hp7, hi7, he7, hs7, ho7, hu7, hw7, hk7⟩
    have HP : HpPost g gw m (.slice A0 n c0) (insE ⟨ownT at_, k⟩ l) w w7 := by
      have hh7 := heap_of hs7 (hu7 (by have := HSU.out.2.1; rwa [HL.out] at this)) ho7
      have h1 := HH.out.pushed (e := ⟨ownT at_, k⟩) HNO.out hp7 hh7 hw7
      have hle := h1.le
      have hl7 := hr7.len
      have h2 : A7.length = (insE ⟨ownT at_, k⟩ l).length := h1.len
      refine ⟨_, ⟨_, A7, wh7, hr7, h1, by omega, hm, by omega⟩, HK6.out.trans hk7 ?_, ?_⟩
      · rintro x (hx | hx | hx)
        · exact .inl (.inl hx)
        · exact .inl (.inr (.inl hx))
        · simp only [Value.ownBlock, Option.some.injEq] at hx
          subst hx
          rcases HF5.out with hx | hx
          · exact .inl (.inr (.inr hx))
          · right; first | omega | (simp at hx; omega)
      · intro x hx
        simp only [Value.ownBlock, Option.some.injEq] at hx
        subst hx
        rcases HF5.out with hx | hx
        · exact .inl hx
        · right; first | omega | (simp at hx; omega)
    clear HU hr7 hp7 he7 hs7 ho7 hu7 hw7 hk7
    go_wp2_with fail
    go_ret
    exact ⟨rfl, HP⟩
  · go_wp2_with fail
    refine wpOrd_two rfl rfl ?_ ?_
    · go_wp2_with fail
      refine wpOrd_op rfl ?_
      go_wp2_with fail
      refine wpOrd_op rfl ?_
      go_wp2_with (at_builtin; refine wpList_append1K _ rfl _ _ 104 rfl 0 114 _ 2 16 Try.underlying104 Try.infoEntry rfl (by decide) _ _ _ rfl HR1.out.row 1 (Ent.cells ⟨ownT at_, k⟩) (by go_simp) rfl rfl ?_ (by decide) (Nat.zero_le _) ?_)
      · omega
      intro ge c w5 hown5 hk5 hf5
      have g5 := (hk5.cell (b := g) (o := 0) (by simp; omega) hngv).trans HR1.out.fields.1
      have h5 := (hk5.frozen (b := g) (o := 0) (by simp; omega) hngv).trans HR1.out.fields.2.2
      have hlt5 : g < w5.heap.size := Nat.lt_of_lt_of_le (by simp; omega) hk5.size
      have HR6 := hid (set_new_fin HR1.out hk5 hown5)
      have HK6 : Hid (Keep (HpF g gw (.slice A0 n c0)) w (w5.setCell ⟨g, 0, none⟩ (.slice (some ⟨ge, 0, none⟩) (n + 1) c))) := by
        have k1 := ((Keep.alloc (HpF g gw (.slice A0 n c0)) w (.cells #[.int .i64 (ownT at_), .int .i64 (k : Int)] 114)).trans (Keep.drewN (HpF g gw (.slice A0 n c0)) _ 1) (fun _ => .inl)).trans hk5 (fun k hk => .inl (.inr (.inr hk)))
        exact k1.trans (Keep.setCell (HpF g gw (.slice A0 n c0)) w5 ⟨g, 0, none⟩ _ (.inl rfl)) (fun _ => .inl)
      have HF5 := hid hf5
      clear hown5 hk5 hf5
      go_wp2_with fail
      repeat (refine wpOrd_val rfl ?_; go_big_quiet_step (fail); refine wpQuiet_nil ?_)
      refine wpOrd_op rfl ?_
      go_wp2_with fail
      refine wpOrd_nil ?_
      have HU := hid (up_any g gw m ge c (n + 1) (L ++ [⟨ownT at_, k⟩]) wh n _ HR6.out (by omega) (by have := HSU.out.1; rwa [HL.out] at this) (by have := HSU.out.2.2; rwa [HL.out] at this) (by omega))
      have hn1 : ((n + 1 : Nat) : Int) - 1 = (n : Int) := by omega
      go_wp2_with fail
      refine HU.out.mono ?_
      rintro en w7 ⟨rfl, A7, wh7, i7, hr7, hp7, hi7, he7, hs7, ho7, hu7, hw7, hk7⟩
      have HP : HpPost g gw m (.slice A0 n c0) (insE ⟨ownT at_, k⟩ l) w w7 := by
        have hh7 := heap_of hs7 (hu7 (by have := HSU.out.2.1; rwa [HL.out] at this)) ho7
        have h1 := HH.out.pushed (e := ⟨ownT at_, k⟩) HNO.out hp7 hh7 hw7
        have hle := h1.le
        have hl7 := hr7.len
        have h2 : A7.length = (insE ⟨ownT at_, k⟩ l).length := h1.len
        refine ⟨_, ⟨_, A7, wh7, hr7, h1, by omega, hm, by omega⟩, HK6.out.trans hk7 ?_, ?_⟩
        · rintro x (hx | hx | hx)
          · exact .inl (.inl hx)
          · exact .inl (.inr (.inl hx))
          · simp only [Value.ownBlock, Option.some.injEq] at hx
            subst hx
            rcases HF5.out with hx | hx
            · exact .inl (.inr (.inr hx))
            · right; first | omega | (simp at hx; omega)
        · intro x hx
          simp only [Value.ownBlock, Option.some.injEq] at hx
          subst hx
          rcases HF5.out with hx | hx
          · exact .inl hx
          · right; first | omega | (simp at hx; omega)
      clear HU hr7 hp7 he7 hs7 ho7 hu7 hw7 hk7
      go_wp2_with fail
      go_ret
      exact ⟨rfl, HP⟩
    · go_wp2_with fail
      refine wpOrd_op rfl ?_
      go_wp2_with fail
      refine wpOrd_op rfl ?_
      go_wp2_with (at_builtin; refine wpList_append1K _ rfl _ _ 104 rfl 0 114 _ 2 16 Try.underlying104 Try.infoEntry rfl (by decide) _ _ _ rfl HR1.out.row 1 (Ent.cells ⟨ownT at_, k⟩) (by go_simp) rfl rfl ?_ (by decide) (Nat.zero_le _) ?_)
      · omega
      intro ge c w5 hown5 hk5 hf5
      have g5 := (hk5.cell (b := g) (o := 0) (by simp; omega) hngv).trans HR1.out.fields.1
      have h5 := (hk5.frozen (b := g) (o := 0) (by simp; omega) hngv).trans HR1.out.fields.2.2
      have hlt5 : g < w5.heap.size := Nat.lt_of_lt_of_le (by simp; omega) hk5.size
      have HR6 := hid (set_new_fin HR1.out hk5 hown5)
      have HK6 : Hid (Keep (HpF g gw (.slice A0 n c0)) w (w5.setCell ⟨g, 0, none⟩ (.slice (some ⟨ge, 0, none⟩) (n + 1) c))) := by
        have k1 := ((Keep.alloc (HpF g gw (.slice A0 n c0)) w (.cells #[.int .i64 (ownT at_), .int .i64 (k : Int)] 114)).trans (Keep.drewN (HpF g gw (.slice A0 n c0)) _ 1) (fun _ => .inl)).trans hk5 (fun k hk => .inl (.inr (.inr hk)))
        exact k1.trans (Keep.setCell (HpF g gw (.slice A0 n c0)) w5 ⟨g, 0, none⟩ _ (.inl rfl)) (fun _ => .inl)
      have HF5 := hid hf5
      clear hown5 hk5 hf5
      go_wp2_with fail
      repeat (refine wpOrd_val rfl ?_; go_big_quiet_step (fail); refine wpQuiet_nil ?_)
      refine wpOrd_op rfl ?_
      go_wp2_with fail
      refine wpOrd_nil ?_
      have HU := hid (up_any g gw m ge c (n + 1) (L ++ [⟨ownT at_, k⟩]) wh n _ HR6.out (by omega) (by have := HSU.out.1; rwa [HL.out] at this) (by have := HSU.out.2.2; rwa [HL.out] at this) (by omega))
      have hn1 : ((n + 1 : Nat) : Int) - 1 = (n : Int) := by omega
      go_wp2_with fail
      refine HU.out.mono ?_
      rintro en w7 ⟨rfl, A7, wh7, i7, hr7, hp7, hi7, he7, hs7, ho7, hu7, hw7, hk7⟩
      have HP : HpPost g gw m (.slice A0 n c0) (insE ⟨ownT at_, k⟩ l) w w7 := by
        have hh7 := heap_of hs7 (hu7 (by have := HSU.out.2.1; rwa [HL.out] at this)) ho7
        have h1 := HH.out.pushed (e := ⟨ownT at_, k⟩) HNO.out hp7 hh7 hw7
        have hle := h1.le
        have hl7 := hr7.len
        have h2 : A7.length = (insE ⟨ownT at_, k⟩ l).length := h1.len
        refine ⟨_, ⟨_, A7, wh7, hr7, h1, by omega, hm, by omega⟩, HK6.out.trans hk7 ?_, ?_⟩
        · rintro x (hx | hx | hx)
          · exact .inl (.inl hx)
          · exact .inl (.inr (.inl hx))
          · simp only [Value.ownBlock, Option.some.injEq] at hx
            subst hx
            rcases HF5.out with hx | hx
            · exact .inl (.inr (.inr hx))
            · right; first | omega | (simp at hx; omega)
        · intro x hx
          simp only [Value.ownBlock, Option.some.injEq] at hx
          subst hx
          rcases HF5.out with hx | hx
          · exact .inl hx
          · right; first | omega | (simp at hx; omega)
      clear HU hr7 hp7 he7 hs7 ho7 hu7 hw7 hk7
      go_wp2_with fail
      go_ret
      exact ⟨rfl, HP⟩
end Go.Proofs.Ytdbiodofofnpgaa
