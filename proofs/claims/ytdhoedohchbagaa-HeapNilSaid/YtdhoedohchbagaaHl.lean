/- Walks: package heap: At, cut, pop, Pop over the heap as an object. -/
import Derived.Test.YtdhoedohchbagaaHk
namespace Go.Proofs.Ytdhoedohchbagaa
open Go.RowKit

/-- What a call leaves of a heap: it holds l, and nothing but its own blocks has turned. -/
def HpPost (g gw m : Nat) (v : Value) (l : List Ent) (w w' : World) : Prop :=
  ∃ v', HpI w' g gw m v' l ∧ Keep (HpF g gw v) w w' ∧ ∀ k, v'.ownBlock = some k → v.ownBlock = some k ∨ w.heap.size ≤ k
theorem HpPost.trans {g gw m : Nat} {v : Value} {l1 l2 : List Ent} {w w1 w2 : World} (h : HpPost g gw m v l1 w w1) (h2 : ∀ v1, HpI w1 g gw m v1 l1 → HpPost g gw m v1 l2 w1 w2) : HpPost g gw m v l2 w w2 := by
  obtain ⟨v1, hi1, hk1, hb1⟩ := h
  obtain ⟨v2, hi2, hk2, hb2⟩ := h2 v1 hi1
  have hs := hk1.size
  refine ⟨v2, hi2, hk1.trans hk2 ?_, fun k hk => ?_⟩
  · rintro k (h | h | h)
    · exact .inl (.inl h)
    · exact .inl (.inr (.inl h))
    · rcases hb1 k h with h | h
      · exact .inl (.inr (.inr h))
      · exact .inr h
  · rcases hb2 k hk with h | h
    · exact hb1 k h
    · exact .inr (Nat.le_trans hs h)
theorem HpI.post {g gw m : Nat} {v : Value} {l : List Ent} {w w' : World} (h : HpI w g gw m v l) (hb : Below w.heap.size w w') : HpPost g gw m v l w w' :=
  ⟨v, h.below hb, Keep.of_below hb, fun _ hk => .inl hk⟩
theorem HpPost.pre {g gw m : Nat} {v : Value} {l : List Ent} {w w1 w' : World} (hb : Below w.heap.size w w1) (h : HpPost g gw m v l w1 w') : HpPost g gw m v l w w' := by
  obtain ⟨v', h1, h2, h3⟩ := h
  exact ⟨v', h1, (Keep.of_below hb).trans h2 (fun _ => .inl), fun k hk => (h3 k hk).imp id (fun h => Nat.le_trans hb.size h)⟩
theorem HpPost.suf {g gw m : Nat} {v : Value} {l : List Ent} {w w1 w' : World} (h : HpPost g gw m v l w w1) (hb : Below w1.heap.size w1 w') : HpPost g gw m v l w w' := by
  obtain ⟨v', h1, h2, h3⟩ := h
  exact ⟨v', h1.below hb, h2.trans (Keep.of_below (F := HpF g gw v) hb) (fun _ => .inl), h3⟩
theorem HpPost.box {g gw m B : Nat} {v : Value} {l : List Ent} {w W w4 w5 : World} (P : HpPost g gw m v l W w4) (hb : Below w.heap.size w W) (hB : w.heap.size ≤ B) (hBW : B < W.heap.size) (hn : ¬ HpF g gw v B) (hk : Keep (fun k => k = B) w4 w5) : HpPost g gw m v l w w5 := by
  obtain ⟨v', h1, h2, h3⟩ := P
  refine ⟨v', h1.keep hk ?_, ((Keep.of_below hb).trans h2 (fun _ => .inl)).trans hk (fun k hk => .inr (by omega)), fun k hk => (h3 k hk).imp id (fun h => Nat.le_trans hb.size h)⟩
  rintro x hx rfl
  rcases hx with hx | hx | hx
  · exact hn (.inl hx)
  · exact hn (.inr (.inl hx))
  · rcases h3 _ hx with h | h
    · exact hn (.inr (.inr h))
    · omega
theorem keep_box2 (B : Nat) (w : World) (u0 u1 : Value) : Keep (fun k => k = B) w ((w.setCell ⟨B, 0, none⟩ u0).setCell ⟨B, 1, none⟩ u1) :=
  (Keep.setCell (fun k => k = B) w ⟨B, 0, none⟩ u0 rfl).trans (Keep.setCell (fun k => k = B) _ ⟨B, 1, none⟩ u1 rfl) (fun _ => .inl)
/-- The slice's block is a row's of its own, the heap's other blocks stay. -/
theorem HpPost.lower {g gw m : Nat} {v : Value} {l : List Ent} {w w' : World} {B : Nat} (h : HpPost g gw m v l w w') (hB : B ≤ w.heap.size) (hf : ∀ k, HpF g gw v k → B ≤ k) : Below B w w' ∧ ∃ v', HpI w' g gw m v' l ∧ ∀ k, HpF g gw v' k → B ≤ k := by
  obtain ⟨v', h1, h2, h3⟩ := h
  refine ⟨h2.below hB hf, v', h1, ?_⟩
  rintro k (hk | hk | hk)
  · exact hf k (.inl hk)
  · exact hf k (.inr (.inl hk))
  · rcases h3 k hk with hk | hk
    · exact hf k (.inr (.inr hk))
    · omega

theorem cutH_any (g gw m n i : Nat) (v : Value) (L : List Ent) (wh : List Int) (l : List Ent) (w : World) (hr : HpR w g gw m v n L wh) (hh : HeapIs L wh m l) (hm : m ≤ 1024) (hi : i < n) :
    Calls Try.prog 76 #[.pointer (some ⟨g, 0, none⟩), .int .i64 (i : Int)] w fun en w' => en = .returned (.tuple #[]) ∧ HpPost g gw m v (cutE l (eg L i).id) w w' := by
  have hlen := hr.len
  have hle := hh.le
  obtain ⟨ge, c, rfl, hc⟩ := hr.ent (by omega)
  refine (cut_any g gw m ge c n (n - 1) i L wh l w hr hh hc (by omega) hi (by omega)).mono ?_
  rintro en w' ⟨rfl, A', wh', hr', hh', hk⟩
  have hl' := hh'.len
  have hlr := hr'.len
  have hle' := hh'.le
  exact ⟨rfl, _, ⟨_, A', wh', hr', hh', by omega, hm, by omega⟩, hk.mono (fun k _ h => h), fun k hk => .inl hk⟩

theorem HpI.cutHead {g gw m : Nat} {v : Value} {x : Ent} {l : List Ent} {w : World} (h : HpI w g gw m v (x :: l)) :
    Calls Try.prog 76 #[.pointer (some ⟨g, 0, none⟩), .int .i64 0] w fun en w' => en = .returned (.tuple #[]) ∧ HpPost g gw m v l w w' := by
  obtain ⟨n, L, wh, hr, hh, hn, hm, hnm⟩ := h
  have h1 := cutH_any g gw m n 0 v L wh _ w hr hh hm (by rw [hn]; simp)
  rw [hh.head, cutE_head hh.ids_ne] at h1
  exact h1

set_option maxRecDepth 20000 in
set_option maxHeartbeats 400000 in
theorem at_yes (g gw m : Nat) (v : Value) (l : List Ent) (e : Ent) (w : World) (h : HpI w g gw m v l) (he : e ∈ l) :
    Calls Try.prog 22 #[.pointer (some ⟨g, 0, none⟩), .int .i64 (e.id : Int)] w fun en w' => en = .returned (.tuple #[.int .i64 e.t, .bool true]) ∧ Below w.heap.size w w' := by
  obtain ⟨n, L, wh, hr, hh, hn, hm, hnm⟩ := h
  obtain ⟨i, hi, hid', hwg⟩ := hh.wg_yes (hasE_iff.2 ⟨e, he, rfl⟩)
  have hl := hr.len
  have hem : e.id < m := by rw [← hid']; exact hh.where_.ids i hi
  have hee : eg L i = e := hh.idsNe (hh.perm.subset (eg_mem hi)) he hid'
  obtain ⟨ge, c, rfl, hc⟩ := hr.ent (by omega)
  obtain ⟨e1, e2, -, -⟩ := hr.cell_ent (i := i) (by omega)
  obtain ⟨q1, -⟩ := hr.cell_wh hem
  obtain ⟨f0, f1, -⟩ := hr.fields
  rw [hee] at e1 e2
  rw [hwg] at q1
  have hin : i < n := by omega
  have HM := hid (may_any g gw m n _ L wh (e.id : Int) w hr)
  have hmay : (decide (0 ≤ (e.id : Int)) && decide ((e.id : Int) < (m : Int))) = true := by simp [hem]
  rw [hmay] at HM
  have hne : ((i : Int) == -1) = false := by simp <;> omega
  clear hr hh hn hl hi hid' hwg hee hmay
  go_enter Try.func22, Try.ntmps22
  go_wp2_with (go_at_call 74; refine HM.out.mono ?_; rintro en w2 ⟨rfl, rfl⟩)
  go_quiet (fail)
  go_wp2
  go_ret2
  exact ⟨rfl, drewN_below _ _⟩

set_option maxRecDepth 20000 in
set_option maxHeartbeats 400000 in
theorem at_no (g gw m : Nat) (v : Value) (l : List Ent) (id : Int) (w : World) (h : HpI w g gw m v l) (hno : id < 0 ∨ (m : Int) ≤ id ∨ hasE l id.toNat = false) :
    Calls Try.prog 22 #[.pointer (some ⟨g, 0, none⟩), .int .i64 id] w fun en w' => en = .returned (.tuple #[.int .i64 0, .bool false]) ∧ Below w.heap.size w w' := by
  obtain ⟨n, L, wh, hr, hh, hn, hm, hnm⟩ := h
  have HM := hid (may_any g gw m n _ L wh id w hr)
  by_cases hb : 0 ≤ id ∧ id < (m : Int)
  · obtain ⟨k, rfl⟩ : ∃ k : Nat, id = (k : Int) := ⟨id.toNat, by omega⟩
    have hno : hasE l k = false := by
      rcases hno with h | h | h
      · omega
      · omega
      · simpa using h
    have hkm : k < m := by omega
    have hmay : (decide (0 ≤ (k : Int)) && decide ((k : Int) < (m : Int))) = true := by simp <;> omega
    rw [hmay] at HM
    obtain ⟨q1, -⟩ := hr.cell_wh hkm
    rw [hh.wg_no hkm hno] at q1
    obtain ⟨f0, f1, -⟩ := hr.fields
    clear hr hh hn hmay hno hb
    go_enter Try.func22, Try.ntmps22
    go_wp2_with (go_at_call 74; refine HM.out.mono ?_; rintro en w2 ⟨rfl, rfl⟩)
    go_ret2
    exact ⟨rfl, Below.refl _ _⟩
  · have hmay : (decide (0 ≤ id) && decide (id < (m : Int))) = false := by
      rw [Bool.and_eq_false_iff, decide_eq_false_iff_not, decide_eq_false_iff_not]; omega
    rw [hmay] at HM
    clear hr hh hn hmay hno hb
    go_enter Try.func22, Try.ntmps22
    go_wp2_with (go_at_call 74; refine HM.out.mono ?_; rintro en w2 ⟨rfl, rfl⟩)
    go_ret2
    exact ⟨rfl, Below.refl _ _⟩

set_option maxHeartbeats 400000 in
theorem pop0_some (g gw m : Nat) (v : Value) (x : Ent) (l : List Ent) (w : World) (h : HpI w g gw m v (x :: l)) :
    Calls Try.prog 81 #[.pointer (some ⟨g, 0, none⟩)] w fun en w' => en = .returned (.tuple #[.agg #[.int .i64 x.t, .int .i64 (x.id : Int)], .bool true]) ∧ HpPost g gw m v l w w' := by
  have HI := hid h
  clear h
  go_enter Try.func81, Try.ntmps81
  go_wp2_with fail
  have H1 := hid (HI.out.below ((Below.refl _ _).alloc (Nat.le_refl _) (.cells #[.int .i64 0, .int .i64 0] 38)))
  refine (min_any g gw m v x l _ H1.out).mono ?_
  rintro en w1 ⟨rfl, hb1⟩
  have H2 := hid (H1.out.below hb1)
  have hs1 := hb1.size
  rw [World.size_alloc] at hs1
  have B1 : Hid (Below w.heap.size w w1) := ((Below.refl _ _).alloc (Nat.le_refl _) _).trans (hb1.mono (by simp))
  have HB1 := hid hb1
  clear hb1
  go_wp2_with fail
  have HC := hid ((H2.out.below ((Below.refl _ _).alloc (Nat.le_refl _) (.cells #[.int .i64 x.t, .int .i64 (x.id : Int)] 38))).cutHead)
  have hn0 : ¬ HpF g gw v w.heap.size := fun h => absurd (HI.out.lt _ h) (Nat.lt_irrefl _)
  have hn1 : ¬ HpF g gw v w1.heap.size := fun h => absurd (H2.out.lt _ h) (Nat.lt_irrefl _)
  refine HC.out.mono ?_
  rintro en w4 ⟨rfl, hp⟩
  have hk := hp.choose_spec.2.1
  have K1 : Keep (HpF g gw v) (w.alloc (.cells #[.int .i64 0, .int .i64 0] 38)) w4 := ((Keep.of_below HB1.out).trans (Keep.alloc (HpF g gw v) w1 _) (fun _ => .inl)).trans hk (fun _ => .inl)
  have hlt0 : w.heap.size < (w.alloc (.cells #[.int .i64 0, .int .i64 0] 38)).heap.size := by simp
  have t0 : w4.cell? ⟨w.heap.size, 0, none⟩ = some (.int .i64 0) := (K1.cell (o := 0) hlt0 hn0).trans ((Blk.new w _ _).cell 0)
  have t1 : w4.cell? ⟨w.heap.size, 1, none⟩ = some (.int .i64 0) := (K1.cell (o := 1) hlt0 hn0).trans ((Blk.new w _ _).cell 1)
  have t2 := (K1.frozen (o := 0) hlt0 hn0).trans ((Blk.new w _ _).frozen 0)
  have t3 := (K1.frozen (o := 1) hlt0 hn0).trans ((Blk.new w _ _).frozen 1)
  have t4 : w4.cell? ⟨w1.heap.size, 0, none⟩ = some (.int .i64 x.t) := (hk.cell (b := w1.heap.size) (o := 0) (by simp) hn1).trans ((Blk.new w1 _ _).cell 0)
  have t5 : w4.cell? ⟨w1.heap.size, 1, none⟩ = some (.int .i64 (x.id : Int)) := (hk.cell (b := w1.heap.size) (o := 1) (by simp) hn1).trans ((Blk.new w1 _ _).cell 1)
  have HP : Hid (HpPost g gw m v l w ((w4.setCell ⟨w.heap.size, 0, none⟩ (.int .i64 x.t)).setCell ⟨w.heap.size, 1, none⟩ (.int .i64 (x.id : Int)))) :=
    hp.box (B1.out.alloc (by omega) _) (Nat.le_refl _) (by simp; omega) hn0 (keep_box2 _ _ _ _)
  have s0 : (w4.setCell ⟨w.heap.size, 0, none⟩ (.int .i64 x.t)).cell? ⟨w.heap.size, 0, none⟩ = some (.int .i64 x.t) := cell_set_same t0
  clear hp hk HC H1 H2 K1 HB1
  go_wp2_with fail
  exact bodyPost_ret (v := .tuple #[.agg #[.int .i64 x.t, .int .i64 (x.id : Int)], .bool true]) (by simp [results, Try.results81, go_sem, s0, t1]) rfl ⟨rfl, HP.out⟩
end Go.Proofs.Ytdhoedohchbagaa
