/- Walks: package heap: Set. -/
import Derived.Test.YtdhoedohchbagaaHm
import Derived.Test.YtdhoedohchbagaaMix2
namespace Go.Proofs.Ytdhoedohchbagaa
open Go.RowKit

theorem Try.infoEntry : (Try.prog.info? 38).map (fun i => (i.zero, i.size, i.bytes)) = some (some (.agg #[.int .i64 0, .int .i64 0]), 2, 16) := by kernel_rfl

set_option maxHeartbeats 400000 in
theorem set_out (g gw m : Nat) (v : Value) (l : List Ent) (id at_ : Int) (w : World) (h : HpI w g gw m v l) (hb : id < 0 ∨ (m : Int) ≤ id) :
    Calls Try.prog 20 #[.pointer (some ⟨g, 0, none⟩), .int .i64 id, .int .i64 at_] w fun en w' => en = .returned (.bool false) ∧ w = w' := by
  obtain ⟨n, L, wh, hr, hh, hn, hm, hnm⟩ := h
  have HM := hid (may_any g gw m n _ L wh id w hr)
  have hmay : (decide (0 ≤ id) && decide (id < (m : Int))) = false := by
    rw [Bool.and_eq_false_iff, decide_eq_false_iff_not, decide_eq_false_iff_not]; omega
  rw [hmay] at HM
  clear hr hh hn hmay hb
  go_enter Try.func20, Try.ntmps20
  go_wp2_with (go_at_call 74; refine HM.out.mono ?_; rintro en w2 ⟨rfl, rfl⟩)
  go_ret
  exact ⟨rfl, rfl⟩

set_option maxRecDepth 20000 in
set_option maxHeartbeats 800000 in
theorem set_none (g gw m : Nat) (v : Value) (l : List Ent) (k : Nat) (w : World) (h : HpI w g gw m v l) (hk : k < m) (hno : hasE l k = false) (at_ : Int) (hat : (at_ == 9223372036854775807) = true) :
    Calls Try.prog 20 #[.pointer (some ⟨g, 0, none⟩), .int .i64 (k : Int), .int .i64 at_] w fun en w' => en = .returned (.bool true) ∧ Below w.heap.size w w' := by
  obtain ⟨n, L, wh, hr, hh, hn, hm, hnm⟩ := h
  have HM := hid (may_any g gw m n _ L wh (k : Int) w hr)
  have hmay : (decide (0 ≤ (k : Int)) && decide ((k : Int) < (m : Int))) = true := by simp [hk]
  rw [hmay] at HM
  obtain ⟨q1, -⟩ := hr.cell_wh hk
  rw [hh.wg_no hk hno] at q1
  obtain ⟨f0, f1, -⟩ := hr.fields
  obtain ⟨m4, m5⟩ : g < w.heap.size ∧ gw < w.heap.size := ⟨hr.lt _ (.inl rfl), hr.lt _ (.inr (.inl rfl))⟩
  clear hr hh hn hmay hno
  go_enter Try.func20, Try.ntmps20
  go_wp2_with (first
    | (go_at_call 74; refine HM.out.mono ?_; rintro en w2 ⟨rfl, rfl⟩)
    | (go_at_call 75; refine (ownC_any _ _).mono ?_; rintro en w2 ⟨rfl, rfl⟩))
  go_ret
  exact ⟨rfl, (Below.refl _ _).alloc (Nat.le_refl _) _⟩

set_option maxRecDepth 20000 in
set_option maxHeartbeats 800000 in
theorem set_gone (g gw m : Nat) (v : Value) (l : List Ent) (k : Nat) (w : World) (h : HpI w g gw m v l) (hk : k < m) (hyes : hasE l k = true) (at_ : Int) (hat : (at_ == 9223372036854775807) = true) :
    Calls Try.prog 20 #[.pointer (some ⟨g, 0, none⟩), .int .i64 (k : Int), .int .i64 at_] w fun en w' => en = .returned (.bool true) ∧ HpPost g gw m v (cutE l k) w w' := by
  obtain ⟨n, L, wh, hr, hh, hn, hm, hnm⟩ := h
  have HM := hid (may_any g gw m n _ L wh (k : Int) w hr)
  have hmay : (decide (0 ≤ (k : Int)) && decide ((k : Int) < (m : Int))) = true := by simp [hk]
  rw [hmay] at HM
  obtain ⟨i, hi, hid', hwg⟩ := hh.wg_yes hyes
  have hl := hr.len
  obtain ⟨q1, -⟩ := hr.cell_wh hk
  rw [hwg] at q1
  obtain ⟨f0, f1, -⟩ := hr.fields
  obtain ⟨m4, m5⟩ : g < w.heap.size ∧ gw < w.heap.size := ⟨hr.lt _ (.inl rfl), hr.lt _ (.inr (.inl rfl))⟩
  have hne : ((i : Int) == -1) = false := by simp <;> omega
  have hne2 : ((i : Int) != -1) = true := by simp <;> omega
  have HC := hid (cutH_any g gw m n i v L wh l _ (hr.below ((Below.refl _ _).alloc (Nat.le_refl _) (.cells #[.int .i64 (ownT at_), .int .i64 (k : Int)] 38))) hh hm (by omega))
  rw [hid'] at HC
  clear hr hh hn hmay hyes hi hid' hwg hl
  go_enter Try.func20, Try.ntmps20
  go_wp2_with (first
    | (go_at_call 74; refine HM.out.mono ?_; rintro en w2 ⟨rfl, rfl⟩)
    | (go_at_call 75; refine (ownC_any _ _).mono ?_; rintro en w2 ⟨rfl, rfl⟩)
    | (go_at_call 76; refine HC.out.mono ?_; rintro en w5 ⟨rfl, hp⟩))
  go_ret
  exact ⟨rfl, hp.pre ((Below.refl _ _).alloc (Nat.le_refl _) _)⟩

set_option maxRecDepth 20000 in
set_option maxHeartbeats 800000 in
theorem set_old (g gw m : Nat) (v : Value) (l : List Ent) (k : Nat) (w : World) (h : HpI w g gw m v l) (hk : k < m) (hyes : hasE l k = true) (at_ : Int) (hat : (at_ == 9223372036854775807) = false) :
    Calls Try.prog 20 #[.pointer (some ⟨g, 0, none⟩), .int .i64 (k : Int), .int .i64 at_] w fun en w' => en = .returned (.bool true) ∧ HpPost g gw m v (insE ⟨ownT at_, k⟩ (cutE l k)) w w' := by
  obtain ⟨n, L, wh, hr, hh, hn, hm, hnm⟩ := h
  have HM := hid (may_any g gw m n _ L wh (k : Int) w hr)
  have hmay : (decide (0 ≤ (k : Int)) && decide ((k : Int) < (m : Int))) = true := by simp [hk]
  rw [hmay] at HM
  obtain ⟨i, hi, hid', hwg⟩ := hh.wg_yes hyes
  have hl := hr.len
  obtain ⟨ge, c, rfl, hc⟩ := hr.ent (by omega)
  obtain ⟨q1, -⟩ := hr.cell_wh hk
  rw [hwg] at q1
  obtain ⟨f0, f1, -⟩ := hr.fields
  obtain ⟨e1, e2, e3, e4⟩ := hr.cell_ent (i := i) (by omega)
  obtain ⟨n1, n2, n3, n4, n5, n6⟩ := hr.ne
  have hne : ((i : Int) == -1) = false := by simp <;> omega
  have hne2 : ((i : Int) != -1) = true := by simp <;> omega
  have hin : i < n := by omega
  have hr1 := hr.below ((Below.refl _ _).alloc (Nat.le_refl _) (.cells #[.int .i64 (ownT at_), .int .i64 (k : Int)] 38))
  have hr2 := (hr1.setEnt i ⟨ownT at_, k⟩).below (drewN_below _ 1)
  obtain ⟨hs, hw⟩ := hh.change hi (e := ⟨ownT at_, k⟩) hid'
  have HS := hid (settle_any g gw m ge c n _ wh i _ hr2 hin hs (hw.ex i) (by omega))
  have K1 : Hid (Keep (HpF g gw (.slice (some ⟨ge, 0, none⟩) n c)) w ((((w.alloc (.cells #[.int .i64 (ownT at_), .int .i64 (k : Int)] 38)).setCell ⟨ge, i * 2, none⟩ (.int .i64 (ownT at_))).setCell ⟨ge, i * 2 + 1, none⟩ (.int .i64 (k : Int))).drewN 1)) := by
    have hge : HpF g gw (.slice (some ⟨ge, 0, none⟩) n c) ge := .inr (.inr rfl)
    have k1 := (Keep.alloc (HpF g gw (.slice (some ⟨ge, 0, none⟩) n c)) w (.cells #[.int .i64 (ownT at_), .int .i64 (k : Int)] 38)).trans (Keep.setCell (HpF g gw (.slice (some ⟨ge, 0, none⟩) n c)) _ ⟨ge, i * 2, none⟩ (.int .i64 (ownT at_)) hge) (fun _ => .inl)
    have k2 := k1.trans (Keep.setCell (HpF g gw (.slice (some ⟨ge, 0, none⟩) n c)) _ ⟨ge, i * 2 + 1, none⟩ (.int .i64 (k : Int)) hge) (fun _ => .inl)
    exact k2.trans (Keep.drewN (HpF g gw (.slice (some ⟨ge, 0, none⟩) n c)) _ 1) (fun _ => .inl)
  have HH := hid hh
  have HI := hid hi
  have HD := hid hid'
  clear hr hr1 hr2 hh hn hmay hyes hi hid' hwg hl hs hw
  go_enter Try.func20, Try.ntmps20
  go_wp2_with (first
    | (go_at_call 74; refine HM.out.mono ?_; rintro en w2 ⟨rfl, rfl⟩)
    | (go_at_call 75; refine (ownC_any _ _).mono ?_; rintro en w2 ⟨rfl, rfl⟩))
  refine wp_region_tail 7 (by kernel_rfl) (by kernel_rfl) ?_
  simp only [List.take_succ_cons, List.take_zero, List.drop_succ_cons, List.drop_zero]
  repeat still_step
  refine wpStill_nil ?_
  go_wp2_with fail
  refine HS.out.mono ?_
  rintro en w5 ⟨rfl, A5, wh5, hr5, hp5, hh5, hw5, hk5⟩
  have HR : HpPost g gw m (.slice (some ⟨ge, 0, none⟩) n c) (insE ⟨ownT at_, k⟩ (cutE l k)) w w5 := by
    have h1 := HH.out.changed HI.out (e := ⟨ownT at_, k⟩) HD.out hp5 hh5 hw5
    have hle := h1.le
    have hl5 := hr5.len
    have h2 : A5.length = (insE ⟨ownT at_, k⟩ (cutE l k)).length := h1.len
    exact ⟨_, ⟨_, A5, wh5, hr5, h1, by omega, hm, by omega⟩, K1.out.trans hk5 (fun _ => .inl), fun k hk => .inl hk⟩
  clear HS hr5 hp5 hh5 hw5 hk5
  go_wp2_with fail
  go_ret
  exact ⟨rfl, HR⟩

theorem set_new_fin {w0 w5 : World} {g gw m n ge c : Nat} {v : Value} {L : List Ent} {wh : List Int} {e : Ent} (h : HpR w0 g gw m v n L wh) (hk : Keep (fun k => v.ownBlock = some k) w0 w5)
    (ho : w5.ownsRow 0 38 2 (.slice (some ⟨ge, 0, none⟩) (n + 1) c) (n + 1) (entCells L ++ e.cells)) : HpR (w5.setCell ⟨g, 0, none⟩ (.slice (some ⟨ge, 0, none⟩) (n + 1) c)) g gw m (.slice (some ⟨ge, 0, none⟩) (n + 1) c) (n + 1) (L ++ [e]) wh := by
  have hb := hk.blk h.blk (blk_ne h.blk h.row (by decide))
  have hw := hk.own h.whe (fun k hk1 hk2 => by
    rcases own_ne h.row h.whe (by decide) with h1 | h1
    · rw [h1] at hk2; cases hk2
    · exact h1 (hk2.trans hk1.symm))
  have hr : w5.ownsRow 0 38 2 (.slice (some ⟨ge, 0, none⟩) (n + 1) c) (n + 1) (entCells (L ++ [e])) := by
    rw [entCells_append]; simpa [entCells] using ho
  exact ⟨hb.set 0 _, own_kept_set hr ⟨g, 0, none⟩ _ (blk_ne hb hr (by decide)), own_kept_set hw ⟨g, 0, none⟩ _ (blk_ne hb hw (by decide))⟩
set_option maxRecDepth 20000 in
set_option maxHeartbeats 800000 in
theorem set_new (g gw m : Nat) (v : Value) (l : List Ent) (k : Nat) (w : World) (h : HpI w g gw m v l) (hk : k < m) (hno : hasE l k = false) (at_ : Int) (hat : (at_ == 9223372036854775807) = false) :
    Calls Try.prog 20 #[.pointer (some ⟨g, 0, none⟩), .int .i64 (k : Int), .int .i64 at_] w fun en w' => en = .returned (.bool true) ∧ HpPost g gw m v (insE ⟨ownT at_, k⟩ l) w w' := by
  obtain ⟨n, L, wh, hr, hh, hn, hm, hnm⟩ := h
  obtain ⟨A0, c0, rfl, _⟩ := own_shape hr.row
  have HM := hid (may_any g gw m n _ L wh (k : Int) w hr)
  have hmay : (decide (0 ≤ (k : Int)) && decide ((k : Int) < (m : Int))) = true := by simp [hk]
  rw [hmay] at HM
  have hl := hr.len
  obtain ⟨q1, -⟩ := hr.cell_wh hk
  rw [hh.wg_no hk hno] at q1
  obtain ⟨f0, f1, f2⟩ := hr.fields
  obtain ⟨m4, m5⟩ : g < w.heap.size ∧ gw < w.heap.size := ⟨hr.lt _ (.inl rfl), hr.lt _ (.inr (.inl rfl))⟩
  have hngv := blk_ne hr.blk hr.row (by decide)
  have hr1 := (hr.below ((Below.refl _ _).alloc (Nat.le_refl _) (.cells #[.int .i64 (ownT at_), .int .i64 (k : Int)] 38))).below (drewN_below _ 1)
  have HR1 := hid hr1
  obtain ⟨hs, hu⟩ := hh.heap.snoc ⟨ownT at_, k⟩
  have hw := hh.where_.snoc (e := ⟨ownT at_, k⟩) hk (hh.absent hno)
  have HSU := hid (And.intro hs (And.intro hu hw))
  have HH := hid hh
  have HNO := hid hno
  have HL := hid hl
  clear hr hr1 hh hn hmay hno hl hs hu hw
  go_enter Try.func20, Try.ntmps20
  go_wp2_with (first
    | (go_at_call 74; refine HM.out.mono ?_; rintro en w2 ⟨rfl, rfl⟩)
    | (go_at_call 75; refine (ownC_any _ _).mono ?_; rintro en w2 ⟨rfl, rfl⟩))
  refine wp_region_ord (.val 0 (.val 1 (.val 2 (.val 3 (.two 4 (.op 5 (.op 6 (.op 7 (.val 8 (.val 9 (.op 10 (.nil))))))) 5 (.two 4 (.op 6 (.op 7 (.val 8 (.val 9 (.op 10 (.nil)))))) 6 (.op 4 (.op 7 (.val 8 (.val 9 (.op 10 (.nil)))))))))))) (by kernel_rfl) (by kernel_rfl) ?_
  repeat (refine wpOrd_val rfl ?_; go_big_quiet_step (fail); refine wpQuiet_nil ?_)
  refine wpOrd_two rfl rfl ?_ ?_
  · go_wp2_with fail
    refine wpOrd_op rfl ?_
    go_wp2_with fail
    refine wpOrd_op rfl ?_
    go_wp2_with fail
    refine wpOrd_op rfl ?_
    go_wp2_with (at_builtin; refine wpList_append1K _ rfl _ _ 33 rfl 0 38 _ 2 16 Try.underlying33 Try.infoEntry rfl (by decide) _ _ _ rfl HR1.out.row 1 (Ent.cells ⟨ownT at_, k⟩) (by go_simp) rfl rfl ?_ (by decide) (Nat.zero_le _) ?_)
    · omega
    intro ge c w5 hown5 hk5 hf5
    have g5 := (hk5.cell (b := g) (o := 0) (by simp; omega) hngv).trans HR1.out.fields.1
    have h5 := (hk5.frozen (b := g) (o := 0) (by simp; omega) hngv).trans HR1.out.fields.2.2
    have hlt5 : g < w5.heap.size := Nat.lt_of_lt_of_le (by simp; omega) hk5.size
    have HR6 := hid (set_new_fin HR1.out hk5 hown5)
    have HK6 : Hid (Keep (HpF g gw (.slice A0 n c0)) w (w5.setCell ⟨g, 0, none⟩ (.slice (some ⟨ge, 0, none⟩) (n + 1) c))) := by
      have k1 := ((Keep.alloc (HpF g gw (.slice A0 n c0)) w (.cells #[.int .i64 (ownT at_), .int .i64 (k : Int)] 38)).trans (Keep.drewN (HpF g gw (.slice A0 n c0)) _ 1) (fun _ => .inl)).trans hk5 (fun k hk => .inl (.inr (.inr hk)))
      exact k1.trans (Keep.setCell (HpF g gw (.slice A0 n c0)) w5 ⟨g, 0, none⟩ _ (.inl rfl)) (fun _ => .inl)
    have HF5 := hid hf5
    clear hown5 hk5 hf5
    go_wp2_with fail
    repeat (refine wpOrd_val rfl ?_; go_big_quiet_step (fail); refine wpQuiet_nil ?_)
    refine wpOrd_op rfl ?_
    go_wp2_with fail
    refine wpOrd_nil ?_
    have HU := hid (up_any g gw m ge c (n + 1) (L ++ [⟨ownT at_, k⟩]) wh n _ HR6.out (by omega) (by have := HSU.out.1; rwa [HL.out] at this) (by have := HSU.out.2.2; rwa [HL.out] at this) (by omega))
    have hn1 : ((n + 1 : Nat) : Int) - 1 = (n : Int) := by omega
    go_wp2_with fail
    refine HU.out.mono ?_
    rintro en w7 ⟨rfl, A7, wh7, i7, hr7, hp7, hi7, he7, hs7, ho7, hu7, hw7, hk7⟩
    have HP : HpPost g gw m (.slice A0 n c0) (insE ⟨ownT at_, k⟩ l) w w7 := by
      have hh7 := heap_of hs7 (hu7 (by have := HSU.out.2.1; rwa [HL.out] at this)) ho7
      have h1 := HH.out.pushed (e := ⟨ownT at_, k⟩) HNO.out hp7 hh7 hw7
      have hle := h1.le
      have hl7 := hr7.len
      have h2 : A7.length = (insE ⟨ownT at_, k⟩ l).length := h1.len
      refine ⟨_, ⟨_, A7, wh7, hr7, h1, by omega, hm, by omega⟩, HK6.out.trans hk7 ?_, ?_⟩
      · rintro x (hx | hx | hx)
        · exact .inl (.inl hx)
        · exact .inl (.inr (.inl hx))
        · simp only [Value.ownBlock, Option.some.injEq] at hx
          subst hx
          rcases HF5.out with hx | hx
          · exact .inl (.inr (.inr hx))
          · right; first | omega | (simp at hx; omega)
      · intro x hx
        simp only [Value.ownBlock, Option.some.injEq] at hx
        subst hx
        rcases HF5.out with hx | hx
        · exact .inl hx
        · right; first | omega | (simp at hx; omega)
    clear HU hr7 hp7 he7 hs7 ho7 hu7 hw7 hk7
    go_wp2_with fail
    go_ret
    exact ⟨rfl, HP⟩
  · go_wp2_with fail
    refine wpOrd_two rfl rfl ?_ ?_
    · go_wp2_with fail
      refine wpOrd_op rfl ?_
      go_wp2_with fail
      refine wpOrd_op rfl ?_
      go_wp2_with (at_builtin; refine wpList_append1K _ rfl _ _ 33 rfl 0 38 _ 2 16 Try.underlying33 Try.infoEntry rfl (by decide) _ _ _ rfl HR1.out.row 1 (Ent.cells ⟨ownT at_, k⟩) (by go_simp) rfl rfl ?_ (by decide) (Nat.zero_le _) ?_)
      · omega
      intro ge c w5 hown5 hk5 hf5
      have g5 := (hk5.cell (b := g) (o := 0) (by simp; omega) hngv).trans HR1.out.fields.1
      have h5 := (hk5.frozen (b := g) (o := 0) (by simp; omega) hngv).trans HR1.out.fields.2.2
      have hlt5 : g < w5.heap.size := Nat.lt_of_lt_of_le (by simp; omega) hk5.size
      have HR6 := hid (set_new_fin HR1.out hk5 hown5)
      have HK6 : Hid (Keep (HpF g gw (.slice A0 n c0)) w (w5.setCell ⟨g, 0, none⟩ (.slice (some ⟨ge, 0, none⟩) (n + 1) c))) := by
        have k1 := ((Keep.alloc (HpF g gw (.slice A0 n c0)) w (.cells #[.int .i64 (ownT at_), .int .i64 (k : Int)] 38)).trans (Keep.drewN (HpF g gw (.slice A0 n c0)) _ 1) (fun _ => .inl)).trans hk5 (fun k hk => .inl (.inr (.inr hk)))
        exact k1.trans (Keep.setCell (HpF g gw (.slice A0 n c0)) w5 ⟨g, 0, none⟩ _ (.inl rfl)) (fun _ => .inl)
      have HF5 := hid hf5
      clear hown5 hk5 hf5
      go_wp2_with fail
      repeat (refine wpOrd_val rfl ?_; go_big_quiet_step (fail); refine wpQuiet_nil ?_)
      refine wpOrd_op rfl ?_
      go_wp2_with fail
      refine wpOrd_nil ?_
      have HU := hid (up_any g gw m ge c (n + 1) (L ++ [⟨ownT at_, k⟩]) wh n _ HR6.out (by omega) (by have := HSU.out.1; rwa [HL.out] at this) (by have := HSU.out.2.2; rwa [HL.out] at this) (by omega))
      have hn1 : ((n + 1 : Nat) : Int) - 1 = (n : Int) := by omega
      go_wp2_with fail
      refine HU.out.mono ?_
      rintro en w7 ⟨rfl, A7, wh7, i7, hr7, hp7, hi7, he7, hs7, ho7, hu7, hw7, hk7⟩
      have HP : HpPost g gw m (.slice A0 n c0) (insE ⟨ownT at_, k⟩ l) w w7 := by
        have hh7 := heap_of hs7 (hu7 (by have := HSU.out.2.1; rwa [HL.out] at this)) ho7
        have h1 := HH.out.pushed (e := ⟨ownT at_, k⟩) HNO.out hp7 hh7 hw7
        have hle := h1.le
        have hl7 := hr7.len
        have h2 : A7.length = (insE ⟨ownT at_, k⟩ l).length := h1.len
        refine ⟨_, ⟨_, A7, wh7, hr7, h1, by omega, hm, by omega⟩, HK6.out.trans hk7 ?_, ?_⟩
        · rintro x (hx | hx | hx)
          · exact .inl (.inl hx)
          · exact .inl (.inr (.inl hx))
          · simp only [Value.ownBlock, Option.some.injEq] at hx
            subst hx
            rcases HF5.out with hx | hx
            · exact .inl (.inr (.inr hx))
            · right; first | omega | (simp at hx; omega)
        · intro x hx
          simp only [Value.ownBlock, Option.some.injEq] at hx
          subst hx
          rcases HF5.out with hx | hx
          · exact .inl hx
          · right; first | omega | (simp at hx; omega)
      clear HU hr7 hp7 he7 hs7 ho7 hu7 hw7 hk7
      go_wp2_with fail
      go_ret
      exact ⟨rfl, HP⟩
    · go_wp2_with fail
      refine wpOrd_op rfl ?_
      go_wp2_with fail
      refine wpOrd_op rfl ?_
      go_wp2_with (at_builtin; refine wpList_append1K _ rfl _ _ 33 rfl 0 38 _ 2 16 Try.underlying33 Try.infoEntry rfl (by decide) _ _ _ rfl HR1.out.row 1 (Ent.cells ⟨ownT at_, k⟩) (by go_simp) rfl rfl ?_ (by decide) (Nat.zero_le _) ?_)
      · omega
      intro ge c w5 hown5 hk5 hf5
      have g5 := (hk5.cell (b := g) (o := 0) (by simp; omega) hngv).trans HR1.out.fields.1
      have h5 := (hk5.frozen (b := g) (o := 0) (by simp; omega) hngv).trans HR1.out.fields.2.2
      have hlt5 : g < w5.heap.size := Nat.lt_of_lt_of_le (by simp; omega) hk5.size
      have HR6 := hid (set_new_fin HR1.out hk5 hown5)
      have HK6 : Hid (Keep (HpF g gw (.slice A0 n c0)) w (w5.setCell ⟨g, 0, none⟩ (.slice (some ⟨ge, 0, none⟩) (n + 1) c))) := by
        have k1 := ((Keep.alloc (HpF g gw (.slice A0 n c0)) w (.cells #[.int .i64 (ownT at_), .int .i64 (k : Int)] 38)).trans (Keep.drewN (HpF g gw (.slice A0 n c0)) _ 1) (fun _ => .inl)).trans hk5 (fun k hk => .inl (.inr (.inr hk)))
        exact k1.trans (Keep.setCell (HpF g gw (.slice A0 n c0)) w5 ⟨g, 0, none⟩ _ (.inl rfl)) (fun _ => .inl)
      have HF5 := hid hf5
      clear hown5 hk5 hf5
      go_wp2_with fail
      repeat (refine wpOrd_val rfl ?_; go_big_quiet_step (fail); refine wpQuiet_nil ?_)
      refine wpOrd_op rfl ?_
      go_wp2_with fail
      refine wpOrd_nil ?_
      have HU := hid (up_any g gw m ge c (n + 1) (L ++ [⟨ownT at_, k⟩]) wh n _ HR6.out (by omega) (by have := HSU.out.1; rwa [HL.out] at this) (by have := HSU.out.2.2; rwa [HL.out] at this) (by omega))
      have hn1 : ((n + 1 : Nat) : Int) - 1 = (n : Int) := by omega
      go_wp2_with fail
      refine HU.out.mono ?_
      rintro en w7 ⟨rfl, A7, wh7, i7, hr7, hp7, hi7, he7, hs7, ho7, hu7, hw7, hk7⟩
      have HP : HpPost g gw m (.slice A0 n c0) (insE ⟨ownT at_, k⟩ l) w w7 := by
        have hh7 := heap_of hs7 (hu7 (by have := HSU.out.2.1; rwa [HL.out] at this)) ho7
        have h1 := HH.out.pushed (e := ⟨ownT at_, k⟩) HNO.out hp7 hh7 hw7
        have hle := h1.le
        have hl7 := hr7.len
        have h2 : A7.length = (insE ⟨ownT at_, k⟩ l).length := h1.len
        refine ⟨_, ⟨_, A7, wh7, hr7, h1, by omega, hm, by omega⟩, HK6.out.trans hk7 ?_, ?_⟩
        · rintro x (hx | hx | hx)
          · exact .inl (.inl hx)
          · exact .inl (.inr (.inl hx))
          · simp only [Value.ownBlock, Option.some.injEq] at hx
            subst hx
            rcases HF5.out with hx | hx
            · exact .inl (.inr (.inr hx))
            · right; first | omega | (simp at hx; omega)
        · intro x hx
          simp only [Value.ownBlock, Option.some.injEq] at hx
          subst hx
          rcases HF5.out with hx | hx
          · exact .inl hx
          · right; first | omega | (simp at hx; omega)
      clear HU hr7 hp7 he7 hs7 ho7 hu7 hw7 hk7
      go_wp2_with fail
      go_ret
      exact ⟨rfl, HP⟩
end Go.Proofs.Ytdhoedohchbagaa
