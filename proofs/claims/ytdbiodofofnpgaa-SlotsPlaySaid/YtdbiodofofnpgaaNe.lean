/- Slots: what each call turns; New of any number. Walks: the reference of layer 28: Slot, Who, New. -/
import Derived.Test.YtdbiodofofnpgaaNc
import Derived.Test.YtdbiodofofnpgaaNa
import Derived.Test.YtdbiodofofnpgaaNd
namespace Go.Proofs.Ytdbiodofofnpgaa
open Go.RowKit Go.Maps

def SlF (g gw gm k : Nat) : Prop := k = g ∨ k = gw ∨ k = gm

set_option maxRecDepth 20000 in
set_option maxHeartbeats 400000 in
theorem skipK_any (g gw gm base m : Nat) (who : List Int) (next n : Nat) (D : DataW Unit) (w : World) (h : SlP w g gw gm base m who next n D) (hn : next < 4096) :
    Calls Try.prog 49 #[.pointer (some ⟨g, 0, none⟩)] w fun e w' => e = .returned (.int .i64 (next : Int)) ∧ SlP w' g gw gm base m who (next + 1) n D ∧ Keep (SlF g gw gm) w w' := by
  have HS := hid (h.setNext (next + 1))
  obtain ⟨hb, _⟩ := h
  have c2 := hb.cell 2
  have f2 := hb.frozen 2
  simp only [List.getElem?_toArray] at c2
  have HB : Hid (∀ u, Keep (SlF g gw gm) w (w.setCell ⟨g, 2, none⟩ u)) := fun u => Keep.setCell _ w ⟨g, 2, none⟩ u (.inl rfl)
  clear hb
  go_enter Try.func49, Try.ntmps49
  go_wp2_with fail
  go_ret
  exact ⟨by first | rfl | (show Ending.returned (.int .i64 _) = _; congr 2; omega), HS.out, HB.out _⟩

set_option maxRecDepth 20000 in
set_option maxHeartbeats 800000 in
theorem openK_any (g gw gm base m : Nat) (who : List Int) (next n k : Nat) (D : DataW Unit) (w : World) (h : SlP w g gw gm base m who next n D) (hn : next < 4096) (hs : Maps.size D ≠ m) (hm : m ≤ 1024) (hnn : n ≤ 100000) (hk : idxI (-1) who = some k) (hkm : k < m) :
    Calls Try.prog 41 #[.pointer (some ⟨g, 0, none⟩)] w fun e w' => e = .returned (.tuple #[.int .i64 (next : Int), .int .i64 (k : Int), .bool true]) ∧
      SlP w' g gw gm base m (who.set k (next : Int)) (next + 1) (n + 1) (D.put (.int .i64 (next : Int)) (.lit (.int .i64 (k : Int)))) ∧ Keep (SlF g gw gm) w w' := by
  have HH := hid h
  have hwl := h.len
  obtain ⟨hb, ho, hmp, hbg, hbw, hbm, hne1, hne2, hne3⟩ := h
  have c0 := hb.cell 0
  have c1 := hb.cell 1
  have c2 := hb.cell 2
  simp only [List.getElem?_toArray] at c0 c1 c2
  have hlen : ∀ q ty, (Builtin.len_ #[158] ty #[.map (some gm)]).run Try.prog (w.drewN q) = .ok (.int .i64 (Maps.size D)) (w.drewN q) := fun q ty => World.ownsMap.len (w := w.drewN q) hmp Try.underlying158 ty
  have hd : decide ((4096 : Int) ≤ (next : Int)) = false := by simp; omega
  have hszne : ((Maps.size D : Int) == (m : Int)) = false := by simp; omega
  go_enter Try.func41, Try.ntmps41
  go_wp2_with fail
  go_quiet (fail)
  have HI : Hid (Rd (w.drewN nq) (some ⟨gw, 0, none⟩) (intCells who)) := Rd_of_own ho
  have HK := hid hk
  have HW := hid hwl
  have HHn : Hid (SlP (w.drewN nq) g gw gm base m who next n D) := HH.out
  have f2 := hb.frozen 2
  have q1 := ho.frozenAt k
  have q2 := (ho.cellAt k (by omega)).trans (intCells_get who k (by omega))
  clear hb ho hmp hlen hk
  go_wp2_with fail
  refine (indexI_any _ m m who (-1) _ HW.out (by omega) HI.out).mono ?_
  rw [HK.out]
  rintro e w1 ⟨rfl, rfl⟩
  simp only [optI]
  have HS2 := hid (HHn.out.setNext (next + 1))
  have HS3 := hid (HS2.out.setWho k (next : Int))
  have HM := hid HS3.out.2.2.1
  go_wp2_with (at_mapUpdate; refine wpList_mapUpdate_own _ rfl _ _ _ 158 rfl 3 3 Try.keyInt Try.underlying158 _ gm n D rfl HM.out (by unfold maxLen; omega) _ _ _ rfl rfl (keyOf_int_mk Try.underlying3 (WalkArith.wf_i64 (by omega))) _ [] (plainElem_int Try.underlying3 (WalkArith.wf_i64 (by omega))) ?_)
  intro w5 hm5 hg5
  have HS5 := hid (HS3.out.turned hg5 hm5)
  have HB : Hid (Keep (SlF g gw gm) w (((w.drewN nq).setCell ⟨g, 2, none⟩ (.int .i64 ((next + 1 : Nat) : Int))).setCell ⟨gw, k, none⟩ (.int .i64 (next : Int)))) :=
    ((Keep.drewN _ w nq).trans (Keep.setCell (SlF g gw gm) _ ⟨g, 2, none⟩ _ (.inl rfl)) (fun _ => .inl)).trans (Keep.setCell (SlF g gw gm) _ ⟨gw, k, none⟩ _ (.inr (.inl rfl))) (fun _ => .inl)
  have hb5 : Keep (SlF g gw gm) w w5 := HB.out.trans (Keep.grown (F := SlF g gw gm) hg5 (fun k hk => by cases hk; exact .inr (.inr rfl))) (fun _ => .inl)
  go_wp2_with fail
  go_ret3
  exact ⟨rfl, HS5.out, hb5⟩

set_option maxHeartbeats 400000 in
theorem closeYesK_any (g gw gm base m : Nat) (who : List Int) (next n : Nat) (D : DataW Unit) (id : Int) (k : Nat) (w : World) (h : SlP w g gw gm base m who next n D) (hw : (Lit.int .i64 id).wf = true) (hy : Maps.has D (.int .i64 id) = true)
    (hk : D.atKey (.int .i64 id) (.lit (.int .i64 0)) = .lit (.int .i64 (k : Int))) (hkm : k < m) :
    Calls Try.prog 43 #[.pointer (some ⟨g, 0, none⟩), .int .i64 id] w fun e w' => e = .returned (.bool true) ∧ SlP w' g gw gm base m (who.set k (-1)) next n (D.del (.int .i64 id)) ∧ Keep (SlF g gw gm) w w' := by
  have HY := hid hy; have HK := hid hk; have HH := hid h
  clear hy hk
  go_enter Try.func43, Try.ntmps43
  go_wp2_with fail
  refine (slot_any g gw gm base m who next n D id _ h hw).mono ?_
  rw [HY.out]
  rintro e w1 ⟨c, rfl, hat, rfl⟩
  have hck : c = (k : Int) := by
    rw [HK.out] at hat; injection hat with h1; injection h1 with _ h2; exact h2.symm
  subst hck
  have HSW := hid (h.setWho k (-1))
  have hlen := h.len
  obtain ⟨h1, h2, h3, hbg, hbw, hbm, _, _, h9⟩ := h
  have c0 := h1.cell 0
  have c1 := h1.cell 1
  have q1 := h2.frozenAt k
  have q2 := (h2.cellAt k (by omega)).trans (intCells_get who k (by omega))
  have HM := hid HSW.out.2.2.1
  have HB : Hid (Keep (SlF g gw gm) w (w.setCell ⟨gw, k, none⟩ (.int .i64 (-1)))) := Keep.setCell _ w ⟨gw, k, none⟩ _ (.inr (.inl rfl))
  have hne := HSW.out.2.2.2.2.2.2.1
  simp only [List.getElem?_toArray] at c0 c1
  clear h1 h2 h3 hat
  go_wp2_with (at_delete; refine wpList_delete_own _ rfl _ _ 158 3 rfl 3 Try.keyInt Try.underlying158 _ gm n D rfl HM.out _ _ rfl (keyOf_int_mk Try.underlying3 hw) ?_)
  intro w2 hm2 ht2
  have HS2 := hid (HSW.out.turned ht2.grown hm2)
  have hb2 : Keep (SlF g gw gm) w w2 := HB.out.trans (Keep.grown (F := SlF g gw gm) ht2.grown (fun k hk => by cases hk; exact .inr (.inr rfl))) (fun _ => .inl)
  go_wp2_with fail
  go_ret
  exact ⟨rfl, HS2.out, hb2⟩

set_option maxRecDepth 20000 in
set_option maxHeartbeats 800000 in
theorem newLow_any (x : Int) (hx : x < 1) (hx0 : -9223372036854775808 ≤ x) (w : World) :
    Calls Try.prog 39 #[.int .i64 x] w fun e w' => ∃ g gw gm, e = .returned (.pointer (some ⟨g, 0, none⟩)) ∧ SlP w' g gw gm w.heap.size 1 (List.replicate 1 (-1)) 0 0 (.map []) ∧ Below w.heap.size w w' := by
  have hmm := @run_makeMap Try.prog
  go_enter Try.func39, Try.ntmps39
  go_wp2_with (at_make; refine wpList_make1 _ rfl _ _ 84 rfl w.heap.size 3 _ 8 Try.underlying84 Try.infoInt rfl .i64 .i64 _ _ 1 rfl rfl (by omega) (by omega) (by omega) (by omega) (Nat.le_refl _) ?_)
  intro w1 hown1 hg1
  have hsz1 := hg1.size
  have hwl := hown1.lt w.heap.size rfl
  have HB1 := hid ((Below.refl w.heap.size w).grown hg1 (Nat.le_refl _) (by simp))
  have HSL : Hid (SlP ((w1.alloc (.map #[] 0)).alloc (.cells #[.slice (some ⟨w.heap.size, 0, none⟩) 1 1, .map (some w1.heap.size), .int .i64 0] 160)) (w1.heap.size + 1) w.heap.size w1.heap.size w.heap.size 1 (List.replicate 0 (-1) ++ List.replicate (1 - 0) 0) 0 0 (.map [])) := by
    refine ⟨?_, ?_, (World.ownsMap_made w1 _ _ _).alloc _, by omega, by omega, by omega, by omega, by omega, by omega⟩
    · have := Blk.new (w1.alloc (.map #[] 0)) 160 #[.slice (some ⟨w.heap.size, 0, none⟩) 1 1, .map (some w1.heap.size), .int .i64 0]
      rwa [World.size_alloc] at this
    · have := own_below hown1 (((Below.refl w1.heap.size w1).alloc (Nat.le_refl _) (.map #[] 0)).alloc (by simp) (.cells #[.slice (some ⟨w.heap.size, 0, none⟩) 1 1, .map (some w1.heap.size), .int .i64 0] 160))
      simpa [intCells] using this
  have HB2 : Hid (Below w.heap.size w ((w1.alloc (.map #[] 0)).alloc (.cells #[.slice (some ⟨w.heap.size, 0, none⟩) 1 1, .map (some w1.heap.size), .int .i64 0] 160))) := (HB1.out.alloc hsz1 _).alloc (by simp; omega) _
  clear hown1 hg1
  go_wp2_with fail
  go_loopw [17] (fun i wr => ∃ (k : Nat), k ≤ 1 ∧ i = .int .i64 k ∧ SlP wr (w1.heap.size + 1) w.heap.size w1.heap.size w.heap.size 1 (List.replicate k (-1) ++ List.replicate (1 - k) 0) 0 0 (.map []) ∧ Below w.heap.size w wr) (fun i _ => 1 - (intOf i).toNat)
  case atStart => exact ⟨0, by omega, rfl, HSL.out, HB2.out⟩
  case round =>
    obtain ⟨k, hk, rfl, hsl, hb⟩ := hrel
    have HS := hid hsl
    have HB := hid hb
    by_cases hlt : k < 1
    · have HSW := hid (hsl.setWho k (-1))
      have HE : Hid ((List.replicate k (-1) ++ List.replicate (1 - k) 0 : List Int).set k (-1) = List.replicate (k + 1) (-1) ++ List.replicate (1 - (k + 1)) 0) := by
        rw [Hid, List.set_append_right _ _ (by simp), List.length_replicate, Nat.sub_self, show 1 - k = (1 - (k + 1)) + 1 from by omega, List.replicate_succ, List.set_cons_zero, List.replicate_succ']
        simp
      obtain ⟨h1, h2', _⟩ := hsl
      have c0 := h1.cell 0
      have c1 := h2'.frozenAt k
      have c2 := (h2'.cellAt k (by omega)).trans (intCells_get _ k (by simp; omega))
      clear h1 h2' hb HSL HB2
      go_wp2_with fail
      go_roundw
      case rel => exact ⟨k + 1, by omega, by go_num, by rw [← HE.out]; exact HSW.out, HB.out.setCell (Nat.le_refl _) _⟩
      case measure => simp [intOf]; omega
    · have hkm : k = 1 := by omega
      subst hkm
      rw [Nat.sub_self, List.replicate_zero, List.append_nil] at hsl
      have HS2 := hid hsl
      clear hsl HSL HB2
      go_wp2_with fail
      go_ret
      exact ⟨_, _, _, rfl, HS2.out, HB.out⟩

set_option maxRecDepth 20000 in
set_option maxHeartbeats 800000 in
theorem newHigh_any (x : Int) (hx : 1024 < x) (hx0 : x ≤ 9223372036854775807) (w : World) :
    Calls Try.prog 39 #[.int .i64 x] w fun e w' => ∃ g gw gm, e = .returned (.pointer (some ⟨g, 0, none⟩)) ∧ SlP w' g gw gm w.heap.size 1024 (List.replicate 1024 (-1)) 0 0 (.map []) ∧ Below w.heap.size w w' := by
  have hmm := @run_makeMap Try.prog
  go_enter Try.func39, Try.ntmps39
  go_wp2_with (at_make; refine wpList_make1 _ rfl _ _ 84 rfl w.heap.size 3 _ 8 Try.underlying84 Try.infoInt rfl .i64 .i64 _ _ 1024 rfl rfl (by omega) (by omega) (by omega) (by omega) (Nat.le_refl _) ?_)
  intro w1 hown1 hg1
  have hsz1 := hg1.size
  have hwl := hown1.lt w.heap.size rfl
  have HB1 := hid ((Below.refl w.heap.size w).grown hg1 (Nat.le_refl _) (by simp))
  have HSL : Hid (SlP ((w1.alloc (.map #[] 0)).alloc (.cells #[.slice (some ⟨w.heap.size, 0, none⟩) 1024 1024, .map (some w1.heap.size), .int .i64 0] 160)) (w1.heap.size + 1) w.heap.size w1.heap.size w.heap.size 1024 (List.replicate 0 (-1) ++ List.replicate (1024 - 0) 0) 0 0 (.map [])) := by
    refine ⟨?_, ?_, (World.ownsMap_made w1 _ _ _).alloc _, by omega, by omega, by omega, by omega, by omega, by omega⟩
    · have := Blk.new (w1.alloc (.map #[] 0)) 160 #[.slice (some ⟨w.heap.size, 0, none⟩) 1024 1024, .map (some w1.heap.size), .int .i64 0]
      rwa [World.size_alloc] at this
    · have := own_below hown1 (((Below.refl w1.heap.size w1).alloc (Nat.le_refl _) (.map #[] 0)).alloc (by simp) (.cells #[.slice (some ⟨w.heap.size, 0, none⟩) 1024 1024, .map (some w1.heap.size), .int .i64 0] 160))
      simpa [intCells] using this
  have HB2 : Hid (Below w.heap.size w ((w1.alloc (.map #[] 0)).alloc (.cells #[.slice (some ⟨w.heap.size, 0, none⟩) 1024 1024, .map (some w1.heap.size), .int .i64 0] 160))) := (HB1.out.alloc hsz1 _).alloc (by simp; omega) _
  clear hown1 hg1
  go_wp2_with fail
  go_loopw [17] (fun i wr => ∃ (k : Nat), k ≤ 1024 ∧ i = .int .i64 k ∧ SlP wr (w1.heap.size + 1) w.heap.size w1.heap.size w.heap.size 1024 (List.replicate k (-1) ++ List.replicate (1024 - k) 0) 0 0 (.map []) ∧ Below w.heap.size w wr) (fun i _ => 1024 - (intOf i).toNat)
  case atStart => exact ⟨0, by omega, rfl, HSL.out, HB2.out⟩
  case round =>
    obtain ⟨k, hk, rfl, hsl, hb⟩ := hrel
    have HS := hid hsl
    have HB := hid hb
    by_cases hlt : k < 1024
    · have HSW := hid (hsl.setWho k (-1))
      have HE : Hid ((List.replicate k (-1) ++ List.replicate (1024 - k) 0 : List Int).set k (-1) = List.replicate (k + 1) (-1) ++ List.replicate (1024 - (k + 1)) 0) := by
        rw [Hid, List.set_append_right _ _ (by simp), List.length_replicate, Nat.sub_self, show 1024 - k = (1024 - (k + 1)) + 1 from by omega, List.replicate_succ, List.set_cons_zero, List.replicate_succ']
        simp
      obtain ⟨h1, h2', _⟩ := hsl
      have c0 := h1.cell 0
      have c1 := h2'.frozenAt k
      have c2 := (h2'.cellAt k (by omega)).trans (intCells_get _ k (by simp; omega))
      clear h1 h2' hb HSL HB2
      go_wp2_with fail
      go_roundw
      case rel => exact ⟨k + 1, by omega, by go_num, by rw [← HE.out]; exact HSW.out, HB.out.setCell (Nat.le_refl _) _⟩
      case measure => simp [intOf]; omega
    · have hkm : k = 1024 := by omega
      subst hkm
      rw [Nat.sub_self, List.replicate_zero, List.append_nil] at hsl
      have HS2 := hid hsl
      clear hsl HSL HB2
      go_wp2_with fail
      go_ret
      exact ⟨_, _, _, rfl, HS2.out, HB.out⟩

def clampL (x : Int) : Nat := if x < 1 then 1 else if 1024 < x then 1024 else x.toNat
theorem clampL_le (x : Int) : 1 ≤ clampL x ∧ clampL x ≤ 1024 := by
  unfold clampL
  split
  · omega
  · split <;> omega
theorem slNewZ_any (x : Int) (h1 : -9223372036854775808 ≤ x) (h2 : x ≤ 9223372036854775807) (w : World) :
    Calls Try.prog 39 #[.int .i64 x] w fun e w' => ∃ g gw gm, e = .returned (.pointer (some ⟨g, 0, none⟩)) ∧ SL w' g gw gm w.heap.size (clampL x) [] 0 ∧ Below w.heap.size w w' := by
  have key : Calls Try.prog 39 #[.int .i64 x] w fun e w' => ∃ g gw gm, e = .returned (.pointer (some ⟨g, 0, none⟩)) ∧ SlP w' g gw gm w.heap.size (clampL x) (List.replicate (clampL x) (-1)) 0 0 (.map []) ∧ Below w.heap.size w w' := by
    by_cases c1 : x < 1
    · rw [show clampL x = 1 from if_pos c1]; exact newLow_any x c1 h1 w
    · by_cases c2 : 1024 < x
      · rw [show clampL x = 1024 from by rw [clampL, if_neg c1, if_pos c2]]; exact newHigh_any x c2 h2 w
      · obtain ⟨m, rfl⟩ : ∃ m : Nat, x = (m : Int) := ⟨x.toNat, by omega⟩
        rw [show clampL (m : Int) = m from by rw [clampL, if_neg c1, if_neg c2, Int.toNat_natCast]]
        exact new_any m (by omega) (by omega) w
  refine key.mono ?_
  rintro e w1 ⟨g, gw, gm, rfl, hs, hb⟩
  refine ⟨g, gw, gm, rfl, ⟨0, Nat.le_refl _, ?_, LOk.nil _, (clampL_le x).2, (clampL_le x).1, by omega⟩, hb⟩
  rw [whoL_nil]; exact hs
section
variable {g gw gm base m next : Nat} {L : SlL} {w w' : World}
theorem SL.keep {F : Nat → Prop} (h : SL w g gw gm base m L next) (hk : Keep F w w') (h1 : ¬ F g) (h2 : ¬ F gw) (h3 : ¬ F gm) : SL w' g gw gm base m L next := by
  obtain ⟨n, a1, a2, a3⟩ := h
  obtain ⟨b1, b2, b3, b4⟩ := a2
  refine ⟨n, a1, ⟨hk.blk b1 h1, hk.own b2 (fun k hk' => by simp [Value.ownBlock] at hk'; subst hk'; exact h2), ?_, b4⟩, a3⟩
  obtain ⟨es, clock, hb, Ft, hs, hD⟩ := b3
  exact ⟨es, clock, (hk.block gm (World.ownsMap.lt ⟨es, clock, hb, Ft, hs, hD⟩) h3).trans hb, Ft, hs, hD⟩
theorem SL.lt (h : SL w g gw gm base m L next) : g < w.heap.size ∧ gw < w.heap.size ∧ gm < w.heap.size ∧ base ≤ g ∧ base ≤ gw ∧ base ≤ gm := by
  obtain ⟨n, a1, ⟨b1, b2, b3, b4, b5, b6, b7⟩, a3⟩ := h
  exact ⟨b1.lt, (b2.lt gw rfl).2, b3.lt, b4, b5, b6⟩
theorem slSkipK_any (h : SL w g gw gm base m L next) (hn : next < 4096) : Calls Try.prog 49 #[.pointer (some ⟨g, 0, none⟩)] w fun e w' => e = .returned (.int .i64 (next : Int)) ∧ SL w' g gw gm base m L (next + 1) ∧ Keep (SlF g gw gm) w w' := by
  obtain ⟨n, h1, h2, h3, h4, h5, h6⟩ := h
  refine (skipK_any g gw gm base m _ next n _ w h2 hn).mono ?_
  rintro e w1 ⟨rfl, hs, hb⟩
  exact ⟨rfl, ⟨n, by omega, hs, h3.step, h4, h5, by omega⟩, hb⟩
theorem slOpenK_any {k : Nat} (h : SL w g gw gm base m L next) (hn : next < 4096) (hk : freeL m L = some k) : Calls Try.prog 41 #[.pointer (some ⟨g, 0, none⟩)] w fun e w' => e = .returned (.tuple #[.int .i64 (next : Int), .int .i64 (k : Int), .bool true]) ∧ SL w' g gw gm base m (L ++ [(next, k)]) (next + 1) ∧ Keep (SlF g gw gm) w w' := by
  obtain ⟨n, h1, h2, h3, h4, h5, h6⟩ := h
  obtain ⟨hkm, hkf⟩ := freeL_some hk
  have hne : L.length ≠ m := fun e => by have := (freeL_none h3).2 e; rw [hk] at this; cases this
  refine (openK_any g gw gm base m _ next n k _ w h2 hn (by rw [mapL_size]; exact hne) h4 (by omega) hk hkm).mono ?_
  rintro e w1 ⟨rfl, hs, hb⟩
  rw [whoL_put m L next k hkf, mapL_put L next k (fun x hx => (h3.lt x hx).1)] at hs
  exact ⟨rfl, ⟨n + 1, by omega, hs, h3.put hkm hkf, h4, h5, by omega⟩, hb⟩
theorem slCloseK_any (id : Int) (h : SL w g gw gm base m L next) (hw : (Lit.int .i64 id).wf = true) : Calls Try.prog 43 #[.pointer (some ⟨g, 0, none⟩), .int .i64 id] w fun e w' => e = .returned (.bool (slotL L id).isSome) ∧ SL w' g gw gm base m (closeL L id) next ∧ Keep (SlF g gw gm) w w' := by
  have h0 := h
  obtain ⟨n, h1, h2, h3, h4, h5, h6⟩ := h
  cases hs : slotL L id with
  | none =>
    refine (closeNo_any g gw gm base m _ next n _ id w h2 hw (by rw [mapL_has, hs]; rfl)).mono ?_
    rintro e w1 ⟨rfl, rfl⟩
    rw [closeL_none hs]
    exact ⟨rfl, h0, Keep.refl _ _⟩
  | some k =>
    obtain ⟨x, hx, -, rfl⟩ := slotL_mem hs
    refine (closeYesK_any g gw gm base m _ next n _ id x.2 w h2 hw (by rw [mapL_has, hs]; rfl) (by rw [mapL_at, hs]) (h3.lt x hx).2).mono ?_
    rintro e w1 ⟨rfl, hs1, hb⟩
    rw [whoL_close h3 id x.2 hs, mapL_del] at hs1
    exact ⟨rfl, ⟨n, h1, hs1, h3.close id, h4, h5, h6⟩, hb⟩
end
end Go.Proofs.Ytdbiodofofnpgaa
namespace Go.Proofs.Ytdbiodofofnpgaa
open Go.RowKit Go.Maps

def oneCells (L : SlL) : List Value := L.flatMap fun x => [.int .i64 (x.1 : Int), .int .i64 (x.2 : Int)]
def refS (A : Option Addr) (n c m next : Nat) : Value := .agg #[.slice A n c, .int .i64 (m : Int), .int .i64 (next : Int)]
theorem oneCells_length (L : SlL) : (oneCells L).length = L.length * 2 := by
  induction L with
  | nil => rfl
  | cons x L ih =>
    show (_ :: _ :: oneCells L).length = _
    rw [List.length_cons, List.length_cons, ih, List.length_cons]; omega
theorem oneCells_get (L : SlL) (k : Nat) (h : k < L.length) : (oneCells L)[k * 2]? = some (.int .i64 ((L[k]).1 : Int)) ∧ (oneCells L)[k * 2 + 1]? = some (.int .i64 ((L[k]).2 : Int)) := by
  induction L generalizing k with
  | nil => simp at h
  | cons x L ih =>
    cases k with
    | zero => exact ⟨rfl, rfl⟩
    | succ k =>
      have := ih k (by simpa using h)
      have e : oneCells (x :: L) = [.int .i64 (x.1 : Int), .int .i64 (x.2 : Int)] ++ oneCells L := rfl
      rw [e, List.getElem?_append_right (by simp; omega), List.getElem?_append_right (by simp; omega)]
      simp only [List.length_cons, List.length_nil]
      rw [show (k + 1) * 2 - (0 + 1 + 1) = k * 2 from by omega, show (k + 1) * 2 + 1 - (0 + 1 + 1) = k * 2 + 1 from by omega]
      simpa using this
theorem oneCells_app (L M : SlL) : oneCells (L ++ M) = oneCells L ++ oneCells M := by simp [oneCells]
def slotZ (L : SlL) (id : Int) : Int := match L.find? (fun x => decide ((x.1 : Int) = id)) with
  | some x => (x.2 : Int)
  | none => -1
def whoR (L : SlL) (z : Int) : Int := match L.find? (fun x => decide ((x.2 : Int) = z)) with
  | some x => (x.1 : Int)
  | none => -1
theorem slotZ_drop (L : SlL) (id : Int) (k : Nat) (h : k < L.length) : slotZ (L.drop k) id = if ((L[k]).1 : Int) = id then ((L[k]).2 : Int) else slotZ (L.drop (k + 1)) id := by
  rw [List.drop_eq_getElem_cons h]
  unfold slotZ
  rw [List.find?_cons]
  by_cases hx : ((L[k]).1 : Int) = id
  · rw [if_pos hx, decide_eq_true hx]
  · rw [if_neg hx, decide_eq_false hx]
theorem whoR_drop (L : SlL) (id : Int) (k : Nat) (h : k < L.length) : whoR (L.drop k) id = if ((L[k]).2 : Int) = id then ((L[k]).1 : Int) else whoR (L.drop (k + 1)) id := by
  rw [List.drop_eq_getElem_cons h]
  unfold whoR
  rw [List.find?_cons]
  by_cases hx : ((L[k]).2 : Int) = id
  · rw [if_pos hx, decide_eq_true hx]
  · rw [if_neg hx, decide_eq_false hx]
theorem slotZ_is (L : SlL) (id : Int) : (slotL L id).isSome = decide (0 ≤ slotZ L id) ∧ slotV (slotL L id) = if 0 ≤ slotZ L id then slotZ L id else 0 := by
  unfold slotL slotZ slotV
  cases L.find? (fun x => decide ((x.1 : Int) = id)) with
  | none => simp
  | some x => simp
theorem whoR_nat (L : SlL) (k : Nat) : whoR L (k : Int) = whoAt L k := by
  induction L with
  | nil => rfl
  | cons x L ih =>
    rw [whoAt_cons, ← ih]
    unfold whoR
    rw [List.find?_cons]
    by_cases h : x.2 = k
    · subst h; simp
    · rw [if_neg h, decide_eq_false (by omega)]
theorem whoR_is {m next : Nat} {L : SlL} (h : LOk m L next) (z : Int) : whoR L z = whoZ m L z := by
  unfold whoZ
  split
  · rename_i hz
    obtain ⟨k, rfl⟩ : ∃ k : Nat, z = (k : Int) := ⟨z.toNat, by omega⟩
    rw [Int.toNat_natCast, whoR_nat]
  · rename_i hz
    unfold whoR
    have : L.find? (fun x => decide ((x.2 : Int) = z)) = none := by
      rw [List.find?_eq_none]
      intro x hx
      have := (h.lt x hx).2
      simp; omega
    rw [this]
theorem one_cells {w : World} {A : Option Addr} {L : SlL} {n k : Nat} (hr : Rd w A (oneCells L)) (hl : L.length = n) (hk : k < n) : ∃ b off i s, A = some ⟨b, off, none⟩ ∧ b < w.heap.size ∧ L[k]? = some (i, s) ∧ w.cell? ⟨b, off + k * 2, none⟩ = some (.int .i64 (i : Int)) ∧ w.cell? ⟨b, off + k * 2 + 1, none⟩ = some (.int .i64 (s : Int)) := by
  subst hl
  obtain ⟨b, off, rfl, hb, hc⟩ := hr.at (by rw [oneCells_length]; omega)
  obtain ⟨h1, h2⟩ := oneCells_get L k hk
  exact ⟨b, off, _, _, rfl, hb, List.getElem?_eq_getElem hk, hc _ _ h1, hc _ _ h2⟩
theorem fact3s {w : World} {g : Nat} {t : TypeId} {a b c : Value} (h : Blk w g t #[a, b, c]) : w.cell? ⟨g, 0, none⟩ = some a ∧ w.cell? ⟨g, 1, none⟩ = some b ∧ w.cell? ⟨g, 2, none⟩ = some c := ⟨h.cell 0, h.cell 1, h.cell 2⟩
theorem alloc_step' (w : World) (t : TypeId) (cs : Array Value) : ∃ w' g, w.alloc (.cells cs t) = w' ∧ w.heap.size = g ∧ Below w.heap.size w w' ∧ Blk w' g t cs ∧ w.heap.size ≤ g ∧ g < w'.heap.size :=
  ⟨_, _, rfl, rfl, (Below.refl _ _).alloc (Nat.le_refl _) _, Blk.new w t cs, Nat.le_refl _, (Blk.new w t cs).lt⟩

set_option maxRecDepth 20000 in
set_option maxHeartbeats 800000 in
theorem refSlot_any (A : Option Addr) (n c m next : Nat) (L : SlL) (z : Int) (w : World) (hl : L.length = n) (hn : n ≤ 100000) (hr : Rd w A (oneCells L)) :
    Calls Try.prog 50 #[refS A n c m next, .int .i64 z] w fun e w' => e = .returned (.int .i64 (slotZ L z)) ∧ Below w.heap.size w w' := by
  have HL := hid hl; have HR := hid hr
  clear hl hr
  unfold refS
  go_enter Try.func50, Try.ntmps50
  go_upto_region 1 with fail
  obtain ⟨w0, g, hw0, hg, hb, hblk, hg1, hg2⟩ := alloc_step' w 90 #[.slice A n c, .int .i64 (m : Int), .int .i64 (next : Int)]
  rw [hw0, hg]
  have HR0 := hid (HR.out.below hb)
  have HB := hid hb
  obtain ⟨p0, p1, p2⟩ := fact3s hblk
  clear hw0 hg hb hblk HR
  go_wp2_with fail
  go_loop [5] (fun iv => ∃ k : Nat, k ≤ n ∧ iv = .int .i64 (k : Int) ∧ Hid (slotZ L z = slotZ (L.drop k) z)) (fun iv => n - (intOf iv).toNat)
  case atStart => exact ⟨0, Nat.zero_le _, rfl, rfl⟩
  case round =>
    obtain ⟨k, hk, rfl, HI⟩ := hrel
    by_cases hlt : k < n
    · obtain ⟨b, off, i, s, rfl, hbl, hget, d0, d1⟩ := one_cells HR0.out HL.out hlt
      have hkl : k < L.length := by rw [HL.out]; exact hlt
      have hx : L[k]'hkl = (i, s) := by rw [List.getElem?_eq_getElem hkl] at hget; injection hget
      have hd := slotZ_drop L z k hkl
      rw [hx] at hd
      simp only at hd
      clear hget hx hkl
      by_cases hc : (i : Int) = z
      · subst hc
        rw [if_pos rfl] at hd
        have HD := hid hd
        clear hd
        go_wp2_with fail
        go_ret
        exact ⟨by rw [HI.out, HD.out]; rfl, HB.out⟩
      · rw [if_neg hc] at hd
        have HD := hid hd
        have hc2 : ((i : Int) == z) = false := by rw [beq_eq_false_iff_ne]; exact hc
        clear hd
        go_wp2_with fail
        go_round
        case rel => exact ⟨k + 1, by omega, by go_num, HI.out.trans HD.out⟩
        case measure => simp [intOf]; omega
    · have hkn : k = n := by omega
      have HE : Hid (slotZ L z = -1) := by
        rw [Hid, HI.out, hkn, ← HL.out, List.drop_length]; rfl
      clear hkn
      go_wp2_with fail
      go_ret
      exact ⟨by rw [HE.out]; rfl, HB.out⟩

set_option maxRecDepth 20000 in
set_option maxHeartbeats 800000 in
theorem refWho_any (A : Option Addr) (n c m next : Nat) (L : SlL) (z : Int) (w : World) (hl : L.length = n) (hn : n ≤ 100000) (hr : Rd w A (oneCells L)) :
    Calls Try.prog 91 #[refS A n c m next, .int .i64 z] w fun e w' => e = .returned (.int .i64 (whoR L z)) ∧ Below w.heap.size w w' := by
  have HL := hid hl; have HR := hid hr
  clear hl hr
  unfold refS
  go_enter Try.func91, Try.ntmps91
  go_upto_region 1 with fail
  obtain ⟨w0, g, hw0, hg, hb, hblk, hg1, hg2⟩ := alloc_step' w 90 #[.slice A n c, .int .i64 (m : Int), .int .i64 (next : Int)]
  rw [hw0, hg]
  have HR0 := hid (HR.out.below hb)
  have HB := hid hb
  obtain ⟨p0, p1, p2⟩ := fact3s hblk
  clear hw0 hg hb hblk HR
  go_wp2_with fail
  go_loop [5] (fun iv => ∃ k : Nat, k ≤ n ∧ iv = .int .i64 (k : Int) ∧ Hid (whoR L z = whoR (L.drop k) z)) (fun iv => n - (intOf iv).toNat)
  case atStart => exact ⟨0, Nat.zero_le _, rfl, rfl⟩
  case round =>
    obtain ⟨k, hk, rfl, HI⟩ := hrel
    by_cases hlt : k < n
    · obtain ⟨b, off, i, s, rfl, hbl, hget, d0, d1⟩ := one_cells HR0.out HL.out hlt
      have hkl : k < L.length := by rw [HL.out]; exact hlt
      have hx : L[k]'hkl = (i, s) := by rw [List.getElem?_eq_getElem hkl] at hget; injection hget
      have hd := whoR_drop L z k hkl
      rw [hx] at hd
      simp only at hd
      clear hget hx hkl
      by_cases hc : (s : Int) = z
      · subst hc
        rw [if_pos rfl] at hd
        have HD := hid hd
        clear hd
        go_wp2_with fail
        go_ret
        exact ⟨by rw [HI.out, HD.out]; rfl, HB.out⟩
      · rw [if_neg hc] at hd
        have HD := hid hd
        have hc2 : ((s : Int) == z) = false := by rw [beq_eq_false_iff_ne]; exact hc
        clear hd
        go_wp2_with fail
        go_round
        case rel => exact ⟨k + 1, by omega, by go_num, HI.out.trans HD.out⟩
        case measure => simp [intOf]; omega
    · have hkn : k = n := by omega
      have HE : Hid (whoR L z = -1) := by
        rw [Hid, HI.out, hkn, ← HL.out, List.drop_length]; rfl
      clear hkn
      go_wp2_with fail
      go_ret
      exact ⟨by rw [HE.out]; rfl, HB.out⟩

theorem withinL_any (x : Int) (w : World) : Calls Try.prog 42 #[.int .i64 x, .int .i64 1, .int .i64 1024] w fun e w' => e = .returned (.int .i64 ((clampL x : Nat) : Int)) ∧ w = w' := by
  by_cases c1 : x < 1
  · rw [show clampL x = 1 from if_pos c1]
    go_enter Try.func42, Try.ntmps42
    go_wp2
    go_ret
    exact ⟨rfl, rfl⟩
  · by_cases c2 : 1024 < x
    · rw [show clampL x = 1024 from by rw [clampL, if_neg c1, if_pos c2]]
      go_enter Try.func42, Try.ntmps42
      go_wp2
      go_ret
      exact ⟨rfl, rfl⟩
    · have e : ((clampL x : Nat) : Int) = x := by rw [clampL, if_neg c1, if_neg c2]; omega
      rw [e]
      go_enter Try.func42, Try.ntmps42
      go_wp2
      go_ret
      exact ⟨rfl, rfl⟩

set_option maxRecDepth 20000 in
theorem refNewL_any (x : Int) (w : World) : Calls Try.prog 47 #[.int .i64 x] w fun e w' => e = .returned (refS none 0 0 (clampL x) 0) ∧ Below w.heap.size w w' := by
  have C1 := hid (fun W => withinL_any x W)
  obtain ⟨m, hm⟩ : ∃ m, clampL x = m := ⟨_, rfl⟩
  rw [hm] at C1 ⊢
  clear hm
  go_enter Try.func47, Try.ntmps47
  go_wp2_with fail
  refine (C1.out _).mono ?_
  rintro en w1 ⟨rfl, rfl⟩
  clear C1
  go_wp2_with fail
  refine bodyPost_ret (v := refS none 0 0 m 0) (by simp [results, Try.results47, go_sem, refS]) rfl ⟨rfl, ?_⟩
  first
    | exact (Below.refl _ _).alloc (Nat.le_refl _) _
    | exact (((((Below.refl _ _).alloc (Nat.le_refl _) _).setCell (Nat.le_refl _) _).setCell (Nat.le_refl _) _).setCell (Nat.le_refl _) _)
end Go.Proofs.Ytdbiodofofnpgaa
