/- Walks: package slots: New, Skip, Next. Walks: 'slices.Index' over ints. Walks: package slots: Slot. Walks: package slots: Close. Walks: package slots: Close of one who is there. Walks: package slots: Open where there is no number left. Walks: package slots: Open of the next one. Walks: package slots: Open of full slots; 'lives' of layer 28. -/
import Derived.Test.YtdbiodofofnpgaaNa
import Derived.Maps.OwnSet
import Derived.BigQuiet
import Derived.Deep.QuietTactic
namespace Go.Proofs.Ytdbiodofofnpgaa
open Go.RowKit Go.Maps

/-- Slots in memory: a struct of three cells, its row, its map. -/
def SlP (w : World) (g gw gm base m : Nat) (who : List Int) (next n : Nat) (D : DataW Unit) : Prop :=
  Blk w g 160 #[.slice (some ⟨gw, 0, none⟩) m m, .map (some gm), .int .i64 (next : Int)] ∧ w.ownsRow base 3 1 (.slice (some ⟨gw, 0, none⟩) m m) m (intCells who) ∧
  w.ownsMap Try.prog 3 (plainElem Try.prog 3) gm n D ∧ base ≤ g ∧ base ≤ gw ∧ base ≤ gm ∧ g ≠ gw ∧ gm ≠ gw ∧ gm ≠ g

theorem intCells_set (l : List Int) (i : Nat) (v : Int) : (intCells l).set i (.int .i64 v) = intCells (l.set i v) := by simp [intCells, List.map_set]
theorem grown_set (w : World) (a : Addr) (u : Value) : w.grownBy (w.setCell a u) (some a.block) :=
  ⟨rfl, rfl, rfl, by simp, fun q _ hne => Below.heap_setCell w a u q (fun e => hne (by rw [e]))⟩
theorem SlP.setWho {w : World} {g gw gm base m : Nat} {who : List Int} {next n : Nat} {D : DataW Unit} (h : SlP w g gw gm base m who next n D) (k : Nat) (v : Int) :
    SlP (w.setCell ⟨gw, k, none⟩ (.int .i64 v)) g gw gm base m (who.set k v) next n D := by
  obtain ⟨h1, h2, h3, h4, h5, h6, h7, h8, h9⟩ := h
  have hs := (h2.stored k (.int .i64 v)).1
  rw [intCells_set] at hs
  exact ⟨h1.set_far h7, hs, h3.setCell h8 _, h4, h5, h6, h7, h8, h9⟩
theorem SlP.setNext {w : World} {g gw gm base m : Nat} {who : List Int} {next n : Nat} {D : DataW Unit} (h : SlP w g gw gm base m who next n D) (next' : Nat) :
    SlP (w.setCell ⟨g, 2, none⟩ (.int .i64 (next' : Int))) g gw gm base m who next' n D := by
  obtain ⟨h1, h2, h3, h4, h5, h6, h7, h8, h9⟩ := h
  refine ⟨h1.set 2 _, ?_, h3.setCell h9 _, h4, h5, h6, h7, h8, h9⟩
  exact h2.kept (row := some g) (grown_set w ⟨g, 2, none⟩ _) (by simp [Value.ownBlock]; exact Ne.symm h7)
theorem SlP.len {w : World} {g gw gm base m : Nat} {who : List Int} {next n : Nat} {D : DataW Unit} (h : SlP w g gw gm base m who next n D) : who.length = m := by
  have := h.2.1.1; rwa [intCells_length, Nat.mul_one] at this

set_option maxHeartbeats 400000 in
theorem next_any (g gw gm base m : Nat) (who : List Int) (next n : Nat) (D : DataW Unit) (w : World) (h : SlP w g gw gm base m who next n D) :
    Calls Try.prog 92 #[.pointer (some ⟨g, 0, none⟩)] w fun e w' => e = .returned (.int .i64 (next : Int)) ∧ w = w' := by
  obtain ⟨hb, _⟩ := h
  have c2 := hb.cell 2
  simp only [List.getElem?_toArray] at c2
  go_enter Try.func92, Try.ntmps92
  go_wp2
  go_ret
  exact ⟨rfl, rfl⟩

set_option maxHeartbeats 400000 in
theorem new_any (most : Nat) (h1 : 1 ≤ most) (h2 : most ≤ 1024) (w : World) :
    Calls Try.prog 39 #[.int .i64 (most : Int)] w fun e w' => ∃ g gw gm, e = .returned (.pointer (some ⟨g, 0, none⟩)) ∧ SlP w' g gw gm w.heap.size most (List.replicate most (-1)) 0 0 (.map []) ∧ Below w.heap.size w w' := by
  have hmm := @run_makeMap Try.prog
  go_enter Try.func39, Try.ntmps39
  go_wp2_with (at_make; refine wpList_make1 _ rfl _ _ 84 rfl w.heap.size 3 _ 8 Try.underlying84 Try.infoInt rfl .i64 .i64 _ _ most rfl rfl (by omega) (by omega) (by omega) (by omega) (Nat.le_refl _) ?_)
  intro w1 hown1 hg1
  have hsz1 := hg1.size
  have hwl := hown1.lt w.heap.size rfl
  have HB1 := hid ((Below.refl w.heap.size w).grown hg1 (Nat.le_refl _) (by simp))
  have HSL : Hid (SlP ((w1.alloc (.map #[] 0)).alloc (.cells #[.slice (some ⟨w.heap.size, 0, none⟩) most most, .map (some w1.heap.size), .int .i64 0] 160)) (w1.heap.size + 1) w.heap.size w1.heap.size w.heap.size most (List.replicate 0 (-1) ++ List.replicate (most - 0) 0) 0 0 (.map [])) := by
    refine ⟨?_, ?_, (World.ownsMap_made w1 _ _ _).alloc _, by omega, by omega, by omega, by omega, by omega, by omega⟩
    · have := Blk.new (w1.alloc (.map #[] 0)) 160 #[.slice (some ⟨w.heap.size, 0, none⟩) most most, .map (some w1.heap.size), .int .i64 0]
      rwa [World.size_alloc] at this
    · have := own_below hown1 (((Below.refl w1.heap.size w1).alloc (Nat.le_refl _) (.map #[] 0)).alloc (by simp) (.cells #[.slice (some ⟨w.heap.size, 0, none⟩) most most, .map (some w1.heap.size), .int .i64 0] 160))
      simpa [intCells] using this
  have HB2 : Hid (Below w.heap.size w ((w1.alloc (.map #[] 0)).alloc (.cells #[.slice (some ⟨w.heap.size, 0, none⟩) most most, .map (some w1.heap.size), .int .i64 0] 160))) := (HB1.out.alloc hsz1 _).alloc (by simp; omega) _
  clear hown1 hg1
  go_wp2_with fail
  go_loopw [17] (fun i wr => ∃ (k : Nat), k ≤ most ∧ i = .int .i64 k ∧ SlP wr (w1.heap.size + 1) w.heap.size w1.heap.size w.heap.size most (List.replicate k (-1) ++ List.replicate (most - k) 0) 0 0 (.map []) ∧ Below w.heap.size w wr) (fun i _ => most - (intOf i).toNat)
  case atStart => exact ⟨0, by omega, rfl, HSL.out, HB2.out⟩
  case round =>
    obtain ⟨k, hk, rfl, hsl, hb⟩ := hrel
    have HS := hid hsl
    have HB := hid hb
    by_cases hlt : k < most
    · have HSW := hid (hsl.setWho k (-1))
      have HE : Hid ((List.replicate k (-1) ++ List.replicate (most - k) 0 : List Int).set k (-1) = List.replicate (k + 1) (-1) ++ List.replicate (most - (k + 1)) 0) := by
        rw [Hid, List.set_append_right _ _ (by simp), List.length_replicate, Nat.sub_self, show most - k = (most - (k + 1)) + 1 from by omega, List.replicate_succ, List.set_cons_zero, List.replicate_succ']
        simp
      obtain ⟨h1, h2', _⟩ := hsl
      have c0 := h1.cell 0
      have c1 := h2'.frozenAt k
      have c2 := (h2'.cellAt k (by omega)).trans (intCells_get _ k (by simp; omega))
      clear h1 h2' hb HSL HB2
      go_wp2_with fail
      go_roundw
      case rel => exact ⟨k + 1, by omega, by go_num, by rw [← HE.out]; exact HSW.out, HB.out.setCell (Nat.le_refl _) _⟩
      case measure => simp [intOf]; omega
    · have hkm : k = most := by omega
      subst hkm
      rw [Nat.sub_self, List.replicate_zero, List.append_nil] at hsl
      have HS2 := hid hsl
      clear hsl HSL HB2
      go_wp2_with fail
      go_ret
      exact ⟨_, _, _, rfl, HS2.out, HB.out⟩

set_option maxRecDepth 20000 in
set_option maxHeartbeats 400000 in
theorem skip_any (g gw gm base m : Nat) (who : List Int) (next n : Nat) (D : DataW Unit) (w : World) (h : SlP w g gw gm base m who next n D) (hn : next < 4096) :
    Calls Try.prog 49 #[.pointer (some ⟨g, 0, none⟩)] w fun e w' => e = .returned (.int .i64 (next : Int)) ∧ SlP w' g gw gm base m who (next + 1) n D ∧ Below base w w' := by
  have HS := hid (h.setNext (next + 1))
  have hbg := h.2.2.2.1
  obtain ⟨hb, _⟩ := h
  have c2 := hb.cell 2
  have f2 := hb.frozen 2
  simp only [List.getElem?_toArray] at c2
  have HB : Hid (∀ u, Below base w (w.setCell ⟨g, 2, none⟩ u)) := fun u => (Below.refl base w).setCell hbg u
  clear hb
  go_enter Try.func49, Try.ntmps49
  go_wp2_with fail
  go_ret
  exact ⟨by first | rfl | (show Ending.returned (.int .i64 _) = _; congr 2; omega), HS.out, HB.out _⟩

set_option maxRecDepth 20000 in
set_option maxHeartbeats 400000 in
theorem skipEnd_any (g gw gm base m : Nat) (who : List Int) (n : Nat) (D : DataW Unit) (w : World) (h : SlP w g gw gm base m who 4096 n D) :
    Calls Try.prog 49 #[.pointer (some ⟨g, 0, none⟩)] w fun e w' => e = .returned (.int .i64 (-1)) ∧ w = w' := by
  obtain ⟨hb, _⟩ := h
  have c2 := hb.cell 2
  simp only [List.getElem?_toArray] at c2
  clear hb
  go_enter Try.func49, Try.ntmps49
  go_wp2_with fail
  go_ret
  exact ⟨rfl, rfl⟩
end Go.Proofs.Ytdbiodofofnpgaa
namespace Go.Proofs.Ytdbiodofofnpgaa
open Go.RowKit Go.Maps

def idxI (v : Int) : List Int → Option Nat
  | [] => none
  | a :: r => if a = v then some 0 else (idxI v r).map (· + 1)
theorem idxI_drop (v : Int) (L : List Int) (k : Nat) (h : k < L.length) : idxI v (L.drop k) = if L[k] = v then some 0 else (idxI v (L.drop (k + 1))).map (· + 1) := by
  rw [List.drop_eq_getElem_cons h]; rfl

set_option maxHeartbeats 400000 in
theorem indexI_any (A : Option Addr) (n c : Nat) (L : List Int) (v : Int) (w : World) (hl : L.length = n) (hn : n ≤ 1000001) (hr : Rd w A (intCells L)) :
    Calls Try.prog 87 #[.slice A n c, .int .i64 v] w fun e w' => e = .returned (.int .i64 (optI (idxI v L))) ∧ w = w' := by
  have HL := hid hl; clear hl
  go_enter Try.func87, Try.ntmps87
  go_wp2
  go_loop [8] (fun i => ∃ k, k ≤ n ∧ i = .int .i64 k ∧ Hid (idxI v L = (idxI v (L.drop k)).map (· + k))) (fun i => n - (intOf i).toNat)
  case atStart => exact ⟨0, by omega, rfl, by simp [Hid]⟩
  case round =>
    obtain ⟨k, hk, rfl, HI⟩ := hrel
    by_cases hlt : k < n
    · have hkl : k < L.length := by rw [HL.out]; exact hlt
      obtain ⟨b, off, rfl, hbl, hc⟩ := hr.at (by rw [intCells_length]; omega)
      have h0 := hc k _ (intCells_get L k hkl)
      have HD := hid (idxI_drop v L k hkl)
      generalize L[k]'hkl = x at *
      clear hc hkl
      by_cases hx : x = v
      · subst hx
        go_wp2
        go_ret
        have e : idxI x L = some k := by rw [HI.out, HD.out]; simp
        rw [e]; exact ⟨rfl, rfl⟩
      · have hx2 : (v == x) = false := by simp; exact fun h => hx h.symm
        have HX := hid hx
        clear hx
        go_wp2
        go_round
        case rel => exact ⟨k + 1, by omega, by go_num, by
          rw [Hid, HI.out, HD.out, if_neg HX.out, Option.map_map]
          congr 1; funext q; simp; omega⟩
        case measure => simp [intOf]; omega
    · go_wp2
      go_ret
      have e : idxI v L = none := by rw [HI.out, List.drop_of_length_le (by rw [HL.out]; omega)]; rfl
      rw [e]; exact ⟨rfl, rfl⟩
end Go.Proofs.Ytdbiodofofnpgaa
namespace Go.Proofs.Ytdbiodofofnpgaa
open Go.RowKit Go.Maps

theorem Try.zeroInt (w : World) : (zeroValue 3).run Try.prog w = .ok (.int .i64 0) w := by kernel_rfl
theorem Try.keyInt : Keyed Try.prog 3 := int_keyed Try.underlying3

set_option maxHeartbeats 400000 in
theorem slot_any (g gw gm base m : Nat) (who : List Int) (next n : Nat) (D : DataW Unit) (id : Int) (w : World) (h : SlP w g gw gm base m who next n D) (hid' : (Lit.int .i64 id).wf = true) :
    Calls Try.prog 88 #[.pointer (some ⟨g, 0, none⟩), .int .i64 id] w fun e w' => ∃ c : Int, e = .returned (.tuple #[.int .i64 c, .bool (Maps.has D (.int .i64 id))]) ∧ D.atKey (.int .i64 id) (.lit (.int .i64 0)) = .lit (.int .i64 c) ∧ w = w' := by
  obtain ⟨hb, _, hm, _⟩ := h
  have c1 := hb.cell 1
  simp only [List.getElem?_toArray] at c1
  have HM := hid hm
  clear hb hm
  go_enter Try.func88, Try.ntmps88
  go_wp2_with (at_lookup; refine wpList_lookup_own_ok_int _ rfl _ _ 158 rfl 3 3 .i64 Try.keyInt Try.underlying158 Try.underlying3 (Try.zeroInt _) gm n D rfl HM.out _ _ rfl (keyOf_int_mk Try.underlying3 hid') ?_)
  intro c hat _
  go_wp2_with fail
  go_ret2
  exact ⟨c, rfl, hat, rfl⟩
end Go.Proofs.Ytdbiodofofnpgaa
namespace Go.Proofs.Ytdbiodofofnpgaa
open Go.RowKit Go.Maps

theorem SlP.turned {w w' : World} {g gw gm base m : Nat} {who : List Int} {next n n' : Nat} {D D' : DataW Unit} (h : SlP w g gw gm base m who next n D) (ht : w.grownBy w' (some gm)) (hm : w'.ownsMap Try.prog 3 (plainElem Try.prog 3) gm n' D') :
    SlP w' g gw gm base m who next n' D' := by
  obtain ⟨h1, h2, h3, h4, h5, h6, h7, h8, h9⟩ := h
  refine ⟨?_, h2.kept (row := some gm) ht (by simp [Value.ownBlock]; exact Ne.symm h8), hm, h4, h5, h6, h7, h8, h9⟩
  exact (ht.block g h1.lt (by simp; exact Ne.symm h9)).trans h1

set_option maxHeartbeats 400000 in
theorem closeNo_any (g gw gm base m : Nat) (who : List Int) (next n : Nat) (D : DataW Unit) (id : Int) (w : World) (h : SlP w g gw gm base m who next n D) (hw : (Lit.int .i64 id).wf = true) (hno : Maps.has D (.int .i64 id) = false) :
    Calls Try.prog 43 #[.pointer (some ⟨g, 0, none⟩), .int .i64 id] w fun e w' => e = .returned (.bool false) ∧ w = w' := by
  have HN := hid hno
  clear hno
  go_enter Try.func43, Try.ntmps43
  go_wp2_with fail
  refine (slot_any g gw gm base m who next n D id _ h hw).mono ?_
  rw [HN.out]
  rintro e w1 ⟨c, rfl, _, rfl⟩
  go_wp2_with fail
  go_ret
  exact ⟨rfl, rfl⟩
end Go.Proofs.Ytdbiodofofnpgaa
namespace Go.Proofs.Ytdbiodofofnpgaa
open Go.RowKit Go.Maps

set_option maxHeartbeats 400000 in
theorem closeYes_any (g gw gm base m : Nat) (who : List Int) (next n : Nat) (D : DataW Unit) (id : Int) (k : Nat) (w : World) (h : SlP w g gw gm base m who next n D) (hw : (Lit.int .i64 id).wf = true) (hy : Maps.has D (.int .i64 id) = true)
    (hk : D.atKey (.int .i64 id) (.lit (.int .i64 0)) = .lit (.int .i64 (k : Int))) (hkm : k < m) :
    Calls Try.prog 43 #[.pointer (some ⟨g, 0, none⟩), .int .i64 id] w fun e w' => e = .returned (.bool true) ∧ SlP w' g gw gm base m (who.set k (-1)) next n (D.del (.int .i64 id)) ∧ Below base w w' := by
  have HY := hid hy; have HK := hid hk; have HH := hid h
  clear hy hk
  go_enter Try.func43, Try.ntmps43
  go_wp2_with fail
  refine (slot_any g gw gm base m who next n D id _ h hw).mono ?_
  rw [HY.out]
  rintro e w1 ⟨c, rfl, hat, rfl⟩
  have hck : c = (k : Int) := by
    rw [HK.out] at hat; injection hat with h1; injection h1 with _ h2; exact h2.symm
  subst hck
  have HSW := hid (h.setWho k (-1))
  have hlen := h.len
  obtain ⟨h1, h2, h3, hbg, hbw, hbm, _, _, h9⟩ := h
  have c0 := h1.cell 0
  have c1 := h1.cell 1
  have q1 := h2.frozenAt k
  have q2 := (h2.cellAt k (by omega)).trans (intCells_get who k (by omega))
  have HM := hid HSW.out.2.2.1
  have HB : Hid (Below base w (w.setCell ⟨gw, k, none⟩ (.int .i64 (-1)))) := (Below.refl base w).setCell hbw _
  have hne := HSW.out.2.2.2.2.2.2.1
  simp only [List.getElem?_toArray] at c0 c1
  clear h1 h2 h3 hat
  go_wp2_with (at_delete; refine wpList_delete_own _ rfl _ _ 158 3 rfl 3 Try.keyInt Try.underlying158 _ gm n D rfl HM.out _ _ rfl (keyOf_int_mk Try.underlying3 hw) ?_)
  intro w2 hm2 ht2
  have HS2 := hid (HSW.out.turned ht2.grown hm2)
  have hb2 : Below base w w2 := HB.out.grown ht2.grown (Nat.le_trans hbm (Nat.le_of_lt HM.out.lt)) (fun k hk => by cases hk; exact hbm)
  go_wp2_with fail
  go_ret
  exact ⟨rfl, HS2.out, hb2⟩
end Go.Proofs.Ytdbiodofofnpgaa
namespace Go.Proofs.Ytdbiodofofnpgaa
open Go.RowKit Go.Maps

set_option maxRecDepth 20000 in
set_option maxHeartbeats 400000 in
theorem openEnd_any (g gw gm base m : Nat) (who : List Int) (n : Nat) (D : DataW Unit) (w : World) (h : SlP w g gw gm base m who 4096 n D) :
    Calls Try.prog 41 #[.pointer (some ⟨g, 0, none⟩)] w fun e w' => e = .returned (.tuple #[.int .i64 0, .int .i64 0, .bool false]) ∧ Below w.heap.size w w' := by
  obtain ⟨hb, _⟩ := h
  have c2 := hb.cell 2
  simp only [List.getElem?_toArray] at c2
  clear hb
  go_enter Try.func41, Try.ntmps41
  go_wp2_with fail
  go_quiet (fail)
  go_wp2_with fail
  go_ret3
  exact ⟨rfl, ⟨rfl, rfl, rfl, Nat.le_refl _, fun _ _ => rfl⟩⟩
end Go.Proofs.Ytdbiodofofnpgaa
namespace Go.Proofs.Ytdbiodofofnpgaa
open Go.RowKit Go.Maps

set_option maxRecDepth 20000 in
set_option maxHeartbeats 800000 in
theorem openOk_any (g gw gm base m : Nat) (who : List Int) (next n k : Nat) (D : DataW Unit) (w : World) (h : SlP w g gw gm base m who next n D) (hn : next < 4096) (hs : Maps.size D ≠ m) (hm : m ≤ 1024) (hnn : n ≤ 100000) (hk : idxI (-1) who = some k) (hkm : k < m) :
    Calls Try.prog 41 #[.pointer (some ⟨g, 0, none⟩)] w fun e w' => e = .returned (.tuple #[.int .i64 (next : Int), .int .i64 (k : Int), .bool true]) ∧
      SlP w' g gw gm base m (who.set k (next : Int)) (next + 1) (n + 1) (D.put (.int .i64 (next : Int)) (.lit (.int .i64 (k : Int)))) ∧ Below base w w' := by
  have HH := hid h
  have hwl := h.len
  obtain ⟨hb, ho, hmp, hbg, hbw, hbm, hne1, hne2, hne3⟩ := h
  have c0 := hb.cell 0
  have c1 := hb.cell 1
  have c2 := hb.cell 2
  simp only [List.getElem?_toArray] at c0 c1 c2
  have hlen : ∀ q ty, (Builtin.len_ #[158] ty #[.map (some gm)]).run Try.prog (w.drewN q) = .ok (.int .i64 (Maps.size D)) (w.drewN q) := fun q ty => World.ownsMap.len (w := w.drewN q) hmp Try.underlying158 ty
  have hd : decide ((4096 : Int) ≤ (next : Int)) = false := by simp; omega
  have hszne : ((Maps.size D : Int) == (m : Int)) = false := by simp; omega
  go_enter Try.func41, Try.ntmps41
  go_wp2_with fail
  go_quiet (fail)
  have HI : Hid (Rd (w.drewN nq) (some ⟨gw, 0, none⟩) (intCells who)) := Rd_of_own ho
  have HK := hid hk
  have HW := hid hwl
  have HHn : Hid (SlP (w.drewN nq) g gw gm base m who next n D) := HH.out
  have f2 := hb.frozen 2
  have q1 := ho.frozenAt k
  have q2 := (ho.cellAt k (by omega)).trans (intCells_get who k (by omega))
  clear hb ho hmp hlen hk
  go_wp2_with fail
  refine (indexI_any _ m m who (-1) _ HW.out (by omega) HI.out).mono ?_
  rw [HK.out]
  rintro e w1 ⟨rfl, rfl⟩
  simp only [optI]
  have HS2 := hid (HHn.out.setNext (next + 1))
  have HS3 := hid (HS2.out.setWho k (next : Int))
  have HM := hid HS3.out.2.2.1
  go_wp2_with (at_mapUpdate; refine wpList_mapUpdate_own _ rfl _ _ _ 158 rfl 3 3 Try.keyInt Try.underlying158 _ gm n D rfl HM.out (by unfold maxLen; omega) _ _ _ rfl rfl (keyOf_int_mk Try.underlying3 (WalkArith.wf_i64 (by omega))) _ [] (plainElem_int Try.underlying3 (WalkArith.wf_i64 (by omega))) ?_)
  intro w5 hm5 hg5
  have HS5 := hid (HS3.out.turned hg5 hm5)
  have HB : Hid (Below base w (((w.drewN nq).setCell ⟨g, 2, none⟩ (.int .i64 ((next + 1 : Nat) : Int))).setCell ⟨gw, k, none⟩ (.int .i64 (next : Int)))) :=
    ((show Below base w (w.drewN nq) from ⟨rfl, rfl, rfl, Nat.le_refl _, fun _ _ => rfl⟩).setCell hbg _).setCell hbw _
  have hb5 : Below base w w5 := HB.out.grown hg5 (Nat.le_trans hbm (Nat.le_of_lt HM.out.lt)) (fun k hk => by cases hk; exact hbm)
  go_wp2_with fail
  go_ret3
  exact ⟨rfl, HS5.out, hb5⟩
end Go.Proofs.Ytdbiodofofnpgaa
namespace Go.Proofs.Ytdbiodofofnpgaa
open Go.RowKit Go.Maps

set_option maxRecDepth 20000 in
set_option maxHeartbeats 800000 in
theorem openFull_any (g gw gm base m : Nat) (who : List Int) (next n : Nat) (D : DataW Unit) (w : World) (h : SlP w g gw gm base m who next n D) (hn : next < 4096) (hs : Maps.size D = m) :
    Calls Try.prog 41 #[.pointer (some ⟨g, 0, none⟩)] w fun e w' => e = .returned (.tuple #[.int .i64 0, .int .i64 0, .bool false]) ∧ Below w.heap.size w w' := by
  obtain ⟨hb, ho, hmp, hbg, hbw, hbm, hne1, hne2, hne3⟩ := h
  have c0 := hb.cell 0
  have c1 := hb.cell 1
  have c2 := hb.cell 2
  simp only [List.getElem?_toArray] at c0 c1 c2
  have hlen : ∀ q ty, (Builtin.len_ #[158] ty #[.map (some gm)]).run Try.prog (w.drewN q) = .ok (.int .i64 (m : Int)) (w.drewN q) := fun q ty => by
    rw [World.ownsMap.len (w := w.drewN q) hmp Try.underlying158 ty, hs]
  have hd : decide ((4096 : Int) ≤ (next : Int)) = false := by simp; omega
  clear hb ho hmp hs
  go_enter Try.func41, Try.ntmps41
  go_wp2_with fail
  go_quiet (fail)
  go_wp2_with fail
  go_ret3
  exact ⟨rfl, ⟨rfl, rfl, rfl, Nat.le_refl _, fun _ _ => rfl⟩⟩

theorem SlP.below {w w' : World} {g gw gm base m : Nat} {who : List Int} {next n : Nat} {D : DataW Unit} (h : SlP w g gw gm base m who next n D) (hb : Below w.heap.size w w') : SlP w' g gw gm base m who next n D := by
  obtain ⟨h1, h2, h3, h4, h5, h6, h7, h8, h9⟩ := h
  refine ⟨h1.below hb h1.lt, own_below h2 hb, ?_, h4, h5, h6, h7, h8, h9⟩
  exact h3.kept (row := none) ⟨hb.os, hb.tape, hb.output, hb.size, fun q hq _ => hb.block q hq⟩ (by simp)

def dk (a : Int) : Lit := .int .i64 a
def dv (a : Int) : DataW Unit := .lit (.int .i64 a)
theorem live28_a : Maps.size ((.map [] : DataW Unit)) = 0 := rfl
theorem live28_b : Maps.size (((.map [] : DataW Unit).put (dk 0) (dv 0))) = 1 := rfl
theorem live28_c : Maps.size ((((.map [] : DataW Unit).put (dk 0) (dv 0)).put (dk 1) (dv 1))) = 2 := rfl
theorem live28_d : Maps.has ((((.map [] : DataW Unit).put (dk 0) (dv 0)).put (dk 1) (dv 1))) (dk 0) = true := rfl
theorem live28_e : ((((.map [] : DataW Unit).put (dk 0) (dv 0)).put (dk 1) (dv 1))).atKey (dk 0) (dv 0) = dv 0 := rfl
theorem live28_f : Maps.size ((((.map [] : DataW Unit).put (dk 0) (dv 0)).put (dk 1) (dv 1)).del (dk 0)) = 1 := rfl

set_option maxRecDepth 20000 in
set_option maxHeartbeats 800000 in
theorem lives28_any (w : World) : Calls Try.prog 46 #[] w fun e w' => e = .returned (.bool true) ∧ Below w.heap.size w w' := by
  go_enter Try.func46, Try.ntmps46
  go_wp2_with fail
  refine (new_any 2 (by omega) (by omega) _).mono ?_
  rintro e w1 ⟨g, gw, gm, rfl, hs1, hb1⟩
  have HB1 := hid hb1
  have C1 := hid (openOk_any g gw gm _ 2 _ 0 0 0 _ w1 hs1 (by omega) (by rw [live28_a]; omega) (by omega) (by omega) (by decide) (by omega))
  clear hs1 hb1
  go_wp2_with fail
  refine C1.out.mono ?_
  rintro e w2 ⟨rfl, hs2, hb2⟩
  have HB2 := hid (HB1.out.trans hb2)
  have C2 := hid (openOk_any g gw gm _ 2 _ 1 1 1 _ w2 hs2 (by omega) (by have := live28_b; unfold dk dv at this; rw [show ((0 : Nat) : Int) = 0 from rfl, this]; omega) (by omega) (by omega) (by decide) (by omega))
  clear hs2 hb2 C1
  go_wp2_with fail
  refine C2.out.mono ?_
  rintro e w3 ⟨rfl, hs3, hb3⟩
  have HB3 := hid (HB2.out.trans hb3)
  have HS3 := hid hs3
  have C3 := hid (openFull_any g gw gm _ 2 _ 2 2 _ w3 hs3 (by omega) live28_c)
  clear hs3 hb3 C2
  go_wp2_with fail
  refine C3.out.mono ?_
  rintro e w4 ⟨rfl, hb4⟩
  have HB4 := hid (HB3.out.trans (hb4.mono HB3.out.size))
  have hs4 := HS3.out.below hb4
  have C4 := hid (closeYes_any g gw gm _ 2 _ 2 2 _ 0 0 w4 hs4 (by decide) live28_d live28_e (by omega))
  clear hb4 hs4 C3 HS3
  go_wp2_with fail
  refine C4.out.mono ?_
  rintro e w5 ⟨rfl, hs5, hb5⟩
  have HB5 := hid (HB4.out.trans hb5)
  have C5 := hid (skip_any g gw gm _ 2 _ 2 2 _ w5 hs5 (by omega))
  clear hs5 hb5 C4
  go_wp2_with fail
  refine C5.out.mono ?_
  rintro e w6 ⟨rfl, hs6, hb6⟩
  have HB6 := hid (HB5.out.trans hb6)
  have C6 := hid (openOk_any g gw gm _ 2 _ 3 2 0 _ w6 hs6 (by omega) (by have := live28_f; unfold dk dv at this; exact fun h => by rw [show ((0 : Nat) : Int) = 0 from rfl, show ((1 : Nat) : Int) = 1 from rfl, this] at h; omega) (by omega) (by omega) (by decide) (by omega))
  clear hs6 hb6 C5
  go_wp2_with fail
  refine C6.out.mono ?_
  rintro e w7 ⟨rfl, hs7, hb7⟩
  have HB7 := hid (HB6.out.trans hb7)
  clear hs7 hb7 C6
  go_wp2_with fail
  go_ret
  exact ⟨rfl, HB7.out⟩
end Go.Proofs.Ytdbiodofofnpgaa
