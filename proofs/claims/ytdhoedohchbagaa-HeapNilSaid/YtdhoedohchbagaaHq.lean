/- Walks: the reference of layer 1: Own, Due; of layer 5: Same; 'lives' of layer 5. -/
import Derived.Test.YtdhoedohchbagaaHp
import Derived.Laws.StructEq
namespace Go.Proofs.Ytdhoedohchbagaa
open Go.RowKit

theorem Try.eqEnt (x y : Ent) (W : World) : (Op.equalIn 10000 38 (.agg #[.int .i64 x.t, .int .i64 (x.id : Int)]) (.agg #[.int .i64 y.t, .int .i64 (y.id : Int)])).run Try.prog W = .ok (decide (x = y)) W := by
  have u3 := Try.underlying3
  have a3 := Try.isAgg3
  have z3 := Try.sizeOf3
  have u2 := Try.underlying2
  have a2 := Try.isAgg2
  have z2 := Try.sizeOf2
  have hS : Try.prog.underlying 38 = some (.struct (Try.prog.fieldsOf 38)) := by kernel_rfl
  have hp : Try.prog.stoodInHeld 38 = false := by kernel_rfl
  obtain ⟨xt, xi⟩ := x
  obtain ⟨yt, yi⟩ := y
  rw [show (10000 : Nat) = 9999 + 1 from rfl, run_equalIn_agg W 9999 38 _ _ hS hp]
  simp only [Program.fieldsOf, Try.underlying38]
  go_simp
  by_cases h1 : xt = yt <;> by_cases h2 : xi = yi <;> simp [h1, h2] <;> omega

theorem ownR_any (t : Int) (w : World) : Calls Try.prog 24 #[.int .i64 t] w fun e w' => e = .returned (.int .i64 (ownT t)) ∧ w = w' := by
  by_cases h : t < 0
  · have e : ownT t = 0 := by unfold ownT; rw [if_pos h]
    rw [e]
    go_enter Try.func24, Try.ntmps24
    go_wp2
    go_ret
    exact ⟨rfl, rfl⟩
  · have e : ownT t = t := by unfold ownT; rw [if_neg h]
    rw [e]
    go_enter Try.func24, Try.ntmps24
    go_wp2
    go_ret
    exact ⟨rfl, rfl⟩
theorem dueR_any (t now : Int) (w : World) : Calls Try.prog 23 #[.int .i64 t, .int .i64 now] w fun e w' => e = .returned (.bool (dueT t now)) ∧ w = w' := by
  by_cases h : t = 9223372036854775807
  · have e : dueT t now = false := by unfold dueT neverT; simp [h]
    rw [e]
    have hb : (t != 9223372036854775807) = false := by simp [h]
    clear h e
    go_enter Try.func23, Try.ntmps23
    go_wp2
    go_ret
    exact ⟨rfl, rfl⟩
  · have e : dueT t now = decide (ownT t ≤ ownT now) := by unfold dueT neverT; simp [h]
    rw [e]
    have hb : (t != 9223372036854775807) = true := by simp [h]
    clear h e
    go_enter Try.func23, Try.ntmps23
    go_wp2_with (go_at_call 24; refine (ownR_any _ _).mono ?_; rintro e w1 ⟨rfl, rfl⟩)
    go_ret
    exact ⟨rfl, rfl⟩

theorem rd_ent {w : World} {b off : Nat} {l : List Ent} (hc : ∀ j u, (entCells l)[j]? = some u → w.cell? ⟨b, off + j, none⟩ = some u) (k : Nat) (h : k < l.length) :
    w.cell? ⟨b, off + k * 2, none⟩ = some (.int .i64 (eg l k).t) ∧ w.cell? ⟨b, off + k * 2 + 1, none⟩ = some (.int .i64 ((eg l k).id : Int)) := by
  refine ⟨hc (k * 2) _ ((entCells_get l k h 0 (by omega)).trans rfl), ?_⟩
  have := hc (k * 2 + 1) _ ((entCells_get l k h 1 (by omega)).trans rfl)
  rwa [← Nat.add_assoc] at this

def sameE (a b : List Ent) : Bool := decide (a = b)
set_option maxRecDepth 20000 in
set_option maxHeartbeats 400000 in
theorem sameE_any (A B : Option Addr) (n m c d : Nat) (a b : List Ent) (w : World) (ha : a.length = n) (hb : b.length = m) (hn : n ≤ 100000) (hm : m ≤ 100000) (hra : Rd w A (entCells a)) (hrb : Rd w B (entCells b)) :
    Calls Try.prog 29 #[.slice A n c, .slice B m d] w fun e w' => e = .returned (.bool (sameE a b)) ∧ Below w.heap.size w w' := by
  by_cases hnm : n = m
  · subst hnm
    have HA := hid ha; have HB := hid hb
    clear ha hb
    go_enter Try.func29, Try.ntmps29
    go_wp2_with fail
    go_loopw [5] (fun i wr => ∃ k, k ≤ n ∧ i = .int .i64 k ∧ Hid (a.take k = b.take k) ∧ Below w.heap.size w wr) (fun i _ => n - (intOf i).toNat)
    case atStart => exact ⟨0, by omega, rfl, by simp [Hid], Below.refl _ _⟩
    case round =>
      obtain ⟨k, hk, rfl, HT, hbw⟩ := hrel
      have HBW := hid hbw
      by_cases hlt : k < n
      · obtain ⟨p, o1, rfl, hp, hc1⟩ := (hra.below hbw).at (by rw [entCells_length, HA.out]; omega)
        obtain ⟨q, o2, rfl, hq, hc2⟩ := (hrb.below hbw).at (by rw [entCells_length, HB.out]; omega)
        have hka : k < a.length := by rw [HA.out]; exact hlt
        have hkb : k < b.length := by rw [HB.out]; exact hlt
        obtain ⟨x1, x2⟩ := rd_ent hc1 k hka
        obtain ⟨y1, y2⟩ := rd_ent hc2 k hkb
        have HEa : Hid (a.take (k + 1) = a.take k ++ [eg a k]) := by rw [Hid, List.take_succ_eq_append_getElem hka, eg_of hka]
        have HEb : Hid (b.take (k + 1) = b.take k ++ [eg b k]) := by rw [Hid, List.take_succ_eq_append_getElem hkb, eg_of hkb]
        have HX := hid (eg_of hka); have HY := hid (eg_of hkb)
        generalize eg a k = x at *
        generalize eg b k = y at *
        clear hc1 hc2 hra hrb hbw
        by_cases hxy : x = y
        · have heq : ∀ W, (Op.equalIn 10000 38 (.agg #[.int .i64 x.t, .int .i64 (x.id : Int)]) (.agg #[.int .i64 y.t, .int .i64 (y.id : Int)])).run Try.prog W = .ok true W := by
            intro W; rw [Try.eqEnt, decide_eq_true hxy]
          have HXY := hid hxy
          clear hxy
          go_wp2_with fail
          go_quiet (fail)
          go_wp2_with fail
          go_roundw
          case rel => exact ⟨k + 1, by omega, by go_num, by rw [Hid, HEa.out, HEb.out, HT.out, HXY.out], HBW.out.trans ((drewN_below _ _).mono HBW.out.size)⟩
          case measure => simp [intOf]; omega
        · have heq : ∀ W, (Op.equalIn 10000 38 (.agg #[.int .i64 x.t, .int .i64 (x.id : Int)]) (.agg #[.int .i64 y.t, .int .i64 (y.id : Int)])).run Try.prog W = .ok false W := by
            intro W; rw [Try.eqEnt, decide_eq_false hxy]
          have HS : Hid (sameE a b = false) := by
            rw [Hid, sameE, decide_eq_false_iff_not]
            intro e
            subst e
            exact hxy (HX.out.trans HY.out.symm)
          clear hxy
          go_wp2_with fail
          go_quiet (fail)
          go_wp2_with fail
          go_ret
          exact ⟨by rw [HS.out]; rfl, HBW.out.trans ((drewN_below _ _).mono HBW.out.size)⟩
      · have HS : Hid (sameE a b = true) := by
          have h1 := HT.out
          rw [List.take_of_length_le (by rw [HA.out]; omega), List.take_of_length_le (by rw [HB.out]; omega)] at h1
          rw [Hid, sameE, decide_eq_true h1]
        clear hra hrb
        go_wp2_with fail
        go_ret
        exact ⟨by rw [HS.out]; rfl, HBW.out⟩
  · have HS : Hid (sameE a b = false) := by
      rw [Hid, sameE, decide_eq_false_iff_not]; rintro rfl; omega
    have hne : ((n : Int) != (m : Int)) = true := by simp; omega
    clear hra hrb ha hb
    go_enter Try.func29, Try.ntmps29
    go_wp2_with fail
    go_ret
    exact ⟨by rw [HS.out]; rfl, Below.refl _ _⟩

theorem live5_a : setE (setE (setE (setE [] 2 5) 0 5) 1 4) 2 3 = [⟨3, 2⟩, ⟨4, 1⟩, ⟨5, 0⟩] := by decide
theorem live5_b : duesE 4 [⟨3, 2⟩, ⟨4, 1⟩, ⟨5, 0⟩] = [⟨3, 2⟩, ⟨4, 1⟩] := by decide
theorem live5_c : restE 4 [⟨3, 2⟩, ⟨4, 1⟩, ⟨5, 0⟩] = [⟨5, 0⟩] := by decide

set_option maxRecDepth 20000 in
set_option maxHeartbeats 800000 in
theorem lives5_any (w : World) : Calls Try.prog 26 #[] w fun e w' => e = .returned (.bool true) ∧ Below w.heap.size w w' := by
  go_enter Try.func26, Try.ntmps26
  go_wp2_with fail
  refine (hNew_any 3 (by omega) (by omega) _).mono ?_
  rintro e w1 ⟨g, gw, rfl, hi1, hb1, hg, hgw⟩
  have HB1 := hid hb1
  have F1 : Hid (∀ k, HpF g gw (.slice none 0 0) k → w.heap.size ≤ k) := by
    rintro k (h | h | h)
    · omega
    · omega
    · simp [Value.ownBlock] at h
  have C1 := hid (setH_any g gw 3 _ _ 2 5 w1 hi1 (by omega))
  clear hi1 hb1
  go_wp2_with fail
  refine C1.out.mono ?_
  rintro e w2 ⟨rfl, hp2⟩
  obtain ⟨b2, v2, hi2, f2⟩ := hp2.lower HB1.out.size F1.out
  have HB2 := hid (HB1.out.trans b2); have F2 := hid f2
  have C2 := hid (setH_any g gw 3 _ _ 0 5 w2 hi2 (by omega))
  clear hi2 b2 f2 hp2 C1
  go_wp2_with fail
  refine C2.out.mono ?_
  rintro e w3 ⟨rfl, hp3⟩
  obtain ⟨b3, v3, hi3, f3⟩ := hp3.lower HB2.out.size F2.out
  have HB3 := hid (HB2.out.trans b3); have F3 := hid f3
  have C3 := hid (setH_any g gw 3 _ _ 1 4 w3 hi3 (by omega))
  clear hi3 b3 f3 hp3 C2
  go_wp2_with fail
  refine C3.out.mono ?_
  rintro e w4 ⟨rfl, hp4⟩
  obtain ⟨b4, v4, hi4, f4⟩ := hp4.lower HB3.out.size F3.out
  have HB4 := hid (HB3.out.trans b4); have F4 := hid f4
  have C4 := hid (setH_any g gw 3 _ _ 2 3 w4 hi4 (by omega))
  clear hi4 b4 f4 hp4 C3
  go_wp2_with fail
  refine C4.out.mono ?_
  rintro e w5 ⟨rfl, hp5⟩
  rw [live5_a] at hp5
  obtain ⟨b5, v5, hi5, f5⟩ := hp5.lower HB4.out.size F4.out
  have HB5 := hid (HB4.out.trans b5); have F5 := hid f5
  have C5 := hid (hDue_any g gw 3 _ _ 4 w5 hi5)
  rw [live5_b, live5_c] at C5
  clear hi5 b5 f5 hp5 C4
  go_wp2_with fail
  refine C5.out.mono ?_
  rintro e w6 ⟨A, c, he, v6, hi6, hk6, hv6, ho6, hd6⟩
  have he2 : e = .returned (.slice A 2 c) := he
  subst he2
  have HB6 := hid (HB5.out.trans (hk6.below HB5.out.size F5.out))
  have HR6 : Hid (Rd w6 A (entCells [⟨3, 2⟩, ⟨4, 1⟩])) := Rd_of_own ho6
  have HI6 := hid hi6
  have C6 := hid (sameE_any A (some ⟨w6.heap.size, 0, none⟩) 2 2 c 2 [⟨3, 2⟩, ⟨4, 1⟩] [⟨3, 2⟩, ⟨4, 1⟩] (w6.alloc (.cells #[.int .i64 3, .int .i64 2, .int .i64 4, .int .i64 1] 38)) rfl rfl (by omega) (by omega)
    (HR6.out.below ((Below.refl _ _).alloc (Nat.le_refl _) _)) (Rd_lit w6 _ _))
  rw [show sameE [⟨3, 2⟩, ⟨4, 1⟩] [⟨3, 2⟩, ⟨4, 1⟩] = true from by decide] at C6
  clear hi6 hk6 hv6 ho6 hd6 C5 he
  go_wp2_with fail
  refine C6.out.mono ?_
  rintro e w7 ⟨rfl, hb7⟩
  have HB7 : Hid (Below w6.heap.size w6 w7) := ((Below.refl _ _).alloc (Nat.le_refl _) _).trans (hb7.mono (by simp))
  have C7 := hid (len_any g gw 3 _ _ w7 (HI6.out.below HB7.out))
  clear hb7 C6
  go_wp2_with fail
  refine C7.out.mono ?_
  rintro e w8 ⟨rfl, rfl⟩
  go_wp2_with fail
  go_ret
  exact ⟨rfl, HB6.out.trans (HB7.out.mono HB6.out.size)⟩
end Go.Proofs.Ytdhoedohchbagaa
