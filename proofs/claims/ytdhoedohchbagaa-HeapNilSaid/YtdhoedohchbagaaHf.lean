/- Walks: cmp.Compare, cmp.Or, heap.order. -/
import Derived.Test.YtdhoedohchbagaaHd
import Derived.Test.YtdhoedohchbagaaTail
namespace Go.Proofs.Ytdhoedohchbagaa
open Go.RowKit

theorem isNaN_any (x : Int) (w : World) : Calls Try.prog 139 #[.int .i64 x] w fun e w' => e = .returned (.bool false) ∧ w = w' := by
  go_enter Try.func139, Try.ntmps139
  go_wp2
  go_ret
  exact ⟨by simp, rfl⟩
theorem isNaN64_any (x : Int) (w : World) : Calls Try.prog 138 #[.int .i64 x] w fun e w' => e = .returned (.bool false) ∧ w = w' := by
  go_enter Try.func138, Try.ntmps138
  go_wp2
  go_ret
  exact ⟨by simp, rfl⟩

def cmpI (x y : Int) : Int := if x < y then -1 else if y < x then 1 else 0
theorem compare_any (x y : Int) (w : World) : Calls Try.prog 121 #[.int .i64 x, .int .i64 y] w fun e w' => e = .returned (.int .i64 (cmpI x y)) ∧ w = w' := by
  by_cases h : x < y
  · go_enter Try.func121, Try.ntmps121
    go_wp2_with (go_at_call 139; refine (isNaN_any _ _).mono ?_; rintro e w1 ⟨rfl, rfl⟩)
    go_ret
    exact ⟨by simp [cmpI, h], rfl⟩
  · by_cases h2 : y < x
    all_goals
      go_enter Try.func121, Try.ntmps121
      go_wp2_with (go_at_call 139; refine (isNaN_any _ _).mono ?_; rintro e w1 ⟨rfl, rfl⟩)
      go_ret
      exact ⟨by unfold cmpI; first | (rw [if_neg (by omega), if_pos (by omega)] <;> rfl) | (rw [if_neg (by omega), if_neg (by omega)] <;> rfl), rfl⟩
theorem compare64_any (x y : Int) (w : World) : Calls Try.prog 120 #[.int .i64 x, .int .i64 y] w fun e w' => e = .returned (.int .i64 (cmpI x y)) ∧ w = w' := by
  by_cases h : x < y
  · go_enter Try.func120, Try.ntmps120
    go_wp2_with (go_at_call 138; refine (isNaN64_any _ _).mono ?_; rintro e w1 ⟨rfl, rfl⟩)
    go_ret
    exact ⟨by simp [cmpI, h], rfl⟩
  · by_cases h2 : y < x
    all_goals
      go_enter Try.func120, Try.ntmps120
      go_wp2_with (go_at_call 138; refine (isNaN64_any _ _).mono ?_; rintro e w1 ⟨rfl, rfl⟩)
      go_ret
      exact ⟨by unfold cmpI; first | (rw [if_neg (by omega), if_pos (by omega)] <;> rfl) | (rw [if_neg (by omega), if_neg (by omega)] <;> rfl), rfl⟩

def orI (x y : Int) : Int := if x = 0 then y else x
theorem or_any (g c : Nat) (x y : Int) (w : World) (h0 : w.cell? ⟨g, 0, none⟩ = some (.int .i64 x)) (h1 : w.cell? ⟨g, 1, none⟩ = some (.int .i64 y)) :
    Calls Try.prog 119 #[.slice (some ⟨g, 0, none⟩) 2 c] w fun e w' => e = .returned (.int .i64 (orI x y)) ∧ w = w' := by
  by_cases hx : x = 0
  · subst hx
    by_cases hy : y = 0
    · subst hy
      go_enter Try.func119, Try.ntmps119
      go_wp2
      go_loop [8] (fun i => ∃ k : Nat, k ≤ 2 ∧ i = .int .i64 k) (fun i => 2 - (intOf i).toNat)
      case atStart => exact ⟨0, by omega, rfl⟩
      case round =>
        obtain ⟨k, hk, rfl⟩ := hrel
        match k, hk with
        | 0, _ =>
          go_wp2
          go_round
          case rel => exact ⟨1, by omega, rfl⟩
          case measure => simp [intOf]
        | 1, _ =>
          go_wp2
          go_round
          case rel => exact ⟨2, by omega, rfl⟩
          case measure => simp [intOf]
        | 2, _ =>
          go_wp2
          go_ret
          exact ⟨by simp [orI], rfl⟩
    · have hy2 : (y == 0) = false := by simpa using hy
      go_enter Try.func119, Try.ntmps119
      go_wp2
      go_loop [8] (fun i => ∃ k : Nat, k ≤ 1 ∧ i = .int .i64 k) (fun i => 2 - (intOf i).toNat)
      case atStart => exact ⟨0, by omega, rfl⟩
      case round =>
        obtain ⟨k, hk, rfl⟩ := hrel
        match k, hk with
        | 0, _ =>
          go_wp2
          go_round
          case rel => exact ⟨1, by omega, rfl⟩
          case measure => simp [intOf]
        | 1, _ =>
          go_wp2
          go_ret
          exact ⟨by simp [orI], rfl⟩
  · have hx2 : (x == 0) = false := by simpa using hx
    go_enter Try.func119, Try.ntmps119
    go_wp2
    go_loop [8] (fun i => i = .int .i64 0) (fun i => 2 - (intOf i).toNat)
    case atStart => rfl
    case round =>
      obtain rfl := hrel
      go_wp2
      go_ret
      exact ⟨by simp [orI, hx], rfl⟩

theorem cmpE_or (a b : Ent) : orI (cmpI a.t b.t) (cmpI a.id b.id) = cmpE a b := by
  unfold orI cmpI cmpE Ent.lt
  repeat' split
  all_goals omega
set_option maxRecDepth 20000 in
theorem order_any (a b : Ent) (w : World) :
    Calls Try.prog 103 #[.agg #[.int .i64 a.t, .int .i64 (a.id : Int)], .agg #[.int .i64 b.t, .int .i64 (b.id : Int)]] w fun e w' => e = .returned (.int .i64 (cmpE a b)) ∧ Below w.heap.size w w' := by
  have HC := hid (cmpE_or a b)
  obtain ⟨at_, aid⟩ := a
  obtain ⟨bt, bid⟩ := b
  go_enter Try.func103, Try.ntmps103
  go_wp2_with fail
  refine wp_region_tail 10 (by kernel_rfl) (by kernel_rfl) ?_
  simp only [List.take_succ_cons, List.take_zero, List.drop_succ_cons, List.drop_zero]
  repeat still_step
  still_call (Calls.same (compare64_any _ _ _))
  repeat still_step
  still_call (Calls.same (compare_any _ _ _))
  refine wpStill_nil ?_
  go_wp2_with (go_at_call 119; go_loud (refine (or_any (w.heap.size + 1 + 1) _ (cmpI at_ bt) (cmpI aid bid) _ (by go_simp) (by go_simp)).mono ?_; rintro e w1 ⟨rfl, rfl⟩))
  go_ret
  refine ⟨by rw [← HC.out]; rfl, ?_⟩
  exact ((((Below.refl _ _).alloc (Nat.le_refl _) _).alloc (by simp) _).trans ((drewN_below _ 1).mono (by simp; omega))).alloc (by simp; omega) _
end Go.Proofs.Ytdhoedohchbagaa
