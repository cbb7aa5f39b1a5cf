/- Walks: package glob's 'Good'; a table's methods. -/
import Derived.Test.YtmcacdegikgmnaaTab
import Derived.Test.YtmcacdegikgmnaaWm
import Derived.Test.YtmcacdegikgmnaaMix
namespace Go.Proofs.Ytmcacdegikgmnaa
open Go.RowKit

theorem goodF_any (x : Item) (w : World) : Calls Try.prog 74 #[x.val] w fun e w' => e = .returned (.bool (x.run && x.set != BSet.zero)) ∧ Below w.heap.size w w' := by
  have hb : ∀ cs, Below w.heap.size w (w.alloc (.cells cs 42)) := fun cs => (Below.refl _ _).alloc (Nat.le_refl _) _
  have HB := hid hb
  clear hb
  have heq : ∀ W, (Op.equalIn 10000 40 (.agg #[w64 x.set.w0, w64 x.set.w1, w64 x.set.w2, w64 x.set.w3]) (.agg #[.int .u64 0, .int .u64 0, .int .u64 0, .int .u64 0])).run Try.prog W = .ok (x.set == BSet.zero) W := fun W => Try.eqSet x.set BSet.zero W
  unfold Item.val
  rw [show (x.set != BSet.zero) = !(x.set == BSet.zero) from rfl]
  generalize (x.set == BSet.zero) = z at *
  obtain ⟨r, x0, x1, x2, x3⟩ := x
  simp only at *
  go_enter Try.func74, Try.ntmps74
  cases r
  · go_wp2
    go_ret
    exact ⟨rfl, HB.out _⟩
  · go_wp2
    go_ret
    exact ⟨rfl, HB.out _⟩

theorem goodM_eq (l : List Item) : goodM l = (decide (l.length ≤ 60) && !(l.any fun x => x.run && x.set != BSet.zero)) := by
  unfold goodM
  rw [Bool.and_comm, List.all_eq_not_any_not]
  congr 1
  · rw [Bool.eq_iff_iff]; simp; omega
  · congr 2; funext x; simp

set_option maxHeartbeats 400000 in
theorem goodD_any (A : Option Addr) (n c : Nat) (l : List Item) (w : World) (hl : l.length = n) (hn : n ≤ 1000000) (hr : Rd w A (itemCells l)) :
    Calls Try.prog 71 #[.slice A n c] w fun e w' => e = .returned (.bool (goodM l)) ∧ Below w.heap.size w w' := by
  have HG := hid (goodM_eq l)
  rw [hl] at HG
  have HL := hid hl; clear hl
  go_enter Try.func71, Try.ntmps71
  by_cases h60 : n ≤ 60
  · have HD : Hid (decide (n ≤ 60) = true) := by simp [Hid, h60]
    go_wp2_with fail
    refine (containsFunc_any 74 _ (enters_of Try.func74 (by kernel_rfl) rfl) goodF_any A n c l _ HL.out hn hr).mono ?_
    rintro e w1 ⟨rfl, hb1⟩
    go_wp2
    go_ret
    exact ⟨by rw [HG.out, HD.out]; rfl, hb1⟩
  · have HD : Hid (decide (n ≤ 60) = false) := by simp [Hid, h60]
    go_wp2_with fail
    go_ret
    exact ⟨by rw [HG.out, HD.out]; rfl, Below.refl _ _⟩

set_option maxHeartbeats 400000 in
theorem goodC_any (A : Option Addr) (n c : Nat) (l : List Item) (w : World) (hl : l.length = n) (hn : n ≤ 1000000) (hr : Rd w A (itemCells l)) :
    Calls Try.prog 61 #[.slice A n c] w fun e w' => e = .returned (.bool (goodM l)) ∧ Below w.heap.size w w' := by
  have HG := hid (goodM_eq l)
  have HL := hid hl; clear hl
  go_enter Try.func61, Try.ntmps61
  go_wp2_with fail
  refine (goodD_any A n c l _ HL.out hn hr).mono ?_
  rintro e w1 ⟨rfl, hb1⟩
  go_wp2
  go_ret
  exact ⟨rfl, hb1⟩

/-- A table in memory. -/
def Tb (w : World) (g : Nat) (l : List Item) : Prop := g < w.heap.size ∧ w.cell? ⟨g, 0, none⟩ = some (.int .i64 (l.length : Int)) ∧ w.cell? ⟨g, 1, none⟩ = some (w64 (runsW l)) ∧ ∀ b, b < 256 → w.cell? ⟨g, 2 + b, none⟩ = some (w64 (hasW l b))
theorem Tb.below {w w' : World} {g : Nat} {l : List Item} (h : Tb w g l) (hb : Below w.heap.size w w') : Tb w' g l :=
  ⟨Nat.lt_of_lt_of_le h.1 hb.size, (hb.cell (p := ⟨g, 0, none⟩) h.1).trans h.2.1, (hb.cell (p := ⟨g, 1, none⟩) h.1).trans h.2.2.1, fun b h1 => (hb.cell (p := ⟨g, 2 + b, none⟩) h.1).trans (h.2.2.2 b h1)⟩

/-! ### Words as the walk has them -/
theorem w_and (x y : BitVec 64) : bits .and .u64 (x.toNat : Int) (y.toNat : Int) = ((x &&& y).toNat : Int) := by
  rw [u64_and_nat _ _ x.isLt y.isLt, BitVec.toNat_and]
theorem w_or (x y : BitVec 64) : bits .or .u64 (x.toNat : Int) (y.toNat : Int) = ((x ||| y).toNat : Int) := by
  rw [u64_or_nat _ _ x.isLt y.isLt, BitVec.toNat_or]
theorem w_shl1 (x : BitVec 64) : IntKind.u64.wrap ((x.toNat : Int) * 2) = ((x <<< 1).toNat : Int) := by
  rw [BitVec.toNat_shiftLeft, IntKind.wrap_u64, Nat.shiftLeft_eq]
  show _ = ((x.toNat * 2 % 18446744073709551616 : Nat) : Int)
  omega
def maskW (n : Nat) : BitVec 64 := BitVec.ofNat 64 (2 ^ (n + 1) - 1)
theorem maskW_toNat (n : Nat) (h : n ≤ 60) : (maskW n).toNat = 2 ^ (n + 1) - 1 := by
  unfold maskW
  refine ofNat_toNat64 _ ?_
  have : 2 ^ (n + 1) ≤ 2 ^ 61 := Nat.pow_le_pow_right (by omega) (by omega)
  omega
theorem w_mask (n : Nat) (h : n ≤ 60) : IntKind.u64.wrap (IntKind.u64.wrap (2 * 2 ^ n) - 1) = ((maskW n).toNat : Int) := by
  have h1 : 2 ^ (n + 1) ≤ 2 ^ 61 := Nat.pow_le_pow_right (by omega) (by omega)
  have h2 : 0 < 2 ^ (n + 1) := Nat.pow_pos (by omega)
  have e : (2 * 2 ^ n : Int) = ((2 ^ (n + 1) : Nat) : Int) := by rw [Int.natCast_pow, Int.pow_succ, Int.mul_comm]; rfl
  rw [e, maskW_toNat n h, IntKind.wrap_u64, IntKind.wrap_u64]
  have h3 : (2 : Nat) ^ 61 = 2305843009213693952 := by decide +kernel
  rw [h3] at h1
  clear e
  generalize 2 ^ (n + 1) = q at *
  omega
theorem maskW_bit (n k : Nat) (h : n ≤ 60) : (maskW n).getLsbD k = decide (k ≤ n) := by
  rw [BitVec.getLsbD, maskW_toNat n h, Nat.testBit_two_pow_sub_one]
  simp; omega

set_option maxHeartbeats 400000 in
theorem close_any (g : Nat) (l : List Item) (x : BitVec 64) (w : World) (hn : l.length ≤ 60) (ht : Tb w g l) :
    Calls Try.prog 65 #[.pointer (some ⟨g, 0, none⟩), w64 x] w fun e w' => e = .returned (w64 (closeW l x)) ∧ w = w' := by
  obtain ⟨h0, h1, h2, _⟩ := ht
  have km := w_mask l.length hn
  obtain ⟨x0, hx0⟩ : ∃ x0, x0 = x &&& maskW l.length := ⟨_, rfl⟩
  have ka := w_and x (maskW l.length)
  rw [← hx0] at ka
  have HI : Hid (CloseInv l x x0) := by
    rw [hx0]
    refine close_start l x _ fun k hk => ?_
    rw [BitVec.getLsbD_and, maskW_bit _ _ hn]
  clear hx0
  have HN := hid hn
  go_enter Try.func65, Try.ntmps65
  go_wp2
  clear km ka hn
  go_loop [1, 5] (fun v u => ∃ y : BitVec 64, v = w64 y ∧ Hid (CloseInv l x y)) (fun v _ => 18446744073709551616 - (intOf v).toNat)
  case atStart => exact ⟨_, rfl, HI⟩
  case round =>
    obtain ⟨y, rfl, HY⟩ := hrel
    have HNX : Hid (nextW l y = y ||| ((y &&& runsW l) <<< 1)) := rfl
    obtain ⟨z, hz⟩ : ∃ z, z = y &&& runsW l := ⟨_, rfl⟩
    obtain ⟨t, ht⟩ : ∃ t, t = z <<< 1 := ⟨_, rfl⟩
    have ka := w_and y (runsW l)
    have ks := w_shl1 z
    have ko := w_or y t
    have HC := hid (close_next l x y HY.out)
    have HG := hid (next_grows l y)
    have HD := hid (close_done l x y HY.out)
    rw [← hz] at ka HNX
    rw [← ht] at ks HNX
    rw [← HNX.out] at ko
    generalize nextW l y = nx at *
    clear HI hz ht HNX HY
    by_cases he : nx = y
    · subst he
      have HD2 := hid (HD.out rfl)
      clear HG HD
      go_wp2
      go_ret
      exact ⟨by rw [← HD2.out]; rfl, rfl⟩
    · have hlt := HG.out he
      have hne : ((nx.toNat : Int) == (y.toNat : Int)) = false := by simp; omega
      have hub := nx.isLt
      clear HG HD he
      go_wp2
      go_round
      case rel => exact ⟨nx, rfl, HC⟩
      case measure => simp [intOf]; omega
end Go.Proofs.Ytmcacdegikgmnaa
