/- Sets of bytes: plain laws, and walks: class.with, negate, or, And. -/
import Derived.Test.YtdhoedohchbagaaTyp
import Derived.Test.YtdhoedohchbagaaMod
import Derived.Test.YtdhoedohchbagaaTail
import Derived.Laws.BitsAllLaws
namespace Go.Proofs.Ytdhoedohchbagaa
open Go.RowKit

theorem u_and (x y : BitVec 64) : bits .and .u64 (x.toNat : Int) (y.toNat : Int) = ((x &&& y).toNat : Int) := by
  rw [u64_and_nat _ _ x.isLt y.isLt, BitVec.toNat_and]
theorem u_or (x y : BitVec 64) : bits .or .u64 (x.toNat : Int) (y.toNat : Int) = ((x ||| y).toNat : Int) := by
  rw [u64_or_nat _ _ x.isLt y.isLt, BitVec.toNat_or]
def bitW (k : Nat) : BitVec 64 := BitVec.ofNat 64 (2 ^ k)
theorem bitW_toNat (k : Nat) (h : k < 64) : (bitW k).toNat = 2 ^ k := by
  unfold bitW
  rw [BitVec.toNat_ofNat]
  exact Nat.mod_eq_of_lt (Nat.pow_lt_pow_right (by omega) h)
theorem bitW_bit (k j : Nat) (h : k < 64) : (bitW k).getLsbD j = decide (j = k) := by
  rw [BitVec.getLsbD, bitW_toNat k h, Nat.testBit_two_pow]
  simp [eq_comm]
theorem u_one (k : Nat) (h : k < 64) : IntKind.u64.wrap (2 ^ k) = ((bitW k).toNat : Int) := by
  have h1 : 2 ^ k < 2 ^ 64 := Nat.pow_lt_pow_right (by omega) h
  rw [bitW_toNat k h, IntKind.wrap_u64, show ((2 : Int) ^ k) = ((2 ^ k : Nat) : Int) from by rw [Int.natCast_pow]; rfl]
  generalize 2 ^ k = q at *
  omega

def BSet.put (s : BSet) (i : Nat) (x : BitVec 64) : BSet := match i with | 0 => ⟨x, s.w1, s.w2, s.w3⟩ | 1 => ⟨s.w0, x, s.w2, s.w3⟩ | 2 => ⟨s.w0, s.w1, x, s.w3⟩ | _ => ⟨s.w0, s.w1, s.w2, x⟩
def withM (s : BSet) (b : Nat) : BSet := s.put (b / 64) (s.word (b / 64) ||| bitW (b % 64))
theorem put_word (s : BSet) (i j : Nat) (x : BitVec 64) (hi : i < 4) (hj : j < 4) : (s.put i x).word j = if j = i then x else s.word j := by
  match i, hi with
  | 0, _ => match j, hj with | 0, _ => rfl | 1, _ => rfl | 2, _ => rfl | 3, _ => rfl
  | 1, _ => match j, hj with | 0, _ => rfl | 1, _ => rfl | 2, _ => rfl | 3, _ => rfl
  | 2, _ => match j, hj with | 0, _ => rfl | 1, _ => rfl | 2, _ => rfl | 3, _ => rfl
  | 3, _ => match j, hj with | 0, _ => rfl | 1, _ => rfl | 2, _ => rfl | 3, _ => rfl
theorem has_with (s : BSet) (b c : Nat) (hb : b < 256) (hc : c < 256) : (withM s b).has c = (s.has c || decide (c = b)) := by
  unfold withM BSet.has
  rw [put_word _ _ _ _ (by omega) (by omega)]
  by_cases h : c / 64 = b / 64
  · rw [if_pos h, BitVec.getLsbD_or, bitW_bit _ _ (Nat.mod_lt _ (by omega)), h]
    congr 1
    rw [Bool.eq_iff_iff]; simp; omega
  · rw [if_neg h, show decide (c = b) = false from by simp; rintro rfl; exact h rfl, Bool.or_false]
def notM (s : BSet) : BSet := ⟨~~~s.w0, ~~~s.w1, ~~~s.w2, ~~~s.w3⟩
def orM (s t : BSet) : BSet := ⟨s.w0 ||| t.w0, s.w1 ||| t.w1, s.w2 ||| t.w2, s.w3 ||| t.w3⟩
def andM (s t : BSet) : BSet := ⟨s.w0 &&& t.w0, s.w1 &&& t.w1, s.w2 &&& t.w2, s.w3 &&& t.w3⟩
theorem notM_word (s : BSet) (i : Nat) (h : i < 4) : (notM s).word i = ~~~ s.word i := by
  match i, h with | 0, _ => rfl | 1, _ => rfl | 2, _ => rfl | 3, _ => rfl
theorem orM_word (s t : BSet) (i : Nat) (h : i < 4) : (orM s t).word i = s.word i ||| t.word i := by
  match i, h with | 0, _ => rfl | 1, _ => rfl | 2, _ => rfl | 3, _ => rfl
theorem andM_word (s t : BSet) (i : Nat) (h : i < 4) : (andM s t).word i = s.word i &&& t.word i := by
  match i, h with | 0, _ => rfl | 1, _ => rfl | 2, _ => rfl | 3, _ => rfl
theorem has_notM (s : BSet) (b : Nat) (h : b < 256) : (notM s).has b = !s.has b := by
  unfold BSet.has
  rw [notM_word _ _ (by omega), BitVec.getLsbD_not]
  have : b % 64 < 64 := Nat.mod_lt _ (by omega)
  simp [this]
theorem has_orM (s t : BSet) (b : Nat) (h : b < 256) : (orM s t).has b = (s.has b || t.has b) := by
  unfold BSet.has; rw [orM_word _ _ _ (by omega), BitVec.getLsbD_or]
theorem has_andM (s t : BSet) (b : Nat) (h : b < 256) : (andM s t).has b = (s.has b && t.has b) := by
  unfold BSet.has; rw [andM_word _ _ _ (by omega), BitVec.getLsbD_and]
theorem has_zero (b : Nat) : BSet.zero.has b = false := by
  unfold BSet.has BSet.zero BSet.word
  split <;> simp
end Go.Proofs.Ytdhoedohchbagaa
