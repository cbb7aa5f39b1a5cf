/- Sets of bytes: plain laws, and walks: class.with, negate, or, And. Walks: class.with, negate, or, And. Walks: math/bits.OnesCount64. Sets of bytes: plain laws on sizes and spans; walks: class.size, Len, list, Bytes. Sets of bytes: spans, the set of a text, all bytes: plain laws and walks: class.span, Span, Of, Not, Or, Len. Walks: class.Of, Span, Not, Or, Len, list, Bytes. Walks: strings.Builder: copyCheck, WriteByte (over the library's own notion of a builder). Walks: class.sign. Walks. Walks: class.list, class.Bytes. Walks: class.Bytes. A builder's String: the shelf's contract at this program. -/
import Derived.Test.YtgiffdgicmdmgaaMa
import Derived.Laws.BitsAllLaws
import Derived.IntWalk
import Derived.Laws.Bits128
import Derived.Lib.Builder
import Derived.Laws.Externs
import Derived.Deep.RegionHeld3
import Derived.Shelf.Strings.Builder1
namespace Go.Proofs.Ytgiffdgicmdmgaa
open Go.RowKit

theorem u_and (x y : BitVec 64) : bits .and .u64 (x.toNat : Int) (y.toNat : Int) = ((x &&& y).toNat : Int) := by
  rw [u64_and_nat _ _ x.isLt y.isLt, BitVec.toNat_and]
theorem u_or (x y : BitVec 64) : bits .or .u64 (x.toNat : Int) (y.toNat : Int) = ((x ||| y).toNat : Int) := by
  rw [u64_or_nat _ _ x.isLt y.isLt, BitVec.toNat_or]
def bitW (k : Nat) : BitVec 64 := BitVec.ofNat 64 (2 ^ k)
theorem bitW_toNat (k : Nat) (h : k < 64) : (bitW k).toNat = 2 ^ k := by
  unfold bitW
  rw [BitVec.toNat_ofNat]
  exact Nat.mod_eq_of_lt (Nat.pow_lt_pow_right (by omega) h)
theorem bitW_bit (k j : Nat) (h : k < 64) : (bitW k).getLsbD j = decide (j = k) := by
  rw [BitVec.getLsbD, bitW_toNat k h, Nat.testBit_two_pow]
  simp [eq_comm]
theorem u_one (k : Nat) (h : k < 64) : IntKind.u64.wrap (2 ^ k) = ((bitW k).toNat : Int) := by
  have h1 : 2 ^ k < 2 ^ 64 := Nat.pow_lt_pow_right (by omega) h
  rw [bitW_toNat k h, IntKind.wrap_u64, show ((2 : Int) ^ k) = ((2 ^ k : Nat) : Int) from by rw [Int.natCast_pow]; rfl]
  generalize 2 ^ k = q at *
  omega

def BSet.put (s : BSet) (i : Nat) (x : BitVec 64) : BSet := match i with | 0 => ⟨x, s.w1, s.w2, s.w3⟩ | 1 => ⟨s.w0, x, s.w2, s.w3⟩ | 2 => ⟨s.w0, s.w1, x, s.w3⟩ | _ => ⟨s.w0, s.w1, s.w2, x⟩
def withM (s : BSet) (b : Nat) : BSet := s.put (b / 64) (s.word (b / 64) ||| bitW (b % 64))
theorem put_word (s : BSet) (i j : Nat) (x : BitVec 64) (hi : i < 4) (hj : j < 4) : (s.put i x).word j = if j = i then x else s.word j := by
  match i, hi with
  | 0, _ => match j, hj with | 0, _ => rfl | 1, _ => rfl | 2, _ => rfl | 3, _ => rfl
  | 1, _ => match j, hj with | 0, _ => rfl | 1, _ => rfl | 2, _ => rfl | 3, _ => rfl
  | 2, _ => match j, hj with | 0, _ => rfl | 1, _ => rfl | 2, _ => rfl | 3, _ => rfl
  | 3, _ => match j, hj with | 0, _ => rfl | 1, _ => rfl | 2, _ => rfl | 3, _ => rfl
theorem has_with (s : BSet) (b c : Nat) (hb : b < 256) (hc : c < 256) : (withM s b).has c = (s.has c || decide (c = b)) := by
  unfold withM BSet.has
  rw [put_word _ _ _ _ (by omega) (by omega)]
  by_cases h : c / 64 = b / 64
  · rw [if_pos h, BitVec.getLsbD_or, bitW_bit _ _ (Nat.mod_lt _ (by omega)), h]
    congr 1
    rw [Bool.eq_iff_iff]; simp; omega
  · rw [if_neg h, show decide (c = b) = false from by simp; rintro rfl; exact h rfl, Bool.or_false]
def notM (s : BSet) : BSet := ⟨~~~s.w0, ~~~s.w1, ~~~s.w2, ~~~s.w3⟩
def orM (s t : BSet) : BSet := ⟨s.w0 ||| t.w0, s.w1 ||| t.w1, s.w2 ||| t.w2, s.w3 ||| t.w3⟩
def andM (s t : BSet) : BSet := ⟨s.w0 &&& t.w0, s.w1 &&& t.w1, s.w2 &&& t.w2, s.w3 &&& t.w3⟩
theorem notM_word (s : BSet) (i : Nat) (h : i < 4) : (notM s).word i = ~~~ s.word i := by
  match i, h with | 0, _ => rfl | 1, _ => rfl | 2, _ => rfl | 3, _ => rfl
theorem orM_word (s t : BSet) (i : Nat) (h : i < 4) : (orM s t).word i = s.word i ||| t.word i := by
  match i, h with | 0, _ => rfl | 1, _ => rfl | 2, _ => rfl | 3, _ => rfl
theorem andM_word (s t : BSet) (i : Nat) (h : i < 4) : (andM s t).word i = s.word i &&& t.word i := by
  match i, h with | 0, _ => rfl | 1, _ => rfl | 2, _ => rfl | 3, _ => rfl
theorem has_notM (s : BSet) (b : Nat) (h : b < 256) : (notM s).has b = !s.has b := by
  unfold BSet.has
  rw [notM_word _ _ (by omega), BitVec.getLsbD_not]
  have : b % 64 < 64 := Nat.mod_lt _ (by omega)
  simp [this]
theorem has_orM (s t : BSet) (b : Nat) (h : b < 256) : (orM s t).has b = (s.has b || t.has b) := by
  unfold BSet.has; rw [orM_word _ _ _ (by omega), BitVec.getLsbD_or]
theorem has_andM (s t : BSet) (b : Nat) (h : b < 256) : (andM s t).has b = (s.has b && t.has b) := by
  unfold BSet.has; rw [andM_word _ _ _ (by omega), BitVec.getLsbD_and]
theorem has_zero (b : Nat) : BSet.zero.has b = false := by
  unfold BSet.has BSet.zero BSet.word
  split <;> simp
end Go.Proofs.Ytgiffdgicmdmgaa
namespace Go.Proofs.Ytgiffdgicmdmgaa
open Go.RowKit

theorem u_not (x : BitVec 64) : bits .xor .u64 (if IntKind.u64.signed = true then -1 else IntKind.u64.max) (x.toNat : Int) = ((~~~ x).toNat : Int) := by
  have hx := x.isLt
  have h1 : (if IntKind.u64.signed = true then (-1 : Int) else IntKind.u64.max) = ((BitVec.allOnes 64).toNat : Int) := by rfl
  rw [h1, u64_xor_nat _ _ (BitVec.isLt _) hx, ← BitVec.toNat_xor]
  rw [BitVec.allOnes_xor]
theorem keep_box4 (B : Nat) (w : World) (u0 u1 u2 u3 : Value) : Keep (fun k => k = B) w ((((w.setCell ⟨B, 0, none⟩ u0).setCell ⟨B, 1, none⟩ u1).setCell ⟨B, 2, none⟩ u2).setCell ⟨B, 3, none⟩ u3) :=
  (((Keep.setCell (fun k => k = B) w ⟨B, 0, none⟩ u0 rfl).trans (Keep.setCell (fun k => k = B) _ ⟨B, 1, none⟩ u1 rfl) (fun _ => .inl)).trans (Keep.setCell (fun k => k = B) _ ⟨B, 2, none⟩ u2 rfl) (fun _ => .inl)).trans (Keep.setCell (fun k => k = B) _ ⟨B, 3, none⟩ u3 rfl) (fun _ => .inl)

set_option maxRecDepth 20000 in
set_option maxHeartbeats 400000 in
theorem with_any (s : BSet) (b : Nat) (hb : b < 256) (w : World) :
    Calls Try.prog 108 #[s.val, .int .u8 (b : Int)] w fun e w' => e = .returned (withM s b).val ∧ Below w.heap.size w w' := by
  obtain ⟨j, hj⟩ : ∃ j, b % 64 = j := ⟨_, rfl⟩
  have hj64 : j < 64 := by omega
  have hm : (b : Int) % 64 = (j : Int) := by omega
  have HO : Hid (∀ o1 o2, Below w.heap.size w ((w.alloc o1).alloc o2)) := fun o1 o2 => ((Below.refl _ _).alloc (Nat.le_refl _) _).alloc (by simp) _
  have ko := u_one j hj64
  obtain ⟨s0, s1, s2, s3⟩ := s
  have h4 : b / 64 < 4 := by omega
  obtain ⟨i, hi⟩ : ∃ i, b / 64 = i := ⟨_, rfl⟩
  have HM : Hid ((withM ⟨s0, s1, s2, s3⟩ b) = BSet.put ⟨s0, s1, s2, s3⟩ i ((BSet.word ⟨s0, s1, s2, s3⟩ i) ||| bitW j)) := by rw [Hid, withM, hi, hj]
  rw [HM.out]
  rw [hi] at h4
  match i, h4 with
  | 0, _ =>
    have hq : (b : Int) / 64 = 0 := by omega
    have kr := u_or s0 (bitW j)
    clear hi hj HM h4
    show Calls _ _ _ _ fun e w' => e = .returned (.agg #[w64 (s0 ||| bitW j), w64 s1, w64 s2, w64 s3]) ∧ _
    unfold BSet.val
    go_enter Try.func108, Try.ntmps108
    go_wp2_with fail
    exact bodyPost_ret (v := .agg #[w64 (s0 ||| bitW j), w64 s1, w64 s2, w64 s3]) (by simp [results, Try.results108, go_sem]) rfl ⟨rfl, HO.out _ _⟩
  | 1, _ =>
    have hq : (b : Int) / 64 = 1 := by omega
    have kr := u_or s1 (bitW j)
    clear hi hj HM h4
    show Calls _ _ _ _ fun e w' => e = .returned (.agg #[w64 s0, w64 (s1 ||| bitW j), w64 s2, w64 s3]) ∧ _
    unfold BSet.val
    go_enter Try.func108, Try.ntmps108
    go_wp2_with fail
    exact bodyPost_ret (v := .agg #[w64 s0, w64 (s1 ||| bitW j), w64 s2, w64 s3]) (by simp [results, Try.results108, go_sem]) rfl ⟨rfl, HO.out _ _⟩
  | 2, _ =>
    have hq : (b : Int) / 64 = 2 := by omega
    have kr := u_or s2 (bitW j)
    clear hi hj HM h4
    show Calls _ _ _ _ fun e w' => e = .returned (.agg #[w64 s0, w64 s1, w64 (s2 ||| bitW j), w64 s3]) ∧ _
    unfold BSet.val
    go_enter Try.func108, Try.ntmps108
    go_wp2_with fail
    exact bodyPost_ret (v := .agg #[w64 s0, w64 s1, w64 (s2 ||| bitW j), w64 s3]) (by simp [results, Try.results108, go_sem]) rfl ⟨rfl, HO.out _ _⟩
  | 3, _ =>
    have hq : (b : Int) / 64 = 3 := by omega
    have kr := u_or s3 (bitW j)
    clear hi hj HM h4
    show Calls _ _ _ _ fun e w' => e = .returned (.agg #[w64 s0, w64 s1, w64 s2, w64 (s3 ||| bitW j)]) ∧ _
    unfold BSet.val
    go_enter Try.func108, Try.ntmps108
    go_wp2_with fail
    exact bodyPost_ret (v := .agg #[w64 s0, w64 s1, w64 s2, w64 (s3 ||| bitW j)]) (by simp [results, Try.results108, go_sem]) rfl ⟨rfl, HO.out _ _⟩

/-- The words of s, of which the first k are z's. -/
def stage4 (s z : BSet) : Nat → Array Value
  | 0 => #[w64 s.w0, w64 s.w1, w64 s.w2, w64 s.w3]
  | 1 => #[w64 z.w0, w64 s.w1, w64 s.w2, w64 s.w3]
  | 2 => #[w64 z.w0, w64 z.w1, w64 s.w2, w64 s.w3]
  | 3 => #[w64 z.w0, w64 z.w1, w64 z.w2, w64 s.w3]
  | _ => #[w64 z.w0, w64 z.w1, w64 z.w2, w64 z.w3]

set_option maxRecDepth 20000 in
set_option maxHeartbeats 800000 in
theorem negate_any (s : BSet) (w : World) :
    Calls Try.prog 94 #[s.val] w fun e w' => e = .returned (notM s).val ∧ Below w.heap.size w w' := by
  obtain ⟨z, hz⟩ : ∃ z, notM s = z := ⟨_, rfl⟩
  rw [hz]
  have k0 := u_not s.w0
  have k1 := u_not s.w1
  have k2 := u_not s.w2
  have k3 := u_not s.w3
  rw [show ~~~ s.w0 = z.w0 from by rw [← hz]; rfl] at k0
  rw [show ~~~ s.w1 = z.w1 from by rw [← hz]; rfl] at k1
  rw [show ~~~ s.w2 = z.w2 from by rw [← hz]; rfl] at k2
  rw [show ~~~ s.w3 = z.w3 from by rw [← hz]; rfl] at k3
  clear hz
  obtain ⟨s0, s1, s2, s3⟩ := s
  obtain ⟨z0, z1, z2, z3⟩ := z
  simp only at k0 k1 k2 k3
  unfold BSet.val
  go_enter Try.func94, Try.ntmps94
  go_wp2_with fail
  go_loopw [4] (fun i wr => ∃ (k : Nat), k ≤ 4 ∧ i = .int .i64 k ∧ Blk wr w.heap.size 50 (stage4 ⟨s0, s1, s2, s3⟩ ⟨z0, z1, z2, z3⟩ k) ∧ Blk wr (w.heap.size + 1) 50 #[.int .u64 0, .int .u64 0, .int .u64 0, .int .u64 0] ∧ Below w.heap.size w wr) (fun i _ => 4 - (intOf i).toNat)
  case atStart => exact ⟨0, by omega, rfl, (Blk.new w 50 #[w64 s0, w64 s1, w64 s2, w64 s3]).alloc _, by have := Blk.new (w.alloc (.cells #[w64 s0, w64 s1, w64 s2, w64 s3] 50)) 50 #[.int .u64 0, .int .u64 0, .int .u64 0, .int .u64 0]; rwa [World.size_alloc] at this, ((Below.refl _ _).alloc (Nat.le_refl _) _).alloc (by simp) _⟩
  case round =>
    obtain ⟨k, hk, rfl, hb, hb2, hbl⟩ := hrel
    have HBL := hid hbl
    have HB2 := hid hb2
    match k, hk with
    | 0, _ =>
      have c0 : wr.cell? ⟨w.heap.size, 0, none⟩ = some (w64 s0) := hb.cell 0
      have f0 := hb.frozen 0
      have HN : Hid (Blk (wr.setCell ⟨w.heap.size, 0, none⟩ (w64 z0)) w.heap.size 50 (stage4 ⟨s0, s1, s2, s3⟩ ⟨z0, z1, z2, z3⟩ 1)) := hb.set 0 (w64 z0)
      have HZ := hid (HB2.out.set_far (g' := w.heap.size) (i := 0) (u := w64 z0) (by omega))
      clear hb hb2 hbl
      go_wp2_with fail
      go_roundw
      case rel => exact ⟨1, by omega, rfl, HN.out, HZ.out, HBL.out.setCell (Nat.le_refl _) _⟩
      case measure => simp [intOf]
    | 1, _ =>
      have c0 : wr.cell? ⟨w.heap.size, 1, none⟩ = some (w64 s1) := hb.cell 1
      have f0 := hb.frozen 1
      have HN : Hid (Blk (wr.setCell ⟨w.heap.size, 1, none⟩ (w64 z1)) w.heap.size 50 (stage4 ⟨s0, s1, s2, s3⟩ ⟨z0, z1, z2, z3⟩ 2)) := hb.set 1 (w64 z1)
      have HZ := hid (HB2.out.set_far (g' := w.heap.size) (i := 1) (u := w64 z1) (by omega))
      clear hb hb2 hbl
      go_wp2_with fail
      go_roundw
      case rel => exact ⟨2, by omega, rfl, HN.out, HZ.out, HBL.out.setCell (Nat.le_refl _) _⟩
      case measure => simp [intOf]
    | 2, _ =>
      have c0 : wr.cell? ⟨w.heap.size, 2, none⟩ = some (w64 s2) := hb.cell 2
      have f0 := hb.frozen 2
      have HN : Hid (Blk (wr.setCell ⟨w.heap.size, 2, none⟩ (w64 z2)) w.heap.size 50 (stage4 ⟨s0, s1, s2, s3⟩ ⟨z0, z1, z2, z3⟩ 3)) := hb.set 2 (w64 z2)
      have HZ := hid (HB2.out.set_far (g' := w.heap.size) (i := 2) (u := w64 z2) (by omega))
      clear hb hb2 hbl
      go_wp2_with fail
      go_roundw
      case rel => exact ⟨3, by omega, rfl, HN.out, HZ.out, HBL.out.setCell (Nat.le_refl _) _⟩
      case measure => simp [intOf]
    | 3, _ =>
      have c0 : wr.cell? ⟨w.heap.size, 3, none⟩ = some (w64 s3) := hb.cell 3
      have f0 := hb.frozen 3
      have HN : Hid (Blk (wr.setCell ⟨w.heap.size, 3, none⟩ (w64 z3)) w.heap.size 50 (stage4 ⟨s0, s1, s2, s3⟩ ⟨z0, z1, z2, z3⟩ 4)) := hb.set 3 (w64 z3)
      have HZ := hid (HB2.out.set_far (g' := w.heap.size) (i := 3) (u := w64 z3) (by omega))
      clear hb hb2 hbl
      go_wp2_with fail
      go_roundw
      case rel => exact ⟨4, by omega, rfl, HN.out, HZ.out, HBL.out.setCell (Nat.le_refl _) _⟩
      case measure => simp [intOf]
    | 4, _ =>
      have c0 : wr.cell? ⟨w.heap.size, 0, none⟩ = some (w64 z0) := hb.cell 0
      have d0 : wr.cell? ⟨w.heap.size + 1, 0, none⟩ = some (.int .u64 0) := hb2.cell 0
      have f0 := hb2.frozen 0
      have e0 : ((((wr.setCell ⟨w.heap.size + 1, 0, none⟩ (w64 z0)).setCell ⟨w.heap.size + 1, 1, none⟩ (w64 z1)).setCell ⟨w.heap.size + 1, 2, none⟩ (w64 z2)).setCell ⟨w.heap.size + 1, 3, none⟩ (w64 z3)).cell? ⟨w.heap.size + 1, 0, none⟩ = some (w64 z0) := (((((hb2.set 0 (w64 z0)).set 1 (w64 z1)).set 2 (w64 z2)).set 3 (w64 z3)).cell 0)
      have c1 : wr.cell? ⟨w.heap.size, 1, none⟩ = some (w64 z1) := hb.cell 1
      have d1 : wr.cell? ⟨w.heap.size + 1, 1, none⟩ = some (.int .u64 0) := hb2.cell 1
      have f1 := hb2.frozen 1
      have e1 : ((((wr.setCell ⟨w.heap.size + 1, 0, none⟩ (w64 z0)).setCell ⟨w.heap.size + 1, 1, none⟩ (w64 z1)).setCell ⟨w.heap.size + 1, 2, none⟩ (w64 z2)).setCell ⟨w.heap.size + 1, 3, none⟩ (w64 z3)).cell? ⟨w.heap.size + 1, 1, none⟩ = some (w64 z1) := (((((hb2.set 0 (w64 z0)).set 1 (w64 z1)).set 2 (w64 z2)).set 3 (w64 z3)).cell 1)
      have c2 : wr.cell? ⟨w.heap.size, 2, none⟩ = some (w64 z2) := hb.cell 2
      have d2 : wr.cell? ⟨w.heap.size + 1, 2, none⟩ = some (.int .u64 0) := hb2.cell 2
      have f2 := hb2.frozen 2
      have e2 : ((((wr.setCell ⟨w.heap.size + 1, 0, none⟩ (w64 z0)).setCell ⟨w.heap.size + 1, 1, none⟩ (w64 z1)).setCell ⟨w.heap.size + 1, 2, none⟩ (w64 z2)).setCell ⟨w.heap.size + 1, 3, none⟩ (w64 z3)).cell? ⟨w.heap.size + 1, 2, none⟩ = some (w64 z2) := (((((hb2.set 0 (w64 z0)).set 1 (w64 z1)).set 2 (w64 z2)).set 3 (w64 z3)).cell 2)
      have c3 : wr.cell? ⟨w.heap.size, 3, none⟩ = some (w64 z3) := hb.cell 3
      have d3 : wr.cell? ⟨w.heap.size + 1, 3, none⟩ = some (.int .u64 0) := hb2.cell 3
      have f3 := hb2.frozen 3
      have e3 : ((((wr.setCell ⟨w.heap.size + 1, 0, none⟩ (w64 z0)).setCell ⟨w.heap.size + 1, 1, none⟩ (w64 z1)).setCell ⟨w.heap.size + 1, 2, none⟩ (w64 z2)).setCell ⟨w.heap.size + 1, 3, none⟩ (w64 z3)).cell? ⟨w.heap.size + 1, 3, none⟩ = some (w64 z3) := (((((hb2.set 0 (w64 z0)).set 1 (w64 z1)).set 2 (w64 z2)).set 3 (w64 z3)).cell 3)
      have HK : Hid (∀ u0 u1 u2 u3, Below w.heap.size w ((((wr.setCell ⟨w.heap.size + 1, 0, none⟩ u0).setCell ⟨w.heap.size + 1, 1, none⟩ u1).setCell ⟨w.heap.size + 1, 2, none⟩ u2).setCell ⟨w.heap.size + 1, 3, none⟩ u3)) := fun u0 u1 u2 u3 => (((HBL.out.setCell (by simp <;> omega) _).setCell (by simp <;> omega) _).setCell (by simp <;> omega) _).setCell (by simp <;> omega) _
      clear hb hb2 hbl
      go_wp2_with fail
      exact bodyPost_ret (v := .agg #[w64 z0, w64 z1, w64 z2, w64 z3]) (by simp [results, Try.results94, go_sem, e0, e1, e2, e3]) rfl ⟨rfl, HK.out _ _ _ _⟩

set_option maxRecDepth 20000 in
set_option maxHeartbeats 800000 in
theorem or_any_set (s t : BSet) (w : World) :
    Calls Try.prog 112 #[s.val, t.val] w fun e w' => e = .returned (orM s t).val ∧ Below w.heap.size w w' := by
  obtain ⟨z, hz⟩ : ∃ z, orM s t = z := ⟨_, rfl⟩
  rw [hz]
  have k0 := u_or s.w0 t.w0
  have k1 := u_or s.w1 t.w1
  have k2 := u_or s.w2 t.w2
  have k3 := u_or s.w3 t.w3
  rw [show s.w0 ||| t.w0 = z.w0 from by rw [← hz]; rfl] at k0
  rw [show s.w1 ||| t.w1 = z.w1 from by rw [← hz]; rfl] at k1
  rw [show s.w2 ||| t.w2 = z.w2 from by rw [← hz]; rfl] at k2
  rw [show s.w3 ||| t.w3 = z.w3 from by rw [← hz]; rfl] at k3
  clear hz
  obtain ⟨s0, s1, s2, s3⟩ := s
  obtain ⟨t0, t1, t2, t3⟩ := t
  obtain ⟨z0, z1, z2, z3⟩ := z
  simp only at k0 k1 k2 k3
  unfold BSet.val
  go_enter Try.func112, Try.ntmps112
  go_wp2_with fail
  go_loopw [6] (fun i wr => ∃ (k : Nat), k ≤ 4 ∧ i = .int .i64 k ∧ Blk wr w.heap.size 50 (stage4 ⟨s0, s1, s2, s3⟩ ⟨z0, z1, z2, z3⟩ k) ∧ Blk wr (w.heap.size + 1) 50 #[w64 t0, w64 t1, w64 t2, w64 t3] ∧ Blk wr (w.heap.size + 1 + 1) 50 #[.int .u64 0, .int .u64 0, .int .u64 0, .int .u64 0] ∧ Below w.heap.size w wr) (fun i _ => 4 - (intOf i).toNat)
  case atStart => exact ⟨0, by omega, rfl, ((Blk.new w 50 #[w64 s0, w64 s1, w64 s2, w64 s3]).alloc _).alloc _, by have := (Blk.new (w.alloc (.cells #[w64 s0, w64 s1, w64 s2, w64 s3] 50)) 50 #[w64 t0, w64 t1, w64 t2, w64 t3]).alloc (.cells #[.int .u64 0, .int .u64 0, .int .u64 0, .int .u64 0] 50); rwa [World.size_alloc] at this, by have := Blk.new ((w.alloc (.cells #[w64 s0, w64 s1, w64 s2, w64 s3] 50)).alloc (.cells #[w64 t0, w64 t1, w64 t2, w64 t3] 50)) 50 #[.int .u64 0, .int .u64 0, .int .u64 0, .int .u64 0]; rwa [World.size_alloc, World.size_alloc] at this, (((Below.refl _ _).alloc (Nat.le_refl _) _).alloc (by simp) _).alloc (by simp; omega) _⟩
  case round =>
    obtain ⟨k, hk, rfl, hb, ht, hb2, hbl⟩ := hrel
    have HBL := hid hbl
    have HB2 := hid hb2
    have HT := hid ht
    match k, hk with
    | 0, _ =>
      have c0 : wr.cell? ⟨w.heap.size, 0, none⟩ = some (w64 s0) := hb.cell 0
      have f0 := hb.frozen 0
      have c1 : wr.cell? ⟨w.heap.size + 1, 0, none⟩ = some (w64 t0) := ht.cell 0
      have HN : Hid (Blk (wr.setCell ⟨w.heap.size, 0, none⟩ (w64 z0)) w.heap.size 50 (stage4 ⟨s0, s1, s2, s3⟩ ⟨z0, z1, z2, z3⟩ 1)) := hb.set 0 (w64 z0)
      have HZ := hid (HB2.out.set_far (g' := w.heap.size) (i := 0) (u := w64 z0) (by omega))
      have HT2 := hid (HT.out.set_far (g' := w.heap.size) (i := 0) (u := w64 z0) (by omega))
      clear hb hb2 hbl ht
      go_wp2_with fail
      refine wp_region_tail 8 (by kernel_rfl) (by kernel_rfl) ?_
      simp only [List.take_succ_cons, List.take_zero, List.drop_succ_cons, List.drop_zero]
      repeat still_step
      refine wpStill_nil ?_
      go_wp2_with fail
      go_roundw
      case rel => exact ⟨1, by omega, rfl, HN.out, HT2.out, HZ.out, (HBL.out.setCell (Nat.le_refl _) _).trans ((drewN_below _ 1).mono (by have := HBL.out.size; simp; omega))⟩
      case measure => simp [intOf]
    | 1, _ =>
      have c0 : wr.cell? ⟨w.heap.size, 1, none⟩ = some (w64 s1) := hb.cell 1
      have f0 := hb.frozen 1
      have c1 : wr.cell? ⟨w.heap.size + 1, 1, none⟩ = some (w64 t1) := ht.cell 1
      have HN : Hid (Blk (wr.setCell ⟨w.heap.size, 1, none⟩ (w64 z1)) w.heap.size 50 (stage4 ⟨s0, s1, s2, s3⟩ ⟨z0, z1, z2, z3⟩ 2)) := hb.set 1 (w64 z1)
      have HZ := hid (HB2.out.set_far (g' := w.heap.size) (i := 1) (u := w64 z1) (by omega))
      have HT2 := hid (HT.out.set_far (g' := w.heap.size) (i := 1) (u := w64 z1) (by omega))
      clear hb hb2 hbl ht
      go_wp2_with fail
      refine wp_region_tail 8 (by kernel_rfl) (by kernel_rfl) ?_
      simp only [List.take_succ_cons, List.take_zero, List.drop_succ_cons, List.drop_zero]
      repeat still_step
      refine wpStill_nil ?_
      go_wp2_with fail
      go_roundw
      case rel => exact ⟨2, by omega, rfl, HN.out, HT2.out, HZ.out, (HBL.out.setCell (Nat.le_refl _) _).trans ((drewN_below _ 1).mono (by have := HBL.out.size; simp; omega))⟩
      case measure => simp [intOf]
    | 2, _ =>
      have c0 : wr.cell? ⟨w.heap.size, 2, none⟩ = some (w64 s2) := hb.cell 2
      have f0 := hb.frozen 2
      have c1 : wr.cell? ⟨w.heap.size + 1, 2, none⟩ = some (w64 t2) := ht.cell 2
      have HN : Hid (Blk (wr.setCell ⟨w.heap.size, 2, none⟩ (w64 z2)) w.heap.size 50 (stage4 ⟨s0, s1, s2, s3⟩ ⟨z0, z1, z2, z3⟩ 3)) := hb.set 2 (w64 z2)
      have HZ := hid (HB2.out.set_far (g' := w.heap.size) (i := 2) (u := w64 z2) (by omega))
      have HT2 := hid (HT.out.set_far (g' := w.heap.size) (i := 2) (u := w64 z2) (by omega))
      clear hb hb2 hbl ht
      go_wp2_with fail
      refine wp_region_tail 8 (by kernel_rfl) (by kernel_rfl) ?_
      simp only [List.take_succ_cons, List.take_zero, List.drop_succ_cons, List.drop_zero]
      repeat still_step
      refine wpStill_nil ?_
      go_wp2_with fail
      go_roundw
      case rel => exact ⟨3, by omega, rfl, HN.out, HT2.out, HZ.out, (HBL.out.setCell (Nat.le_refl _) _).trans ((drewN_below _ 1).mono (by have := HBL.out.size; simp; omega))⟩
      case measure => simp [intOf]
    | 3, _ =>
      have c0 : wr.cell? ⟨w.heap.size, 3, none⟩ = some (w64 s3) := hb.cell 3
      have f0 := hb.frozen 3
      have c1 : wr.cell? ⟨w.heap.size + 1, 3, none⟩ = some (w64 t3) := ht.cell 3
      have HN : Hid (Blk (wr.setCell ⟨w.heap.size, 3, none⟩ (w64 z3)) w.heap.size 50 (stage4 ⟨s0, s1, s2, s3⟩ ⟨z0, z1, z2, z3⟩ 4)) := hb.set 3 (w64 z3)
      have HZ := hid (HB2.out.set_far (g' := w.heap.size) (i := 3) (u := w64 z3) (by omega))
      have HT2 := hid (HT.out.set_far (g' := w.heap.size) (i := 3) (u := w64 z3) (by omega))
      clear hb hb2 hbl ht
      go_wp2_with fail
      refine wp_region_tail 8 (by kernel_rfl) (by kernel_rfl) ?_
      simp only [List.take_succ_cons, List.take_zero, List.drop_succ_cons, List.drop_zero]
      repeat still_step
      refine wpStill_nil ?_
      go_wp2_with fail
      go_roundw
      case rel => exact ⟨4, by omega, rfl, HN.out, HT2.out, HZ.out, (HBL.out.setCell (Nat.le_refl _) _).trans ((drewN_below _ 1).mono (by have := HBL.out.size; simp; omega))⟩
      case measure => simp [intOf]
    | 4, _ =>
      have c0 : wr.cell? ⟨w.heap.size, 0, none⟩ = some (w64 z0) := hb.cell 0
      have d0 : wr.cell? ⟨w.heap.size + 1 + 1, 0, none⟩ = some (.int .u64 0) := hb2.cell 0
      have f0 := hb2.frozen 0
      have e0 : ((((wr.setCell ⟨w.heap.size + 1 + 1, 0, none⟩ (w64 z0)).setCell ⟨w.heap.size + 1 + 1, 1, none⟩ (w64 z1)).setCell ⟨w.heap.size + 1 + 1, 2, none⟩ (w64 z2)).setCell ⟨w.heap.size + 1 + 1, 3, none⟩ (w64 z3)).cell? ⟨w.heap.size + 1 + 1, 0, none⟩ = some (w64 z0) := (((((hb2.set 0 (w64 z0)).set 1 (w64 z1)).set 2 (w64 z2)).set 3 (w64 z3)).cell 0)
      have c1 : wr.cell? ⟨w.heap.size, 1, none⟩ = some (w64 z1) := hb.cell 1
      have d1 : wr.cell? ⟨w.heap.size + 1 + 1, 1, none⟩ = some (.int .u64 0) := hb2.cell 1
      have f1 := hb2.frozen 1
      have e1 : ((((wr.setCell ⟨w.heap.size + 1 + 1, 0, none⟩ (w64 z0)).setCell ⟨w.heap.size + 1 + 1, 1, none⟩ (w64 z1)).setCell ⟨w.heap.size + 1 + 1, 2, none⟩ (w64 z2)).setCell ⟨w.heap.size + 1 + 1, 3, none⟩ (w64 z3)).cell? ⟨w.heap.size + 1 + 1, 1, none⟩ = some (w64 z1) := (((((hb2.set 0 (w64 z0)).set 1 (w64 z1)).set 2 (w64 z2)).set 3 (w64 z3)).cell 1)
      have c2 : wr.cell? ⟨w.heap.size, 2, none⟩ = some (w64 z2) := hb.cell 2
      have d2 : wr.cell? ⟨w.heap.size + 1 + 1, 2, none⟩ = some (.int .u64 0) := hb2.cell 2
      have f2 := hb2.frozen 2
      have e2 : ((((wr.setCell ⟨w.heap.size + 1 + 1, 0, none⟩ (w64 z0)).setCell ⟨w.heap.size + 1 + 1, 1, none⟩ (w64 z1)).setCell ⟨w.heap.size + 1 + 1, 2, none⟩ (w64 z2)).setCell ⟨w.heap.size + 1 + 1, 3, none⟩ (w64 z3)).cell? ⟨w.heap.size + 1 + 1, 2, none⟩ = some (w64 z2) := (((((hb2.set 0 (w64 z0)).set 1 (w64 z1)).set 2 (w64 z2)).set 3 (w64 z3)).cell 2)
      have c3 : wr.cell? ⟨w.heap.size, 3, none⟩ = some (w64 z3) := hb.cell 3
      have d3 : wr.cell? ⟨w.heap.size + 1 + 1, 3, none⟩ = some (.int .u64 0) := hb2.cell 3
      have f3 := hb2.frozen 3
      have e3 : ((((wr.setCell ⟨w.heap.size + 1 + 1, 0, none⟩ (w64 z0)).setCell ⟨w.heap.size + 1 + 1, 1, none⟩ (w64 z1)).setCell ⟨w.heap.size + 1 + 1, 2, none⟩ (w64 z2)).setCell ⟨w.heap.size + 1 + 1, 3, none⟩ (w64 z3)).cell? ⟨w.heap.size + 1 + 1, 3, none⟩ = some (w64 z3) := (((((hb2.set 0 (w64 z0)).set 1 (w64 z1)).set 2 (w64 z2)).set 3 (w64 z3)).cell 3)
      have HK : Hid (∀ u0 u1 u2 u3, Below w.heap.size w ((((wr.setCell ⟨w.heap.size + 1 + 1, 0, none⟩ u0).setCell ⟨w.heap.size + 1 + 1, 1, none⟩ u1).setCell ⟨w.heap.size + 1 + 1, 2, none⟩ u2).setCell ⟨w.heap.size + 1 + 1, 3, none⟩ u3)) := fun u0 u1 u2 u3 => (((HBL.out.setCell (by simp <;> omega) _).setCell (by simp <;> omega) _).setCell (by simp <;> omega) _).setCell (by simp <;> omega) _
      clear hb hb2 hbl ht
      go_wp2_with fail
      exact bodyPost_ret (v := .agg #[w64 z0, w64 z1, w64 z2, w64 z3]) (by simp [results, Try.results112, go_sem, e0, e1, e2, e3]) rfl ⟨rfl, HK.out _ _ _ _⟩

end Go.Proofs.Ytgiffdgicmdmgaa
namespace Go.Proofs.Ytgiffdgicmdmgaa
open Go.RowKit PopT

theorem wrap_nat (a : Nat) (h : a < 18446744073709551616) : IntKind.u64.wrap (a : Int) = (a : Int) := by rw [IntKind.wrap_u64]; omega
set_option maxRecDepth 20000 in
theorem ones_any (x : Nat) (hx : x < 18446744073709551616) (w : World) :
    Calls Try.prog 103 #[.int .u64 (x : Int)] w fun e w' => e = .returned (.int .i64 (pc 64 x : Int)) ∧ w = w' := by
  obtain ⟨p4, p3a, p3b, p2b, p1b⟩ := pop_all x
  obtain ⟨f1, f2, f3, f4, f5⟩ := fold8 _ p3a p3b
  rw [p4] at f4
  obtain ⟨a1, ha1⟩ : ∃ a, x / 2 &&& 6148914691236517205 = a := ⟨_, rfl⟩
  obtain ⟨a2, ha2⟩ : ∃ a, x &&& 6148914691236517205 = a := ⟨_, rfl⟩
  obtain ⟨y, hy⟩ : ∃ y, p1 x = y := ⟨_, rfl⟩
  have hy2 : y = a1 + a2 := by rw [← hy, p1, ha1, ha2]
  rw [hy] at f1 f2 f3 f4 f5 p2b p1b
  obtain ⟨b1, hb1⟩ : ∃ a, y / 4 &&& 3689348814741910323 = a := ⟨_, rfl⟩
  obtain ⟨b2, hb2⟩ : ∃ a, y &&& 3689348814741910323 = a := ⟨_, rfl⟩
  obtain ⟨z, hz⟩ : ∃ y', p2 y = y' := ⟨_, rfl⟩
  have hz2 : z = b1 + b2 := by rw [← hz, p2, hb1, hb2]
  rw [hz] at f1 f2 f3 f4 f5 p2b
  obtain ⟨u, hu⟩ : ∃ y', p3 z = y' := ⟨_, rfl⟩
  rw [hu] at f1 f2 f3 f4 f5
  obtain ⟨q, hq⟩ : ∃ q, pc 64 x = q := ⟨_, rfl⟩
  rw [hq] at f4 ⊢
  have by1 : y < 18446744073709551616 := by have : (4 : Nat) ^ 32 = 18446744073709551616 := by decide
                                            omega
  have bz1 : z < 18446744073709551616 := by have : (16 : Nat) ^ 16 = 18446744073709551616 := by decide
                                            omega
  have e1 : bits .and .u64 ((x : Int) / 2) 6148914691236517205 = (a1 : Int) := by
    have := u64_and_nat (x / 2) 6148914691236517205 (by omega) (by omega)
    rw [ha1, show ((x / 2 : Nat) : Int) = (x : Int) / 2 from by omega] at this
    exact this
  have e2 : bits .and .u64 (x : Int) 6148914691236517205 = (a2 : Int) := by
    have := u64_and_nat x 6148914691236517205 hx (by omega)
    rw [ha2] at this; exact this
  have e3 : IntKind.u64.wrap ((a1 : Int) + (a2 : Int)) = (y : Int) := by
    have := wrap_nat y by1
    rw [show (a1 : Int) + (a2 : Int) = (y : Int) from by omega]; exact this
  have e4 : bits .and .u64 ((y : Int) / 4) 3689348814741910323 = (b1 : Int) := by
    have := u64_and_nat (y / 4) 3689348814741910323 (by omega) (by omega)
    rw [hb1, show ((y / 4 : Nat) : Int) = (y : Int) / 4 from by omega] at this
    exact this
  have e5 : bits .and .u64 (y : Int) 3689348814741910323 = (b2 : Int) := by
    have := u64_and_nat y 3689348814741910323 by1 (by omega)
    rw [hb2] at this; exact this
  have e6 : IntKind.u64.wrap ((b1 : Int) + (b2 : Int)) = (z : Int) := by
    have := wrap_nat z bz1
    rw [show (b1 : Int) + (b2 : Int) = (z : Int) from by omega]; exact this
  have lb1 : b1 ≤ 3689348814741910323 := by rw [← hb1]; exact Nat.and_le_right
  have lb2 : b2 ≤ 3689348814741910323 := by rw [← hb2]; exact Nat.and_le_right
  obtain ⟨c, hc⟩ : ∃ c, z / 16 + z = c := ⟨_, rfl⟩
  have bc : c < 18446744073709551616 := by omega
  have hu2 : c &&& 1085102592571150095 = u := by rw [← hc, ← hu]; rfl
  have e7 : IntKind.u64.wrap ((z : Int) / 16 + (z : Int)) = (c : Int) := by
    rw [show (z : Int) / 16 + (z : Int) = (c : Int) from by omega]; exact wrap_nat c bc
  have e8 : bits .and .u64 (c : Int) 1085102592571150095 = (u : Int) := by
    have := u64_and_nat c 1085102592571150095 bc (by omega)
    rw [hu2] at this; exact this
  obtain ⟨v, hv⟩ : ∃ v, u + u / 256 = v := ⟨_, rfl⟩
  rw [hv] at f1 f2 f3 f4 f5
  obtain ⟨v2, hv2⟩ : ∃ v2, v + v / 65536 = v2 := ⟨_, rfl⟩
  rw [hv2] at f2 f3 f4 f5
  obtain ⟨t, ht⟩ : ∃ t, v2 + v2 / 4294967296 = t := ⟨_, rfl⟩
  rw [ht] at f3 f4 f5
  have hP : (2 : Nat) ^ 64 = 18446744073709551616 := by decide
  have hP3 : (2 : Nat) ^ 63 = 9223372036854775808 := by decide
  rw [hP] at f1 f2 f3
  rw [hP3] at f5
  have e9 : IntKind.u64.wrap ((u : Int) + (u : Int) / 256) = (v : Int) := by
    rw [show (u : Int) + (u : Int) / 256 = (v : Int) from by omega]; exact wrap_nat v f1
  have e10 : IntKind.u64.wrap ((v : Int) + (v : Int) / 65536) = (v2 : Int) := by
    rw [show (v : Int) + (v : Int) / 65536 = (v2 : Int) from by omega]; exact wrap_nat v2 f2
  have e11 : IntKind.u64.wrap ((v2 : Int) + (v2 : Int) / 4294967296) = (t : Int) := by
    rw [show (v2 : Int) + (v2 : Int) / 4294967296 = (t : Int) from by omega]; exact wrap_nat t f3
  have e12 : IntKind.i64.wrap (t : Int) = (t : Int) := IntWalk.i64_in _ (by omega)
  have e13 : bits .and .i64 (t : Int) 127 = (q : Int) := by rw [i64_and127]; omega
  have ht0 : (0 : Int) ≤ (t : Int) := by omega
  clear p4 p3a p3b p2b p1b f1 f2 f3 f4 f5 ha1 ha2 hy hy2 hb1 hb2 hz hz2 hu hq by1 bz1 lb1 lb2 hc bc hu2 hv hv2 ht hP hP3
  go_enter Try.func103, Try.ntmps103
  go_wp2_with fail
  go_ret
  exact ⟨rfl, rfl⟩
end Go.Proofs.Ytgiffdgicmdmgaa
namespace Go.Proofs.Ytgiffdgicmdmgaa
open Go.RowKit PopT

theorem pc_range (n x : Nat) : pc n x = ((List.range n).filter (fun k => x.testBit k)).length := by
  induction n generalizing x with
  | zero => rfl
  | succ n ih =>
    rw [List.range_succ_eq_map, List.filter_cons, List.filter_map, pc, ih]
    have h1 : ((fun k => x.testBit k) ∘ Nat.succ) = (fun k => (x / 2).testBit k) := by
      funext k; simp [Function.comp, Nat.testBit_succ]
    rw [h1]
    have h0 : x.testBit 0 = decide (x % 2 = 1) := Nat.testBit_zero x
    rw [h0]
    by_cases h : x % 2 = 1
    · simp [h]; omega
    · have : x % 2 = 0 := by omega
      simp [this]
theorem bytesTo_word (s : BSet) (i m : Nat) (_ : i < 4) (hm : m ≤ 64) : (bytesTo s (64 * i + m)).length = (bytesTo s (64 * i)).length + ((List.range m).filter (fun k => (s.word i).toNat.testBit k)).length := by
  induction m with
  | zero => simp
  | succ m ih =>
    rw [← Nat.add_assoc, bytesTo_succ, List.length_append, ih (by omega), List.range_succ, List.filter_append, List.length_append]
    have : s.has (64 * i + m) = (s.word i).toNat.testBit m := by
      unfold BSet.has
      rw [show (64 * i + m) / 64 = i from by omega, show (64 * i + m) % 64 = m from by omega]; rfl
    rw [this]
    cases h : (s.word i).toNat.testBit m <;> simp [h] <;> omega
def sizeTo (s : BSet) (k : Nat) : Nat := (bytesTo s (64 * k)).length
theorem sizeTo_succ (s : BSet) (k : Nat) (hk : k < 4) : sizeTo s (k + 1) = sizeTo s k + pc 64 (s.word k).toNat := by
  unfold sizeTo
  rw [show 64 * (k + 1) = 64 * k + 64 from by omega, bytesTo_word s k 64 hk (by omega), pc_range]
theorem sizeTo_le (s : BSet) (k : Nat) : sizeTo s k ≤ 64 * k := bytesTo_length s _
theorem sizeTo_four (s : BSet) : sizeTo s 4 = (bytesM s).length := rfl

theorem Try.indexSet (s : BSet) (k : Nat) (hk : k < 4) (W : World) : (Instr.index 50 (.agg #[w64 s.w0, w64 s.w1, w64 s.w2, w64 s.w3]) (.int .i64 (k : Int))).run Try.prog W = .ok (w64 (s.word k)) W := by
  have z := Try.sizeOf48
  have a := Try.isAgg48
  match k, hk with
  | 0, _ => simp [Instr.index, run_underlying Try.underlying50, asIntOf, part, z, a, BSet.word]
  | 1, _ => simp [Instr.index, run_underlying Try.underlying50, asIntOf, part, z, a, BSet.word]
  | 2, _ => simp [Instr.index, run_underlying Try.underlying50, asIntOf, part, z, a, BSet.word]
  | 3, _ => simp [Instr.index, run_underlying Try.underlying50, asIntOf, part, z, a, BSet.word]

set_option maxRecDepth 20000 in
set_option maxHeartbeats 400000 in
theorem size_any (s : BSet) (w : World) :
    Calls Try.prog 91 #[s.val] w fun e w' => e = .returned (.int .i64 ((bytesM s).length : Int)) ∧ Below w.heap.size w w' := by
  have H4 := hid (sizeTo_four s)
  have H0 : Hid (sizeTo s 0 = 0) := rfl
  have HS : Hid (sizeTo s 1 = sizeTo s 0 + pc 64 s.w0.toNat ∧ sizeTo s 2 = sizeTo s 1 + pc 64 s.w1.toNat ∧ sizeTo s 3 = sizeTo s 2 + pc 64 s.w2.toNat ∧ sizeTo s 4 = sizeTo s 3 + pc 64 s.w3.toNat) :=
    ⟨sizeTo_succ s 0 (by omega), sizeTo_succ s 1 (by omega), sizeTo_succ s 2 (by omega), sizeTo_succ s 3 (by omega)⟩
  have HL : Hid (∀ k, sizeTo s k ≤ 64 * k) := sizeTo_le s
  have HIX := hid (Try.indexSet s)
  have HX : Hid (s.w0.toNat < 18446744073709551616 ∧ s.w1.toNat < 18446744073709551616 ∧ s.w2.toNat < 18446744073709551616 ∧ s.w3.toNat < 18446744073709551616) := ⟨s.w0.isLt, s.w1.isLt, s.w2.isLt, s.w3.isLt⟩
  generalize sizeTo s = f at *
  obtain ⟨s0, s1, s2, s3⟩ := s
  unfold BSet.val
  go_enter Try.func91, Try.ntmps91
  go_wp2_with fail
  go_loopw [3, 7] (fun nv i wr => ∃ (k m : Nat), k ≤ 4 ∧ i = .int .i64 k ∧ nv = .int .i64 (m : Int) ∧ Hid (m = f k) ∧ Below w.heap.size w wr) (fun _ i _ => 4 - (intOf i).toNat)
  case atStart => exact ⟨0, 0, by omega, rfl, rfl, H0.out.symm, (Below.refl _ _).alloc (Nat.le_refl _) _⟩
  case round =>
    obtain ⟨k, m, hk, rfl, rfl, HM, hb⟩ := hrel
    have HB := hid hb
    have hm256 : m ≤ 256 := by have := HL.out k; have := HM.out; omega
    clear hb
    match k, hk with
    | 0, _ =>
      have hix : ∀ W, (Instr.index 50 (.agg #[w64 s0, w64 s1, w64 s2, w64 s3]) (.int .i64 0)).run Try.prog W = .ok (w64 s0) W := fun W => HIX.out 0 (by omega) W
      have ho := ones_any s0.toNat HX.out.1 wr
      have hg : f 1 = f 0 + pc 64 s0.toNat := HS.out.1
      have hfl := HL.out 1
      have HO := hid ho
      obtain ⟨q, hq⟩ : ∃ q, pc 64 s0.toNat = q := ⟨_, rfl⟩
      rw [hq] at HO hg
      have hpc : q ≤ 256 := by omega
      have HM2 : Hid (m + q = f 1) := by have := HM.out; rw [Hid]; omega
      clear ho hq hg hfl
      go_wp2_with fail
      refine HO.out.mono ?_
      rintro e w2 ⟨rfl, rfl⟩
      go_wp2_with fail
      go_roundw
      case rel => exact ⟨1, m + q, by omega, rfl, by go_num, HM2, HB.out⟩
      case measure => simp [intOf]
    | 1, _ =>
      have hix : ∀ W, (Instr.index 50 (.agg #[w64 s0, w64 s1, w64 s2, w64 s3]) (.int .i64 1)).run Try.prog W = .ok (w64 s1) W := fun W => HIX.out 1 (by omega) W
      have ho := ones_any s1.toNat HX.out.2.1 wr
      have hg : f 2 = f 1 + pc 64 s1.toNat := HS.out.2.1
      have hfl := HL.out 2
      have HO := hid ho
      obtain ⟨q, hq⟩ : ∃ q, pc 64 s1.toNat = q := ⟨_, rfl⟩
      rw [hq] at HO hg
      have hpc : q ≤ 256 := by omega
      have HM2 : Hid (m + q = f 2) := by have := HM.out; rw [Hid]; omega
      clear ho hq hg hfl
      go_wp2_with fail
      refine HO.out.mono ?_
      rintro e w2 ⟨rfl, rfl⟩
      go_wp2_with fail
      go_roundw
      case rel => exact ⟨2, m + q, by omega, rfl, by go_num, HM2, HB.out⟩
      case measure => simp [intOf]
    | 2, _ =>
      have hix : ∀ W, (Instr.index 50 (.agg #[w64 s0, w64 s1, w64 s2, w64 s3]) (.int .i64 2)).run Try.prog W = .ok (w64 s2) W := fun W => HIX.out 2 (by omega) W
      have ho := ones_any s2.toNat HX.out.2.2.1 wr
      have hg : f 3 = f 2 + pc 64 s2.toNat := HS.out.2.2.1
      have hfl := HL.out 3
      have HO := hid ho
      obtain ⟨q, hq⟩ : ∃ q, pc 64 s2.toNat = q := ⟨_, rfl⟩
      rw [hq] at HO hg
      have hpc : q ≤ 256 := by omega
      have HM2 : Hid (m + q = f 3) := by have := HM.out; rw [Hid]; omega
      clear ho hq hg hfl
      go_wp2_with fail
      refine HO.out.mono ?_
      rintro e w2 ⟨rfl, rfl⟩
      go_wp2_with fail
      go_roundw
      case rel => exact ⟨3, m + q, by omega, rfl, by go_num, HM2, HB.out⟩
      case measure => simp [intOf]
    | 3, _ =>
      have hix : ∀ W, (Instr.index 50 (.agg #[w64 s0, w64 s1, w64 s2, w64 s3]) (.int .i64 3)).run Try.prog W = .ok (w64 s3) W := fun W => HIX.out 3 (by omega) W
      have ho := ones_any s3.toNat HX.out.2.2.2 wr
      have hg : f 4 = f 3 + pc 64 s3.toNat := HS.out.2.2.2
      have hfl := HL.out 4
      have HO := hid ho
      obtain ⟨q, hq⟩ : ∃ q, pc 64 s3.toNat = q := ⟨_, rfl⟩
      rw [hq] at HO hg
      have hpc : q ≤ 256 := by omega
      have HM2 : Hid (m + q = f 4) := by have := HM.out; rw [Hid]; omega
      clear ho hq hg hfl
      go_wp2_with fail
      refine HO.out.mono ?_
      rintro e w2 ⟨rfl, rfl⟩
      go_wp2_with fail
      go_roundw
      case rel => exact ⟨4, m + q, by omega, rfl, by go_num, HM2, HB.out⟩
      case measure => simp [intOf]
    | 4, _ =>
      go_wp2_with fail
      go_ret
      exact ⟨by rw [← H4.out, ← HM.out]; rfl, HB.out⟩
end Go.Proofs.Ytgiffdgicmdmgaa
namespace Go.Proofs.Ytgiffdgicmdmgaa
open Go.RowKit PopT

def spanTo (a : Nat) : Nat → BSet
  | 0 => BSet.zero
  | k + 1 => withM (spanTo a k) (a + k)
theorem has_spanTo (a k c : Nat) (h : a + k ≤ 256) (hc : c < 256) : (spanTo a k).has c = decide (a ≤ c ∧ c < a + k) := by
  induction k with
  | zero => rw [spanTo, has_zero]; symm; rw [decide_eq_false_iff_not]; omega
  | succ k ih =>
    rw [spanTo, has_with _ _ _ (by omega) hc, ih (by omega), Bool.eq_iff_iff]
    simp; omega
def setOf (l : List UInt8) : BSet := l.foldl (fun s c => withM s c.toNat) BSet.zero
theorem setOf_snoc (l : List UInt8) (c : UInt8) : setOf (l ++ [c]) = withM (setOf l) c.toNat := by unfold setOf; rw [List.foldl_append]; rfl
theorem has_setOf (l : List UInt8) (b : Nat) (hb : b < 256) : (setOf l).has b = l.any (fun c => c.toNat == b) := by
  have : ∀ (s : BSet), (l.foldl (fun s c => withM s c.toNat) s).has b = (s.has b || l.any (fun c => c.toNat == b)) := by
    induction l with
    | nil => intro s; simp
    | cons c l ih =>
      intro s
      rw [List.foldl_cons, ih, has_with _ _ _ c.toNat_lt hb, List.any_cons, Bool.or_assoc]
      congr 2
      rw [Bool.eq_iff_iff]; simp; exact eq_comm
  rw [setOf, this, has_zero, Bool.false_or]

theorem blk_put4 {W : World} {g : Nat} {t : TypeId} {a0 a1 a2 a3 b0 b1 b2 b3 : Value} (h : Blk W g t #[a0, a1, a2, a3]) : Blk ((((W.setCell ⟨g, 0, none⟩ b0).setCell ⟨g, 1, none⟩ b1).setCell ⟨g, 2, none⟩ b2).setCell ⟨g, 3, none⟩ b3) g t #[b0, b1, b2, b3] :=
  (((h.set 0 b0).set 1 b1).set 2 b2).set 3 b3
theorem blk_far4 {W : World} {g g' : Nat} {t : TypeId} {cs : Array Value} {b0 b1 b2 b3 : Value} (h : Blk W g t cs) (hne : g ≠ g') : Blk ((((W.setCell ⟨g', 0, none⟩ b0).setCell ⟨g', 1, none⟩ b1).setCell ⟨g', 2, none⟩ b2).setCell ⟨g', 3, none⟩ b3) g t cs :=
  (((h.set_far hne).set_far hne).set_far hne).set_far hne
theorem below_put4 {B : Nat} {w W : World} {g : Nat} (h : Below B w W) (hg : B ≤ g) (b0 b1 b2 b3 : Value) : Below B w ((((W.setCell ⟨g, 0, none⟩ b0).setCell ⟨g, 1, none⟩ b1).setCell ⟨g, 2, none⟩ b2).setCell ⟨g, 3, none⟩ b3) :=
  (((h.setCell hg _).setCell hg _).setCell hg _).setCell hg _
theorem blk4 {W : World} {g : Nat} {t : TypeId} {a0 a1 a2 a3 : Value} (h : Blk W g t #[a0, a1, a2, a3]) : W.cell? ⟨g, 0, none⟩ = some a0 ∧ W.cell? ⟨g, 1, none⟩ = some a1 ∧ W.cell? ⟨g, 2, none⟩ = some a2 ∧ W.cell? ⟨g, 3, none⟩ = some a3 ∧
    W.frozen? ⟨g, 0, none⟩ = false ∧ W.frozen? ⟨g, 1, none⟩ = false ∧ W.frozen? ⟨g, 2, none⟩ = false ∧ W.frozen? ⟨g, 3, none⟩ = false :=
  ⟨h.cell 0, h.cell 1, h.cell 2, h.cell 3, h.frozen 0, h.frozen 1, h.frozen 2, h.frozen 3⟩

set_option maxRecDepth 20000 in
set_option maxHeartbeats 800000 in
theorem span_any (a b : Nat) (ha : a < 256) (hb : b < 256) (w : World) :
    Calls Try.prog 100 #[.int .u8 (a : Int), .int .u8 (b : Int)] w fun e w' => e = .returned (spanTo a (b + 1 - a)).val ∧ Below w.heap.size w w' := by
  obtain ⟨K, hK⟩ : ∃ K, b + 1 - a = K := ⟨_, rfl⟩
  rw [hK]
  obtain ⟨t, ht⟩ : ∃ t, spanTo a K = t := ⟨_, rfl⟩
  rw [ht]
  obtain ⟨r0, r1, r2, r3⟩ := t
  have HFIN := hid ht
  unfold BSet.val
  clear ht
  go_enter Try.func100, Try.ntmps100
  go_wp2_with fail
  go_loopw [6] (fun i wr => ∃ (k n : Nat), k ≤ K ∧ n = a + k ∧ i = .int .i64 (n : Int) ∧ Blk wr (w.heap.size + 1) 50 #[w64 (spanTo a k).w0, w64 (spanTo a k).w1, w64 (spanTo a k).w2, w64 (spanTo a k).w3] ∧
      Blk wr w.heap.size 50 #[.int .u64 0, .int .u64 0, .int .u64 0, .int .u64 0] ∧ Below w.heap.size w wr) (fun i _ => 300 - (intOf i).toNat)
  case atStart => exact ⟨0, a, by omega, by omega, rfl, by have := Blk.new (w.alloc (.cells #[.int .u64 0, .int .u64 0, .int .u64 0, .int .u64 0] 50)) 50 #[.int .u64 0, .int .u64 0, .int .u64 0, .int .u64 0]; rwa [World.size_alloc] at this, (Blk.new w _ _).alloc _, ((Below.refl _ _).alloc (Nat.le_refl _) _).alloc (by simp) _⟩
  case round =>
    obtain ⟨k, n, hk, hn, rfl, h1, h0, hbl⟩ := hrel
    have H1 := hid h1; have H0 := hid h0; have HB := hid hbl
    clear h1 h0 hbl
    by_cases hlt : n ≤ b
    · have hn256 : n < 256 := by omega
      have HST : Hid (spanTo a (k + 1) = withM (spanTo a k) n) := by rw [Hid, hn]; rfl
      obtain ⟨c0, c1, c2, c3, f0, f1, f2, f3⟩ := blk4 H1.out
      obtain ⟨s, hs⟩ : ∃ s, spanTo a k = s := ⟨_, rfl⟩
      rw [hs] at c0 c1 c2 c3 HST
      have HW := hid (with_any s n hn256 wr)
      obtain ⟨t, ht⟩ : ∃ t, withM s n = t := ⟨_, rfl⟩
      rw [ht] at HW HST
      unfold BSet.val at HW
      have HN := hid hn
      have hkK : k < K := by omega
      obtain ⟨s0, s1, s2, s3⟩ := s
      obtain ⟨t0, t1, t2, t3⟩ := t
      clear hs ht hn
      go_wp2_with fail
      refine HW.out.mono ?_
      rintro e w2 ⟨rfl, hb2⟩
      have H1b := hid (H1.out.below hb2 H1.out.lt)
      have H0b := hid (H0.out.below hb2 H0.out.lt)
      have HB2 := hid (HB.out.trans (hb2.mono HB.out.size))
      obtain ⟨d0, d1, d2, d3, g0, g1, g2, g3⟩ := blk4 H1b.out
      have HP := hid (blk_put4 (b0 := w64 t0) (b1 := w64 t1) (b2 := w64 t2) (b3 := w64 t3) H1b.out)
      have HQ := hid (blk_far4 (g' := w.heap.size + 1) (b0 := w64 t0) (b1 := w64 t1) (b2 := w64 t2) (b3 := w64 t3) H0b.out (by omega))
      have HR := hid (below_put4 (g := w.heap.size + 1) HB2.out (by omega) (w64 t0) (w64 t1) (w64 t2) (w64 t3))
      clear hb2 HW c0 c1 c2 c3 f0 f1 f2 f3 H1b H0b HB2
      go_wp2_with fail
      go_roundw
      case rel => exact ⟨k + 1, n + 1, by omega, by have := HN.out; omega, by go_num, by rw [HST.out]; exact HP.out, HQ.out, HR.out⟩
      case measure => simp [intOf]; omega
    · obtain rfl : K = k := by omega
      rw [HFIN.out] at H1
      simp only at H1
      obtain ⟨c0, c1, c2, c3, f0, f1, f2, f3⟩ := blk4 H1.out
      obtain ⟨d0, d1, d2, d3, g0, g1, g2, g3⟩ := blk4 H0.out
      have HP := hid (blk_put4 (b0 := w64 r0) (b1 := w64 r1) (b2 := w64 r2) (b3 := w64 r3) H0.out)
      obtain ⟨e0, e1, e2, e3, -, -, -, -⟩ := blk4 HP.out
      have HR := hid (below_put4 (g := w.heap.size) HB.out (Nat.le_refl _) (w64 r0) (w64 r1) (w64 r2) (w64 r3))
      clear hn
      go_wp2_with fail
      exact bodyPost_ret (v := .agg #[w64 r0, w64 r1, w64 r2, w64 r3]) (by simp [results, Try.results100, go_sem, e0, e1, e2, e3]) rfl ⟨rfl, HR.out⟩
end Go.Proofs.Ytgiffdgicmdmgaa
namespace Go.Proofs.Ytgiffdgicmdmgaa
open Go.RowKit PopT

set_option maxRecDepth 20000 in
set_option maxHeartbeats 400000 in
theorem spanC_any (a : Nat) (b : Nat) (ha : a < 256) (hb : b < 256) (w : World) :
    Calls Try.prog 82 #[.int .u8 (a : Int), .int .u8 (b : Int)] w fun e w' => e = .returned (spanTo a (b + 1 - a)).val ∧ Below w.heap.size w w' := by
  have HC := hid (fun W => span_any a b ha hb W)
  obtain ⟨z, hz⟩ : ∃ z, spanTo a (b + 1 - a) = z := ⟨_, rfl⟩
  simp only [hz] at HC ⊢
  obtain ⟨z0, z1, z2, z3⟩ := z
  unfold BSet.val at *
  clear hz
  have H00 : Hid (Blk (w.alloc (.cells #[.int .u64 0, .int .u64 0, .int .u64 0, .int .u64 0] 50)) (w.heap.size) 50 #[.int .u64 0, .int .u64 0, .int .u64 0, .int .u64 0]) := by
    have := Blk.new w 50 #[.int .u64 0, .int .u64 0, .int .u64 0, .int .u64 0]
    first | exact this | (simp only [World.size_alloc] at this; exact this)
  have HB0 : Hid (Below w.heap.size w (w.alloc (.cells #[.int .u64 0, .int .u64 0, .int .u64 0, .int .u64 0] 50))) := (Below.refl w.heap.size w).alloc (by simp <;> omega) _
  go_enter Try.func82, Try.ntmps82
  go_wp2_with fail
  refine (HC.out _).mono ?_
  rintro e w2 ⟨rfl, hb2⟩
  have H0 := H00.out.below hb2 H00.out.lt
  obtain ⟨d0, d1, d2, d3, g0, g1, g2, g3⟩ := blk4 H0
  obtain ⟨e0, e1, e2, e3, -, -, -, -⟩ := blk4 (blk_put4 (b0 := w64 z0) (b1 := w64 z1) (b2 := w64 z2) (b3 := w64 z3) H0)
  have HR := hid (below_put4 (g := w.heap.size) (HB0.out.trans (hb2.mono HB0.out.size)) (by omega) (w64 z0) (w64 z1) (w64 z2) (w64 z3))
  clear hb2 H0 HC
  go_wp2_with fail
  exact bodyPost_ret (v := .agg #[w64 z0, w64 z1, w64 z2, w64 z3]) (by simp [results, Try.results82, go_sem, e0, e1, e2, e3]) rfl ⟨rfl, HR.out⟩

theorem lenC_any (s : BSet) (w : World) :
    Calls Try.prog 68 #[s.val] w fun e w' => e = .returned (.int .i64 ((bytesM s).length : Int)) ∧ Below w.heap.size w w' := by
  have HC := hid (fun W => size_any s W)
  obtain ⟨q, hq⟩ : ∃ q, (bytesM s).length = q := ⟨_, rfl⟩
  simp only [hq] at HC ⊢
  obtain ⟨s0, s1, s2, s3⟩ := s
  unfold BSet.val at *
  clear hq
  go_enter Try.func68, Try.ntmps68
  go_wp2_with fail
  refine (HC.out _).mono ?_
  rintro e w2 ⟨rfl, hb2⟩
  have HB := hid (((Below.refl w.heap.size w).alloc (Nat.le_refl _) _).trans (hb2.mono (by simp)))
  clear hb2 HC
  go_wp2_with fail
  go_ret
  exact ⟨rfl, HB.out⟩
end Go.Proofs.Ytgiffdgicmdmgaa
namespace Go.Proofs.Ytgiffdgicmdmgaa
open Go.RowKit

theorem Try.sizeBuilder : (Try.prog.info? 97).map (·.size) = some 2 := by kernel_rfl
theorem Try.liesBuilder : liesAt Try.prog Try.prog.depth 97 1 0 97 1 = true := by kernel_rfl

set_option maxHeartbeats 1000000 in
set_option maxRecDepth 100000 in
theorem copyCheck_used (b : Nat) (w : World) (h0 : w.cell? ⟨b, 0, none⟩ = some (.pointer (some ⟨b, 0, none⟩))) :
    Calls Try.prog 92 #[.pointer (some ⟨b, 0, none⟩)] w fun e w' => e = .returned (.tuple #[]) ∧ w = w' := by
  obtain ⟨j, hj, _⟩ := Option.map_eq_some_iff.1 Try.sizeBuilder
  go_enter Try.func92, Try.ntmps92
  go_wp2
  rw [Lib.run_neq_ptr_same w _ Try.underlying95 hj]
  go_wp2
  go_end0
  exact ⟨rfl, rfl⟩

set_option maxHeartbeats 1000000 in
set_option maxRecDepth 100000 in
theorem copyCheck_fresh (b : Nat) (w : World) (h0 : w.cell? ⟨b, 0, none⟩ = some (.pointer none)) (hsh : w.shape? b = some (97, 2)) (hfz : w.frozen? ⟨b, 0, none⟩ = false) :
    Calls Try.prog 92 #[.pointer (some ⟨b, 0, none⟩)] w fun e w' => e = .returned (.tuple #[]) ∧ w' = w.setCell ⟨b, 0, none⟩ (.pointer (some ⟨b, 0, none⟩)) := by
  obtain ⟨j, hj, hjs⟩ := Option.map_eq_some_iff.1 Try.sizeBuilder
  go_enter Try.func92, Try.ntmps92
  go_wp2
  rw [Lib.run_to_unsafe w ⟨b, 0, none⟩ Try.underlying95 Try.underlying138 hj (by rw [hjs]; decide) hsh (Nat.zero_lt_succ 1)]
  simp only [Result.andThen]
  rw [Oper.upon_value]
  go_wp2
  rw [run_callFunc_extern Try.func104 (by kernel_rfl) (by kernel_rfl) (by kernel_rfl) (e := Extern.AbiNoEscape.same) (by kernel_rfl)]
  rw [Lib.run_noEscape]
  simp only [Result.andThen]
  rw [Oper.upon_value]
  go_wp2
  rw [Lib.run_from_unsafe w ⟨b, 0, none⟩ Try.underlying138 Try.underlying95 hj hsh Try.liesBuilder]
  simp only [Result.andThen]
  rw [Oper.upon_value]
  go_wp2
  go_end0
  exact ⟨rfl, rfl⟩
theorem copyCheck_any (B b : Nat) (bs : List Value) (w : World) (h : Lib.IsBuilder 97 5 B b bs w) :
    Calls Try.prog 92 #[.pointer (some ⟨b, 0, none⟩)] w fun e w' => e = .returned (.tuple #[]) ∧ Lib.BuilderAt 97 5 B b (.pointer (some ⟨b, 0, none⟩)) bs w' ∧ Below B w w' := by
  rcases h with h | h
  · refine (copyCheck_fresh b w h.cell0 h.shape h.frozen0).mono ?_
    rintro e w' ⟨rfl, rfl⟩
    exact ⟨rfl, h.used _, (Below.refl B w).setCell h.1 _⟩
  · refine (copyCheck_used b w h.cell0).mono ?_
    rintro e w' ⟨rfl, rfl⟩
    exact ⟨rfl, h, Below.refl B w⟩

theorem Try.infoU8b : (Try.prog.info? 5).map (fun i => (i.zero, i.size, i.bytes)) = some (some (.int .u8 0), 1, 1) := by kernel_rfl
set_option maxRecDepth 20000 in
set_option maxHeartbeats 400000 in
theorem writeByte_any (B b : Nat) (bs : List Value) (c : Int) (w : World) (h : Lib.IsBuilder 97 5 B b bs w) (hlen : bs.length + 1 ≤ 1000000000) :
    Calls Try.prog 69 #[.pointer (some ⟨b, 0, none⟩), .int .u8 c] w fun e w' => e = .returned .nilIface ∧ Lib.BuilderAt 97 5 B b (.pointer (some ⟨b, 0, none⟩)) (bs ++ [.int .u8 c]) w' ∧ Below B w w' := by
  have HC := hid (copyCheck_any B b bs w h)
  clear h
  go_enter Try.func69, Try.ntmps69
  go_wp2_with fail
  refine HC.out.mono ?_
  rintro e w1 ⟨rfl, hB1, hbl⟩
  have hbs := hB1.lt
  obtain ⟨hBb, v, hbk, hown, hne⟩ := hB1
  have hk : Blk w1 b 97 #[.pointer (some ⟨b, 0, none⟩), v] := hbk
  obtain ⟨A, c0, rfl, -⟩ := own_shape hown
  have HK := hid hk
  have HO := hid hown
  have HB := hid hbl
  have HNE := hid hne
  have c1 : w1.cell? ⟨b, 1, none⟩ = some (.slice A bs.length c0) := hk.cell 1
  have f1 := hk.frozen 1
  have hBw : B ≤ w1.heap.size := by omega
  clear hk hbk hown hbl hne HC
  go_wp2_with (at_builtin; refine wpList_append1K _ rfl _ _ 85 rfl B 5 _ 1 1 Try.underlying85 Try.infoU8b rfl (by decide) _ _ _ rfl HO.out 1 [.int .u8 c] rfl rfl rfl ?_ (by decide) hBw ?_)
  · omega
  intro g c3 w3 hown3 hk3 hf3
  have HK3 := hid (hk3.blk HK.out HNE.out)
  have hgb : g ≠ b := by
    rintro rfl
    rcases hf3 with h | h
    · exact HNE.out h
    · omega
  have d1 : w3.cell? ⟨b, 1, none⟩ = some (.slice A bs.length c0) := HK3.out.cell 1
  have d2 := HK3.out.frozen 1
  have hlt3 := HK3.out.lt
  have HRES : Hid (Lib.BuilderAt 97 5 B b (.pointer (some ⟨b, 0, none⟩)) (bs ++ [.int .u8 c]) (w3.setCell ⟨b, 1, none⟩ (.slice (some ⟨g, 0, none⟩) (bs.length + 1) c3))) := by
    refine ⟨hBb, _, HK3.out.set 1 (.slice (some ⟨g, 0, none⟩) (bs.length + 1) c3), ?_, by simp [Value.ownBlock, hgb]⟩
    have := own_kept_set hown3 ⟨b, 1, none⟩ (.slice (some ⟨g, 0, none⟩) (bs.length + 1) c3) (by simp [Value.ownBlock, hgb])
    simpa using this
  have HBF : Hid (Below B w (w3.setCell ⟨b, 1, none⟩ (.slice (some ⟨g, 0, none⟩) (bs.length + 1) c3))) := (HB.out.trans (hk3.below hBw (fun k hk => (HO.out.lt k hk).1))).setCell hBb _
  clear hown3 hk3 hf3
  go_wp2_with fail
  go_ret
  exact ⟨rfl, HRES.out, HBF.out⟩
end Go.Proofs.Ytgiffdgicmdmgaa
namespace Go.Proofs.Ytgiffdgicmdmgaa
open Go.RowKit

/-- A byte's sign. -/
def signM (c : Nat) : List Nat := if c = 37 ∨ c = 93 ∨ c = 45 ∨ c = 94 then [37, c] else [c]
def u8Cells (l : List Nat) : List Value := l.map fun c : Nat => Value.int .u8 (c : Int)
theorem u8Cells_append (a b : List Nat) : u8Cells (a ++ b) = u8Cells a ++ u8Cells b := by simp [u8Cells]
theorem u8Cells_length (a : List Nat) : (u8Cells a).length = a.length := by simp [u8Cells]
theorem signM_le (c : Nat) : (signM c).length ≤ 2 := by unfold signM; split <;> simp

set_option maxRecDepth 20000 in
set_option maxHeartbeats 800000 in
theorem signC_any (B b : Nat) (l : List Nat) (c : Nat) (w : World) (h : Lib.IsBuilder 97 5 B b (u8Cells l) w) (hlen : l.length ≤ 100000000) :
    Calls Try.prog 106 #[.pointer (some ⟨b, 0, none⟩), .int .u8 (c : Int)] w fun e w' => e = .returned (.tuple #[]) ∧ Lib.BuilderAt 97 5 B b (.pointer (some ⟨b, 0, none⟩)) (u8Cells (l ++ signM c)) w' ∧ Below B w w' := by
  have H := hid h
  clear h
  by_cases h0 : c = 37
  · have HS : Hid (signM c = [37, c]) := by rw [Hid, signM, if_pos (by omega)]
    have e0 : ((c : Int) == 37) = true := by simp; omega
    clear h0
    have HW1 := hid (writeByte_any B b (u8Cells l) 37 w H.out (by rw [u8Cells_length]; omega))
    go_enter Try.func106, Try.ntmps106
    go_wp2_with fail
    refine HW1.out.mono ?_
    rintro e w1 ⟨rfl, hB1, hb1⟩
    have HW2 := hid (writeByte_any B b (u8Cells l ++ [.int .u8 37]) (c : Int) w1 (.inr hB1) (by rw [List.length_append, u8Cells_length]; simp; omega))
    have HB1 := hid hb1
    clear hB1 hb1 HW1
    go_wp2_with fail
    refine HW2.out.mono ?_
    rintro e w2 ⟨rfl, hB2, hb2⟩
    have HR : Hid (Lib.BuilderAt 97 5 B b (.pointer (some ⟨b, 0, none⟩)) (u8Cells (l ++ signM c)) w2) := by
      rw [Hid, HS.out, u8Cells_append]; simpa [u8Cells] using hB2
    have HB2 := hid (HB1.out.trans hb2)
    clear hB2 hb2 HW2
    go_wp2_with fail
    go_end0
    exact ⟨rfl, HR.out, HB2.out⟩
  · skip
    by_cases h1 : c = 93
    · have HS : Hid (signM c = [37, c]) := by rw [Hid, signM, if_pos (by omega)]
      have e0 : ((c : Int) == 37) = false := by simp; omega
      have e1 : ((c : Int) == 93) = true := by simp; omega
      clear h1
      have HW1 := hid (writeByte_any B b (u8Cells l) 37 w H.out (by rw [u8Cells_length]; omega))
      go_enter Try.func106, Try.ntmps106
      go_wp2_with fail
      refine HW1.out.mono ?_
      rintro e w1 ⟨rfl, hB1, hb1⟩
      have HW2 := hid (writeByte_any B b (u8Cells l ++ [.int .u8 37]) (c : Int) w1 (.inr hB1) (by rw [List.length_append, u8Cells_length]; simp; omega))
      have HB1 := hid hb1
      clear hB1 hb1 HW1
      go_wp2_with fail
      refine HW2.out.mono ?_
      rintro e w2 ⟨rfl, hB2, hb2⟩
      have HR : Hid (Lib.BuilderAt 97 5 B b (.pointer (some ⟨b, 0, none⟩)) (u8Cells (l ++ signM c)) w2) := by
        rw [Hid, HS.out, u8Cells_append]; simpa [u8Cells] using hB2
      have HB2 := hid (HB1.out.trans hb2)
      clear hB2 hb2 HW2
      go_wp2_with fail
      go_end0
      exact ⟨rfl, HR.out, HB2.out⟩
    · skip
      by_cases h2 : c = 45
      · have HS : Hid (signM c = [37, c]) := by rw [Hid, signM, if_pos (by omega)]
        have e0 : ((c : Int) == 37) = false := by simp; omega
        have e1 : ((c : Int) == 93) = false := by simp; omega
        have e2 : ((c : Int) == 45) = true := by simp; omega
        clear h2
        have HW1 := hid (writeByte_any B b (u8Cells l) 37 w H.out (by rw [u8Cells_length]; omega))
        go_enter Try.func106, Try.ntmps106
        go_wp2_with fail
        refine HW1.out.mono ?_
        rintro e w1 ⟨rfl, hB1, hb1⟩
        have HW2 := hid (writeByte_any B b (u8Cells l ++ [.int .u8 37]) (c : Int) w1 (.inr hB1) (by rw [List.length_append, u8Cells_length]; simp; omega))
        have HB1 := hid hb1
        clear hB1 hb1 HW1
        go_wp2_with fail
        refine HW2.out.mono ?_
        rintro e w2 ⟨rfl, hB2, hb2⟩
        have HR : Hid (Lib.BuilderAt 97 5 B b (.pointer (some ⟨b, 0, none⟩)) (u8Cells (l ++ signM c)) w2) := by
          rw [Hid, HS.out, u8Cells_append]; simpa [u8Cells] using hB2
        have HB2 := hid (HB1.out.trans hb2)
        clear hB2 hb2 HW2
        go_wp2_with fail
        go_end0
        exact ⟨rfl, HR.out, HB2.out⟩
      · skip
        by_cases h3 : c = 94
        · have HS : Hid (signM c = [37, c]) := by rw [Hid, signM, if_pos (by omega)]
          have e0 : ((c : Int) == 37) = false := by simp; omega
          have e1 : ((c : Int) == 93) = false := by simp; omega
          have e2 : ((c : Int) == 45) = false := by simp; omega
          have e3 : ((c : Int) == 94) = true := by simp; omega
          clear h3
          have HW1 := hid (writeByte_any B b (u8Cells l) 37 w H.out (by rw [u8Cells_length]; omega))
          go_enter Try.func106, Try.ntmps106
          go_wp2_with fail
          refine HW1.out.mono ?_
          rintro e w1 ⟨rfl, hB1, hb1⟩
          have HW2 := hid (writeByte_any B b (u8Cells l ++ [.int .u8 37]) (c : Int) w1 (.inr hB1) (by rw [List.length_append, u8Cells_length]; simp; omega))
          have HB1 := hid hb1
          clear hB1 hb1 HW1
          go_wp2_with fail
          refine HW2.out.mono ?_
          rintro e w2 ⟨rfl, hB2, hb2⟩
          have HR : Hid (Lib.BuilderAt 97 5 B b (.pointer (some ⟨b, 0, none⟩)) (u8Cells (l ++ signM c)) w2) := by
            rw [Hid, HS.out, u8Cells_append]; simpa [u8Cells] using hB2
          have HB2 := hid (HB1.out.trans hb2)
          clear hB2 hb2 HW2
          go_wp2_with fail
          go_end0
          exact ⟨rfl, HR.out, HB2.out⟩
        · skip
          have HS : Hid (signM c = [c]) := by rw [Hid, signM, if_neg (by omega)]
          have e0 : ((c : Int) == 37) = false := by simp; omega
          have e1 : ((c : Int) == 93) = false := by simp; omega
          have e2 : ((c : Int) == 45) = false := by simp; omega
          have e3 : ((c : Int) == 94) = false := by simp; omega
          clear h0 h1 h2 h3
          have HW1 := hid (writeByte_any B b (u8Cells l) (c : Int) w H.out (by rw [u8Cells_length]; omega))
          go_enter Try.func106, Try.ntmps106
          go_wp2_with fail
          refine HW1.out.mono ?_
          rintro e w1 ⟨rfl, hB1, hb1⟩
          have HR : Hid (Lib.BuilderAt 97 5 B b (.pointer (some ⟨b, 0, none⟩)) (u8Cells (l ++ signM c)) w1) := by
            rw [Hid, HS.out, u8Cells_append]; simpa [u8Cells] using hB1
          have HB1 := hid hb1
          clear hB1 hb1 HW1
          go_wp2_with fail
          go_end0
          exact ⟨rfl, HR.out, HB1.out⟩
end Go.Proofs.Ytgiffdgicmdmgaa
namespace Go.Proofs.Ytgiffdgicmdmgaa
open Go.RowKit


theorem cut_any (s : ByteArray) (m : Nat) (w : World) (_hs : s.size ≤ 9223372036854775807) (_hm : m ≤ 1000000) :
    Calls Try.prog 21 #[.string s, .int .i64 m] w fun e w' => e = .returned (.string (if m < s.size then s.extract 0 m else s)) ∧ w = w' := by
  by_cases h : m < s.size
  · go_enter Try.func21, Try.ntmps21
    go_wp2
    go_ret
    exact ⟨rfl, rfl⟩
  · go_enter Try.func21, Try.ntmps21
    go_wp2
    go_ret
    exact ⟨rfl, rfl⟩

set_option maxHeartbeats 400000 in
theorem has_any (s : BSet) (b : Nat) (hb : b < 256) (w : World) :
    Calls Try.prog 105 #[s.val, .int .u8 (b : Int)] w fun e w' => e = .returned (.bool (s.has b)) ∧ Below w.heap.size w w' := by
  have hcell : (w.alloc (.cells #[w64 s.w0, w64 s.w1, w64 s.w2, w64 s.w3] 50)).cell? ⟨w.heap.size, b / 64, none⟩ = some (.int .u64 ((s.word (b / 64)).toNat : Int)) := by
    rw [cell_of_row _ w.heap.size (b / 64) _ _ (0, 0) (heap_alloc_new w _)]
    have h4 : b / 64 < 4 := by omega
    generalize b / 64 = k at h4
    match k, h4 with
    | 0, _ => rfl
    | 1, _ => rfl
    | 2, _ => rfl
    | 3, _ => rfl
  have hw := (s.word (b / 64)).isLt
  unfold BSet.val BSet.has
  generalize s.word (b / 64) = x at *
  go_enter Try.func105, Try.ntmps105
  go_wp2
  go_ret
  exact ⟨by rw [← bit_of]; rfl, (Below.refl _ _).alloc (Nat.le_refl _) _⟩

set_option maxHeartbeats 400000 in
theorem goodRef_any (A : Option Addr) (n c : Nat) (l : List Item) (w : World) (hl : l.length = n) (hn : n ≤ 9223372036854775807) (hr : Rd w A (itemCells l)) :
    Calls Try.prog 28 #[.slice A n c] w fun e w' => e = .returned (.bool (goodM l)) ∧ w = w' := by
  have HL := hid hl; clear hl
  go_enter Try.func28, Try.ntmps28
  go_wp2
  go_loop [3] (fun i => ∃ k, k ≤ n ∧ i = .int .i64 k ∧ (l.take k).all (fun x => !(x.run && x.set != BSet.zero)) = true) (fun i => n - (intOf i).toNat)
  case atStart => exact ⟨0, by omega, rfl, by simp⟩
  case round =>
    obtain ⟨k, hk, rfl, hall⟩ := hrel
    have HA := hid hall; clear hall
    by_cases hlt : k < n
    · obtain ⟨b, off, rfl, hbl, hc⟩ := hr.at (by rw [itemCells_length, HL.out]; omega)
      have HK : Hid (k < l.length) := by rw [HL.out]; exact hlt
      obtain ⟨c0, c1, c2, c3, c4⟩ := item_at hc k HK.out
      clear hc hr
      generalize hx : l[k]'HK.out = x at *
      have HX := hid hx; clear hx
      obtain ⟨r, x0, x1, x2, x3⟩ := x
      simp only at c0 c1 c2 c3 c4
      have HS : Hid (∀ q, (l.take (k + 1)).all q = ((l.take k).all q && q ⟨r, x0, x1, x2, x3⟩)) := by
        intro q
        rw [List.take_succ_eq_append_getElem HK.out, HX.out]; simp
      cases r
      · go_wp2
        go_round
        case rel => exact ⟨k + 1, by omega, by go_num, by rw [HS.out, HA.out]; rfl⟩
        case measure => simp [intOf]; omega
      · by_cases hz : (⟨x0, x1, x2, x3⟩ : BSet) = BSet.zero
        · have heq : ∀ W, (Op.equalIn 10000 50 (.agg #[w64 x0, w64 x1, w64 x2, w64 x3]) (.agg #[.int .u64 0, .int .u64 0, .int .u64 0, .int .u64 0])).run Try.prog W = .ok true W := by
            intro W; have := Try.eqSet ⟨x0, x1, x2, x3⟩ BSet.zero W; rw [beq_iff_eq.2 hz] at this; exact this
          have HZ := hid hz; clear hz
          go_wp2
          go_round
          case rel => exact ⟨k + 1, by omega, by go_num, by rw [HS.out, HA.out]; simp [HZ.out]⟩
          case measure => simp [intOf]; omega
        · have heq : ∀ W, (Op.equalIn 10000 50 (.agg #[w64 x0, w64 x1, w64 x2, w64 x3]) (.agg #[.int .u64 0, .int .u64 0, .int .u64 0, .int .u64 0])).run Try.prog W = .ok false W := by
            intro W; have := Try.eqSet ⟨x0, x1, x2, x3⟩ BSet.zero W; rw [beq_eq_false_iff_ne.2 hz] at this; exact this
          have HZ := hid hz; clear hz
          go_wp2
          go_ret
          have e : goodM l = false := by
            unfold goodM
            rw [Bool.and_eq_false_iff]; left
            rw [List.all_eq_false]
            exact ⟨l[k]'HK.out, List.getElem_mem _, by rw [HX.out]; simp [HZ.out]⟩
          rw [e]
          exact ⟨rfl, rfl⟩
    · go_wp2
      go_ret
      have hkn : k = l.length := by rw [HL.out]; omega
      have e : goodM l = decide ((n : Int) < 61) := by
        unfold goodM
        rw [show l.all (fun x => !(x.run && x.set != BSet.zero)) = true from by have := HA.out; rw [hkn, List.take_length] at this; exact this, HL.out]
        simp; omega
      rw [e]
      exact ⟨rfl, rfl⟩

set_option maxHeartbeats 400000 in
theorem hasC_any (s : BSet) (b : Nat) (hb : b < 256) (w : World) :
    Calls Try.prog 98 #[s.val, .int .u8 (b : Int)] w fun e w' => e = .returned (.bool (s.has b)) ∧ Below w.heap.size w w' := by
  unfold BSet.val
  go_enter Try.func98, Try.ntmps98
  go_wp2_with (go_at_call 105; refine (has_any s b hb _).mono ?_; rintro e w1 ⟨rfl, hb1⟩)
  go_ret
  exact ⟨rfl, ((Below.refl _ _).alloc (Nat.le_refl _) _).trans (hb1.mono (by simp))⟩

theorem Below.get {w w' : World} (h : Below w.heap.size w w') {b off : Nat} (hb : b < w.heap.size) : w'.cell? ⟨b, off, none⟩ = w.cell? ⟨b, off, none⟩ := h.cell (p := ⟨b, off, none⟩) hb

end Go.Proofs.Ytgiffdgicmdmgaa
namespace Go.Proofs.Ytgiffdgicmdmgaa
open Go.RowKit PopT

set_option maxRecDepth 20000 in
set_option maxHeartbeats 1000000 in
theorem list_any (y : BSet) (w : World) :
    Calls Try.prog 93 #[y.val] w fun e w' => ∃ A c, e = .returned (.slice A (bytesM y).length c) ∧ w'.ownsRow w.heap.size 5 1 (.slice A (bytesM y).length c) (bytesM y).length (byteCells (bytesM y)) ∧ Below w.heap.size w w' := by
  have HHAS := hid (fun b hb W => has_any y b hb W)
  unfold BSet.val at HHAS ⊢
  go_enter Try.func93, Try.ntmps93
  go_wp2_with fail
  have HO0 := hid (World.ownsRow_made (base := w.heap.size) (e := 5) (size := 1) (w.alloc (.cells #[w64 y.w0, w64 y.w1, w64 y.w2, w64 y.w3] 50)) #[] 0 (by simp) (by simp [maxLen]) (by simp))
  go_loopw [3, 5] (fun v i wr => ∃ (k : Nat) (A' : Option Addr) (c' : Nat), k ≤ 256 ∧ i = .int .i64 k ∧ v = .slice A' (bytesTo y k).length c' ∧
      wr.ownsRow (w.heap.size + 1) 5 1 (.slice A' (bytesTo y k).length c') (bytesTo y k).length (byteCells (bytesTo y k)) ∧
      Blk wr w.heap.size 50 #[w64 y.w0, w64 y.w1, w64 y.w2, w64 y.w3] ∧ Below w.heap.size w wr ∧ w.heap.size + 1 ≤ wr.heap.size) (fun _ i _ => 256 - (intOf i).toNat)
  case atStart => exact ⟨0, none, 0, by omega, rfl, rfl, World.ownsRow_nil _ _ _ _, Blk.new w _ _, (Below.refl _ _).alloc (Nat.le_refl _) _, by simp⟩
  case round =>
    obtain ⟨k, A', c', hk, rfl, rfl, hown, hbk, hb, hsz⟩ := hrel
    have hlen := bytesTo_length y k
    by_cases hlt : k < 256
    · have HBK := hid hbk
      obtain ⟨c0, c1, c2, c3, -, -, -, -⟩ := blk4 hbk
      have HBS := hid (bytesTo_succ y k)
      have HH := hid (fun W => HHAS.out k hlt W)
      have HO := hid hown
      have HB := hid hb
      clear hbk hown hb
      go_wp2_with fail
      refine (HH.out _).mono ?_
      rintro e w2 ⟨rfl, hb2⟩
      have HBK2 := hid (HBK.out.below hb2 HBK.out.lt)
      have hown2 := own_below HO.out hb2
      have HB2 := HB.out.trans (hb2.mono HB.out.size)
      have hsz2 := Nat.le_trans hsz hb2.size
      clear hb2 HBK HO HB HH c0 c1 c2 c3
      cases hx : y.has k
      · rw [hx] at HBS
        have HE : Hid (bytesTo y (k + 1) = bytesTo y k) := by rw [Hid, HBS.out]; simp
        clear hx HBS
        have HO := hid hown2
        have HB := hid HB2
        clear hown2 HB2
        go_wp2_with fail
        go_roundw
        case rel => exact ⟨k + 1, A', c', by omega, by go_num, by rw [HE.out], by rw [HE.out]; exact HO.out, HBK2.out, HB.out, hsz2⟩
        case measure => simp [intOf]; omega
      · rw [hx] at HBS
        have HE : Hid (bytesTo y (k + 1) = bytesTo y k ++ [UInt8.ofNat k]) := by rw [Hid, HBS.out]; simp
        clear hx HBS
        go_wp2_with (at_builtin; refine wpList_append1 _ rfl _ _ 85 rfl (w.heap.size + 1) 5 _ 1 1 Try.underlying85 Try.infoU8b rfl (by decide) _ _ _ rfl hown2 1 [.int .u8 (k : Int)] rfl rfl rfl ?_ (by decide) hsz2 ?_)
        · omega
        intro A2 d2 w3 hown3 hg3
        have hb3 := below_grown HB2 hown2 hg3 (by omega) (by omega)
        have hsz3 := Nat.le_trans hsz2 hg3.size
        have HB3 := hid hb3
        have HO := hid hown3
        have HBK3 := hid (HBK2.out.below (below_grown (Below.refl (w.heap.size + 1) w2) hown2 hg3 (by omega) hsz2) (by omega))
        clear hown2 hown3 HB2 hg3 hb3
        go_wp2_with fail
        go_roundw
        case rel => exact ⟨k + 1, A2, d2, by omega, by go_num, by rw [HE.out]; simp, by rw [HE.out]; simpa [byteCells, Nat.mod_eq_of_lt hlt] using HO.out, HBK3.out, HB3.out, hsz3⟩
        case measure => simp [intOf]; omega
    · obtain rfl : k = 256 := by omega
      have HO := hid (own_base (B := w.heap.size) hown (by omega))
      have HB := hid hb
      clear hown hb hbk
      go_wp2_with fail
      go_ret
      exact ⟨_, _, rfl, HO.out, HB.out⟩
end Go.Proofs.Ytgiffdgicmdmgaa
namespace Go.Proofs.Ytgiffdgicmdmgaa
open Go.RowKit PopT

set_option maxRecDepth 20000 in
set_option maxHeartbeats 400000 in
theorem bytesC_any (y : BSet) (w : World) :
    Calls Try.prog 70 #[y.val] w fun e w' => e = .returned (.string ⟨(bytesM y).toArray⟩) ∧ Below w.heap.size w w' := by
  have HC := hid (fun W => list_any y W)
  unfold BSet.val at HC ⊢
  go_enter Try.func70, Try.ntmps70
  go_wp2_with fail
  refine (HC.out _).mono ?_
  rintro e w1 ⟨A, c, rfl, hown, hb⟩
  have HB := hid (((Below.refl w.heap.size w).alloc (Nat.le_refl _) (.cells #[w64 y.w0, w64 y.w1, w64 y.w2, w64 y.w3] 50)).trans (hb.mono (by simp)))
  have hcv := conv_own (P := Try.prog) (src := 85) (dst := 9) (bytesM y) Try.underlying85 Try.underlying5 Try.underlying9 hown
  clear hown hb HC
  go_wp2_with fail
  go_ret
  exact ⟨rfl, HB.out⟩
end Go.Proofs.Ytgiffdgicmdmgaa
namespace Go.Proofs.Ytgiffdgicmdmgaa
open Go.Shelf

def Try.bsRen : Go.Shelf.Ren := ⟨fun | 169 => 64 | n => n, fun | 70 => 95 | 9 => 9 | 0 => 0 | 72 => 97 | 37 => 85 | 127 => 125 | 3 => 3 | 5 => 5 | n => n, fun | n => n⟩
theorem Try.bsLays : Go.Proofs.Lays.n169 Try.prog Try.bsRen := {
  mixed := by kernel_rfl
  f169 := Try.func64.trans (congrArg some (by kernel_rfl))
  t0 := Try.underlying0
  a0 := Try.isAgg0
  z0 := Try.sizeOf0
  v0 := Try.zeroValue0
  t3 := Try.underlying3
  a3 := Try.isAgg3
  z3 := Try.sizeOf3
  v3 := Try.zeroValue3
  t9 := Try.underlying9
  a9 := Try.isAgg9
  z9 := Try.sizeOf9
  v9 := Try.zeroValue9
  t37 := Try.underlying85
  a37 := Try.isAgg85
  z37 := Try.sizeOf85
  v37 := Try.zeroValue85
  t70 := Try.underlying95
  a70 := Try.isAgg95
  z70 := Try.sizeOf95
  v70 := Try.zeroValue95
  t72 := Try.underlying97
  a72 := Try.isAgg97
  z72 := Try.sizeOf97
  v72 := Try.zeroValue97
  t127 := Try.underlying125
  a127 := Try.isAgg125
  z127 := Try.sizeOf125
  v127 := Try.zeroValue125 }
theorem Try.bsExtra : Builder.Extra Try.prog Try.bsRen := {
  sizeBuilder := by kernel_rfl
  liesBuilder := by kernel_rfl
  t5 := Try.underlying5
  a5 := Try.isAgg5
  z5 := Try.sizeOf5
  v5 := Try.zeroValue5
  infoByte := by kernel_rfl
  cellsByte := by kernel_rfl
  sizeByte := by kernel_rfl
  neB5 := by decide }
open Go.RowKit in
theorem bstring_any (B b : Nat) (l : List UInt8) (w : World) (h : Lib.IsBuilder 97 5 B b (Lib.byteCells l) w) (hBw : B ≤ w.heap.size) :
    Calls Try.prog 64 #[.pointer (some ⟨b, 0, none⟩)] w fun e w' => e = .returned (.string ⟨l.toArray⟩) ∧ Below B w w' := Any.Builder_String_any Try.bsLays Try.bsExtra B b l w h hBw
end Go.Proofs.Ytgiffdgicmdmgaa
