/- Sets of bytes: plain laws, and walks: class.with, negate, or, And. Walks: class.with, negate, or, And. Walks: math/bits.OnesCount64. Sets of bytes: plain laws on sizes and spans; walks: class.size, Len, list, Bytes. Sets of bytes: spans, the set of a text, all bytes: plain laws and walks: class.span, Span, Of, Not, Or, Len. Walks: class.Of, Span, Not, Or, Len, list, Bytes. Walks: strings.Builder: copyCheck, WriteByte (over the library's own notion of a builder). Walks: class.sign. Walks. Walks: class.list, class.Bytes. Walks: class.Bytes. -/
import Derived.Test.YtpkkfdmhbbipoaaGreatMa
import Derived.Laws.BitsAllLaws
import Derived.IntWalk
import Derived.Laws.Bits128
import Derived.Lib.Builder
import Derived.Laws.Externs
import Derived.Deep.RegionHeld3
namespace Go.Proofs.YtpkkfdmhbbipoaaGreat
set_option maxRecDepth 20000
set_option maxHeartbeats 800000
open Go.RowKit
theorem Zh8 (x y : BitVec 64) : bits .or .u64 (x.toNat : Int) (y.toNat : Int) = ((x ||| y).toNat : Int) := by
 rw [u64_or_nat _ _ x.isLt y.isLt, BitVec.toNat_or]
def Mq (k : Nat) : BitVec 64 := BitVec.ofNat 64 (2 ^ k)
theorem Zfm (k : Nat) (h : k < 64) : (Mq k).toNat = 2 ^ k := by
 unfold Mq;rw [BitVec.toNat_ofNat];exact Nat.mod_eq_of_lt (Nat.pow_lt_pow_right aa h)
theorem Zqa (k j : Nat) (h : k < 64) : (Mq k).getLsbD j = decide (j = k) := by
 rw [BitVec.getLsbD, Zfm k h, Nat.testBit_two_pow];simp [eq_comm]
theorem Zr9 (k : Nat) (h : k < 64) : IntKind.u64.wrap (2 ^ k) = ((Mq k).toNat : Int) := by
 have h1 : 2 ^ k < 2 ^ 64 := Nat.pow_lt_pow_right aa h;rw [Zfm k h, IntKind.wrap_u64, show ((2 : Int) ^ k) = ((2 ^ k : Nat) : Int) from by rw [Int.natCast_pow]; rfl];generalize 2 ^ k = q at *;omega
def Zp.put (s : Zp) (i : Nat) (x : BitVec 64) : Zp := match i with | 0 => ⟨x, s.w1, s.w2, s.w3⟩ | 1 => ⟨s.w0, x, s.w2, s.w3⟩ | 2 => ⟨s.w0, s.w1, x, s.w3⟩ | _ => ⟨s.w0, s.w1, s.w2, x⟩
def Zbh (s : Zp) (b : Nat) : Zp := s.put (b / 64) (s.word (b / 64) ||| Mq (b % 64))
theorem Zoy (s : Zp) (i j : Nat) (x : BitVec 64) (hi : i < 4) (hj : j < 4) : (s.put i x).word j = if j = i then x else s.word j := by
 match i, hi with
 | 0, _ => match j, hj with | 0, _ => rfl | 1, _ => rfl | 2, _ => rfl | 3, _ => rfl
 | 1, _ => match j, hj with | 0, _ => rfl | 1, _ => rfl | 2, _ => rfl | 3, _ => rfl
 | 2, _ => match j, hj with | 0, _ => rfl | 1, _ => rfl | 2, _ => rfl | 3, _ => rfl
 | 3, _ => match j, hj with | 0, _ => rfl | 1, _ => rfl | 2, _ => rfl | 3, _ => rfl
theorem Zcj (s : Zp) (b c : Nat) (hb : b < 256) (hc : c < 256) : (Zbh s b).has c = (s.has c || decide (c = b)) := by
 unfold Zbh Zp.has;rw [Zoy _ _ _ _ aa aa];by_cases h : c / 64 = b / 64
 ·rw [if_pos h, BitVec.getLsbD_or, Zqa _ _ (Nat.mod_lt _ aa), h]
  congr 1
  rw [Bool.eq_iff_iff]; simp; omega
 ·rw [if_neg h, show decide (c = b) = false from by simp; rintro rfl; exact h rfl, Bool.or_false]
def Zbd (s : Zp) : Zp := ⟨~~~s.w0, ~~~s.w1, ~~~s.w2, ~~~s.w3⟩
def orM (s t : Zp) : Zp := ⟨s.w0 ||| t.w0, s.w1 ||| t.w1, s.w2 ||| t.w2, s.w3 ||| t.w3⟩
theorem Znd (s : Zp) (i : Nat) (h : i < 4) : (Zbd s).word i = ~~~ s.word i := by
 match i, h with | 0, _ => rfl | 1, _ => rfl | 2, _ => rfl | 3, _ => rfl
theorem Zo3 (s t : Zp) (i : Nat) (h : i < 4) : (orM s t).word i = s.word i ||| t.word i := by
 match i, h with | 0, _ => rfl | 1, _ => rfl | 2, _ => rfl | 3, _ => rfl
theorem Zpn (s : Zp) (b : Nat) (h : b < 256) : (Zbd s).has b = !s.has b := by
 unfold Zp.has;rw [Znd _ _ aa, BitVec.getLsbD_not];have : b % 64 < 64 := Nat.mod_lt _ aa;simp [this]
theorem Zen (s t : Zp) (b : Nat) (h : b < 256) : (orM s t).has b = (s.has b || t.has b) := by
 unfold Zp.has; rw [Zo3 _ _ _ aa, BitVec.getLsbD_or]
theorem Ze5 (b : Nat) : Zp.zero.has b = false := by
 unfold Zp.has Zp.zero Zp.word;split <;> simp
theorem Zl2 (x : BitVec 64) : bits .xor .u64 (if IntKind.u64.signed = true then -1 else IntKind.u64.max) (x.toNat : Int) = ((~~~ x).toNat : Int) := by
 have hx := x.isLt;have h1 : (if IntKind.u64.signed = true then (-1 : Int) else IntKind.u64.max) = ((BitVec.allOnes 64).toNat : Int) := by rfl
 rw [h1, u64_xor_nat _ _ (BitVec.isLt _) hx, ← BitVec.toNat_xor];rw [BitVec.allOnes_xor]
theorem Zdb (B : Nat) (w : World) (u0 u1 u2 u3 : Value) : Za (fun k => k = B) w ((((w.setCell ⟨B, 0, none⟩ u0).setCell ⟨B, 1, none⟩ u1).setCell ⟨B, 2, none⟩ u2).setCell ⟨B, 3, none⟩ u3) :=
 (((Za.setCell (fun k => k = B) w ⟨B, 0, none⟩ u0 rfl).trans (Za.setCell (fun k => k = B) _ ⟨B, 1, none⟩ u1 rfl) (fun _ => .inl)).trans (Za.setCell (fun k => k = B) _ ⟨B, 2, none⟩ u2 rfl) (fun _ => .inl)).trans (Za.setCell (fun k => k = B) _ ⟨B, 3, none⟩ u3 rfl) (fun _ => .inl)
theorem Zon (s : Zp) (b : Nat) (hb : b < 256) (w : World) :
  Calls Tryz.prog 245 #[s.val, .int .u8 (b : Int)] w fun e w' => e = .returned (Zbh s b).val ∧ Below w.heap.size w w' := by
 obtain ⟨j, hj⟩ := nE (b % 64);have hj64 : j < 64 := aa
 have hm : (b : Int) % 64 = (j : Int) := aa
 have HO : Hid (∀ o1 o2, Below w.heap.size w ((w.alloc o1).alloc o2)) := fun o1 o2 => ((Below.refl _ _).alloc (Nat.le_refl _) _).alloc ah _;have ko := Zr9 j hj64;obtain ⟨s0, s1, s2, s3⟩ := s;have h4 : b / 64 < 4 := aa
 obtain ⟨i, hi⟩ := nE (b / 64);have HM : Hid ((Zbh ⟨s0, s1, s2, s3⟩ b) = Zp.put ⟨s0, s1, s2, s3⟩ i ((Zp.word ⟨s0, s1, s2, s3⟩ i) ||| Mq j)) := by rw [Hid, Zbh, hi, hj]
 rw [HM.out];rw [hi] at h4
 match i, h4 with
 | 0, _ =>
  have hq : (b : Int) / 64 = 0 := aa
  have kr := Zh8 s0 (Mq j);clear hi hj HM h4;show Calls _ _ _ _ fun e w' => e = .returned (.agg #[w64 (s0 ||| Mq j), w64 s1, w64 s2, w64 s3]) ∧ _;unfold Zp.val;go_enter Tryz.func245, Tryz.ntmps245;go_wp2_with fail;exact bodyPost_ret (v := .agg #[w64 (s0 ||| Mq j), w64 s1, w64 s2, w64 s3]) eh rfl ⟨rfl, HO.out _ _⟩
 | 1, _ =>
  have hq : (b : Int) / 64 = 1 := aa
  have kr := Zh8 s1 (Mq j);clear hi hj HM h4;show Calls _ _ _ _ fun e w' => e = .returned (.agg #[w64 s0, w64 (s1 ||| Mq j), w64 s2, w64 s3]) ∧ _;unfold Zp.val;go_enter Tryz.func245, Tryz.ntmps245;go_wp2_with fail;exact bodyPost_ret (v := .agg #[w64 s0, w64 (s1 ||| Mq j), w64 s2, w64 s3]) eh rfl ⟨rfl, HO.out _ _⟩
 | 2, _ =>
  have hq : (b : Int) / 64 = 2 := aa
  have kr := Zh8 s2 (Mq j);clear hi hj HM h4;show Calls _ _ _ _ fun e w' => e = .returned (.agg #[w64 s0, w64 s1, w64 (s2 ||| Mq j), w64 s3]) ∧ _;unfold Zp.val;go_enter Tryz.func245, Tryz.ntmps245;go_wp2_with fail;exact bodyPost_ret (v := .agg #[w64 s0, w64 s1, w64 (s2 ||| Mq j), w64 s3]) eh rfl ⟨rfl, HO.out _ _⟩
 | 3, _ =>
  have hq : (b : Int) / 64 = 3 := aa
  have kr := Zh8 s3 (Mq j);clear hi hj HM h4;show Calls _ _ _ _ fun e w' => e = .returned (.agg #[w64 s0, w64 s1, w64 s2, w64 (s3 ||| Mq j)]) ∧ _;unfold Zp.val;go_enter Tryz.func245, Tryz.ntmps245;go_wp2_with fail;exact bodyPost_ret (v := .agg #[w64 s0, w64 s1, w64 s2, w64 (s3 ||| Mq j)]) eh rfl ⟨rfl, HO.out _ _⟩
def Nb (s z : Zp) : Nat → Array Value
 | 0 => #[w64 s.w0, w64 s.w1, w64 s.w2, w64 s.w3]
 | 1 => #[w64 z.w0, w64 s.w1, w64 s.w2, w64 s.w3]
 | 2 => #[w64 z.w0, w64 z.w1, w64 s.w2, w64 s.w3]
 | 3 => #[w64 z.w0, w64 z.w1, w64 z.w2, w64 s.w3]
 | _ => #[w64 z.w0, w64 z.w1, w64 z.w2, w64 z.w3]
theorem Zk7 (s : Zp) (w : World) :
  Calls Tryz.prog 250 #[s.val] w fun e w' => e = .returned (Zbd s).val ∧ Below w.heap.size w w' := by
 obtain ⟨z, hz⟩ := nE (Zbd s);rw [hz];have k0 := Zl2 s.w0;have k1 := Zl2 s.w1;have k2 := Zl2 s.w2;have k3 := Zl2 s.w3;rw [show ~~~ s.w0 = z.w0 from et] at k0;rw [show ~~~ s.w1 = z.w1 from et] at k1;rw [show ~~~ s.w2 = z.w2 from et] at k2;rw [show ~~~ s.w3 = z.w3 from et] at k3;clear hz;obtain ⟨s0, s1, s2, s3⟩ := s;obtain ⟨z0, z1, z2, z3⟩ := z;simp only at k0 k1 k2 k3;unfold Zp.val;go_enter Tryz.func250, Tryz.ntmps250;go_wp2_with fail
 go_loopw [4] (fun i wr => ∃ (k : Nat), k ≤ 4 ∧ i = .int .i64 k ∧ Blk wr w.heap.size 249 (Nb ⟨s0, s1, s2, s3⟩ ⟨z0, z1, z2, z3⟩ k) ∧ Blk wr (w.heap.size + 1) 249 zf ∧ Below w.heap.size w wr) (fun i _ => 4 - (intOf i).toNat)
 case atStart => exact ⟨0, aa, rfl, (Blk.new w 249 #[w64 s0, w64 s1, w64 s2, w64 s3]).alloc _, by have := Blk.new (w.alloc (.cells #[w64 s0, w64 s1, w64 s2, w64 s3] 249)) 249 #[.int .u64 0, .int .u64 0, .int .u64 0, .int .u64 0]; rwa [World.size_alloc] at this, ((Below.refl _ _).alloc (Nat.le_refl _) _).alloc ah _⟩
 case round =>
  obtain ⟨k, hk, rfl, hb, hb2, hbl⟩ := hrel;have HBL := hid hbl;have HB2 := hid hb2
  match k, hk with
  | 0, _ =>
   have c0 := cA hb 0 (w64 s0) rfl;have f0 := hb.frozen 0;have HN : Hid (Blk (wr.setCell ⟨w.heap.size, 0, none⟩ (w64 z0)) w.heap.size 249 (Nb ⟨s0, s1, s2, s3⟩ ⟨z0, z1, z2, z3⟩ 1)) := hb.set 0 (w64 z0);have HZ := hid (HB2.set_far (g' := w.heap.size) (i := 0) (u := w64 z0) aa);clear hb hb2 hbl;go_wp2_with fail;go_roundw
   case rel => exact ⟨1, aa, rfl, HN.out, HZ.out, HBL.setCell (Nat.le_refl _) _⟩
   case measure => simp [intOf]
  | 1, _ =>
   have c0 := cA hb 1 (w64 s1) rfl;have f0 := hb.frozen 1;have HN : Hid (Blk (wr.setCell ⟨w.heap.size, 1, none⟩ (w64 z1)) w.heap.size 249 (Nb ⟨s0, s1, s2, s3⟩ ⟨z0, z1, z2, z3⟩ 2)) := hb.set 1 (w64 z1);have HZ := hid (HB2.set_far (g' := w.heap.size) (i := 1) (u := w64 z1) aa);clear hb hb2 hbl;go_wp2_with fail;go_roundw
   case rel => exact ⟨2, aa, rfl, HN.out, HZ.out, HBL.setCell (Nat.le_refl _) _⟩
   case measure => simp [intOf]
  | 2, _ =>
   have c0 := cA hb 2 (w64 s2) rfl;have f0 := hb.frozen 2;have HN : Hid (Blk (wr.setCell ⟨w.heap.size, 2, none⟩ (w64 z2)) w.heap.size 249 (Nb ⟨s0, s1, s2, s3⟩ ⟨z0, z1, z2, z3⟩ 3)) := hb.set 2 (w64 z2);have HZ := hid (HB2.set_far (g' := w.heap.size) (i := 2) (u := w64 z2) aa);clear hb hb2 hbl;go_wp2_with fail;go_roundw
   case rel => exact ⟨3, aa, rfl, HN.out, HZ.out, HBL.setCell (Nat.le_refl _) _⟩
   case measure => simp [intOf]
  | 3, _ =>
   have c0 := cA hb 3 (w64 s3) rfl;have f0 := hb.frozen 3;have HN : Hid (Blk (wr.setCell ⟨w.heap.size, 3, none⟩ (w64 z3)) w.heap.size 249 (Nb ⟨s0, s1, s2, s3⟩ ⟨z0, z1, z2, z3⟩ 4)) := hb.set 3 (w64 z3);have HZ := hid (HB2.set_far (g' := w.heap.size) (i := 3) (u := w64 z3) aa);clear hb hb2 hbl;go_wp2_with fail;go_roundw
   case rel => exact ⟨4, aa, rfl, HN.out, HZ.out, HBL.setCell (Nat.le_refl _) _⟩
   case measure => simp [intOf]
  | 4, _ =>
   have c0 := cA hb 0 (w64 z0) rfl;have d0 : wr.cell? ⟨w.heap.size + 1, 0, none⟩ = some (.int .u64 0) := hb2.cell 0;have f0 := hb2.frozen 0;have e0 : ((((wr.setCell ⟨w.heap.size + 1, 0, none⟩ (w64 z0)).setCell ⟨w.heap.size + 1, 1, none⟩ (w64 z1)).setCell ⟨w.heap.size + 1, 2, none⟩ (w64 z2)).setCell ⟨w.heap.size + 1, 3, none⟩ (w64 z3)).cell? ⟨w.heap.size + 1, 0, none⟩ = some (w64 z0) := (((((hb2.set 0 (w64 z0)).set 1 (w64 z1)).set 2 (w64 z2)).set 3 (w64 z3)).cell 0);have c1 := cA hb 1 (w64 z1) rfl;have d1 : wr.cell? ⟨w.heap.size + 1, 1, none⟩ = some (.int .u64 0) := hb2.cell 1;have f1 := hb2.frozen 1;have e1 : ((((wr.setCell ⟨w.heap.size + 1, 0, none⟩ (w64 z0)).setCell ⟨w.heap.size + 1, 1, none⟩ (w64 z1)).setCell ⟨w.heap.size + 1, 2, none⟩ (w64 z2)).setCell ⟨w.heap.size + 1, 3, none⟩ (w64 z3)).cell? ⟨w.heap.size + 1, 1, none⟩ = some (w64 z1) := (((((hb2.set 0 (w64 z0)).set 1 (w64 z1)).set 2 (w64 z2)).set 3 (w64 z3)).cell 1);have c2 := cA hb 2 (w64 z2) rfl;have d2 : wr.cell? ⟨w.heap.size + 1, 2, none⟩ = some (.int .u64 0) := hb2.cell 2;have f2 := hb2.frozen 2;have e2 : ((((wr.setCell ⟨w.heap.size + 1, 0, none⟩ (w64 z0)).setCell ⟨w.heap.size + 1, 1, none⟩ (w64 z1)).setCell ⟨w.heap.size + 1, 2, none⟩ (w64 z2)).setCell ⟨w.heap.size + 1, 3, none⟩ (w64 z3)).cell? ⟨w.heap.size + 1, 2, none⟩ = some (w64 z2) := (((((hb2.set 0 (w64 z0)).set 1 (w64 z1)).set 2 (w64 z2)).set 3 (w64 z3)).cell 2);have c3 := cA hb 3 (w64 z3) rfl;have d3 : wr.cell? ⟨w.heap.size + 1, 3, none⟩ = some (.int .u64 0) := hb2.cell 3;have f3 := hb2.frozen 3;have e3 : ((((wr.setCell ⟨w.heap.size + 1, 0, none⟩ (w64 z0)).setCell ⟨w.heap.size + 1, 1, none⟩ (w64 z1)).setCell ⟨w.heap.size + 1, 2, none⟩ (w64 z2)).setCell ⟨w.heap.size + 1, 3, none⟩ (w64 z3)).cell? ⟨w.heap.size + 1, 3, none⟩ = some (w64 z3) := (((((hb2.set 0 (w64 z0)).set 1 (w64 z1)).set 2 (w64 z2)).set 3 (w64 z3)).cell 3);have HK : Hid (∀ u0 u1 u2 u3, Below w.heap.size w ((((wr.setCell ⟨w.heap.size + 1, 0, none⟩ u0).setCell ⟨w.heap.size + 1, 1, none⟩ u1).setCell ⟨w.heap.size + 1, 2, none⟩ u2).setCell ⟨w.heap.size + 1, 3, none⟩ u3)) := fun u0 u1 u2 u3 => (((HBL.setCell dq _).setCell dq _).setCell dq _).setCell dq _;clear hb hb2 hbl;go_wp2_with fail;exact bodyPost_ret (v := .agg #[w64 z0, w64 z1, w64 z2, w64 z3]) (by simp [results, Tryz.results250, go_sem, e0, e1, e2, e3]) rfl ⟨rfl, HK.out _ _ _ _⟩
theorem Zk3 (s t : Zp) (w : World) :
  Calls Tryz.prog 249 #[s.val, t.val] w fun e w' => e = .returned (orM s t).val ∧ Below w.heap.size w w' := by
 obtain ⟨z, hz⟩ := nE (orM s t);rw [hz];have k0 := Zh8 s.w0 t.w0;have k1 := Zh8 s.w1 t.w1;have k2 := Zh8 s.w2 t.w2;have k3 := Zh8 s.w3 t.w3;rw [show s.w0 ||| t.w0 = z.w0 from et] at k0;rw [show s.w1 ||| t.w1 = z.w1 from et] at k1;rw [show s.w2 ||| t.w2 = z.w2 from et] at k2;rw [show s.w3 ||| t.w3 = z.w3 from et] at k3;clear hz;obtain ⟨s0, s1, s2, s3⟩ := s;obtain ⟨t0, t1, t2, t3⟩ := t;obtain ⟨z0, z1, z2, z3⟩ := z;simp only at k0 k1 k2 k3;unfold Zp.val;go_enter Tryz.func249, Tryz.ntmps249;go_wp2_with fail
 go_loopw [6] (fun i wr => ∃ (k : Nat), k ≤ 4 ∧ i = .int .i64 k ∧ Blk wr w.heap.size 249 (Nb ⟨s0, s1, s2, s3⟩ ⟨z0, z1, z2, z3⟩ k) ∧ Blk wr (w.heap.size + 1) 249 #[w64 t0, w64 t1, w64 t2, w64 t3] ∧ Blk wr (w.heap.size + 1 + 1) 249 zf ∧ Below w.heap.size w wr) (fun i _ => 4 - (intOf i).toNat)
 case atStart => exact ⟨0, aa, rfl, ((Blk.new w 249 #[w64 s0, w64 s1, w64 s2, w64 s3]).alloc _).alloc _, by have := (Blk.new (w.alloc (.cells #[w64 s0, w64 s1, w64 s2, w64 s3] 249)) 249 #[w64 t0, w64 t1, w64 t2, w64 t3]).alloc (.cells zf 249); rwa [World.size_alloc] at this, by have := Blk.new ((w.alloc (.cells #[w64 s0, w64 s1, w64 s2, w64 s3] 249)).alloc (.cells #[w64 t0, w64 t1, w64 t2, w64 t3] 249)) 249 #[.int .u64 0, .int .u64 0, .int .u64 0, .int .u64 0]; rwa [World.size_alloc, World.size_alloc] at this, (((Below.refl _ _).alloc (Nat.le_refl _) _).alloc ah _).alloc af _⟩
 case round =>
  obtain ⟨k, hk, rfl, hb, ht, hb2, hbl⟩ := hrel;have HBL := hid hbl;have HB2 := hid hb2;have HT := hid ht
  match k, hk with
  | 0, _ =>
   have c0 := cA hb 0 (w64 s0) rfl;have f0 := hb.frozen 0;have c1 : wr.cell? ⟨w.heap.size + 1, 0, none⟩ = some (w64 t0) := ht.cell 0;have HN : Hid (Blk (wr.setCell ⟨w.heap.size, 0, none⟩ (w64 z0)) w.heap.size 249 (Nb ⟨s0, s1, s2, s3⟩ ⟨z0, z1, z2, z3⟩ 1)) := hb.set 0 (w64 z0);have HZ := hid (HB2.set_far (g' := w.heap.size) (i := 0) (u := w64 z0) aa);have HT2 := hid (HT.set_far (g' := w.heap.size) (i := 0) (u := w64 z0) aa);clear hb hb2 hbl ht;go_wp2_with fail;refine Jj 8 ab ab ?_;simp only [List.take_succ_cons, List.take_zero, List.drop_succ_cons, List.drop_zero]
   repeat still_step
   refine wpStill_nil ?_;go_wp2_with fail;go_roundw
   case rel => exact ⟨1, aa, rfl, HN.out, HT2.out, HZ.out, (HBL.setCell (Nat.le_refl _) _).trans ((Zq _ 1).mono fp)⟩
   case measure => simp [intOf]
  | 1, _ =>
   have c0 := cA hb 1 (w64 s1) rfl;have f0 := hb.frozen 1;have c1 : wr.cell? ⟨w.heap.size + 1, 1, none⟩ = some (w64 t1) := ht.cell 1;have HN : Hid (Blk (wr.setCell ⟨w.heap.size, 1, none⟩ (w64 z1)) w.heap.size 249 (Nb ⟨s0, s1, s2, s3⟩ ⟨z0, z1, z2, z3⟩ 2)) := hb.set 1 (w64 z1);have HZ := hid (HB2.set_far (g' := w.heap.size) (i := 1) (u := w64 z1) aa);have HT2 := hid (HT.set_far (g' := w.heap.size) (i := 1) (u := w64 z1) aa);clear hb hb2 hbl ht;go_wp2_with fail;refine Jj 8 ab ab ?_;simp only [List.take_succ_cons, List.take_zero, List.drop_succ_cons, List.drop_zero]
   repeat still_step
   refine wpStill_nil ?_;go_wp2_with fail;go_roundw
   case rel => exact ⟨2, aa, rfl, HN.out, HT2.out, HZ.out, (HBL.setCell (Nat.le_refl _) _).trans ((Zq _ 1).mono fp)⟩
   case measure => simp [intOf]
  | 2, _ =>
   have c0 := cA hb 2 (w64 s2) rfl;have f0 := hb.frozen 2;have c1 : wr.cell? ⟨w.heap.size + 1, 2, none⟩ = some (w64 t2) := ht.cell 2;have HN : Hid (Blk (wr.setCell ⟨w.heap.size, 2, none⟩ (w64 z2)) w.heap.size 249 (Nb ⟨s0, s1, s2, s3⟩ ⟨z0, z1, z2, z3⟩ 3)) := hb.set 2 (w64 z2);have HZ := hid (HB2.set_far (g' := w.heap.size) (i := 2) (u := w64 z2) aa);have HT2 := hid (HT.set_far (g' := w.heap.size) (i := 2) (u := w64 z2) aa);clear hb hb2 hbl ht;go_wp2_with fail;refine Jj 8 ab ab ?_;simp only [List.take_succ_cons, List.take_zero, List.drop_succ_cons, List.drop_zero]
   repeat still_step
   refine wpStill_nil ?_;go_wp2_with fail;go_roundw
   case rel => exact ⟨3, aa, rfl, HN.out, HT2.out, HZ.out, (HBL.setCell (Nat.le_refl _) _).trans ((Zq _ 1).mono fp)⟩
   case measure => simp [intOf]
  | 3, _ =>
   have c0 := cA hb 3 (w64 s3) rfl;have f0 := hb.frozen 3;have c1 : wr.cell? ⟨w.heap.size + 1, 3, none⟩ = some (w64 t3) := ht.cell 3;have HN : Hid (Blk (wr.setCell ⟨w.heap.size, 3, none⟩ (w64 z3)) w.heap.size 249 (Nb ⟨s0, s1, s2, s3⟩ ⟨z0, z1, z2, z3⟩ 4)) := hb.set 3 (w64 z3);have HZ := hid (HB2.set_far (g' := w.heap.size) (i := 3) (u := w64 z3) aa);have HT2 := hid (HT.set_far (g' := w.heap.size) (i := 3) (u := w64 z3) aa);clear hb hb2 hbl ht;go_wp2_with fail;refine Jj 8 ab ab ?_;simp only [List.take_succ_cons, List.take_zero, List.drop_succ_cons, List.drop_zero]
   repeat still_step
   refine wpStill_nil ?_;go_wp2_with fail;go_roundw
   case rel => exact ⟨4, aa, rfl, HN.out, HT2.out, HZ.out, (HBL.setCell (Nat.le_refl _) _).trans ((Zq _ 1).mono fp)⟩
   case measure => simp [intOf]
  | 4, _ =>
   have c0 := cA hb 0 (w64 z0) rfl;have d0 : wr.cell? ⟨w.heap.size + 1 + 1, 0, none⟩ = some (.int .u64 0) := hb2.cell 0;have f0 := hb2.frozen 0;have e0 : ((((wr.setCell ⟨w.heap.size + 1 + 1, 0, none⟩ (w64 z0)).setCell ⟨w.heap.size + 1 + 1, 1, none⟩ (w64 z1)).setCell ⟨w.heap.size + 1 + 1, 2, none⟩ (w64 z2)).setCell ⟨w.heap.size + 1 + 1, 3, none⟩ (w64 z3)).cell? ⟨w.heap.size + 1 + 1, 0, none⟩ = some (w64 z0) := (((((hb2.set 0 (w64 z0)).set 1 (w64 z1)).set 2 (w64 z2)).set 3 (w64 z3)).cell 0);have c1 := cA hb 1 (w64 z1) rfl;have d1 : wr.cell? ⟨w.heap.size + 1 + 1, 1, none⟩ = some (.int .u64 0) := hb2.cell 1;have f1 := hb2.frozen 1;have e1 : ((((wr.setCell ⟨w.heap.size + 1 + 1, 0, none⟩ (w64 z0)).setCell ⟨w.heap.size + 1 + 1, 1, none⟩ (w64 z1)).setCell ⟨w.heap.size + 1 + 1, 2, none⟩ (w64 z2)).setCell ⟨w.heap.size + 1 + 1, 3, none⟩ (w64 z3)).cell? ⟨w.heap.size + 1 + 1, 1, none⟩ = some (w64 z1) := (((((hb2.set 0 (w64 z0)).set 1 (w64 z1)).set 2 (w64 z2)).set 3 (w64 z3)).cell 1);have c2 := cA hb 2 (w64 z2) rfl;have d2 : wr.cell? ⟨w.heap.size + 1 + 1, 2, none⟩ = some (.int .u64 0) := hb2.cell 2;have f2 := hb2.frozen 2;have e2 : ((((wr.setCell ⟨w.heap.size + 1 + 1, 0, none⟩ (w64 z0)).setCell ⟨w.heap.size + 1 + 1, 1, none⟩ (w64 z1)).setCell ⟨w.heap.size + 1 + 1, 2, none⟩ (w64 z2)).setCell ⟨w.heap.size + 1 + 1, 3, none⟩ (w64 z3)).cell? ⟨w.heap.size + 1 + 1, 2, none⟩ = some (w64 z2) := (((((hb2.set 0 (w64 z0)).set 1 (w64 z1)).set 2 (w64 z2)).set 3 (w64 z3)).cell 2);have c3 := cA hb 3 (w64 z3) rfl;have d3 : wr.cell? ⟨w.heap.size + 1 + 1, 3, none⟩ = some (.int .u64 0) := hb2.cell 3;have f3 := hb2.frozen 3;have e3 : ((((wr.setCell ⟨w.heap.size + 1 + 1, 0, none⟩ (w64 z0)).setCell ⟨w.heap.size + 1 + 1, 1, none⟩ (w64 z1)).setCell ⟨w.heap.size + 1 + 1, 2, none⟩ (w64 z2)).setCell ⟨w.heap.size + 1 + 1, 3, none⟩ (w64 z3)).cell? ⟨w.heap.size + 1 + 1, 3, none⟩ = some (w64 z3) := (((((hb2.set 0 (w64 z0)).set 1 (w64 z1)).set 2 (w64 z2)).set 3 (w64 z3)).cell 3);have HK : Hid (∀ u0 u1 u2 u3, Below w.heap.size w ((((wr.setCell ⟨w.heap.size + 1 + 1, 0, none⟩ u0).setCell ⟨w.heap.size + 1 + 1, 1, none⟩ u1).setCell ⟨w.heap.size + 1 + 1, 2, none⟩ u2).setCell ⟨w.heap.size + 1 + 1, 3, none⟩ u3)) := fun u0 u1 u2 u3 => (((HBL.setCell dq _).setCell dq _).setCell dq _).setCell dq _;clear hb hb2 hbl ht;go_wp2_with fail;exact bodyPost_ret (v := .agg #[w64 z0, w64 z1, w64 z2, w64 z3]) (by simp [results, Tryz.results249, go_sem, e0, e1, e2, e3]) rfl ⟨rfl, HK.out _ _ _ _⟩
open PopT
def Zt (a : Nat) : Nat → Zp
 | 0 => Zp.zero
 | k + 1 => Zbh (Zt a k) (a + k)
theorem Zlg (a k c : Nat) (h : a + k ≤ 256) (hc : c < 256) : (Zt a k).has c = decide (a ≤ c ∧ c < a + k) := by
 induction k with
 | zero => rw [Zt, Ze5]; symm; rw [decide_eq_false_iff_not]; omega
 | succ k ih =>
  rw [Zt, Zcj _ _ _ aa hc, ih aa, Bool.eq_iff_iff];simp; omega
theorem Xn {W : World} {g : Nat} {t : TypeId} {a0 a1 a2 a3 b0 b1 b2 b3 : Value} (h : Blk W g t #[a0, a1, a2, a3]) : Blk ((((W.setCell ⟨g, 0, none⟩ b0).setCell ⟨g, 1, none⟩ b1).setCell ⟨g, 2, none⟩ b2).setCell ⟨g, 3, none⟩ b3) g t #[b0, b1, b2, b3] :=
 (((h.set 0 b0).set 1 b1).set 2 b2).set 3 b3
theorem Un {W : World} {g g' : Nat} {t : TypeId} {cs : Array Value} {b0 b1 b2 b3 : Value} (h : Blk W g t cs) (hne : g ≠ g') : Blk ((((W.setCell ⟨g', 0, none⟩ b0).setCell ⟨g', 1, none⟩ b1).setCell ⟨g', 2, none⟩ b2).setCell ⟨g', 3, none⟩ b3) g t cs :=
 (((h.set_far hne).set_far hne).set_far hne).set_far hne
theorem Xt {B : Nat} {w W : World} {g : Nat} (h : Below B w W) (hg : B ≤ g) (b0 b1 b2 b3 : Value) : Below B w ((((W.setCell ⟨g, 0, none⟩ b0).setCell ⟨g, 1, none⟩ b1).setCell ⟨g, 2, none⟩ b2).setCell ⟨g, 3, none⟩ b3) :=
 (((h.setCell hg _).setCell hg _).setCell hg _).setCell hg _
theorem Wi {W : World} {g : Nat} {t : TypeId} {a0 a1 a2 a3 : Value} (h : Blk W g t #[a0, a1, a2, a3]) : W.cell? ⟨g, 0, none⟩ = some a0 ∧ W.cell? ⟨g, 1, none⟩ = some a1 ∧ W.cell? ⟨g, 2, none⟩ = some a2 ∧ W.cell? ⟨g, 3, none⟩ = some a3 ∧
  W.frozen? ⟨g, 0, none⟩ = false ∧ W.frozen? ⟨g, 1, none⟩ = false ∧ W.frozen? ⟨g, 2, none⟩ = false ∧ W.frozen? ⟨g, 3, none⟩ = false :=
 ⟨h.cell 0, h.cell 1, h.cell 2, h.cell 3, h.frozen 0, h.frozen 1, h.frozen 2, h.frozen 3⟩
theorem Nk (a b : Nat) (ha : a < 256) (hb : b < 256) (w : World) :
  Calls Tryz.prog 240 #[.int .u8 (a : Int), .int .u8 (b : Int)] w fun e w' => e = .returned (Zt a (b + 1 - a)).val ∧ Below w.heap.size w w' := by
 obtain ⟨K, hK⟩ := nE (b + 1 - a);rw [hK];obtain ⟨t, ht⟩ := nE (Zt a K);rw [ht];obtain ⟨r0, r1, r2, r3⟩ := t;have HFIN := hid ht;unfold Zp.val;clear ht;go_enter Tryz.func240, Tryz.ntmps240;go_wp2_with fail
 go_loopw [6] (fun i wr => ∃ (k n : Nat), k ≤ K ∧ n = a + k ∧ i = .int .i64 (n : Int) ∧ Blk wr (w.heap.size + 1) 249 #[w64 (Zt a k).w0, w64 (Zt a k).w1, w64 (Zt a k).w2, w64 (Zt a k).w3] ∧
   Blk wr w.heap.size 249 zf ∧ Below w.heap.size w wr) (fun i _ => 300 - (intOf i).toNat)
 case atStart => exact ⟨0, a, aa, aa, rfl, by have := Blk.new (w.alloc (.cells zf 249)) 249 #[.int .u64 0, .int .u64 0, .int .u64 0, .int .u64 0]; rwa [World.size_alloc] at this, (Blk.new w _ _).alloc _, ((Below.refl _ _).alloc (Nat.le_refl _) _).alloc ah _⟩
 case round =>
  obtain ⟨k, n, hk, hn, rfl, h1, h0, hbl⟩ := hrel;have H1 := hid h1; have H0 := hid h0; have HB := hid hbl;clear h1 h0 hbl;by_cases hlt : n ≤ b
  ·have hn256 : n < 256 := by omega
   have HST : Hid (Zt a (k + 1) = Zbh (Zt a k) n) := by rw [Hid, hn]; rfl
   obtain ⟨c0, c1, c2, c3, f0, f1, f2, f3⟩ := Wi H1.out;obtain ⟨s, hs⟩ := nE (Zt a k);rw [hs] at c0 c1 c2 c3 HST;have HW := hid (Zon s n hn256 wr);obtain ⟨t, ht⟩ := nE (Zbh s n);rw [ht] at HW HST;unfold Zp.val at HW;have HN := hid hn;have hkK : k < K := aa
   obtain ⟨s0, s1, s2, s3⟩ := s;obtain ⟨t0, t1, t2, t3⟩ := t;clear hs ht hn;go_wp2_with fail;refine HW.mono ?_;rintro e w2 ⟨rfl, hb2⟩;have H1b := bb H1 hb2;have H0b := bb H0 hb2;have HB2 := bt HB hb2;obtain ⟨d0, d1, d2, d3, g0, g1, g2, g3⟩ := Wi H1b.out;have HP := hid (Xn (b0 := w64 t0) (b1 := w64 t1) (b2 := w64 t2) (b3 := w64 t3) H1b.out);have HQ := hid (Un (g' := w.heap.size + 1) (b0 := w64 t0) (b1 := w64 t1) (b2 := w64 t2) (b3 := w64 t3) H0b.out aa);have HR := hid (Xt (g := w.heap.size + 1) HB2.out aa (w64 t0) (w64 t1) (w64 t2) (w64 t3));clear hb2 HW c0 c1 c2 c3 f0 f1 f2 f3 H1b H0b HB2;go_wp2_with fail;go_roundw
   case rel => exact ⟨k + 1, n + 1, aa, lg, aw, by rw [HST.out]; exact HP.out, HQ.out, HR.out⟩
   case measure => simp [intOf]; omega
  ·obtain rfl : K = k := by omega
   rw [HFIN.out] at H1;simp only at H1;obtain ⟨c0, c1, c2, c3, f0, f1, f2, f3⟩ := Wi H1.out;obtain ⟨d0, d1, d2, d3, g0, g1, g2, g3⟩ := Wi H0.out;have HP := hid (Xn (b0 := w64 r0) (b1 := w64 r1) (b2 := w64 r2) (b3 := w64 r3) H0.out);obtain ⟨e0, e1, e2, e3, -, -, -, -⟩ := Wi HP.out;have HR := hid (Xt (g := w.heap.size) HB.out (Nat.le_refl _) (w64 r0) (w64 r1) (w64 r2) (w64 r3));clear hn;go_wp2_with fail;exact bodyPost_ret (v := .agg #[w64 r0, w64 r1, w64 r2, w64 r3]) (by simp [results, Tryz.results240, go_sem, e0, e1, e2, e3]) rfl ⟨rfl, HR.out⟩
theorem Zgh (a : Nat) (b : Nat) (ha : a < 256) (hb : b < 256) (w : World) :
  Calls Tryz.prog 228 #[.int .u8 (a : Int), .int .u8 (b : Int)] w fun e w' => e = .returned (Zt a (b + 1 - a)).val ∧ Below w.heap.size w w' := by
 have HC := hid (fun W => Nk a b ha hb W);obtain ⟨z, hz⟩ := nE (Zt a (b + 1 - a));simp only [hz] at HC ⊢;obtain ⟨z0, z1, z2, z3⟩ := z;unfold Zp.val at *;clear hz
 have H00 : Hid (Blk (w.alloc (.cells zf 249)) (w.heap.size) 249 #[.int .u64 0, .int .u64 0, .int .u64 0, .int .u64 0]) := by
  have := Blk.new w 249 #[.int .u64 0, .int .u64 0, .int .u64 0, .int .u64 0]
  first | exact this | (simp only [World.size_alloc] at this; exact this)
 have HB0 : Hid (Below w.heap.size w (w.alloc (.cells zf 249))) := (Below.refl w.heap.size w).alloc dq _;go_enter Tryz.func228, Tryz.ntmps228;go_wp2_with fail;refine (HC.out _).mono ?_;rintro e w2 ⟨rfl, hb2⟩;have H0 := H00.below hb2 H00.lt;obtain ⟨d0, d1, d2, d3, g0, g1, g2, g3⟩ := Wi H0;obtain ⟨e0, e1, e2, e3, -, -, -, -⟩ := Wi (Xn (b0 := w64 z0) (b1 := w64 z1) (b2 := w64 z2) (b3 := w64 z3) H0);have HR := hid (Xt (g := w.heap.size) (HB0.trans (hb2.mono HB0.size)) aa (w64 z0) (w64 z1) (w64 z2) (w64 z3));clear hb2 H0 HC;go_wp2_with fail;exact bodyPost_ret (v := .agg #[w64 z0, w64 z1, w64 z2, w64 z3]) (by simp [results, Tryz.results228, go_sem, e0, e1, e2, e3]) rfl ⟨rfl, HR.out⟩
theorem Qj : (Tryz.prog.info? 5).map (fun i => (i.zero, i.size, i.bytes)) = some (some (.int .u8 0), 1, 1) := by kernel_rfl
theorem Zep (s : ByteArray) (m : Nat) (w : World) (_hs : s.size ≤ 9223372036854775807) (_hm : m ≤ 1000000) :
  Calls Tryz.prog 62 #[s, m] w fun e w' => e = .returned (.string (if m < s.size then s.extract 0 m else s)) ∧ w = w' := by
 by_cases h : m < s.size
 ·go_enter Tryz.func62, Tryz.ntmps62
  go_wp2
  go_ret;exact ⟨rfl, rfl⟩
 ·go_enter Tryz.func62, Tryz.ntmps62
  go_wp2
  go_ret;exact ⟨rfl, rfl⟩
theorem N64{P:Prop}(h:P:=by
 rw [cell_of_row _ w.heap.size (b / 64) _ _ (0, 0) (heap_alloc_new w _)];have h4 : b / 64 < 4 := aa
 generalize b / 64 = k at h4
 match k, h4 with
 | 0, _ => rfl
 | 1, _ => rfl
 | 2, _ => rfl
 | 3, _ => rfl):P:=h
theorem Zq0 (s : Zp) (b : Nat) (hb : b < 256) (w : World) :
  Calls Tryz.prog 234 #[s.val, .int .u8 (b : Int)] w fun e w' => e = .returned (.bool (s.has b)) ∧ Below w.heap.size w w' := by
 have hcell : (w.alloc (.cells #[w64 s.w0, w64 s.w1, w64 s.w2, w64 s.w3] 249)).cell? ⟨w.heap.size, b / 64, none⟩ = some (.int .u64 ((s.word (b / 64)).toNat : Int)) := by
  exact N64
 have hw := (s.word (b / 64)).isLt;unfold Zp.val Zp.has;generalize s.word (b / 64) = x at *;go_enter Tryz.func234, Tryz.ntmps234
 go_wp2
 go_ret;exact ⟨by rw [← Zoj]; rfl, (Below.refl _ _).alloc (Nat.le_refl _) _⟩
theorem Zpo (s : Zp) (b : Nat) (hb : b < 256) (w : World) :
  Calls Tryz.prog 222 #[s.val, .int .u8 (b : Int)] w fun e w' => e = .returned (.bool (s.has b)) ∧ Below w.heap.size w w' := by
 unfold Zp.val;go_enter Tryz.func222, Tryz.ntmps222;go_wp2_with (go_at_call 234; refine (Zq0 s b hb _).mono ?_; rintro e w1 ⟨rfl, hb1⟩);go_ret;exact ⟨rfl, ((Below.refl _ _).alloc (Nat.le_refl _) _).trans (hb1.mono ah)⟩
end Go.Proofs.YtpkkfdmhbbipoaaGreat
