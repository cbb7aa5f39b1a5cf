/- Walks. Walks: the reference's sets. Walks: the reference's sets, made of flags. Walks: the reference's set of some bytes; 'lives' of layer 8. Walks: the reference's bytes of a set; which patterns match nothing; the least length. Walks: the reference's Span. Walks: the reference's Not. Walks: the reference's Both. -/
import Derived.Test.YtpkkfdmhbbipoaaGreatRows
import Derived.Test.YtpkkfdmhbbipoaaGreatMa
import Derived.Test.YtpkkfdmhbbipoaaGreatMb
namespace Go.Proofs.YtpkkfdmhbbipoaaGreat
set_option maxRecDepth 20000
set_option maxHeartbeats 1000000
open Go.RowKit
theorem Zhw (x m k : Nat) (hk : k < m) : x / 2 ^ (m - (k + 1)) / 2 = x / 2 ^ (m - k) := by
 rw [Nat.div_div_eq_div_mul, ← Nat.pow_succ, show (m - (k + 1)).succ = m - k from aa]
theorem Ziv (s : Zp) (b : Nat) (hb : b < 256) (w : World) :
  Calls Tryz.prog 227 #[s.val, (b : Int)] w fun e w' => e = .returned (.bool (s.has b)) ∧ Below w.heap.size w w' := by
 have hcell : (w.alloc (.cells #[w64 s.w0, w64 s.w1, w64 s.w2, w64 s.w3] 249)).cell? ⟨w.heap.size, b / 64, none⟩ = some (.int .u64 ((s.word (b / 64)).toNat : Int)) := by
  exact N64
 have hw := (s.word (b / 64)).isLt
 have HB : Hid (s.has b = decide ((s.word (b / 64)).toNat / 2 ^ (b % 64) % 2 = 1)) := by
  unfold Hid Zp.has; rw [BitVec.getLsbD, Nat.testBit_eq_decide_div_mod_eq]
 unfold Zp.val;generalize (s.word (b / 64)).toNat = x at *;have HW := hid hw; clear hw;go_enter Tryz.func227, Tryz.ntmps227
 go_wp2
 go_loop [5, 6] (fun v i => ∃ k q : Nat, k ≤ b % 64 ∧ i = .int .i64 k ∧ v = .int .u64 q ∧ q = x / 2 ^ (b % 64 - k)) (fun _ i => (intOf i).toNat)
 case atStart => exact ⟨b % 64, x, aa, aw, rfl, ah⟩
 case round =>
  obtain ⟨k, q, hk, rfl, rfl, hq⟩ := hrel;have hqb : q ≤ 18446744073709551615 := by have := Nat.div_le_self x (2 ^ (b % 64 - k)); have := HW.out; omega
  have HQ := hid hq; clear hq;by_cases h0 : 0 < k
  ·obtain ⟨j, rfl⟩ : ∃ j, k = j + 1 := ⟨k - 1, aa⟩
   go_wp2
   go_round
   case rel => exact ⟨j, q / 2, aa, aw, aw, by rw [HQ.out]; exact Zhw x (b % 64) j aa⟩
   case measure => simp [intOf]; try omega
  ·go_wp2
   go_ret;have hk0 : k = 0 := aa
   have e : s.has b = decide (q % 2 = 1) := by rw [HB.out, HQ.out, hk0]; rfl
   refine ⟨?_, (Below.refl _ _).alloc (Nat.le_refl _) _⟩;rw [e];show Ending.returned (Value.bool _) = _
   congr 2
   rw [Bool.eq_iff_iff]; simp; omega
theorem Zgu (x : Zp) (w : World) :
  Calls Tryz.prog 244 #[x.val] w fun e w' => ∃ A c, e = .returned (.slice A 256 c) ∧ w'.ownsRow w.heap.size 4 1 (.slice A 256 c) 256 (Zs (Xm x)) ∧ Below w.heap.size w w' := by
 unfold Zp.val;go_enter Tryz.func244, Tryz.ntmps244
 go_wp2
 have hx := Blk.new w 249 #[w64 x.w0, w64 x.w1, w64 x.w2, w64 x.w3];have hb0 : Below w.heap.size w (w.alloc (.cells #[w64 x.w0, w64 x.w1, w64 x.w2, w64 x.w3] 249)) := (Below.refl _ _).alloc (Nat.le_refl _) _;obtain ⟨W1, hW1⟩ : ∃ W1, W1 = w.alloc (.cells #[w64 x.w0, w64 x.w1, w64 x.w2, w64 x.w3] 249) := ⟨_, rfl⟩
 go_loopw [3, 4] (fun v i wr => ∃ (k : Nat) (A' : Option Addr) (c' : Nat), k ≤ 256 ∧ i = .int .i64 k ∧ v = .slice A' k c' ∧ wr.ownsRow (w.heap.size + 1) 4 1 (.slice A' k c') k (Zs ((Xm x).take k)) ∧
   Blk wr w.heap.size 249 #[w64 x.w0, w64 x.w1, w64 x.w2, w64 x.w3] ∧ Below w.heap.size w wr ∧ w.heap.size + 1 ≤ wr.heap.size) (fun _ i _ => 256 - (intOf i).toNat)
 case atStart => exact ⟨0, _, _, aa, rfl, rfl, by simpa [Zs] using World.ownsRow_made (base := w.heap.size + 1) (e := 4) (size := 1) (w.alloc (.cells #[w64 x.w0, w64 x.w1, w64 x.w2, w64 x.w3] 249)) #[] 0 ah cd ah, hx.alloc _, hb0.alloc ah _, ah⟩
 case round =>
  obtain ⟨k, A', c', hk, rfl, rfl, hown, hbk, hb, hsz⟩ := hrel;by_cases hlt : k < 256
  ·have f0 := hbk.cell 0
   have f1 := hbk.cell 1;have f2 := hbk.cell 2;have f3 := hbk.cell 3;simp only [List.getElem?_toArray, List.getElem?_cons_zero, List.getElem?_cons_succ] at f0 f1 f2 f3
   have HX : Hid (Zs ((Xm x).take (k + 1)) = Zs ((Xm x).take k) ++ [.bool (x.has k)]) := by
    rw [Hid, List.take_succ_eq_append_getElem (by rw [Xz]; exact hlt)];simp [Zs, Xm]
   have HBK := hid hbk;clear hbk hW1 hx hb0;go_wp2_with fail;refine (Ziv x k hlt _).mono ?_;rintro e w1 ⟨rfl, hb1⟩;have hown1 := Yc hown hb1;have hbk1 := HBK.below hb1 aa;have hb2 := hb.trans (hb1.mono aa);have hsz2 : w.heap.size + 1 ≤ w1.heap.size := Nat.le_trans hsz hb1.size;have HBK1 := hid hbk1;clear hown hb hb1 hbk1 f0 f1 f2 f3;go_wp2_with (at_builtin; refine Wn _ rfl _ _ 114 rfl (w.heap.size + 1) 4 _ 1 1 Tryz.underlying114 Qx rfl ac _ _ _ rfl hown1 1 [.bool (x.has k)] rfl rfl rfl ?_ ac hsz2 ?_)
   ·omega
   intro A2 d2 w3 hown3 hg3;have hb3 := Wo hb2 hown1 hg3 aa aa
   have hbk3 : Blk w3 w.heap.size 249 #[w64 x.w0, w64 x.w1, w64 x.w2, w64 x.w3] :=
    (hg3.block _ aa (fun e => by have := (hown1.lt _ e.symm).1; omega)).trans HBK1.out
   have hsz3 := Nat.le_trans hsz2 hg3.size;have HBK3 := hid hbk3;clear hown1 hb2 hg3 hbk3
   go_wp2
   go_roundw
   case rel => exact ⟨k + 1, A2, d2, aa, aw, rfl, by rw [HX.out]; exact hown3, HBK3.out, hb3, hsz3⟩
   case measure => simp [intOf]; omega
  ·have hkk : k = 256 := by omega
   subst hkk
   go_wp2
   go_ret;rw [List.take_of_length_le (by rw [Xz]; exact Nat.le_refl _)] at hown;exact ⟨A', c', rfl, Vi hown aa, hb⟩
theorem Zad (w : World) :
  Calls Tryz.prog 235 #[] w fun e w' => ∃ A c, e = .returned (.slice A 256 c) ∧ w'.ownsRow w.heap.size 4 1 (.slice A 256 c) 256 (Zs (List.replicate 256 false)) ∧ Below w.heap.size w w' := by
 have HF := hid (Zgu Zp.zero);rw [Zan] at HF;generalize List.replicate 256 false = L at *;go_enter Tryz.func235, Tryz.ntmps235;go_wp2_with fail;refine (HF.out _).mono ?_;rintro e w1 ⟨A1, c1, rfl, hown, hb⟩
 go_wp2
 go_ret;exact ⟨A1, c1, rfl, hown, hb⟩
def Km (f : Nat → Nat) : Array Value := #[.int .u64 (f 0 : Int), .int .u64 (f 1 : Int), .int .u64 (f 2 : Int), .int .u64 (f 3 : Int)]
theorem Zb2 (f : Nat → Nat) (k : Nat) (h : k < 4) : (Km f)[k]? = some (.int .u64 (f k : Int)) := by
 match k, h with
 | 0, _ => rfl
 | 1, _ => rfl
 | 2, _ => rfl
 | 3, _ => rfl
theorem Zlw (f : Nat → Nat) (k v : Nat) (h : k < 4) : (Km f).setIfInBounds k (.int .u64 (v : Int)) = Km (fun j => if j = k then v else f j) := by
 match k, h with
 | 0, _ => rfl
 | 1, _ => rfl
 | 2, _ => rfl
 | 3, _ => rfl
theorem Zni (fl : List Bool) : (Zdk fl).val = .agg #[.int .u64 (Kf fl 0 64 : Int), .int .u64 (Kf fl 1 64 : Int), .int .u64 (Kf fl 2 64 : Int), .int .u64 (Kf fl 3 64 : Int)] := by
 have h0 := Gl fl 0 aa;have h1 := Gl fl 1 aa;have h2 := Gl fl 2 aa;have h3 := Gl fl 3 aa;simp only [Zp.word] at h0 h1 h2 h3;simp only [Zp.val, w64, h0, h1, h2, h3]
theorem Blk.set4 {w : World} {g : Nat} {t : TypeId} {f : Nat → Nat} (h : Blk w g t (Km f)) (k : Nat) (hk : k < 4) (v : Int) (n : Nat) (hv : v = (n : Int)) :
  Blk (w.setCell ⟨g, k, none⟩ (.int .u64 v)) g t (Km (fun j => if j = k then n else f j)) := by
 rw [hv, ← Zlw f k n hk]; exact h.set k _
theorem Zch (A : Option Addr) (c : Nat) (fl : List Bool) (w : World) (hl : fl.length = 256) (hr : Rd w A (Zs fl)) :
  Calls Tryz.prog 238 #[.slice A 256 c] w fun e w' => e = .returned (Zdk fl).val ∧ Below w.heap.size w w' := by
 have HL := hid hl; clear hl;obtain ⟨b, off, rfl, hbl, hc⟩ := hr.at (by rw [Ue, HL.out]; omega)
 have HC : Hid (∀ j, j < 256 → w.cell? ⟨b, off + j, none⟩ = some (.bool (fl.getD j false))) := by
  intro j hj;refine hc j _ ?_;have hj' : j < fl.length := by rw [HL.out]; exact hj
  rw [Nf fl j hj']; simp [List.getD, hj']
 clear hc hr;go_enter Tryz.func238, Tryz.ntmps238
 go_wp2
 go_loopw [4] (fun i wr => ∃ (k : Nat) (f : Nat → Nat), k ≤ 4 ∧ i = .int .i64 k ∧ Blk wr (w.heap.size + 1) 249 (Km f) ∧ (∀ j, j < k → f j = Kf fl j 64) ∧ (∀ j, k ≤ j → f j = 0) ∧
   Blk wr w.heap.size 249 (Km fun _ => 0) ∧ Below w.heap.size w wr) (fun i _ => 4 - (intOf i).toNat)
 case atStart => exact ⟨0, fun _ => 0, aa, rfl, by simpa [Km] using Blk.new (w.alloc (.cells (Km fun _ => 0) 249)) 249 (Km fun _ => 0), aa, fun _ _ => rfl, (Blk.new w _ _).alloc _, ((Below.refl _ _).alloc (Nat.le_refl _) _).alloc ah _⟩
 case round =>
  obtain ⟨k, f, hk, rfl, hx, hf1, hf0, hz, hb⟩ := hrel;have HX := hid hx; have HF1 := hid hf1; have HF0 := hid hf0; have HZ := hid hz;clear hx hf1 hf0 hz;by_cases hlt : k < 4
  ·obtain ⟨wo, rfl⟩ : ∃ wo : World, wo = wr := ⟨wr, rfl⟩
   go_wp2
   go_loopw [5] (fun i wx => ∃ (m : Nat) (g : Nat → Nat), m ≤ 64 ∧ i = .int .i64 (63 - (m : Int)) ∧ Blk wx (w.heap.size + 1) 249 (Km g) ∧ g k = Kf fl k m ∧ (∀ j, j ≠ k → g j = f j) ∧
     Blk wx w.heap.size 249 (Km fun _ => 0) ∧ Below w.heap.size w wx) (fun i _ => (intOf i + 1).toNat)
   case atStart => exact ⟨0, f, aa, aw, HX.out, HF0.out k (Nat.le_refl _), fun _ _ => rfl, HZ.out, hb⟩
   case round =>
    obtain ⟨m, g, hm, rfl, hx2, hg1, hg0, hz2, hb2⟩ := hrel;by_cases hm2 : m < 64
    ·have hacc := Zay fl k m
     have hacc2 : Kf fl k m ≤ 9223372036854775807 := by
      have : 2 ^ m ≤ 2 ^ 63 := Nat.pow_le_pow_right aa aa;omega
     have HG1 := hid hg1; have HG0 := hid hg0;have HAC : Hid (Kf fl k (m + 1) = 2 * Kf fl k m + b2n (fl.getD (64 * k + (63 - m)) false)) := rfl;have hcell : wr.cell? ⟨w.heap.size + 1, k, none⟩ = some (.int .u64 (Kf fl k m : Int)) := by rw [hx2.cell, Zb2 g k hlt, hg1]
     have hfr := hx2.frozen k
     have hin : wr.cell? ⟨b, off + (64 * k + (63 - m)), none⟩ = some (.bool (fl.getD (64 * k + (63 - m)) false)) :=
      (hb2.cell (p := ⟨b, off + (64 * k + (63 - m)), none⟩) hbl).trans (HC.out _ aa)
     have HX2 := hid hx2; have HZ2 := hid hz2;clear hg1 hg0 hacc hx2 hz2;generalize Kf fl k m = acc at *;cases hbit : fl.getD (64 * k + (63 - m)) false
     ·rw [hbit] at hin HAC
      clear hbit
      go_wp2
      go_roundw
      case rel =>
       have h1 := HX2.set4 k hlt (2 * (acc : Int)) (2 * acc) aa;refine ⟨m + 1, _, aa, aw, h1, ?_, ?_, HZ2.set_far aa, hb2.setCell ah _⟩
       ·rw [HAC.out]; simp [b2n]
       ·intro j hj; simp only [if_neg hj]; exact HG0.out j hj
      case measure => simp [intOf]; omega
     ·rw [hbit] at hin HAC
      clear hbit
      go_wp2
      go_roundw
      case rel =>
       have h1 := (HX2.set4 k hlt (2 * (acc : Int)) (2 * acc) aa).set4 k hlt (2 * (acc : Int) + 1) (2 * acc + 1) aa;refine ⟨m + 1, _, aa, aw, h1, ?_, ?_, (HZ2.set_far aa).set_far aa, (hb2.setCell ah _).setCell ah _⟩
       ·rw [HAC.out]; simp [b2n]
       ·intro j hj; simp only [if_neg hj]; exact HG0.out j hj
      case measure => simp [intOf]; omega
    ·have HG1 := hid hg1; have HG0 := hid hg0; have HX2 := hid hx2; have HZ2 := hid hz2
     clear hg1 hg0 hx2 hz2
     go_wp2
     go_roundw
     case rel =>
      have hmm : m = 64 := aa
      refine ⟨k + 1, g, aa, aw, HX2.out, fun j hj => ?_, fun j hj => ?_, HZ2.out, hb2⟩
      ·by_cases hjk : j = k
       ·rw [hjk, HG1.out, hmm]
       ·rw [HG0.out j hjk]; exact HF1.out j aa
      ·rw [HG0.out j aa]; exact HF0.out j aa
     case measure => simp [intOf]; omega
  ·have hk4 : k = 4 := by omega
   subst hk4;have c0 := HX.cell 0;have c1 := HX.cell 1;have c2 := HX.cell 2;have c3 := HX.cell 3;rw [Zb2 _ _ aa, HF1.out _ aa] at c0 c1 c2 c3;have d0 := HZ.cell 0;have d1 := HZ.cell 1;have d2 := HZ.cell 2;have d3 := HZ.cell 3;rw [Zb2 _ _ aa] at d0 d1 d2 d3;have g0 := HZ.frozen 0;have g1 := HZ.frozen 1;have g2 := HZ.frozen 2;have g3 := HZ.frozen 3
   go_wp2
   refine bodyPost_ret (v := (Zdk fl).val) ?_ rfl ⟨rfl, ?_⟩
   ·rw [Zni]
    have q0 := fun u => Qw (u := u) d0;have q1 := fun u v => Qw (w := wr.setCell ⟨w.heap.size, 0, none⟩ v) (u := u) (x := .int .u64 ((0 : Nat) : Int)) (o := 1) (b := w.heap.size) (by simpa [go_sem] using d1);have q2 := fun u v v' => Qw (w := (wr.setCell ⟨w.heap.size, 0, none⟩ v).setCell ⟨w.heap.size, 1, none⟩ v') (u := u) (x := .int .u64 ((0 : Nat) : Int)) (o := 2) (b := w.heap.size) (by simpa [go_sem] using d2);have q3 := fun u v v' v'' => Qw (w := ((wr.setCell ⟨w.heap.size, 0, none⟩ v).setCell ⟨w.heap.size, 1, none⟩ v').setCell ⟨w.heap.size, 2, none⟩ v'') (u := u) (x := .int .u64 ((0 : Nat) : Int)) (o := 3) (b := w.heap.size) (by simpa [go_sem] using d3);simp [results, Tryz.results238, go_sem, q0, q1, q2, q3]
   ·exact (((hb.setCell ah _).setCell ah _).setCell ah _).setCell ah _
theorem Nd (l : List Bool) (i : Nat) (b : Bool) : (Zs l).set i (.bool b) = Zs (l.set i b) := by simp [Zs, List.map_set]
open PopT
def Jh (a : Nat) : Nat → List Bool
 | 0 => List.replicate 256 false
 | k + 1 => (Jh a k).set (a + k) true
theorem Nc (a k : Nat) : (Jh a k).length = 256 := by
 induction k with
 | zero => exact List.length_replicate
 | succ k ih => rw [Jh, List.length_set]; exact ih
theorem Zkj (a k c : Nat) (h : a + k ≤ 256) (hc : c < 256) : (Jh a k).getD c false = decide (a ≤ c ∧ c < a + k) := by
 induction k with
 | zero => rw [Jh, List.getD, List.getElem?_replicate, if_pos hc]; exact (decide_eq_false aa).symm
 | succ k ih =>
  have ih := ih aa;rw [Jh];rw [List.getD] at ih ⊢;rw [List.getElem?_set];split
  ·rw [if_pos (by rw [Nc]; omega)]; simp; omega
  ·rw [ih]; congr 1; exact propext ⟨fun _ => aa, fun _ => aa⟩
theorem Zjj (a k : Nat) (h : a + k ≤ 256) : Zdk (Jh a k) = Zt a k :=
 Zp.ext_has fun c hc => by rw [Zdd _ _ hc, Zkj a k c h hc, Zlg a k c h hc]
theorem N62{P:Prop}(h:P:=by
 rcases hown.2 with ⟨_, h0⟩ | ⟨g, cap, cur, hv, hbg, _⟩
 ·exact absurd h0 aa
 ·exact ⟨g, cap, hv, hbg⟩):P:=h
theorem Zc5 (a b : Nat) (ha : a < 256) (hb : b < 256) (w : World) :
  Calls Tryz.prog 225 #[(a : Int), (b : Int)] w fun e w' => e = .returned (Zt a (b + 1 - a)).val ∧ Below w.heap.size w w' := by
 have HM := hid (Zjj a (b + 1 - a) aa);obtain ⟨t, ht⟩ := nE (Zt a (b + 1 - a));rw [ht] at HM ⊢;obtain ⟨r0, r1, r2, r3⟩ := t;unfold Zp.val;clear ht;go_enter Tryz.func225, Tryz.ntmps225;go_wp2_with fail;refine (Zad _).mono ?_;rintro e w1 ⟨A1, c1, rfl, hown, hbl⟩;simp only [World.size_alloc] at hown hbl;have hz1 := (Blk.new w 249 #[.int .u64 0, .int .u64 0, .int .u64 0, .int .u64 0]).below hbl ah;have hb1 := ((Below.refl w.heap.size w).alloc (Nat.le_refl _) (.cells zf 249)).trans (hbl.mono ah);have hsz1 := hbl.size;simp only [World.size_alloc] at hsz1;have HZ1 := hid hz1
 obtain ⟨g, cap, hA1, hgb⟩ : ∃ g cap, Value.slice A1 256 c1 = .slice (some ⟨g, 0, none⟩) 256 cap ∧ w.heap.size + 1 ≤ g := by
  exact N62
 injection hA1 with hA1 _ hc1
 subst hA1 hc1;clear hbl hz1;have HO1 := hid hown;have HB1 := hid hb1;clear hown hb1;go_wp2_with fail
 go_loopw [6] (fun i wr => ∃ (k : Nat), (k = 0 ∨ a + k ≤ b + 1) ∧ i = .int .i64 ((a + k : Nat) : Int) ∧ wr.ownsRow (w.heap.size + 1) 4 1 (.slice (some ⟨g, 0, none⟩) 256 c1) 256 (Zs (Jh a k)) ∧
   Blk wr w.heap.size 249 zf ∧ Below w.heap.size w wr ∧ w.heap.size + 1 ≤ wr.heap.size) (fun i _ => b + 1 - (intOf i).toNat)
 case atStart => exact ⟨0, .inl rfl, rfl, by simpa [Jh, Zs] using HO1.out, HZ1.out, HB1.out, hsz1⟩
 case round =>
  obtain ⟨k, hk, rfl, hown2, hz2, hb2, hsz2⟩ := hrel;have HZ2 := hid hz2;have HB2 := hid hb2;clear hz2 hb2;have hol := Nc a k;by_cases hlt : a + k ≤ b
  ·have hcl : wr.cell? ⟨g, a + k, none⟩ = some (.bool ((Jh a k).getD (a + k) false)) := by
    rw [hown2.cellAt _ aa, Nf _ _ aa];have hby : a + k < 256 := aa
    simp [List.getD, hol, hby]
   have hfr := hown2.frozenAt (a + k);have HST := hid (hown2.stored (a + k) (.bool true));obtain ⟨i, hi⟩ := nE (a + k);rw [hi] at hcl hfr HST hlt ⊢;have HI := hid hi;clear hown2 hol hi;go_wp2_with fail;go_roundw
   case rel =>
    refine ⟨k + 1, .inr (by have := HI.out; omega), by have := HI.out; go_num, ?_, HZ2.set_far aa, HB2.setCell af _, by simpa using hsz2⟩;rw [Jh, HI.out, ← Nd]; exact HST.1
   case measure => simp [intOf]; omega
  ·have hkk : Zs (Jh a k) = Zs (Jh a (b + 1 - a)) := by
    rcases hk with rfl | hk
    ·rw [show b + 1 - a = 0 by omega]
    ·rw [show b + 1 - a = k by omega]
   rw [hkk] at hown2;have HOWN := hid hown2;clear hkk hown2;go_wp2_with fail;refine (Zch _ c1 (Jh a (b + 1 - a)) _ (Nc _ _) (Xw HOWN.out)).mono ?_;rintro e w3 ⟨rfl, hb3⟩;have HZ3 := bb HZ2 hb3;have HB3 : Hid (Below w.heap.size w w3) := HB2.trans (hb3.mono aa);rw [HM.out];unfold Zp.val;obtain ⟨d0, d1, d2, d3, g0, g1, g2, g3⟩ := Wi HZ3.out;have HP := hid (Xn (b0 := w64 r0) (b1 := w64 r1) (b2 := w64 r2) (b3 := w64 r3) HZ3.out);obtain ⟨e0, e1, e2, e3, -, -, -, -⟩ := Wi HP.out;have HR := hid (Xt (g := w.heap.size) HB3.out (Nat.le_refl _) (w64 r0) (w64 r1) (w64 r2) (w64 r3));clear hb3;go_wp2_with fail;exact bodyPost_ret (v := .agg #[w64 r0, w64 r1, w64 r2, w64 r3]) (by simp [results, Tryz.results225, go_sem, e0, e1, e2, e3]) rfl ⟨rfl, HR.out⟩
def Mt (F G : Nat → Bool) (k : Nat) : List Bool := (List.range 256).map fun c => if c < k then G c else F c
theorem Kt (F G : Nat → Bool) (k : Nat) : (Mt F G k).length = 256 := by rw [Mt, List.length_map, List.length_range]
theorem Za1 (F G : Nat → Bool) (k c : Nat) (h : c < 256) : (Mt F G k)[c]? = some (if c < k then G c else F c) := by
 rw [Mt, List.getElem?_map, List.getElem?_range h]; rfl
theorem Zmm (F G : Nat → Bool) (k : Nat) (v : Bool) (hv : v = G k) (h : k < 256) : (Mt F G k).set k v = Mt F G (k + 1) := by
 subst hv;refine List.ext_getElem? fun c => ?_;by_cases hc : c < 256
 ·rw [List.getElem?_set, Kt, Za1 _ _ _ _ hc, Za1 _ _ _ _ hc]
  split
  ·subst c; rw [if_pos aa]
  ·congr 1
   by_cases hk : c < k
   ·rw [if_pos hk, if_pos aa]
   ·rw [if_neg hk, if_neg aa]
 ·rw [List.getElem?_eq_none (by rw [List.length_set, Kt]; omega), List.getElem?_eq_none (by rw [Kt]; omega)]
theorem Zkf (x : Zp) (G : Nat → Bool) : Mt x.has G 0 = Xm x := by
 unfold Mt Xm;exact List.map_congr_left fun c _ => if_neg aa
theorem Zk8 (F G : Nat → Bool) (y : Zp) (h : ∀ c, c < 256 → y.has c = G c) : Zdk (Mt F G 256) = y :=
 Zp.ext_has fun c hc => by rw [Zdd _ _ hc, List.getD, Za1 _ _ _ _ hc, if_pos hc, h c hc]; rfl
theorem Zpa (x : Zp) (w : World) :
  Calls Tryz.prog 239 #[x.val] w fun e w' => e = .returned (Zbd x).val ∧ Below w.heap.size w w' := by
 have HM := hid (Zk8 x.has (fun c => !x.has c) (Zbd x) (fun c hc => Zpn x c hc));have HF0 := hid (Zkf x (fun c => !x.has c));have HFL := hid (fun W => Zgu x W);obtain ⟨t, ht⟩ := nE (Zbd x);rw [ht] at HM ⊢;obtain ⟨r0, r1, r2, r3⟩ := t;unfold Zp.val at HFL ⊢;clear ht;go_enter Tryz.func239, Tryz.ntmps239;go_wp2_with fail;refine (HFL.out _).mono ?_;rintro e w1 ⟨A1, c1, rfl, hown, hbl⟩;simp only [World.size_alloc] at hown hbl;have HZ1 := hid ((Blk.new (w.alloc (.cells #[w64 x.w0, w64 x.w1, w64 x.w2, w64 x.w3] 249)) 249 #[.int .u64 0, .int .u64 0, .int .u64 0, .int .u64 0]).below hbl ah);have HB1 := hid ((((Below.refl w.heap.size w).alloc (Nat.le_refl _) (.cells #[w64 x.w0, w64 x.w1, w64 x.w2, w64 x.w3] 249)).alloc ah (.cells zf 249)).trans (hbl.mono aa));have hsz1 := hbl.size;simp only [World.size_alloc] at hsz1;rw [World.size_alloc] at HZ1
 obtain ⟨g, cap, hA1, hgb⟩ : ∃ g cap, Value.slice A1 256 c1 = .slice (some ⟨g, 0, none⟩) 256 cap ∧ w.heap.size + 2 ≤ g := by
  rcases hown.2 with ⟨_, h0⟩ | ⟨g, cap, cur, hv, hbg, _⟩
  ·exact absurd h0 aa
  ·exact ⟨g, cap, hv, aa⟩
 injection hA1 with hA1 _ hc1
 subst hA1 hc1;rw [← HF0.out] at hown;have HO1 := hid hown;clear hown hbl;go_wp2_with fail
 go_loopw [4] (fun i wr => ∃ (k : Nat), k ≤ 256 ∧ i = .int .i64 (k : Int) ∧ wr.ownsRow (w.heap.size + 2) 4 1 (.slice (some ⟨g, 0, none⟩) 256 c1) 256 (Zs (Mt x.has (fun c => !x.has c) k)) ∧
   Blk wr (w.heap.size + 1) 249 zf ∧ Below w.heap.size w wr ∧ w.heap.size + 2 ≤ wr.heap.size) (fun i _ => 256 - (intOf i).toNat)
 case atStart => exact ⟨0, aa, rfl, HO1.out, HZ1.out, HB1.out, aa⟩
 case round =>
  obtain ⟨k, hk, rfl, hown2, hz2, hb2, hsz2⟩ := hrel;have HZ2 := hid hz2;have HB2 := hid hb2;clear hz2 hb2;by_cases hlt : k < 256
  ·have hcl : wr.cell? ⟨g, k, none⟩ = some (.bool (x.has k)) := by
    rw [hown2.cellAt _ aa, Zs, List.getElem?_map, Za1 _ _ _ _ hlt, if_neg aa]; rfl
   have hfr := hown2.frozenAt k;have HST := hid (hown2.stored k (.bool (!x.has k)));clear hown2;go_wp2_with fail;go_roundw
   case rel =>
    refine ⟨k + 1, aa, aw, ?_, HZ2.set_far aa, HB2.setCell af _, by simpa using hsz2⟩;rw [← Zmm _ _ _ _ rfl hlt, ← Nd]; exact HST.1
   case measure => simp [intOf]; omega
  ·obtain rfl : k = 256 := by omega
   have HOWN := hid hown2;clear hown2;go_wp2_with fail;refine (Zch _ c1 (Mt x.has (fun c => !x.has c) 256) _ (Kt _ _ _) (Xw HOWN.out)).mono ?_;rintro e w3 ⟨rfl, hb3⟩;have HZ3 := bb HZ2 hb3;have HB3 : Hid (Below w.heap.size w w3) := HB2.trans (hb3.mono aa);rw [HM.out];unfold Zp.val;obtain ⟨d0, d1, d2, d3, g0, g1, g2, g3⟩ := Wi HZ3.out;have HP := hid (Xn (b0 := w64 r0) (b1 := w64 r1) (b2 := w64 r2) (b3 := w64 r3) HZ3.out);obtain ⟨e0, e1, e2, e3, -, -, -, -⟩ := Wi HP.out;have HR := hid (Xt (g := w.heap.size + 1) HB3.out aa (w64 r0) (w64 r1) (w64 r2) (w64 r3));clear hb3;go_wp2_with fail;exact bodyPost_ret (v := .agg #[w64 r0, w64 r1, w64 r2, w64 r3]) (by simp [results, Tryz.results239, go_sem, e0, e1, e2, e3]) rfl ⟨rfl, HR.out⟩
end Go.Proofs.YtpkkfdmhbbipoaaGreat
