/- The walk of HoldFinds. Walks: the reference of layer 19: New, Begin; the law's 'same'. The walk of the reference's look. -/
import Derived.Test.YtpkkfdmhbbipoaaGreatPk
import Derived.Test.YtpkkfdmhbbipoaaGreatMh
import Derived.Test.YtpkkfdmhbbipoaaGreatMl
import Derived.Test.YtpkkfdmhbbipoaaGreatPc
namespace Go.Proofs.YtpkkfdmhbbipoaaGreat
open Go.RowKit PopT
def refV (win : Nat) (S : List UInt8) (seen : Nat) (v : Value) : Value := .agg #[.int .i64 (win : Int), .string (rgT S), .int .i64 (seen : Int), v]
theorem withinR_any (x : Int) (m : Nat) (w : World) (hm : m = 4096) : Calls Tryz.prog 144 #[.int .i64 x, .int .i64 1, .int .i64 (m : Int)] w fun e w' => e = .returned (.int .i64 (clampN x m : Nat)) ∧ w = w' := by
 subst hm
 by_cases c1 : x < 1
 ·rw [show clampN x 4096 = 1 from if_pos c1]
  go_enter Tryz.func144, Tryz.ntmps144
  go_wp2
  go_ret
  exact ⟨rfl, rfl⟩
 ·by_cases c2 : (4096 : Int) < x
  ·rw [show clampN x 4096 = 4096 from by rw [clampN, if_neg c1, if_pos (by omega)]]
   go_enter Tryz.func144, Tryz.ntmps144
   go_wp2
   go_ret
   exact ⟨rfl, rfl⟩
  ·have e : ((clampN x 4096 : Nat) : Int) = x := by rw [clampN, if_neg c1, if_neg (by omega)]; omega
   rw [e]
   go_enter Tryz.func144, Tryz.ntmps144
   go_wp2
   go_ret
   exact ⟨rfl, rfl⟩
set_option maxRecDepth 20000 in
theorem refNew_any (x : Int) (w : World) : Calls Tryz.prog 100 #[.int .i64 x] w fun e w' => e = .returned (refV (clampN x 4096) [] 0 (.slice none 0 0)) ∧ Below w.heap.size w w' := by
 have C1 := hid (fun W => withinR_any x 4096 W rfl)
 obtain ⟨m, hm⟩ : ∃ m, clampN x 4096 = m := ⟨_, rfl⟩
 rw [hm] at C1 ⊢
 clear hm
 go_enter Tryz.func100, Tryz.ntmps100
 go_wp2_with fail
 refine (C1.out _).mono ?_
 rintro en w1 ⟨rfl, rfl⟩
 clear C1
 go_wp2_with fail
 refine bodyPost_ret (v := refV m [] 0 (.slice none 0 0)) (by simp [results, Tryz.results100, go_sem, refV, rgT]) rfl ⟨rfl, ?_⟩
 first
  | exact (Below.refl _ _).alloc (Nat.le_refl _) _
  | exact ((((((Below.refl _ _).alloc (Nat.le_refl _) _).setCell (Nat.le_refl _) _).setCell (Nat.le_refl _) _).setCell (Nat.le_refl _) _).setCell (Nat.le_refl _) _)
theorem Lists.keepX {base b2 : Nat} {G : Nat → Prop} {w w' : World} {ls : List (List Item)} {vs : List Value} (h : Lists base w ls vs) (hk : Keep G w w') (hb : b2 ≤ base) (hg : ∀ k, base ≤ k → k < w.heap.size → ¬ G k) : Lists b2 w' ls vs := by
 refine ⟨h.1, fun i l hi => ?_⟩
 obtain ⟨A, c, hv, ho⟩ := h.2 i l hi
 exact ⟨A, c, hv, own_base (hk.own ho (fun k hv => hg k (ho.lt k hv).1 (ho.lt k hv).2)) hb⟩
def PatV (base : Nat) (w : World) (ls : List (List Item)) (v : Value) : Prop := ∃ A c vs, v = .slice A ls.length c ∧ w.ownsRow base 223 1 v ls.length vs ∧ Lists base w ls vs
theorem PatV.keep {base b2 : Nat} {G : Nat → Prop} {w w' : World} {ls : List (List Item)} {v : Value} (h : PatV base w ls v) (hk : Keep G w w') (hb : b2 ≤ base) (hg : ∀ k, base ≤ k → k < w.heap.size → ¬ G k) : PatV b2 w' ls v := by
 obtain ⟨A, c, vs, rfl, h1, h2⟩ := h
 exact ⟨A, c, vs, rfl, own_base (hk.own h1 (fun k hv => hg k (h1.lt k hv).1 (h1.lt k hv).2)) hb, h2.keepX hk hb hg⟩
theorem PatV.below {base b2 : Nat} {w w' : World} {ls : List (List Item)} {v : Value} (h : PatV base w ls v) (hk : Below w.heap.size w w') (hb : b2 ≤ base) : PatV b2 w' ls v := h.keep (G := fun _ => False) (Keep.of_below hk) hb (fun _ _ _ h => h)
def RefB (win seen : Nat) (S : List UInt8) (v : Value) (R : List (List Item) × Nat × Nat) (w : World) (e : Ending) (w' : World) : Prop := Below w.heap.size w w' ∧
   ((R.2.2 ≠ 0 ∧ e = .returned (.tuple #[refV win S seen v, .int .i64 ((R.2.2 : Nat) : Int)])) ∨
    (R.2.2 = 0 ∧ ∃ v', e = .returned (.tuple #[refV win S 0 v', .int .i64 0]) ∧ PatV w.heap.size w' R.1 v'))
set_option maxRecDepth 20000 in
set_option maxHeartbeats 1600000 in
theorem refBegin_any (win seen : Nat) (S : List UInt8) (v : Value) (A : Option Addr) (n c : Nat) (ps : List ByteArray) (w : World) (hv : ∃ A n c, v = .slice A n c) (hl : ps.length = n) (hn : n ≤ 1000) (hp : ∀ p ∈ ps, p.size ≤ 1000000) (hr : Rd w A (textCells ps)) :
  Calls Tryz.prog 147 #[refV win S seen v, .slice A n c] w fun e w' => RefB win seen S v (newM ps) w e w' := by
 obtain ⟨A0, n0, c0, rfl⟩ := hv
 have C1 := hid (fun W (hW : Below w.heap.size w W) => newF_any A n c ps W hl hn hp (hr.below hW))
 obtain ⟨⟨ls, i, e⟩, hR⟩ : ∃ R, newM ps = R := ⟨_, rfl⟩
 rw [hR] at C1 ⊢
 obtain ⟨Q, hQ⟩ : ∃ Q : Ending → World → Prop, RefB win seen S (.slice A0 n0 c0) (ls, i, e) w = Q := ⟨_, rfl⟩
 have HQ := hid hQ
 rw [show (fun e' w' => RefB win seen S (.slice A0 n0 c0) (ls, i, e) w e' w') = Q from hQ]
 obtain ⟨ts, hts⟩ : ∃ x, rgT S = x := ⟨_, rfl⟩
 have HTS := hid hts
 unfold refV
 rw [hts]
 clear hR hl hn hp hr hts hQ
 go_enter Tryz.func147, Tryz.ntmps147
 go_upto_region 1 with fail
 obtain ⟨w0, hw0⟩ : ∃ W, (w.alloc (.cells #[.int .i64 (win : Int), .string ts, .int .i64 (seen : Int), .slice A0 n0 c0] 37)).alloc (.cells #[.int .i64 0, .string ⟨#[]⟩, .int .i64 0, .slice none 0 0] 37) = W := ⟨_, rfl⟩
 have HB0 : Hid (Below w.heap.size w w0) := by rw [← hw0]; exact below2' _ _ _
 have HG0 : Hid (Blk w0 w.heap.size 37 #[.int .i64 (win : Int), .string ts, .int .i64 (seen : Int), .slice A0 n0 c0]) := by rw [← hw0]; exact (Blk.new w _ _).alloc _
 have HF0 : Hid (Blk w0 (w.heap.size + 1) 37 #[.int .i64 0, .string ⟨#[]⟩, .int .i64 0, .slice none 0 0]) := by rw [← hw0]; exact new2' _ _ _ _
 rw [hw0]
 clear hw0
 obtain ⟨gh, hgh⟩ : ∃ x, w.heap.size = x := ⟨_, rfl⟩
 have HGH := hid hgh
 rw [hgh] at HG0 HF0 ⊢
 obtain ⟨gr, hgr⟩ : ∃ x, gh + 1 = x := ⟨_, rfl⟩
 rw [hgr] at HF0 ⊢
 have hne : gh ≠ gr := by omega
 have hghle : w.heap.size ≤ gh ∧ w.heap.size ≤ gr := by omega
 clear hgh hgr
 have C2 := hid (C1.out w0 HB0.out)
 have HLT : Hid (gh < w0.heap.size ∧ gr < w0.heap.size) := ⟨HG0.out.lt, HF0.out.lt⟩
 clear C1
 go_wp2_with fail
 refine C2.out.mono ?_
 rintro en w1 ⟨A', c', vs, rfl, hown, hls, hb1⟩
 have HO := hid hown; have HL := hid hls
 have HB1 : Hid (Below w.heap.size w w1) := HB0.out.trans (hb1.mono HB0.out.size)
 have HG1 := hid (HG0.out.below hb1 HG0.out.lt)
 have HF1 := hid (HF0.out.below hb1 HF0.out.lt)
 have hs01 : w.heap.size ≤ w0.heap.size := HB0.out.size
 clear C2 hown hls hb1 HG0 HF0 HB0
 obtain ⟨g0, g1, g2, g3⟩ := fact4 HG1.out
 have y2 := HG1.out.frozen 2; have y3 := HG1.out.frozen 3
 have z0 := HF1.out.frozen 0; have z1 := HF1.out.frozen 1; have z2 := HF1.out.frozen 2; have z3 := HF1.out.frozen 3
 obtain ⟨t0, t1, t2, t3⟩ := fact4 HF1.out
 have gl := HG1.out.lt; have fl := HF1.out.lt
 simp only at HO HL
 have HPV : Hid (PatV w0.heap.size w1 ls (.slice A' ls.length c')) := ⟨A', c', vs, rfl, HO.out, HL.out⟩
 have hgf : gh < w0.heap.size ∧ gr < w0.heap.size := HLT.out
 obtain ⟨nl, hnl⟩ : ∃ x, ls.length = x := ⟨_, rfl⟩
 simp only [hnl]
 rw [hnl] at HPV
 clear hnl HO HL
 by_cases he : e = 0
 ·subst he
  go_wp2_with fail
  obtain ⟨wz, hwz⟩ : ∃ W, set4 (((w1.setCell ⟨gh, 3, none⟩ (.slice A' nl c')).setCell ⟨gh, 2, none⟩ (.int .i64 0))) gr (.int .i64 (win : Int)) (.string ts) (.int .i64 0) (.slice A' nl c') = W := ⟨_, rfl⟩
  have Z1 : Blk wz gr 37 #[.int .i64 (win : Int), .string ts, .int .i64 0, .slice A' nl c'] := by
   rw [← hwz]; exact set4_blk (((HF1.out.set_far hne.symm).set_far hne.symm)) _ _ _ _
  have ZB : Below w.heap.size w wz := by
   rw [← hwz]; exact set4_below ((HB1.out.setCell hghle.1 _).setCell hghle.1 _) hghle.2 _ _ _ _
  have ZK : Keep (fun k => k = gh ∨ k = gr) w1 wz := by
   rw [← hwz]
   unfold set4
   exact (((((Keep.setCell _ w1 ⟨gh, 3, none⟩ _ (.inl rfl)).trans (Keep.setCell (fun k => k = gh ∨ k = gr) _ ⟨gh, 2, none⟩ _ (.inl rfl)) (fun _ => .inl)).trans (Keep.setCell (fun k => k = gh ∨ k = gr) _ ⟨gr, 0, none⟩ _ (.inr rfl)) (fun _ => .inl)).trans (Keep.setCell (fun k => k = gh ∨ k = gr) _ ⟨gr, 1, none⟩ _ (.inr rfl)) (fun _ => .inl)).trans (Keep.setCell (fun k => k = gh ∨ k = gr) _ ⟨gr, 2, none⟩ _ (.inr rfl)) (fun _ => .inl)).trans (Keep.setCell (fun k => k = gh ∨ k = gr) _ ⟨gr, 3, none⟩ _ (.inr rfl)) (fun _ => .inl)
  unfold set4 at hwz
  rw [hwz]
  obtain ⟨r0, r1, r2, r3⟩ := fact4 Z1
  refine bodyPost_ret (v := .tuple #[.agg #[.int .i64 (win : Int), .string ts, .int .i64 0, .slice A' nl c'], .int .i64 0]) (by simp [results, Tryz.results147, go_sem, r0, r1, r2, r3]) rfl ?_
  rw [← HQ.out]
  exact ⟨ZB, .inr ⟨rfl, .slice A' nl c', by rw [refV, HTS.out]; rfl, HPV.out.keep ZK hs01 (fun k h1 h2 h3 => by omega)⟩⟩
 ·have he0 : ((e : Int) == 0) = false := by rw [beq_eq_false_iff_ne]; omega
  go_wp2_with fail
  obtain ⟨wz, hwz⟩ : ∃ W, set4 w1 gr (.int .i64 (win : Int)) (.string ts) (.int .i64 (seen : Int)) (.slice A0 n0 c0) = W := ⟨_, rfl⟩
  have Z1 : Blk wz gr 37 #[.int .i64 (win : Int), .string ts, .int .i64 (seen : Int), .slice A0 n0 c0] := by rw [← hwz]; exact set4_blk HF1.out _ _ _ _
  have ZB : Below w.heap.size w wz := by rw [← hwz]; exact set4_below HB1.out hghle.2 _ _ _ _
  unfold set4 at hwz
  rw [hwz]
  obtain ⟨r0, r1, r2, r3⟩ := fact4 Z1
  exact bodyPost_ret (v := .tuple #[.agg #[.int .i64 (win : Int), .string ts, .int .i64 (seen : Int), .slice A0 n0 c0], .int .i64 (e : Int)]) (by simp [results, Tryz.results147, go_sem, r0, r1, r2, r3]) rfl (by rw [← HQ.out]; exact ⟨ZB, .inl ⟨he, by rw [refV, HTS.out]⟩⟩)
def RS (w : World) (gh hr fr gf : Nat) (wr : World) (win : Nat) (ts : ByteArray) (seen : Nat) (v : Value) (mt fl : Bool) (k gn rd : Nat) : Prop :=
 Blk wr gh 37 #[.int .i64 (win : Int), .string ts, .int .i64 (seen : Int), v] ∧ Blk wr gf 191 #[.bool mt, .bool fl, .int .i64 (k : Int), .int .i64 (gn : Int), .int .i64 (rd : Int)] ∧
 Blk wr hr 37 #[.int .i64 0, .string ⟨#[]⟩, .int .i64 0, .slice none 0 0] ∧ Blk wr fr 191 #[.bool false, .bool false, .int .i64 0, .int .i64 0, .int .i64 0] ∧ Below w.heap.size w wr ∧
 w.heap.size ≤ gh ∧ gh < hr ∧ hr < fr ∧ fr < gf
section
variable {w wr w' : World} {gh hr fr gf win seen k gn rd : Nat} {ts : ByteArray} {v : Value} {mt fl : Bool}
end
end Go.Proofs.YtpkkfdmhbbipoaaGreat
