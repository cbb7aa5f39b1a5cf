/- The arguments of a law, opened: what comes to a dialogue, a play, what inputs came to. Walks: the reference's Good of a setup; light setups. -/
import Derived.Test.YtpkkfdmhbbipoaaGreatEa
namespace Go.Proofs.YtpkkfdmhbbipoaaGreat
open Go.ChangeShapes Go.WideShapes Go.ChangeAt Go.RowKit Go.WideElems Go.Deep
structure PlayV where
 s : SetV
 p : ProgV
 now : Int
 l : List InV
 ask : Int
def PlayV.val (x : PlayV) (A : Option Addr) (c : Nat) (B : Option Addr) (k : Nat) : Value := .agg #[.int .i64 x.s.live, .int .i64 x.s.ring, .int .i64 x.s.win, .int .i64 x.s.out, .int .i64 x.s.quan, .int .i64 x.s.vis, .string x.p.name, .int .i64 x.p.deadline, .int .i64 x.p.jumps, .slice A x.p.ops.length c,
 .int .i64 x.now, .slice B x.l.length k, .int .i64 x.ask]
section
variable {H : Type} {enc : TypeId × Value → H}
theorem Tryz.cellsSet' : Tryz.prog.cellsOf 23 = 6 := by kernel_rfl
set_option maxRecDepth 100000 in
theorem open_setC {W : World} {fuel : Nat} {cs : List Value} {x : DataW H × List MemPlace} (h : DataW.trod enc Tryz.prog W 0 (fun _ => true) true fuel 23 cs = some x) : ∃ s : SetV, cs = [.int .i64 s.live, .int .i64 s.ring, .int .i64 s.win, .int .i64 s.out, .int .i64 s.quan, .int .i64 s.vis] := by
 obtain ⟨xs, n, _, _, hl, _, hf⟩ := DataW.trod_struct Tryz.underlying23 h
 rw [Tryz.cellsSet'] at hl
 have hlen : xs.length = 6 := by assumption
 match xs, hlen with
 | [y0, y1, y2, y3, y4, y5], _ =>
  match cs, hl with
  | [c0, c1, c2, c3, c4, c5], _ =>
   have h0 := hf 0 _ rfl
   have h1 := hf 1 _ rfl
   have h2 := hf 2 _ rfl
   have h3 := hf 3 _ rfl
   have h4 := hf 4 _ rfl
   have h5 := hf 5 _ rfl
   simp [Tryz.cellsInt'] at h0 h1 h2 h3 h4 h5
   obtain ⟨z0, e0, _, w0⟩ := DataW.trod_int Tryz.underlying3 h0
   obtain ⟨z1, e1, _, w1⟩ := DataW.trod_int Tryz.underlying3 h1
   obtain ⟨z2, e2, _, w2⟩ := DataW.trod_int Tryz.underlying3 h2
   obtain ⟨z3, e3, _, w3⟩ := DataW.trod_int Tryz.underlying3 h3
   obtain ⟨z4, e4, _, w4⟩ := DataW.trod_int Tryz.underlying3 h4
   obtain ⟨z5, e5, _, w5⟩ := DataW.trod_int Tryz.underlying3 h5
   simp at e0 e1 e2 e3 e4 e5
   exact ⟨⟨z0, z1, z2, z3, z4, z5⟩, by rw [e0, e1, e2, e3, e4, e5]⟩
end
open PopT
def lI (s : SetV) (j : Nat) : Int := [s.live, s.ring, s.win, s.out, s.quan, s.vis].getD j 0
def mI (j : Nat) : Int := [1024, 4096, 4096, 4096, 1000000, 64].getD j 0
theorem good_yes (s : SetV) (h : ∀ j, j < 6 → inB (lI s j) (mI j) = true) : goodS s = true := by
 have h0 : inB s.live 1024 = true := h 0 (by omega)
 have h1 : inB s.ring 4096 = true := h 1 (by omega)
 have h2 : inB s.win 4096 = true := h 2 (by omega)
 have h3 : inB s.out 4096 = true := h 3 (by omega)
 have h4 : inB s.quan 1000000 = true := h 4 (by omega)
 have h5 : inB s.vis 64 = true := h 5 (by omega)
 unfold goodS; rw [h0, h1, h2, h3, h4, h5]; rfl
theorem good_no (s : SetV) (j : Nat) (hj : j < 6) (h : inB (lI s j) (mI j) = false) : goodS s = false := by
 cases hg : goodS s with
 | false => rfl
 | true =>
  unfold goodS at hg
  simp only [Bool.and_eq_true] at hg
  obtain ⟨⟨⟨⟨⟨h1, h2⟩, h3⟩, h0⟩, h4⟩, h5⟩ := hg
  have : inB (lI s j) (mI j) = true := by
   rcases Nat.lt_or_ge j 1 with h' | h'
   ·have : j = 0 := by omega
    subst this; exact h0
   rcases Nat.lt_or_ge j 2 with h' | h'
   ·have : j = 1 := by omega
    subst this; exact h1
   rcases Nat.lt_or_ge j 3 with h' | h'
   ·have : j = 2 := by omega
    subst this; exact h2
   rcases Nat.lt_or_ge j 4 with h' | h'
   ·have : j = 3 := by omega
    subst this; exact h3
   rcases Nat.lt_or_ge j 5 with h' | h'
   ·have : j = 4 := by omega
    subst this; exact h4
   have : j = 5 := by omega
   subst this; exact h5
  rw [this] at h; cases h
theorem li_at (s : SetV) (j : Nat) (hj : j < 6) : (#[.int .i64 s.live, .int .i64 s.ring, .int .i64 s.win, .int .i64 s.out, .int .i64 s.quan, .int .i64 s.vis] : Array Value)[j]? = some (.int .i64 (lI s j)) := by
 match j, hj with
 | 0, _ => rfl
 | 1, _ => rfl
 | 2, _ => rfl
 | 3, _ => rfl
 | 4, _ => rfl
 | 5, _ => rfl
theorem mi_at (j : Nat) (hj : j < 6) : (#[.int .i64 1024, .int .i64 4096, .int .i64 4096, .int .i64 4096, .int .i64 1000000, .int .i64 64] : Array Value)[j]? = some (.int .i64 (mI j)) := by
 match j, hj with
 | 0, _ => rfl
 | 1, _ => rfl
 | 2, _ => rfl
 | 3, _ => rfl
 | 4, _ => rfl
 | 5, _ => rfl
set_option maxRecDepth 20000 in
set_option maxHeartbeats 4000000 in
theorem good18_any (s : SetV) (w : World) : Calls Tryz.prog 60 #[s.val] w fun e w' => e = .returned (.bool (goodS s)) ∧ Below w.heap.size w w' := by
 have HY := hid (good_yes s)
 have HNO := hid (good_no s)
 have HLI := hid (li_at s)
 obtain ⟨R, hR⟩ : ∃ y, goodS s = y := ⟨_, rfl⟩
 rw [hR] at HY HNO ⊢
 obtain ⟨f, hf⟩ : ∃ f, lI s = f := ⟨_, rfl⟩
 rw [hf] at HY HNO HLI
 obtain ⟨lv, rg, wn, ou, qu, vi⟩ := s
 unfold SetV.val
 simp only at HLI ⊢
 clear hR hf
 obtain ⟨wa, hwa⟩ : ∃ W, ((w.alloc (.cells #[.int .i64 lv, .int .i64 rg, .int .i64 wn, .int .i64 ou, .int .i64 qu, .int .i64 vi] 23)).alloc (.cells #[.int .i64 lv, .int .i64 rg, .int .i64 wn, .int .i64 ou, .int .i64 qu, .int .i64 vi] 3)).alloc (.cells #[.int .i64 1024, .int .i64 4096, .int .i64 4096, .int .i64 4096, .int .i64 1000000, .int .i64 64] 3) = W := ⟨_, rfl⟩
 have HBA : Hid (Below w.heap.size w wa) := by rw [← hwa]; exact below3 _ _ _ _
 have HLA : Hid (Blk wa (w.heap.size + 1) 3 #[.int .i64 lv, .int .i64 rg, .int .i64 wn, .int .i64 ou, .int .i64 qu, .int .i64 vi]) := by rw [← hwa]; exact (new2 _ _ _ _).alloc _
 have HMA : Hid (Blk wa (w.heap.size + 2) 3 #[.int .i64 1024, .int .i64 4096, .int .i64 4096, .int .i64 4096, .int .i64 1000000, .int .i64 64]) := by rw [← hwa]; exact new3 _ _ _ _ _
 have HWA := hid hwa
 clear hwa
 obtain ⟨g, m, hg, hmi⟩ : ∃ g m : Nat → Int, g = f ∧ m = mI := ⟨_, _, rfl, rfl⟩
 have HMI := hid mi_at
 rw [← hg] at HY HNO HLI
 rw [← hmi] at HY HNO HMI
 clear hg hmi
 go_enter Tryz.func60, Tryz.ntmps60
 go_upto_region 2 with fail
 have e2 : w.heap.size + 1 + 1 = w.heap.size + 2 := rfl
 try rw [e2]
 rw [HWA.out]
 clear e2 HWA
 obtain ⟨gl, hgl⟩ : ∃ y, w.heap.size + 1 = y := ⟨_, rfl⟩
 obtain ⟨gm, hgm⟩ : ∃ y, w.heap.size + 2 = y := ⟨_, rfl⟩
 rw [hgl] at HLA ⊢
 rw [hgm] at HMA ⊢
 clear hgl hgm
 have HZ : Hid (w.heap.size ≤ wa.heap.size) := HBA.out.size
 go_wp2_with fail
 go_loopw [5] (fun iv wr => ∃ i : Nat, i ≤ 6 ∧ iv = .int .i64 (i : Int) ∧ (∀ j, j < i → inB (g j) (m j) = true) ∧ Blk wr gl 3 #[.int .i64 lv, .int .i64 rg, .int .i64 wn, .int .i64 ou, .int .i64 qu, .int .i64 vi] ∧ Blk wr gm 3 #[.int .i64 1024, .int .i64 4096, .int .i64 4096, .int .i64 4096, .int .i64 1000000, .int .i64 64] ∧ Below w.heap.size w wr) (fun iv _ => 6 - (intOf iv).toNat)
 case atStart => exact ⟨0, by omega, rfl, fun j hj => by omega, HLA.out, HMA.out, HBA.out⟩
 case round =>
  obtain ⟨i, hi, rfl, hin, hl, hm, hb⟩ := hrel
  have HIN := hid hin; have HL := hid hl; have HM := hid hm; have HB := hid hb
  have hlw : gl < wr.heap.size := hl.lt
  have hmw : gm < wr.heap.size := hm.lt
  clear hin hl hm hb HLA HMA HBA HZ
  by_cases hlt : i < 6
  ·obtain ⟨a, ha⟩ : ∃ y, g i = y := ⟨_, rfl⟩
   obtain ⟨b, hb⟩ : ∃ y, m i = y := ⟨_, rfl⟩
   have TL : ∀ q : BW wr.heap.size wr, q.1.cell? ⟨gl, i, none⟩ = some (.int .i64 a) := fun q => q.cellAt hlw (by rw [← ha]; exact (HL.out.cell i).trans (HLI.out i hlt))
   have TM : ∀ q : BW wr.heap.size wr, q.1.cell? ⟨gm, i, none⟩ = some (.int .i64 b) := fun q => q.cellAt hmw (by rw [← hb]; exact (HM.out.cell i).trans (HMI.out i hlt))
   have HI2 : Hid (inB (g i) (m i) = inB a b) := by rw [Hid, ha, hb]
   have HLT := hid hlt
   have hi2 : (i : Int) < 6 := by omega
   clear ha hb hlw hmw
   by_cases h1 : a < 1
   ·have HR : Hid (R = false) := HNO.out i HLT.out (by rw [HI2.out]; unfold inB; rw [decide_eq_false (by omega)]; rfl)
    go_upto_region 5 with fail
    refine wp_region_below wr.heap.size (by kernel_rfl) (by kernel_rfl) ?_
    repeat (go_big_quiet_step (fail))
    refine wpQuiet_nil ?_
    intro wu hqu
    have HBU : Hid (Below wr.heap.size wr wu) := by obtain ⟨q, rfl⟩ := hqu; exact q.2
    clear hqu TL TM
    go_wp2_with fail
    go_ret
    rw [HR.out]
    exact ⟨rfl, HB.out.trans (HBU.out.mono HB.out.size)⟩
   by_cases h2 : b < a
   ·have HR : Hid (R = false) := HNO.out i HLT.out (by rw [HI2.out]; unfold inB; rw [decide_eq_false (show ¬ a ≤ b by omega), Bool.and_false])
    go_upto_region 5 with fail
    refine wp_region_below wr.heap.size (by kernel_rfl) (by kernel_rfl) ?_
    repeat (go_big_quiet_step (fail))
    refine wpQuiet_nil ?_
    intro wu hqu
    have HBU : Hid (Below wr.heap.size wr wu) := by obtain ⟨q, rfl⟩ := hqu; exact q.2
    clear hqu TL TM
    go_wp2_with fail
    go_ret
    rw [HR.out]
    exact ⟨rfl, HB.out.trans (HBU.out.mono HB.out.size)⟩
   have HIB : Hid (inB (g i) (m i) = true) := by rw [Hid, HI2.out]; unfold inB; rw [decide_eq_true (show 1 ≤ a by omega), decide_eq_true (show a ≤ b by omega)]; rfl
   go_upto_region 5 with fail
   refine wp_region_below wr.heap.size (by kernel_rfl) (by kernel_rfl) ?_
   repeat (go_big_quiet_step (fail))
   refine wpQuiet_nil ?_
   intro wu hqu
   have HBU : Hid (Below wr.heap.size wr wu) := by obtain ⟨q, rfl⟩ := hqu; exact q.2
   clear hqu TL TM
   go_wp2_with fail
   go_roundw
   case rel => exact ⟨i + 1, by omega, by go_num, fun j hj => by
    rcases Nat.lt_or_ge j i with h | h
    ·exact HIN.out j h
    ·have : j = i := by omega
     subst this; exact HIB.out, HL.out.below HBU.out HL.out.lt, HM.out.below HBU.out HM.out.lt, HB.out.trans (HBU.out.mono HB.out.size)⟩
   case measure => simp [intOf]; omega
  ·have hi6 : i = 6 := by omega
   have HR : Hid (R = true) := HY.out (fun j hj => HIN.out j (by omega))
   have hi2 : ¬ (i : Int) < 6 := by omega
   clear hi6
   go_wp2_with fail
   go_ret
   rw [HR.out]
   exact ⟨rfl, HB.out⟩
end Go.Proofs.YtpkkfdmhbbipoaaGreat
