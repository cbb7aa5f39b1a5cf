/- The arguments of a law, opened: what comes to a dialogue, a play, what inputs came to. Walks: the reference's Good of a setup; light setups. Walks: inputs, somewhat cut; lists that are one. -/
import Derived.Test.YtpkkfdmhbbipoaaGreatEa
namespace Go.Proofs.YtpkkfdmhbbipoaaGreat
set_option maxRecDepth 100000
set_option maxHeartbeats 4000000
open Go.ChangeShapes Go.WideShapes Go.ChangeAt Go.RowKit Go.WideElems Go.Deep
structure Zeu where
 s : Uk
 p : Xl
 now : Int
 l : List InV
 ask : Int
def Zeu.val (x : Zeu) (A : Option Addr) (c : Nat) (B : Option Addr) (k : Nat) : Value := .agg #[x.s.live, x.s.ring, x.s.win, x.s.out, x.s.quan, x.s.vis, x.p.name, x.p.deadline, x.p.jumps, .slice A x.p.ops.length c,
 .int .i64 x.now, .slice B x.l.length k, .int .i64 x.ask]
structure Zom (w : World) (x : Zeu) (A : Option Addr) (B : Option Addr) (k : Nat) : Prop where
 ops : Ug w A x.p.ops
 pok : Jb x.p
 now : I6 x.now
 rd : Rd w B (Yt x.l)
 len : x.l.length ≤ 9223372036854775807
 iok : ∀ i ∈ x.l, i.ok
 ask : I6 x.ask
 cap : x.l.length ≤ k
section
variable {H : Type} {enc : TypeId × Value → H}
theorem Zbq : Tryz.prog.cellsOf 46 = 4 := by kernel_rfl
theorem Zat : Tryz.prog.cellsOf 23 = 6 := by kernel_rfl
theorem Zfw : Tryz.prog.cellsOf 27 = 1 := by kernel_rfl
theorem Zdi : Tryz.prog.cellsOf 29 = 13 := by kernel_rfl
theorem Zo6 {W : World} {fuel : Nat} {cs : List Value} {x : DataW H × List MemPlace} (h : DataW.trod enc Tryz.prog W 0 (fun _ => true) true fuel 46 cs = some x) : ∃ i : InV, i.cells = cs ∧ i.ok := by
 obtain ⟨xs, n, _, _, hl, _, hf⟩ := DataW.trod_struct Tryz.underlying46 h;rw [Zbq] at hl;have hlen : xs.length = 4 := ie
 match xs, hlen with
 | [y0, y1, y2, y3], _ =>
  match cs, hl with
  | [c0, c1, c2, c3], _ =>
   have h0 := hf 0 _ rfl;have h1 := hf 1 _ rfl;have h2 := hf 2 _ rfl;have h3 := hf 3 _ rfl;simp [Jl, Qg, Jm] at h0 h1 h2 h3;obtain ⟨z0, e0, _, w0⟩ := DataW.trod_int Tryz.underlying3 h0;obtain ⟨z1, e1, _, w1⟩ := DataW.trod_string Tryz.underlying9 h1;obtain ⟨z2, e2, _, w2⟩ := DataW.trod_int Tryz.underlying3 h2;obtain ⟨z3, e3, _, w3⟩ := DataW.trod_int Tryz.underlying2 h3;simp at e0 e1 e2 e3;unfold maxLen at w1;exact ⟨⟨z0, z1, z2, z3⟩, by rw [e0, e1, e2, e3]; rfl, by simpa using w1, Kl w2, Kl w3⟩
theorem Znb {W : World} {fuel : Nat} {cs : List Value} {x : DataW H × List MemPlace} (h : DataW.trod enc Tryz.prog W 0 (fun _ => true) true fuel 23 cs = some x) : ∃ s : Uk, cs = [.int .i64 s.live, .int .i64 s.ring, .int .i64 s.win, .int .i64 s.out, .int .i64 s.quan, .int .i64 s.vis] := by
 obtain ⟨xs, n, _, _, hl, _, hf⟩ := DataW.trod_struct Tryz.underlying23 h;rw [Zat] at hl;have hlen : xs.length = 6 := ie
 match xs, hlen with
 | [y0, y1, y2, y3, y4, y5], _ =>
  match cs, hl with
  | [c0, c1, c2, c3, c4, c5], _ =>
   have h0 := hf 0 _ rfl;have h1 := hf 1 _ rfl;have h2 := hf 2 _ rfl;have h3 := hf 3 _ rfl;have h4 := hf 4 _ rfl;have h5 := hf 5 _ rfl;simp [Qg] at h0 h1 h2 h3 h4 h5;obtain ⟨z0, e0, _, w0⟩ := DataW.trod_int Tryz.underlying3 h0;obtain ⟨z1, e1, _, w1⟩ := DataW.trod_int Tryz.underlying3 h1;obtain ⟨z2, e2, _, w2⟩ := DataW.trod_int Tryz.underlying3 h2;obtain ⟨z3, e3, _, w3⟩ := DataW.trod_int Tryz.underlying3 h3;obtain ⟨z4, e4, _, w4⟩ := DataW.trod_int Tryz.underlying3 h4;obtain ⟨z5, e5, _, w5⟩ := DataW.trod_int Tryz.underlying3 h5;simp at e0 e1 e2 e3 e4 e5;exact ⟨⟨z0, z1, z2, z3, z4, z5⟩, by rw [e0, e1, e2, e3, e4, e5]⟩
theorem Zo7 {t e : TypeId} (ht : Tryz.prog.underlying t = some (.slice e)) {W : World} {fuel : Nat} {cs : List Value} {x : DataW H × List MemPlace} {A : Option Addr} {n c : Nat}
  (h : DataW.trod enc Tryz.prog W 0 (fun _ => true) true fuel t cs = some x) (hc : cs = [.slice A n c]) : n ≤ c := by
 rcases open_slice ht h with ⟨hcs, hx⟩ | ⟨a, len, cap, m, n', D, Pl, hcs, _, hl, hm, hmm, hx, hi⟩
 ·rw [hc] at hcs
  simp at hcs;omega
 ·rw [hc] at hcs
  simp at hcs;omega
theorem Zpm {W : World} {A : Option Addr} {k : Nat} {css : List (List Value)} (hk : css.length = k) (hq : ∀ q ∈ css, q.length = 4 ∧ ∃ m y, DataW.trod enc Tryz.prog W 0 (fun _ => true) true m 46 q = some y) (hr : Rd W A css.flatten) :
  ∃ l : List InV, l.length = k ∧ Rd W A (Yt l) ∧ ∀ i ∈ l, i.ok := by
 obtain ⟨xs, hxs, hok⟩ := Zam InV.cells InV.ok css (fun q hq' => by obtain ⟨_, m, y, ht⟩ := hq q hq'; exact Zo6 ht);refine ⟨xs, by rw [← hk, ← hxs, List.length_map], ?_, hok⟩;rw [Yt, List.flatMap_def, hxs]; exact hr
theorem Zk4 {W : World} {fuel : Nat} {cs : List Value} {x : DataW H × List MemPlace} (h : DataW.trod enc Tryz.prog W 0 (fun _ => true) true fuel 26 cs = some x) :
  ∃ (p : Xl) (A : Option Addr) (c : Nat), cs = [.string p.name, .int .i64 p.deadline, .int .i64 p.jumps, .slice A p.ops.length c] ∧ Ug W A p.ops ∧ Jb p := by
 obtain ⟨xs, n, _, _, hl, _, hf⟩ := DataW.trod_struct Tryz.underlying26 h;rw [Mo] at hl;have hlen : xs.length = 4 := ie
 match xs, hlen with
 | [y0, y1, y2, y3], _ =>
  match cs, hl with
  | [c0, c1, c2, c3], _ =>
   have h0 := hf 0 _ rfl;have h1 := hf 1 _ rfl;have h2 := hf 2 _ rfl;have h3 := hf 3 _ rfl;simp [Jl, Qg, Jm, Zfv] at h0 h1 h2 h3;obtain ⟨z0, e0, _, w0⟩ := DataW.trod_string Tryz.underlying9 h0;obtain ⟨z1, e1, _, w1⟩ := DataW.trod_int Tryz.underlying2 h1;obtain ⟨z2, e2, _, w2⟩ := DataW.trod_int Tryz.underlying3 h2;obtain ⟨A, k, c, css, e3, hk, hk2, hq, hr⟩ := Zc8 Tryz.underlying24 Zbp aa h3;simp at e0 e1 e2 e3;unfold maxLen at w0;obtain ⟨os, hos, hin, hok⟩ := Zo4 hk hq hr;refine ⟨⟨z0, z1, z2, os⟩, A, c, ?_, hin, by simpa using w0, Kl w1, Kl w2, ?_, hok⟩
   ·rw [e0, e1, e2, e3, ← hos]
   ·show os.length ≤ _; omega
theorem Zfr {W : World} {base : Nat} {v : Value} {d : DataW H} {ps : List MemPlace} (hval : Value.okWide Tryz.prog W .any base 29 v) (h : DataW.Trod enc Tryz.prog W 0 (fun _ => true) true 29 v d ps) :
  ∃ (x : Zeu) (A : Option Addr) (c : Nat) (B : Option Addr) (k : Nat), v = x.val A c B k ∧ Zom W x A B k := by
 simp only [Value.okWide, Tryz.underlying29] at hval;obtain ⟨cs, rfl, hs, _⟩ := hval;obtain ⟨fuel, hf⟩ := h;obtain ⟨l⟩ := cs;rw [Zdi] at hs
 match l, hs with
 | [c0, c1, c2, c3, c4, c5, c6, c7, c8, c9, c10, c11, c12], _ =>
  obtain ⟨xs, n, _, _, hl, hlen, hf⟩ := DataW.trod_struct Tryz.underlying29 hf;have hlen : xs.length = 5 := hlen
  match xs, hlen with
  | [y0, y1, y2, y3, y4], _ =>
   have h0 := hf 0 _ rfl;have h1 := hf 1 _ rfl;have h2 := hf 2 _ rfl;have h3 := hf 3 _ rfl;have h4 := hf 4 _ rfl;simp [Value.cells, Zat, Mo, Jm, Zfw] at h0 h1 h2 h3 h4;obtain ⟨s, es⟩ := Znb h0;obtain ⟨p, A, c, ep, hop, hpok⟩ := Zk4 h1;obtain ⟨z2, e2, _, w2⟩ := DataW.trod_int Tryz.underlying2 h2;obtain ⟨B, k, kc, css, e3, hk, hk2, hq, hr⟩ := Zc8 Tryz.underlying27 Zbq aa h3;have hcap := Zo7 Tryz.underlying27 h3 e3;obtain ⟨z4, e4, _, w4⟩ := DataW.trod_int Tryz.underlying2 h4;obtain ⟨li, hli, hrd, hiok⟩ := Zpm hk hq hr;simp at es ep e2 e3 e4;obtain ⟨a0, a1, a2, a3, a4, a5⟩ := es;obtain ⟨b0, b1, b2, b3⟩ := ep;refine ⟨⟨s, p, z2, li, z4⟩, A, c, B, kc, ?_, ⟨hop, hpok, Kl w2, hrd, by show li.length ≤ _; omega, hiok, Kl w4, by show li.length ≤ _; omega⟩⟩;show Value.agg #[c0, c1, c2, c3, c4, c5, c6, c7, c8, c9, c10, c11, c12] = _;rw [a0, a1, a2, a3, a4, a5, b0, b1, b2, b3, e2, e3, e4];simp only [Zeu.val, hli]
end
open PopT
def lI (s : Uk) (j : Nat) : Int := [s.live, s.ring, s.win, s.out, s.quan, s.vis].getD j 0
def mI (j : Nat) : Int := [1024, 4096, 4096, 4096, 1000000, 64].getD j 0
theorem Zpq (s : Uk) (h : ∀ j, j < 6 → inB (lI s j) (mI j) = true) : Wf s = true := by
 have h0 : inB s.live 1024 = true := h 0 aa;have h1 : inB s.ring 4096 = true := h 1 aa;have h2 : inB s.win 4096 = true := h 2 aa;have h3 : inB s.out 4096 = true := h 3 aa;have h4 : inB s.quan 1000000 = true := h 4 aa;have h5 : inB s.vis 64 = true := h 5 aa;unfold Wf; rw [h0, h1, h2, h3, h4, h5]; rfl
theorem Zq1 (s : Uk) (j : Nat) (hj : j < 6) (h : inB (lI s j) (mI j) = false) : Wf s = false := by
 cases hg : Wf s with
 | false => rfl
 | true =>
  unfold Wf at hg;simp only [Bool.and_eq_true] at hg;obtain ⟨⟨⟨⟨⟨h1, h2⟩, h3⟩, h0⟩, h4⟩, h5⟩ := hg
  have : inB (lI s j) (mI j) = true := by
   rcases Nat.lt_or_ge j 1 with h' | h'
   ·have : j = 0 := by omega
    subst this; exact h0
   rcases Nat.lt_or_ge j 2 with h' | h'
   ·have : j = 1 := by omega
    subst this; exact h1
   rcases Nat.lt_or_ge j 3 with h' | h'
   ·have : j = 2 := by omega
    subst this; exact h2
   rcases Nat.lt_or_ge j 4 with h' | h'
   ·have : j = 3 := by omega
    subst this; exact h3
   rcases Nat.lt_or_ge j 5 with h' | h'
   ·have : j = 4 := by omega
    subst this; exact h4
   have : j = 5 := aa
   subst this; exact h5
  rw [this] at h; cases h
theorem Zsh (s : Uk) (j : Nat) (hj : j < 6) : (#[s.live, s.ring, s.win, s.out, s.quan, s.vis] : Array Value)[j]? = some (.int .i64 (lI s j)) := by
 match j, hj with
 | 0, _ => rfl
 | 1, _ => rfl
 | 2, _ => rfl
 | 3, _ => rfl
 | 4, _ => rfl
 | 5, _ => rfl
theorem Zsf (j : Nat) (hj : j < 6) : (#[.int .i64 1024, .int .i64 4096, .int .i64 4096, .int .i64 4096, .int .i64 1000000, .int .i64 64] : Array Value)[j]? = some (.int .i64 (mI j)) := by
 match j, hj with
 | 0, _ => rfl
 | 1, _ => rfl
 | 2, _ => rfl
 | 3, _ => rfl
 | 4, _ => rfl
 | 5, _ => rfl
theorem N42{P:Prop}(h:P:=by
 go_upto_region 5 with fail;refine Zh wr.heap.size ab ab ?_
 repeat (go_big_quiet_step (fail))
 refine wpQuiet_nil ?_;intro wu hqu;have HBU : Hid (Below wr.heap.size wr wu) := ak
 clear hqu TL TM;go_wp2_with fail;go_ret;rw [HR.out];exact ⟨rfl, HB.trans (HBU.mono HB.size)⟩):P:=h
theorem Zfj (s : Uk) (w : World) : Calls Tryz.prog 60 #[s.val] w fun e w' => e = .returned (.bool (Wf s)) ∧ Below w.heap.size w w' := by
 have HY := hid (Zpq s);have HNO := hid (Zq1 s);have HLI := hid (Zsh s);obtain ⟨R, hR⟩ := nE (Wf s);rw [hR] at HY HNO ⊢;obtain ⟨f, hf⟩ := nE (lI s);rw [hf] at HY HNO HLI;obtain ⟨lv, rg, wn, ou, qu, vi⟩ := s;unfold Uk.val;simp only at HLI ⊢;clear hR hf;obtain ⟨wa, hwa⟩ := nE (((w.alloc (.cells #[lv, rg, wn, ou, qu, vi] 23)).alloc (.cells #[lv, rg, wn, ou, qu, vi] 3)).alloc (.cells #[.int .i64 1024, .int .i64 4096, .int .i64 4096, .int .i64 4096, .int .i64 1000000, .int .i64 64] 3));have HBA : Hid (Below w.heap.size w wa) := hwa ▸ Qq _ _ _ _;have HLA : Hid (Blk wa (w.heap.size + 1) 3 #[lv, rg, wn, ou, qu, vi]) := hwa ▸ (Gz _ _ _ _).alloc _;have HMA : Hid (Blk wa (w.heap.size + 2) 3 #[.int .i64 1024, .int .i64 4096, .int .i64 4096, .int .i64 4096, .int .i64 1000000, .int .i64 64]) := hwa ▸ Zj4 _ _ _ _ _;have HWA := hid hwa;clear hwa;obtain ⟨g, m, hg, hmi⟩ : ∃ g m : Nat → Int, g = f ∧ m = mI := ⟨_, _, rfl, rfl⟩;have HMI := hid Zsf;rw [← hg] at HY HNO HLI;rw [← hmi] at HY HNO HMI;clear hg hmi;go_enter Tryz.func60, Tryz.ntmps60;go_upto_region 2 with fail;have e2 : w.heap.size + 1 + 1 = w.heap.size + 2 := rfl
 try rw [e2]
 rw [HWA.out];clear e2 HWA;obtain ⟨gl, hgl⟩ := nE (w.heap.size + 1);obtain ⟨gm, hgm⟩ := nE (w.heap.size + 2);rw [hgl] at HLA ⊢;rw [hgm] at HMA ⊢;clear hgl hgm;have HZ : Hid (w.heap.size ≤ wa.heap.size) := HBA.size;go_wp2_with fail
 go_loopw [5] (fun iv wr => ∃ i : Nat, i ≤ 6 ∧ iv = .int .i64 (i : Int) ∧ (∀ j, j < i → inB (g j) (m j) = true) ∧ Blk wr gl 3 #[lv, rg, wn, ou, qu, vi] ∧ Blk wr gm 3 #[.int .i64 1024, .int .i64 4096, .int .i64 4096, .int .i64 4096, .int .i64 1000000, .int .i64 64] ∧ Below w.heap.size w wr) (fun iv _ => 6 - (intOf iv).toNat)
 case atStart => exact ⟨0, aa, rfl, fun j hj => aa, HLA.out, HMA.out, HBA.out⟩
 case round =>
  obtain ⟨i, hi, rfl, hin, hl, hm, hb⟩ := hrel;have HIN := hid hin; have HL := hid hl; have HM := hid hm; have HB := hid hb;have hlw : gl < wr.heap.size := hl.lt;have hmw : gm < wr.heap.size := hm.lt;clear hin hl hm hb HLA HMA HBA HZ;by_cases hlt : i < 6
  ·obtain ⟨a, ha⟩ := nE (g i)
   obtain ⟨b, hb⟩ := nE (m i);have TL : ∀ q : BW wr.heap.size wr, q.1.cell? ⟨gl, i, none⟩ = some (.int .i64 a) := fun q => q.cellAt hlw (by rw [← ha]; exact (HL.cell i).trans (HLI.out i hlt));have TM : ∀ q : BW wr.heap.size wr, q.1.cell? ⟨gm, i, none⟩ = some (.int .i64 b) := fun q => q.cellAt hmw (by rw [← hb]; exact (HM.cell i).trans (HMI.out i hlt));have HI2 : Hid (inB (g i) (m i) = inB a b) := by rw [Hid, ha, hb]
   have HLT := hid hlt;have hi2 : (i : Int) < 6 := aa
   clear ha hb hlw hmw;by_cases h1 : a < 1
   ·have HR : Hid (R = false) := HNO.out i HLT.out (by rw [HI2.out]; unfold inB; rw [decide_eq_false aa]; rfl)
    exact N42
   by_cases h2 : b < a
   ·have HR : Hid (R = false) := HNO.out i HLT.out (by rw [HI2.out]; unfold inB; rw [decide_eq_false (show ¬ a ≤ b by omega), Bool.and_false])
    exact N42
   have HIB : Hid (inB (g i) (m i) = true) := by rw [Hid, HI2.out]; unfold inB; rw [decide_eq_true (show 1 ≤ a by omega), decide_eq_true (show a ≤ b by omega)]; rfl
   go_upto_region 5 with fail;refine Zh wr.heap.size ab ab ?_
   repeat (go_big_quiet_step (fail))
   refine wpQuiet_nil ?_;intro wu hqu;have HBU : Hid (Below wr.heap.size wr wu) := ak
   clear hqu TL TM;go_wp2_with fail;go_roundw
   case rel => exact ⟨i + 1, aa, aw, fun j hj => by
    rcases Nat.lt_or_ge j i with h | h
    ·exact HIN.out j h
    ·have : j = i := by omega
     subst this; exact HIB.out, HL.below HBU.out HL.lt, HM.below HBU.out HM.lt, HB.trans (HBU.mono HB.size)⟩
   case measure => simp [intOf]; omega
  ·have hi6 : i = 6 := by omega
   have HR : Hid (R = true) := HY.out (fun j hj => HIN.out j aa);have hi2 : ¬ (i : Int) < 6 := aa
   clear hi6;go_wp2_with fail;go_ret;rw [HR.out];exact ⟨rfl, HB.out⟩
def My (s : Uk) : Bool := !Wf s || decide (s.win < 33) && decide (s.ring < 65)
theorem Zjk (s : Uk) (w : World) : Calls Tryz.prog 39 #[s.val] w fun e w' => e = .returned (.bool (My s)) ∧ Below w.heap.size w w' := by
 have CG := hid (fun W => Zfj s W);have HE : Hid (My s = (!Wf s || decide (s.win < 33) && decide (s.ring < 65))) := rfl;obtain ⟨R, hR⟩ := nE (My s);obtain ⟨b, hb⟩ := nE (Wf s);rw [hR, hb] at HE;rw [hR];rw [hb] at CG;obtain ⟨lv, rg, wn, ou, qu, vi⟩ := s;unfold Uk.val at CG ⊢;simp only at CG HE ⊢;clear hR hb;obtain ⟨wa, hwa⟩ := nE (w.alloc (.cells #[lv, rg, wn, ou, qu, vi] 23));have HBA := ba hwa;have HSA := bn hwa;have HWA := hid hwa;clear hwa;obtain ⟨gx, hgx⟩ := nE (w.heap.size);have HGX := hid hgx;rw [hgx] at HSA;clear hgx;obtain ⟨x0, x1, x2, x3, x4, x5⟩ := Yk HSA.out;have hlx := HSA.lt;go_enter Tryz.func39, Tryz.ntmps39;go_upto_region 1 with fail;rw [HWA.out, HGX.out];clear HWA;have CG1 := hid (CG.out wa);go_wp2_with fail;refine CG1.mono ?_;rintro en w1 ⟨rfl, hb⟩;have HB1 := bt HBA hb;have HS1 := bb HSA hb;clear hb x0 x1 x2 x3 x4 x5 hlx CG CG1 HSA HBA;obtain ⟨x0, x1, x2, x3, x4, x5⟩ := Yk HS1.out;have hlx := HS1.lt;cases b
 ·have HR : Hid (R = true) := HE.out
  go_wp2_with fail;go_ret;rw [HR.out]; exact ⟨rfl, HB1.out⟩
 by_cases h1 : wn < 33
 ·have HR : Hid (R = decide (rg < 65)) := by rw [Hid, HE.out, decide_eq_true h1]; simp
  go_wp2_with fail;go_ret;rw [HR.out]; exact ⟨rfl, HB1.out⟩
 ·have HR : Hid (R = false) := by rw [Hid, HE.out, decide_eq_false h1]; rfl
  go_wp2_with fail;go_ret;rw [HR.out]; exact ⟨rfl, HB1.out⟩
def Zqi (i : InV) : InV := ⟨i.kind, Kk 16 i.b, i.n, i.tick⟩
def Uy (l : List InV) (most : Nat) : List InV := (l.take most).map Zqi
theorem Zq8 {i : InV} (h : i.ok) : (Zqi i).ok := ⟨by have := Za8 16 i.b; show (Kk 16 i.b).size ≤ _; omega, h.2⟩
theorem Zq5 {l : List InV} (h : ∀ i ∈ l, i.ok) (most : Nat) : ∀ i ∈ Uy l most, i.ok := by
 intro i hi;obtain ⟨j, hj, rfl⟩ := List.mem_map.1 hi;exact Zq8 (h j (List.mem_of_mem_take hj))
theorem Zjr (l : List InV) (most : Nat) : (Uy l most).length ≤ most := by unfold Uy; rw [List.length_map, List.length_take]; omega
theorem Zj2 : (Tryz.prog.info? 46).map (fun i => (i.zero, i.size, i.bytes)) = some (some (.agg #[.int .i64 0, .string ⟨#[]⟩, .int .i64 0, .int .i64 0]), 4, 40) := by kernel_rfl
theorem N103{P:Prop}(h:P:=by
 go_wp2_with fail;go_ret;rw [HRN.2, HRN.1];exact ⟨ga, c', rfl, by rw [HGB.out]; exact HO.out, HB.out⟩):P:=h
theorem Znu (A : Option Addr) (n c : Nat) (l : List InV) (most : Nat) (w : World) (hl : l.length = n) (hr : Rd w A (Yt l)) (hi : ∀ i ∈ l, i.ok) (hm : most ≤ 1000) :
  Calls Tryz.prog 15 #[.slice A n c, (most : Int)] w fun e w' => ∃ g c', e = .returned (.slice (some ⟨g, 0, none⟩) (Uy l most).length c') ∧ w'.ownsRow w.heap.size 46 4 (.slice (some ⟨g, 0, none⟩) (Uy l most).length c') (Uy l most).length (Yt (Uy l most)) ∧ Below w.heap.size w w' := by
 have HL := hid hl; have HI := hid hi;have HRB : Hid (∀ W, Below w.heap.size w W → Rd W A (Yt l)) := fun W hb => hr.below hb;have HF : Hid (Uy l most = (l.take most).map Zqi) := rfl;obtain ⟨R, hR⟩ := nE (Uy l most);rw [hR] at HF ⊢;clear hl hi hr hR;obtain ⟨w1, hw1⟩ := nE (w.alloc (.cells #[] 46));have HB1 := ba hw1
 have HO1 : Hid (w1.ownsRow w.heap.size 46 4 (.slice (some ⟨w.heap.size, 0, none⟩) 0 0) 0 []) := by
  rw [Hid, ← hw1];have := World.ownsRow_made (base := w.heap.size) (e := 46) (size := 4) w #[] 0 (Nat.le_refl _) cd ah;simpa using this
 have HWA := hid hw1;clear hw1;obtain ⟨gb, hgb⟩ := nE (w.heap.size);have HGB := hid hgb;rw [hgb] at HO1;clear hgb;go_enter Tryz.func15, Tryz.ntmps15;go_upto_region 2 with fail;rw [HWA.out, HGB.out];clear HWA;go_wp2_with fail
 go_loopw [6, 5] (fun iv ov wr => ∃ (i c' ga : Nat), i ≤ n ∧ i ≤ most ∧ iv = .int .i64 (i : Int) ∧ ov = .slice (some ⟨ga, 0, none⟩) i c' ∧ wr.ownsRow gb 46 4 (.slice (some ⟨ga, 0, none⟩) i c') i (Yt (Uy l i)) ∧ Below w.heap.size w wr) (fun iv _ _ => n - (intOf iv).toNat)
 case atStart => exact ⟨0, 0, gb, aa, aa, rfl, rfl, HO1.out, HB1.out⟩
 case round =>
  obtain ⟨i, c', ga, hi, him, rfl, rfl, hown, hb⟩ := hrel;have HB := hid hb; have HO := hid hown;have hsz : gb ≤ wr.heap.size := by have := HGB.out; have := hb.size; omega
  have HSZ := hid hsz;clear hown hb HO1 HB1 hsz;by_cases hlt : i < n
  ·by_cases hlm : i < most
   ·have hli : i < l.length := by rw [HL.out]; exact hlt
    have hget : l[i]? = some (l[i]'hli) := List.getElem?_eq_getElem hli;have hTK : Uy l (i + 1) = Uy l i ++ [Zqi (l[i]'hli)] := by unfold Uy; rw [List.take_succ_eq_append_getElem hli, List.map_append]; rfl
    have hII := HI.out _ (List.getElem_mem hli);obtain ⟨iv, hiv⟩ := nE (l[i]'hli);rw [hiv] at hget hTK hII;obtain ⟨bl, off, rfl, hbl, hcc⟩ := (HRB.out wr HB.out).at (by rw [Kn]; omega);have hc : ∀ j u, j < 4 → iv.cells[j]? = some u → wr.cell? ⟨bl, off + (i * 4 + j), none⟩ = some u := fun j u hj hu => hcc _ u ((Zkc l i iv hget j hj).trans hu);obtain ⟨ik, ib, inn, it⟩ := iv;have c0 := hc 0 _ aa rfl;have c1 := hc 1 _ aa rfl;have c2 := hc 2 _ aa rfl;have c3 := hc 3 _ aa rfl;simp only [Nat.add_zero, ← Nat.add_assoc] at c0 c1 c2 c3;have CC : Hid (∀ W, Calls Tryz.prog 62 #[ib, .int .i64 16] W fun e w' => e = .returned (.string (Kk 16 ib)) ∧ W = w') := fun W => Zep ib 16 W hII.1 aa;have HTL : Hid (Yt (Uy l (i + 1)) = Yt (Uy l i) ++ [.int .i64 ik, .string (Kk 16 ib), .int .i64 inn, .int .i64 it]) := by rw [Hid, hTK, Zeh]; rfl
    obtain ⟨cb, hcb⟩ := nE (Kk 16 ib);rw [hcb] at CC HTL;have hi2 : (i : Int) < (n : Int) := aa
    have hm2 : (i : Int) < (most : Int) := aa
    clear hget hTK hII hiv hc hcc hli hcb;go_upto_region 6 with fail;obtain ⟨w2, hw2⟩ := nE (wr.alloc (.cells #[ik, ib, inn, it] 46));have HI2 := bn hw2;have HB2 := ba hw2;rw [hw2];clear hw2 c0 c1 c2 c3 hbl;have HO2 := hid (Yc HO.out HB2.out);have HB3 := hid (HB.trans (HB2.mono HB.size));have HNE : Hid (∀ k, (Value.slice (some ⟨ga, 0, none⟩) i c').ownBlock = some k → k ≠ wr.heap.size) := fun k hk e => by have := (HO.lt k hk).2; omega
    have HSW : Hid (w.heap.size ≤ wr.heap.size) := HB.size;obtain ⟨gi, hgi⟩ := nE (wr.heap.size);rw [hgi] at HI2 HNE HSW ⊢;obtain ⟨i0, i1, i2, i3⟩ := Wc HI2.out;have y1 := HI2.frozen 1;have hlI := HI2.lt;clear hgi HB HO HB2;go_wp2_with fail;refine (CC.out _).mono ?_;rintro en w2' ⟨rfl, rfl⟩;go_upto_region 7 with fail;obtain ⟨w3, hw3, hb3, hk3⟩ := Blk.put HI2.out 1 (.string cb);rw [hw3];have HI3 : Hid (Blk w3 gi 46 #[ik, cb, inn, it]) := hb3;have HO3 : Hid (w3.ownsRow gb 46 4 (.slice (some ⟨ga, 0, none⟩) i c') i (Yt (Uy l i))) := hk3.out.own HO2.out (fun k hv e => HNE.out k hv e);have HB4 : Hid (Below w.heap.size w w3) := HB3.trans (hk3.out.below HB3.size (fun k (e : k = gi) => by rw [e]; exact HSW.out));have hs3 : gb ≤ w3.heap.size := by have := HB4.size; have := HGB.out; omega
    clear hw3 hb3 hk3 i0 i1 i2 i3 y1 hlI HI2 HO2 HB3 HNE CC HSZ;obtain ⟨i0, i1, i2, i3⟩ := Wc HI3.out;have hlI := HI3.lt;go_wp2_with (at_builtin; refine Wb _ rfl _ _ 27 rfl gb 46 _ 4 40 Tryz.underlying27 Zj2 rfl ac _ _ _ rfl HO3.out 1 [ik, cb, inn, it] rfl rfl rfl ?_ ac hs3 ?_)
    ·omega
    intro g5 c5 w5 hown5 hk5 hf5
    have HO5 : Hid (w5.ownsRow gb 46 4 (.slice (some ⟨g5, 0, none⟩) (i + 1) c5) (i + 1) (Yt (Uy l (i + 1)))) := by
     rw [Hid, HTL.out]; exact hown5
    have HB5 : Hid (Below w.heap.size w w5) := HB4.trans (hk5.below HB4.size (fun k hk => by have := (HO3.lt k hk).1; have := HGB.out; omega));clear hown5 hk5 hf5 HO3 HB4 hs3 HTL HI3 i0 i1 i2 i3 hlI HSW;go_wp2_with fail;go_roundw
    case rel => exact ⟨i + 1, c5, g5, aa, aa, aw, rfl, HO5.out, HB5.out⟩
    case measure => simp [intOf]; omega
   ·have hi2 : (i : Int) < (n : Int) := by omega
    have hm2 : ¬ (i : Int) < (most : Int) := aa
    have HRN : Hid (R = Uy l i ∧ R.length = i) := by
     have e : i = most := aa
     have e2 : R = Uy l i := by rw [HF.out, e]; rfl
     exact ⟨e2, jx⟩
    exact N103
  ·have hi2 : ¬ (i : Int) < (n : Int) := by omega
   have HRN : Hid (R = Uy l i ∧ R.length = i) := by
    have e2 : R = Uy l i := by rw [HF.out]; unfold Uy; rw [List.take_of_length_le (show l.length ≤ most by rw [HL.out]; omega), List.take_of_length_le (show l.length ≤ i by rw [HL.out]; omega)]
    exact ⟨e2, jx⟩
   exact N103
end Go.Proofs.YtpkkfdmhbbipoaaGreat
