/- FlowBounds: for all plays the law answers true. No condition. -/
import Derived.Test.YtpkkfdmhbbipoaaGreatFk
import Derived.Test.YtpkkfdmhbbipoaaGreatFj
import Derived.Test.YtpkkfdmhbbipoaaGreatFh
import Derived.Deep.MidRow
import Derived.Test.YtpkkfdmhbbipoaaGreatMi
import Derived.Test.YtpkkfdmhbbipoaaGreatEb
namespace Go.Proofs.YtpkkfdmhbbipoaaGreat
set_option maxRecDepth 100000
set_option maxHeartbeats 16000000
open Go.RowKit PopT
theorem Zl7 (p : Zv) (hok : Uz p) : Uz (Xj p 9) ∧ (Xj p 9).ops.length ≤ 9 ∧ (∀ o ∈ (Xj p 9).ops, o.arms.length ≤ 10) ∧ ∀ o ∈ (Xj p 9).ops, ∀ a ∈ o.arms, a.pat.size ≤ 1000000 := by
 refine ⟨Zgc p 9 hok, ?_, fun o ho => ?_, fun o ho a ha => ?_⟩
 ·show ((p.ops.take 9).map Jg).length ≤ 9
  rw [List.length_map, List.length_take]; omega
 ·obtain ⟨o', _, rfl⟩ := List.mem_map.1 ho
  show ((o'.arms.take 10).map Qq).length ≤ 10;rw [List.length_map, List.length_take]; omega
 ·obtain ⟨o', _, rfl⟩ := List.mem_map.1 ho
  obtain ⟨a', _, rfl⟩ := List.mem_map.1 ha;have := Zci 70 a'.pat;show (Jn 70 a'.pat).size ≤ 1000000;omega
theorem Zpl (p : Zv) (hok : Uz p) {W : World} {A : Option Addr} (h : Vj W A (Xj p 9).ops) : Zbd (Xj p 9) A W := by
 obtain ⟨h1, h2, h3, h4⟩ := Zl7 p hok;exact ⟨h, h1, h4, fun o ho => by have := h3 o ho; omega, aa⟩
theorem Ziu (p : Zv) (hok : Uz p) {W : World} {A : Option Addr} (h : Vj W A (Xj p 9).ops) : Vg (Xj p 9) A W := by
 obtain ⟨h1, h2, h3, h4⟩ := Zl7 p hok;exact ⟨h, aa, h1.1, fun o ho => by have := h3 o ho; omega⟩
theorem Zb7.belowF {w w' : World} {x : Nr} {A B : Option Addr} {k : Nat} (h : Zb7 w x A B k) (hb : Below w.heap.size w w') : Zb7 w' x A B k := by
 obtain ⟨h1, h2, h3, h4, h5, h6, h7, h8⟩ := h;exact ⟨h1.below hb, h2, h3, h4.below hb, h5, h6, h7, h8⟩
theorem Zrd (l : List Xr) (i : Nat) (x : Xr) (hi : l[i]? = some x) (j : Nat) (hj : j < 6) : (Vn l)[i * 6 + j]? = x.row[j]? := by
 induction l generalizing i with
 | nil => simp at hi
 | cons m l ih =>
  have e : Vn (m :: l) = m.row ++ Vn l := rfl;have hm : m.row.length = 6 := rfl;rw [e];cases i with
  | zero =>
   simp at hi; subst hi;rw [Nat.zero_mul, Nat.zero_add, List.getElem?_append_left aa]
  | succ i =>
   rw [List.getElem?_append_right aa, hm, show (i + 1) * 6 + j - 6 = i * 6 + j from aa, ih i (by simpa using hi)]
theorem Zer (A : Option Addr) (c : Nat) (B : Option Addr) (k : Nat) (x : Nr) (w : World) (hx : Zb7 w x A B k) :
  Calls Tryz.prog 10 #[x.val A c B k] w fun e w' => e = .returned (.bool true) ∧ Below w.heap.size w w' := by
 have CRU : Hid (∀ W, Below w.heap.size w W → Calls Tryz.prog 58 #[x.val A c B k] W fun e w' => Zl8 x.s (Xj x.p 9) W e w') := fun W hb => Zmj A c B k x W (hx.belowF hb)
 have CFP : Hid (∀ W, Below w.heap.size w W → Calls Tryz.prog 26 #[x.p.val (.slice A x.p.ops.length c), .int .i64 9] W fun e w' => ∃ A' c', e = .returned ((Xj x.p 9).val (.slice A' (Xj x.p 9).ops.length c')) ∧ Vj w' A' (Xj x.p 9).ops ∧ Below W.heap.size W w') := fun W hb =>
  (Zhy x.p A c 9 W (hx.ops.below hb) hx.pok aa).mono fun e w' ⟨A', c', h1, h2, h3⟩ => ⟨A', c', h1, h2.inn rfl, h3⟩
 have CRR : Hid (∀ W A c, Vj W A (Xj x.p 9).ops → Calls Tryz.prog 36 #[(Xj x.p 9).val (.slice A (Xj x.p 9).ops.length c)] W fun e w' => ∃ v, e = .returned v ∧ IO W.heap.size w' v (Wz (Xj x.p 9)) ∧ Below W.heap.size W w') := fun W A c h => Zgl (Zpl x.p hx.pok h);have CM : Hid (∀ W A c, Vj W A (Xj x.p 9).ops → Calls Tryz.prog 29 #[x.s.val, (Xj x.p 9).val (.slice A (Xj x.p 9).ops.length c)] W fun e w' => e = .returned (.int .i64 (Kp x.s (Xj x.p 9))) ∧ Below W.heap.size W w') := fun W A c h => Zfw x.s (Ziu x.p hx.pok h);have CLV := hid (fun W => Zil W)
 have HBQ : Hid (∀ W e w', Zl8 x.s (Xj x.p 9) W e w' → Below W.heap.size W w' ∧ (e = .returned (.tuple #[.slice none 0 0, .int .i64 0, .bool false]) ∨
   ∃ (v : Value) (l : List Xr) (n : Nat), e = .returned (.tuple #[v, (n : Int), .bool true]) ∧ w'.ownsRow W.heap.size 51 6 v l.length (Vn l) ∧ l.length ≤ 360 ∧ n ≤ 3840 ∧ (l.length : Int) ≤ Kp x.s (Xj x.p 9) + n ∧ (∀ y ∈ l, (y.loc : Int) ∈ Wz (Xj x.p 9)))) := fun W e w' h => by
  obtain ⟨h1, h2 | ⟨v, y, l, n, h2, h3, h4, h5, h6, h7⟩⟩ := h
  ·exact ⟨h1, .inl h2⟩
  ·exact ⟨h1, .inr ⟨v, l, n, h2, h3, h4, h5, h7.most h6, fun y hy => h7.reach h6 y hy⟩⟩
 have HMB : Hid (0 ≤ Kp x.s (Xj x.p 9) ∧ Kp x.s (Xj x.p 9) ≤ 1000000000) := by
  by_cases h0 : Wo x.s (Xj x.p 9) = 0
  ·unfold Kp; rw [if_pos h0]; exact ⟨Int.le_refl _, aa⟩
  ·obtain ⟨h1, h2, h3, h4, h5⟩ := Zql x.s (Xj x.p 9) h0
   rw [Hid, h2];have a1 : 0 ≤ Wo x.s (Xj x.p 9) * ((Xj x.p 9).jumps + 1) := Int.mul_nonneg aa aa;have a2 : Wo x.s (Xj x.p 9) * ((Xj x.p 9).jumps + 1) ≤ 60000 * 1001 := Int.mul_le_mul h5 aa aa aa;rw [Int.mul_assoc]; omega
 have HRL := hid (Zjw (Xj x.p 9));obtain ⟨M, hM⟩ := nE (Kp x.s (Xj x.p 9));obtain ⟨RL, hRL⟩ := nE (Wz (Xj x.p 9));rw [hM, hRL] at HBQ;rw [hM] at CM HMB;rw [hRL] at CRR HRL;obtain ⟨RQ, hRQ⟩ : ∃ y : World → Ending → World → Prop, Zl8 x.s (Xj x.p 9) = y := ⟨_, rfl⟩;rw [hRQ] at CRU HBQ;obtain ⟨s, p, now, l, ask⟩ := x;unfold Nr.val;unfold Nr.val at CRU;simp only at CRU CFP CRR CM ⊢;obtain ⟨n, hnn⟩ := nE (l.length);obtain ⟨m, hmm⟩ := nE (p.ops.length);obtain ⟨pf, hpf⟩ := nE (Xj p 9);rw [hnn, hmm];rw [hnn, hmm] at CRU;rw [hmm] at CFP;rw [hpf] at CFP CRR CM;clear hx hnn hmm hpf hM hRL hRQ;obtain ⟨lv, rg, wn, ou, qu, vi⟩ := s;obtain ⟨nm, dl, jp, ops⟩ := p;obtain ⟨nm2, dl2, jp2, ops2⟩ := pf;unfold Vk.val at CM;unfold Zv.val at CFP CRR CM;simp only at CRU CFP CRR CM ⊢;obtain ⟨m2, hm2⟩ := nE (ops2.length);rw [hm2] at CFP CRR CM;clear hm2;go_enter Tryz.func10, Tryz.ntmps10;go_upto_region 1 with fail;generalize hwz : w.alloc (.cells #[lv, rg, wn, ou, qu, vi, nm, dl, jp, .slice A m c, now, .slice B n k, ask] 29) = wz;have HXX := bn hwz;have HB := ba hwz;obtain ⟨gx, hgx⟩ := nE (w.heap.size);have HGX := hid hgx;rw [hgx] at HXX ⊢;clear hwz hgx;have CB := hid (CRU.out wz HB.out);clear CRU;have x0 := cA HXX.out 0 lv rfl;have x1 := cA HXX.out 1 rg rfl;have x2 := cA HXX.out 2 wn rfl;have x3 := cA HXX.out 3 ou rfl;have x4 := cA HXX.out 4 qu rfl;have x5 := cA HXX.out 5 vi rfl;have x6 := cA HXX.out 6 nm rfl;have x7 := cA HXX.out 7 dl rfl;have x8 := cA HXX.out 8 jp rfl;have x9 := cA HXX.out 9 (.slice A m c) rfl;have x10 := cA HXX.out 10 now rfl;have x11 := cA HXX.out 11 (.slice B n k) rfl;have x12 := cA HXX.out 12 ask rfl;have xl := HXX.lt;go_wp2_with fail;refine CB.mono ?_;intro en w2 hq;obtain ⟨hb, hq⟩ := HBQ.out _ _ _ hq;have HX2 := bb HXX hb;have HB2 := bt HB hb;have HSZ : Hid (w.heap.size ≤ wz.heap.size ∧ gx < wz.heap.size) := ⟨HB.size, HXX.lt⟩;clear hb CB HBQ HXX HB x0 x1 x2 x3 x4 x5 x6 x7 x8 x9 x10 x11 x12 xl;rcases hq with rfl | ⟨v, li, nb, rfl, hown, hli, hnb, hmo, hre⟩
 ·go_wp2_with fail
  refine (CLV.out _).mono ?_;rintro en w4 ⟨rfl, hb⟩;have HB4 := bt HB2 hb;clear hb;go_wp2_with fail;go_ret;exact ⟨rfl, HB4.out⟩
 have HMO := hid hmo; have HLI := hid hli; have HNB := hid hnb; have HRE := hid hre; have HOW := hid hown;clear hmo hli hnb hre hown;have C1 := hid (CFP.out w2 HB2.out);have x6 := cA HX2.out 6 nm rfl;have x7 := cA HX2.out 7 dl rfl;have x8 := cA HX2.out 8 jp rfl;have x9 := cA HX2.out 9 (.slice A m c) rfl;have xl := HX2.lt;go_wp2_with fail;refine C1.mono ?_;rintro en w3 ⟨A1, c1, rfl, ho, hb⟩;have HO3 := hid ho;have HX3 := bb HX2 hb;have HW3 := hid (Zt HOW.out hb);have HB3 := bt HB2 hb;clear ho hb C1 x6 x7 x8 x9 xl HX2 HOW HB2;go_upto_region 5 with fail;generalize hw4 : w3.alloc (.cells #[nm2, dl2, jp2, .slice A1 m2 c1] 26) = w4;have HP4 := bn hw4;have hb4 : Below w3.heap.size w3 w4 := hw4 ▸ (Below.refl _ _).alloc (Nat.le_refl _) _;have HX4 := bb HX3 hb4;have HW4 := hid (Zt HW3.out hb4);have HB4 := bt HB3 hb4;have HO4 := hid (HO3.below hb4);obtain ⟨gq, hgq⟩ := nE (w3.heap.size);rw [hgq] at HP4 ⊢;clear hw4 hb4 hgq HX3 HW3 HB3 HO3;have C2 := hid (CRR.out w4 A1 c1 HO4.out);obtain ⟨q0, q1, q2, q3⟩ := Xw HP4.out;have ql := HP4.lt;go_wp2_with fail;refine C2.mono ?_;rintro en w5 ⟨v5, rfl, hio, hb⟩;have HX5 := bb HX4 hb;have HW5 := hid (Zt HW4.out hb);have HB5 := bt HB4 hb;have HIO := hid hio;clear hb C2 q0 q1 q2 q3 ql HX4 HW4 HB4 HO4 HP4 CRR hio;obtain ⟨A5, c5, rfl, hrd⟩ := Wk HIO.out;have HRI := hid hrd;obtain ⟨A6, c6, rfl, hrd6⟩ := Wk HW5.out;have HRW := hid hrd6;clear hrd hrd6 HIO HW5;have CFD : Hid (∀ (z : Int) W, Below w5.heap.size w5 W → Calls Tryz.prog 59 #[.slice A5 RL.length c5, z] W fun e w' => ∃ k : Int, e = .returned k ∧ (z ∈ RL → ¬ k < 0) ∧ Below W.heap.size W w') := fun z W hb => Zne z W (HRI.below hb) (by have := HRL.out; omega);obtain ⟨rl, hrl⟩ := nE (RL.length);rw [hrl] at CFD ⊢;obtain ⟨nl, hnl⟩ := nE (li.length);have HNL := hid hnl;rw [hnl] at HMO HLI ⊢;clear hrl hnl HRL HRI;go_wp2_with fail
 go_loopw [8] (fun iv wr => ∃ i : Nat, i ≤ nl ∧ iv = .int .i64 (i : Int) ∧ Below w5.heap.size w5 wr) (fun iv _ => nl - (intOf iv).toNat)
 case atStart => exact ⟨0, aa, rfl, Below.refl _ _⟩
 case round =>
  obtain ⟨i, hi, rfl, hbr⟩ := hrel;have HBR := hid hbr;clear hbr;by_cases hlt : i < nl
  ·have h1 : i < li.length := by rw [HNL.out]; exact hlt
   have hget : li[i]? = some (li[i]'h1) := List.getElem?_eq_getElem h1;have hin := HRE.out _ (List.getElem_mem h1);obtain ⟨bl, off, rfl, hbl, hcc⟩ := (HRW.below HBR.out).at (by rw [Zc7]; omega);have c1' : wr.cell? ⟨bl, off + (i * 6 + 1), none⟩ = some (.int .i64 ((li[i]'h1).loc : Int)) := hcc _ _ ((Zrd li i _ hget 1 aa).trans rfl);obtain ⟨z, hz⟩ : ∃ y : Int, (((li[i]'h1).loc : Nat) : Int) = y := ⟨_, rfl⟩;rw [hz] at c1' hin;simp only [← Nat.add_assoc] at c1';have HIN := hid hin;have hi2 : (i : Int) < (nl : Int) := aa
   have hi3 : i ≤ 360 := by have := HLI.out; omega
   have CP := hid (CFD.out z wr HBR.out);clear hz hcc hget h1 hin;go_wp2_with fail;refine CP.mono ?_;rintro en w7 ⟨kf, rfl, hkf, hb⟩;have hk0 : ¬ kf < 0 := by have := hkf HIN.out; omega
   have HB7 : Hid (Below w5.heap.size w5 w7) := HBR.trans (hb.mono HBR.size);clear hb hkf CP c1' hbl;go_wp2_with fail;go_roundw
   case rel => exact ⟨i + 1, aa, al, HB7.out⟩
   case measure => simp [intOf]; omega
  ·have hi2 : ¬ (i : Int) < (nl : Int) := by omega
   have HXR := bb HX5 HBR;have HBw := bt HB5 HBR;have hsum : IntKind.i64.wrap (M + (nb : Int)) = M + (nb : Int) := by have h1 := HMB.out; have h2 := HNB.out; exact IntWalk.i64_in _ aa
   have hle : decide ((nl : Int) ≤ M + (nb : Int)) = true := decide_eq_true HMO.out;have X0 := tA HXR.out 0 lv rfl;have X1 := tA HXR.out 1 rg rfl;have X2 := tA HXR.out 2 wn rfl;have X3 := tA HXR.out 3 ou rfl;have X4 := tA HXR.out 4 qu rfl;have X5 := tA HXR.out 5 vi rfl;have X6 := tA HXR.out 6 nm rfl;have X7 := tA HXR.out 7 dl rfl;have X8 := tA HXR.out 8 jp rfl;have X9 := tA HXR.out 9 (.slice A m c) rfl;clear HBR HX5 HB5;go_upto_region 11 with fail;refine Zy wr.heap.size [] (.val 0 (.val 1 (.val 2 (.val 3 (.val 4 (.val 5 (.val 8 (.op 6 (.op 7 (.val 9 (.val 10 (.val 11 (.op 12 (.val 13 (.val 14 (.nil)))))))))))))))) ab ab ?_;obtain ⟨wc, hwc, HBW⟩ := dw wr;rw [hwc];clear hwc
   iterate 7 ((first | refine Zf rfl rfl ?_ | refine Yf rfl rfl (Yy HBW.out) ?_); go_big_quiet_step (fail); refine wpQuiet_nil ?_)
   refine Zc rfl ?_;have CQ := hid (CFP.out wc (HBw.trans (HBW.mono HBw.size)));go_wp2_with fail;refine CQ.mono ?_;rintro en wn ⟨A7, c7, rfl, ho7, hb⟩;have HBWn : Hid (Below wr.heap.size wr wn) := HBW.trans (hb.mono HBW.size);have HO7 := hid ho7;clear ho7;clear HBW hb CQ;have HBW := HBWn;clear HBWn;obtain ⟨wc, hwc⟩ := mE wn;subst hwc;go_wp2_with fail;refine KT.keep (Yy HBW.out) ?_;refine Zc rfl ?_;have CQ := hid (CM.out wc A7 c7 HO7.out);go_wp2_with fail;refine CQ.mono ?_;rintro en wn ⟨rfl, hb⟩;have HBWn : Hid (Below wr.heap.size wr wn) := HBW.trans (hb.mono HBW.size);clear HBW hb CQ;have HBW := HBWn;clear HBWn;obtain ⟨wc, hwc⟩ := mE wn;subst hwc;go_wp2_with fail;refine KT.keep (Yy HBW.out) ?_
   iterate 3 (refine Zf rfl rfl ?_; go_big_quiet_step (fail); refine wpQuiet_nil ?_)
   refine Zc rfl ?_;have CQ := hid (CLV.out wc);go_wp2_with fail;refine CQ.mono ?_;rintro en wn ⟨rfl, hb⟩;have HBWn : Hid (Below wr.heap.size wr wn) := HBW.trans (hb.mono HBW.size);clear HBW hb CQ;have HBW := HBWn;clear HBWn;obtain ⟨wc, hwc⟩ := mE wn;subst hwc;go_wp2_with fail;refine KT.keep (Yy HBW.out) ?_
   iterate 2 (refine Zf rfl rfl ?_; go_big_quiet_step (fail); refine wpQuiet_nil ?_)
   refine Zw ?_;go_wp2_with fail
   try go_ret
   exact ⟨rfl, HBw.trans (HBW.mono HBw.size)⟩
open Go.ChangeShapes Go.WideShapes Go.ChangeAt Go.WideElems Go.Deep
open Go.ChangeMaps (open_string shut_string)
theorem flowBounds_lifted (os : Os) (started : os.Started) (H : Type) (enc : TypeId × Value → H) :
  ReturnsInHanded {} Tryz.checked os 10 .any (Rows.flowBoundsSpec.pre6 enc Tryz.prog Tryz.f10 [] false) (Rows.flowBoundsSpec.post enc Tryz.prog Tryz.f10 false true false false) := by
 refine law_lifted 10 Tryz.f10 Rows.flowBoundsSpec os started H enc Tryz.func10 ab ab ab rfl (fun ds h => ?_)
  (ChangeSpec.witness6 (enc := enc) (C := Tryz.checked) false ⟨#[], #[.agg #[.int .i64 0, .int .i64 0, .int .i64 0, .int .i64 0, .int .i64 0, .int .i64 0, .string ⟨#[]⟩, .int .i64 0, .int .i64 0, .slice none 0 0, .int .i64 0, .slice none 0 0, .int .i64 0]], []⟩ 8 ab ab ab ab) ?_
 ·have hn : ds.length = 1 := h
  match ds, hn with
  | [d0], _ => rfl
 ·intro W args ds p base hval hA _ _
  rw [show Tryz.f10.params.toList = [29] from by rw [Tryz.params10]] at hval hA;obtain ⟨v0, _, d0, _, p0, _, rfl, rfl, rfl, h0, hA⟩ := Zp5 hA;obtain rfl := Zqz hA;obtain ⟨x0, A0, c0, B0, k0, rfl, hx0⟩ := Zeq (hval 0 _ v0 rfl rfl) h0;exact Zer A0 c0 B0 k0 x0 W hx0
theorem flowBounds_holds : Rows.FlowBoundsSaid :=
 OpenClaim.holds_of_wide 10 Tryz.f10 rfl rfl rfl rfl rfl rfl rfl ⟨rfl, rfl, rfl, rfl, rfl⟩ rfl rfl rfl rfl rfl ab Tryz.func10 ab
  (of_decide_eq_true ab) (by unfold Func.isWrapper; first | (rw [if_pos (by decide +kernel)]; kernel_rfl) | (rw [if_neg (by decide +kernel)]; exact ⟨rfl, rfl⟩))
  (fun os started H enc _ => flowBounds_lifted os started H enc)
#print axioms flowBounds_holds
end Go.Proofs.YtpkkfdmhbbipoaaGreat
