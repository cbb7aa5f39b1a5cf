/- Law 24's run: the steps of a dialogue. -/
import Derived.Test.YtpkkfdmhbbipoaaGreatFj
import Derived.Test.YtpkkfdmhbbipoaaGreatEb
import Derived.Test.YtpkkfdmhbbipoaaGreatDk
import Derived.Deep.CutBlock
import Derived.Deep.DeepCutAuto
namespace Go.Proofs.YtpkkfdmhbbipoaaGreat
set_option maxRecDepth 20000
set_option maxHeartbeats 16000000
open Go.RowKit PopT
def Xr.row (x : Xr) : List Value := [x.tick, (x.loc : Int), (x.what : Int), (x.arm : Int), (x.n : Int), (x.st : Int)]
def Vn (l : List Xr) : List Value := l.flatMap Xr.row
theorem Zc7 (l : List Xr) : (Vn l).length = l.length * 6 := by
 induction l with
 | nil => rfl
 | cons x l ih => simp only [Vn, List.flatMap_cons, List.length_append, List.length_cons] at *; rw [ih]; simp [Xr.row]; omega
theorem Zc8 (a b : List Xr) : Vn (a ++ b) = Vn a ++ Vn b := by simp [Vn]
theorem Zg6 : (Tryz.prog.info? 51).map (fun i => (i.zero, i.size, i.bytes)) = some (some (.agg zs), 6, 48) := by kernel_rfl
theorem Zea {P : Program} {fn : Func} {tmps : Array Value} {W : World} {t1 t2 t3 : Nat} {v1 v2 v3 : Value} (h1 : tmps.getD t1 undef = v1) (h2 : tmps.getD t2 undef = v2) (h3 : tmps.getD t3 undef = v3) (hr : fn.results = #[.tmp t1, .tmp t2, .tmp t3]) : (results fn tmps).run P W = .ok (.tuple #[v1, v2, v3]) W := by
 unfold results; rw [hr]; subst h1; subst h2; subst h3;simp only [List.mapM_toArray, List.mapM_cons, List.mapM_nil, bind_pure_comp, Sem.run_bind, Sem.run_map];rfl
def erF (s : Vk) (p : Zv) : Nat := if Ww s = false then 1 else if (Wd p).2 ≠ 0 then 2 else 0
structure Nd (B d b1 : Nat) (G0 : Nat → Prop) (w0 w6 wr : World) (x : Zb) (F : Nat → Prop) (ov : Value) (l : List Xr) : Prop where
 dial : Zo B F w0 wr d x
 own : wr.ownsRow b1 51 6 ov l.length (Vn l)
 keep : Za G0 w6 wr
 sub : ∀ k, F k → G0 k ∨ w6.heap.size ≤ k
 osub : ∀ k, ov.ownBlock = some k → G0 k ∨ w6.heap.size ≤ k
 dis : ∀ k, ov.ownBlock = some k → ¬ F k
 fit : Fit x
section
variable {B d b1 : Nat} {G0 F : Nat → Prop} {w0 w6 wr w' : World} {x y : Zb} {ov ov' : Value} {l l' : List Xr}
theorem Nd.next (h : Nd B d b1 G0 w0 w6 wr x F ov l) (hd : Zo B (Fup F wr w') w0 w' d y) (hk : Za F wr w') (hf : Fit y) : Nd B d b1 G0 w0 w6 w' y (Fup F wr w') ov l := by
 refine ⟨hd, hk.own h.own (fun k hv hF => h.dis k hv hF), h.keep.trans hk h.sub, ?_, h.osub, ?_, hf⟩
 ·rintro k (hk2 | hk2)
  ·exact h.sub k hk2
  ·exact .inr (Nat.le_trans h.keep.size hk2.1)
 ·rintro k hv (hk2 | hk2)
  ·exact h.dis k hv hk2
  ·exact Nat.lt_irrefl _ (Nat.lt_of_lt_of_le (h.own.lt k hv).2 hk2.1)
theorem Nd.below (h : Nd B d b1 G0 w0 w6 wr x F ov l) (hb : Below wr.heap.size wr w') : Nd B d b1 G0 w0 w6 w' x F ov l :=
 ⟨h.dial.below hb, Zt h.own hb, h.keep.trans (Za.of_below (F := G0) hb) (fun _ => .inl), h.sub, h.osub, h.dis, h.fit⟩
theorem Nd.app (h : Nd B d b1 G0 w0 w6 wr x F ov l) (hB : B ≤ b1) (hk : Za (fun k => ov.ownBlock = some k) wr w') (ho : w'.ownsRow b1 51 6 ov' l'.length (Vn l')) (hg : ∀ k, ov'.ownBlock = some k → ov.ownBlock = some k ∨ wr.heap.size ≤ k) : Nd B d b1 G0 w0 w6 w' x F ov' l' := by
 refine ⟨h.dial.own hB h.own h.dis hk, ho, h.keep.trans hk h.osub, h.sub, fun k hv => ?_, fun k hv hF => ?_, h.fit⟩
 ·rcases hg k hv with h1 | h1
  ·exact h.osub k h1
  ·exact .inr (Nat.le_trans h.keep.size h1)
 ·rcases hg k hv with h1 | h1
  ·exact h.dis k h1 hF
  ·exact Nat.lt_irrefl _ (Nat.lt_of_lt_of_le (h.dial.fin k hF).2 h1)
end
def Zl8 (s : Vk) (p : Zv) (w : World) (e : Ending) (w' : World) : Prop := Below w.heap.size w w' ∧ (e = .returned (.tuple #[.slice none 0 0, .int .i64 0, .bool false]) ∨
 ∃ (v : Value) (x : Zb) (l : List Xr) (n : Nat), e = .returned (.tuple #[v, (n : Int), .bool true]) ∧ w'.ownsRow w.heap.size 51 6 v l.length (Vn l) ∧ l.length ≤ 360 ∧ n ≤ 3840 ∧ Ye x ∧ Jh s p x l n)
theorem J50{P:Prop}(h:P:=by
 go_wp2_with fail;refine bodyPost_ret (Zea rfl rfl rfl Tryz.results58) rfl ?_;exact HQ.out _ _ ⟨HB3.out, .inl rfl⟩):P:=h
theorem Zmj (A : Option Addr) (c : Nat) (B : Option Addr) (k : Nat) (x : Nr) (w : World) (hx : Zb7 w x A B k) :
  Calls Tryz.prog 58 #[x.val A c B k] w fun e w' => Zl8 x.s (Xj x.p 9) w e w' := by
 obtain ⟨hop, hpok, hnow, hrd, -, hiok, -, -⟩ := hx
 have CFP : Hid (∀ W, Below w.heap.size w W → Calls Tryz.prog 26 #[x.p.val (.slice A x.p.ops.length c), .int .i64 9] W fun e w' => ∃ A' c', e = .returned ((Xj x.p 9).val (.slice A' (Xj x.p 9).ops.length c')) ∧ Wu W.heap.size w' (.slice A' (Xj x.p 9).ops.length c') (Xj x.p 9).ops ∧ Below W.heap.size W w') := fun W hb =>
  Zhy x.p A c 9 W (hop.below hb) hpok aa
 have HER : Hid (erF x.s (Xj x.p 9) = if Ww x.s = false then 1 else if (Wd (Xj x.p 9)).2 ≠ 0 then 2 else 0) := rfl;have HGS : Hid (erF x.s (Xj x.p 9) = 0 → Ww x.s = true) := fun h => by unfold erF at h; split at h; cases h; rename_i h2; simpa using h2
 have HNV : Hid (erF x.s (Xj x.p 9) = 0 → Ye (Ko x.s (Xj x.p 9) x.now)) := fun h => by
  refine Zl3 _ _ _ (HGS.out h) ?_ (Zgc x.p 9 hpok) hnow;unfold erF at h; split at h; cases h; split at h; cases h; rename_i h2; omega
 have HR0 : Hid (erF x.s (Xj x.p 9) = 0 → Fit ((Ko x.s (Xj x.p 9) x.now).come 0) ∧ Jh x.s (Xj x.p 9) ((Ko x.s (Xj x.p 9) x.now).come 0) [] 0) := fun h => ⟨Zqq (HNV.out h), Zok (HNV.out h)⟩
 have CDN : Hid (∀ W A' c' b0, Wu b0 W (.slice A' (Xj x.p 9).ops.length c') (Xj x.p 9).ops → Calls Tryz.prog 55 #[x.s.val, (Xj x.p 9).val (.slice A' (Xj x.p 9).ops.length c'), x.now] W fun e w' => Below W.heap.size W w' ∧ ∃ q, e = .returned (.tuple #[.pointer q, ((erF x.s (Xj x.p 9) : Nat) : Int)]) ∧
   (erF x.s (Xj x.p 9) = 0 → ∃ w0 d B F, q = some ⟨d, 0, none⟩ ∧ W.heap.size ≤ B ∧ Zo B F w0 w' d ((Ko x.s (Xj x.p 9) x.now).come 0))) := fun W A' c' b0 ho =>
  (Zps x.s (Xj x.p 9) A' c' b0 x.now W ho (Zgc x.p 9 hpok) hnow).mono (fun e w' h => by
   unfold Zbi at h;refine ⟨h.1, ?_⟩;have h2 := h.2;unfold erF;split at h2
   ·rename_i h3; rw [if_pos h3]; exact ⟨_, h2, fun h => ck⟩
   ·rename_i h3
    rw [if_neg h3];split at h2
    ·rename_i h4; rw [if_pos h4]; exact ⟨_, h2, fun h => ck⟩
    ·rename_i h4
     rw [if_neg h4];obtain ⟨w0, d, B, F, rfl, hB, hd⟩ := h2;exact ⟨_, rfl, fun _ => ⟨w0, d, B, F, rfl, hB, hd⟩⟩)
 have CGD : Hid (∀ W, Calls Tryz.prog 60 #[x.s.val] W fun e w' => e = .returned (.bool (Ww x.s)) ∧ Below W.heap.size W w') := fun W => Zkr x.s W
 have CFI : Hid (∀ W, Below w.heap.size w W → Calls Tryz.prog 15 #[.slice B x.l.length k, .int .i64 60] W fun e w' => ∃ g c', e = .returned (.slice (some ⟨g, 0, none⟩) (Ux x.l 60).length c') ∧ w'.ownsRow W.heap.size 46 4 (.slice (some ⟨g, 0, none⟩) (Ux x.l 60).length c') (Ux x.l 60).length (Xl (Ux x.l 60)) ∧ Below W.heap.size W w') := fun W hb =>
  Znn B x.l.length k x.l 60 W rfl (hrd.below hb) hiok aa
 have HIO : Hid (∀ i ∈ Ux x.l 60, i.ok) := Zqr hiok 60;have HLI : Hid ((Ux x.l 60).length ≤ 60) := Zit x.l 60;obtain ⟨Q, hQ⟩ : ∃ Q : Ending → World → Prop, (fun e w' => Zl8 x.s (Xj x.p 9) w e w') = Q := ⟨_, rfl⟩;have HQ : Hid (∀ e w', Zl8 x.s (Xj x.p 9) w e w' → Q e w') := fun e w' h => by rw [← hQ]; exact h
 rw [hQ];obtain ⟨X0, hX0⟩ := nE ((Ko x.s (Xj x.p 9) x.now).come 0);obtain ⟨er, her⟩ := nE (erF x.s (Xj x.p 9));rw [her, hX0] at CDN HR0;rw [her] at HGS;obtain ⟨gs, hgs⟩ := nE (Ww x.s);rw [hgs] at CGD HGS;obtain ⟨s, p, now, l, ask⟩ := x;obtain ⟨s2, hs2⟩ := mE s;have HS2 : Hid (s2.ring = s.ring) := by rw [hs2]; rfl
 unfold Nr.val;simp only at CFP CDN CFI HIO HLI HR0 HQ CGD ⊢;rw [← hs2] at HR0 HQ;obtain ⟨n, hnn⟩ := nE (l.length);obtain ⟨m, hmm⟩ := nE (p.ops.length);obtain ⟨pf, hpf⟩ := nE (Xj p 9);obtain ⟨li, hli⟩ := nE (Ux l 60);rw [hnn, hmm];rw [hmm] at CFP;rw [hnn, hli] at CFI;rw [hli] at HIO HLI;rw [hpf] at CFP CDN HR0 HQ;obtain ⟨ql, hql⟩ := nE (li.length);have HQL := hid hql;rw [hql] at CFI HLI;clear hop hpok hnow hrd hiok hnn hmm hpf hli hQ her hX0 hgs hs2 hql HER HNV;obtain ⟨lv, rg, wn, ou, qu, vi⟩ := s;obtain ⟨nm, dl, jp, ops⟩ := p;obtain ⟨nm2, dl2, jp2, ops2⟩ := pf;unfold Vk.val at CDN CGD;unfold Zv.val at CFP CDN;simp only at CFP CDN CGD HS2 ⊢;obtain ⟨m2, hm2⟩ := nE (ops2.length);rw [hm2] at CFP CDN;clear hm2;obtain ⟨pf, hpf⟩ : ∃ y : Zv, y = ⟨nm2, dl2, jp2, ops2⟩ := ⟨_, rfl⟩;rw [← hpf] at HR0 HQ;clear hpf;go_enter Tryz.func58, Tryz.ntmps58;go_upto_region 1 with fail;generalize hwz : w.alloc (.cells #[lv, rg, wn, ou, qu, vi, nm, dl, jp, .slice A m c, now, .slice B n k, ask] 29) = wz;have HXX := bn hwz;have HB := ba hwz;obtain ⟨gx, hgx⟩ := nE (w.heap.size);have HGX := hid hgx;rw [hgx] at HXX ⊢;clear hwz hgx;have X00 := tA HXX.out 0 lv rfl;have X1 := tA HXX.out 1 rg rfl;have X2 := tA HXX.out 2 wn rfl;have X3 := tA HXX.out 3 ou rfl;have X4 := tA HXX.out 4 qu rfl;have X5 := tA HXX.out 5 vi rfl;have X6 := tA HXX.out 6 nm rfl;have X7 := tA HXX.out 7 dl rfl;have X8 := tA HXX.out 8 jp rfl;have X9 := tA HXX.out 9 (.slice A m c) rfl;have X10 := tA HXX.out 10 now rfl;refine Zy wz.heap.size [] (.val 0 (.val 1 (.val 2 (.val 3 (.val 5 (.val 6 (.op 4 (.op 7 (.val 8 (.val 9 (.val 10 (.val 11 (.val 12 (.nil)))))))))))))) ab ab ?_;obtain ⟨wc, hwc, HBW⟩ := dw wz;rw [hwc];clear hwc
 iterate 6 ((first | refine Zf rfl rfl ?_ | refine Yf rfl rfl (Yy HBW.out) ?_); go_big_quiet_step (fail); refine wpQuiet_nil ?_)
 refine Zc rfl ?_;have CQ := hid (CFP.out wc (HB.trans (HBW.mono HB.size)));go_wp2_with fail;refine CQ.mono ?_;rintro en wn ⟨A2, c2, rfl, ho2, hb⟩;have HBWn : Hid (Below wz.heap.size wz wn) := HBW.trans (hb.mono HBW.size);have HO2 := hid (ho2.base HBW.size);clear HBW hb CQ ho2;have HBW := HBWn;clear HBWn;obtain ⟨wc, hwc⟩ := mE wn;subst hwc;go_wp2_with fail;refine KT.keep (Yy HBW.out) ?_;refine Zc rfl ?_;have CQ := hid (CDN.out wc A2 c2 _ HO2.out);go_wp2_with fail;refine CQ.mono ?_;rintro en wn ⟨hb, q, rfl, hd⟩
 have HDD : Hid (er = 0 → ∃ w0 d B F, q = some ⟨d, 0, none⟩ ∧ wz.heap.size ≤ B ∧ Zo B F w0 wn d X0) := fun h => by
  obtain ⟨w0, d, B, F, h1, h2, h3⟩ := hd h;exact ⟨w0, d, B, F, h1, Nat.le_trans HBW.size h2, h3⟩
 have HBWn : Hid (Below wz.heap.size wz wn) := HBW.trans (hb.mono HBW.size);clear HBW hb CQ hd HO2;have HBW := HBWn;clear HBWn;obtain ⟨wc, hwc⟩ := mE wn;subst hwc;go_wp2_with fail;refine KT.keep (Yy HBW.out) ?_
 iterate 5 (refine Zf rfl rfl ?_; go_big_quiet_step (fail); refine wpQuiet_nil ?_)
 refine Zw ?_;go_upto_region 2 with fail;obtain ⟨w2, hw2⟩ := mE wc;subst hw2;have HX2 := bb HXX HBW;have HB2 := bt HB HBW;have HS2Z : Hid (gx < wz.heap.size ∧ wz.heap.size ≤ w2.heap.size ∧ w.heap.size ≤ wz.heap.size) := ⟨HXX.lt, HBW.size, HB.size⟩;clear HXX HB HBW X00 X1 X2 X3 X4 X5 X6 X7 X8 X9 X10 CFP CDN;by_cases h0 : er = 0
 case neg =>
  have hb0 : ((er : Int) != 0) = true := af
  have HB3 := HB2;exact J50
 have hgs := HGS.out h0;subst hgs;have HFR := hid (HR0.out h0);obtain ⟨w0, d, B0, F0, rfl, hB, hd⟩ := HDD.out h0;have HD2 := hid hd;have HBB := hid hB;subst h0;clear hB hd HDD HGS HR0;have x0 := cA HX2.out 0 lv rfl;have x1 := cA HX2.out 1 rg rfl;have x2 := cA HX2.out 2 wn rfl;have x3 := cA HX2.out 3 ou rfl;have x4 := cA HX2.out 4 qu rfl;have x5 := cA HX2.out 5 vi rfl;have xl := HX2.lt;go_wp2_with fail;refine (CGD.out _).mono ?_;rintro en w3 ⟨rfl, hb⟩;have HX3 := bb HX2 hb;have HB3 := bt HB2 hb;have HD3 := hid (HD2.below hb);have HS3 : Hid (gx < w3.heap.size ∧ wz.heap.size ≤ w3.heap.size) := ⟨HX3.lt, Nat.le_trans HS2Z.2.1 hb.size⟩;clear hb x0 x1 x2 x3 x4 x5 xl HX2 HB2 HD2 CGD;have x1 := cA HX3.out 1 rg rfl;have x2 := cA HX3.out 2 wn rfl;have x11 := cA HX3.out 11 (.slice B n k) rfl;have xl := HX3.lt;by_cases hw32 : (32 : Int) < wn
 case pos =>
  exact J50
 have hwn : ¬ (32 : Int) < wn := hw32;by_cases hr64 : (64 : Int) < rg
 case pos =>
  exact J50
 have HRG : Hid (s2.ring ≤ 64) := by have := HS2.out; rw [Hid]; omega
 obtain ⟨wA, hwA⟩ := nE (w3.alloc (.cells #[] 51))
 have HOA : Hid (wA.ownsRow w3.heap.size 51 6 (.slice (some ⟨w3.heap.size, 0, none⟩) 0 0) 0 []) := by
  rw [Hid, ← hwA];have := World.ownsRow_made (base := w3.heap.size) (e := 51) (size := 6) w3 #[] 0 (Nat.le_refl _) ej ae;simpa using this
 have HBA := ba hwA;have HXA := bb HX3 HBA;have HWA := hid hwA;clear hwA;go_upto_region 4 with fail;go_wp2_with fail;rw [HWA.out];have HB4A := bt HB3 HBA;refine (CFI.out wA HB4A.out).mono ?_;rintro en w6 ⟨g, c6, rfl, hown, hb⟩;have HX6 := bb HXA hb;have HB6 := bt HB4A hb;have HO6 := hid (Zt HOA.out hb);have HD6 := hid (HD3.below (HBA.trans (hb.mono HBA.size)));have HNF : Hid (∀ k, F0 k → B0 ≤ k ∧ k < w3.heap.size) := HD3.fin;have HRD6 : Hid (Rd w6 (some ⟨g, 0, none⟩) (Xl li)) := Xb hown
 have HG6 : Hid (w3.heap.size < g ∧ g < w6.heap.size) := by
  have h1 := hown.lt g rfl;have h2 : wA.heap.size = w3.heap.size + 1 := by rw [← HWA.out]; simp
  rw [Hid]; omega
 have HS36 : Hid (w3.heap.size ≤ w6.heap.size ∧ B0 ≤ w3.heap.size ∧ w.heap.size ≤ B0) := ⟨Nat.le_trans HBA.size hb.size, HD3.base, by have := HBB.out; have := HB3.size; have := HS2Z.out; omega⟩;clear hown hb x1 x2 x11 xl HX3 HXA HD3 CFI HOA HBA HB4A HWA;clear wA;obtain ⟨b1, hb1⟩ := nE (w3.heap.size);rw [hb1] at HO6 HNF HG6 HS36 ⊢;clear hb1
 have HST : Hid (Nd B0 d b1 (fun k => F0 k ∨ k = b1) w0 w6 w6 X0 F0 (.slice (some ⟨b1, 0, none⟩) 0 0) []) := by
  refine ⟨HD6.out, HO6.out, Za.refl _ _, fun k h => .inl (.inl h), fun k h => .inl (.inr ?_), fun k h hF => ?_, HFR.1⟩
  ·have h2 : b1 = k := Option.some.inj h
   exact h2.symm
  ·have h2 : b1 = k := Option.some.inj h
   have := HNF.out k hF; omega
 have HRI0 := hid HFR.2;clear HD6 HO6 HFR;go_wp2_with fail
 go_loopw [10, 7, 8] (fun iv ov nv wr => ∃ (i : Nat) (x : Zb) (F : Nat → Prop) (l : List Xr) (n : Nat), i ≤ ql ∧ iv = .int .i64 (i : Int) ∧ nv = .int .i64 (n : Int) ∧ l.length ≤ 6 * i ∧ n ≤ 64 * i ∧ Jh s2 pf x l n ∧ Nd B0 d b1 (fun k => F0 k ∨ k = b1) w0 w6 wr x F ov l) (fun iv _ _ _ => ql - (intOf iv).toNat)
 case atStart => exact ⟨0, X0, F0, [], 0, aa, rfl, rfl, Nat.zero_le _, Nat.zero_le _, HRI0.out, HST.out⟩
 case round =>
  obtain ⟨i, x, F, l, n, hi, rfl, rfl, hll, hnl, hri, hlp⟩ := hrel;have HLL := hid hll; have HNL := hid hnl; have HRI := hid hri; have HLP := hid hlp;have HBR : Hid (Below w.heap.size w wr) := HB6.trans (hlp.keep.below HB6.size (fun k hk => by have := HS36.out; have := HNF.out; rcases hk with hk | hk; have := HNF.out k hk; omega; omega));clear hll hnl hri hlp HST HRI0;by_cases hlt : i < ql
  case neg =>
   have hlt2 : ¬ (i : Int) < (ql : Int) := aa
   go_wp2_with fail;refine bodyPost_ret (Zea rfl rfl rfl Tryz.results58) rfl ?_;refine HQ.out _ _ ⟨HBR.out, .inr ⟨_, x, l, n, rfl, Wg HLP.own (by have := HS36.out; omega), by have := HLL.out; have := HLI.out; omega, by have := HNL.out; have := HLI.out; omega, HLP.dial.ok, HRI.out⟩⟩
  case pos =>
  have hli : i < li.length := by rw [HQL.out]; exact hlt
  have hget : li[i]? = some (li[i]'hli) := List.getElem?_eq_getElem hli;have hII := HIO.out _ (List.getElem_mem hli);obtain ⟨iv, hiv⟩ := nE (li[i]'hli);rw [hiv] at hget hII;obtain ⟨ik, ib, inn, it⟩ := iv
  have HCL : Hid (∀ W, Za (fun k => F0 k ∨ k = b1) w6 W → W.cell? ⟨g, i * 4, none⟩ = some (.int .i64 ik) ∧ W.cell? ⟨g, i * 4 + 1, none⟩ = some (.string ib) ∧ W.cell? ⟨g, i * 4 + 2, none⟩ = some (.int .i64 inn) ∧ W.cell? ⟨g, i * 4 + 3, none⟩ = some (.int .i64 it) ∧ g < W.heap.size) := fun W hk => by
   obtain ⟨bl, off, hA, hbl, hcc⟩ := (hk.rd HRD6.out (fun a ha hf => by
    injection ha with ha; subst ha
    have h2 := HG6.out;rcases hf with hf | hf
    ·have h1 := HNF.out _ hf; simp only at h1; omega
    ·simp only at hf; omega)).at (by rw [Nf]; omega)
   injection hA with hA
   injection hA with hA1 hA2
   subst hA1; subst hA2;have hc : ∀ j u, j < 4 → (InV.mk ik ib inn it).cells[j]? = some u → W.cell? ⟨g, 0 + (i * 4 + j), none⟩ = some u := fun j u hj hu => hcc _ u ((Zn8 li i _ hget j hj).trans hu);have c0 := hc 0 _ aa rfl;have c1 := hc 1 _ aa rfl;have c2 := hc 2 _ aa rfl;have c3 := hc 3 _ aa rfl;simp only [Nat.add_zero, ← Nat.add_assoc, Nat.zero_add] at c0 c1 c2 c3;exact ⟨c0, c1, c2, c3, hbl⟩
  have HII : Hid (ib.size ≤ 9223372036854775807 ∧ I6 inn ∧ I6 it) := hII;have hi2 : (i : Int) < (ql : Int) := aa
  have hi60 : i ≤ 1000 := by have := HLI.out; omega
  clear hget hII hiv hli;obtain ⟨c0, c1, c2, c3, hbl⟩ := HCL.out wr HLP.keep;rcases Decidable.em (ik = 1) with k1 | k1
  ·have kb1 := bT k1
   have CP := hid (Zr5 HLP.dial ib HII.1);clear k1
   have hpl : (x.put ib).2 ≤ 64 := by
    have h1 := Zrf x ib;have h2 := HRG.out;rw [HRI.es] at h1; omega
   have hnb : n ≤ 100000 := by have := HNL.out; omega
   have HPL := hid hpl;obtain ⟨pt, hpt⟩ := nE ((x.put ib).2);rw [hpt] at CP hpl;have HPT := hid hpt;clear hpt;go_wp2_with fail;refine CP.mono ?_;rintro en w7 ⟨rfl, hd, hk⟩;have HR2 : Hid (Jh s2 pf ((x.put ib).1) l (n + (x.put ib).2)) := HRI.put ib;have HP2 := hid (HLP.next hd hk (Zqp HLP.fit _));have HL2 : Hid (l.length ≤ 6 * (i + 1)) := ei
   have HN2 : Hid (n + (x.put ib).2 ≤ 64 * (i + 1)) := by have := HNL.out; have := HPL.out; rw [Hid]; omega
   clear hd hk CP;go_wp2_with fail;go_roundw
   case rel => exact ⟨i + 1, (x.put ib).1, Fup F wr w7, l, n + (x.put ib).2, aa, al, (by rw [HPT.out, Int.natCast_add]), HL2.out, HN2.out, HR2.out, HP2.out⟩
   case measure => simp [intOf]; omega
  ·have kb1 := bF k1
   rcases Decidable.em (ik = 2) with k2 | k2
   ·have kb2 := bT k2
    have CP := hid (Zr6 HLP.dial);clear k1 k2;go_wp2_with fail;refine CP.mono ?_;rintro en w7 ⟨rfl, hd, hk⟩;have HR2 : Hid (Jh s2 pf (x.ends) l (n)) := HRI.same (Zk1 x HRI.fl);have HP2 := hid (HLP.next hd hk (Zpi HLP.fit));have HL2 : Hid (l.length ≤ 6 * (i + 1)) := ei
    have HN2 : Hid (n ≤ 64 * (i + 1)) := eh
    clear hd hk CP;go_wp2_with fail;go_roundw
    case rel => exact ⟨i + 1, x.ends, Fup F wr w7, l, n, aa, al, rfl, HL2.out, HN2.out, HR2.out, HP2.out⟩
    case measure => simp [intOf]; omega
   ·have kb2 := bF k2
    rcases Decidable.em (ik = 3) with k3 | k3
    ·have kb3 := bT k3
     have CP := hid (Zr2 HLP.dial inn);clear k1 k2 k3;go_wp2_with fail;refine CP.mono ?_;rintro en w7 ⟨rfl, hd, hk⟩;have HR2 : Hid (Jh s2 pf (x.take inn) l (n)) := HRI.same (Zjn x HRI.fl inn);have HP2 := hid (HLP.next hd hk (Zpe HLP.fit _));have HL2 : Hid (l.length ≤ 6 * (i + 1)) := ei
     have HN2 : Hid (n ≤ 64 * (i + 1)) := eh
     clear hd hk CP;go_wp2_with fail;go_roundw
     case rel => exact ⟨i + 1, x.take inn, Fup F wr w7, l, n, aa, al, rfl, HL2.out, HN2.out, HR2.out, HP2.out⟩
     case measure => simp [intOf]; omega
    ·have kb3 := bF k3
     rcases Decidable.em (ik = 4) with k4 | k4
     ·have kb4 := bT k4
      have CP := hid (Zr7 HLP.dial it HII.2.2);clear k1 k2 k3 k4;go_wp2_with fail;refine CP.mono ?_;rintro en w7 ⟨rfl, hd, hk⟩;have HR2 : Hid (Jh s2 pf (x.cuts it) l (n)) := HRI.same (Zla x HRI.fl it);have HP2 := hid (HLP.next hd hk (Zpk HLP.fit _));have HL2 : Hid (l.length ≤ 6 * (i + 1)) := ei
      have HN2 : Hid (n ≤ 64 * (i + 1)) := eh
      clear hd hk CP;go_wp2_with fail;go_roundw
      case rel => exact ⟨i + 1, x.cuts it, Fup F wr w7, l, n, aa, al, rfl, HL2.out, HN2.out, HR2.out, HP2.out⟩
      case measure => simp [intOf]; omega
     ·have kb4 := bF k4
      clear k1 k2 k3 k4;have HN2 : Hid (n ≤ 64 * (i + 1)) := eh
      go_wp2_with fail;clear c0 c1 c2 c3 hbl
      go_loopw [11, 7] (fun kv ov wq => ∃ (kk : Nat) (x2 : Zb) (F2 : Nat → Prop) (l2 : List Xr), kk ≤ 6 ∧ kv = .int .i64 (kk : Int) ∧ l2.length ≤ 6 * i + kk ∧ Jh s2 pf x2 l2 n ∧ Nd B0 d b1 (fun k => F0 k ∨ k = b1) w0 w6 wq x2 F2 ov l2) (fun kv _ _ => 6 - (intOf kv).toNat)
      case atStart => exact ⟨0, x, F, l, aa, rfl, by have := HLL.out; omega, HRI.out, HLP.out⟩
      case round =>
       obtain ⟨kk, x2, F2, l2, hkk, rfl, hl2, hr2, hp2⟩ := hrel;have HLL2 := hid hl2; have HRI2 := hid hr2; have HLP2 := hid hp2;clear hl2 hr2 hp2 HLL HNL HRI HLP HBR;by_cases hk6 : kk < 6
       case neg =>
        have hk62 : ¬ (kk : Int) < 6 := aa
        have HL2 : Hid (l2.length ≤ 6 * (i + 1)) := ij
        go_wp2_with fail;go_roundw
        case rel => exact ⟨i + 1, x2, F2, l2, n, aa, al, rfl, HL2.out, HN2.out, HRI2.out, HLP2.out⟩
        case measure => simp [intOf]; omega
       case pos =>
        have hk62 : (kk : Int) < 6 := aa
        have CP := hid (Zr3 HLP2.dial HLP2.fit it HII.2.2.2);have HSM := hid (HRI2.step HLP2.dial.ok HLP2.fit it HII.2.2.2);have HFS := hid (Zpf HLP2.dial.ok HLP2.fit it HII.2.2.2);obtain ⟨⟨x3, ⟨tk, lc, wh, ar, nn, ss⟩, dd⟩, hst⟩ : ∃ y, x2.step it = y := ⟨_, rfl⟩;rw [hst] at CP HSM HFS;unfold Xr.val at CP;simp only at CP HSM HFS;clear hst;obtain ⟨-, -, -, c3, hbl⟩ := HCL.out wr HLP2.keep;go_wp2_with fail;refine CP.mono ?_;rintro en w7 ⟨rfl, hd, hk⟩;have HL0 := hid (HLP2.next hd hk HFS.out);have hs7 : b1 ≤ w7.heap.size := by have h1 := HS36.out; have h2 := HLP2.keep.size; have h3 := hk.size; omega
        obtain ⟨F3, hF3⟩ : ∃ y, y = Fup F2 wr w7 := ⟨_, rfl⟩;rw [← hF3] at HL0;clear hd hk CP HLP2 HRI2 HFS hF3 c3 hbl;go_upto_region 13 with fail;generalize hw8 : w7.alloc (.cells #[tk, (lc : Int), (wh : Int), (ar : Int), (nn : Int), (ss : Int)] 51) = w8;have HS8 := bn hw8;have hb8 : Below w7.heap.size w7 w8 := hw8 ▸ (Below.refl _ _).alloc (Nat.le_refl _) _;have HL1 := hid (HL0.below hb8);have hs8 : b1 ≤ w8.heap.size := Nat.le_trans hs7 hb8.size;obtain ⟨gs, hgs⟩ := nE (w7.heap.size);rw [hgs] at HS8 ⊢;clear hw8 hb8 hs7 HL0 hgs;cases dd
        case false =>
         have HR3 := hid (HSM.1 rfl);have HL2 : Hid (l2.length ≤ 6 * (i + 1)) := ij
         go_wp2_with fail;go_roundw
         case rel => exact ⟨i + 1, x3, F3, l2, n, aa, al, rfl, HL2.out, HN2.out, HR3.out, HL1.out⟩
         case measure => simp [intOf]; omega
        case true =>
         have HR3 := hid (HSM.2 rfl);have s0 := HS8.cell 0;have s1 := HS8.cell 1;have s2' := HS8.cell 2;have s3 := HS8.cell 3;have s4 := HS8.cell 4;have s5 := HS8.cell 5;have sl := HS8.lt;go_wp2_with (at_builtin; refine Xf _ rfl _ _ 82 rfl b1 51 _ 6 48 Tryz.underlying82 Zg6 rfl ac _ _ _ rfl HL1.own 1 [tk, (lc : Int), (wh : Int), (ar : Int), (nn : Int), (ss : Int)] rfl rfl rfl ?_ ac hs8 ?_)
         ·have := HLL2.out; omega
         intro g5 c5 w9 hown5 hk5 hf5;obtain ⟨l3, hl3⟩ := nE (l2 ++ [(⟨tk, lc, wh, ar, nn, ss⟩ : Xr)]);have hlen : l3.length = l2.length + 1 := by rw [← hl3]; simp
         have HP3 := hid (HL1.app (l' := l3) HS36.2.1 hk5 (by rw [hlen, ← hl3, Zc8]; exact hown5) (fun k hv => by
          have h2 : g5 = k := Option.some.inj hv;rw [← h2]; exact hf5))
         have HL3 : Hid (l3.length ≤ 6 * i + (kk + 1)) := ij
         rw [hl3] at HR3;clear hown5 hk5 hf5 HL1 HS8 s0 s1 s2' s3 s4 s5 sl hs8 HSM HLL2 hlen hl3;go_wp2_with fail;go_roundw
         case rel => exact ⟨kk + 1, x3, F3, l3, aa, al, HL3.out, HR3.out, HP3.out⟩
         case measure => simp [intOf]; omega
end Go.Proofs.YtpkkfdmhbbipoaaGreat
