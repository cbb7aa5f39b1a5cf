/- Ticks: plain functions, and the walks of package tick: own, Own, Due. Ticks and deadlines: tick.Add, tick.Least, package due. -/
import Derived.Test.YtpkkfdmhbbipoaaGreatMa
import Derived.Test.YtpkkfdmhbbipoaaGreatMh
import Derived.Deep.Cut
namespace Go.Proofs.YtpkkfdmhbbipoaaGreat
set_option maxRecDepth 20000
set_option maxHeartbeats 400000
open Go.RowKit
def Xm : Int := 9223372036854775807
def Yx (t : Int) : Int := if t < 0 then 0 else t
def Wx (t now : Int) : Bool := decide (t ≠ Xm) && decide (Yx t ≤ Yx now)
theorem N95{P:Prop}(h:P:=by
 rw [e];go_enter Tryz.func138, Tryz.ntmps138
 go_wp2
 go_ret;exact ⟨kp, rfl⟩):P:=h
theorem Zcf (t : Int) (w : World) : Calls Tryz.prog 138 #[t] w fun e w' => e = .returned (.int .i64 (Yx t)) ∧ w = w' := by
 by_cases h : t < 0
 ·have e : Yx t = 0 := by unfold Yx; rw [if_pos h]
  have hm : max t 0 = 0 := aa
  exact N95
 ·have e : Yx t = t := by unfold Yx; rw [if_neg h]
  have hm : max t 0 = t := aa
  exact N95
theorem Zev (t : Int) (w : World) : Calls Tryz.prog 94 #[t] w fun e w' => e = .returned (.int .i64 (Yx t)) ∧ w = w' := by
 go_enter Tryz.func94, Tryz.ntmps94;go_wp2_with (go_at_call 138; refine (Zcf t _).mono ?_; rintro e w1 ⟨rfl, rfl⟩);go_ret;exact ⟨rfl, rfl⟩
theorem Zg5 (t now : Int) (w : World) : Calls Tryz.prog 150 #[t, now] w fun e w' => e = .returned (.bool (Wx t now)) ∧ w = w' := by
 by_cases h : t = 9223372036854775807
 ·have e : Wx t now = false := by unfold Wx Xm; simp [h]
  rw [e];have hb : (t != 9223372036854775807) = false := by simp [h]
  clear h e;go_enter Tryz.func150, Tryz.ntmps150
  go_wp2
  go_ret;exact ⟨rfl, rfl⟩
 ·have e : Wx t now = decide (Yx t ≤ Yx now) := by unfold Wx Xm; simp [h]
  rw [e];have hb : (t != 9223372036854775807) = true := by simp [h]
  clear h e;go_enter Tryz.func150, Tryz.ntmps150;go_wp2_with (first | (go_at_call 138; refine (Zcf _ _).mono ?_; rintro e w1 ⟨rfl, rfl⟩));go_ret;exact ⟨rfl, rfl⟩
def Zc2 (t d : Int) : Int := if Xm - Yx d ≤ Yx t then Xm else Yx t + Yx d
def Wt (l : List Int) : Int := l.foldl (fun a t => min a (Yx t)) Xm
def Yv (now n : Int) : Int := if n = Xm then Xm else Zc2 now n
structure Vk where
 til : Int
 lim : Int
 cut : Int
 deriving DecidableEq
def Vk.val (d : Vk) : Value := .agg #[d.til, d.lim, d.cut]
def Un (now last : Int) : Vk := ⟨Xm, Yv now last, Xm⟩
def Vk.wait (d : Vk) (now n : Int) : Vk := ⟨Yv now n, d.lim, d.cut⟩
def Vk.rest (d : Vk) : Vk := ⟨Xm, d.lim, d.cut⟩
def Vk.cuts (d : Vk) (at_ : Int) : Vk := ⟨d.til, d.lim, Wt [d.cut, at_]⟩
def Vk.first (d : Vk) : Int := Wt [d.til, d.lim, d.cut]
def Vk.over (d : Vk) (now : Int) : Nat := if Yx d.lim ≤ Yx d.cut ∧ Wx (Yx d.lim) now = true then 3 else if Yx d.cut < Yx d.lim ∧ Wx (Yx d.cut) now = true then 5 else 0
def I6 (x : Int) : Prop := -9223372036854775808 ≤ x ∧ x ≤ 9223372036854775807
theorem Jx {t : Int} (h : t ≤ 9223372036854775807) : 0 ≤ Yx t ∧ Yx t ≤ 9223372036854775807 := by
 unfold Yx; split <;> omega
theorem Zrv (t d : Int) (h1 : I6 t) (h2 : I6 d) : 0 ≤ Zc2 t d ∧ Zc2 t d ≤ 9223372036854775807 := by
 have a1 := Jx h1.2;have a2 := Jx h2.2;unfold Zc2 Xm; split <;> omega
theorem Zfl (t d : Int) (h1 : I6 t) (h2 : I6 d) : 0 ≤ Yv t d ∧ Yv t d ≤ 9223372036854775807 := by
 unfold Yv; split
 ·unfold Xm; omega
 ·exact Zrv t d h1 h2
theorem Zhm (l : List Int) (h : ∀ x ∈ l, I6 x) : ∀ a : Int, 0 ≤ a → a ≤ 9223372036854775807 → 0 ≤ l.foldl (fun a t => min a (Yx t)) a ∧ l.foldl (fun a t => min a (Yx t)) a ≤ 9223372036854775807 := by
 induction l with
 | nil => exact fun a h1 h2 => ⟨h1, h2⟩
 | cons x l ih =>
  intro a h1 h2;have := Jx (h x List.mem_cons_self).2;rw [List.foldl_cons];exact ih (fun y hy => h y (List.mem_cons_of_mem _ hy)) _ aa aa
theorem Zn0 (l : List Int) (h : ∀ x ∈ l, I6 x) : 0 ≤ Wt l ∧ Wt l ≤ 9223372036854775807 := Zhm l h _ (by unfold Xm; omega) (by unfold Xm; omega)
theorem N63{P:Prop}(h:P:=by
 go_enter Tryz.func165, Tryz.ntmps165;go_wp2_with fail;refine (C1.out _).mono ?_;rintro e w1 ⟨rfl, rfl⟩;go_wp2_with fail;refine (C2.out _).mono ?_;rintro e w1 ⟨rfl, rfl⟩;go_wp2_with fail;go_ret;exact ⟨rfl, rfl⟩):P:=h
theorem Zqw (t d : Int) (w : World) (h1 : I6 t) (h2 : I6 d) : Calls Tryz.prog 165 #[t, d] w fun e w' => e = .returned (.int .i64 (Zc2 t d)) ∧ w = w' := by
 have a1 := Jx h1.2;have a2 := Jx h2.2;have C1 := hid (fun W => Zcf t W);have C2 := hid (fun W => Zcf d W);unfold Zc2;obtain ⟨a, ha⟩ := nE (Yx t);obtain ⟨b, hb⟩ := nE (Yx d);rw [ha] at C1 a1 ⊢;rw [hb] at C2 a2 ⊢;obtain ⟨a11, a12⟩ := a1;obtain ⟨a21, a22⟩ := a2;clear ha hb h1 h2;by_cases hc : 9223372036854775807 - b ≤ a
 ·rw [show (if Xm - b ≤ a then Xm else a + b) = 9223372036854775807 from if_pos hc]
  exact N63
 ·rw [show (if Xm - b ≤ a then Xm else a + b) = a + b from if_neg hc]
  have hc2 : a + b ≤ 9223372036854775807 := aa
  exact N63
theorem Zdw (l : List Int) (x : Int) : Wt (l ++ [x]) = min (Wt l) (Yx x) := by
 unfold Wt; rw [List.foldl_append]; rfl
theorem Zff (A : Option Addr) (n c : Nat) (l : List Int) (w : World) (hl : l.length = n) (hn : n ≤ 100000) (hr : Rd w A (Vc l)) :
  Calls Tryz.prog 110 #[.slice A n c] w fun e w' => e = .returned (.int .i64 (Wt l)) ∧ w = w' := by
 have HL := hid hl; have HR := hid hr;clear hl hr;go_enter Tryz.func110, Tryz.ntmps110;go_wp2_with fail
 go_loop [3, 8] (fun mv iv => ∃ (k : Nat) (m : Int), k ≤ n ∧ iv = .int .i64 (k : Int) ∧ mv = .int .i64 m ∧ Hid (Wt (l.take k) = m)) (fun _ iv => n - (intOf iv).toNat)
 case atStart => exact ⟨0, Xm, Nat.zero_le _, rfl, rfl, rfl⟩
 case round =>
  obtain ⟨k, m, hk, rfl, rfl, HM⟩ := hrel;by_cases hlt : k < n
  ·have hkl : k < l.length := by rw [HL.out]; exact hlt
   obtain ⟨b, off, hA, hb, hc⟩ := HR.at (by rw [Vc]; simp; omega);have d0 := hc k (.int .i64 (l[k]'hkl)) (by rw [Vc, List.getElem?_map, List.getElem?_eq_getElem hkl]; rfl)
   have HT : Hid (Wt (l.take (k + 1)) = min m (Yx (l[k]'hkl))) := by
    rw [Hid, List.take_add_one, List.getElem?_eq_getElem hkl, Option.toList_some, Zdw, HM.out]
   have C1 := hid (fun W => Zcf (l[k]'hkl) W);obtain ⟨x, hx⟩ := nE (l[k]'hkl);rw [hx] at d0 HT C1;obtain ⟨o, ho⟩ := nE (Yx x);rw [ho] at HT C1;subst hA;clear hx ho hc hkl;go_wp2_with fail;refine (C1.out _).mono ?_;rintro en w1 ⟨rfl, rfl⟩;go_wp2_with fail
   go_round
   case rel => exact ⟨k + 1, min m o, aa, ax, by show Value.int .i64 (if o < m then o else m) = Value.int .i64 (min m o); congr 1; split <;> omega, HT.out⟩
   case measure => simp [intOf]; omega
  ·have hkn : k = n := by omega
   have HE : Hid (Wt l = m) := by
    have := HM.out;rwa [hkn, ← HL.out, List.take_length] at this
   clear hkn;go_wp2_with fail;go_ret;exact ⟨bc, rfl⟩
theorem Zd1 (now n : Int) (w : World) (h1 : I6 now) (h2 : I6 n) : Calls Tryz.prog 139 #[now, n] w fun e w' => e = .returned (.int .i64 (Yv now n)) ∧ w = w' := by
 by_cases hc : n = Xm
 ·subst hc
  rw [show Yv now Xm = 9223372036854775807 from if_pos rfl, show Xm = 9223372036854775807 from rfl];go_enter Tryz.func139, Tryz.ntmps139;go_wp2_with fail;go_ret;exact ⟨rfl, rfl⟩
 ·have C1 := hid (fun W => Zqw now n W h1 h2)
  rw [show Yv now n = Zc2 now n from if_neg hc];have hc2 : (n == 9223372036854775807) = false := bF hc;obtain ⟨a, ha⟩ := nE (Zc2 now n);rw [ha] at C1 ⊢;clear hc ha h1 h2;go_enter Tryz.func139, Tryz.ntmps139;go_wp2_with fail;refine (C1.out _).mono ?_;rintro e w1 ⟨rfl, rfl⟩;go_wp2_with fail;go_ret;exact ⟨rfl, rfl⟩
theorem Zhq (now last : Int) (w : World) (h1 : I6 now) (h2 : I6 last) : Calls Tryz.prog 95 #[now, last] w fun e w' => e = .returned (Un now last).val ∧ Below w.heap.size w w' := by
 have C1 := hid (fun W => Zd1 now last W h1 h2);unfold Un Vk.val;obtain ⟨a, ha⟩ := nE (Yv now last);rw [ha] at C1 ⊢;clear ha h1 h2;simp only [Xm];go_enter Tryz.func95, Tryz.ntmps95;go_wp2_with fail;refine (C1.out _).mono ?_;rintro e w1 ⟨rfl, rfl⟩;go_wp2_with fail;refine bodyPost_ret (v := .agg #[.int .i64 9223372036854775807, a, .int .i64 9223372036854775807]) (by simp [results, Tryz.results95, go_sem]) rfl ⟨rfl, ?_⟩;exact (Below.refl _ _).alloc (Nat.le_refl _) _
theorem Zju (d : Vk) (w : World) : Calls Tryz.prog 140 #[d.val] w fun e w' => e = .returned d.rest.val ∧ Below w.heap.size w w' := by
 obtain ⟨t, l, c⟩ := d;unfold Vk.rest Vk.val;simp only [Xm];go_enter Tryz.func140, Tryz.ntmps140;go_wp2_with fail;refine bodyPost_ret (v := .agg #[.int .i64 9223372036854775807, l, c]) (by simp [results, Tryz.results140, go_sem]) rfl ⟨rfl, ?_⟩;exact ((Below.refl _ _).alloc (Nat.le_refl _) _).alloc af _
theorem Zjt (d : Vk) (now n : Int) (w : World) (h1 : I6 now) (h2 : I6 n) : Calls Tryz.prog 143 #[d.val, now, n] w fun e w' => e = .returned (d.wait now n).val ∧ Below w.heap.size w w' := by
 have C1 := hid (fun W => Zd1 now n W h1 h2);obtain ⟨t, l, c⟩ := d;unfold Vk.wait Vk.val;obtain ⟨a, ha⟩ := nE (Yv now n);simp only;rw [ha] at C1 ⊢;clear ha h1 h2;go_enter Tryz.func143, Tryz.ntmps143;go_wp2_with fail;refine (C1.out _).mono ?_;rintro e w1 ⟨rfl, rfl⟩;go_wp2_with fail;refine bodyPost_ret (v := .agg #[a, l, c]) (by simp [results, Tryz.results143, go_sem]) rfl ⟨rfl, ?_⟩;exact ((Below.refl _ _).alloc (Nat.le_refl _) _).alloc af _
theorem Zjv (d : Vk) (at_ : Int) (w : World) : Calls Tryz.prog 66 #[d.val, at_] w fun e w' => e = .returned (d.cuts at_).val ∧ Below w.heap.size w w' := by
 obtain ⟨t, l, c⟩ := d;unfold Vk.cuts Vk.val;simp only;have C1 := hid (fun g k W (h : Rd W (some ⟨g, 0, none⟩) (Vc [c, at_])) => Zff (some ⟨g, 0, none⟩) 2 k [c, at_] W rfl aa h);obtain ⟨a, ha⟩ := nE (Wt [c, at_]);rw [ha] at C1 ⊢;clear ha;go_enter Tryz.func66, Tryz.ntmps66;go_wp2_with fail;refine (C1.out _ _ _ ?_).mono ?_
 ·first | exact Zgy _ _ _ | (have := Zgy ((w.alloc (.cells #[t, l, c] 102)).alloc (.cells #[.int .i64 0, .int .i64 0, .int .i64 0] 102)) 2 #[c, at_]; simpa [Vc] using this)
 rintro e w1 ⟨rfl, rfl⟩;go_wp2_with fail;refine bodyPost_ret (v := .agg #[t, l, a]) (by simp [results, Tryz.results66, go_sem]) rfl ⟨rfl, ?_⟩;exact (((Below.refl _ _).alloc (Nat.le_refl _) _).alloc af _).alloc ah _
theorem Zhp (d : Vk) (w : World) : Calls Tryz.prog 70 #[d.val] w fun e w' => e = .returned d.first ∧ Below w.heap.size w w' := by
 obtain ⟨t, l, c⟩ := d;unfold Vk.first Vk.val
 simp only;have C1 := hid (fun g k W (h : Rd W (some ⟨g, 0, none⟩) (Vc [t, l, c])) => Zff (some ⟨g, 0, none⟩) 3 k [t, l, c] W rfl aa h);obtain ⟨a, ha⟩ := nE (Wt [t, l, c]);rw [ha] at C1 ⊢;clear ha;go_enter Tryz.func70, Tryz.ntmps70;go_wp2_with fail;refine (C1.out _ _ _ ?_).mono ?_
 ·first | exact Zgy _ _ _ | (have := Zgy (w.alloc (.cells #[t, l, c] 102)) 2 #[t, l, c]; simpa [Vc] using this)
 rintro e w1 ⟨rfl, rfl⟩;go_wp2_with fail;go_ret;exact ⟨rfl, ((Below.refl _ _).alloc (Nat.le_refl _) _).alloc af _⟩
theorem Zcy (d : Vk) (now : Int) (w : World) : Calls Tryz.prog 120 #[d.val, now] w fun e w' => e = .returned (.bool (Wx d.til now)) ∧ Below w.heap.size w w' := by
 obtain ⟨t, l, c⟩ := d;unfold Vk.val;simp only;have C1 := hid (fun W => Zg5 t now W);obtain ⟨a, ha⟩ := nE (Wx t now);rw [ha] at C1 ⊢;clear ha;go_enter Tryz.func120, Tryz.ntmps120;go_wp2_with fail;refine (C1.out _).mono ?_;rintro e w1 ⟨rfl, rfl⟩;go_wp2_with fail;go_ret;exact ⟨rfl, (Below.refl _ _).alloc (Nat.le_refl _) _⟩
theorem N34{P:Prop}(h:P:=by
 rw [h2] at C4;clear h2 C3;go_enter Tryz.func111, Tryz.ntmps111;go_upto_region 1 with fail;rw [HW.1, HW.2];refine Zk w0.heap.size ab ab ?_
 repeat (go_big_quiet_step (first | (go_at_call 94; exact Ge (C1.out _)) | (go_at_call 94; exact Ge (C2.out _))))
 refine wpQuiet_nil ?_;intro wu hqu;have HBU : Hid (Below w.heap.size w wu) := lq
 clear hqu T1 T2 C1 C2 HB;go_wp2_with fail;refine (C4.out _).mono ?_;rintro en w1 ⟨rfl, rfl⟩;go_wp2_with fail
 go_ret2
 exact ⟨rfl, HBU.out⟩):P:=h
theorem N33{P:Prop}(h:P:=by
 rw [h2] at C3;clear h2 C4;go_enter Tryz.func111, Tryz.ntmps111;go_upto_region 1 with fail;rw [HW.1, HW.2];refine Zk w0.heap.size ab ab ?_
 repeat (go_big_quiet_step (first | (go_at_call 94; exact Ge (C1.out _)) | (go_at_call 94; exact Ge (C2.out _))))
 refine wpQuiet_nil ?_;intro wu hqu;have HBU : Hid (Below w.heap.size w wu) := lq
 clear hqu T1 T2 C1 C2 HB;go_wp2_with fail;refine (C3.out _).mono ?_;rintro en w1 ⟨rfl, rfl⟩;go_wp2_with fail
 go_ret2
 exact ⟨rfl, HBU.out⟩):P:=h
theorem Zdy (d : Vk) (now : Int) (w : World) : Calls Tryz.prog 111 #[d.val, now] w fun e w' => e = .returned (.tuple #[((d.over now : Nat) : Int), .bool (decide (d.over now ≠ 0))]) ∧ Below w.heap.size w w' := by
 obtain ⟨t, l, c⟩ := d;unfold Vk.over Vk.val;simp only;have C1 := hid (fun W => Zev l W);have C2 := hid (fun W => Zev c W);obtain ⟨a, ha⟩ := nE (Yx l);obtain ⟨b, hb⟩ := nE (Yx c);rw [ha] at C1 ⊢;rw [hb] at C2 ⊢;have C3 := hid (fun W => Zg5 a now W);have C4 := hid (fun W => Zg5 b now W);clear ha hb
 obtain ⟨w0, gx, hw0, hg, hb, hblk, hg1, hg2⟩ : ∃ w' g, w.alloc (.cells #[t, l, c] 102) = w' ∧ w.heap.size = g ∧ Below w.heap.size w w' ∧ Blk w' g 102 #[t, l, c] ∧ w.heap.size ≤ g ∧ g < w'.heap.size :=
  ⟨_, _, rfl, rfl, (Below.refl _ _).alloc (Nat.le_refl _) _, Blk.new w _ _, Nat.le_refl _, (Blk.new w _ _).lt⟩
 have T1 : ∀ q : BW w0.heap.size w0, q.1.cell? ⟨gx, 1, none⟩ = some (.int .i64 l) := fun q => q.cellAt hg2 (hblk.cell 1);have T2 : ∀ q : BW w0.heap.size w0, q.1.cell? ⟨gx, 2, none⟩ = some (.int .i64 c) := fun q => q.cellAt hg2 (hblk.cell 2);have HB := hid hb;have HW := hid (And.intro hw0 hg);clear hw0 hg hb hblk hg1 hg2
 have hcase : (a ≤ b ∧ Wx a now = true) ∨ (a ≤ b ∧ Wx a now = false) ∨ (b < a ∧ Wx b now = true) ∨ (b < a ∧ Wx b now = false) := by
  cases Wx a now <;> cases Wx b now <;> simp <;> omega
 rcases hcase with ⟨h1, h2⟩ | ⟨h1, h2⟩ | ⟨h1, h2⟩ | ⟨h1, h2⟩
 ·rw [show (if a ≤ b ∧ Wx a now = true then 3 else if b < a ∧ Wx b now = true then 5 else 0) = 3 from if_pos ⟨h1, h2⟩]
  exact N33
 ·have h3 : ¬ b < a := by omega
  rw [show (if a ≤ b ∧ Wx a now = true then 3 else if b < a ∧ Wx b now = true then 5 else 0) = 0 from by rw [if_neg (by rw [h2]; simp), if_neg (fun h => h3 h.1)]];exact N33
 ·have h3 : ¬ a ≤ b := by omega
  rw [show (if a ≤ b ∧ Wx a now = true then 3 else if b < a ∧ Wx b now = true then 5 else 0) = 5 from by rw [if_neg (fun h => h3 h.1), if_pos ⟨h1, h2⟩]];exact N34
 ·have h3 : ¬ a ≤ b := by omega
  rw [show (if a ≤ b ∧ Wx a now = true then 3 else if b < a ∧ Wx b now = true then 5 else 0) = 0 from by rw [if_neg (fun h => h3 h.1), if_neg (by rw [h2]; simp)]];exact N34
end Go.Proofs.YtpkkfdmhbbipoaaGreat
