/- Ticks: plain functions, and the walks of package tick: own, Own, Due. Ticks and deadlines: tick.Add, tick.Least, package due. -/
import Derived.Test.YtpkkfdmhbbipoaaGreatMa
import Derived.Test.YtpkkfdmhbbipoaaGreatMh
import Derived.Deep.Cut
namespace Go.Proofs.YtpkkfdmhbbipoaaGreat
set_option maxRecDepth 20000
set_option maxHeartbeats 400000
open Go.RowKit
def Xr : Int := 9223372036854775807
def Xa (t : Int) : Int := if t < 0 then 0 else t
def Ww (t now : Int) : Bool := decide (t ≠ Xr) && decide (Xa t ≤ Xa now)
theorem N94{P:Prop}(h:P:=by
 rw [e];go_enter Tryz.func138, Tryz.ntmps138
 go_wp2
 go_ret;exact ⟨by first | rfl | (show Ending.returned (.int .i64 _) = _; congr 2; omega), rfl⟩):P:=h
theorem Zcc (t : Int) (w : World) : Calls Tryz.prog 138 #[t] w fun e w' => e = .returned (.int .i64 (Xa t)) ∧ w = w' := by
 by_cases h : t < 0
 ·have e : Xa t = 0 := by unfold Xa; rw [if_pos h]
  have hm : max t 0 = 0 := aa
  exact N94
 ·have e : Xa t = t := by unfold Xa; rw [if_neg h]
  have hm : max t 0 = t := aa
  exact N94
theorem Ze0 (t : Int) (w : World) : Calls Tryz.prog 94 #[t] w fun e w' => e = .returned (.int .i64 (Xa t)) ∧ w = w' := by
 go_enter Tryz.func94, Tryz.ntmps94;go_wp2_with (go_at_call 138; refine (Zcc t _).mono ?_; rintro e w1 ⟨rfl, rfl⟩);go_ret;exact ⟨rfl, rfl⟩
theorem Zha (t now : Int) (w : World) : Calls Tryz.prog 150 #[t, now] w fun e w' => e = .returned (.bool (Ww t now)) ∧ w = w' := by
 by_cases h : t = 9223372036854775807
 ·have e : Ww t now = false := by unfold Ww Xr; simp [h]
  rw [e];have hb : (t != 9223372036854775807) = false := by simp [h]
  clear h e;go_enter Tryz.func150, Tryz.ntmps150
  go_wp2
  go_ret;exact ⟨rfl, rfl⟩
 ·have e : Ww t now = decide (Xa t ≤ Xa now) := by unfold Ww Xr; simp [h]
  rw [e];have hb : (t != 9223372036854775807) = true := by simp [h]
  clear h e;go_enter Tryz.func150, Tryz.ntmps150;go_wp2_with (first | (go_at_call 138; refine (Zcc _ _).mono ?_; rintro e w1 ⟨rfl, rfl⟩));go_ret;exact ⟨rfl, rfl⟩
def Zc0 (t d : Int) : Int := if Xr - Xa d ≤ Xa t then Xr else Xa t + Xa d
def Va (l : List Int) : Int := l.foldl (fun a t => min a (Xa t)) Xr
def Yx (now n : Int) : Int := if n = Xr then Xr else Zc0 now n
structure Vs where
 til : Int
 lim : Int
 cut : Int
 deriving DecidableEq
def Vs.val (d : Vs) : Value := .agg #[d.til, d.lim, d.cut]
def Um (now last : Int) : Vs := ⟨Xr, Yx now last, Xr⟩
def Vs.wait (d : Vs) (now n : Int) : Vs := ⟨Yx now n, d.lim, d.cut⟩
def Vs.rest (d : Vs) : Vs := ⟨Xr, d.lim, d.cut⟩
def Vs.cuts (d : Vs) (at_ : Int) : Vs := ⟨d.til, d.lim, Va [d.cut, at_]⟩
def Vs.first (d : Vs) : Int := Va [d.til, d.lim, d.cut]
def Vs.over (d : Vs) (now : Int) : Nat := if Xa d.lim ≤ Xa d.cut ∧ Ww (Xa d.lim) now = true then 3 else if Xa d.cut < Xa d.lim ∧ Ww (Xa d.cut) now = true then 5 else 0
def I6 (x : Int) : Prop := -9223372036854775808 ≤ x ∧ x ≤ 9223372036854775807
theorem Jz {t : Int} (h : t ≤ 9223372036854775807) : 0 ≤ Xa t ∧ Xa t ≤ 9223372036854775807 := by
 unfold Xa; split <;> omega
theorem Zre (t d : Int) (h1 : I6 t) (h2 : I6 d) : 0 ≤ Zc0 t d ∧ Zc0 t d ≤ 9223372036854775807 := by
 have a1 := Jz h1.2;have a2 := Jz h2.2;unfold Zc0 Xr; split <;> omega
theorem Zfn (t d : Int) (h1 : I6 t) (h2 : I6 d) : 0 ≤ Yx t d ∧ Yx t d ≤ 9223372036854775807 := by
 unfold Yx; split
 ·unfold Xr; omega
 ·exact Zre t d h1 h2
theorem Zhs (l : List Int) (h : ∀ x ∈ l, I6 x) : ∀ a : Int, 0 ≤ a → a ≤ 9223372036854775807 → 0 ≤ l.foldl (fun a t => min a (Xa t)) a ∧ l.foldl (fun a t => min a (Xa t)) a ≤ 9223372036854775807 := by
 induction l with
 | nil => exact fun a h1 h2 => ⟨h1, h2⟩
 | cons x l ih =>
  intro a h1 h2;have := Jz (h x List.mem_cons_self).2;rw [List.foldl_cons];exact ih (fun y hy => h y (List.mem_cons_of_mem _ hy)) _ aa aa
theorem Znl (l : List Int) (h : ∀ x ∈ l, I6 x) : 0 ≤ Va l ∧ Va l ≤ 9223372036854775807 := Zhs l h _ (by unfold Xr; omega) (by unfold Xr; omega)
theorem N61{P:Prop}(h:P:=by
 go_enter Tryz.func165, Tryz.ntmps165;go_wp2_with fail;refine (C1.out _).mono ?_;rintro e w1 ⟨rfl, rfl⟩;go_wp2_with fail;refine (C2.out _).mono ?_;rintro e w1 ⟨rfl, rfl⟩;go_wp2_with fail;go_ret;exact ⟨rfl, rfl⟩):P:=h
theorem Zqf (t d : Int) (w : World) (h1 : I6 t) (h2 : I6 d) : Calls Tryz.prog 165 #[t, d] w fun e w' => e = .returned (.int .i64 (Zc0 t d)) ∧ w = w' := by
 have a1 := Jz h1.2;have a2 := Jz h2.2;have C1 := hid (fun W => Zcc t W);have C2 := hid (fun W => Zcc d W);unfold Zc0;obtain ⟨a, ha⟩ := nE (Xa t);obtain ⟨b, hb⟩ := nE (Xa d);rw [ha] at C1 a1 ⊢;rw [hb] at C2 a2 ⊢;obtain ⟨a11, a12⟩ := a1;obtain ⟨a21, a22⟩ := a2;clear ha hb h1 h2;by_cases hc : 9223372036854775807 - b ≤ a
 ·rw [show (if Xr - b ≤ a then Xr else a + b) = 9223372036854775807 from if_pos hc]
  exact N61
 ·rw [show (if Xr - b ≤ a then Xr else a + b) = a + b from if_neg hc]
  have hc2 : a + b ≤ 9223372036854775807 := aa
  exact N61
theorem Zd2 (l : List Int) (x : Int) : Va (l ++ [x]) = min (Va l) (Xa x) := by
 unfold Va; rw [List.foldl_append]; rfl
theorem Zlb (A : Option Addr) (n c : Nat) (l : List Int) (w : World) (hl : l.length = n) (hn : n ≤ 100000) (hr : Rd w A (Vn l)) :
  Calls Tryz.prog 110 #[.slice A n c] w fun e w' => e = .returned (.int .i64 (Va l)) ∧ w = w' := by
 have HL := hid hl; have HR := hid hr;clear hl hr;go_enter Tryz.func110, Tryz.ntmps110;go_wp2_with fail
 go_loop [3, 8] (fun mv iv => ∃ (k : Nat) (m : Int), k ≤ n ∧ iv = .int .i64 (k : Int) ∧ mv = .int .i64 m ∧ Hid (Va (l.take k) = m)) (fun _ iv => n - (intOf iv).toNat)
 case atStart => exact ⟨0, Xr, Nat.zero_le _, rfl, rfl, rfl⟩
 case round =>
  obtain ⟨k, m, hk, rfl, rfl, HM⟩ := hrel;by_cases hlt : k < n
  ·have hkl : k < l.length := by rw [HL.out]; exact hlt
   obtain ⟨b, off, hA, hb, hc⟩ := HR.at (by rw [Vn]; simp; omega);have d0 := hc k (.int .i64 (l[k]'hkl)) (by rw [Vn, List.getElem?_map, List.getElem?_eq_getElem hkl]; rfl)
   have HT : Hid (Va (l.take (k + 1)) = min m (Xa (l[k]'hkl))) := by
    rw [Hid, List.take_add_one, List.getElem?_eq_getElem hkl, Option.toList_some, Zd2, HM.out]
   have C1 := hid (fun W => Zcc (l[k]'hkl) W);obtain ⟨x, hx⟩ := nE (l[k]'hkl);rw [hx] at d0 HT C1;obtain ⟨o, ho⟩ := nE (Xa x);rw [ho] at HT C1;subst hA;clear hx ho hc hkl;go_wp2_with fail;refine (C1.out _).mono ?_;rintro en w1 ⟨rfl, rfl⟩;go_wp2_with fail
   go_round
   case rel => exact ⟨k + 1, min m o, aa, aw, by show Value.int .i64 (if o < m then o else m) = Value.int .i64 (min m o); congr 1; split <;> omega, HT.out⟩
   case measure => simp [intOf]; omega
  ·have hkn : k = n := by omega
   have HE : Hid (Va l = m) := by
    have := HM.out;rwa [hkn, ← HL.out, List.take_length] at this
   clear hkn;go_wp2_with fail;go_ret;exact ⟨bh, rfl⟩
theorem Zd7 (now n : Int) (w : World) (h1 : I6 now) (h2 : I6 n) : Calls Tryz.prog 139 #[now, n] w fun e w' => e = .returned (.int .i64 (Yx now n)) ∧ w = w' := by
 by_cases hc : n = Xr
 ·subst hc
  rw [show Yx now Xr = 9223372036854775807 from if_pos rfl, show Xr = 9223372036854775807 from rfl];go_enter Tryz.func139, Tryz.ntmps139;go_wp2_with fail;go_ret;exact ⟨rfl, rfl⟩
 ·have C1 := hid (fun W => Zqf now n W h1 h2)
  rw [show Yx now n = Zc0 now n from if_neg hc];have hc2 : (n == 9223372036854775807) = false := bF hc;obtain ⟨a, ha⟩ := nE (Zc0 now n);rw [ha] at C1 ⊢;clear hc ha h1 h2;go_enter Tryz.func139, Tryz.ntmps139;go_wp2_with fail;refine (C1.out _).mono ?_;rintro e w1 ⟨rfl, rfl⟩;go_wp2_with fail;go_ret;exact ⟨rfl, rfl⟩
theorem Zhv (now last : Int) (w : World) (h1 : I6 now) (h2 : I6 last) : Calls Tryz.prog 95 #[now, last] w fun e w' => e = .returned (Um now last).val ∧ Below w.heap.size w w' := by
 have C1 := hid (fun W => Zd7 now last W h1 h2);unfold Um Vs.val;obtain ⟨a, ha⟩ := nE (Yx now last);rw [ha] at C1 ⊢;clear ha h1 h2;simp only [Xr];go_enter Tryz.func95, Tryz.ntmps95;go_wp2_with fail;refine (C1.out _).mono ?_;rintro e w1 ⟨rfl, rfl⟩;go_wp2_with fail;refine bodyPost_ret (v := .agg #[.int .i64 9223372036854775807, a, .int .i64 9223372036854775807]) (by simp [results, Tryz.results95, go_sem]) rfl ⟨rfl, ?_⟩;exact (Below.refl _ _).alloc (Nat.le_refl _) _
theorem Zju (d : Vs) (w : World) : Calls Tryz.prog 140 #[d.val] w fun e w' => e = .returned d.rest.val ∧ Below w.heap.size w w' := by
 obtain ⟨t, l, c⟩ := d;unfold Vs.rest Vs.val;simp only [Xr];go_enter Tryz.func140, Tryz.ntmps140;go_wp2_with fail;refine bodyPost_ret (v := .agg #[.int .i64 9223372036854775807, l, c]) (by simp [results, Tryz.results140, go_sem]) rfl ⟨rfl, ?_⟩;exact ((Below.refl _ _).alloc (Nat.le_refl _) _).alloc ah _
theorem Zjt (d : Vs) (now n : Int) (w : World) (h1 : I6 now) (h2 : I6 n) : Calls Tryz.prog 143 #[d.val, now, n] w fun e w' => e = .returned (d.wait now n).val ∧ Below w.heap.size w w' := by
 have C1 := hid (fun W => Zd7 now n W h1 h2);obtain ⟨t, l, c⟩ := d;unfold Vs.wait Vs.val;obtain ⟨a, ha⟩ := nE (Yx now n);simp only;rw [ha] at C1 ⊢;clear ha h1 h2;go_enter Tryz.func143, Tryz.ntmps143;go_wp2_with fail;refine (C1.out _).mono ?_;rintro e w1 ⟨rfl, rfl⟩;go_wp2_with fail;refine bodyPost_ret (v := .agg #[a, l, c]) (by simp [results, Tryz.results143, go_sem]) rfl ⟨rfl, ?_⟩;exact ((Below.refl _ _).alloc (Nat.le_refl _) _).alloc ah _
theorem Zjv (d : Vs) (at_ : Int) (w : World) : Calls Tryz.prog 66 #[d.val, at_] w fun e w' => e = .returned (d.cuts at_).val ∧ Below w.heap.size w w' := by
 obtain ⟨t, l, c⟩ := d;unfold Vs.cuts Vs.val;simp only;have C1 := hid (fun g k W (h : Rd W (some ⟨g, 0, none⟩) (Vn [c, at_])) => Zlb (some ⟨g, 0, none⟩) 2 k [c, at_] W rfl aa h);obtain ⟨a, ha⟩ := nE (Va [c, at_]);rw [ha] at C1 ⊢;clear ha;go_enter Tryz.func66, Tryz.ntmps66;go_wp2_with fail;refine (C1.out _ _ _ ?_).mono ?_
 ·first | exact Zol _ _ _ | (have := Zol ((w.alloc (.cells #[t, l, c] 102)).alloc (.cells #[.int .i64 0, .int .i64 0, .int .i64 0] 102)) 2 #[c, at_]; simpa [Vn] using this)
 rintro e w1 ⟨rfl, rfl⟩;go_wp2_with fail;refine bodyPost_ret (v := .agg #[t, l, a]) (by simp [results, Tryz.results66, go_sem]) rfl ⟨rfl, ?_⟩;exact (((Below.refl _ _).alloc (Nat.le_refl _) _).alloc ah _).alloc af _
theorem Zcu (d : Vs) (now : Int) (w : World) : Calls Tryz.prog 120 #[d.val, now] w fun e w' => e = .returned (.bool (Ww d.til now)) ∧ Below w.heap.size w w' := by
 obtain ⟨t, l, c⟩ := d;unfold Vs.val;simp only;have C1 := hid (fun W => Zha t now W);obtain ⟨a, ha⟩ := nE (Ww t now);rw [ha] at C1 ⊢;clear ha;go_enter Tryz.func120, Tryz.ntmps120;go_wp2_with fail;refine (C1.out _).mono ?_;rintro e w1 ⟨rfl, rfl⟩;go_wp2_with fail;go_ret;exact ⟨rfl, (Below.refl _ _).alloc (Nat.le_refl _) _⟩
theorem N31{P:Prop}(h:P:=by
 rw [h2] at C4;clear h2 C3;go_enter Tryz.func111, Tryz.ntmps111;go_upto_region 1 with fail;rw [HW.1, HW.2];refine Zh w0.heap.size ab ab ?_
 repeat (go_big_quiet_step (first | (go_at_call 94; exact Gi (C1.out _)) | (go_at_call 94; exact Gi (C2.out _))))
 refine wpQuiet_nil ?_;intro wu hqu;have HBU : Hid (Below w.heap.size w wu) := lm
 clear hqu T1 T2 C1 C2 HB;go_wp2_with fail;refine (C4.out _).mono ?_;rintro en w1 ⟨rfl, rfl⟩;go_wp2_with fail
 go_ret2
 exact ⟨rfl, HBU.out⟩):P:=h
theorem N30{P:Prop}(h:P:=by
 rw [h2] at C3;clear h2 C4;go_enter Tryz.func111, Tryz.ntmps111;go_upto_region 1 with fail;rw [HW.1, HW.2];refine Zh w0.heap.size ab ab ?_
 repeat (go_big_quiet_step (first | (go_at_call 94; exact Gi (C1.out _)) | (go_at_call 94; exact Gi (C2.out _))))
 refine wpQuiet_nil ?_;intro wu hqu;have HBU : Hid (Below w.heap.size w wu) := lm
 clear hqu T1 T2 C1 C2 HB;go_wp2_with fail;refine (C3.out _).mono ?_;rintro en w1 ⟨rfl, rfl⟩;go_wp2_with fail
 go_ret2
 exact ⟨rfl, HBU.out⟩):P:=h
theorem Zd4 (d : Vs) (now : Int) (w : World) : Calls Tryz.prog 111 #[d.val, now] w fun e w' => e = .returned (.tuple #[((d.over now : Nat) : Int), .bool (decide (d.over now ≠ 0))]) ∧ Below w.heap.size w w' := by
 obtain ⟨t, l, c⟩ := d;unfold Vs.over Vs.val;simp only;have C1 := hid (fun W => Ze0 l W);have C2 := hid (fun W => Ze0 c W);obtain ⟨a, ha⟩ := nE (Xa l);obtain ⟨b, hb⟩ := nE (Xa c);rw [ha] at C1 ⊢;rw [hb] at C2 ⊢;have C3 := hid (fun W => Zha a now W);have C4 := hid (fun W => Zha b now W);clear ha hb
 obtain ⟨w0, gx, hw0, hg, hb, hblk, hg1, hg2⟩ : ∃ w' g, w.alloc (.cells #[t, l, c] 102) = w' ∧ w.heap.size = g ∧ Below w.heap.size w w' ∧ Blk w' g 102 #[t, l, c] ∧ w.heap.size ≤ g ∧ g < w'.heap.size :=
  ⟨_, _, rfl, rfl, (Below.refl _ _).alloc (Nat.le_refl _) _, Blk.new w _ _, Nat.le_refl _, (Blk.new w _ _).lt⟩
 have T1 : ∀ q : BW w0.heap.size w0, q.1.cell? ⟨gx, 1, none⟩ = some (.int .i64 l) := fun q => q.cellAt hg2 (hblk.cell 1);have T2 : ∀ q : BW w0.heap.size w0, q.1.cell? ⟨gx, 2, none⟩ = some (.int .i64 c) := fun q => q.cellAt hg2 (hblk.cell 2);have HB := hid hb;have HW := hid (And.intro hw0 hg);clear hw0 hg hb hblk hg1 hg2
 have hcase : (a ≤ b ∧ Ww a now = true) ∨ (a ≤ b ∧ Ww a now = false) ∨ (b < a ∧ Ww b now = true) ∨ (b < a ∧ Ww b now = false) := by
  cases Ww a now <;> cases Ww b now <;> simp <;> omega
 rcases hcase with ⟨h1, h2⟩ | ⟨h1, h2⟩ | ⟨h1, h2⟩ | ⟨h1, h2⟩
 ·rw [show (if a ≤ b ∧ Ww a now = true then 3 else if b < a ∧ Ww b now = true then 5 else 0) = 3 from if_pos ⟨h1, h2⟩]
  exact N30
 ·have h3 : ¬ b < a := by omega
  rw [show (if a ≤ b ∧ Ww a now = true then 3 else if b < a ∧ Ww b now = true then 5 else 0) = 0 from by rw [if_neg (by rw [h2]; simp), if_neg (fun h => h3 h.1)]];exact N30
 ·have h3 : ¬ a ≤ b := by omega
  rw [show (if a ≤ b ∧ Ww a now = true then 3 else if b < a ∧ Ww b now = true then 5 else 0) = 5 from by rw [if_neg (fun h => h3 h.1), if_pos ⟨h1, h2⟩]];exact N31
 ·have h3 : ¬ a ≤ b := by omega
  rw [show (if a ≤ b ∧ Ww a now = true then 3 else if b < a ∧ Ww b now = true then 5 else 0) = 0 from by rw [if_neg (fun h => h3 h.1), if_neg (by rw [h2]; simp)]];exact N31
end Go.Proofs.YtpkkfdmhbbipoaaGreat
