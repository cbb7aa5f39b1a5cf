/- Ticks: plain functions, and the walks of package tick: own, Own, Due. Ticks and deadlines: tick.Add, tick.Least, package due. -/
import Derived.Test.YtpkkfdmhbbipoaaGreatMa
import Derived.Test.YtpkkfdmhbbipoaaGreatMh
import Derived.Deep.Cut
namespace Go.Proofs.YtpkkfdmhbbipoaaGreat
open Go.RowKit
def neverT : Int := 9223372036854775807
def ownT (t : Int) : Int := if t < 0 then 0 else t
def dueT (t now : Int) : Bool := decide (t ≠ neverT) && decide (ownT t ≤ ownT now)
theorem own_any (t : Int) (w : World) : Calls Tryz.prog 138 #[.int .i64 t] w fun e w' => e = .returned (.int .i64 (ownT t)) ∧ w = w' := by
 by_cases h : t < 0
 ·have e : ownT t = 0 := by unfold ownT; rw [if_pos h]
  have hm : max t 0 = 0 := by omega
  rw [e]
  go_enter Tryz.func138, Tryz.ntmps138
  go_wp2
  go_ret
  exact ⟨by first | rfl | (show Ending.returned (.int .i64 _) = _; congr 2; omega), rfl⟩
 ·have e : ownT t = t := by unfold ownT; rw [if_neg h]
  have hm : max t 0 = t := by omega
  rw [e]
  go_enter Tryz.func138, Tryz.ntmps138
  go_wp2
  go_ret
  exact ⟨by first | rfl | (show Ending.returned (.int .i64 _) = _; congr 2; omega), rfl⟩
theorem ownC_any (t : Int) (w : World) : Calls Tryz.prog 94 #[.int .i64 t] w fun e w' => e = .returned (.int .i64 (ownT t)) ∧ w = w' := by
 go_enter Tryz.func94, Tryz.ntmps94
 go_wp2_with (go_at_call 138; refine (own_any t _).mono ?_; rintro e w1 ⟨rfl, rfl⟩)
 go_ret
 exact ⟨rfl, rfl⟩
theorem due_any (t now : Int) (w : World) : Calls Tryz.prog 150 #[.int .i64 t, .int .i64 now] w fun e w' => e = .returned (.bool (dueT t now)) ∧ w = w' := by
 by_cases h : t = 9223372036854775807
 ·have e : dueT t now = false := by unfold dueT neverT; simp [h]
  rw [e]
  have hb : (t != 9223372036854775807) = false := by simp [h]
  clear h e
  go_enter Tryz.func150, Tryz.ntmps150
  go_wp2
  go_ret
  exact ⟨rfl, rfl⟩
 ·have e : dueT t now = decide (ownT t ≤ ownT now) := by unfold dueT neverT; simp [h]
  rw [e]
  have hb : (t != 9223372036854775807) = true := by simp [h]
  clear h e
  go_enter Tryz.func150, Tryz.ntmps150
  go_wp2_with (first | (go_at_call 138; refine (own_any _ _).mono ?_; rintro e w1 ⟨rfl, rfl⟩))
  go_ret
  exact ⟨rfl, rfl⟩
def addT (t d : Int) : Int := if neverT - ownT d ≤ ownT t then neverT else ownT t + ownT d
def leastT (l : List Int) : Int := l.foldl (fun a t => min a (ownT t)) neverT
def behindT (now n : Int) : Int := if n = neverT then neverT else addT now n
structure DueV where
 til : Int
 lim : Int
 cut : Int
 deriving DecidableEq
def DueV.val (d : DueV) : Value := .agg #[.int .i64 d.til, .int .i64 d.lim, .int .i64 d.cut]
def dueBegin (now last : Int) : DueV := ⟨neverT, behindT now last, neverT⟩
def DueV.wait (d : DueV) (now n : Int) : DueV := ⟨behindT now n, d.lim, d.cut⟩
def DueV.rest (d : DueV) : DueV := ⟨neverT, d.lim, d.cut⟩
def DueV.cuts (d : DueV) (at_ : Int) : DueV := ⟨d.til, d.lim, leastT [d.cut, at_]⟩
def DueV.first (d : DueV) : Int := leastT [d.til, d.lim, d.cut]
def DueV.over (d : DueV) (now : Int) : Nat := if ownT d.lim ≤ ownT d.cut ∧ dueT (ownT d.lim) now = true then 3 else if ownT d.cut < ownT d.lim ∧ dueT (ownT d.cut) now = true then 5 else 0
def I6 (x : Int) : Prop := -9223372036854775808 ≤ x ∧ x ≤ 9223372036854775807
theorem ownT_bd {t : Int} (h : t ≤ 9223372036854775807) : 0 ≤ ownT t ∧ ownT t ≤ 9223372036854775807 := by
 unfold ownT; split <;> omega
theorem addT_bd (t d : Int) (h1 : I6 t) (h2 : I6 d) : 0 ≤ addT t d ∧ addT t d ≤ 9223372036854775807 := by
 have a1 := ownT_bd h1.2
 have a2 := ownT_bd h2.2
 unfold addT neverT; split <;> omega
theorem behindT_bd (t d : Int) (h1 : I6 t) (h2 : I6 d) : 0 ≤ behindT t d ∧ behindT t d ≤ 9223372036854775807 := by
 unfold behindT; split
 ·unfold neverT; omega
 ·exact addT_bd t d h1 h2
theorem foldl_min_bd (l : List Int) (h : ∀ x ∈ l, I6 x) : ∀ a : Int, 0 ≤ a → a ≤ 9223372036854775807 → 0 ≤ l.foldl (fun a t => min a (ownT t)) a ∧ l.foldl (fun a t => min a (ownT t)) a ≤ 9223372036854775807 := by
 induction l with
 | nil => exact fun a h1 h2 => ⟨h1, h2⟩
 | cons x l ih =>
  intro a h1 h2
  have := ownT_bd (h x List.mem_cons_self).2
  rw [List.foldl_cons]
  exact ih (fun y hy => h y (List.mem_cons_of_mem _ hy)) _ (by omega) (by omega)
theorem leastT_bd (l : List Int) (h : ∀ x ∈ l, I6 x) : 0 ≤ leastT l ∧ leastT l ≤ 9223372036854775807 := foldl_min_bd l h _ (by unfold neverT; omega) (by unfold neverT; omega)
set_option maxRecDepth 20000 in
theorem addT_any (t d : Int) (w : World) (h1 : I6 t) (h2 : I6 d) : Calls Tryz.prog 165 #[.int .i64 t, .int .i64 d] w fun e w' => e = .returned (.int .i64 (addT t d)) ∧ w = w' := by
 have a1 := ownT_bd h1.2
 have a2 := ownT_bd h2.2
 have C1 := hid (fun W => own_any t W)
 have C2 := hid (fun W => own_any d W)
 unfold addT
 obtain ⟨a, ha⟩ : ∃ y, ownT t = y := ⟨_, rfl⟩
 obtain ⟨b, hb⟩ : ∃ y, ownT d = y := ⟨_, rfl⟩
 rw [ha] at C1 a1 ⊢
 rw [hb] at C2 a2 ⊢
 obtain ⟨a11, a12⟩ := a1
 obtain ⟨a21, a22⟩ := a2
 clear ha hb h1 h2
 by_cases hc : 9223372036854775807 - b ≤ a
 ·rw [show (if neverT - b ≤ a then neverT else a + b) = 9223372036854775807 from if_pos hc]
  go_enter Tryz.func165, Tryz.ntmps165
  go_wp2_with fail
  refine (C1.out _).mono ?_
  rintro e w1 ⟨rfl, rfl⟩
  go_wp2_with fail
  refine (C2.out _).mono ?_
  rintro e w1 ⟨rfl, rfl⟩
  go_wp2_with fail
  go_ret
  exact ⟨rfl, rfl⟩
 ·rw [show (if neverT - b ≤ a then neverT else a + b) = a + b from if_neg hc]
  have hc2 : a + b ≤ 9223372036854775807 := by omega
  go_enter Tryz.func165, Tryz.ntmps165
  go_wp2_with fail
  refine (C1.out _).mono ?_
  rintro e w1 ⟨rfl, rfl⟩
  go_wp2_with fail
  refine (C2.out _).mono ?_
  rintro e w1 ⟨rfl, rfl⟩
  go_wp2_with fail
  go_ret
  exact ⟨rfl, rfl⟩
theorem leastT_snoc (l : List Int) (x : Int) : leastT (l ++ [x]) = min (leastT l) (ownT x) := by
 unfold leastT; rw [List.foldl_append]; rfl
set_option maxRecDepth 20000 in
set_option maxHeartbeats 400000 in
theorem leastT_any (A : Option Addr) (n c : Nat) (l : List Int) (w : World) (hl : l.length = n) (hn : n ≤ 100000) (hr : Rd w A (intCells l)) :
  Calls Tryz.prog 110 #[.slice A n c] w fun e w' => e = .returned (.int .i64 (leastT l)) ∧ w = w' := by
 have HL := hid hl; have HR := hid hr
 clear hl hr
 go_enter Tryz.func110, Tryz.ntmps110
 go_wp2_with fail
 go_loop [3, 8] (fun mv iv => ∃ (k : Nat) (m : Int), k ≤ n ∧ iv = .int .i64 (k : Int) ∧ mv = .int .i64 m ∧ Hid (leastT (l.take k) = m)) (fun _ iv => n - (intOf iv).toNat)
 case atStart => exact ⟨0, neverT, Nat.zero_le _, rfl, rfl, rfl⟩
 case round =>
  obtain ⟨k, m, hk, rfl, rfl, HM⟩ := hrel
  by_cases hlt : k < n
  ·have hkl : k < l.length := by rw [HL.out]; exact hlt
   obtain ⟨b, off, hA, hb, hc⟩ := HR.out.at (by rw [intCells]; simp; omega)
   have d0 := hc k (.int .i64 (l[k]'hkl)) (by rw [intCells, List.getElem?_map, List.getElem?_eq_getElem hkl]; rfl)
   have HT : Hid (leastT (l.take (k + 1)) = min m (ownT (l[k]'hkl))) := by
    rw [Hid, List.take_add_one, List.getElem?_eq_getElem hkl, Option.toList_some, leastT_snoc, HM.out]
   have C1 := hid (fun W => own_any (l[k]'hkl) W)
   obtain ⟨x, hx⟩ : ∃ y, l[k]'hkl = y := ⟨_, rfl⟩
   rw [hx] at d0 HT C1
   obtain ⟨o, ho⟩ : ∃ y, ownT x = y := ⟨_, rfl⟩
   rw [ho] at HT C1
   subst hA
   clear hx ho hc hkl
   go_wp2_with fail
   refine (C1.out _).mono ?_
   rintro en w1 ⟨rfl, rfl⟩
   go_wp2_with fail
   go_round
   case rel => exact ⟨k + 1, min m o, by omega, by go_num, by show Value.int .i64 (if o < m then o else m) = Value.int .i64 (min m o); congr 1; split <;> omega, HT.out⟩
   case measure => simp [intOf]; omega
  ·have hkn : k = n := by omega
   have HE : Hid (leastT l = m) := by
    have := HM.out
    rwa [hkn, ← HL.out, List.take_length] at this
   clear hkn
   go_wp2_with fail
   go_ret
   exact ⟨by rw [HE.out]; rfl, rfl⟩
theorem behindT_any (now n : Int) (w : World) (h1 : I6 now) (h2 : I6 n) : Calls Tryz.prog 139 #[.int .i64 now, .int .i64 n] w fun e w' => e = .returned (.int .i64 (behindT now n)) ∧ w = w' := by
 by_cases hc : n = neverT
 ·subst hc
  rw [show behindT now neverT = 9223372036854775807 from if_pos rfl, show neverT = 9223372036854775807 from rfl]
  go_enter Tryz.func139, Tryz.ntmps139
  go_wp2_with fail
  go_ret
  exact ⟨rfl, rfl⟩
 ·have C1 := hid (fun W => addT_any now n W h1 h2)
  rw [show behindT now n = addT now n from if_neg hc]
  have hc2 : (n == 9223372036854775807) = false := by rw [beq_eq_false_iff_ne]; exact hc
  obtain ⟨a, ha⟩ : ∃ y, addT now n = y := ⟨_, rfl⟩
  rw [ha] at C1 ⊢
  clear hc ha h1 h2
  go_enter Tryz.func139, Tryz.ntmps139
  go_wp2_with fail
  refine (C1.out _).mono ?_
  rintro e w1 ⟨rfl, rfl⟩
  go_wp2_with fail
  go_ret
  exact ⟨rfl, rfl⟩
theorem dueBegin_any (now last : Int) (w : World) (h1 : I6 now) (h2 : I6 last) : Calls Tryz.prog 95 #[.int .i64 now, .int .i64 last] w fun e w' => e = .returned (dueBegin now last).val ∧ Below w.heap.size w w' := by
 have C1 := hid (fun W => behindT_any now last W h1 h2)
 unfold dueBegin DueV.val
 obtain ⟨a, ha⟩ : ∃ y, behindT now last = y := ⟨_, rfl⟩
 rw [ha] at C1 ⊢
 clear ha h1 h2
 simp only [neverT]
 go_enter Tryz.func95, Tryz.ntmps95
 go_wp2_with fail
 refine (C1.out _).mono ?_
 rintro e w1 ⟨rfl, rfl⟩
 go_wp2_with fail
 refine bodyPost_ret (v := .agg #[.int .i64 9223372036854775807, .int .i64 a, .int .i64 9223372036854775807]) (by simp [results, Tryz.results95, go_sem]) rfl ⟨rfl, ?_⟩
 exact (Below.refl _ _).alloc (Nat.le_refl _) _
theorem dueRest_any (d : DueV) (w : World) : Calls Tryz.prog 140 #[d.val] w fun e w' => e = .returned d.rest.val ∧ Below w.heap.size w w' := by
 obtain ⟨t, l, c⟩ := d
 unfold DueV.rest DueV.val
 simp only [neverT]
 go_enter Tryz.func140, Tryz.ntmps140
 go_wp2_with fail
 refine bodyPost_ret (v := .agg #[.int .i64 9223372036854775807, .int .i64 l, .int .i64 c]) (by simp [results, Tryz.results140, go_sem]) rfl ⟨rfl, ?_⟩
 exact ((Below.refl _ _).alloc (Nat.le_refl _) _).alloc (by simp) _
theorem dueWait_any (d : DueV) (now n : Int) (w : World) (h1 : I6 now) (h2 : I6 n) : Calls Tryz.prog 143 #[d.val, .int .i64 now, .int .i64 n] w fun e w' => e = .returned (d.wait now n).val ∧ Below w.heap.size w w' := by
 have C1 := hid (fun W => behindT_any now n W h1 h2)
 obtain ⟨t, l, c⟩ := d
 unfold DueV.wait DueV.val
 obtain ⟨a, ha⟩ : ∃ y, behindT now n = y := ⟨_, rfl⟩
 simp only
 rw [ha] at C1 ⊢
 clear ha h1 h2
 go_enter Tryz.func143, Tryz.ntmps143
 go_wp2_with fail
 refine (C1.out _).mono ?_
 rintro e w1 ⟨rfl, rfl⟩
 go_wp2_with fail
 refine bodyPost_ret (v := .agg #[.int .i64 a, .int .i64 l, .int .i64 c]) (by simp [results, Tryz.results143, go_sem]) rfl ⟨rfl, ?_⟩
 exact ((Below.refl _ _).alloc (Nat.le_refl _) _).alloc (by simp) _
set_option maxRecDepth 20000 in
theorem dueCuts_any (d : DueV) (at_ : Int) (w : World) : Calls Tryz.prog 66 #[d.val, .int .i64 at_] w fun e w' => e = .returned (d.cuts at_).val ∧ Below w.heap.size w w' := by
 obtain ⟨t, l, c⟩ := d
 unfold DueV.cuts DueV.val
 simp only
 have C1 := hid (fun g k W (h : Rd W (some ⟨g, 0, none⟩) (intCells [c, at_])) => leastT_any (some ⟨g, 0, none⟩) 2 k [c, at_] W rfl (by omega) h)
 obtain ⟨a, ha⟩ : ∃ y, leastT [c, at_] = y := ⟨_, rfl⟩
 rw [ha] at C1 ⊢
 clear ha
 go_enter Tryz.func66, Tryz.ntmps66
 go_wp2_with fail
 refine (C1.out _ _ _ ?_).mono ?_
 ·first | exact Rd_lit _ _ _ | (have := Rd_lit ((w.alloc (.cells #[.int .i64 t, .int .i64 l, .int .i64 c] 102)).alloc (.cells #[.int .i64 0, .int .i64 0, .int .i64 0] 102)) 2 #[.int .i64 c, .int .i64 at_]; simpa [intCells] using this)
 rintro e w1 ⟨rfl, rfl⟩
 go_wp2_with fail
 refine bodyPost_ret (v := .agg #[.int .i64 t, .int .i64 l, .int .i64 a]) (by simp [results, Tryz.results66, go_sem]) rfl ⟨rfl, ?_⟩
 exact (((Below.refl _ _).alloc (Nat.le_refl _) _).alloc (by simp) _).alloc (by simp; omega) _
theorem dueWoken_any (d : DueV) (now : Int) (w : World) : Calls Tryz.prog 120 #[d.val, .int .i64 now] w fun e w' => e = .returned (.bool (dueT d.til now)) ∧ Below w.heap.size w w' := by
 obtain ⟨t, l, c⟩ := d
 unfold DueV.val
 simp only
 have C1 := hid (fun W => due_any t now W)
 obtain ⟨a, ha⟩ : ∃ y, dueT t now = y := ⟨_, rfl⟩
 rw [ha] at C1 ⊢
 clear ha
 go_enter Tryz.func120, Tryz.ntmps120
 go_wp2_with fail
 refine (C1.out _).mono ?_
 rintro e w1 ⟨rfl, rfl⟩
 go_wp2_with fail
 go_ret
 exact ⟨rfl, (Below.refl _ _).alloc (Nat.le_refl _) _⟩
set_option maxRecDepth 20000 in
theorem dueOver_any (d : DueV) (now : Int) (w : World) : Calls Tryz.prog 111 #[d.val, .int .i64 now] w fun e w' => e = .returned (.tuple #[.int .i64 ((d.over now : Nat) : Int), .bool (decide (d.over now ≠ 0))]) ∧ Below w.heap.size w w' := by
 obtain ⟨t, l, c⟩ := d
 unfold DueV.over DueV.val
 simp only
 have C1 := hid (fun W => ownC_any l W)
 have C2 := hid (fun W => ownC_any c W)
 obtain ⟨a, ha⟩ : ∃ y, ownT l = y := ⟨_, rfl⟩
 obtain ⟨b, hb⟩ : ∃ y, ownT c = y := ⟨_, rfl⟩
 rw [ha] at C1 ⊢
 rw [hb] at C2 ⊢
 have C3 := hid (fun W => due_any a now W)
 have C4 := hid (fun W => due_any b now W)
 clear ha hb
 obtain ⟨w0, gx, hw0, hg, hb, hblk, hg1, hg2⟩ : ∃ w' g, w.alloc (.cells #[.int .i64 t, .int .i64 l, .int .i64 c] 102) = w' ∧ w.heap.size = g ∧ Below w.heap.size w w' ∧ Blk w' g 102 #[.int .i64 t, .int .i64 l, .int .i64 c] ∧ w.heap.size ≤ g ∧ g < w'.heap.size :=
  ⟨_, _, rfl, rfl, (Below.refl _ _).alloc (Nat.le_refl _) _, Blk.new w _ _, Nat.le_refl _, (Blk.new w _ _).lt⟩
 have T1 : ∀ q : BW w0.heap.size w0, q.1.cell? ⟨gx, 1, none⟩ = some (.int .i64 l) := fun q => q.cellAt hg2 (hblk.cell 1)
 have T2 : ∀ q : BW w0.heap.size w0, q.1.cell? ⟨gx, 2, none⟩ = some (.int .i64 c) := fun q => q.cellAt hg2 (hblk.cell 2)
 have HB := hid hb
 have HW := hid (And.intro hw0 hg)
 clear hw0 hg hb hblk hg1 hg2
 have hcase : (a ≤ b ∧ dueT a now = true) ∨ (a ≤ b ∧ dueT a now = false) ∨ (b < a ∧ dueT b now = true) ∨ (b < a ∧ dueT b now = false) := by
  cases dueT a now <;> cases dueT b now <;> simp <;> omega
 rcases hcase with ⟨h1, h2⟩ | ⟨h1, h2⟩ | ⟨h1, h2⟩ | ⟨h1, h2⟩
 ·rw [show (if a ≤ b ∧ dueT a now = true then 3 else if b < a ∧ dueT b now = true then 5 else 0) = 3 from if_pos ⟨h1, h2⟩]
  rw [h2] at C3
  clear h2 C4
  go_enter Tryz.func111, Tryz.ntmps111
  go_upto_region 1 with fail
  rw [HW.out.1, HW.out.2]
  refine wp_region_below w0.heap.size (by kernel_rfl) (by kernel_rfl) ?_
  repeat (go_big_quiet_step (first | (go_at_call 94; exact callSame (C1.out _)) | (go_at_call 94; exact callSame (C2.out _))))
  refine wpQuiet_nil ?_
  intro wu hqu
  have HBU : Hid (Below w.heap.size w wu) := by obtain ⟨q, rfl⟩ := hqu; exact HB.out.trans (q.2.mono HB.out.size)
  clear hqu T1 T2 C1 C2 HB
  go_wp2_with fail
  refine (C3.out _).mono ?_
  rintro en w1 ⟨rfl, rfl⟩
  go_wp2_with fail
  go_ret2
  exact ⟨rfl, HBU.out⟩
 ·have h3 : ¬ b < a := by omega
  rw [show (if a ≤ b ∧ dueT a now = true then 3 else if b < a ∧ dueT b now = true then 5 else 0) = 0 from by rw [if_neg (by rw [h2]; simp), if_neg (fun h => h3 h.1)]]
  rw [h2] at C3
  clear h2 C4
  go_enter Tryz.func111, Tryz.ntmps111
  go_upto_region 1 with fail
  rw [HW.out.1, HW.out.2]
  refine wp_region_below w0.heap.size (by kernel_rfl) (by kernel_rfl) ?_
  repeat (go_big_quiet_step (first | (go_at_call 94; exact callSame (C1.out _)) | (go_at_call 94; exact callSame (C2.out _))))
  refine wpQuiet_nil ?_
  intro wu hqu
  have HBU : Hid (Below w.heap.size w wu) := by obtain ⟨q, rfl⟩ := hqu; exact HB.out.trans (q.2.mono HB.out.size)
  clear hqu T1 T2 C1 C2 HB
  go_wp2_with fail
  refine (C3.out _).mono ?_
  rintro en w1 ⟨rfl, rfl⟩
  go_wp2_with fail
  go_ret2
  exact ⟨rfl, HBU.out⟩
 ·have h3 : ¬ a ≤ b := by omega
  rw [show (if a ≤ b ∧ dueT a now = true then 3 else if b < a ∧ dueT b now = true then 5 else 0) = 5 from by rw [if_neg (fun h => h3 h.1), if_pos ⟨h1, h2⟩]]
  rw [h2] at C4
  clear h2 C3
  go_enter Tryz.func111, Tryz.ntmps111
  go_upto_region 1 with fail
  rw [HW.out.1, HW.out.2]
  refine wp_region_below w0.heap.size (by kernel_rfl) (by kernel_rfl) ?_
  repeat (go_big_quiet_step (first | (go_at_call 94; exact callSame (C1.out _)) | (go_at_call 94; exact callSame (C2.out _))))
  refine wpQuiet_nil ?_
  intro wu hqu
  have HBU : Hid (Below w.heap.size w wu) := by obtain ⟨q, rfl⟩ := hqu; exact HB.out.trans (q.2.mono HB.out.size)
  clear hqu T1 T2 C1 C2 HB
  go_wp2_with fail
  refine (C4.out _).mono ?_
  rintro en w1 ⟨rfl, rfl⟩
  go_wp2_with fail
  go_ret2
  exact ⟨rfl, HBU.out⟩
 ·have h3 : ¬ a ≤ b := by omega
  rw [show (if a ≤ b ∧ dueT a now = true then 3 else if b < a ∧ dueT b now = true then 5 else 0) = 0 from by rw [if_neg (fun h => h3 h.1), if_neg (by rw [h2]; simp)]]
  rw [h2] at C4
  clear h2 C3
  go_enter Tryz.func111, Tryz.ntmps111
  go_upto_region 1 with fail
  rw [HW.out.1, HW.out.2]
  refine wp_region_below w0.heap.size (by kernel_rfl) (by kernel_rfl) ?_
  repeat (go_big_quiet_step (first | (go_at_call 94; exact callSame (C1.out _)) | (go_at_call 94; exact callSame (C2.out _))))
  refine wpQuiet_nil ?_
  intro wu hqu
  have HBU : Hid (Below w.heap.size w wu) := by obtain ⟨q, rfl⟩ := hqu; exact HB.out.trans (q.2.mono HB.out.size)
  clear hqu T1 T2 C1 C2 HB
  go_wp2_with fail
  refine (C4.out _).mono ?_
  rintro en w1 ⟨rfl, rfl⟩
  go_wp2_with fail
  go_ret2
  exact ⟨rfl, HBU.out⟩
end Go.Proofs.YtpkkfdmhbbipoaaGreat
