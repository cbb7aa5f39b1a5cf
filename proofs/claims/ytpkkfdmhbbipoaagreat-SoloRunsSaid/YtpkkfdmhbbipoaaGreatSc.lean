/- Walks: package solo: Came. Layer 23 lives. -/
import Derived.Test.YtpkkfdmhbbipoaaGreatEb
namespace Go.Proofs.YtpkkfdmhbbipoaaGreat
set_option maxRecDepth 20000
set_option maxHeartbeats 4000000
open Go.RowKit PopT
def Zgz (z k : Int) : Int := if 9223372036854775807 - max k 0 < z then 9223372036854775807 else z + max k 0
def Zcz (l : List Ub) : Int := l.foldl (fun z o => Zgz z o.n) 0
theorem Zn4 (l : List Ub) (o : Ub) : Zcz (l ++ [o]) = Zgz (Zcz l) o.n := by simp [Zcz]
theorem Zq9 (z k : Int) (h0 : 0 ≤ z) : 0 ≤ Zgz z k ∧ Zgz z k ≤ 9223372036854775807 := by unfold Zgz; split <;> omega
theorem Zra (l : List Ub) : 0 ≤ Zcz l ∧ Zcz l ≤ 9223372036854775807 := by
 have key : ∀ (l : List Ub) (z : Int), 0 ≤ z ∧ z ≤ 9223372036854775807 → 0 ≤ l.foldl (fun z o => Zgz z o.n) z ∧ l.foldl (fun z o => Zgz z o.n) z ≤ 9223372036854775807 := by
  intro l
  induction l with
  | nil => intro z h; exact h
  | cons o l ih => intro z h; exact ih _ (Zq9 z o.n h.1)
 exact key l 0 ⟨ac, ac⟩
theorem Zp8 (A : Option Addr) (n c : Nat) (l : List Ub) (w : World) (hl : l.length = n) (hn : n ≤ 1000000) (hr : Rd w A (Yn l)) (ho : ∀ o ∈ l, o.n ≤ 9223372036854775807) :
  Calls Tryz.prog 79 #[.slice A n c] w fun e w' => e = .returned (.int .i64 (Zcz l)) ∧ Below w.heap.size w w' := by
 have HL := hid hl; have HO := hid ho;have HRB : Hid (∀ W, Below w.heap.size w W → Rd W A (Yn l)) := fun W hb => hr.below hb;clear hl hr ho;go_enter Tryz.func79, Tryz.ntmps79;go_wp2_with fail
 go_loopw [9, 3] (fun iv zv wr => ∃ (i : Nat) (z : Int), i ≤ n ∧ iv = .int .i64 (i : Int) ∧ zv = .int .i64 z ∧ z = Zcz (l.take i) ∧ Below w.heap.size w wr) (fun iv _ _ => n - (intOf iv).toNat)
 case atStart => exact ⟨0, 0, aa, rfl, rfl, rfl, Below.refl _ _⟩
 case round =>
  obtain ⟨i, z, hi, rfl, rfl, hz, hb⟩ := hrel;have HB := hid hb; have HZ := hid hz;have hzb := Zra (l.take i);rw [← hz] at hzb;have HZB := hid hzb;clear hb hz hzb;by_cases hlt : i < n
  ·have hli : i < l.length := by rw [HL.out]; exact hlt
   have hget : l[i]? = some (l[i]'hli) := List.getElem?_eq_getElem hli;obtain ⟨ov, hov⟩ := nE (l[i]'hli);rw [hov] at hget;have hTK : l.take (i + 1) = l.take i ++ [ov] := fu
   obtain ⟨bl, off, rfl, hbl, hcc⟩ := (HRB.out wr HB.out).at kn;have hc : ∀ j u, j < 9 → ov.cells[j]? = some u → wr.cell? ⟨bl, off + (i * 9 + j), none⟩ = some u := fun j u hj hu => hcc _ u ((Zcd l i ov hget j hj).trans hu);have hob := HO.out ov (List.mem_of_getElem? hget);have HS : Hid (Zcz (l.take (i + 1)) = Zgz z ov.n) := by rw [Hid, hTK, Zn4, HZ.out]
   obtain ⟨on, ob, ot, ol, ow, oa, om, os, od⟩ := ov;have c0 := hc 0 _ aa rfl;have c1 := hc 1 _ aa rfl;have c2 := hc 2 _ aa rfl;have c3 := hc 3 _ aa rfl;have c4 := hc 4 _ aa rfl;have c5 := hc 5 _ aa rfl;have c6 := hc 6 _ aa rfl;have c7 := hc 7 _ aa rfl;have c8 := hc 8 _ aa rfl;simp only [Nat.add_zero, ← Nat.add_assoc] at c0 c1 c2 c3 c4 c5 c6 c7 c8;have hi2 : (i : Int) < (n : Int) := aa
   simp only at hob HS;have HOB := hid hob;clear hget hov hc hcc hli hTK hob;go_upto_region 5 with fail;obtain ⟨w2, hw2⟩ := nE (wr.alloc (.cells #[on, ob, ot, ol, ow, oa, om, os, od] 118));have HI2 := bn hw2;have HB2 := ba hw2;rw [hw2];clear hw2 c0 c1 c2 c3 c4 c5 c6 c7 c8 hbl;have HB3 := hid (HB.trans (HB2.mono HB.size));obtain ⟨gi, hgi⟩ := nE (wr.heap.size);rw [hgi] at HI2 ⊢;clear hgi HB2;obtain ⟨i0, i1, i2, i3, i4, i5, i6, i7, i8⟩ := Qn HI2.out;have hlI := HI2.lt;obtain ⟨k, hk⟩ := nE (max on 0);have HK := hid hk;have hk0 : 0 ≤ k := aa
   have hk1 : k ≤ 9223372036854775807 := by have := HOB.out; omega
   have hz0 := HZB.1;have hz1 := HZB.2;have HS2 : Hid (Zcz (l.take (i + 1)) = if 9223372036854775807 - k < z then 9223372036854775807 else z + k) := by rw [HS.out]; unfold Zgz; rw [hk]; rfl
   clear hk HS;go_upto_region 6 with fail
   try rw [HK.out]
   have hzk : 0 ≤ 9223372036854775807 - k := aa
   by_cases hov : 9223372036854775807 - k < z
   ·have HS3 : Hid (Zcz (l.take (i + 1)) = 9223372036854775807) := HS2.trans (if_pos hov)
    go_wp2_with fail;go_roundw
    case rel => exact ⟨i + 1, 9223372036854775807, aa, aw, rfl, HS3.symm, HB3.out⟩
    case measure => simp [intOf]; omega
   ·have HS3 : Hid (Zcz (l.take (i + 1)) = z + k) := HS2.trans (if_neg hov)
    go_wp2_with fail;go_roundw
    case rel => exact ⟨i + 1, z + k, aa, aw, aw, HS3.symm, HB3.out⟩
    case measure => simp [intOf]; omega
  ·have hi2 : ¬ (i : Int) < (n : Int) := by omega
   have HE : Hid (Zcz l = z) := by rw [HZ.out, List.take_of_length_le bj]; rfl
   go_wp2_with fail;go_ret;rw [HE.out];exact ⟨rfl, HB.out⟩
def l23 : List InV := [⟨1, ⟨#[111, 107]⟩, 0, 0⟩, ⟨5, ⟨#[]⟩, 0, 1⟩]
theorem Zsi : Zcy uV uP = 0 := by kernel_rfl
theorem Zg8 : Kd uV uP 0 l23 = [⟨2, ⟨#[]⟩, 0, 0, 0, 0, 0, 0, false⟩, ⟨0, ⟨#[]⟩, 1, 0, 2, 0, 2, 0, true⟩] := by kernel_rfl
theorem Zpg : Zcz [⟨2, ⟨#[]⟩, 0, 0, 0, 0, 0, 0, false⟩, ⟨0, ⟨#[]⟩, 1, 0, 2, 0, 2, 0, true⟩] = 2 := by kernel_rfl
theorem Zrz : ∀ i ∈ l23, i.ok := by
 intro i hi;unfold l23 at hi;rcases List.mem_cons.1 hi with rfl | hi
 ·exact ⟨ac, ⟨ac, ac⟩, ⟨ac, ac⟩⟩
 ·rw [List.mem_singleton] at hi
  subst hi;exact ⟨ac, ⟨ac, ac⟩, ⟨ac, ac⟩⟩
theorem Zr4 {w : World} {g : Nat} {t : TypeId} {cs : Array Value} (h : Blk w g t cs) : Rd w (some ⟨g, 0, none⟩) cs.toList := by
 refine .inr ⟨g, 0, rfl, h.lt, fun j u hu => ?_⟩;rw [Nat.zero_add, h.cell j]; simpa using hu
theorem Zo1 {w : World} {base n c size : Nat} {e : TypeId} {xs : List Value} {A : Option Addr} (h : w.ownsRow base e size (.slice A n c) n xs) (hn : 0 < n) : ∃ g, A = some ⟨g, 0, none⟩ := by
 rcases h.2 with ⟨hv, h0⟩ | ⟨g, cap, cur, hv, _⟩
 ·omega
 ·injection hv with h1 _ _; exact ⟨g, h1⟩
theorem Zm9 {w : World} {base n c size g : Nat} {e : TypeId} {xs : List Value} (h : w.ownsRow base e size (.slice (some ⟨g, 0, none⟩) n c) n xs) (j : Nat) (u : Value) (hu : xs[j]? = some u) : w.cell? ⟨g, j, none⟩ = some u := by
 rcases Xw h with h0 | ⟨b, off, hA, _, hc⟩
 ·rw [h0] at hu; cases hu
 ·injection hA with hA
  injection hA with h1 h2 _
  subst h1; subst h2;have := hc j u hu;rwa [Nat.zero_add] at this
theorem Zd1 (w : World) : Calls Tryz.prog 40 #[] w fun e w' => e = .returned (.bool true) ∧ Below w.heap.size w w' := by
 obtain ⟨wa, hwa⟩ := nE (((w.alloc (.cells #[.string ⟨#[111, 107]⟩, .int .i64 1] 99)).alloc (.cells #[.int .i64 2, .string ⟨#[]⟩, .int .i64 5, .int .i64 0, .slice (some ⟨w.heap.size, 0, none⟩) 1 1, .int .i64 (-1), .int .i64 (-1)] 56)).alloc (.cells #[.string ⟨#[97]⟩, .int .i64 9223372036854775807, .int .i64 1, .slice (some ⟨(w.heap.size + 1), 0, none⟩) 1 1] 26));have HB : Hid (Below w.heap.size w wa) := hwa ▸ Qq _ _ _ _;have HA : Hid (Blk wa w.heap.size 99 #[.string ⟨#[111, 107]⟩, .int .i64 1]) := hwa ▸ ((Blk.new w _ _).alloc _).alloc _;have HO : Hid (Blk wa (w.heap.size + 1) 56 #[.int .i64 2, .string ⟨#[]⟩, .int .i64 5, .int .i64 0, .slice (some ⟨w.heap.size, 0, none⟩) 1 1, .int .i64 (-1), .int .i64 (-1)]) := hwa ▸ (Gz _ _ _ _).alloc _;have HP : Hid (Blk wa (w.heap.size + 2) 26 #[.string ⟨#[97]⟩, .int .i64 9223372036854775807, .int .i64 1, .slice (some ⟨(w.heap.size + 1), 0, none⟩) 1 1]) := hwa ▸ Zj4 _ _ _ _ _;have HWA := hid hwa;clear hwa;go_enter Tryz.func40, Tryz.ntmps40;go_upto_region 2 with fail;have e2 : w.heap.size + 1 + 1 = w.heap.size + 2 := rfl
 try rw [e2]
 rw [HWA.out];clear e2;obtain ⟨ga, hga⟩ := nE (w.heap.size);have HG := hid hga;rw [hga] at HA HO HP ⊢;clear hga HWA;obtain ⟨go, hgo⟩ := nE (ga + 1);obtain ⟨gp, hgp⟩ := nE (ga + 2);rw [hgo] at HO HP;rw [hgp] at HP ⊢;clear hgo hgp
 have CRN : Hid (∀ (W : World) (gi c : Nat), Below wa.heap.size wa W → Rd W (some ⟨gi, 0, none⟩) (Yt l23) → Calls Tryz.prog 41 #[.agg #[.int .i64 4, .int .i64 8, .int .i64 16, .int .i64 3, .int .i64 5, .int .i64 1], .agg #[.string ⟨#[97]⟩, .int .i64 9223372036854775807, .int .i64 1, .slice (some ⟨go, 0, none⟩) 1 1], .int .i64 0, .slice (some ⟨gi, 0, none⟩) 2 c] W fun e w' => ∃ A' c', e = .returned (.tuple #[.slice A' 2 c', .int .i64 0]) ∧
   w'.ownsRow W.heap.size 118 9 (.slice A' 2 c') 2 (Yn (Kd uV uP 0 l23)) ∧ Below W.heap.size W w') := by
  intro W gi c hb hr;have hown := Zrr (w := W) (ga := ga) (go := go) rfl rfl (HA.below hb HA.lt) (HO.below hb HO.lt) 0 (Nat.zero_le _) (Nat.zero_le _);have hc := Zdo uV uP (some ⟨go, 0, none⟩) 1 0 0 (some ⟨gi, 0, none⟩) 2 c l23 W hown Zsa ⟨ac, ac⟩ rfl Zrz aa hr;rw [Zsi] at hc;have e3 : (Kd uV uP 0 l23).length = 2 := by rw [Zg8]; rfl
  rw [e3] at hc;exact hc
 have P0 := tA HP.out 0 (.string ⟨#[97]⟩) rfl;have P1 := tA HP.out 1 (.int .i64 9223372036854775807) rfl;have P2 := tA HP.out 2 (.int .i64 1) rfl;have P3 := tA HP.out 3 (.slice (some ⟨go, 0, none⟩) 1 1) rfl;refine Zg wa.heap.size [5] (.val 1 (.val 2 (.val 3 (.two 0 (.op 4 (.op 5 (.val 6 (.val 7 (.val 8 (.val 9 (.val 10 (.nil)))))))) 4 (.op 0 (.op 5 (.val 6 (.val 7 (.val 8 (.val 9 (.val 10 (.nil)))))))))))) ab ab ?_;obtain ⟨wc, hwc, HBW⟩ := dw wa;rw [hwc];clear hwc
 iterate 3 ((first | refine Zd rfl rfl ?_ | refine Zw rfl rfl (Xp HBW.out) ?_); go_big_quiet_step (fail); refine wpQuiet_nil ?_)
 focus
  refine Vg rfl rfl ?_ ?_
  focus
   skip
   go_wp2_with fail;refine (Zdl _).mono ?_;rintro en wd ⟨rfl, hb⟩;have HBX : Hid (Below wa.heap.size wa wd) := HBW.trans (hb.mono HBW.size)
   try (have HIN := bb HIN hb; clear hb)
   have HBW := HBX;go_wp2_with fail;refine KT.keep (Xp HBX.out) ?_;refine Ze rfl ?_;go_wp2_with fail;obtain ⟨wd2, hwd⟩ := nE (wd.alloc (.cells #[.int .i64 1, .string ⟨#[111, 107]⟩, .int .i64 0, .int .i64 0, .int .i64 5, .string ⟨#[]⟩, .int .i64 0, .int .i64 1] 46));have HIN := bn hwd;have HBX : Hid (Below wa.heap.size wa wd2) := hwd ▸ HBW.alloc HBW.size _;rw [hwd];clear hwd;obtain ⟨gi, hgi⟩ := nE (wd.heap.size);rw [hgi] at HIN ⊢;clear hgi;have HBW := HBX
  rotate_left 1
  focus
   skip
   go_wp2_with fail;obtain ⟨wd, hwd⟩ := nE (wc.alloc (.cells #[.int .i64 1, .string ⟨#[111, 107]⟩, .int .i64 0, .int .i64 0, .int .i64 5, .string ⟨#[]⟩, .int .i64 0, .int .i64 1] 46));have HIN := bn hwd;have HBX : Hid (Below wa.heap.size wa wd) := hwd ▸ HBW.alloc HBW.size _;rw [hwd];clear hwd;obtain ⟨gi, hgi⟩ := nE (wc.heap.size);rw [hgi] at HIN ⊢;clear hgi;have HBW := HBX;refine KT.keep (Xp HBX.out) ?_;refine Ze rfl ?_;go_wp2_with fail;refine (Zdl _).mono ?_;rintro en wd2 ⟨rfl, hb⟩;have HBX : Hid (Below wa.heap.size wa wd2) := HBW.trans (hb.mono HBW.size)
   try (have HIN := bb HIN hb; clear hb)
   have HBW := HBX;go_wp2_with fail
  all_goals
   refine KT.keep (Xp HBX.out) ?_;refine Ze rfl ?_;have CN := hid (CRN.out wd2 gi 2 HBX.out (Zr4 HIN.out));go_wp2_with fail;refine CN.mono ?_;rintro en we ⟨A, c, rfl, hown, hbe⟩;obtain ⟨g, rfl⟩ := Zo1 hown aa;have HOWN := hid hown
   have HBE : Hid (Below w.heap.size w we) := by
    have h1 := HB.trans (HBX.mono HB.size);exact h1.trans (hbe.mono h1.size)
   have hgl : g < we.heap.size := (hown.lt g rfl).2;clear hbe hown CN CRN P0 P1 P2 P3;go_wp2_with fail;refine KT.past rfl ?_
   iterate 5 (refine Zd rfl rfl ?_; go_big_quiet_step (fail); refine wpQuiet_nil ?_)
   refine Zi ?_;have hcl : ∀ j u, (Yn (Kd uV uP 0 l23))[j]? = some u → we.cell? ⟨g, j, none⟩ = some u := Zm9 HOWN.out;rw [Zg8] at hcl;have d0 : we.cell? ⟨g, 0, none⟩ = some (.int .i64 2) := hcl 0 _ rfl;have d1 : we.cell? ⟨g, 13, none⟩ = some (.int .i64 2) := hcl 13 _ rfl;have d2 : we.cell? ⟨g, 17, none⟩ = some (.bool true) := hcl 17 _ rfl
   have CC : Hid (Calls Tryz.prog 79 #[.slice (some ⟨g, 0, none⟩) 2 c] we fun e w' => e = .returned (.int .i64 2) ∧ Below we.heap.size we w') := by
    have h1 := Xw HOWN.out;rw [Zg8] at h1
    have := Zp8 (some ⟨g, 0, none⟩) 2 c _ we rfl aa h1 (fun o ho => by
     rcases List.mem_cons.1 ho with rfl | ho
     ·decide
     ·rw [List.mem_singleton] at ho; subst ho; decide)
    rw [Zpg] at this;exact this
   clear hcl HOWN;go_wp2_with fail;refine CC.mono ?_;rintro en wf ⟨rfl, hb⟩;have HBF := bt HBE hb;clear hb CC d0 d1 d2 hgl;go_wp2_with fail;go_ret;exact ⟨rfl, HBF.out⟩
end Go.Proofs.YtpkkfdmhbbipoaaGreat
