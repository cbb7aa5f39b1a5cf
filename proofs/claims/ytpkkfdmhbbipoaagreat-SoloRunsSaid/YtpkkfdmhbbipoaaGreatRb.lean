/- Walks: the reference's scripts that may be. -/
import Derived.Test.YtpkkfdmhbbipoaaGreatPc
import Derived.Test.YtpkkfdmhbbipoaaGreatMh
import Derived.Deep.DeepCutAuto
namespace Go.Proofs.YtpkkfdmhbbipoaaGreat
set_option maxRecDepth 20000
set_option maxHeartbeats 8000000
open Go.RowKit PopT
theorem Zpe (s : ByteArray) (i : Nat) (h : i < s.size) (hb : Ut (s[i]'h) = false ∨ (i = 0 ∧ (s[i]'h).toNat < 97)) : Mi s = false := by
 have hl : i < s.data.toList.length := by rw [Nz]; exact h
 have hg : s.data.toList[i]'hl = s[i]'h := rfl;rw [Ze3];rcases hb with hb | ⟨rfl, hb⟩
 ·have : s.data.toList.all Ut = false := by
   rw [Bool.eq_false_iff];intro ha;rw [List.all_eq_true] at ha;have := ha _ (List.getElem_mem hl);rw [hg, hb] at this;cases this
  rw [this, Bool.and_false]
 ·have : s.data.toList.headD 0 = s[0]'h := by rw [List.headD_eq_head?_getD, List.head?_eq_getElem?, List.getElem?_eq_getElem hl]; rfl
  rw [this, decide_eq_false (show ¬ 97 ≤ (s[0]'h).toNat by omega), Bool.and_false, Bool.false_and]
theorem Zng (s : ByteArray) (h : ∀ i (hi : i < s.size), Ut (s[i]'hi) = true ∧ (i = 0 → 97 ≤ (s[i]'hi).toNat)) : Mi s = (decide (0 < s.size) && decide (s.size < 17)) := by
 rw [Ze3]
 have ha : s.data.toList.all Ut = true := by
  rw [List.all_eq_true];intro x hx;obtain ⟨i, hi, rfl⟩ := List.mem_iff_getElem.1 hx;exact (h i (by rw [Nz] at hi; exact hi)).1
 rw [ha, Bool.and_true, show decide (s.size ≤ 16) = decide (s.size < 17) from decide_eq_decide.2 aa];by_cases h0 : 0 < s.size
 ·have hl : 0 < s.data.toList.length := by rw [Nz]; exact h0
  have e : s.data.toList.headD 0 = s[0]'h0 := by rw [List.headD_eq_head?_getD, List.head?_eq_getElem?, List.getElem?_eq_getElem hl]; rfl
  rw [e, decide_eq_true ((h 0 h0).2 rfl), Bool.and_true]
 ·rw [decide_eq_false h0]; simp
theorem N92{P:Prop}(h:P:=by
 clear HF;go_wp2_with fail;go_ret;rw [HR.out]; exact ⟨rfl, HB.out⟩):P:=h
theorem N35{P:Prop}(h:P:=by
 have HNX : Hid (∀ i (hi : i < s.size), i < k + 1 → Ut (s[i]'hi) = true ∧ (i = 0 → 97 ≤ (s[i]'hi).toNat)) := fun i hi h => by
  by_cases e : i = k
  ·subst e; exact HOK.out
  ·exact HGO.out i hi aa
 clear HN HGO HBD HGD HOK;go_wp2_with fail
 go_quiet (fail)
 have HB3 := hid (HB.trans ((Zq wr nq).mono HB.size));go_wp2_with fail;go_roundw
 case rel => exact ⟨k + 1, aa, aw, HNX.out, HB3.out⟩
 case measure => simp [intOf]; omega):P:=h
theorem N32{P:Prop}(h:P:=by
 clear HN HGO HBD HGD;go_wp2_with fail
 go_quiet (fail)
 have HB3 := hid (HB.trans ((Zq wr nq).mono HB.size));go_wp2_with fail;go_ret;rw [HF.out]; exact ⟨rfl, HB3.out⟩):P:=h
theorem Zm1 (s : ByteArray) (w : World) (hs : s.size ≤ 9223372036854775807) : Calls Tryz.prog 154 #[s] w fun e w' => e = .returned (.bool (Mi s)) ∧ Below w.heap.size w w' := by
 have HBD := hid (Zpe s); have HGD := hid (Zng s);obtain ⟨R, hR⟩ := nE (Mi s);rw [hR] at HBD HGD ⊢;clear hR;go_enter Tryz.func154, Tryz.ntmps154;go_wp2_with fail
 go_loopw [3] (fun iv wr => ∃ k : Nat, k ≤ s.size ∧ iv = .int .i64 (k : Int) ∧ (∀ i (hi : i < s.size), i < k → Ut (s[i]'hi) = true ∧ (i = 0 → 97 ≤ (s[i]'hi).toNat)) ∧ Below w.heap.size w wr) (fun iv _ => s.size - (intOf iv).toNat)
 case atStart => exact ⟨0, aa, rfl, fun i hi h => aa, Below.refl _ _⟩
 case round =>
  obtain ⟨k, hk, rfl, hgo, hb⟩ := hrel;have HGO := hid hgo; have HB := hid hb;clear hgo hb;by_cases hlt : k < s.size
  ·have hbb := (s[k]'hlt).toNat_lt
   have HN : Hid (Ut (s[k]'hlt) = ((decide (97 ≤ (s[k]'hlt).toNat) && decide ((s[k]'hlt).toNat ≤ 122)) || (decide (48 ≤ (s[k]'hlt).toNat) && decide ((s[k]'hlt).toNat ≤ 57)))) := rfl;rcases (show (97 ≤ (s[k]'hlt).toNat ∧ (s[k]'hlt).toNat ≤ 122) ∨ ((s[k]'hlt).toNat < 97 ∧ 48 ≤ (s[k]'hlt).toNat ∧ (s[k]'hlt).toNat ≤ 57) ∨ ((s[k]'hlt).toNat < 97 ∧ (s[k]'hlt).toNat < 48) ∨ ((s[k]'hlt).toNat < 97 ∧ 57 < (s[k]'hlt).toNat) ∨ (122 < (s[k]'hlt).toNat) from aa) with ⟨h1, h2⟩ | ⟨h1, h2, h3⟩ | ⟨h1, h2⟩ | ⟨h1, h2⟩ | h1
   ·have f0 : ¬ (((s[k]'hlt).toNat : Int) < 97) := by omega
    have f1 : ¬ ((122 : Int) < ((s[k]'hlt).toNat : Int)) := aa
    have f2 : ¬ (((s[k]'hlt).toNat : Int) < 48) := aa
    have f3 : ((57 : Int) < ((s[k]'hlt).toNat : Int)) := aa
    have e0 : decide ((97 : Int) ≤ ((s[k]'hlt).toNat : Int)) = true := af
    have e1 : decide (((s[k]'hlt).toNat : Int) ≤ 122) = true := af
    have e2 : decide ((48 : Int) ≤ ((s[k]'hlt).toNat : Int)) = true := af
    have e3 : decide (((s[k]'hlt).toNat : Int) ≤ 57) = false := af
    have HOK : Hid (Ut (s[k]'hlt) = true ∧ (k = 0 → 97 ≤ (s[k]'hlt).toNat)) := ⟨by rw [HN.out, decide_eq_true (show 97 ≤ (s[k]'hlt).toNat by omega), decide_eq_true (show (s[k]'hlt).toNat ≤ 122 by omega)]; simp, fun h => aa⟩;exact N35
   ·have f0 : (((s[k]'hlt).toNat : Int) < 97) := by omega
    have f1 : ¬ ((122 : Int) < ((s[k]'hlt).toNat : Int)) := aa
    have f2 : ¬ (((s[k]'hlt).toNat : Int) < 48) := aa
    have f3 : ¬ ((57 : Int) < ((s[k]'hlt).toNat : Int)) := aa
    have e0 : decide ((97 : Int) ≤ ((s[k]'hlt).toNat : Int)) = false := af
    have e1 : decide (((s[k]'hlt).toNat : Int) ≤ 122) = true := af
    have e2 : decide ((48 : Int) ≤ ((s[k]'hlt).toNat : Int)) = true := af
    have e3 : decide (((s[k]'hlt).toNat : Int) ≤ 57) = true := af
    by_cases hk0 : k = 0
    ·subst hk0
     have HF : Hid (R = false) := HBD.out _ hlt (.inr ⟨rfl, aa⟩);exact N32
    ·have hk1 : ((k : Int) == 0) = false := bF aa
     have hk2 : 0 < k := aa
     have HOK : Hid (Ut (s[k]'hlt) = true ∧ (k = 0 → 97 ≤ (s[k]'hlt).toNat)) := ⟨by rw [HN.out, decide_eq_true (show 48 ≤ (s[k]'hlt).toNat by omega), decide_eq_true (show (s[k]'hlt).toNat ≤ 57 by omega)]; simp, fun h => aa⟩;exact N35
   ·have f0 : (((s[k]'hlt).toNat : Int) < 97) := by omega
    have f1 : ¬ ((122 : Int) < ((s[k]'hlt).toNat : Int)) := aa
    have f2 : (((s[k]'hlt).toNat : Int) < 48) := aa
    have f3 : ¬ ((57 : Int) < ((s[k]'hlt).toNat : Int)) := aa
    have e0 : decide ((97 : Int) ≤ ((s[k]'hlt).toNat : Int)) = false := af
    have e1 : decide (((s[k]'hlt).toNat : Int) ≤ 122) = true := af
    have e2 : decide ((48 : Int) ≤ ((s[k]'hlt).toNat : Int)) = false := af
    have e3 : decide (((s[k]'hlt).toNat : Int) ≤ 57) = true := af
    have HF : Hid (R = false) := HBD.out _ hlt (.inl (by rw [HN.out, decide_eq_false (show ¬ 97 ≤ (s[k]'hlt).toNat by omega), decide_eq_false (show ¬ 48 ≤ (s[k]'hlt).toNat by omega)]; simp));exact N32
   ·have f0 : (((s[k]'hlt).toNat : Int) < 97) := by omega
    have f1 : ¬ ((122 : Int) < ((s[k]'hlt).toNat : Int)) := aa
    have f2 : ¬ (((s[k]'hlt).toNat : Int) < 48) := aa
    have f3 : ((57 : Int) < ((s[k]'hlt).toNat : Int)) := aa
    have e0 : decide ((97 : Int) ≤ ((s[k]'hlt).toNat : Int)) = false := af
    have e1 : decide (((s[k]'hlt).toNat : Int) ≤ 122) = true := af
    have e2 : decide ((48 : Int) ≤ ((s[k]'hlt).toNat : Int)) = true := af
    have e3 : decide (((s[k]'hlt).toNat : Int) ≤ 57) = false := af
    have HF : Hid (R = false) := HBD.out _ hlt (.inl (by rw [HN.out, decide_eq_false (show ¬ 97 ≤ (s[k]'hlt).toNat by omega), decide_eq_false (show ¬ (s[k]'hlt).toNat ≤ 57 by omega)]; simp));exact N32
   ·have f0 : ¬ (((s[k]'hlt).toNat : Int) < 97) := by omega
    have f1 : ((122 : Int) < ((s[k]'hlt).toNat : Int)) := aa
    have f2 : ¬ (((s[k]'hlt).toNat : Int) < 48) := aa
    have f3 : ((57 : Int) < ((s[k]'hlt).toNat : Int)) := aa
    have e0 : decide ((97 : Int) ≤ ((s[k]'hlt).toNat : Int)) = true := af
    have e1 : decide (((s[k]'hlt).toNat : Int) ≤ 122) = false := af
    have e2 : decide ((48 : Int) ≤ ((s[k]'hlt).toNat : Int)) = true := af
    have e3 : decide (((s[k]'hlt).toNat : Int) ≤ 57) = false := af
    have HF : Hid (R = false) := HBD.out _ hlt (.inl (by rw [HN.out, decide_eq_false (show ¬ (s[k]'hlt).toNat ≤ 122 by omega), decide_eq_false (show ¬ (s[k]'hlt).toNat ≤ 57 by omega)]; simp));exact N32
  ·have HF : Hid (R = (decide (0 < s.size) && decide (s.size < 17))) := HGD.out (fun i hi => HGO.out i hi aa)
   clear HGO HBD HGD;by_cases h0 : 0 < s.size
   ·by_cases h17 : s.size < 17
    ·have HR : Hid (R = true) := by rw [Hid, HF.out, decide_eq_true h0, decide_eq_true h17]; rfl
     have h1 : (0 : Int) < (s.size : Int) := aa
     have h2 : (s.size : Int) < 17 := aa
     exact N92
    ·have HR : Hid (R = false) := by rw [Hid, HF.out, decide_eq_false h17]; simp
     have h1 : (0 : Int) < (s.size : Int) := aa
     have h2 : ¬ (s.size : Int) < 17 := aa
     exact N92
   ·have HR : Hid (R = false) := by rw [Hid, HF.out, decide_eq_false h0]; simp
    have h1 : ¬ (0 : Int) < (s.size : Int) := aa
    exact N92
theorem N11{P:Prop}(h:P:=by
 go_enter Tryz.func173, Tryz.ntmps173;go_wp2_with fail;go_ret;rw [HF.out]; exact ⟨rfl, HB0.out _⟩):P:=h
theorem N133{P:Prop}(h:P:=by
 have q1 : ((nn : Int) == 0) = false := by rw [beq_eq_false_iff_ne]; exact hnn
 have q2 : ((nn : Int) != 0) = true := ek
 clear HR hnn;exact N11):P:=h
theorem N129{P:Prop}(h:P:=by
 have q1 : ((tt : Int) == 0) = false := by rw [beq_eq_false_iff_ne]; exact htt
 have q2 : ((tt : Int) != 0) = true := ek
 clear HR htt;exact N11):P:=h
theorem N146{P:Prop}(h:P:=by
 have q1 : ¬ tx.toList = [] := by have := Jg (b := ⟨#[]⟩) (fun h => htx ((Gc tx).1 h)); rwa [ByteArray.toList_eq ⟨#[]⟩] at this
 have q2 : (tx.toList == []) = false := cy
 clear HR htx;exact N11):P:=h
theorem N124{P:Prop}(h:P:=by
 have HF : Hid (R = false) := by rw [Hid, HR.out]; simp [show ez = false from by rw [← HEZ.out]; exact decide_eq_false htx]
 exact N146):P:=h
theorem N148{P:Prop}(h:P:=by
 have q1 : ((m : Int) == 0) = false := bF aa;have q2 : 0 < m := aa
 clear HR hm;exact N11):P:=h
theorem N144{P:Prop}(h:P:=by
 have q1 : ((oE : Int) == 0) = false := by rw [beq_eq_false_iff_ne]; exact hoE
 have q2 : ((oE : Int) != 0) = true := ek
 clear HR hoE;exact N11):P:=h
theorem N143{P:Prop}(h:P:=by
 have q1 : ((oT : Int) == 0) = false := by rw [beq_eq_false_iff_ne]; exact hoT
 have q2 : ((oT : Int) != 0) = true := ek
 clear HR hoT;exact N11):P:=h
theorem N122{P:Prop}(h:P:=by
 by_cases hm : m = 0;rotate_left
 ·have HF : Hid (R = false) := by rw [Hid, HR.out]; simp [HZ.out, hm]
  exact N148
 subst hm;by_cases hoT : oT = 0;rotate_left
 ·have HF : Hid (R = false) := by rw [Hid, HR.out]; simp [HZ.out, hoT]
  exact N143
 subst hoT;by_cases hoE : oE = 0;rotate_left
 ·have HF : Hid (R = false) := by rw [Hid, HR.out]; simp [HZ.out, hoE]
  exact N144
 subst hoE;have HF : Hid (R = true) := by rw [Hid, HR.out]; simp [HZ.out]
 clear HR;exact N11):P:=h
theorem Zm5 (o : OpV) (B : Option Addr) (d : Nat) (w : World) : Calls Tryz.prog 173 #[o.val (.slice B o.arms.length d)] w fun e w' => e = .returned (.bool (Mk o)) ∧ Below w.heap.size w w' := by
 obtain ⟨k, tx, nn, tt, arms, oT, oE⟩ := o;have HB0 : Hid (∀ cs, Below w.heap.size w (w.alloc (.cells cs 56))) := fun cs => (Below.refl _ _).alloc (Nat.le_refl _) _;unfold OpV.val;simp only;obtain ⟨m, hm⟩ := nE (arms.length);have HR : Hid (Mk ⟨k, tx, nn, tt, arms, oT, oE⟩ = ((decide (k = 1) || decide (tx.size = 0)) && (decide (k = 2) || decide (k = 4) || decide (nn = 0)) && (decide (k = 3) || decide (tt = 0)) && (decide (k = 2) || (decide (m = 0) && decide (oT = 0) && decide (oE = 0))))) := by rw [← hm]; rfl
 rw [hm];obtain ⟨R, hR⟩ := nE (Mk ⟨k, tx, nn, tt, arms, oT, oE⟩);rw [hR] at HR ⊢;obtain ⟨ez, hez⟩ := nE (decide (tx.size = 0));rw [hez] at HR;have HEZ := hid hez;clear hR hm arms hez;by_cases k1 : k = 1
 ·subst k1
  by_cases hnn : nn = 0;rotate_left
  ·have HF : Hid (R = false) := by rw [Hid, HR.out]; simp [hnn]
   exact N133
  subst hnn;by_cases htt : tt = 0;rotate_left
  ·have HF : Hid (R = false) := by rw [Hid, HR.out]; simp [htt]
   exact N129
  subst htt;by_cases hm : m = 0;rotate_left
  ·have HF : Hid (R = false) := by rw [Hid, HR.out]; simp [hm]
   exact N148
  subst hm;by_cases hoT : oT = 0;rotate_left
  ·have HF : Hid (R = false) := by rw [Hid, HR.out]; simp [hoT]
   exact N143
  subst hoT;by_cases hoE : oE = 0;rotate_left
  ·have HF : Hid (R = false) := by rw [Hid, HR.out]; simp [hoE]
   exact N144
  subst hoE;have HF : Hid (R = true) := by rw [Hid, HR.out]; simp
  clear HR;exact N11
 by_cases k2 : k = 2
 ·subst k2
  by_cases htx : tx.size = 0;rotate_left
  ·exact N124
  have HZ : Hid (ez = true) := dm
  clear HEZ;obtain rfl := (Gc tx).2 htx;clear htx;by_cases htt : tt = 0;rotate_left
  ·have HF : Hid (R = false) := by rw [Hid, HR.out]; simp [HZ.out, htt]
   exact N129
  subst htt;have HF : Hid (R = true) := by rw [Hid, HR.out]; simp [HZ.out]
  clear HR;exact N11
 by_cases k3 : k = 3
 ·subst k3
  by_cases htx : tx.size = 0;rotate_left
  ·exact N124
  have HZ : Hid (ez = true) := dm
  clear HEZ;obtain rfl := (Gc tx).2 htx;clear htx;by_cases hnn : nn = 0;rotate_left
  ·have HF : Hid (R = false) := by rw [Hid, HR.out]; simp [HZ.out, hnn]
   exact N133
  subst hnn;exact N122
 by_cases k4 : k = 4
 ·subst k4
  by_cases htx : tx.size = 0;rotate_left
  ·exact N124
  have HZ : Hid (ez = true) := dm
  clear HEZ;obtain rfl := (Gc tx).2 htx;clear htx;by_cases htt : tt = 0;rotate_left
  ·have HF : Hid (R = false) := by rw [Hid, HR.out]; simp [HZ.out, htt]
   exact N129
  subst htt;exact N122
 have HK := hid (And.intro k1 (And.intro k2 (And.intro k3 k4)));have j1 : ((k : Int) == 1) = false := by rw [beq_eq_false_iff_ne]; exact k1
 have l1 : ((k : Int) != 1) = true := by rw [bne, j1]; rfl
 have j2 : ((k : Int) == 2) = false := by rw [beq_eq_false_iff_ne]; exact k2
 have l2 : ((k : Int) != 2) = true := by rw [bne, j2]; rfl
 have j3 : ((k : Int) == 3) = false := by rw [beq_eq_false_iff_ne]; exact k3
 have l3 : ((k : Int) != 3) = true := by rw [bne, j3]; rfl
 have j4 : ((k : Int) == 4) = false := by rw [beq_eq_false_iff_ne]; exact k4
 have l4 : ((k : Int) != 4) = true := by rw [bne, j4]; rfl
 clear k1 k2 k3 k4;by_cases htx : tx.size = 0;rotate_left
 ·have HF : Hid (R = false) := by rw [Hid, HR.out]; simp [HK.1, HK.2.1, HK.2.2.1, HK.2.2.2, show ez = false from by rw [← HEZ.out]; exact decide_eq_false htx]
  exact N146
 have HZ : Hid (ez = true) := dm
 clear HEZ;obtain rfl := (Gc tx).2 htx;clear htx;by_cases hnn : nn = 0;rotate_left
 ·have HF : Hid (R = false) := by rw [Hid, HR.out]; simp [HK.1, HK.2.1, HK.2.2.1, HK.2.2.2, HZ.out, hnn]
  exact N133
 subst hnn;by_cases htt : tt = 0;rotate_left
 ·have HF : Hid (R = false) := by rw [Hid, HR.out]; simp [HK.1, HK.2.1, HK.2.2.1, HK.2.2.2, HZ.out, htt]
  exact N129
 subst htt;by_cases hm : m = 0;rotate_left
 ·have HF : Hid (R = false) := by rw [Hid, HR.out]; simp [HK.1, HK.2.1, HK.2.2.1, HK.2.2.2, HZ.out, hm]
  exact N148
 subst hm;by_cases hoT : oT = 0;rotate_left
 ·have HF : Hid (R = false) := by rw [Hid, HR.out]; simp [HK.1, HK.2.1, HK.2.2.1, HK.2.2.2, HZ.out, hoT]
  exact N143
 subst hoT;by_cases hoE : oE = 0;rotate_left
 ·have HF : Hid (R = false) := by rw [Hid, HR.out]; simp [HK.1, HK.2.1, HK.2.2.1, HK.2.2.2, HZ.out, hoE]
  exact N144
 subst hoE;have HF : Hid (R = true) := by rw [Hid, HR.out]; simp [HK.1, HK.2.1, HK.2.2.1, HK.2.2.2, HZ.out]
 clear HR;exact N11
theorem N114{P:Prop}(h:P:=by
 clear HBL3;go_wp2_with fail;go_meet;exact ⟨by rw [HZ.out], HB6.out⟩):P:=h
theorem N113{P:Prop}(h:P:=by
 go_wp2_with fail;go_ret;rw [HF.out, HGP.out]; exact ⟨rfl, by have := HB0.out; rwa [HGP.out] at this⟩):P:=h
theorem N66{P:Prop}(h:P:=by
 go_wp2_with fail;go_ret;rw [HZ.out, HGP.out]; exact ⟨rfl, ev⟩):P:=h
theorem N128{P:Prop}(h:P:=by
 clear HBD HX h1;go_wp2_with fail;go_meet;exact ⟨by rw [HQ.out], rfl⟩):P:=h
theorem Zjf (p : Xl) (A : Option Addr) (c : Nat) (o : OpV) (v : Value) (w : World) (hv : Xj w o v) (hok : ∀ a ∈ o.arms, a.pat.size ≤ 1000000) (CM : ∀ (t : Int) W, Calls Tryz.prog 175 #[p.val (.slice A p.ops.length c), t] W fun e w' => e = .returned (.bool (Yh p.ops.length t)) ∧ Below W.heap.size W w') :
  Calls Tryz.prog 174 #[p.val (.slice A p.ops.length c), o.val v] w fun e w' => e = .returned ((Vp p.ops.length o : Nat) : Int) ∧ Below w.heap.size w w' := by
 obtain ⟨nm, dl, jp, ops⟩ := p;obtain ⟨B, d, rfl, hr⟩ := hv;obtain ⟨k, tx, nn, tt, arms, oT, oE⟩ := o;unfold Xl.val at CM;simp only at CM hok hr;have HE : Hid (Vp ops.length ⟨k, tx, nn, tt, arms, oT, oE⟩ = if nn ≠ Vj ∧ Wp nn = false then 12 else if 8 < arms.length then 4 else if Wd ops.length arms ≠ 0 then Wd ops.length arms else if Uj ops.length oT = true ∨ Uj ops.length oE = true then 13 else 0) := rfl;show Calls Tryz.prog 174 #[.agg #[nm, dl, jp, .slice A ops.length c], .agg #[k, tx, nn, tt, .slice B arms.length d, oT, oE]] w fun e w' => e = .returned ((Vp ops.length ⟨k, tx, nn, tt, arms, oT, oE⟩ : Nat) : Int) ∧ Below w.heap.size w w';have HR := hid hr; have CC := hid CM; have HOK := hid hok;obtain ⟨n, hn⟩ := nE (ops.length);rw [hn] at CC HE ⊢;obtain ⟨R, hRR⟩ := nE (Vp n ⟨k, tx, nn, tt, arms, oT, oE⟩);rw [hRR] at HE ⊢;obtain ⟨m, hm⟩ := nE (arms.length);have HM := hid hm;rw [hm] at HE ⊢;clear hn hRR hr hm CM hok;obtain ⟨bd, hbd⟩ := nE (decide (nn ≠ Vj ∧ Wp nn = false));have HBD := hid hbd
 have HX : Hid (R = if bd = true then 12 else if 8 < m then 4 else if Wd n arms ≠ 0 then Wd n arms else if Uj n oT = true ∨ Uj n oE = true then 13 else 0) := by
  rw [Hid, HE.out, ← hbd]; simp only [decide_eq_true_eq]
 clear HE hbd;go_enter Tryz.func174, Tryz.ntmps174;go_upto_region 1 with fail;obtain ⟨wb, hwb⟩ := nE ((w.alloc (.cells #[nm, dl, jp, .slice A n c] 26)).alloc (.cells #[k, tx, nn, tt, .slice B m d, oT, oE] 56));have HB0 : Hid (Below w.heap.size w wb) := hwb ▸ Uu _ _ _;have HP0 : Hid (Blk wb w.heap.size 26 #[nm, dl, jp, .slice A n c]) := hwb ▸ (Blk.new w _ _).alloc _;have HO0 : Hid (Blk wb (w.heap.size + 1) 56 #[k, tx, nn, tt, .slice B m d, oT, oE]) := hwb ▸ Gz _ _ _ _;rw [hwb];clear hwb;have HBX : Hid (∀ W, Below wb.heap.size wb W → Below w.heap.size w W) := fun W h => HB0.trans (h.mono HB0.size);obtain ⟨gp, hgp⟩ := nE (w.heap.size);have HGP := hid hgp;rw [hgp] at HP0 HO0 ⊢;obtain ⟨go, hgo⟩ := nE (gp + 1);rw [hgo] at HO0 ⊢;clear hgp hgo;have HRB := hid (HR.below HB0.out);have HFACT : Hid (∀ W, Below wb.heap.size wb W → Blk W gp 26 #[nm, dl, jp, .slice A n c] ∧ Blk W go 56 #[k, tx, nn, tt, .slice B m d, oT, oE]) := fun W h => ⟨HP0.below h HP0.lt, HO0.below h HO0.lt⟩;obtain ⟨o0, o1, o2, o3, o4, o5, o6⟩ := Qo HO0.out;have hol := HO0.lt;have hpl := HP0.lt;clear HR
 go_cut [21] (fun s wx => s = .bool bd ∧ wx = wb)
 case first =>
  by_cases h1 : nn = Vj
  ·subst h1
   have HQ : Hid (bd = false) := by rw [Hid, ← HBD.out]; simp
   clear HBD HX;unfold Vj;unfold Vj at o2;go_wp2_with fail;go_meet;exact ⟨by rw [HQ.out], rfl⟩
  ·have q1 : (nn == 9223372036854775807) = false := bF h1
   have q2 : (nn != 9223372036854775807) = true := ek
   by_cases h2 : nn < 0
   ·have HQ : Hid (bd = true) := by rw [Hid, ← HBD.out, decide_eq_true]; exact ⟨h1, by unfold Wp; rw [decide_eq_false aa]; rfl⟩
    exact N128
   ·by_cases h3 : 1000000000000 < nn
    ·have HQ : Hid (bd = true) := by rw [Hid, ← HBD.out, decide_eq_true]; exact ⟨h1, by unfold Wp; rw [decide_eq_false (show ¬ nn ≤ 1000000000000 by omega), Bool.and_false]⟩
     exact N128
    ·have HQ : Hid (bd = false) := by rw [Hid, ← HBD.out, decide_eq_false]; exact fun h => by have h4 := h.2; unfold Wp at h4; rw [decide_eq_true (show 0 ≤ nn by omega), decide_eq_true (show nn ≤ 1000000000000 by omega)] at h4; cases h4
     exact N128
 case rest =>
  obtain ⟨rfl, rfl⟩ := hcut;clear HBD;cases bd;rotate_left
  ·have HF : Hid (R = 12) := by rw [Hid, HX.out, if_pos rfl]
   clear HX;exact N113
  have HX1 : Hid (R = if 8 < m then 4 else if Wd n arms ≠ 0 then Wd n arms else if Uj n oT = true ∨ Uj n oE = true then 13 else 0) := by rw [Hid, HX.out, if_neg ac]
  clear HX;by_cases h8 : 8 < m
  ·have HF : Hid (R = 4) := by rw [Hid, HX1.out, if_pos h8]
   have h8' : (8 : Int) < (m : Int) := aa
   clear HX1;exact N113
  have h8' : ¬ (8 : Int) < (m : Int) := aa
  have HX2 : Hid (R = if Wd n arms ≠ 0 then Wd n arms else if Uj n oT = true ∨ Uj n oE = true then 13 else 0) := by rw [Hid, HX1.out, if_neg h8]
  clear HX1;go_wp2_with fail
  go_loopw [5] (fun iv wr => ∃ i : Nat, i ≤ m ∧ iv = .int .i64 (i : Int) ∧ Wd n (arms.drop i) = Wd n arms ∧ Below wc.heap.size wc wr) (fun iv _ => m - (intOf iv).toNat)
  case atStart => exact ⟨0, aa, rfl, rfl, Below.refl _ _⟩
  case round =>
   obtain ⟨i, hi, rfl, hae, hb⟩ := hrel;have HAE := hid hae; have HB := hid hb;have HBW := hid (HBX.out _ hb);clear hae hb o0 o1 o2 o3 o4 o5 o6 hol hpl;have hfa := HFACT.out wr HB.out;obtain ⟨p0, p1, p2, p3⟩ := Wc hfa.1;obtain ⟨o0, o1, o2, o3, o4, o5, o6⟩ := Qo hfa.2;have hpl := hfa.1.lt;have hol := hfa.2.lt;clear hfa;by_cases hlt : i < m
   ·have HK : Hid (i < arms.length) := by rw [Hid, HM.out]; exact hlt
    obtain ⟨b1, off1, rfl, hbl, hc⟩ := (HRB.below HB.out).at (by rw [Xs, HM.out]; omega);obtain ⟨d0, d1⟩ := Zbu hc i HK.out
    have HAS : Hid (Wd n arms = if Zbe n (arms[i]'HK.out) ≠ 0 then Zbe n (arms[i]'HK.out) else Wd n (arms.drop (i + 1))) := by
     rw [Hid, ← HAE.out, List.drop_eq_getElem_cons HK.out, Wd]
    have hps := HOK.out _ (List.getElem_mem HK.out);have CK := hid (fun W => Zfl (arms[i]'HK.out).pat hps W);have HAR : Hid (Zbe n (arms[i]'HK.out) = if 64 < (arms[i]'HK.out).pat.size then 4 else if (Xi (arms[i]'HK.out).pat).2.2 ≠ 0 then (Xi (arms[i]'HK.out).pat).2.2 else if Yh n (arms[i]'HK.out).tt = false then 13 else 0) := rfl;obtain ⟨⟨pa, ta⟩, hx⟩ : ∃ x, arms[i]'HK.out = x := ⟨_, rfl⟩;rw [hx] at d0 d1 HAS CK HAR hps;simp only at d0 d1 CK HAR hps;obtain ⟨e, he⟩ := nE (Zbe n ⟨pa, ta⟩);rw [he] at HAS HAR;clear hx he hc HAE;by_cases h64 : 64 < pa.size
    ·have HF : Hid (R = 4) := by
      have h1 : e = 4 := by rw [HAR.out, if_pos h64]
      have h2 : Wd n arms = 4 := by rw [HAS.out, h1]; rfl
      rw [Hid, HX2.out, h2]; rfl
     have h64' : (64 : Int) < (pa.size : Int) := aa
     clear HAR HAS HX2 CK;go_wp2_with fail;go_ret;rw [HF.out, HGP.out]; exact ⟨rfl, by have := HBW.out; rwa [HGP.out] at this⟩
    have h64' : ¬ (64 : Int) < (pa.size : Int) := aa
    have HAR1 : Hid (e = if (Xi pa).2.2 ≠ 0 then (Xi pa).2.2 else if Yh n ta = false then 13 else 0) := by rw [Hid, HAR.out, if_neg h64]
    clear HAR;obtain ⟨⟨cl, ca, ce⟩, hce⟩ : ∃ y, Xi pa = y := ⟨_, rfl⟩;rw [hce] at CK HAR1;simp only at HAR1;clear hce;go_wp2_with fail;refine (CK.out _).mono ?_;rintro en w2 ⟨Ai, ci, rfl, -, hb2⟩;have HB2 : Hid (Below wc.heap.size wc w2) := HB.trans (hb2.mono HB.size);have HBW2 := hid (HBX.out _ HB2.out);have hbl2 : b1 < w2.heap.size := Nat.lt_of_lt_of_le hbl hb2.size;have d1' : w2.cell? ⟨b1, off1 + i * 2 + 1, none⟩ = some (.int .i64 ta) := (World.cell?_of_block (hb2.block b1 hbl)).trans d1;clear hb2 CK HB HBW p0 p1 p2 p3 o0 o1 o2 o3 o4 o5 o6 hol hpl d0 d1 hbl;have hfa := HFACT.out w2 HB2.out;obtain ⟨p0, p1, p2, p3⟩ := Wc hfa.1;obtain ⟨o0, o1, o2, o3, o4, o5, o6⟩ := Qo hfa.2;have hpl := hfa.1.lt;have hol := hfa.2.lt;clear hfa;by_cases hz : ce = 0;rotate_left
    ·have he0 : ((ce : Int) == 0) = false := bF aa
     have he1 : ((ce : Int) != 0) = true := ft
     have HF : Hid (R = ce) := by
      have h1 : e = ce := by rw [HAR1.out, if_pos hz]
      have h2 : Wd n arms = ce := by rw [HAS.out, h1, if_pos hz]
      rw [Hid, HX2.out, h2, if_pos hz]
     clear HAR1 HAS HX2 hz;go_wp2_with fail;go_ret;rw [HF.out, HGP.out]; exact ⟨rfl, by have := HBW2.out; rwa [HGP.out] at this⟩
    subst hz;have HAR2 : Hid (e = if Yh n ta = false then 13 else 0) := by rw [Hid, HAR1.out, if_neg ah]
    have CCq := hid (fun q : BW w2.heap.size w2 => CC.out ta q.1);obtain ⟨cm, hcm⟩ := nE (Yh n ta);rw [hcm] at HAR2 CCq;clear HAR1 hcm;have T0 : ∀ q : BW w2.heap.size w2, q.1.cell? ⟨gp, 0, none⟩ = some (.string nm) := fun q => q.cellAt hpl p0;have T1 : ∀ q : BW w2.heap.size w2, q.1.cell? ⟨gp, 1, none⟩ = some (.int .i64 dl) := fun q => q.cellAt hpl p1;have T2 : ∀ q : BW w2.heap.size w2, q.1.cell? ⟨gp, 2, none⟩ = some (.int .i64 jp) := fun q => q.cellAt hpl p2;have T3 : ∀ q : BW w2.heap.size w2, q.1.cell? ⟨gp, 3, none⟩ = some (.slice A n c) := fun q => q.cellAt hpl p3;have T4 : ∀ q : BW w2.heap.size w2, q.1.cell? ⟨go, 4, none⟩ = some (.slice (some ⟨b1, off1, none⟩) m d) := fun q => q.cellAt hol o4;have T5 : ∀ q : BW w2.heap.size w2, q.1.cell? ⟨b1, off1 + i * 2 + 1, none⟩ = some (.int .i64 ta) := fun q => q.cellAt hbl2 d1';go_upto_region 13 with fail;refine Zh w2.heap.size ab ab ?_
    repeat (go_big_quiet_step ((go_at_call 175; exact Kr (Nat.le_refl _) CCq.out _)))
    refine wpQuiet_nil ?_;intro w5 hq5;have HB5 : Hid (Below w2.heap.size w2 w5) := iu
    have HB6 : Hid (Below wc.heap.size wc w5) := HB2.trans (HB5.mono HB2.size);have HBW6 := hid (HBX.out _ HB6.out);clear hq5 T0 T1 T2 T3 T4 T5 CCq HB5 HB2 HBW2 p0 p1 p2 p3 o0 o1 o2 o3 o4 o5 o6 hol hpl d1' hbl2;cases cm
    ·have HF : Hid (R = 13) := by
      have h1 : e = 13 := by rw [HAR2.out, if_pos rfl]
      have h2 : Wd n arms = 13 := by rw [HAS.out, h1]; rfl
      rw [Hid, HX2.out, h2]; rfl
     clear HAR2 HAS HX2;go_wp2_with fail;go_ret;rw [HF.out, HGP.out]; exact ⟨rfl, by have := HBW6.out; rwa [HGP.out] at this⟩
    ·have HAS2 : Hid (Wd n (arms.drop (i + 1)) = Wd n arms) := by
      have h1 : e = 0 := by rw [HAR2.out, if_neg ac]
      rw [Hid, HAS.out, h1, if_neg ah]
     clear HAR2 HAS;go_wp2_with fail;go_roundw
     case rel => exact ⟨i + 1, aa, aw, HAS2.out, HB6.out⟩
     case measure => simp [intOf]; omega
   ·have HF : Hid (R = if Uj n oT = true ∨ Uj n oE = true then 13 else 0) := by
     have h1 : Wd n arms = 0 := kh
     rw [Hid, HX2.out, h1, if_neg ah]
    clear HAE HX2 HRB HOK;obtain ⟨bl, hbl⟩ := nE (decide (Uj n oT = true ∨ Uj n oE = true));have HF2 : Hid (R = if bl = true then 13 else 0) := by rw [Hid, HF.out, ← hbl]; simp only [decide_eq_true_eq]
    have HBL := hid hbl;clear hbl HF;have HLT : Hid (Uj n oT = (decide (oT ≠ -1) && !Yh n oT)) := rfl;have HLE : Hid (Uj n oE = (decide (oE ≠ -1) && !Yh n oE)) := rfl;have CT := hid (CC.out oT); have CE := hid (CC.out oE);obtain ⟨ct, hct⟩ := nE (Yh n oT);obtain ⟨cE, hcE⟩ := nE (Yh n oE);rw [hct] at CT HLT;rw [hcE] at CE HLE
    have HBL2 : Hid (bl = ((decide (oT ≠ -1) && !ct) || (decide (oE ≠ -1) && !cE))) := by
     rw [Hid, ← HBL.out, HLT.out, HLE.out, Bool.eq_iff_iff]; simp only [decide_eq_true_eq, Bool.or_eq_true]
    clear hct hcE HLT HLE HBL CC;go_upto_region 15 with fail
    go_cut [85] (fun s wx => s = .bool bl ∧ Below wr.heap.size wr wx)
    case first =>
     by_cases ht : oT = -1
     ·subst ht
      by_cases he : oE = -1
      ·subst he
       have HZ : Hid (bl = false) := by rw [Hid, HBL2.out]; simp
       clear HBL2;go_wp2_with fail;go_meet;exact ⟨by rw [HZ.out], Below.refl _ _⟩
      ·have r1 : (oE == -1) = false := by rw [beq_eq_false_iff_ne]; exact he
       have r2 : (oE != -1) = true := by rw [bne, r1]; rfl
       have HZ : Hid (bl = !cE) := by rw [Hid, HBL2.out]; simp [he]
       clear HBL2 he;go_wp2_with fail;refine (CE.out _).mono ?_;rintro en w7 ⟨rfl, hb7⟩;have HB7 := hid hb7;clear hb7;cases cE <;>
       ·go_wp2_with fail
        go_meet;exact ⟨by rw [HZ.out]; rfl, HB7.out⟩
     ·have q1 : (oT == -1) = false := by rw [beq_eq_false_iff_ne]; exact ht
      have q2 : (oT != -1) = true := ek
      have HBL3 : Hid (bl = (!ct || (decide (oE ≠ -1) && !cE))) := by rw [Hid, HBL2.out, decide_eq_true ht]; rfl
      clear HBL2 ht;go_wp2_with fail;refine (CT.out _).mono ?_;rintro en w6 ⟨rfl, hb6⟩;have HB6 := hid hb6;have hfa := HFACT.out w6 (HB.trans (hb6.mono HB.size));clear hb6 CT p0 p1 p2 p3 o0 o1 o2 o3 o4 o5 o6 hol hpl;obtain ⟨p0, p1, p2, p3⟩ := Wc hfa.1;obtain ⟨o0, o1, o2, o3, o4, o5, o6⟩ := Qo hfa.2;have hpl := hfa.1.lt;have hol := hfa.2.lt;clear hfa;cases ct
      ·have HZ : Hid (bl = true) := by rw [Hid, HBL3.out]; rfl
       exact N114
      ·by_cases he : oE = -1
       ·subst he
        have HZ : Hid (bl = false) := by rw [Hid, HBL3.out]; simp
        exact N114
       ·have r1 : (oE == -1) = false := by rw [beq_eq_false_iff_ne]; exact he
        have r2 : (oE != -1) = true := by rw [bne, r1]; rfl
        have HZ : Hid (bl = !cE) := by rw [Hid, HBL3.out]; simp [he]
        clear HBL3 he;go_wp2_with fail;refine (CE.out _).mono ?_;rintro en w7 ⟨rfl, hb7⟩;have HB7 := hid hb7;clear hb7;cases cE <;>
        ·go_wp2_with fail
         go_meet;exact ⟨by rw [HZ.out]; rfl, HB6.trans (HB7.mono HB6.size)⟩
    case rest =>
     obtain ⟨rfl, hb6⟩ := hcut;have HB6 := bt HBW hb6;clear hb6;cases bl
     ·have HZ : Hid (R = 0) := by rw [Hid, HF2.out, if_neg ac]
      exact N66
     ·have HZ : Hid (R = 13) := by rw [Hid, HF2.out, if_pos rfl]
      exact N66
end Go.Proofs.YtpkkfdmhbbipoaaGreat
