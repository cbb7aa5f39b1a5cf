/- Walks: 'lang.ends'. Walks: the rest of package lang. Walks: the reference's 'Matches'. Walks: where a pattern ends, starts, occurs first: the reference's, and what of package lang is left. -/
import Derived.Test.YtpkkfdmhbbipoaaGreatMb
import Derived.Test.YtpkkfdmhbbipoaaGreatMa
import Derived.Test.YtpkkfdmhbbipoaaGreatMc
namespace Go.Proofs.YtpkkfdmhbbipoaaGreat
set_option maxRecDepth 100000
set_option maxHeartbeats 2000000
open Go.RowKit
theorem Zc6 (s : ByteArray) : s.data.toList.length = s.size := by simp
theorem Zjh (n : Nat) : Wq (n + 1) 0 false = true :: List.replicate n false := by
 refine List.ext_getElem (by simp [Wq]) fun i h1 h2 => ?_;cases i with
 | zero => simp [Wq]
 | succ i => simp [Wq]; omega
theorem Zhf (L : List Bool) (n : Nat) (h : n < L.length) : (Qi false L).getD n false = (L.take (n + 1)).any id := by
 rw [Bool.eq_iff_iff, Zcr];simp only [Bool.false_eq_true, false_or, List.any_eq_true, id];constructor
 ·rintro ⟨_, k, hk, hv⟩
  refine ⟨true, List.mem_iff_getElem?.2 ⟨k, ?_⟩, rfl⟩;rw [List.getElem?_take_of_lt aa, List.getElem?_eq_getElem aa];rw [List.getD, List.getElem?_eq_getElem aa] at hv;simpa using hv
 ·rintro ⟨b, hb, rfl⟩
  obtain ⟨k, hk⟩ := List.mem_iff_getElem?.1 hb;have hkl := (List.getElem?_eq_some_iff.1 hk).1;rw [List.length_take] at hkl;rw [List.getElem?_take_of_lt aa] at hk;exact ⟨h, k, aa, by rw [List.getD, hk]; rfl⟩
theorem Zga (L : List Bool) (k : Nat) (h : k < L.length) : (L.take (k + 1)).any id = ((L.take k).any id || L.getD k false) := by
 rw [List.take_succ_eq_append_getElem h, List.any_append];simp [List.getD, h]
theorem Zbf (L : List Bool) (k : Nat) (h : k < L.length) : Zs (L.take (k + 1)) = Zs (L.take k) ++ [.bool (L.getD k false)] := by
 rw [List.take_succ_eq_append_getElem h];unfold Zs;rw [List.map_append];simp [List.getD, h]
theorem Zrf {w : World} {A : Option Addr} {L : List Bool} {n : Nat} (h : Rd w A (Zs L)) (hl : L.length = n) (hn : 0 < n) :
  ∃ b off, A = some ⟨b, off, none⟩ ∧ b < w.heap.size ∧ ∀ j, j < n → w.cell? ⟨b, off + j, none⟩ = some (.bool (L.getD j false)) := by
 obtain ⟨b, off, rfl, hb, hc⟩ := h.at (by rw [Ue]; omega);refine ⟨b, off, rfl, hb, fun j hj => hc j _ ?_⟩;rw [Nf L j aa]; simp [List.getD, hl, hj]
theorem N131{P:Prop}(h:P:=by
 intro A2 d2 w3 hown3 hg3;have hb3 := Wo hbw hown hg3 (Nat.le_refl _) hszw;have HO3 := hid hown3;clear hown hown3 hg3 hbw;go_wp2_with fail;go_roundw
 case rel => exact ⟨_, A2, d2, aa, aw, rfl, by rw [HTS.out, HV.out]; exact HO3.out, hb3⟩
 case measure => simp [intOf] <;> omega):P:=h
theorem N19{P:Prop}(h:P:=by
 go_wp2_with fail
 go_loopw [10, 11] (fun v i wy => v = .bool false ∧ i = .int .i64 0 ∧ Below (wr.drew).heap.size (wr.drew) wy) (fun _ _ _ => 0)
 case atStart => exact ⟨rfl, rfl, Below.refl _ _⟩
 case round =>
  obtain ⟨rfl, rfl, hby2⟩ := hrel;have fy := (hby2.cell (p := ⟨b, off + q * 5, none⟩) (World.block_lt_of_cell? _ _ fz)).trans fz;have hown := Yc HOZ.out hby2;have hbw := HBZ.trans (hby2.mono HBZ.size);have hszw := hbw.size;clear fz hby2;go_wp2_with (at_builtin; refine Wn _ rfl _ _ 114 rfl wq.heap.size 4 _ 1 1 Tryz.underlying114 Qx rfl ac _ _ _ rfl hown 1 [.bool false] rfl rfl rfl ?_ ac hszw ?_)
  ·omega
  exact N131):P:=h
theorem Zhq (A : Option Addr) (n c : Nat) (l : List Zm) (s : ByteArray) (w : World) (hl : l.length = n) (hn : n ≤ 1000000) (hr : Rd w A (Yb l)) (hs : s.size ≤ 1000000) :
  Calls Tryz.prog 218 #[.slice A n c, s] w fun e w' => e = .returned (.bool (Wz l s.data.toList)) ∧ Below w.heap.size w w' := by
 have HL := hid hl; clear hl;have HSZ := hid (show s.data.toList.length = s.size by simp);go_enter Tryz.func218, Tryz.ntmps218
 go_wp2
 go_loopw [5, 6] (fun v i wr => ∃ (k : Nat) (A' : Option Addr) (c' : Nat), k ≤ s.size ∧ i = .int .i64 k ∧ v = .slice A' (k + 1) c' ∧
   wr.ownsRow w.heap.size 4 1 (.slice A' (k + 1) c') (k + 1) (Zs (true :: List.replicate k false)) ∧ Below w.heap.size w wr) (fun _ i _ => s.size - (intOf i).toNat)
 case atStart => exact ⟨0, _, _, aa, rfl, rfl, by simpa [Zs] using World.ownsRow_lit (base := w.heap.size) (e := 4) (size := 1) w #[.bool true] 1 (Nat.le_refl _) cd ah, (Below.refl _ _).alloc (Nat.le_refl _) _⟩
 case round =>
  obtain ⟨k, A', c', hk, rfl, rfl, hown, hb⟩ := hrel;have hsz := hb.size;by_cases hlt : k < s.size
  ·have HR : Hid (Zs (true :: List.replicate (k + 1) false) = Zs (true :: List.replicate k false) ++ [.bool false]) := by
    rw [Hid, List.replicate_succ']; simp [Zs]
   go_wp2_with (at_builtin; refine Wn _ rfl _ _ 114 rfl w.heap.size 4 _ 1 1 Tryz.underlying114 Qx rfl ac _ _ _ rfl hown 1 [.bool false] rfl rfl rfl ?_ ac hsz ?_)
   ·omega
   intro A2 d2 w3 hown3 hg3;have hb3 := Wo hb hown hg3 (Nat.le_refl _) hsz;have HO := hid hown3;clear hown hown3 hb hg3
   go_wp2
   go_roundw
   case rel => exact ⟨k + 1, A2, d2, aa, aw, rfl, by rw [HR.out]; exact HO.out, hb3⟩
   case measure => simp [intOf]; omega
  ·have hks : k = s.size := by omega
   have HP : Hid (Zs (Kh (l.take 0) s.data.toList (Wq (s.size + 1) 0 false)) = Zs (true :: List.replicate k false)) := by
    rw [Hid, Zjh, hks]; rfl
   have hr0 := Xw hown;rw [← HP.out] at hr0;have HR0 := hid hr0;have HKS := hid hks;have HB0 := hid hb;clear hr0 hown hks hb;obtain ⟨wo, rfl⟩ : ∃ wo : World, wo = wr := ⟨wr, rfl⟩
   go_wp2
   go_loopw [5, 7] (fun v i wr => ∃ (q : Nat) (A2 : Option Addr) (c2 : Nat), q ≤ n ∧ i = .int .i64 q ∧ v = .slice A2 (k + 1) c2 ∧
     Rd wr A2 (Zs (Kh (l.take q) s.data.toList (Wq (s.size + 1) 0 false))) ∧ Below w.heap.size w wr) (fun _ i _ => n - (intOf i).toNat)
   case atStart => exact ⟨0, _, _, aa, rfl, rfl, HR0.out, HB0.out⟩
   case round =>
    obtain ⟨q, A2, c2, hq, rfl, rfl, hra, hb⟩ := hrel
    have hel : (Kh (l.take q) s.data.toList (Wq (s.size + 1) 0 false)).length = k + 1 := by
     rw [Zct (l.take q) s.data.toList (Wq (s.size + 1) 0 false) (by rw [HSZ.out]; simp [Wq]), HSZ.out, HKS.out]
    obtain ⟨b1, off1, rfl, hb1l, hat1⟩ := Zrf hra hel aa;by_cases hlt2 : q < n
    ·obtain ⟨b, off, rfl, hbl, hc⟩ := (hr.below hb).at jh
     have HK : Hid (q < l.length) := by rw [HL.out]; exact hlt2
     obtain ⟨d0, d1, d2, d3, d4⟩ := Zem hc q HK.out;have HES := hid (Zfk l s.data.toList (Wq (s.size + 1) 0 false) q HK.out)
     have hsteplen : (Uc (l[q]'HK.out) s.data.toList (Kh (l.take q) s.data.toList (Wq (s.size + 1) 0 false))).length = k + 1 := by
      rw [Md (l[q]'HK.out) s.data.toList (Kh (l.take q) s.data.toList (Wq (s.size + 1) 0 false)) (by rw [HSZ.out, hel, HKS.out]), HSZ.out, HKS.out]
     generalize Kh (l.take q) s.data.toList (Wq (s.size + 1) 0 false) = at1 at *;generalize l[q]'HK.out = x at *;have HX : Hid (Uc x s.data.toList at1 = Uc x s.data.toList at1) := rfl;have HEL := hid hel; have HSL := hid hsteplen; have HAT := hid hat1; have HRA := hid hra; have HB := hid hb;have hsz1 := hb.size;obtain ⟨wq, rfl⟩ : ∃ wq : World, wq = wr := ⟨wr, rfl⟩;clear hc hr hel hsteplen hat1 hra hb HX
     go_wp2
     go_loopw [8, 9] (fun v i wr => ∃ (t : Nat) (A3 : Option Addr) (c3 : Nat), t ≤ k + 1 ∧ i = .int .i64 t ∧ v = .slice A3 t c3 ∧
       wr.ownsRow wq.heap.size 4 1 (.slice A3 t c3) t (Zs ((Uc x s.data.toList at1).take t)) ∧ Below wq.heap.size wq wr) (fun _ i _ => k + 1 - (intOf i).toNat)
     case atStart => exact ⟨0, _, _, aa, rfl, rfl, World.ownsRow_made _ _ _ (Nat.le_refl _) cd ah, (Below.refl _ _).alloc (Nat.le_refl _) _⟩
     case round =>
      obtain ⟨t, A3, c3, ht, rfl, rfl, hown, hbq⟩ := hrel;have hszq := hbq.size;by_cases hlt3 : t < k + 1
      ·have h9 : t ≤ s.size := by have := HKS.out; omega
       have HTS := hid (Zbf (Uc x s.data.toList at1) t (by rw [HSL.out]; exact hlt3));have f0 := (hbq.cell (p := ⟨b, off + q * 5, none⟩) hbl).trans d0;have f1 := (hbq.cell (p := ⟨b, off + q * 5 + 1, none⟩) hbl).trans d1;have f2 := (hbq.cell (p := ⟨b, off + q * 5 + 2, none⟩) hbl).trans d2;have f3 := (hbq.cell (p := ⟨b, off + q * 5 + 3, none⟩) hbl).trans d3;have f4 := (hbq.cell (p := ⟨b, off + q * 5 + 4, none⟩) hbl).trans d4;have HATQ : Hid (∀ j, j < k + 1 → wr.cell? ⟨b1, off1 + j, none⟩ = some (.bool (at1.getD j false))) := fun j hj => (hbq.cell (p := ⟨b1, off1 + j, none⟩) hb1l).trans (HAT.out j hj);have HO := hid hown; have HBQ := hid hbq;clear hown hbq d0 d1 d2 d3 d4 HAT;have fin : ∀ (b : Bool) (wz : World) (A9 : Option Addr) (d9 : Nat), True := fun _ _ _ _ => trivial;clear fin;cases hrun : x.run
       ·rw [hrun] at f0
        have HR := hid hrun; clear hrun;rcases Nat.eq_zero_or_pos t with h0 | h0
        ·subst h0
         have HV : Hid ((Uc x s.data.toList at1).getD 0 false = false) := by rw [Hid, List.getD, Zbx x _ _ HR.out]; rfl
         go_wp2_with fail
         go_region
         have HOZ := hid (HO.drew); have HBZ := hid HBQ.drew;have fz : wr.drew.cell? ⟨b, off + q * 5, none⟩ = some (.bool false) := f0;clear f0 f1 f2 f3 f4;exact N19
        ·obtain ⟨j, rfl⟩ : ∃ j, t = j + 1 := ⟨t - 1, aa⟩
         have g1 := HATQ.out j aa;have hjs : j < s.size := by have := HKS.out; omega
         have HV1 : Hid ((Uc x s.data.toList at1).getD (j + 1) false = (at1.getD j false && x.set.has (s[j]).toNat)) := by
          have hjl : j < at1.length := by rw [HEL.out]; omega
          rw [Hid, List.getD, Za3 x s.data.toList at1 HR.out j (by simpa using hjs) (by rw [HEL.out, HSZ.out, HKS.out])];simp [List.getD, hjl]; rfl
         have hby : (s[j]).toNat < 256 := (s[j]).toNat_lt;have k1 : IntKind.i64.wrap ((j : Int) + 1 - 1) = (j : Int) := by rw [IntWalk.i64_in _ aa]; omega
         have k7 : IntKind.i64.wrap (j : Int) = (j : Int) := IntWalk.i64_in _ aa;have k2 : (0 : Int) ≤ (j : Int) := aa
         have k4 : (0 : Int) ≤ (j : Int) + 1 := aa
         have k3 : (j : Int) < (k : Int) + 1 := aa
         have k8 : (j : Int) < (s.size : Int) := aa
         cases hg : at1.getD j false
         ·rw [hg] at g1 HV1
          have HV : Hid ((Uc x s.data.toList at1).getD (j + 1) false = false) := by rw [Hid, HV1.out]; rfl
          clear hg HV1;go_wp2_with fail
          go_region
          have HOZ := hid (HO.drew); have HBZ := hid HBQ.drew;have fz : wr.drew.cell? ⟨b, off + q * 5, none⟩ = some (.bool false) := f0;clear f0 f1 f2 f3 f4 k1 k2 k3 k4 k7 k8 g1;exact N19
         ·rw [hg] at g1 HV1
          have HV : Hid ((Uc x s.data.toList at1).getD (j + 1) false = x.set.has (s[j]).toNat) := by rw [Hid, HV1.out]; rfl
          clear hg HV1;go_wp2_with fail;refine Zfz [(0,true),(1,true),(2,true),(3,true),(4,true),(5,true),(6,true),(7,false),(8,true),(9,true),(10,true),(11,true),(12,true),(13,true),(15,true),(16,true),(17,true),(18,true),(19,true),(14,false),(20,false),(21,true),(22,true)] ab ab ?_
          repeat (refine Zc3 rfl ?_; go_big_quiet_step (fail); refine wpQuiet_nil ?_)
          refine Zew rfl ?_;go_wp2_with fail
          repeat (refine Zc3 rfl ?_; go_big_quiet_step (fail); refine wpQuiet_nil ?_)
          refine Zew rfl ?_;go_wp2_with fail;refine Zew rfl ?_;go_wp2_with fail;refine (Ziv x.set _ hby _).mono ?_;rintro e w2 ⟨rfl, hb2⟩;have HOZ := hid (Yc HO.drew hb2); have HBZ := hid (HBQ.drew.trans (hb2.mono af));have fz := (hb2.cell (p := ⟨b, off + q * 5, none⟩) af).trans f0;clear f0 f1 f2 f3 f4 g1;go_wp2_with fail
          repeat (refine Zc3 rfl ?_; go_big_quiet_step (fail); refine wpQuiet_nil ?_)
          refine Zml ?_;go_wp2_with fail
          go_loopw [10, 11] (fun v i wy => v = .bool (x.set.has (s[j]).toNat) ∧ i = .int .i64 0 ∧ Below w2.heap.size w2 wy) (fun _ _ _ => 0)
          case atStart => exact ⟨rfl, rfl, Below.refl _ _⟩
          case round =>
           obtain ⟨rfl, rfl, hby2⟩ := hrel;have fy := (hby2.cell (p := ⟨b, off + q * 5, none⟩) (World.block_lt_of_cell? _ _ fz)).trans fz;have hown := Yc HOZ.out hby2;have hbw := HBZ.trans (hby2.mono HBZ.size);have hszw := hbw.size;clear fz hby2;go_wp2_with (at_builtin; refine Wn _ rfl _ _ 114 rfl wq.heap.size 4 _ 1 1 Tryz.underlying114 Qx rfl ac _ _ _ rfl hown 1 [.bool (x.set.has (s[j]).toNat)] rfl rfl rfl ?_ ac hszw ?_)
           ·omega
           exact N131
       ·rw [hrun] at f0
        have HR := hid hrun; clear hrun
        have HV : Hid ((Uc x s.data.toList at1).getD t false = (at1.take (t + 1)).any id) := by
         rw [Hid, Uc, if_pos HR.out, Zhf _ _ (by rw [HEL.out]; exact hlt3)]
        clear f1 f2 f3 f4;go_wp2_with fail
        go_loopw [10, 11] (fun v i wy => ∃ (m : Nat) (av : Bool), m ≤ t + 1 ∧ i = .int .i64 m ∧ v = .bool av ∧ Hid ((at1.take m).any id = av) ∧ Below wr.heap.size wr wy) (fun _ i _ => t + 1 - (intOf i).toNat)
        case atStart => exact ⟨0, false, aa, rfl, rfl, rfl, Below.refl _ _⟩
        case round =>
         obtain ⟨m, av, hm, rfl, rfl, HAV, hby⟩ := hrel;have fz := (hby.cell (p := ⟨b, off + q * 5, none⟩) af).trans f0;by_cases hlt4 : m < t + 1
         ·have g1 := (hby.cell (p := ⟨b1, off1 + m, none⟩) af).trans (HATQ.out m aa)
          have HAS := hid (Zga at1 m (by rw [HEL.out]; omega));generalize at1.getD m false = gv at *;rw [HAV.out] at HAS;cases av
          all_goals
           go_wp2_with fail;go_roundw
           case rel => exact ⟨m + 1, _, aa, aw, rfl, HAS.out, hby⟩
           case measure => simp [intOf]; omega
         ·have hmt : m = t + 1 := by omega
          have HV2 : Hid ((Uc x s.data.toList at1).getD t false = av) := by rw [Hid, HV.out, ← hmt]; exact HAV.out
          have hown := Yc HO.out hby;have hbw := HBQ.trans (hby.mono hszq);have hszw := hbw.size;go_wp2_with (at_builtin; refine Wn _ rfl _ _ 114 rfl wq.heap.size 4 _ 1 1 Tryz.underlying114 Qx rfl ac _ _ _ rfl hown 1 [av] rfl rfl rfl ?_ ac hszw ?_)
          ·omega
          intro A2 d2 w3 hown3 hg3;have hb3 := Wo hbw hown hg3 (Nat.le_refl _) hszw;have HO3 := hid hown3;clear hown hown3 hg3 hbw hby;go_wp2_with fail;go_roundw
          case rel => exact ⟨t + 1, A2, d2, aa, aw, rfl, by rw [HTS.out, HV2.out]; exact HO3.out, hb3⟩
          case measure => simp [intOf]; omega
      ·have htk : t = k + 1 := by omega
       have h9 : ¬ t ≤ s.size := by have := HKS.out; omega
       rw [htk, List.take_of_length_le (by rw [HSL.out]; omega)] at hown;have hr9 := Xw hown;clear hown
       go_wp2
       go_roundw
       case rel => exact ⟨q + 1, _, _, aa, aw, by rw [htk], by rw [HES.out]; exact hr9, HB.trans (hbq.mono hsz1)⟩
       case measure => simp [intOf]; omega
    ·have hqn : l.take q = l := List.take_of_length_le bj
     rw [hqn] at hra hat1;have HM : Hid (Wz l s.data.toList = (Kh l s.data.toList (Wq (s.size + 1) 0 false)).getD s.size false) := by unfold Wz; rw [HSZ.out]; rfl
     have hcs := hat1 s.size (by rw [HKS.out]; omega);rw [← HM.out] at hcs;have hkss := HKS.out
     go_wp2
     go_ret;exact ⟨rfl, hb⟩
def Jy (l : List Zm) (w : List UInt8) (to : Int) : List Nat := if 0 ≤ to ∧ to ≤ w.length then Qy l w to.toNat else []
theorem Zjs (l : List Zm) (w : List UInt8) (k : Nat) (h : k ≤ w.length) : (Vq l w).getD k false = decide (0 < (Qy l w k).length) := by
 rw [Bool.eq_iff_iff, Mf l w k h, decide_eq_true_iff, List.length_pos_iff_exists_mem];constructor
 ·rintro ⟨i, hi, hm⟩; exact ⟨i, (Zdw l w k i).2 ⟨hi, hm⟩⟩
 ·rintro ⟨i, hi⟩; exact ⟨i, (Zdw l w k i).1 hi⟩
theorem Zhg (A : Option Addr) (n c : Nat) (l : List Zm) (s : ByteArray) (to : Nat) (w : World) (hl : l.length = n) (hn : n ≤ 1000000) (hr : Rd w A (Yb l)) (hs : s.size ≤ 1000000) (ht : to ≤ s.size) :
  Calls Tryz.prog 207 #[.slice A n c, s, (to : Int)] w fun e w' => ∃ A' c', e = .returned (.slice A' (Qy l s.data.toList to).length c') ∧
   w'.ownsRow w.heap.size 3 1 (.slice A' (Qy l s.data.toList to).length c') (Qy l s.data.toList to).length (Vn ((Qy l s.data.toList to).map Int.ofNat)) ∧ Below w.heap.size w w' := by
 have HL := hid hl; clear hl;go_enter Tryz.func207, Tryz.ntmps207
 go_wp2
 go_loopw [7, 8] (fun v i wr => ∃ k A' c', k ≤ to + 1 ∧ i = .int .i64 k ∧ v = .slice A' (Vw l s.data.toList to k).length c' ∧
   wr.ownsRow w.heap.size 3 1 (.slice A' (Vw l s.data.toList to k).length c') (Vw l s.data.toList to k).length (Vn ((Vw l s.data.toList to k).map Int.ofNat)) ∧ Below w.heap.size w wr) (fun _ i _ => to + 1 - (intOf i).toNat)
 case atStart => exact ⟨0, _, _, aa, rfl, rfl, World.ownsRow_made _ _ _ (Nat.le_refl _) cd ah, (Below.refl _ _).alloc (Nat.le_refl _) _⟩
 case round =>
  obtain ⟨k, A', c', hk, rfl, rfl, hown, hb⟩ := hrel;have hsz := hb.size;have hlen := Zec l s.data.toList to k;by_cases hlt : k < to + 1
  ·have HS : Hid ((s.extract k to).data.toList = sub s.data.toList k to) := by simp [Hid, sub]
   have HSS := hid (Zf1 l s.data.toList to k);go_wp2_with fail;refine (Zhq A n c l (s.extract k to) _ HL.out hn (hr.below hb) af).mono ?_;rintro e w1 ⟨rfl, hb1⟩;rw [HS.out];have hown1 := Yc hown hb1;have hb2 := hb.trans (hb1.mono hsz);have hsz2 := hb2.size;clear hown hb hb1;cases hm : Wz l (sub s.data.toList k to)
   ·have HE : Hid (Vw l s.data.toList to (k + 1) = Vw l s.data.toList to k) := by rw [Hid, HSS.out, hm]; simp
    clear HSS hm
    go_wp2
    go_roundw
    case rel => exact ⟨k + 1, A', c', aa, aw, cn, by rw [HE.out]; exact hown1, hb2⟩
    case measure => simp [intOf]; omega
   ·have HE : Hid (Vw l s.data.toList to (k + 1) = Vw l s.data.toList to k ++ [k]) := by rw [Hid, HSS.out, hm]; simp
    clear HSS hm;go_wp2_with (at_builtin; refine Wn _ rfl _ _ 68 rfl w.heap.size 3 _ 1 8 Tryz.underlying68 Zh7 rfl ac _ _ _ rfl hown1 1 [(k : Int)] rfl rfl rfl ?_ ac hsz2 ?_)
    ·omega
    intro A2 d2 w3 hown3 hg3;have hb3 := Wo hb2 hown1 hg3 (Nat.le_refl _) hsz2;clear hown1 hb2 hg3
    go_wp2
    go_roundw
    case rel => exact ⟨k + 1, A2, d2, aa, aw, by rw [HE.out]; simp, by rw [HE.out]; simpa [Vn] using hown3, hb3⟩
    case measure => simp [intOf]; omega
  ·go_wp2
   go_ret;have hkk : k = to + 1 := aa
   rw [hkk] at hown;exact ⟨A', c', by rw [hkk]; rfl, hown, hb⟩
theorem Zi6 (A : Option Addr) (n c : Nat) (l : List Zm) (s : ByteArray) (to : Int) (w : World) (hl : l.length = n) (hn : n ≤ 1000000) (hr : Rd w A (Yb l)) (hs : s.size ≤ 1000000) (h1 : -9223372036854775808 ≤ to) (h2 : to ≤ 9223372036854775807) :
  Calls Tryz.prog 207 #[.slice A n c, s, to] w fun e w' => ∃ A' c', e = .returned (.slice A' (Jy l s.data.toList to).length c') ∧
   w'.ownsRow w.heap.size 3 1 (.slice A' (Jy l s.data.toList to).length c') (Jy l s.data.toList to).length (Vn ((Jy l s.data.toList to).map Int.ofNat)) ∧ Below w.heap.size w w' := by
 by_cases hin : 0 ≤ to ∧ to ≤ s.size
 ·obtain ⟨t, rfl⟩ : ∃ t : Nat, to = t := ⟨to.toNat, aa⟩
  have e : Jy l s.data.toList (t : Int) = Qy l s.data.toList t := by unfold Jy; rw [if_pos (by rw [Zc6]; exact hin)]; rfl
  rw [e];exact Zhg A n c l s t w hl hn hr hs aa
 ·have e : Jy l s.data.toList to = [] := by unfold Jy; rw [if_neg (by rw [Zc6]; exact hin)]
  rw [e];go_enter Tryz.func207, Tryz.ntmps207
  go_wp2
  go_loopw [7, 8] (fun v i wr => i = .int .i64 0 ∧ v = .slice (some ⟨w.heap.size, 0, none⟩) 0 0 ∧ wr.ownsRow w.heap.size 3 1 (.slice (some ⟨w.heap.size, 0, none⟩) 0 0) 0 [] ∧ Below w.heap.size w wr) (fun _ _ _ => 0)
  case atStart => exact ⟨rfl, rfl, World.ownsRow_made _ _ _ (Nat.le_refl _) cd ah, (Below.refl _ _).alloc (Nat.le_refl _) _⟩
  case round =>
   obtain ⟨rfl, rfl, hown, hb⟩ := hrel;by_cases h0 : 0 ≤ to
   ·have h3 : ¬ to ≤ s.size := fun h => hin ⟨h0, h⟩
    go_wp2
    go_ret;exact ⟨_, _, rfl, hown, hb⟩
   ·go_wp2
    go_ret;exact ⟨_, _, rfl, hown, hb⟩
end Go.Proofs.YtpkkfdmhbbipoaaGreat
