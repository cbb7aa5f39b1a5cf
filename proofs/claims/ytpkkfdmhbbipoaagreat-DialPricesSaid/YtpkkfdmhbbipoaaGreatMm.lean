/- Walks: layer 10's Check (the program's and the reference's), texts cut. Walks: the reference's New of layer 10: a list of patterns. -/
import Derived.Test.YtpkkfdmhbbipoaaGreatMl
import Derived.Test.YtpkkfdmhbbipoaaGreatMg
import Derived.Test.YtpkkfdmhbbipoaaGreatMh
namespace Go.Proofs.YtpkkfdmhbbipoaaGreat
set_option maxRecDepth 20000
set_option maxHeartbeats 1600000
open Go.RowKit PopT
theorem Zno (p : ByteArray) (f : Nat) (out : List Zn) (a : Nat) (h : (Wg p f out a).2.2 = 0) : (Wg p f out a).2.1 = 0 := by
 induction f generalizing out a with
 | zero => rfl
 | succ f ih =>
  rw [Wg] at h ⊢;by_cases h1 : a < p.size
  ·rw [if_pos h1] at h ⊢
   by_cases h2 : out.length = 60
   ·rw [if_pos h2] at h; exact absurd h (show ¬ (4 : Nat) = 0 by decide)
   ·rw [if_neg h2] at h ⊢
    by_cases h3 : (Wz (Yn p a)).2.2 = 0
    ·rw [if_pos h3] at h ⊢; exact ih _ _ h
    ·rw [if_neg h3] at h; exact absurd h h3
  ·rw [if_neg h1]
theorem Zny (l : List Zn) : Ga l = 0 ↔ Vb l [] = true := by
 rw [Zdc, Zfc, Ga, List.length_eq_zero_iff, List.filter_eq_nil_iff, Bool.not_eq_true', List.any_eq_false]
def Xe (p : ByteArray) : List Zn × Nat × Nat := if (Xd p).2.2 = 0 ∧ Vb (Xd p).1 [] = true then ([], 0, 9) else Xd p
theorem Zah (p : ByteArray) (ps : List ByteArray) (i : Nat) (acc : List (List Zn)) :
  Ua (p :: ps) i acc = if (Xe p).2.2 ≠ 0 then ([], i, (Xe p).2.2) else Ua ps (i + 1) (acc ++ [(Xe p).1]) := by
 by_cases h : (Xd p).2.2 = 0
 ·by_cases hm : Vb (Xd p).1 [] = true
  ·have e : Xe p = ([], 0, 9) := by rw [Xe, if_pos ⟨h, hm⟩]
   rw [Ua, e, if_neg (not_not_intro h), if_pos hm, if_pos (show (9 : Nat) ≠ 0 by decide)]
  ·have e : Xe p = Xd p := by rw [Xe, if_neg (fun h' => hm h'.2)]
   rw [Ua, e, if_neg (not_not_intro h), if_neg hm, if_neg (not_not_intro h)]
 ·have e : Xe p = Xd p := by rw [Xe, if_neg (fun h' => h h'.1)]
  rw [Ua, e, if_pos h, if_pos h]
theorem Zj0 (p : ByteArray) (hp : p.size ≤ 1000000) (w : World) :
  Calls Tryz.prog 216 #[p] w fun e w' => e = .returned (.tuple #[.int .i64 ((Xe p).2.1 : Nat), .int .i64 ((Xe p).2.2 : Nat)]) ∧ Below w.heap.size w w' := by
 have C1 := hid (Ziy p hp w);have HAT := hid (Zno p 61 [] 0);have HC : Hid (Xe p = if (Xd p).2.2 = 0 ∧ Vb (Xd p).1 [] = true then ([], 0, 9) else Xd p) := rfl;rw [show Wg p 61 [] 0 = Xd p from rfl] at HAT;obtain ⟨c, hc⟩ := nE (Xe p);obtain ⟨⟨l, a, e⟩, hR⟩ : ∃ R, Xd p = R := ⟨_, rfl⟩;rw [hR] at C1 HAT HC;rw [hc] at HC ⊢;simp only at HAT HC;clear hR hc;go_enter Tryz.func216, Tryz.ntmps216;go_wp2_with fail;refine C1.mono ?_;rintro en w1 ⟨hb1, hres⟩;have HB1 := hid hb1;clear hb1 C1;rcases hres with ⟨he, rfl⟩ | ⟨he, hm, rfl⟩ | ⟨he, hm, g, rfl, -, -⟩
 ·have he' : e ≠ 0 := he
  have HE : Hid (c = (l, a, e)) := by rw [Hid, HC.out, if_neg (fun h => he' h.1)]
  clear he he' HC HAT;go_wp2_with fail
  go_ret2
  rw [HE.out]; exact ⟨rfl, HB1.out⟩
 ·have he' : e = 0 := he
  have HE : Hid (c = ([], 0, 9)) := by rw [Hid, HC.out, if_pos ⟨he', hm⟩]
  clear he he' hm HC HAT;go_wp2_with fail
  go_ret2
  rw [HE.out]; exact ⟨rfl, HB1.out⟩
 ·have he' : e = 0 := he
  have HE : Hid (c = (l, 0, 0)) := by rw [Hid, HC.out, if_neg (fun h => absurd (hm.symm.trans h.2) ac), HAT.out he', he']
  clear he he' hm HC HAT;go_wp2_with fail
  go_ret2
  rw [HE.out]; exact ⟨rfl, HB1.out⟩
theorem Zfj (p : ByteArray) (hp : p.size ≤ 1000000) (w : World) :
  Calls Tryz.prog 194 #[p] w fun e w' => Uq (Xe p) w e w' := by
 have C1 := hid (Zk2 p hp w);have HLN := hid (Gt p);have HC : Hid (Xe p = if (Xd p).2.2 = 0 ∧ Vb (Xd p).1 [] = true then ([], 0, 9) else Xd p) := rfl;obtain ⟨c, hc⟩ := nE (Xe p);obtain ⟨⟨l, a, e⟩, hR⟩ : ∃ R, Xd p = R := ⟨_, rfl⟩;rw [hR] at C1 HC HLN;rw [hc] at HC ⊢;simp only at HC HLN;obtain ⟨n, hn⟩ := nE (l.length);have HN := hid hn;clear hR hc;obtain ⟨Q, hQ⟩ := nE (Uq c w);rw [show (fun e' w' => Uq c w e' w') = Q from hQ];have HQ := hid hQ;clear hQ;go_enter Tryz.func194, Tryz.ntmps194;go_wp2_with fail;refine C1.mono ?_;rintro en w1 ⟨A1, c1, rfl, hown1, hb1⟩;simp only at hown1;have HO1 := hid hown1;have HR1 := hid (Wl hown1);have HB1 := hid hb1;clear hown1 hb1 C1;simp only [hn];rw [hn] at HLN HO1;clear hn;by_cases he : e = 0
 ·subst he
  have hln : n ≤ 60 := HLN.out;have C2 := hid (Zle A1 n c1 l w1 HN.out aa HR1.out);obtain ⟨z, hz⟩ := nE (Ga l);have HZ : Hid (z = 0 ↔ Vb l [] = true) := hz ▸ Zny l;rw [hz] at C2;clear hz;go_wp2_with fail;refine C2.mono ?_;rintro en w2 ⟨rfl, hb2⟩;have HB2 := bt HB1 hb2;have HO2 := hid (Yk HO1.out hb2);clear hb2 C2 HB1 HO1;by_cases h0 : z = 0
  ·have HE : Hid (c = ([], 0, 9)) := by rw [Hid, HC.out, if_pos ⟨fu, HZ.1 h0⟩]
   have hz0 : ((z : Int) == 0) = true := bT aa;clear h0 HZ HC;go_wp2_with fail
   go_ret3
   rw [← HQ.out, HE.out];exact Qu w w2 0 9 HB2.out
  ·have HE : Hid (c = (l, a, 0)) := by rw [Hid, HC.out, if_neg (fun h' => h0 (HZ.2 h'.2))]
   have hz0 : ((z : Int) == 0) = false := bF aa;clear h0 HZ HC;go_wp2_with fail
   go_ret3
   rw [← HQ.out, HE.out];refine ⟨A1, c1, ?_, ?_, HB2.out⟩
   ·simp only [HN.out]; rfl
   ·simp only [HN.out]; exact HO2.out
 ·have HE : Hid (c = (l, a, e)) := by rw [Hid, HC.out, if_neg (fun h => he h.1)]
  have he0 : ((e : Int) == 0) = false := bF aa;clear he HC;go_wp2_with fail
  go_ret3
  rw [← HQ.out, HE.out];refine ⟨A1, c1, ?_, ?_, HB1.out⟩
  ·simp only [HN.out]; rfl
  ·simp only [HN.out]; exact HO1.out
def Kg (long : Nat) (s : ByteArray) : ByteArray := if long < s.size then s.extract 0 long else s
theorem Zba (long : Nat) (s : ByteArray) : (Kg long s).size ≤ long := by
 unfold Kg; split
 ·simp; omega
 ·omega
theorem Md : (Tryz.prog.info? 9).map (fun i => (i.zero, i.size, i.bytes)) = some (some (.string ⟨#[]⟩), 1, 16) := by kernel_rfl
def Qa (base : Nat) (w : World) (ls : List (List Zn)) (vs : List Value) : Prop :=
 vs.length = ls.length ∧ ∀ (i : Nat) (l : List Zn), ls[i]? = some l → ∃ A c, vs[i]? = some (.slice A l.length c) ∧ w.ownsRow base 251 5 (.slice A l.length c) l.length (Ya l)
theorem Qa.nil (base : Nat) (w : World) : Qa base w [] [] := ⟨rfl, fun i l h => by simp at h⟩
theorem Qa.below {base B : Nat} {w w' : World} {ls : List (List Zn)} {vs : List Value} (h : Qa base w ls vs) (hb : Below B w w') (hB : w.heap.size ≤ B) : Qa base w' ls vs := by
 refine ⟨h.1, fun i l hi => ?_⟩;obtain ⟨A, c, hv, ho⟩ := h.2 i l hi;exact ⟨A, c, hv, Yk ho hb hB⟩
theorem Qa.grown {base b2 e2 s2 n2 : Nat} {w w' : World} {ls : List (List Zn)} {vs xs : List Value} {v : Value} (h : Qa base w ls vs) (ho2 : w.ownsRow b2 e2 s2 v n2 xs) (hg : w.grownBy w' v.ownBlock) (hne : 251 ≠ e2) : Qa base w' ls vs := by
 refine ⟨h.1, fun i l hi => ?_⟩;obtain ⟨A, c, hv, ho⟩ := h.2 i l hi;exact ⟨A, c, hv, ho.kept hg (Zc4 ho ho2 hne)⟩
theorem Qa.snoc {base : Nat} {w : World} {ls : List (List Zn)} {vs : List Value} {l : List Zn} {A : Option Addr} {c : Nat} (h : Qa base w ls vs) (ho : w.ownsRow base 251 5 (.slice A l.length c) l.length (Ya l)) :
  Qa base w (ls ++ [l]) (vs ++ [.slice A l.length c]) := by
 refine ⟨by simp [h.1], fun i m hi => ?_⟩;by_cases hlt : i < ls.length
 ·rw [List.getElem?_append_left hlt] at hi
  obtain ⟨A', c', hv, ho'⟩ := h.2 i m hi;exact ⟨A', c', by rw [List.getElem?_append_left (by rw [h.1]; exact hlt)]; exact hv, ho'⟩
 ·rw [List.getElem?_append_right aa] at hi
  have hi0 : i - ls.length = 0 := by
   rcases Nat.eq_zero_or_pos (i - ls.length) with h0 | h0
   ·exact h0
   ·rw [List.getElem?_eq_none ah] at hi; cases hi
  rw [hi0] at hi;injection hi with hi
  subst hi;exact ⟨A, c, by rw [List.getElem?_append_right (by rw [h.1]; omega), h.1, hi0]; rfl, ho⟩
theorem Zsg {base bb b0 e size n : Nat} {w w' : World} {v : Value} {xs : List Value} (ho : w.ownsRow b0 e size v n xs) (h : FB base bb w w') (h1 : e ≠ 216) (h2 : e ≠ 222) : w'.ownsRow b0 e size v n xs := by
 refine ⟨ho.1, ?_⟩;rcases ho.2 with hn | ⟨g, cap, cur, rfl, hb, hgg, rest⟩
 ·exact .inl hn
 ·exact .inr ⟨g, cap, cur, rfl, hb, (h.2.1 g _ _ _ hgg h1 h2).trans hgg, rest⟩
def Zr8 (R : List (List Zn) × Nat × Nat) (w : World) (e : Ending) (w' : World) : Prop :=
 ∃ A c vs, e = .returned (.tuple #[.slice A R.1.length c, .int .i64 (R.2.1 : Nat), .int .i64 (R.2.2 : Nat)]) ∧ w'.ownsRow w.heap.size 223 1 (.slice A R.1.length c) R.1.length vs ∧ Qa w.heap.size w' R.1 vs ∧ Below w.heap.size w w'
theorem Zfr : (Tryz.prog.info? 223).map (fun i => (i.zero, i.size, i.bytes)) = some (some (.slice none 0 0), 1, 24) := by kernel_rfl
theorem Zpv (A : Option Addr) (n c : Nat) (ps : List ByteArray) (w : World) (hl : ps.length = n) (hn : n ≤ 1000) (hp : ∀ p ∈ ps, p.size ≤ 1000000) (hr : Rd w A (Yj ps)) :
  Calls Tryz.prog 169 #[.slice A n c] w fun e w' => Zr8 (Uz ps) w e w' := by
 have HL := hid hl; have HP := hid hp; have HRD := hid hr;have HNM : Hid (Uz ps = if 8 < n then ([], 0, 4) else Ua ps 0 []) := by rw [Hid, Uz, hl]
 obtain ⟨R, hR⟩ := nE (Uz ps);rw [hR] at HNM ⊢;obtain ⟨Q, hQ⟩ := nE (Zr8 R w);rw [show (fun e' w' => Zr8 R w e' w') = Q from hQ];have HQ := hid hQ;clear hR hQ hl hp hr;by_cases h8 : 8 < n
 ·have HE : Hid (R = ([], 0, 4)) := by rw [Hid, HNM.out, if_pos h8]
  clear HNM;go_enter Tryz.func169, Tryz.ntmps169;go_wp2_with fail
  go_ret3
  rw [← HQ.out, HE.out];exact ⟨none, 0, [], rfl, World.ownsRow_nil _ _ _ _, Qa.nil _ _, (Below.refl _ _).alloc (Nat.le_refl _) _⟩
 ·have HE : Hid (Ua ps 0 [] = R) := by rw [Hid, HNM.out, if_neg h8]
  clear HNM;go_enter Tryz.func169, Tryz.ntmps169;go_wp2_with fail
  go_loopw [5, 6] (fun v iv wr => ∃ (k c' : Nat) (A' : Option Addr) (ls : List (List Zn)) (vs : List Value), k ≤ n ∧ ls.length = k ∧ vs.length = k ∧ iv = .int .i64 (k : Int) ∧ v = .slice A' k c' ∧ Ua (ps.drop k) k ls = R ∧
    wr.ownsRow w.heap.size 223 1 (.slice A' k c') k vs ∧ Qa w.heap.size wr ls vs ∧ Below w.heap.size w wr) (fun _ iv _ => n - (intOf iv).toNat)
  case atStart => exact ⟨0, _, _, [], [], aa, rfl, rfl, rfl, rfl, HE.out, World.ownsRow_made _ _ _ (Nat.le_refl _) cq af, Qa.nil _ _, (Below.refl _ _).alloc (Nat.le_refl _) _⟩
  case round =>
   obtain ⟨k, c', A', ls, vs, hk, hkl, hkv, rfl, rfl, hgo, hown, hls, hb⟩ := hrel;have HGO := hid hgo; have HLS := hid hls; have HKL := hid hkl; have HKV := hid hkv; have HB := hid hb; have HO := hid hown;have hsz := hb.size;clear hgo hls hkl hkv HE;by_cases hlt : k < n
   ·have HK : Hid (k < ps.length) := by rw [Hid, HL.out]; exact hlt
    obtain ⟨b, off, rfl, hbl, hc⟩ := (HRD.below hb).at (by rw [Yj, List.length_map, HL.out]; omega);have d0 : wr.cell? ⟨b, off + k, none⟩ = some (.string (ps[k]'HK.out)) := hc k _ (by rw [Yj, List.getElem?_map, List.getElem?_eq_getElem HK.out]; rfl)
    have HGO2 : Hid (R = if (Xe (ps[k]'HK.out)).2.2 ≠ 0 then ([], k, (Xe (ps[k]'HK.out)).2.2) else Ua (ps.drop (k + 1)) (k + 1) (ls ++ [(Xe (ps[k]'HK.out)).1])) := by
     rw [Hid, ← HGO.out, List.drop_eq_getElem_cons HK.out, Zah]
    have HC := hid (Zfj (ps[k]'HK.out) (HP.out _ (List.getElem_mem HK.out)) wr);obtain ⟨p, hpp⟩ := nE (ps[k]'HK.out);rw [hpp] at d0 HC HGO2;obtain ⟨⟨l, a, e⟩, hPM⟩ : ∃ P, Xe p = P := ⟨_, rfl⟩;rw [hPM] at HC HGO2;simp only at HGO2;clear hpp hPM hc hb hown;go_wp2_with fail;refine HC.mono ?_;rintro en w2 ⟨A1, c1, rfl, hown1, hb2⟩;simp only at hown1;obtain ⟨m, hm⟩ := nE (l.length);have HM := hid hm;have HO1 := hid (Vv hown1 hsz);simp only [hm];rw [hm] at HO1;have HB2 := hid (HB.trans (hb2.mono hsz));have hown2 := Yk HO.out hb2;have HLS2 := hid (HLS.below hb2 (Nat.le_refl _));have hsz2 := HB2.size;clear hown1 hm hb2 HC HO HB HLS d0;by_cases he : e = 0
    ·subst he
     have HG3 : Hid (Ua (ps.drop (k + 1)) (k + 1) (ls ++ [l]) = R) := by rw [Hid, HGO2.out, if_neg af]
     clear HGO HGO2;go_wp2_with (at_builtin; refine Wk _ rfl _ _ 35 rfl w.heap.size 223 _ 1 24 Tryz.underlying35 Zfr rfl ac _ _ _ rfl hown2 1 [.slice A1 m c1] rfl rfl rfl ?_ ac hsz2 ?_)
     ·omega
     intro A2 d2 w3 hown3 hg3;have HB3 := hid (Wn HB2.out hown2 hg3 (Nat.le_refl _) hsz2);have HO3 := hid hown3
     have HLS3 : Hid (Qa w.heap.size w3 (ls ++ [l]) (vs ++ [.slice A1 m c1])) := by
      have h1 := HO1.kept hg3 (Zc4 HO1.out hown2 ac);have h2 := HLS2.grown hown2 hg3 ac;have := h2.snoc (l := l) (A := A1) (c := c1) (by rw [HM.out]; exact h1);rwa [HM.out] at this
     clear hown2 hg3 hown3 HB2 HLS2 HO1;go_wp2_with fail;go_roundw
     case rel => exact ⟨k + 1, d2, A2, ls ++ [l], vs ++ [.slice A1 m c1], aa, by simp [HKL.out], by simp [HKV.out], ax, rfl, HG3.out, HO3.out, HLS3.out, HB3.out⟩
     case measure => simp [intOf]; omega
    ·have he0 : ((e : Int) == 0) = false := bF aa
     have HE : Hid (R = ([], k, e)) := by rw [Hid, HGO2.out, if_pos he]
     clear he HGO HGO2 hown2;go_wp2_with fail
     go_ret3
     rw [← HQ.out, HE.out];exact ⟨none, 0, [], rfl, World.ownsRow_nil _ _ _ _, Qa.nil _ _, HB2.out⟩
   ·have HE : Hid (R = (ls, 0, 0)) := by rw [Hid, ← HGO.out, List.drop_of_length_le ck]; rfl
    clear hown hb;go_wp2_with fail
    go_ret3
    rw [← HQ.out, HE.out];refine ⟨A', c', vs, ?_, ?_, HLS.out, HB.out⟩
    ·simp only [HKL.out]; rfl
    ·simp only [HKL.out]; exact HO.out
end Go.Proofs.YtpkkfdmhbbipoaaGreat
