/- Walks: layer 10's Check (the program's and the reference's), texts cut. Walks: the reference's New of layer 10: a list of patterns. -/
import Derived.Test.YtpkkfdmhbbipoaaGreatMl
import Derived.Test.YtpkkfdmhbbipoaaGreatMg
import Derived.Test.YtpkkfdmhbbipoaaGreatMh
namespace Go.Proofs.YtpkkfdmhbbipoaaGreat
set_option maxRecDepth 20000
set_option maxHeartbeats 1600000
open Go.RowKit PopT
theorem Zm8 (p : ByteArray) (f : Nat) (out : List Zm) (a : Nat) (h : (Wk p f out a).2.2 = 0) : (Wk p f out a).2.1 = 0 := by
 induction f generalizing out a with
 | zero => rfl
 | succ f ih =>
  rw [Wk] at h ⊢;by_cases h1 : a < p.size
  ·rw [if_pos h1] at h ⊢
   by_cases h2 : out.length = 60
   ·rw [if_pos h2] at h; exact absurd h (show ¬ (4 : Nat) = 0 by decide)
   ·rw [if_neg h2] at h ⊢
    by_cases h3 : (Wx (Yp p a)).2.2 = 0
    ·rw [if_pos h3] at h ⊢; exact ih _ _ h
    ·rw [if_neg h3] at h; exact absurd h h3
  ·rw [if_neg h1]
theorem Znj (l : List Zm) : Gd l = 0 ↔ Wz l [] = true := by
 rw [Zda, Zff, Gd, List.length_eq_zero_iff, List.filter_eq_nil_iff, Bool.not_eq_true', List.any_eq_false]
def Xi (p : ByteArray) : List Zm × Nat × Nat := if (Xg p).2.2 = 0 ∧ Wz (Xg p).1 [] = true then ([], 0, 9) else Xg p
theorem Zak (p : ByteArray) (ps : List ByteArray) (i : Nat) (acc : List (List Zm)) :
  Vz (p :: ps) i acc = if (Xi p).2.2 ≠ 0 then ([], i, (Xi p).2.2) else Vz ps (i + 1) (acc ++ [(Xi p).1]) := by
 by_cases h : (Xg p).2.2 = 0
 ·by_cases hm : Wz (Xg p).1 [] = true
  ·have e : Xi p = ([], 0, 9) := by rw [Xi, if_pos ⟨h, hm⟩]
   rw [Vz, e, if_neg (not_not_intro h), if_pos hm, if_pos (show (9 : Nat) ≠ 0 by decide)]
  ·have e : Xi p = Xg p := by rw [Xi, if_neg (fun h' => hm h'.2)]
   rw [Vz, e, if_neg (not_not_intro h), if_neg hm, if_neg (not_not_intro h)]
 ·have e : Xi p = Xg p := by rw [Xi, if_neg (fun h' => h h'.1)]
  rw [Vz, e, if_pos h, if_pos h]
theorem Zjy (p : ByteArray) (hp : p.size ≤ 1000000) (w : World) :
  Calls Tryz.prog 216 #[p] w fun e w' => e = .returned (.tuple #[.int .i64 ((Xi p).2.1 : Nat), .int .i64 ((Xi p).2.2 : Nat)]) ∧ Below w.heap.size w w' := by
 have C1 := hid (Zi1 p hp w);have HAT := hid (Zm8 p 61 [] 0);have HC : Hid (Xi p = if (Xg p).2.2 = 0 ∧ Wz (Xg p).1 [] = true then ([], 0, 9) else Xg p) := rfl;rw [show Wk p 61 [] 0 = Xg p from rfl] at HAT;obtain ⟨c, hc⟩ := nE (Xi p);obtain ⟨⟨l, a, e⟩, hR⟩ : ∃ R, Xg p = R := ⟨_, rfl⟩;rw [hR] at C1 HAT HC;rw [hc] at HC ⊢;simp only at HAT HC;clear hR hc;go_enter Tryz.func216, Tryz.ntmps216;go_wp2_with fail;refine C1.mono ?_;rintro en w1 ⟨hb1, hres⟩;have HB1 := hid hb1;clear hb1 C1;rcases hres with ⟨he, rfl⟩ | ⟨he, hm, rfl⟩ | ⟨he, hm, g, rfl, -, -⟩
 ·have he' : e ≠ 0 := he
  have HE : Hid (c = (l, a, e)) := by rw [Hid, HC.out, if_neg (fun h => he' h.1)]
  clear he he' HC HAT;go_wp2_with fail
  go_ret2
  rw [HE.out]; exact ⟨rfl, HB1.out⟩
 ·have he' : e = 0 := he
  have HE : Hid (c = ([], 0, 9)) := by rw [Hid, HC.out, if_pos ⟨he', hm⟩]
  clear he he' hm HC HAT;go_wp2_with fail
  go_ret2
  rw [HE.out]; exact ⟨rfl, HB1.out⟩
 ·have he' : e = 0 := he
  have HE : Hid (c = (l, 0, 0)) := by rw [Hid, HC.out, if_neg (fun h => absurd (hm.symm.trans h.2) ac), HAT.out he', he']
  clear he he' hm HC HAT;go_wp2_with fail
  go_ret2
  rw [HE.out]; exact ⟨rfl, HB1.out⟩
theorem Zfl (p : ByteArray) (hp : p.size ≤ 1000000) (w : World) :
  Calls Tryz.prog 194 #[p] w fun e w' => Uo (Xi p) w e w' := by
 have C1 := hid (Zk0 p hp w);have HLN := hid (Gu p);have HC : Hid (Xi p = if (Xg p).2.2 = 0 ∧ Wz (Xg p).1 [] = true then ([], 0, 9) else Xg p) := rfl;obtain ⟨c, hc⟩ := nE (Xi p);obtain ⟨⟨l, a, e⟩, hR⟩ : ∃ R, Xg p = R := ⟨_, rfl⟩;rw [hR] at C1 HC HLN;rw [hc] at HC ⊢;simp only at HC HLN;obtain ⟨n, hn⟩ := nE (l.length);have HN := hid hn;clear hR hc;obtain ⟨Q, hQ⟩ := nE (Uo c w);rw [show (fun e' w' => Uo c w e' w') = Q from hQ];have HQ := hid hQ;clear hQ;go_enter Tryz.func194, Tryz.ntmps194;go_wp2_with fail;refine C1.mono ?_;rintro en w1 ⟨A1, c1, rfl, hown1, hb1⟩;simp only at hown1;have HO1 := hid hown1;have HR1 := hid (Xw hown1);have HB1 := hid hb1;clear hown1 hb1 C1;simp only [hn];rw [hn] at HLN HO1;clear hn;by_cases he : e = 0
 ·subst he
  have hln : n ≤ 60 := HLN.out;have C2 := hid (Zlc A1 n c1 l w1 HN.out aa HR1.out);obtain ⟨z, hz⟩ := nE (Gd l);have HZ : Hid (z = 0 ↔ Wz l [] = true) := hz ▸ Znj l;rw [hz] at C2;clear hz;go_wp2_with fail;refine C2.mono ?_;rintro en w2 ⟨rfl, hb2⟩;have HB2 := bt HB1 hb2;have HO2 := hid (Yc HO1.out hb2);clear hb2 C2 HB1 HO1;by_cases h0 : z = 0
  ·have HE : Hid (c = ([], 0, 9)) := by rw [Hid, HC.out, if_pos ⟨fq, HZ.1 h0⟩]
   have hz0 : ((z : Int) == 0) = true := bT aa;clear h0 HZ HC;go_wp2_with fail
   go_ret3
   rw [← HQ.out, HE.out];exact Qv w w2 0 9 HB2.out
  ·have HE : Hid (c = (l, a, 0)) := by rw [Hid, HC.out, if_neg (fun h' => h0 (HZ.2 h'.2))]
   have hz0 : ((z : Int) == 0) = false := bF aa;clear h0 HZ HC;go_wp2_with fail
   go_ret3
   rw [← HQ.out, HE.out];refine ⟨A1, c1, ?_, ?_, HB2.out⟩
   ·simp only [HN.out]; rfl
   ·simp only [HN.out]; exact HO2.out
 ·have HE : Hid (c = (l, a, e)) := by rw [Hid, HC.out, if_neg (fun h => he h.1)]
  have he0 : ((e : Int) == 0) = false := bF aa;clear he HC;go_wp2_with fail
  go_ret3
  rw [← HQ.out, HE.out];refine ⟨A1, c1, ?_, ?_, HB1.out⟩
  ·simp only [HN.out]; rfl
  ·simp only [HN.out]; exact HO1.out
def Kk (long : Nat) (s : ByteArray) : ByteArray := if long < s.size then s.extract 0 long else s
theorem Za8 (long : Nat) (s : ByteArray) : (Kk long s).size ≤ long := by
 unfold Kk; split
 ·simp; omega
 ·omega
theorem Mg : (Tryz.prog.info? 9).map (fun i => (i.zero, i.size, i.bytes)) = some (some (.string ⟨#[]⟩), 1, 16) := by kernel_rfl
def Qb (base : Nat) (w : World) (ls : List (List Zm)) (vs : List Value) : Prop :=
 vs.length = ls.length ∧ ∀ (i : Nat) (l : List Zm), ls[i]? = some l → ∃ A c, vs[i]? = some (.slice A l.length c) ∧ w.ownsRow base 251 5 (.slice A l.length c) l.length (Yb l)
theorem Qb.nil (base : Nat) (w : World) : Qb base w [] [] := ⟨rfl, fun i l h => by simp at h⟩
theorem Qb.below {base B : Nat} {w w' : World} {ls : List (List Zm)} {vs : List Value} (h : Qb base w ls vs) (hb : Below B w w') (hB : w.heap.size ≤ B) : Qb base w' ls vs := by
 refine ⟨h.1, fun i l hi => ?_⟩;obtain ⟨A, c, hv, ho⟩ := h.2 i l hi;exact ⟨A, c, hv, Yc ho hb hB⟩
theorem Qb.grown {base b2 e2 s2 n2 : Nat} {w w' : World} {ls : List (List Zm)} {vs xs : List Value} {v : Value} (h : Qb base w ls vs) (ho2 : w.ownsRow b2 e2 s2 v n2 xs) (hg : w.grownBy w' v.ownBlock) (hne : 251 ≠ e2) : Qb base w' ls vs := by
 refine ⟨h.1, fun i l hi => ?_⟩;obtain ⟨A, c, hv, ho⟩ := h.2 i l hi;exact ⟨A, c, hv, ho.kept hg (Zc2 ho ho2 hne)⟩
theorem Qb.snoc {base : Nat} {w : World} {ls : List (List Zm)} {vs : List Value} {l : List Zm} {A : Option Addr} {c : Nat} (h : Qb base w ls vs) (ho : w.ownsRow base 251 5 (.slice A l.length c) l.length (Yb l)) :
  Qb base w (ls ++ [l]) (vs ++ [.slice A l.length c]) := by
 refine ⟨by simp [h.1], fun i m hi => ?_⟩;by_cases hlt : i < ls.length
 ·rw [List.getElem?_append_left hlt] at hi
  obtain ⟨A', c', hv, ho'⟩ := h.2 i m hi;exact ⟨A', c', by rw [List.getElem?_append_left (by rw [h.1]; exact hlt)]; exact hv, ho'⟩
 ·rw [List.getElem?_append_right aa] at hi
  have hi0 : i - ls.length = 0 := by
   rcases Nat.eq_zero_or_pos (i - ls.length) with h0 | h0
   ·exact h0
   ·rw [List.getElem?_eq_none af] at hi; cases hi
  rw [hi0] at hi;injection hi with hi
  subst hi;exact ⟨A, c, by rw [List.getElem?_append_right (by rw [h.1]; omega), h.1, hi0]; rfl, ho⟩
theorem Zrw {base bb b0 e size n : Nat} {w w' : World} {v : Value} {xs : List Value} (ho : w.ownsRow b0 e size v n xs) (h : FB base bb w w') (h1 : e ≠ 216) (h2 : e ≠ 222) : w'.ownsRow b0 e size v n xs := by
 refine ⟨ho.1, ?_⟩;rcases ho.2 with hn | ⟨g, cap, cur, rfl, hb, hgg, rest⟩
 ·exact .inl hn
 ·exact .inr ⟨g, cap, cur, rfl, hb, (h.2.1 g _ _ _ hgg h1 h2).trans hgg, rest⟩
def Zrn (R : List (List Zm) × Nat × Nat) (w : World) (e : Ending) (w' : World) : Prop :=
 ∃ A c vs, e = .returned (.tuple #[.slice A R.1.length c, .int .i64 (R.2.1 : Nat), .int .i64 (R.2.2 : Nat)]) ∧ w'.ownsRow w.heap.size 223 1 (.slice A R.1.length c) R.1.length vs ∧ Qb w.heap.size w' R.1 vs ∧ Below w.heap.size w w'
theorem Zfu : (Tryz.prog.info? 223).map (fun i => (i.zero, i.size, i.bytes)) = some (some (.slice none 0 0), 1, 24) := by kernel_rfl
theorem Zpd (A : Option Addr) (n c : Nat) (ps : List ByteArray) (w : World) (hl : ps.length = n) (hn : n ≤ 1000) (hp : ∀ p ∈ ps, p.size ≤ 1000000) (hr : Rd w A (Yj ps)) :
  Calls Tryz.prog 169 #[.slice A n c] w fun e w' => Zrn (Uz ps) w e w' := by
 have HL := hid hl; have HP := hid hp; have HRD := hid hr;have HNM : Hid (Uz ps = if 8 < n then ([], 0, 4) else Vz ps 0 []) := by rw [Hid, Uz, hl]
 obtain ⟨R, hR⟩ := nE (Uz ps);rw [hR] at HNM ⊢;obtain ⟨Q, hQ⟩ := nE (Zrn R w);rw [show (fun e' w' => Zrn R w e' w') = Q from hQ];have HQ := hid hQ;clear hR hQ hl hp hr;by_cases h8 : 8 < n
 ·have HE : Hid (R = ([], 0, 4)) := by rw [Hid, HNM.out, if_pos h8]
  clear HNM;go_enter Tryz.func169, Tryz.ntmps169;go_wp2_with fail
  go_ret3
  rw [← HQ.out, HE.out];exact ⟨none, 0, [], rfl, World.ownsRow_nil _ _ _ _, Qb.nil _ _, (Below.refl _ _).alloc (Nat.le_refl _) _⟩
 ·have HE : Hid (Vz ps 0 [] = R) := by rw [Hid, HNM.out, if_neg h8]
  clear HNM;go_enter Tryz.func169, Tryz.ntmps169;go_wp2_with fail
  go_loopw [5, 6] (fun v iv wr => ∃ (k c' : Nat) (A' : Option Addr) (ls : List (List Zm)) (vs : List Value), k ≤ n ∧ ls.length = k ∧ vs.length = k ∧ iv = .int .i64 (k : Int) ∧ v = .slice A' k c' ∧ Vz (ps.drop k) k ls = R ∧
    wr.ownsRow w.heap.size 223 1 (.slice A' k c') k vs ∧ Qb w.heap.size wr ls vs ∧ Below w.heap.size w wr) (fun _ iv _ => n - (intOf iv).toNat)
  case atStart => exact ⟨0, _, _, [], [], aa, rfl, rfl, rfl, rfl, HE.out, World.ownsRow_made _ _ _ (Nat.le_refl _) cd ah, Qb.nil _ _, (Below.refl _ _).alloc (Nat.le_refl _) _⟩
  case round =>
   obtain ⟨k, c', A', ls, vs, hk, hkl, hkv, rfl, rfl, hgo, hown, hls, hb⟩ := hrel;have HGO := hid hgo; have HLS := hid hls; have HKL := hid hkl; have HKV := hid hkv; have HB := hid hb; have HO := hid hown;have hsz := hb.size;clear hgo hls hkl hkv HE;by_cases hlt : k < n
   ·have HK : Hid (k < ps.length) := by rw [Hid, HL.out]; exact hlt
    obtain ⟨b, off, rfl, hbl, hc⟩ := (HRD.below hb).at (by rw [Yj, List.length_map, HL.out]; omega);have d0 : wr.cell? ⟨b, off + k, none⟩ = some (.string (ps[k]'HK.out)) := hc k _ (by rw [Yj, List.getElem?_map, List.getElem?_eq_getElem HK.out]; rfl)
    have HGO2 : Hid (R = if (Xi (ps[k]'HK.out)).2.2 ≠ 0 then ([], k, (Xi (ps[k]'HK.out)).2.2) else Vz (ps.drop (k + 1)) (k + 1) (ls ++ [(Xi (ps[k]'HK.out)).1])) := by
     rw [Hid, ← HGO.out, List.drop_eq_getElem_cons HK.out, Zak]
    have HC := hid (Zfl (ps[k]'HK.out) (HP.out _ (List.getElem_mem HK.out)) wr);obtain ⟨p, hpp⟩ := nE (ps[k]'HK.out);rw [hpp] at d0 HC HGO2;obtain ⟨⟨l, a, e⟩, hPM⟩ : ∃ P, Xi p = P := ⟨_, rfl⟩;rw [hPM] at HC HGO2;simp only at HGO2;clear hpp hPM hc hb hown;go_wp2_with fail;refine HC.mono ?_;rintro en w2 ⟨A1, c1, rfl, hown1, hb2⟩;simp only at hown1;obtain ⟨m, hm⟩ := nE (l.length);have HM := hid hm;have HO1 := hid (Vi hown1 hsz);simp only [hm];rw [hm] at HO1;have HB2 := hid (HB.trans (hb2.mono hsz));have hown2 := Yc HO.out hb2;have HLS2 := hid (HLS.below hb2 (Nat.le_refl _));have hsz2 := HB2.size;clear hown1 hm hb2 HC HO HB HLS d0;by_cases he : e = 0
    ·subst he
     have HG3 : Hid (Vz (ps.drop (k + 1)) (k + 1) (ls ++ [l]) = R) := by rw [Hid, HGO2.out, if_neg ah]
     clear HGO HGO2;go_wp2_with (at_builtin; refine Wn _ rfl _ _ 35 rfl w.heap.size 223 _ 1 24 Tryz.underlying35 Zfu rfl ac _ _ _ rfl hown2 1 [.slice A1 m c1] rfl rfl rfl ?_ ac hsz2 ?_)
     ·omega
     intro A2 d2 w3 hown3 hg3;have HB3 := hid (Wo HB2.out hown2 hg3 (Nat.le_refl _) hsz2);have HO3 := hid hown3
     have HLS3 : Hid (Qb w.heap.size w3 (ls ++ [l]) (vs ++ [.slice A1 m c1])) := by
      have h1 := HO1.kept hg3 (Zc2 HO1.out hown2 ac);have h2 := HLS2.grown hown2 hg3 ac;have := h2.snoc (l := l) (A := A1) (c := c1) (by rw [HM.out]; exact h1);rwa [HM.out] at this
     clear hown2 hg3 hown3 HB2 HLS2 HO1;go_wp2_with fail;go_roundw
     case rel => exact ⟨k + 1, d2, A2, ls ++ [l], vs ++ [.slice A1 m c1], aa, by simp [HKL.out], by simp [HKV.out], aw, rfl, HG3.out, HO3.out, HLS3.out, HB3.out⟩
     case measure => simp [intOf]; omega
    ·have he0 : ((e : Int) == 0) = false := bF aa
     have HE : Hid (R = ([], k, e)) := by rw [Hid, HGO2.out, if_pos he]
     clear he HGO HGO2 hown2;go_wp2_with fail
     go_ret3
     rw [← HQ.out, HE.out];exact ⟨none, 0, [], rfl, World.ownsRow_nil _ _ _ _, Qb.nil _ _, HB2.out⟩
   ·have HE : Hid (R = (ls, 0, 0)) := by rw [Hid, ← HGO.out, List.drop_of_length_le bj]; rfl
    clear hown hb;go_wp2_with fail
    go_ret3
    rw [← HQ.out, HE.out];refine ⟨A', c', vs, ?_, ?_, HLS.out, HB.out⟩
    ·simp only [HKL.out]; rfl
    ·simp only [HKL.out]; exact HO.out
end Go.Proofs.YtpkkfdmhbbipoaaGreat
