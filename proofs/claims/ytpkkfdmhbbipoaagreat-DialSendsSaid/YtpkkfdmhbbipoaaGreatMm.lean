/- Walks: layer 10's Check (the program's and the reference's), texts cut. Walks: the reference's New of layer 10: a list of patterns. -/
import Derived.Test.YtpkkfdmhbbipoaaGreatMl
import Derived.Test.YtpkkfdmhbbipoaaGreatMg
import Derived.Test.YtpkkfdmhbbipoaaGreatMh
namespace Go.Proofs.YtpkkfdmhbbipoaaGreat
open Go.RowKit PopT
theorem parseP_at (p : ByteArray) (f : Nat) (out : List Item) (a : Nat) (h : (parseP p f out a).2.2 = 0) : (parseP p f out a).2.1 = 0 := by
 induction f generalizing out a with
 | zero => rfl
 | succ f ih =>
  rw [parseP] at h ⊢
  by_cases h1 : a < p.size
  ·rw [if_pos h1] at h ⊢
   by_cases h2 : out.length = 60
   ·rw [if_pos h2] at h; exact absurd h (show ¬ (4 : Nat) = 0 by decide)
   ·rw [if_neg h2] at h ⊢
    by_cases h3 : (itemP (tailOf p a)).2.2 = 0
    ·rw [if_pos h3] at h ⊢; exact ih _ _ h
    ·rw [if_neg h3] at h; exact absurd h h3
  ·rw [if_neg h1]
theorem least_nil (l : List Item) : leastM l = 0 ↔ matchM l [] = true := by
 rw [matchM_eq, matchR_nil, leastM, List.length_eq_zero_iff, List.filter_eq_nil_iff, Bool.not_eq_true', List.any_eq_false]
def checkM (p : ByteArray) : List Item × Nat × Nat := if (parseM p).2.2 = 0 ∧ matchM (parseM p).1 [] = true then ([], 0, 9) else parseM p
theorem newGo_check (p : ByteArray) (ps : List ByteArray) (i : Nat) (acc : List (List Item)) :
  newGo (p :: ps) i acc = if (checkM p).2.2 ≠ 0 then ([], i, (checkM p).2.2) else newGo ps (i + 1) (acc ++ [(checkM p).1]) := by
 by_cases h : (parseM p).2.2 = 0
 ·by_cases hm : matchM (parseM p).1 [] = true
  ·have e : checkM p = ([], 0, 9) := by rw [checkM, if_pos ⟨h, hm⟩]
   rw [newGo, e, if_neg (not_not_intro h), if_pos hm, if_pos (show (9 : Nat) ≠ 0 by decide)]
  ·have e : checkM p = parseM p := by rw [checkM, if_neg (fun h' => hm h'.2)]
   rw [newGo, e, if_neg (not_not_intro h), if_neg hm, if_neg (not_not_intro h)]
 ·have e : checkM p = parseM p := by rw [checkM, if_neg (fun h' => h h'.1)]
  rw [newGo, e, if_pos h, if_pos h]
set_option maxRecDepth 20000 in
set_option maxHeartbeats 1600000 in
theorem check10_any (p : ByteArray) (hp : p.size ≤ 1000000) (w : World) :
  Calls Tryz.prog 216 #[.string p] w fun e w' => e = .returned (.tuple #[.int .i64 ((checkM p).2.1 : Nat), .int .i64 ((checkM p).2.2 : Nat)]) ∧ Below w.heap.size w w' := by
 have C1 := hid (armc_any p hp w)
 have HAT := hid (parseP_at p 61 [] 0)
 have HC : Hid (checkM p = if (parseM p).2.2 = 0 ∧ matchM (parseM p).1 [] = true then ([], 0, 9) else parseM p) := rfl
 rw [show parseP p 61 [] 0 = parseM p from rfl] at HAT
 obtain ⟨c, hc⟩ : ∃ c, checkM p = c := ⟨_, rfl⟩
 obtain ⟨⟨l, a, e⟩, hR⟩ : ∃ R, parseM p = R := ⟨_, rfl⟩
 rw [hR] at C1 HAT HC
 rw [hc] at HC ⊢
 simp only at HAT HC
 clear hR hc
 go_enter Tryz.func216, Tryz.ntmps216
 go_wp2_with fail
 refine C1.out.mono ?_
 rintro en w1 ⟨hb1, hres⟩
 have HB1 := hid hb1
 clear hb1 C1
 rcases hres with ⟨he, rfl⟩ | ⟨he, hm, rfl⟩ | ⟨he, hm, g, rfl, -, -⟩
 ·have he' : e ≠ 0 := he
  have HE : Hid (c = (l, a, e)) := by rw [Hid, HC.out, if_neg (fun h => he' h.1)]
  clear he he' HC HAT
  go_wp2_with fail
  go_ret2
  rw [HE.out]; exact ⟨rfl, HB1.out⟩
 ·have he' : e = 0 := he
  have HE : Hid (c = ([], 0, 9)) := by rw [Hid, HC.out, if_pos ⟨he', hm⟩]
  clear he he' hm HC HAT
  go_wp2_with fail
  go_ret2
  rw [HE.out]; exact ⟨rfl, HB1.out⟩
 ·have he' : e = 0 := he
  have HE : Hid (c = (l, 0, 0)) := by rw [Hid, HC.out, if_neg (fun h => absurd (hm.symm.trans h.2) (by decide)), HAT.out he', he']
  clear he he' hm HC HAT
  go_wp2_with fail
  go_ret2
  rw [HE.out]; exact ⟨rfl, HB1.out⟩
set_option maxRecDepth 20000 in
set_option maxHeartbeats 1600000 in
theorem checkR_any (p : ByteArray) (hp : p.size ≤ 1000000) (w : World) :
  Calls Tryz.prog 194 #[.string p] w fun e w' => ParsePost (checkM p) w e w' := by
 have C1 := hid (parseR_any p hp w)
 have HLN := hid (parseM_len' p)
 have HC : Hid (checkM p = if (parseM p).2.2 = 0 ∧ matchM (parseM p).1 [] = true then ([], 0, 9) else parseM p) := rfl
 obtain ⟨c, hc⟩ : ∃ c, checkM p = c := ⟨_, rfl⟩
 obtain ⟨⟨l, a, e⟩, hR⟩ : ∃ R, parseM p = R := ⟨_, rfl⟩
 rw [hR] at C1 HC HLN
 rw [hc] at HC ⊢
 simp only at HC HLN
 obtain ⟨n, hn⟩ : ∃ n, l.length = n := ⟨_, rfl⟩
 have HN := hid hn
 clear hR hc
 obtain ⟨Q, hQ⟩ : ∃ Q, ParsePost c w = Q := ⟨_, rfl⟩
 rw [show (fun e' w' => ParsePost c w e' w') = Q from hQ]
 have HQ := hid hQ
 clear hQ
 go_enter Tryz.func194, Tryz.ntmps194
 go_wp2_with fail
 refine C1.out.mono ?_
 rintro en w1 ⟨A1, c1, rfl, hown1, hb1⟩
 simp only at hown1
 have HO1 := hid hown1
 have HR1 := hid (Rd_of_own hown1)
 have HB1 := hid hb1
 clear hown1 hb1 C1
 simp only [hn]
 rw [hn] at HLN HO1
 clear hn
 by_cases he : e = 0
 ·subst he
  have hln : n ≤ 60 := HLN.out
  have C2 := hid (leastR_any A1 n c1 l w1 HN.out (by omega) HR1.out)
  obtain ⟨z, hz⟩ : ∃ z, leastM l = z := ⟨_, rfl⟩
  have HZ : Hid (z = 0 ↔ matchM l [] = true) := by rw [← hz]; exact least_nil l
  rw [hz] at C2
  clear hz
  go_wp2_with fail
  refine C2.out.mono ?_
  rintro en w2 ⟨rfl, hb2⟩
  have HB2 := hid (HB1.out.trans (hb2.mono HB1.out.size))
  have HO2 := hid (own_below HO1.out hb2)
  clear hb2 C2 HB1 HO1
  by_cases h0 : z = 0
  ·have HE : Hid (c = ([], 0, 9)) := by rw [Hid, HC.out, if_pos ⟨by trivial, HZ.out.1 h0⟩]
   have hz0 : ((z : Int) == 0) = true := by rw [beq_iff_eq]; omega
   clear h0 HZ HC
   go_wp2_with fail
   go_ret3
   rw [← HQ.out, HE.out]
   exact parsePost_nil w w2 0 9 HB2.out
  ·have HE : Hid (c = (l, a, 0)) := by rw [Hid, HC.out, if_neg (fun h' => h0 (HZ.out.2 h'.2))]
   have hz0 : ((z : Int) == 0) = false := by rw [beq_eq_false_iff_ne]; omega
   clear h0 HZ HC
   go_wp2_with fail
   go_ret3
   rw [← HQ.out, HE.out]
   refine ⟨A1, c1, ?_, ?_, HB2.out⟩
   ·simp only [HN.out]; rfl
   ·simp only [HN.out]; exact HO2.out
 ·have HE : Hid (c = (l, a, e)) := by rw [Hid, HC.out, if_neg (fun h => he h.1)]
  have he0 : ((e : Int) == 0) = false := by rw [beq_eq_false_iff_ne]; omega
  clear he HC
  go_wp2_with fail
  go_ret3
  rw [← HQ.out, HE.out]
  refine ⟨A1, c1, ?_, ?_, HB1.out⟩
  ·simp only [HN.out]; rfl
  ·simp only [HN.out]; exact HO1.out
def cutM (long : Nat) (s : ByteArray) : ByteArray := if long < s.size then s.extract 0 long else s
theorem cutM_size (long : Nat) (s : ByteArray) : (cutM long s).size ≤ long := by
 unfold cutM; split
 ·simp; omega
 ·omega
theorem Tryz.infoStr : (Tryz.prog.info? 9).map (fun i => (i.zero, i.size, i.bytes)) = some (some (.string ⟨#[]⟩), 1, 16) := by kernel_rfl
def Lists (base : Nat) (w : World) (ls : List (List Item)) (vs : List Value) : Prop :=
 vs.length = ls.length ∧ ∀ (i : Nat) (l : List Item), ls[i]? = some l → ∃ A c, vs[i]? = some (.slice A l.length c) ∧ w.ownsRow base 251 5 (.slice A l.length c) l.length (itemCells l)
theorem Lists.nil (base : Nat) (w : World) : Lists base w [] [] := ⟨rfl, fun i l h => by simp at h⟩
theorem Lists.below {base B : Nat} {w w' : World} {ls : List (List Item)} {vs : List Value} (h : Lists base w ls vs) (hb : Below B w w') (hB : w.heap.size ≤ B) : Lists base w' ls vs := by
 refine ⟨h.1, fun i l hi => ?_⟩
 obtain ⟨A, c, hv, ho⟩ := h.2 i l hi
 exact ⟨A, c, hv, own_below ho hb hB⟩
theorem Lists.grown {base b2 e2 s2 n2 : Nat} {w w' : World} {ls : List (List Item)} {vs xs : List Value} {v : Value} (h : Lists base w ls vs) (ho2 : w.ownsRow b2 e2 s2 v n2 xs) (hg : w.grownBy w' v.ownBlock) (hne : 251 ≠ e2) : Lists base w' ls vs := by
 refine ⟨h.1, fun i l hi => ?_⟩
 obtain ⟨A, c, hv, ho⟩ := h.2 i l hi
 exact ⟨A, c, hv, ho.kept hg (own_ne ho ho2 hne)⟩
theorem Lists.snoc {base : Nat} {w : World} {ls : List (List Item)} {vs : List Value} {l : List Item} {A : Option Addr} {c : Nat} (h : Lists base w ls vs) (ho : w.ownsRow base 251 5 (.slice A l.length c) l.length (itemCells l)) :
  Lists base w (ls ++ [l]) (vs ++ [.slice A l.length c]) := by
 refine ⟨by simp [h.1], fun i m hi => ?_⟩
 by_cases hlt : i < ls.length
 ·rw [List.getElem?_append_left hlt] at hi
  obtain ⟨A', c', hv, ho'⟩ := h.2 i m hi
  exact ⟨A', c', by rw [List.getElem?_append_left (by rw [h.1]; exact hlt)]; exact hv, ho'⟩
 ·rw [List.getElem?_append_right (by omega)] at hi
  have hi0 : i - ls.length = 0 := by
   rcases Nat.eq_zero_or_pos (i - ls.length) with h0 | h0
   ·exact h0
   ·rw [List.getElem?_eq_none (by simp; omega)] at hi; cases hi
  rw [hi0] at hi
  injection hi with hi
  subst hi
  exact ⟨A, c, by rw [List.getElem?_append_right (by rw [h.1]; omega), h.1, hi0]; rfl, ho⟩
theorem own_fb {base bb b0 e size n : Nat} {w w' : World} {v : Value} {xs : List Value} (ho : w.ownsRow b0 e size v n xs) (h : FB base bb w w') (h1 : e ≠ 216) (h2 : e ≠ 222) : w'.ownsRow b0 e size v n xs := by
 refine ⟨ho.1, ?_⟩
 rcases ho.2 with hn | ⟨g, cap, cur, rfl, hb, hgg, rest⟩
 ·exact .inl hn
 ·exact .inr ⟨g, cap, cur, rfl, hb, (h.2.1 g _ _ _ hgg h1 h2).trans hgg, rest⟩
def NewF (R : List (List Item) × Nat × Nat) (w : World) (e : Ending) (w' : World) : Prop :=
 ∃ A c vs, e = .returned (.tuple #[.slice A R.1.length c, .int .i64 (R.2.1 : Nat), .int .i64 (R.2.2 : Nat)]) ∧ w'.ownsRow w.heap.size 223 1 (.slice A R.1.length c) R.1.length vs ∧ Lists w.heap.size w' R.1 vs ∧ Below w.heap.size w w'
theorem Tryz.infoItems : (Tryz.prog.info? 223).map (fun i => (i.zero, i.size, i.bytes)) = some (some (.slice none 0 0), 1, 24) := by kernel_rfl
set_option maxRecDepth 20000 in
set_option maxHeartbeats 1600000 in
theorem newF_any (A : Option Addr) (n c : Nat) (ps : List ByteArray) (w : World) (hl : ps.length = n) (hn : n ≤ 1000) (hp : ∀ p ∈ ps, p.size ≤ 1000000) (hr : Rd w A (textCells ps)) :
  Calls Tryz.prog 169 #[.slice A n c] w fun e w' => NewF (newM ps) w e w' := by
 have HL := hid hl; have HP := hid hp; have HRD := hid hr
 have HNM : Hid (newM ps = if 8 < n then ([], 0, 4) else newGo ps 0 []) := by rw [Hid, newM, hl]
 obtain ⟨R, hR⟩ : ∃ R, newM ps = R := ⟨_, rfl⟩
 rw [hR] at HNM ⊢
 obtain ⟨Q, hQ⟩ : ∃ Q, NewF R w = Q := ⟨_, rfl⟩
 rw [show (fun e' w' => NewF R w e' w') = Q from hQ]
 have HQ := hid hQ
 clear hR hQ hl hp hr
 by_cases h8 : 8 < n
 ·have HE : Hid (R = ([], 0, 4)) := by rw [Hid, HNM.out, if_pos h8]
  clear HNM
  go_enter Tryz.func169, Tryz.ntmps169
  go_wp2_with fail
  go_ret3
  rw [← HQ.out, HE.out]
  exact ⟨none, 0, [], rfl, World.ownsRow_nil _ _ _ _, Lists.nil _ _, (Below.refl _ _).alloc (Nat.le_refl _) _⟩
 ·have HE : Hid (newGo ps 0 [] = R) := by rw [Hid, HNM.out, if_neg h8]
  clear HNM
  go_enter Tryz.func169, Tryz.ntmps169
  go_wp2_with fail
  go_loopw [5, 6] (fun v iv wr => ∃ (k c' : Nat) (A' : Option Addr) (ls : List (List Item)) (vs : List Value), k ≤ n ∧ ls.length = k ∧ vs.length = k ∧ iv = .int .i64 (k : Int) ∧ v = .slice A' k c' ∧ newGo (ps.drop k) k ls = R ∧
    wr.ownsRow w.heap.size 223 1 (.slice A' k c') k vs ∧ Lists w.heap.size wr ls vs ∧ Below w.heap.size w wr) (fun _ iv _ => n - (intOf iv).toNat)
  case atStart => exact ⟨0, _, _, [], [], by omega, rfl, rfl, rfl, rfl, HE.out, World.ownsRow_made _ _ _ (Nat.le_refl _) (by simp [maxLen]) (by simp), Lists.nil _ _, (Below.refl _ _).alloc (Nat.le_refl _) _⟩
  case round =>
   obtain ⟨k, c', A', ls, vs, hk, hkl, hkv, rfl, rfl, hgo, hown, hls, hb⟩ := hrel
   have HGO := hid hgo; have HLS := hid hls; have HKL := hid hkl; have HKV := hid hkv; have HB := hid hb; have HO := hid hown
   have hsz := hb.size
   clear hgo hls hkl hkv HE
   by_cases hlt : k < n
   ·have HK : Hid (k < ps.length) := by rw [Hid, HL.out]; exact hlt
    obtain ⟨b, off, rfl, hbl, hc⟩ := (HRD.out.below hb).at (by rw [textCells, List.length_map, HL.out]; omega)
    have d0 : wr.cell? ⟨b, off + k, none⟩ = some (.string (ps[k]'HK.out)) := hc k _ (by rw [textCells, List.getElem?_map, List.getElem?_eq_getElem HK.out]; rfl)
    have HGO2 : Hid (R = if (checkM (ps[k]'HK.out)).2.2 ≠ 0 then ([], k, (checkM (ps[k]'HK.out)).2.2) else newGo (ps.drop (k + 1)) (k + 1) (ls ++ [(checkM (ps[k]'HK.out)).1])) := by
     rw [Hid, ← HGO.out, List.drop_eq_getElem_cons HK.out, newGo_check]
    have HC := hid (checkR_any (ps[k]'HK.out) (HP.out _ (List.getElem_mem HK.out)) wr)
    obtain ⟨p, hpp⟩ : ∃ p, ps[k]'HK.out = p := ⟨_, rfl⟩
    rw [hpp] at d0 HC HGO2
    obtain ⟨⟨l, a, e⟩, hPM⟩ : ∃ P, checkM p = P := ⟨_, rfl⟩
    rw [hPM] at HC HGO2
    simp only at HGO2
    clear hpp hPM hc hb hown
    go_wp2_with fail
    refine HC.out.mono ?_
    rintro en w2 ⟨A1, c1, rfl, hown1, hb2⟩
    simp only at hown1
    obtain ⟨m, hm⟩ : ∃ m, l.length = m := ⟨_, rfl⟩
    have HM := hid hm
    have HO1 := hid (own_base hown1 hsz)
    simp only [hm]
    rw [hm] at HO1
    have HB2 := hid (HB.out.trans (hb2.mono hsz))
    have hown2 := own_below HO.out hb2
    have HLS2 := hid (HLS.out.below hb2 (Nat.le_refl _))
    have hsz2 := HB2.out.size
    clear hown1 hm hb2 HC HO HB HLS d0
    by_cases he : e = 0
    ·subst he
     have HG3 : Hid (newGo (ps.drop (k + 1)) (k + 1) (ls ++ [l]) = R) := by rw [Hid, HGO2.out, if_neg (by simp)]
     clear HGO HGO2
     go_wp2_with (at_builtin; refine wpList_append1 _ rfl _ _ 35 rfl w.heap.size 223 _ 1 24 Tryz.underlying35 Tryz.infoItems rfl (by decide) _ _ _ rfl hown2 1 [.slice A1 m c1] rfl rfl rfl ?_ (by decide) hsz2 ?_)
     ·omega
     intro A2 d2 w3 hown3 hg3
     have HB3 := hid (below_grown HB2.out hown2 hg3 (Nat.le_refl _) hsz2)
     have HO3 := hid hown3
     have HLS3 : Hid (Lists w.heap.size w3 (ls ++ [l]) (vs ++ [.slice A1 m c1])) := by
      have h1 := HO1.out.kept hg3 (own_ne HO1.out hown2 (by decide))
      have h2 := HLS2.out.grown hown2 hg3 (by decide)
      have := h2.snoc (l := l) (A := A1) (c := c1) (by rw [HM.out]; exact h1)
      rwa [HM.out] at this
     clear hown2 hg3 hown3 HB2 HLS2 HO1
     go_wp2_with fail
     go_roundw
     case rel => exact ⟨k + 1, d2, A2, ls ++ [l], vs ++ [.slice A1 m c1], by omega, by simp [HKL.out], by simp [HKV.out], by go_num, rfl, HG3.out, HO3.out, HLS3.out, HB3.out⟩
     case measure => simp [intOf]; omega
    ·have he0 : ((e : Int) == 0) = false := by rw [beq_eq_false_iff_ne]; omega
     have HE : Hid (R = ([], k, e)) := by rw [Hid, HGO2.out, if_pos he]
     clear he HGO HGO2 hown2
     go_wp2_with fail
     go_ret3
     rw [← HQ.out, HE.out]
     exact ⟨none, 0, [], rfl, World.ownsRow_nil _ _ _ _, Lists.nil _ _, HB2.out⟩
   ·have HE : Hid (R = (ls, 0, 0)) := by rw [Hid, ← HGO.out, List.drop_of_length_le (by rw [HL.out]; omega)]; rfl
    clear hown hb
    go_wp2_with fail
    go_ret3
    rw [← HQ.out, HE.out]
    refine ⟨A', c', vs, ?_, ?_, HLS.out, HB.out⟩
    ·simp only [HKL.out]; rfl
    ·simp only [HKL.out]; exact HO.out
end Go.Proofs.YtpkkfdmhbbipoaaGreat
