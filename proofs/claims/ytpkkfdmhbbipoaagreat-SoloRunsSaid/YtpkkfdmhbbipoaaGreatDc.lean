/- The shelf's layings at this program (numbers of this seat). Walks: prog.Copy. -/
import Derived.Shelf.SlicesE.Clone
import Derived.Test.YtpkkfdmhbbipoaaGreatPc
import Derived.Test.YtpkkfdmhbbipoaaGreatMh
import Derived.Deep.Cut
namespace Go.Proofs.YtpkkfdmhbbipoaaGreat
set_option maxRecDepth 20000
set_option maxHeartbeats 4000000
open Go.Shelf Go.RowKit
def Zdh : Go.Shelf.Ren := ⟨fun | 41 => 136 | n => n, fun | 22 => 24 | 23 => 56 | 4 => 4 | n => n, fun | n => n⟩
theorem Zcw : Go.Proofs.SlLaysE0.n41 Tryz.prog Zdh := {
 mixed := ab
 f41 := ⟨Tryz.f136.name, ac, Tryz.func136.trans (congrArg some ab)⟩
 t4 := Tryz.underlying4
 a4 := Tryz.isAgg4
 z4 := Tryz.sizeOf4
 v4 := Tryz.zeroValue4
 t22 := Tryz.underlying24
 a22 := Tryz.isAgg24
 z22 := Tryz.sizeOf24
 v22 := Tryz.zeroValue24 }
def Zcx : Go.Shelf.Ren := ⟨fun | 41 => 137 | n => n, fun | 22 => 54 | 23 => 99 | 4 => 4 | n => n, fun | n => n⟩
theorem Zbo : Go.Proofs.SlLaysE0.n41 Tryz.prog Zcx := {
 mixed := ab
 f41 := ⟨Tryz.f137.name, ac, Tryz.func137.trans (congrArg some ab)⟩
 t4 := Tryz.underlying4
 a4 := Tryz.isAgg4
 z4 := Tryz.sizeOf4
 v4 := Tryz.zeroValue4
 t22 := Tryz.underlying54
 a22 := Tryz.isAgg54
 z22 := Tryz.sizeOf54
 v22 := Tryz.zeroValue54 }
open PopT
theorem Zj1 (w : World) : (Go.sizeOf 56).run Tryz.prog w = .ok 7 w := by kernel_rfl
theorem Zh3 (w : World) : (Go.sizeOf 99).run Tryz.prog w = .ok 2 w := by kernel_rfl
theorem Zhp (l : List (OpV × Value)) (h : ∀ x ∈ l, x.2.oneCell' = true) : ∀ u ∈ Ym l, u.oneCell' = true := by
 intro u hu;obtain ⟨x, hx, hu⟩ := List.mem_flatMap.1 hu;have h4 := h x hx;simp [OpV.cells] at hu;rcases hu with rfl | rfl | rfl | rfl | rfl | rfl | rfl <;> first | rfl | exact h4
theorem Zf9 (l : List Vd) : ∀ u ∈ Zz l, u.oneCell' = true := by
 intro u hu;obtain ⟨x, hx, hu⟩ := List.mem_flatMap.1 hu;simp [Vd.cells] at hu;rcases hu with rfl | rfl <;> rfl
theorem Zc7 {w : World} {b0 e size n c : Nat} {A : Option Addr} {xs : List Value} (h : w.ownsRow b0 e size (.slice A n c) n xs) : (A = none ∧ n = 0 ∧ c = 0) ∨ ∃ g, A = some ⟨g, 0, none⟩ ∧ g < w.heap.size ∧ b0 ≤ g := by
 rcases h.2 with ⟨hv, h0⟩ | ⟨g, cap, cur, hv, hb, _⟩
 ·injection hv with h1 _ h3; exact .inl ⟨h1, h0, h3⟩
 ·injection hv with h1 _ _; subst h1; exact .inr ⟨g, rfl, (h.lt g rfl).2, hb⟩
theorem Zfe {W : World} {e : TypeId} {size B' k : Nat} {x : Value} {xs : List Value} (h : W.ownsRow B' e size x k xs) : ∃ A c, x = .slice A k c := by
 rcases h.2 with ⟨hv, h0⟩ | ⟨b, cap, cur, hv, _⟩
 ·exact ⟨none, 0, by rw [h0]; exact hv⟩
 ·exact ⟨_, _, hv⟩
theorem Zf7 (b0 n c : Nat) (A : Option Addr) (l : List Vd) (w : World) (h : w.ownsRow b0 99 2 (.slice A n c) n (Zz l)) (hn : n ≤ 1000) :
  Calls Tryz.prog 137 #[.slice A n c] w fun e w' => ∃ A' c', e = .returned (.slice A' n c') ∧ w'.ownsRow w.heap.size 99 2 (.slice A' n c') n (Zz l) ∧ Below w.heap.size w w' := by
 obtain ⟨i0, hi, hz0, hz1, hz2⟩ := info_parts Zbn;rcases Zc7 h with ⟨rfl, rfl, rfl⟩ | ⟨g, rfl, hg, _⟩
 ·refine (AnyE.slices_Clone_nil Zbo 0 0 w).mono ?_
  rintro e w1 ⟨rfl, rfl⟩;have hl : Zz l = [] := List.eq_nil_of_length_eq_zero (by have := h.1; omega);refine ⟨none, 0, rfl, ?_, Below.refl _ _⟩;rw [hl];exact World.ownsRow_nil _ _ _ _
 ·refine (AnyE.slices_Clone Zbo i0 _ 2 24 hi hz0 hz1 hz2 rfl ac Zh3 g 0 n c (Zz l) w h.1 dh aa (fun j u hu => by
   rw [Nat.zero_add, h.cellAt j (by have := (List.getElem?_eq_some_iff.1 hu).1; have := h.1; omega)]; exact hu) (Zf9 l)).mono ?_
  rintro e w1 ⟨v', rfl, ho, -, hb⟩;obtain ⟨A', c', rfl⟩ := Zfe ho;exact ⟨A', c', rfl, ho, hb⟩
theorem Zhz (b0 n c : Nat) (A : Option Addr) (l : List (OpV × Value)) (w : World) (h : w.ownsRow b0 56 7 (.slice A n c) n (Ym l)) (h1 : ∀ x ∈ l, x.2.oneCell' = true) (hn : n ≤ 1000) :
  Calls Tryz.prog 136 #[.slice A n c] w fun e w' => ∃ A' c', e = .returned (.slice A' n c') ∧ w'.ownsRow w.heap.size 56 7 (.slice A' n c') n (Ym l) ∧ Below w.heap.size w w' := by
 obtain ⟨i0, hi, hz0, hz1, hz2⟩ := info_parts Zd9;rcases Zc7 h with ⟨rfl, rfl, rfl⟩ | ⟨g, rfl, hg, _⟩
 ·refine (AnyE.slices_Clone_nil Zcw 0 0 w).mono ?_
  rintro e w1 ⟨rfl, rfl⟩;have hl : Ym l = [] := List.eq_nil_of_length_eq_zero (by have := h.1; omega);refine ⟨none, 0, rfl, ?_, Below.refl _ _⟩;rw [hl];exact World.ownsRow_nil _ _ _ _
 ·refine (AnyE.slices_Clone Zcw i0 _ 7 80 hi hz0 hz1 hz2 rfl ac Zj1 g 0 n c (Ym l) w h.1 dh aa (fun j u hu => by
   rw [Nat.zero_add, h.cellAt j (by have := (List.getElem?_eq_some_iff.1 hu).1; have := h.1; omega)]; exact hu) (Zhp l h1)).mono ?_
  rintro e w1 ⟨v', rfl, ho, -, hb⟩;obtain ⟨A', c', rfl⟩ := Zfe ho;exact ⟨A', c', rfl, ho, hb⟩
theorem Zmt (l : List OpV) (i : Nat) (h : i < l.length) : l.set i l[i] = l := by
 apply List.ext_getElem
 ·simp
 ·intro j h1 h2
  rw [List.getElem_set];split
  ·rename_i e; subst e; rfl
  ·rfl
theorem Zf3 (xs : List (OpV × Value)) (j : Nat) (h : j < xs.length) (v : Value) : (Ym xs).set (j * 7 + 4) v = Ym (xs.set j ((xs[j]).1, v)) := by
 induction xs generalizing j with
 | nil => simp at h
 | cons x xs ih =>
  have hx : Ym (x :: xs) = x.1.cells x.2 ++ Ym xs := rfl;have hc : (x.1.cells x.2).length = 7 := rfl;cases j with
  | zero => rfl
  | succ j =>
   rw [hx, List.set_append_right _ _ (by rw [hc]; omega), hc, show (j + 1) * 7 + 4 - 7 = j * 7 + 4 from aa, ih j bw];rfl
theorem Zn2 (p : Xl) (A : Option Addr) (c b0 : Nat) (w : World) (hin : Wt b0 w (.slice A p.ops.length c) p.ops) (hn : p.ops.length ≤ 1000) (ha : ∀ o ∈ p.ops, o.arms.length ≤ 1000) :
  Calls Tryz.prog 93 #[p.val (.slice A p.ops.length c)] w fun e w' => ∃ A' c', e = .returned (p.val (.slice A' p.ops.length c')) ∧ Wt w.heap.size w' (.slice A' p.ops.length c') p.ops ∧ Below w.heap.size w w' := by
 obtain ⟨nm, dl, jp, ops⟩ := p;simp only at hin hn ha;unfold Xl.val;simp only;obtain ⟨xs, hx1, hx2, hx3⟩ := hin;obtain ⟨n, hN⟩ := nE (ops.length);rw [hN] at hx2 hn ⊢;have hxl : xs.length = n := by rw [← hN, ← hx1, List.length_map]
 have h1c : ∀ x ∈ xs, x.2.oneCell' = true := fun x hx => by obtain ⟨A, c, h1, _⟩ := hx3 x hx; rw [h1]; rfl
 have HN := hid hN; have HX1 := hid hx1; have HX3 := hid hx3; have HXL := hid hxl; have HA := hid ha;have HX2 := hid hx2;have C1 := hid (fun W (h : W.ownsRow b0 56 7 (.slice A n c) n (Ym xs)) => Zhz b0 n c A xs W h h1c hn);have C2 := hid (fun B n c A l W (h : W.ownsRow B 99 2 (.slice A n c) n (Zz l)) hn => Zf7 B n c A l W h hn);have hbw : Hid (b0 ≤ b0) := Nat.le_refl _;clear hN hx1 hx2 hx3 hxl h1c ha;go_enter Tryz.func93, Tryz.ntmps93;go_upto_region 1 with fail;have k1 := (Blk.new w 26 #[nm, dl, jp, .slice A n c]).alloc (.cells #[.string ⟨#[]⟩, .int .i64 0, .int .i64 0, .slice none 0 0] 26);have k2 := Blk.new (w.alloc (.cells #[nm, dl, jp, .slice A n c] 26)) 26 #[.string ⟨#[]⟩, .int .i64 0, .int .i64 0, .slice none 0 0];rw [World.size_alloc] at k2;have k3 := ((Below.refl w.heap.size w).alloc (Nat.le_refl _) (.cells #[nm, dl, jp, .slice A n c] 26)).alloc ah (.cells #[.string ⟨#[]⟩, .int .i64 0, .int .i64 0, .slice none 0 0] 26);obtain ⟨w0, hw0⟩ := nE (((w.alloc (.cells #[nm, dl, jp, .slice A n c] 26)).alloc (.cells #[.string ⟨#[]⟩, .int .i64 0, .int .i64 0, .slice none 0 0] 26)));rw [hw0] at k1 k2 k3;rw [hw0];clear hw0;obtain ⟨gb, hgb⟩ := nE (w.heap.size);have HGB := hid hgb;rw [hgb] at k1 k2 k3 ⊢;obtain ⟨gz, hgz⟩ := nE (gb + 1);rw [hgz] at k2 ⊢;have hbz : gb < gz := aa
 have HK1 := hid k1; have HK2 := hid k2; have HK3 := hid k3;have hx2' : w0.ownsRow b0 56 7 (.slice A n c) n (Ym xs) := Yc HX2.out k3 (by rw [hgb]; exact Nat.le_refl _);have CC := hid (C1.out w0 hx2');have HARM : Hid (∀ x ∈ xs, Yz b0 w0 x.1 x.2) := fun x hx => (HX3.out x hx).below k3 (by rw [hgb]; exact Nat.le_refl _);obtain ⟨x0, x1, x2, x3⟩ := Wc k1;clear hgb hgz k1 k2 k3 hx2' C1 HX2 HX3;go_wp2_with fail;refine CC.mono ?_;rintro en w1 ⟨A1, c1, rfl, ho1, hb1⟩;have k1 := HK1.below hb1 HK1.lt;have HKA := hid k1;have HKZ := bb HK2 hb1;have HB1 : Hid (Below gb w w1) := hid (HK3.trans (hb1.mono (by have := HK3.size; have := HGB.out; omega)));have HO1 := hid ho1;have HARM1 : Hid (∀ x ∈ xs, Yz b0 w1 x.1 x.2) := fun x hx => (HARM.out x hx).below hb1 (Nat.le_refl _);have hw01 : Hid (gb ≤ w0.heap.size ∧ gz < w0.heap.size) := ⟨by have := HK3.size; have := HGB.out; omega, HK2.lt⟩;clear CC ho1 hb1 k1 x0 x1 x2 x3 HK1 HK2 HK3 HARM;obtain ⟨x0, x1, x2, x3⟩ := Wc HKA.out;have y3 := HKA.frozen 3;have hl1 := HKA.lt;go_upto_region 2 with fail;obtain ⟨w2, hw2⟩ := nE (w1.setCell ⟨gb, 3, none⟩ (.slice A1 n c1));have HKB : Hid (Blk w2 gb 26 #[nm, dl, jp, .slice A1 n c1]) := hw2 ▸ HKA.set 3 _;have HKY : Hid (Blk w2 gz 26 #[.string ⟨#[]⟩, .int .i64 0, .int .i64 0, .slice none 0 0]) := hw2 ▸ HKZ.set_far aa;have HB2 : Hid (Below gb w w2) := hw2 ▸ HB1.setCell (Nat.le_refl _) _;have hne1 : (Value.slice A1 n c1).ownBlock ≠ some gb := Vl HKA.out HO1.out ac;have HO2 : Hid (w2.ownsRow gb 56 7 (.slice A1 n c1) n (Ym xs)) := by rw [Hid, ← hw2]; exact Vi (Yo HO1.out ⟨gb, 3, none⟩ _ hne1) hw01.out.1
 have HARM2 : Hid (∀ x ∈ xs, Yz b0 w2 x.1 x.2) := fun x hx => by rw [← hw2]; exact (HARM1.out x hx).set HKA.out ac
 rw [hw2];clear hw2 hne1 HKA HKZ HB1 HO1 HARM1 x0 x1 x2 x3 y3 hl1;obtain ⟨x0, x1, x2, x3⟩ := Wc HKB.out;go_wp2_with fail;clear x0 x1 x2 x3
 go_loopw [11] (fun iv wr => ∃ (k : Nat) (ys : List (OpV × Value)), iv = .int .i64 (k : Int) ∧ k ≤ n ∧ ys.map Prod.fst = ops ∧ Blk wr gb 26 #[nm, dl, jp, .slice A1 n c1] ∧ Blk wr gz 26 #[.string ⟨#[]⟩, .int .i64 0, .int .i64 0, .slice none 0 0] ∧
   wr.ownsRow gb 56 7 (.slice A1 n c1) n (Ym ys) ∧ (∀ j (h : j < ys.length), if j < k then Yz gb wr (ys[j]).1 (ys[j]).2 else Yz 0 wr (ys[j]).1 (ys[j]).2) ∧ Below gb w wr) (fun iv _ => n - (intOf iv).toNat)
 case atStart => exact ⟨0, xs, rfl, Nat.zero_le _, HX1.out, HKB.out, HKY.out, HO2.out, fun j h => by rw [if_neg aa]; exact (HARM2.out _ (List.getElem_mem h)).base (Nat.zero_le _), HB2.out⟩
 case round =>
  obtain ⟨k, ys, rfl, hk, hys, hB, hZ, hO, hArm, hb⟩ := hrel;have HYS := hid hys; have HKB := hid hB; have HKY := hid hZ; have HO := hid hO; have HAR := hid hArm; have HB := hid hb;have hyl : ys.length = n := by rw [← HN.out, ← hys, List.length_map]
  have HYL := hid hyl;clear hys hB hZ hO hArm hb HO2 HARM2 HB2 hyl;by_cases hlt : k < n
  ·have hkl : k < ys.length := by rw [HYL.out]; exact hlt
   have hgs : ∃ g2, A1 = some ⟨g2, 0, none⟩ ∧ g2 < wr.heap.size ∧ gb ≤ g2 := by
    rcases Zc7 HO.out with ⟨-, h, -⟩ | ⟨g, h1, h2, h3⟩
    ·omega
    ·exact ⟨g, h1, h2, h3⟩
   obtain ⟨g2, rfl, hg2, hg2b⟩ := hgs;have harm := HAR.out k hkl;rw [if_neg (Nat.lt_irrefl k)] at harm;obtain ⟨Aa, ca, hva, hoa⟩ := harm
   have hrow : wr.cell? ⟨g2, k * 7 + 4, none⟩ = some ((ys[k]'hkl).2) := by
    have h1 := HO.1;rw [HO.cellAt (k * 7 + 4) aa];exact Gw (fun x : OpV × Value => x.1.cells x.2) 7 ys (fun _ _ => rfl) k hkl 4 aa
   rw [hva] at hrow hoa;have hmem : (ys[k]'hkl).1 ∈ ops := by rw [← HYS.out]; exact List.mem_map.2 ⟨_, List.getElem_mem hkl, rfl⟩
   have hna := HA.out _ hmem;obtain ⟨o, ho⟩ := nE ((ys[k]'hkl).1);rw [ho] at hrow hoa hna;have HOO := hid ho;obtain ⟨na, hnaa⟩ := nE (o.arms.length);rw [hnaa] at hrow hoa hna;have HNA := hid hnaa;have hlb := HKB.lt;have hx3 := HKB.cell 3;simp only [List.getElem?_toArray] at hx3;have T3 : ∀ q : BW wr.heap.size wr, q.1.cell? ⟨gb, 3, none⟩ = some (.slice (some ⟨g2, 0, none⟩) n c1) := fun q => q.cellAt hlb hx3;have T4 : ∀ q : BW wr.heap.size wr, q.1.cell? ⟨g2, k * 7 + 4, none⟩ = some (.slice Aa na ca) := fun q => q.cellAt hg2 hrow;have CA := hid (fun W (hW : Below wr.heap.size wr W) => C2.out 0 na ca Aa o.arms W (Yc hoa hW) hna);have hy4 := HO.frozenAt (k * 7 + 4);have HY4 := hid hy4;clear hx3 hrow hoa hva hmem ho hnaa hy4 hna;go_upto_region 5 with fail;refine Zg wr.heap.size [12] (.val 0 (.val 1 (.val 2 (.val 3 (.val 4 (.val 5 (.val 6 (.val 7 (.val 8 (.op 9 (.val 10 (.val 11 (.op 12 (.nil)))))))))))))) ab ab ?_;obtain ⟨wc, hwc, HBW⟩ := dw wr;rw [hwc];clear hwc
   iterate 9 ((first | refine Zd rfl rfl ?_ | refine Zw rfl rfl (Xp HBW.out) ?_); go_big_quiet_step (fail); refine wpQuiet_nil ?_)
   refine Ze rfl ?_;go_wp2_with fail;refine (CA.out _ HBW.out).mono ?_;rintro en wc ⟨A6, c6, rfl, ho6, hb⟩;have hsz6 := HBW.size;have HO6 := hid (Vi ho6 (show gb ≤ _ from by have := HB.size; have := HGB.out; omega));replace HBW := hid (HBW.trans (hb.mono HBW.size));clear ho6 hb CA hsz6;go_wp2_with fail;refine KT.keep (Xp HBW.out) ?_
   iterate 2 (refine Zd rfl rfl ?_; go_big_quiet_step (fail); refine wpQuiet_nil ?_)
   refine Ze rfl ?_;have hc12 := (HBW.cell (p := ⟨g2, k * 7 + 4, none⟩) hg2).trans (T4 ⟨wr, Below.refl _ _⟩);have hy12 := (HBW.frozen (p := ⟨g2, k * 7 + 4, none⟩) hg2).trans HY4.out;go_wp2_with fail;refine KT.past rfl ?_;refine Zi ?_;clear hc12 hy12 T3 T4;obtain ⟨wd, hwd⟩ := nE (wc.setCell ⟨g2, k * 7 + 4, none⟩ (.slice A6 na c6));have hOc := Yc HO.out HBW.out
   have hne2 : gb ≠ g2 := by
    intro e;have := Vl HKB.out HO.out ac;exact this (by rw [e]; rfl)
   have hne3 : gz ≠ g2 := by
    intro e;have := Vl HKY.out HO.out ac;exact this (by rw [e]; rfl)
   have K1 : Hid (Blk wd gb 26 #[nm, dl, jp, .slice (some ⟨g2, 0, none⟩) n c1]) := hwd ▸ (HKB.below HBW.out HKB.lt).set_far hne2;have K2 : Hid (Blk wd gz 26 #[.string ⟨#[]⟩, .int .i64 0, .int .i64 0, .slice none 0 0]) := hwd ▸ (HKY.below HBW.out HKY.lt).set_far hne3;have K3 : Hid (Below gb w wd) := by rw [← hwd]; exact (HB.trans (HBW.mono (by have := HB.size; have := HGB.out; omega))).setCell hg2b _
   have K4 : Hid (wd.ownsRow gb 56 7 (.slice (some ⟨g2, 0, none⟩) n c1) n (Ym (ys.set k ((ys[k]'hkl).1, .slice A6 na c6)))) := by
    rw [Hid, ← hwd, ← Zf3 ys k hkl];exact (hOc.stored (k * 7 + 4) _).1
   have kk : ∀ B (o : OpV) v, Yz B wc o v → Yz B wd o v := by
    rintro B o v ⟨A, c, e1, e2⟩;refine ⟨A, c, e1, ?_⟩;rw [← hwd];refine Yo e2 ⟨g2, _, none⟩ _ ?_;rcases Zc2 e2 hOc ac with h | h
    ·rw [h]; simp
    ·exact h
   have K5 : Hid (∀ j (h : j < (ys.set k ((ys[k]'hkl).1, .slice A6 na c6)).length), if j < k + 1 then Yz gb wd ((ys.set k ((ys[k]'hkl).1, .slice A6 na c6))[j]).1 ((ys.set k ((ys[k]'hkl).1, .slice A6 na c6))[j]).2 else Yz 0 wd ((ys.set k ((ys[k]'hkl).1, .slice A6 na c6))[j]).1 ((ys.set k ((ys[k]'hkl).1, .slice A6 na c6))[j]).2) := by
    intro j hj;have hj' : j < ys.length := lk
    rw [List.getElem_set];by_cases hjk : k = j
    ·subst hjk
     rw [if_pos rfl, if_pos aa];refine kk _ _ _ ⟨A6, c6, ?_, ?_⟩
     ·simp only; rw [HOO.out, HNA.out]
     ·simp only; rw [HOO.out, HNA.out]; exact HO6.out
    ·rw [if_neg hjk]
     have := HAR.out j hj';by_cases hj2 : j < k
     ·rw [if_pos aa]
      rw [if_pos hj2] at this;exact kk _ _ _ (this.below HBW.out (Nat.le_refl _))
     ·rw [if_neg aa]
      rw [if_neg hj2] at this;exact kk _ _ _ (this.below HBW.out (Nat.le_refl _))
   have K6 : Hid ((ys.set k ((ys[k]'hkl).1, .slice A6 na c6)).map Prod.fst = ops) := by
    rw [Hid, List.map_set, ← HYS.out];have := Zmt (ys.map Prod.fst) k (by simpa using hkl);rw [List.getElem_map] at this;exact this
   rw [hwd];obtain ⟨zs, hzs⟩ := nE (ys.set k ((ys[k]'hkl).1, Value.slice A6 na c6));rw [hzs] at K4 K5 K6;clear hwd kk hOc hne2 hne3 hzs HKB HKY HO HAR HB HBW HO6 HYS HOO HYL;go_wp2_with fail;go_roundw
   case rel => exact ⟨k + 1, zs, aw, aa, K6.out, K1.out, K2.out, K4.out, K5.out, K3.out⟩
   case measure => simp [intOf]; omega
  ·have hkn : k = n := by omega
   subst hkn;obtain ⟨x0, x1, x2, x3⟩ := Wc HKB.out;have z0 := HKY.frozen 0; have z1 := HKY.frozen 1; have z2 := HKY.frozen 2; have z3 := HKY.frozen 3;have hlz := HKY.lt;obtain ⟨q0, q1, q2, q3⟩ := Wc HKY.out;go_wp2_with fail;obtain ⟨w9, hw9⟩ := nE (Mp wr gz (.string nm) (.int .i64 dl) (.int .i64 jp) (.slice A1 k c1));have Z1 : Blk w9 gz 26 #[nm, dl, jp, .slice A1 k c1] := hw9 ▸ Zaa HKY.out _ _ _ _
   have Z2 : Wt gb w9 (.slice A1 k c1) ops := by
    rw [← hw9];refine Zik ?_ HKY.out _ _ _ _;refine ⟨ys, HYS.out, by rw [HN.out]; exact HO.out, fun x hx => ?_⟩;obtain ⟨j, hj, rfl⟩ := List.mem_iff_getElem.1 hx;have := HAR.out j hj;rwa [if_pos (by have := HYL.out; omega)] at this
   have Z3 : Below gb w w9 := hw9 ▸ Gk HB.out aa _ _ _ _;unfold Mp at hw9;rw [hw9];obtain ⟨t0, t1, t2, t3⟩ := Wc Z1;rw [HGB.out] at *;exact bodyPost_ret (v := .agg #[nm, dl, jp, .slice A1 k c1]) (by simp [results, Tryz.results93, go_sem, t0, t1, t2, t3]) rfl ⟨A1, c1, rfl, Z2, Z3⟩
end Go.Proofs.YtpkkfdmhbbipoaaGreat
