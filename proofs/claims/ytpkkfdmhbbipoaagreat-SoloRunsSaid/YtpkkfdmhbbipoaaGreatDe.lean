/- Walks: package dial: come. Walks: package dial: jump. -/
import Derived.Test.YtpkkfdmhbbipoaaGreatDd
namespace Go.Proofs.YtpkkfdmhbbipoaaGreat
set_option maxRecDepth 20000
set_option maxHeartbeats 4000000
open Go.RowKit PopT
def Mu (w : World) (g : Nat) (a b c : Value) : World := ((w.setCell ⟨g, 13, none⟩ a).setCell ⟨g, 14, none⟩ b).setCell ⟨g, 15, none⟩ c
theorem Gj (w : World) (g : Nat) (a b c : Value) : Za (fun k => k = g) w (Mu w g a b c) :=
 (Zy w g 13 a).trans ((Zy _ g 14 b).trans (Zy _ g 15 c) (fun _ h => .inl h)) (fun _ h => .inl h)
theorem Zo2 {w : World} {base n c size : Nat} {e : TypeId} {xs : List Value} {A : Option Addr} (h : w.ownsRow base e size (.slice A n c) n xs) (hA : A = none) : n = 0 ∧ c = 0 := by
 subst hA;rcases h.2 with ⟨hv, e0⟩ | ⟨g', cap, cur, hv, -⟩
 ·injection hv with _ h1 h2; exact ⟨h1, h2⟩
 ·cases hv
theorem Zne (ps : List ByteArray) (h8 : ps.length ≤ 8) (h : ∀ p ∈ ps, (Xi p).2.2 = 0) : (Uz ps).2.2 = 0 := by
 rw [Uz, if_neg aa]
 have : ∀ (l : List ByteArray) (i : Nat) (acc : List (List Zm)), (∀ p ∈ l, (Xi p).2.2 = 0) → (Vz l i acc).2.2 = 0 := by
  intro l
  induction l with
  | nil => intro i acc _; rfl
  | cons p l ih =>
   intro i acc hp;rw [Zak, if_neg (by have := hp p List.mem_cons_self; omega)];exact ih _ _ fun q hq => hp q (List.mem_cons_of_mem _ hq)
 exact this ps 0 [] h
theorem Zfo (n : Nat) (l : List Vd) (h : Wd n l = 0) : ∀ m ∈ l, m.pat.size ≤ 64 ∧ (Xi m.pat).2.2 = 0 ∧ Yh n m.tt = true := by
 induction l with
 | nil => intro m hm; simp at hm
 | cons m l ih =>
  rw [Wd] at h;by_cases hm : Zbe n m ≠ 0
  ·rw [if_pos hm] at h; exact absurd h hm
  ·rw [if_neg hm] at h
   intro q hq;rcases List.mem_cons.1 hq with rfl | hq
   ·rw [Zbe] at hm
    split at hm
    ·exact absurd ac hm
    ·split at hm
     ·rename_i h1 h2; exact absurd h2 hm
     ·split at hm
      ·exact absurd ac hm
      ·rename_i h1 h2 h3
       refine ⟨aa, aa, ?_⟩;cases hc : Yh n q.tt
       ·exact absurd hc h3
       ·rfl
   ·exact ih h q hq
theorem Zna (n : Nat) (l : List OpV) : ∀ i, (Uq n l i).2 = 0 → ∀ o ∈ l, opE n o = 0 := by
 induction l with
 | nil => intro i h o ho; simp at ho
 | cons p l ih =>
  intro i h o ho;rw [Uq] at h;by_cases hp : opE n p ≠ 0
  ·rw [if_pos hp] at h; exact absurd h hp
  ·rw [if_neg hp] at h
   rcases List.mem_cons.1 ho with rfl | ho
   ·omega
   ·exact ih _ h o ho
theorem Ku (n : Nat) (o : OpV) (h : Vp n o = 0) : o.arms.length ≤ 8 ∧ Wd n o.arms = 0 := by
 unfold Vp at h;split at h
 ·omega
 ·split at h
  ·omega
  ·split at h
   ·rename_i h1 h2 h3; exact absurd h h3
   ·exact ⟨aa, aa⟩
theorem Ma (n : Nat) (o : OpV) (h : opE n o = 0) (hk : o.kind = 2) : Vp n o = 0 := by
 unfold opE at h;rw [if_neg aa] at h;split at h
 ·omega
 ·rw [if_neg aa] at h
  first | exact h | rwa [if_pos hk] at h
theorem Vc (p : Xl) (h : (Xf p).2 = 0) : p.ops.length ≤ 200 ∧ (0 ≤ p.jumps ∧ p.jumps ≤ 1000) ∧ ∀ o ∈ p.ops, opE p.ops.length o = 0 := by
 unfold Xf at h;split at h
 ·omega
 ·split at h
  ·omega
  ·split at h
   ·omega
   ·rename_i h1 h2 h3
    refine ⟨aa, ?_, Zna _ _ 0 h⟩;by_cases hj : 0 ≤ p.jumps ∧ p.jumps ≤ 1000
    ·exact hj
    ·exact absurd (.inr hj) h2
theorem Mv (x : Zf) (h : x.op.kind ≠ 0) : x.loc < x.p.ops.length := by
 by_cases hc : x.loc < x.p.ops.length
 ·exact hc
 ·rw [Zl3 x aa] at h; exact absurd rfl h
theorem Nx (x : Zf) (h : Ys x) (hl : x.loc < x.p.ops.length) : opE x.p.ops.length x.op = 0 ∧ Zib x.op := by
 rw [Zr7 x hl];exact ⟨(Vc _ h.pgood).2.2 _ (List.getElem_mem _), h.pok.2.2.2.2 _ (List.getElem_mem _)⟩
theorem N75{P:Prop}(h:P:=by
 have ha := Zfo _ _ he.2;refine ⟨Zne _ (by rw [List.length_map]; exact he.1) fun p hp => ?_, he.1, fun m hm => (ha m hm).1⟩;obtain ⟨m, hm, rfl⟩ := List.mem_map.1 hp;exact (ha m hm).2.1):P:=h
theorem Zg7 (x : Zf) (h : Ys x) (hk : x.op.kind = 2) : (Uz (x.op.arms.map Vd.pat)).2.2 = 0 ∧ x.op.arms.length ≤ 8 ∧ ∀ m ∈ x.op.arms, m.pat.size ≤ 64 := by
 have hg := Nx x h (Mv x aa);have he := Ku _ _ (Ma _ _ hg.1 hk);exact N75
theorem Zr6 (x : Zf) (h : Ys x) : I6 x.op.n := by
 by_cases hl : x.loc < x.p.ops.length
 ·exact (Nx x h hl).2.2.2.1
 ·rw [Zl3 x aa]; exact ⟨ac, ac⟩
theorem Zmb (x : Zf) (h : Ys x) : x.op.text.size ≤ 9223372036854775807 := by
 by_cases hl : x.loc < x.p.ops.length
 ·exact (Nx x h hl).2.2.1
 ·rw [Zl3 x aa]; exact ac
theorem Ys.goes {x : Zf} (h : Ys x) {tt : Nat} (ht : tt ≤ x.p.ops.length) : Ys (x.goes tt) := by
 obtain ⟨o1, o2, o3, o4, o5, o6, o7, o8, o9, o10⟩ := h;exact ⟨o1, o2, o3, ht, o5, o6, ⟨dx, ee⟩, o8, o9, o10⟩
theorem Ys.waits {x : Zf} (h : Ys x) : Ys x.waits := by
 have hn := Zr6 x h;obtain ⟨o1, o2, o3, o4, o5, o6, o7, o8, o9, o10⟩ := h;have := Zfn x.now x.op.n ⟨aa, o10.2⟩ hn;exact ⟨o1, o2, o3, o4, o5, o6, ⟨by show -9223372036854775808 ≤ Yx x.now x.op.n; omega, this.2⟩, o8, o9, o10⟩
section
variable {B d gi gb gh gp c : Nat} {F F2 : Nat → Prop} {w0 w w' : World} {A : Option Addr} {x : Zf}
theorem Zr.turn {y : Zf} (h : Zr B F w0 w d gi gb gh gp F2 A c x) (hk : Za (fun k => k = d) w w') (hb : Blk w' d 107 (y.cells A c gi gh gp))
  (e1 : y.s = x.s) (e2 : y.p = x.p) (e3 : y.R = x.R) (e4 : y.S = x.S) (e5 : y.seen = x.seen) (e6 : y.P = x.P) (e7 : y.pd = x.pd) (hok : Ys y) : Zr B F w0 w' d gi gb gh gp F2 A c y := by
 obtain ⟨h1, h2, ⟨bs, ps, P, hbs, h3, h3'⟩, h4, h5, h6, h7, h8, h9, h10, h11, h12⟩ := h;obtain ⟨n1, n2, n3, n4, n5, n6, n7, n8, n9, n10⟩ := h9;refine ⟨hb, ?_, ⟨bs, ps, P, Nat.le_trans hbs hk.size, ?_, by rw [e6]; exact h3'⟩, ?_, by rw [e2]; exact h5, ?_, ⟨h7.1, Nat.le_trans h7.2 hk.size⟩, h8, ⟨n1, n2, n3, n4, n5, n6, n7, n8, n9, n10⟩, fun k hf => ⟨(h10 k hf).1, Nat.lt_of_lt_of_le (h10 k hf).2 hk.size⟩, by rw [e7, e1]; exact h11, hok⟩
 ·rw [e1, e3]; exact h2.keep hk (fun e => n1 e.symm) (fun e => n2 e.symm)
 ·rw [e1, e4, e5]; exact h3.keep hk (fun k hf (e : k = d) => n7 (e ▸ hf))
 ·rw [e7]; exact h4.keep hk (fun e => n3 e.symm)
 ·exact h6.trans (hk.below h6.size (fun k (e : k = d) => by rw [e]; exact Nat.le_trans h7.1 (h10 d h8.1).1))
theorem Zr.turnP {p2 : Yy} (h : Zr B F w0 w d gi gb gh gp F2 A c x) (hk : Za (fun k => k = gp) w w') (hp : Vt w' gp p2) (e : p2.out = x.pd.out) :
  Zr B F w0 w' d gi gb gh gp F2 A c ⟨x.s, x.p, x.loc, x.st, x.jumps, x.due, x.R, x.S, x.seen, x.P, p2, x.eof, x.now⟩ := by
 obtain ⟨h1, h2, ⟨bs, ps, P, hbs, h3, h3'⟩, h4, h5, h6, h7, h8, h9, h10, h11, h12⟩ := h;obtain ⟨n1, n2, n3, n4, n5, n6, n7, n8, n9, n10⟩ := h9;obtain ⟨o1, o2, o3, o4, o5, o6, o7, o8, o9, o10⟩ := h12;refine ⟨hk.blk h1 n3, h2.keep hk n4 n5, ⟨bs, ps, P, Nat.le_trans hbs hk.size, h3.keep hk (fun k hf (e : k = gp) => n10 (e ▸ hf)), h3'⟩, hp, h5, ?_, ⟨h7.1, Nat.le_trans h7.2 hk.size⟩, h8, ⟨n1, n2, n3, n4, n5, n6, n7, n8, n9, n10⟩, fun k hf => ⟨(h10 k hf).1, Nat.lt_of_lt_of_le (h10 k hf).2 hk.size⟩, e.trans h11, ⟨o1, o2, o3, o4, o5, o6, o7, o8, o9, o10⟩⟩;exact h6.trans (hk.below h6.size (fun k (e : k = gp) => by rw [e]; exact Nat.le_trans h7.1 (h10 gp h8.2.2.2.1).1))
theorem Zr.f2 (h : Zr B F w0 w d gi gb gh gp F2 A c x) : ∀ k, F2 k → B ≤ k ∧ k < w.heap.size := fun k hf => h.fin k (h.fd.2.2.2.2 k hf)
theorem N106{P:Prop}(h:P:=by
 have hs := hk.size;rintro k (hf | hf)
 ·have := h10 k hf; exact ⟨this.1, aa⟩
 ·exact ⟨aa, hf.2⟩):P:=h
theorem Zr.turnH {bs seen : Nat} {S : List UInt8} {ps : List ByteArray} {P : Option (List (List Zm))} (h : Zr B F w0 w d gi gb gh gp F2 A c x) (hk : Za F2 w w') (hbs : bs ≤ w'.heap.size) (hh : Yq bs (Fup F2 w w') w' gh x.s.win.toNat S seen ps P) :
  Zr B (Fup F w w') w0 w' d gi gb gh gp (Fup F2 w w') A c ⟨x.s, x.p, x.loc, x.st, x.jumps, x.due, x.R, S, seen, P.getD [], x.pd, x.eof, x.now⟩ := by
 have hdl := h.lt;have hil := (h.fin _ h.fd.2.1).2;have hbl := (h.fin _ h.fd.2.2.1).2;have hpl := (h.fin _ h.fd.2.2.2.1).2;have hf2 := h.f2;obtain ⟨h1, h2, ⟨bs', ps', P', hbs', h3, h3'⟩, h4, h5, h6, h7, h8, h9, h10, h11, h12⟩ := h;obtain ⟨n1, n2, n3, n4, n5, n6, n7, n8, n9, n10⟩ := h9;obtain ⟨o1, o2, o3, o4, o5, o6, o7, o8, o9, o10⟩ := h12
 have nf : ∀ k, k < w.heap.size → ¬ F2 k → ¬ Fup F2 w w' k := by
  rintro k hk1 hk2 (hk3 | hk3)
  ·exact hk2 hk3
  ·omega
 refine ⟨hk.blk h1 n7, h2.keep hk n8 n9, ⟨bs, ps, P, hbs, hh, rfl⟩, h4.keep hk n10, h5, ?_, ⟨h7.1, Nat.le_trans h7.2 hk.size⟩, ⟨.inl h8.1, .inl h8.2.1, .inl h8.2.2.1, .inl h8.2.2.2.1, ?_⟩, ⟨n1, n2, n3, n4, n5, n6, nf _ hdl n7, nf _ hil n8, nf _ hbl n9, nf _ hpl n10⟩, ?_, h11, ⟨o1, o2, o3, o4, o5, o6, o7, o8, o9, o10⟩⟩
 ·exact h6.trans (hk.below h6.size (fun k hf => Nat.le_trans h7.1 (hf2 k hf).1))
 ·rintro k (hf | hf)
  ·exact .inl (h8.2.2.2.2 k hf)
  ·exact .inr hf
 ·exact N106
theorem N76{P:Prop}(h:P:=by
 go_wp2_with fail;go_roundw
 case rel => exact ⟨i + 1, d2, A2, aa, aw, rfl, by rw [HT2.out]; simpa [Yj] using HO3.out, HB3.out⟩
 case measure => simp [intOf]; omega):P:=h
theorem Za7 (h : Zr B F w0 w d gi gb gh gp F2 A c x) (tt : Nat) (htt : tt ≤ x.p.ops.length) : Calls Tryz.prog 99 #[.pointer (some ⟨d, 0, none⟩), (tt : Int)] w fun e w' => e = .returned (.tuple #[]) ∧ Zl B (Fup F w w') w0 w' d (x.come tt) ∧ Za F w w' := by
 have HD := hid h;have HOKY := hid (h.ok.goes htt);have HBASE : Hid (B ≤ w.heap.size) := h.base.2;have CR : Hid (∀ W, Calls Tryz.prog 140 #[.agg #[x.due.til, x.due.lim, x.due.cut]] W fun e w' => e = .returned (.agg #[.int .i64 9223372036854775807, x.due.lim, x.due.cut]) ∧ Below W.heap.size W w') := fun W => Zju x.due W
 have CW : Hid (∀ W n, I6 n → Calls Tryz.prog 143 #[.agg #[.int .i64 9223372036854775807, x.due.lim, x.due.cut], x.now, .int .i64 n] W fun e w' => e = .returned (.agg #[.int .i64 (Yx x.now n), x.due.lim, x.due.cut]) ∧ Below W.heap.size W w') :=
  fun W n hn => Zjt ⟨9223372036854775807, x.due.lim, x.due.cut⟩ x.now n W ⟨by have := HD.ok.now; omega, HD.ok.now.2⟩ hn
 obtain ⟨wa, hwa⟩ := nE (w.setCell ⟨d, 10, none⟩ (.int .i64 (tt : Int)));have HBA : Hid (Blk wa d 107 ((x.cells A c gi gh gp).setIfInBounds 10 (.int .i64 (tt : Int)))) := hwa ▸ h.blk.set 10 _;have HKA : Hid (Za (fun k => k = d) w wa) := hwa ▸ Zy _ _ _ _;have HW := hid hwa;clear hwa;have c10 : w.cell? ⟨d, 10, none⟩ = some (.int .i64 (x.loc : Int)) := h.cell 10;have y10 := h.blk.frozen 10;have hl := h.lt;have c13 : wa.cell? ⟨d, 13, none⟩ = some (.int .i64 x.due.til) := HBA.cell 13;have c14 : wa.cell? ⟨d, 14, none⟩ = some (.int .i64 x.due.lim) := HBA.cell 14;have c15 : wa.cell? ⟨d, 15, none⟩ = some (.int .i64 x.due.cut) := HBA.cell 15;have hla := HBA.lt;obtain ⟨t1, ht1⟩ := nE (x.due.til);obtain ⟨t2, ht2⟩ := nE (x.due.lim);obtain ⟨t3, ht3⟩ := nE (x.due.cut);obtain ⟨now, hnow⟩ := nE (x.now);have HT := hid (And.intro ht1 (And.intro ht2 (And.intro ht3 hnow)));rw [ht1] at c13 CR;rw [ht2] at c14 CR CW;rw [ht3] at c15 CR CW;rw [hnow] at CW;clear h ht1 ht2 ht3 hnow;go_enter Tryz.func99, Tryz.ntmps99;go_upto_region 1 with fail;rw [HW.out];clear c10 y10 hl;go_wp2_with fail;refine (CR.out _).mono ?_;rintro en wb ⟨rfl, hb⟩;have HBB := hid (HBA.below hb hla);have HKB : Hid (Za (fun k => k = d) w wb) := hid (HKA.trans (Za.of_below (F := fun k => k = d) hb) (fun _ h => .inl h));clear hb CR c13 c14 c15 hla;have z13 : wb.cell? ⟨d, 13, none⟩ = some (.int .i64 t1) := by rw [← HT.1]; exact HBB.cell 13
 have z14 : wb.cell? ⟨d, 14, none⟩ = some (.int .i64 t2) := by rw [← HT.2.1]; exact HBB.cell 14
 have z15 : wb.cell? ⟨d, 15, none⟩ = some (.int .i64 t3) := by rw [← HT.2.2.1]; exact HBB.cell 15
 have y13 := HBB.frozen 13; have y14 := HBB.frozen 14; have y15 := HBB.frozen 15;have hlb := HBB.lt;go_upto_region 2 with fail;obtain ⟨wc, hwc⟩ := nE (Mu wb d (.int .i64 9223372036854775807) (.int .i64 t2) (.int .i64 t3));have HKC : Hid (Za (fun k => k = d) w wc) := hwc ▸ HKB.trans (Gj _ _ _ _ _) (fun _ h => .inl h)
 have HBC : Hid (Blk wc d 107 ((x.goes tt).cells A c gi gh gp)) := by
  rw [← hwc, Hid, ← HT.2.1, ← HT.2.2.1];exact ((HBB.set 13 _).set 14 _).set 15 _
 unfold Mu at hwc;rw [hwc];clear hwc z13 z14 z15 y13 y14 y15 hlb HBB HKB HBA HKA;have DY : Hid (Zr B F w0 wc d gi gb gh gp F2 A c (x.goes tt)) := HD.turn HKC.out HBC.out rfl rfl rfl rfl rfl rfl rfl HOKY.out;have HKF : Hid (Za F w wc) := HKC.mono (fun k _ hk => by rw [hk]; exact HD.fd.1);have HXY : Hid (x.come tt = (x.goes tt).enters ∧ (x.goes tt).s = x.s ∧ (x.goes tt).due = ⟨9223372036854775807, t2, t3⟩ ∧ (x.goes tt).now = now) := ⟨rfl, rfl, by rw [← HT.2.1, ← HT.2.2.1]; rfl, HT.2.2.2⟩;have HLW : Hid (w.heap.size ≤ wc.heap.size) := HKC.size;clear HBC HKC HD HW;have co := Zme DY.out;obtain ⟨y, hy⟩ := nE (x.goes tt);rw [hy] at DY HXY HOKY co;clear hy;obtain ⟨o, ho⟩ := nE (y.op);have HO := hid ho;rw [ho] at co;clear ho;obtain ⟨k, tx, nn, tj, arms, oT, oE⟩ := o;have CO : Hid (Calls Tryz.prog 82 #[.pointer (some ⟨d, 0, none⟩)] wc fun e w' => ∃ v, e = .returned (.agg #[k, tx, nn, tj, v, oT, oE]) ∧ Xj w' ⟨k, tx, nn, tj, arms, oT, oE⟩ v ∧ Below wc.heap.size wc w') := co;have HNN : Hid (I6 nn) := by have := Zr6 y HOKY.out; rw [HO.out] at this; exact this
 have HTX : Hid (tx.size ≤ 9223372036854775807) := by have := Zmb y HOKY.out; rw [HO.out] at this; exact this
 clear co;go_wp2_with fail;refine CO.mono ?_;rintro en wd ⟨v, rfl, harm, hbd⟩;obtain ⟨Av, cv, rfl, har⟩ := harm;obtain ⟨na, hna⟩ := nE (arms.length);have HNA := hid hna;have hav : (Value.slice Av (OpV.mk k tx nn tj arms oT oE).arms.length cv) = .slice Av na cv := by rw [← hna]
 rw [hav];have HAR : Hid (Rd wd Av (Zz arms)) := har;clear CO hav har hna;go_upto_region 3 with fail;obtain ⟨we, hwe⟩ := nE (wd.alloc (.cells #[k, tx, nn, tj, .slice Av na cv, oT, oE] 56));have HBE : Hid (Below wc.heap.size wc we) := hwe ▸ hbd.alloc hbd.size _;have HARE : Hid (Rd we Av (Zz arms)) := hwe ▸ HAR.below ((Below.refl _ _).alloc (Nat.le_refl _) _);have HOB := bn hwe;rw [hwe];clear hwe HAR;obtain ⟨g4, hg4⟩ := nE (wd.heap.size);have hg4c : wc.heap.size ≤ g4 := hg4 ▸ hbd.size;rw [hg4] at HOB ⊢;clear hg4 hbd;have DE : Hid (Zr B F w0 we d gi gb gh gp F2 A c y) := DY.below HBE.out;have HKE : Hid (Za F w we) := HKF.trans (Za.of_below (F := F) HBE.out) (fun _ h => .inl h);have HF2 : Hid (∀ k, F2 k → k < wc.heap.size) := fun k hk => (DY.f2 k hk).2;clear HKF DY;obtain ⟨q0, q1, q2, q3, q4, q5, q6⟩ := Qo HOB.out;have hle := HOB.lt;have HLE : Hid (w.heap.size ≤ we.heap.size) := Nat.le_trans HLW.out HBE.size;have hdl := DE.lt;have d18 : we.cell? ⟨d, 18, none⟩ = some (.pointer (some ⟨gp, 0, none⟩)) := DE.cell 18;have d17 : we.cell? ⟨d, 17, none⟩ = some (.pointer (some ⟨gh, 0, none⟩)) := DE.cell 17
 have FIN : Hid (∀ (F' : Nat → Prop) W (z : Zf), we.heap.size ≤ W.heap.size → Za F we W → (∃ F2', Zr B F' w0 W d gi gb gh gp F2' A c z) → (∀ k, F' k → Fup F we W k) → Zl B (Fup F w W) w0 W d z ∧ Za F w W) := by
  intro F' W z hs hk ⟨F2', hz⟩ hf;refine ⟨⟨gi, gb, gh, gp, F2', A, c, hz.mono (fun k hk' => ?_) ?_⟩, HKE.trans hk (fun _ h => .inl h)⟩
  ·rcases hf k hk' with h | h
   ·exact .inl h
   ·exact .inr ⟨Nat.le_trans HLE.out h.1, h.2⟩
  ·rintro k (h | h)
   ·have := DE.fin k h; exact ⟨this.1, aa⟩
   ·exact ⟨by have := DE.base.2; have h1 := HBE.size; have h2 := HLW.out; have h3 := HBASE.out; omega, h.2⟩
 by_cases hk1 : k = 1
 ·subst hk1
  have HE : Hid (x.come tt = y.writes) := by rw [Hid, HXY.1]; unfold Zf.enters; rw [HO.out]; exact if_pos rfl
  have CP := hid (fun W (hb : Below we.heap.size we W) => Zjg gp y.pd tx W (DE.pend.below hb) HTX.out);go_upto_region 5 with fail;have T1 : ∀ q : BW we.heap.size we, q.1.cell? ⟨d, 18, none⟩ = some (.pointer (some ⟨gp, 0, none⟩)) := fun q => q.cellAt hdl d18;have T2 : ∀ q : BW we.heap.size we, q.1.cell? ⟨g4, 1, none⟩ = some (.string tx) := fun q => q.cellAt hle q1;clear d17 d18 q0 q1 q2 q3 q4 q5 q6;refine Zg we.heap.size [6] (.val 0 (.val 1 (.val 2 (.val 3 (.val 4 (.val 5 (.op 6 (.nil)))))))) ab ab ?_;obtain ⟨wx, hwx, HBW⟩ := dw we;rw [hwx];clear hwx
  iterate 6 ((first | refine Zd rfl rfl ?_ | refine Zw rfl rfl (Xp HBW.out) ?_); go_big_quiet_step (fail); refine wpQuiet_nil ?_)
  refine Ze rfl ?_;go_wp2_with fail;refine (CP.out wx HBW.out).mono ?_;rintro en wp ⟨rfl, hp1, hkp⟩;have HPN := hid hp1;have HBX := hid HBW.out;clear hp1 CP T1 T2;go_wp2_with fail;refine KT.past rfl ?_;refine Zi ?_;go_wp2_with fail
  try go_end0
  have hf := FIN.out _ _ y.writes (Nat.le_trans HBX.size hkp.size) ((Za.of_below (F := F) HBX.out).trans (hkp.mono (fun k _ (e : k = gp) => by rw [e]; exact DE.fd.2.2.2.1) : Za F wx wp) (fun _ h => .inl h)) ⟨F2, by have := (DE.below HBX.out).turnP hkp HPN.out rfl; have e : y.writes = ⟨y.s, y.p, y.loc, y.st, y.jumps, y.due, y.R, y.S, y.seen, y.P, y.pd.begin tx, y.eof, y.now⟩ := (by unfold Zf.writes; rw [HO.out]); rw [e]; exact this⟩ (fun k hk => .inl hk);rw [HE.out];exact ⟨rfl, hf.1, hf.2⟩
 have hk1f := bF hk1;have HK1 := hid hk1;clear hk1;by_cases hk2 : k = 2
 ·subst hk2
  have HA := Zg7 y HOKY.out (by rw [HO.out]);rw [HO.out] at HA;have HAH : Hid ((Uz (arms.map Vd.pat)).2.2 = 0 ∧ arms.length ≤ 8 ∧ ∀ m ∈ arms, m.pat.size ≤ 64) := HA;have hna8 : na ≤ 8 := by rw [← HNA.out]; exact HAH.2.1
  clear HA;have HE : Hid (x.come tt = y.hears.waits) := by rw [Hid, HXY.1]; unfold Zf.enters; rw [HO.out]; rw [if_neg (show ¬ (2 : Int) = 1 by decide), if_pos rfl]
  go_wp2_with fail
  go_loopw [5, 38] (fun v iv wr => ∃ (i c' : Nat) (A' : Option Addr), i ≤ na ∧ iv = .int .i64 (i : Int) ∧ v = .slice A' i c' ∧ wr.ownsRow we.heap.size 9 1 (.slice A' i c') i (Yj ((arms.take i).map Vd.pat)) ∧ Below we.heap.size we wr) (fun _ iv _ => na - (intOf iv).toNat)
  case atStart => exact ⟨0, 0, none, aa, rfl, rfl, World.ownsRow_nil _ _ _ _, Below.refl _ _⟩
  case round =>
   obtain ⟨i, c', A', hi, rfl, rfl, hown, hb⟩ := hrel;have HB := hid hb;have hsz := HB.size;clear hb q0 q1 q2 q3 q4 q5 q6 hle hdl d18 d17;by_cases hlt : i < na
   ·have HK : Hid (i < arms.length) := by rw [Hid, HNA.out]; exact hlt
    obtain ⟨b1, off1, rfl, hbl, hc⟩ := (HARE.below HB.out).at (by rw [Xs, HNA.out]; omega);obtain ⟨e0, e1⟩ := Zbu hc i HK.out
    have HT2 : Hid ((arms.take (i + 1)).map Vd.pat = (arms.take i).map Vd.pat ++ [(arms[i]'HK.out).pat]) := by
     rw [Hid, List.take_succ_eq_append_getElem HK.out, List.map_append]; rfl
    obtain ⟨⟨pa, ta⟩, hx⟩ : ∃ x, arms[i]'HK.out = x := ⟨_, rfl⟩;rw [hx] at e0 e1 HT2;simp only at e0 e1;clear hx hc;go_upto_region 11 with fail;obtain ⟨wx, hwx⟩ := nE (wr.alloc (.cells #[pa, ta] 99));have HBX : Hid (Below we.heap.size we wx) := hwx ▸ HB.alloc HB.size _;have HAX := bn hwx;have hown2 : wx.ownsRow we.heap.size 9 1 (.slice A' i c') i (Yj ((arms.take i).map Vd.pat)) := hwx ▸ Yc hown ((Below.refl _ _).alloc (Nat.le_refl _) _);rw [hwx];clear hwx e0 e1 hbl hown;obtain ⟨ga, hga⟩ := nE (wr.heap.size);rw [hga] at HAX ⊢;clear hga hsz;obtain ⟨a0, a1⟩ := Zl4 HAX.out;have hal := HAX.lt;have hsx := HBX.size;go_wp2_with (at_builtin; refine Wn _ rfl _ _ 158 rfl we.heap.size 9 _ 1 16 Tryz.underlying158 Mg rfl ac _ _ _ rfl hown2 1 [pa] rfl rfl rfl ?_ ac hsx ?_)
    ·omega
    intro A2 d2 w3 hown3 hg3;have HB3 := hid (Wo HBX.out hown2 hg3 (Nat.le_refl _) hsx);have HO3 := hid hown3;clear hown2 hg3 hown3 a0 a1 hal hsx HB HBX HAX;exact N76
   ·have HPS : Hid ((arms.take i).map Vd.pat = arms.map Vd.pat ∧ (arms.map Vd.pat).length = i) := ⟨by rw [List.take_of_length_le (by rw [HNA.out]; omega)], by rw [List.length_map, HNA.out]; omega⟩
    rw [HPS.1] at hown;have HDG : Hid (Zr B F w0 wr d gi gb gh gp F2 A c y) := DE.below HB.out;obtain ⟨bs, ps0, P0, hbs, hh, hP⟩ := HDG.hold;have cb := Zjp bs gh y.s.win.toNat y.seen F2 y.S ps0 P0 A' i c' (arms.map Vd.pat) wr hh HPS.2 aa (fun p hp => by obtain ⟨m, hm, rfl⟩ := List.mem_map.1 hp; have := HAH.2.2 m hm; omega) (Xw hown) (Zo2 hown) hbs;have HBS := hid hbs
    have CB : Hid (Calls Tryz.prog 142 #[.pointer (some ⟨gh, 0, none⟩), .slice A' i c'] wr fun e w' => e = .returned (.int .i64 0) ∧ Yq bs (Fup F2 wr w') w' gh y.s.win.toNat y.S 0 (arms.map Vd.pat) (some (Uz (arms.map Vd.pat)).1) ∧ Za F2 wr w') :=
     cb.mono (fun e w' hc => ⟨by rw [hc.1, HAH.1]; rfl, hc.2.2.1 HAH.1, hc.2.2.2⟩)
    have d17 : wr.cell? ⟨d, 17, none⟩ = some (.pointer (some ⟨gh, 0, none⟩)) := HDG.cell 17;have hdl := HDG.lt;clear cb hh hP hbs hown;go_wp2_with fail;refine CB.mono ?_;rintro en wh ⟨rfl, hh2, hkh⟩
    have DH : Hid (Zr B (Fup F wr wh) w0 wh d gi gb gh gp (Fup F2 wr wh) A c y.hears) := by
     have := HDG.turnH hkh (Nat.le_trans HBS.out hkh.size) hh2;have e : y.hears = ⟨y.s, y.p, y.loc, y.st, y.jumps, y.due, y.R, y.S, 0, (Uz (arms.map Vd.pat)).1, y.pd, y.eof, y.now⟩ := by unfold Zf.hears; rw [HO.out]
     rw [Hid, e]; exact this
    have HKH : Hid (Za F we wh) := (Za.of_below (F := F) HB.out).trans (hkh.mono (fun k _ hk => DE.fd.2.2.2.2 k hk) : Za F wr wh) (fun _ h => .inl h)
    have HOH : Hid (Blk wh g4 56 #[.int .i64 2, tx, nn, tj, .slice Av na cv, oT, oE]) :=
     hkh.blk (HOB.below HB.out HOB.lt) (fun hf => by have := HF2.out _ hf; omega)
    have HSZ : Hid (we.heap.size ≤ wr.heap.size ∧ wr.heap.size ≤ wh.heap.size) := ⟨HB.size, hkh.size⟩;clear hh2 hkh d17 hdl CB;go_upto_region 14 with fail;have p13 : wh.cell? ⟨d, 13, none⟩ = some (.int .i64 9223372036854775807) := by rw [DH.cell 13]; show some (Value.int .i64 y.due.til) = _; rw [HXY.2.2.1]
    have p14 : wh.cell? ⟨d, 14, none⟩ = some (.int .i64 t2) := by rw [DH.cell 14]; show some (Value.int .i64 y.due.lim) = _; rw [HXY.2.2.1]
    have p15 : wh.cell? ⟨d, 15, none⟩ = some (.int .i64 t3) := by rw [DH.cell 15]; show some (Value.int .i64 y.due.cut) = _; rw [HXY.2.2.1]
    have p20 : wh.cell? ⟨d, 20, none⟩ = some (.int .i64 now) := by rw [DH.cell 20]; show some (Value.int .i64 y.now) = _; rw [HXY.2.2.2]
    have o2 := cA HOH.out 2 nn rfl;have hdl := DH.lt;have hle := HOH.lt;have T1 : ∀ q : BW wh.heap.size wh, q.1.cell? ⟨d, 13, none⟩ = some (.int .i64 9223372036854775807) := fun q => q.cellAt hdl p13;have T2 : ∀ q : BW wh.heap.size wh, q.1.cell? ⟨d, 14, none⟩ = some (.int .i64 t2) := fun q => q.cellAt hdl p14;have T3 : ∀ q : BW wh.heap.size wh, q.1.cell? ⟨d, 15, none⟩ = some (.int .i64 t3) := fun q => q.cellAt hdl p15;have T4 : ∀ q : BW wh.heap.size wh, q.1.cell? ⟨d, 20, none⟩ = some (.int .i64 now) := fun q => q.cellAt hdl p20;have T5 : ∀ q : BW wh.heap.size wh, q.1.cell? ⟨g4, 2, none⟩ = some (.int .i64 nn) := fun q => q.cellAt hle o2;clear p13 p14 p15 p20 o2;refine Zg wh.heap.size [14] (.val 0 (.val 1 (.val 2 (.val 3 (.val 4 (.val 5 (.val 6 (.val 7 (.val 8 (.val 9 (.val 10 (.op 11 (.val 12 (.val 13 (.op 14 (.nil)))))))))))))))) ab ab ?_;obtain ⟨wx, hwx, HBW⟩ := dw wh;rw [hwx];clear hwx
    iterate 11 ((first | refine Zd rfl rfl ?_ | refine Zw rfl rfl (Xp HBW.out) ?_); go_big_quiet_step (fail); refine wpQuiet_nil ?_)
    refine Ze rfl ?_;go_wp2_with fail;refine (CW.out _ _ HNN.out).mono ?_;rintro en wq ⟨rfl, hbq⟩;replace HBW := hid (HBW.trans (hbq.mono HBW.size));clear hbq;have HBQ : Hid (Below wh.heap.size wh wq) := HBW.out;have HKQ := hid (DH.blk.below HBQ.out DH.lt);have z13 : wq.cell? ⟨d, 13, none⟩ = some (.int .i64 9223372036854775807) := js
    have z14 : wq.cell? ⟨d, 14, none⟩ = some (.int .i64 t2) := jr
    have z15 : wq.cell? ⟨d, 15, none⟩ = some (.int .i64 t3) := jq
    have y13 := HKQ.frozen 13; have y14 := HKQ.frozen 14; have y15 := HKQ.frozen 15;have hlq := HKQ.lt;clear T1 T2 T3 T4 T5;go_wp2_with fail;refine KT.keep (Xp HBW.out) ?_
    iterate 2 (refine Zd rfl rfl ?_; go_big_quiet_step (fail); refine wpQuiet_nil ?_)
    refine Ze rfl ?_;go_wp2_with fail;refine KT.past rfl ?_;refine Zi ?_;go_wp2_with fail;obtain ⟨wz, hwz⟩ := nE (Mu wq d (.int .i64 (Yx now nn)) (.int .i64 t2) (.int .i64 t3));have KZ : Za (fun k => k = d) wq wz := hwz ▸ Gj _ _ _ _ _;have E : Yx y.hears.now y.hears.op.n = Yx now nn ∧ y.hears.due.lim = t2 ∧ y.hears.due.cut = t3 := ⟨by show Yx y.now y.op.n = _; rw [HXY.2.2.2, HO.out], by show y.due.lim = _; rw [HXY.2.2.1], by show y.due.cut = _; rw [HXY.2.2.1]⟩;have BZ : Blk wz d 107 (y.hears.waits.cells A c gi gh gp) := gu
    unfold Mu at hwz;rw [hwz]
    try go_end0
    have DQ := (DH.below HBQ.out).turn KZ BZ rfl rfl rfl rfl rfl rfl rfl DH.ok.waits;have hz1 := HBQ.size;have hz2 := KZ.size;have hf := FIN.out _ wz y.hears.waits (by have := HSZ.out; omega) ((HKH.trans (Za.of_below (F := F) HBQ.out) (fun _ h => .inl h)).trans (KZ.mono (fun k _ (e : k = d) => by rw [e]; exact DE.fd.1) : Za F wq wz) (fun _ h => .inl h)) ⟨_, DQ⟩ (fun k hk => hk.imp id (fun h => ⟨Nat.le_trans HSZ.1 h.1, aa⟩));rw [HE.out];exact ⟨rfl, hf.1, hf.2⟩
 have hk2f := bF hk2;have HK2 := hid hk2;clear hk2;by_cases hk4 : k = 4
 ·subst hk4
  have HE : Hid (x.come tt = y.waits) := by rw [Hid, HXY.1]; unfold Zf.enters; rw [HO.out]; rw [if_neg (show ¬ (4 : Int) = 1 by decide), if_neg (show ¬ (4 : Int) = 2 by decide), if_pos rfl]
  go_upto_region 16 with fail;have p13 : we.cell? ⟨d, 13, none⟩ = some (.int .i64 9223372036854775807) := by rw [DE.cell 13]; show some (Value.int .i64 y.due.til) = _; rw [HXY.2.2.1]
  have p14 : we.cell? ⟨d, 14, none⟩ = some (.int .i64 t2) := by rw [DE.cell 14]; show some (Value.int .i64 y.due.lim) = _; rw [HXY.2.2.1]
  have p15 : we.cell? ⟨d, 15, none⟩ = some (.int .i64 t3) := by rw [DE.cell 15]; show some (Value.int .i64 y.due.cut) = _; rw [HXY.2.2.1]
  have p20 : we.cell? ⟨d, 20, none⟩ = some (.int .i64 now) := by rw [DE.cell 20]; show some (Value.int .i64 y.now) = _; rw [HXY.2.2.2]
  have T1 : ∀ q : BW we.heap.size we, q.1.cell? ⟨d, 13, none⟩ = some (.int .i64 9223372036854775807) := fun q => q.cellAt hdl p13;have T2 : ∀ q : BW we.heap.size we, q.1.cell? ⟨d, 14, none⟩ = some (.int .i64 t2) := fun q => q.cellAt hdl p14;have T3 : ∀ q : BW we.heap.size we, q.1.cell? ⟨d, 15, none⟩ = some (.int .i64 t3) := fun q => q.cellAt hdl p15;have T4 : ∀ q : BW we.heap.size we, q.1.cell? ⟨d, 20, none⟩ = some (.int .i64 now) := fun q => q.cellAt hdl p20;have T5 : ∀ q : BW we.heap.size we, q.1.cell? ⟨g4, 2, none⟩ = some (.int .i64 nn) := fun q => q.cellAt hle q2;clear d17 d18 q0 q1 q2 q3 q4 q5 q6 p13 p14 p15 p20;refine Zg we.heap.size [14] (.val 0 (.val 1 (.val 2 (.val 3 (.val 4 (.val 5 (.val 6 (.val 7 (.val 8 (.val 9 (.val 10 (.op 11 (.val 12 (.val 13 (.op 14 (.nil)))))))))))))))) ab ab ?_;obtain ⟨wx, hwx, HBW⟩ := dw we;rw [hwx];clear hwx
  iterate 11 ((first | refine Zd rfl rfl ?_ | refine Zw rfl rfl (Xp HBW.out) ?_); go_big_quiet_step (fail); refine wpQuiet_nil ?_)
  refine Ze rfl ?_;go_wp2_with fail;refine (CW.out _ _ HNN.out).mono ?_;rintro en wq ⟨rfl, hbq⟩;replace HBW := hid (HBW.trans (hbq.mono HBW.size));clear hbq;have HBQ : Hid (Below we.heap.size we wq) := HBW.out;have HKQ := hid (DE.blk.below HBQ.out DE.lt);have z13 : wq.cell? ⟨d, 13, none⟩ = some (.int .i64 9223372036854775807) := js
  have z14 : wq.cell? ⟨d, 14, none⟩ = some (.int .i64 t2) := jr
  have z15 : wq.cell? ⟨d, 15, none⟩ = some (.int .i64 t3) := jq
  have y13 := HKQ.frozen 13; have y14 := HKQ.frozen 14; have y15 := HKQ.frozen 15;have hlq := HKQ.lt;clear T1 T2 T3 T4 T5;go_wp2_with fail;refine KT.keep (Xp HBW.out) ?_
  iterate 2 (refine Zd rfl rfl ?_; go_big_quiet_step (fail); refine wpQuiet_nil ?_)
  refine Ze rfl ?_;go_wp2_with fail;refine KT.past rfl ?_;refine Zi ?_;go_wp2_with fail;obtain ⟨wz, hwz⟩ := nE (Mu wq d (.int .i64 (Yx now nn)) (.int .i64 t2) (.int .i64 t3));have KZ : Za (fun k => k = d) wq wz := hwz ▸ Gj _ _ _ _ _;have E : Yx y.now y.op.n = Yx now nn ∧ y.due.lim = t2 ∧ y.due.cut = t3 := ⟨by show Yx y.now y.op.n = _; rw [HXY.2.2.2, HO.out], by show y.due.lim = _; rw [HXY.2.2.1], by show y.due.cut = _; rw [HXY.2.2.1]⟩;have BZ : Blk wz d 107 (y.waits.cells A c gi gh gp) := gu
  unfold Mu at hwz;rw [hwz]
  try go_end0
  have DQ := (DE.below HBQ.out).turn KZ BZ rfl rfl rfl rfl rfl rfl rfl DE.ok.waits;have hf := FIN.out F wz y.waits (Nat.le_trans HBQ.size KZ.size) ((Za.of_below (F := F) HBQ.out).trans (KZ.mono (fun k _ (e : k = d) => by rw [e]; exact DE.fd.1) : Za F wq wz) (fun _ h => .inl h)) ⟨F2, DQ⟩ (fun k hk => .inl hk);rw [HE.out];exact ⟨rfl, hf.1, hf.2⟩
 have hk4f := bF hk4;have HE : Hid (x.come tt = y) := by rw [Hid, HXY.1]; unfold Zf.enters; rw [HO.out]; rw [if_neg HK1.out, if_neg HK2.out, if_neg hk4]
 clear hk4;go_wp2_with fail
 try go_end0
 have hf := FIN.out F we y (Nat.le_refl _) (Za.refl F we) ⟨F2, DE.out⟩ (fun k hk => .inl hk);rw [HE.out];exact ⟨rfl, hf.1, hf.2⟩
end
def Yw (w : World) (g : Nat) (a b c d e f : Value) : World := (((((w.setCell ⟨g, 0, none⟩ a).setCell ⟨g, 1, none⟩ b).setCell ⟨g, 2, none⟩ c).setCell ⟨g, 3, none⟩ d).setCell ⟨g, 4, none⟩ e).setCell ⟨g, 5, none⟩ f
theorem Yr {w : World} {g : Nat} {t : TypeId} {x0 x1 x2 x3 x4 x5 : Value} (h : Blk w g t #[x0, x1, x2, x3, x4, x5]) (a b c d e f : Value) : Blk (Yw w g a b c d e f) g t #[a, b, c, d, e, f] := by
 have h0 : Blk _ g t #[a, x1, x2, x3, x4, x5] := h.set 0 a;have h1 : Blk _ g t #[a, b, x2, x3, x4, x5] := h0.set 1 b;have h2 : Blk _ g t #[a, b, c, x3, x4, x5] := h1.set 2 c;have h3 : Blk _ g t #[a, b, c, d, x4, x5] := h2.set 3 d;have h4 : Blk _ g t #[a, b, c, d, e, x5] := h3.set 4 e;exact h4.set 5 f
theorem Yg (w : World) (g : Nat) (a b c d e f : Value) : Za (fun k => k = g) w (Yw w g a b c d e f) :=
 (Zy w g 0 a).trans ((Zy _ g 1 b).trans ((Zy _ g 2 c).trans ((Zy _ g 3 d).trans ((Zy _ g 4 e).trans (Zy _ g 5 f) (fun _ h => .inl h)) (fun _ h => .inl h)) (fun _ h => .inl h)) (fun _ h => .inl h)) (fun _ h => .inl h)
theorem Yk {w : World} {g : Nat} {t : TypeId} {x0 x1 x2 x3 x4 x5 : Value} (h : Blk w g t #[x0, x1, x2, x3, x4, x5]) : w.cell? ⟨g, 0, none⟩ = some x0 ∧ w.cell? ⟨g, 1, none⟩ = some x1 ∧ w.cell? ⟨g, 2, none⟩ = some x2 ∧ w.cell? ⟨g, 3, none⟩ = some x3 ∧ w.cell? ⟨g, 4, none⟩ = some x4 ∧ w.cell? ⟨g, 5, none⟩ = some x5 :=
 ⟨h.cell 0, h.cell 1, h.cell 2, h.cell 3, h.cell 4, h.cell 5⟩
section
variable {B d gi gb gh gp c : Nat} {F F2 : Nat → Prop} {w0 w w' : World} {A : Option Addr} {x : Zf}
theorem Zl.mono {G : Nat → Prop} (h : Zl B F w0 w d x) (hg : ∀ k, F k → G k) (hG : ∀ k, G k → B ≤ k ∧ k < w.heap.size) : Zl B G w0 w d x := by
 obtain ⟨gi, gb, gh, gp, F2, A, c, h⟩ := h;exact ⟨gi, gb, gh, gp, F2, A, c, h.mono hg hG⟩
theorem Zl.lt (h : Zl B F w0 w d x) : d < w.heap.size := by obtain ⟨gi, gb, gh, gp, F2, A, c, h⟩ := h; exact h.lt
theorem Zl.wrap {G : Nat → Prop} {wa w1 w2 : World} (h : Zl B (Fup F wa w1) w0 w1 d x) (hF : ∀ k, F k → B ≤ k ∧ k < w.heap.size) (hB : B ≤ w.heap.size) (h1 : w.heap.size ≤ wa.heap.size) (hk : Za G w1 w2) (hG : ∀ k, G k → w.heap.size ≤ k ∧ k < wa.heap.size) : Zl B (Fup F w w2) w0 w2 d x := by
 refine (h.keep hk ?_ (fun k hg => Nat.le_trans hB (hG k hg).1)).mono ?_ ?_
 ·rintro k (hf | hf) hg
  ·have := hF k hf; have := hG k hg; omega
  ·have := hG k hg; omega
 ·rintro k (hf | hf)
  ·exact .inl hf
  ·exact .inr ⟨Nat.le_trans h1 hf.1, Nat.lt_of_lt_of_le hf.2 hk.size⟩
 ·have := hk.size
  rintro k (hf | hf)
  ·have h2 := hF k hf; have h3 := h.lt
   refine ⟨h2.1, ?_⟩;obtain ⟨gi, gb, gh, gp, F2, A, c, h⟩ := h;have := (h.fin k (.inl hf)).2; omega
  ·exact ⟨Nat.le_trans hB hf.1, hf.2⟩
theorem Ys.hop (h : Ys x) (hj : x.jumps < 1000) : Ys x.hop := by
 obtain ⟨o1, o2, o3, o4, o5, o6, o7, o8, o9, o10⟩ := h;exact ⟨o1, o2, o3, o4, o5, by show x.jumps + 1 ≤ 2000; omega, o7, o8, o9, o10⟩
theorem N115{P:Prop}(h:P:=by
 have := HF.out k hf; exact ⟨this.1, by have := HBA.size; have := HKV.size; have := hk1.size; omega⟩):P:=h
theorem N57{P:Prop}(h:P:=by
 refine bodyPost_ret (v := .agg #[vt, (vl : Int), (vw : Int), (va : Int), (vn : Int), (vs : Int)]) kv rfl ⟨?_, ?_, hf.2⟩
 ·rw [HR.out]; try rfl
 ·rw [HR.out]; exact hf.1):P:=h
theorem Za6 (h : Zr B F w0 w d gi gb gh gp F2 A c x) (v : Qa) (tt : Int) (htt : tt ≤ (x.p.ops.length : Int)) : Calls Tryz.prog 115 #[.pointer (some ⟨d, 0, none⟩), v.val, tt] w fun e w' => e = .returned (Qa.val ⟨v.tick, v.loc, (x.jump v.what tt).2, v.arm, v.n, v.st⟩) ∧ Zl B (Fup F w w') w0 w' d (x.jump v.what tt).1 ∧ Za F w w' := by
 obtain ⟨vt, vl, vw, va, vn, vs⟩ := v;unfold Qa.val;have HF : Hid (∀ k, F k → B ≤ k ∧ k < w.heap.size) := h.fin;have HBW : Hid (B ≤ w.heap.size) := h.base.2;obtain ⟨wa, hwa⟩ := nE ((w.alloc (.cells #[vt, (vl : Int), (vw : Int), (va : Int), (vn : Int), (vs : Int)] 51)).alloc (.cells zs 51));have HBA : Hid (Below w.heap.size w wa) := hwa ▸ Uu _ _ _;have HXA : Hid (Blk wa w.heap.size 51 #[vt, (vl : Int), (vw : Int), (va : Int), (vn : Int), (vs : Int)]) := hwa ▸ (Blk.new w _ _).alloc _;have HRA : Hid (Blk wa (w.heap.size + 1) 51 zs) := hwa ▸ Gz _ _ _ _;have HSA : Hid (wa.heap.size = w.heap.size + 2) := by rw [← hwa, Hid]; simp
 have HWA := hid hwa;have HD := hid h;have HDA := hid (h.below HBA.out);clear hwa h;obtain ⟨gx, hgx⟩ := nE (w.heap.size);have HGX := hid hgx;have HG1 : Hid (w.heap.size + 1 = gx + 1) := by rw [hgx]; rfl
 rw [hgx] at HXA HRA HSA;obtain ⟨gr, hgr⟩ := nE (gx + 1);have HGR := hid hgr;rw [hgr] at HRA
 -- what follows a call that leaves the dialogue
 have TAIL : Hid (∀ (w1 w2 : World) (y : Zf) (G : Nat → Prop), Zl B (Fup F wa w1) w0 w1 d y → Za F wa w1 → Za G w1 w2 → (∀ k, G k → gx ≤ k ∧ k < wa.heap.size) → Zl B (Fup F w w2) w0 w2 d y ∧ Za F w w2) := by
  intro w1 w2 y G h1 h2 h3 h4;refine ⟨h1.wrap HF.out HBW.out HBA.size h3 (fun k hk => by rw [HGX.out]; exact h4 k hk), ?_⟩;refine ((Za.of_below (F := F) HBA.out).trans h2 (fun _ h => .inl h)).trans h3 (fun k hk => .inr ?_);rw [HGX.out]; exact (h4 k hk).1
 have TAIL2 : Hid (∀ (w1 w2 : World) (y : Zf) (G : Nat → Prop), Zl B (Fup F wa w1) w0 w1 d y → Za (fun k => F k ∨ k = gx) wa w1 → Za G w1 w2 → (∀ k, G k → gx ≤ k ∧ k < wa.heap.size) → Zl B (Fup F w w2) w0 w2 d y ∧ Za F w w2) := by
  intro w1 w2 y G h1 h2 h3 h4;refine ⟨h1.wrap HF.out HBW.out HBA.size h3 (fun k hk => by rw [HGX.out]; exact h4 k hk), ?_⟩;refine ((Za.of_below (F := F) HBA.out).trans h2 (fun k h => h.imp id (fun e => by rw [e, HGX.out]; exact Nat.le_refl _))).trans h3 (fun k hk => .inr ?_);rw [HGX.out]; exact (h4 k hk).1
 have HFX : Hid (¬ F gx ∧ ¬ F gr) := ⟨fun hf => by have := HF.out _ hf; omega, fun hf => by have := HF.out _ hf; omega⟩;have HJ := hid (show Zf.jump x vw tt = if tt < 0 then (x.stop 2, vw) else if x.p.jumps ≤ (x.jumps : Int) then (x.stop 2, 11) else (x.hop.come tt.toNat, vw) from rfl);obtain ⟨R, hR⟩ := nE (Zf.jump x vw tt);simp only [hR] at HJ ⊢;clear hR hgx hgr;by_cases h0 : tt < 0
 ·have CS := hid (Jt HDA.out 2 aa)
  have HR : Hid (R = (x.stop 2, vw)) := by rw [Hid, HJ.out, if_pos h0]
  clear HJ htt;go_enter Tryz.func115, Tryz.ntmps115;go_upto_region 3 with fail;rw [HWA.out, HGX.out];have hgg : gx + 1 = gr := HGR.out;rw [hgg];clear hgg;go_wp2_with fail;refine CS.mono ?_;rintro en w1 ⟨rfl, hd1, hk1⟩;have HD1 := hid hd1; have HK1 := hid hk1;have HX1 := hid (hk1.blk HXA.out HFX.1);have HR1 := hid (hk1.blk HRA.out HFX.2);clear hd1 hk1 CS;obtain ⟨x0, x1, x2, x3, x4, x5⟩ := Yk HX1.out;obtain ⟨r0, r1, r2, r3, r4, r5⟩ := Yk HR1.out;have f0 := HR1.frozen 0; have f1 := HR1.frozen 1; have f2 := HR1.frozen 2; have f3 := HR1.frozen 3; have f4 := HR1.frozen 4; have f5 := HR1.frozen 5;have hlx := HX1.lt; have hlr := HR1.lt;go_wp2_with fail;obtain ⟨wz, hwz⟩ := nE (Yw w1 gr (.int .i64 vt) (.int .i64 (vl : Int)) (.int .i64 (vw : Int)) (.int .i64 (va : Int)) (.int .i64 (vn : Int)) (.int .i64 (vs : Int)));have KZ : Za (fun k => k = gr) w1 wz := hwz ▸ Yg _ _ _ _ _ _ _ _;have BZ := Yr HR1.out (.int .i64 vt) (.int .i64 (vl : Int)) (.int .i64 (vw : Int)) (.int .i64 (va : Int)) (.int .i64 (vn : Int)) (.int .i64 (vs : Int));rw [hwz] at BZ;unfold Yw at hwz;rw [hwz];clear hwz;obtain ⟨t0, t1, t2, t3, t4, t5⟩ := Yk BZ;have hlz : gr < wa.heap.size := HRA.lt;have hgz : gx ≤ gr := kt
  have hf := TAIL.out w1 wz (x.stop 2) (fun k => k = gr) HD1.out HK1.out KZ (fun k e => iq);exact N57
 have HJ2 : Hid (R = if x.p.jumps ≤ (x.jumps : Int) then (x.stop 2, 11) else (x.hop.come tt.toNat, vw)) := by rw [Hid, HJ.out, if_neg h0]
 have hpj := (Vc _ HD.ok.pgood).2.1;obtain ⟨pj, hpjn⟩ := nE (x.p.jumps);obtain ⟨jm, hjm⟩ := nE (x.jumps);rw [hpjn] at hpj HJ2;rw [hjm] at HJ2;have c8 : wa.cell? ⟨d, 8, none⟩ = some (.int .i64 pj) := hpjn ▸ HDA.cell 8;have c12 : wa.cell? ⟨d, 12, none⟩ = some (.int .i64 (jm : Int)) := hjm ▸ HDA.cell 12;have hdl := HDA.lt;have T8 : ∀ q : BW wa.heap.size wa, q.1.cell? ⟨d, 8, none⟩ = some (.int .i64 pj) := fun q => q.cellAt hdl c8;have T12 : ∀ q : BW wa.heap.size wa, q.1.cell? ⟨d, 12, none⟩ = some (.int .i64 (jm : Int)) := fun q => q.cellAt hdl c12;have HJP := hid (And.intro hpjn hjm);clear HJ c8 c12 hpjn hjm;by_cases h1 : pj ≤ (jm : Int)
 ·have HR : Hid (R = (x.stop 2, 11)) := by rw [Hid, HJ2.out, if_pos h1]
  clear HJ2 htt;go_enter Tryz.func115, Tryz.ntmps115;go_upto_region 3 with fail;rw [HWA.out, HGX.out];have hgg : gx + 1 = gr := HGR.out;rw [hgg];clear hgg;go_upto_region 5 with fail;refine Zh wa.heap.size ab ab ?_
  repeat (go_big_quiet_step (fail))
  refine wpQuiet_nil ?_;intro wu hqu;have HBU : Hid (Below wa.heap.size wa wu) := ak
  clear hqu T8 T12;have HX0 := bb HXA HBU;have HR0 := bb HRA HBU;have e2 := cA HX0.out 2 (vw : Int) rfl;have ef := HX0.frozen 2;have hxl := HX0.lt;go_upto_region 7 with fail;obtain ⟨wv, hwv⟩ := nE (wu.setCell ⟨gx, 2, none⟩ (.int .i64 11));have HXV : Hid (Blk wv gx 51 #[vt, (vl : Int), .int .i64 11, (va : Int), (vn : Int), (vs : Int)]) := hwv ▸ HX0.set 2 _;have HKV : Hid (Za (fun k => k = gx) wa wv) := hwv ▸ (Za.of_below (F := fun k => k = gx) HBU.out).trans (Zy _ _ _ _) (fun _ h => .inl h);rw [hwv];clear hwv e2 ef hxl HX0;have HDV : Hid (Zr B F w0 wv d gi gb gh gp F2 A c x) := HDA.keep HKV.out (fun k hf e => HFX.1 (by rw [← (e : k = gx)]; exact hf)) (fun k e => by rw [(e : k = gx), ← HGX.out]; exact HBW.out);have HRV : Hid (Blk wv gr 51 zs) := HKV.blk HRA.out (fun (e : gr = gx) => kt);have CS := hid (Jt HDV.out 2 aa);go_wp2_with fail;refine CS.mono ?_;rintro en w1 ⟨rfl, hd1, hk1⟩
  have HD1 : Hid (Zl B (Fup F wa w1) w0 w1 d (x.stop 2)) := hd1.mono (fun k hk => hk.imp id (fun h => ⟨Nat.le_trans HKV.size h.1, h.2⟩)) (by
   rintro k (hf | hf)
   ·exact N115
   ·exact ⟨by have := HBA.size; have := HBW.out; omega, hf.2⟩)
  have HX1 := hid (hk1.blk HXV.out HFX.1);have HR1 := hid (hk1.blk HRV.out HFX.2);have HKW : Hid (Za (fun k => F k ∨ k = gx) wa w1) := (HKV.mono (fun k _ e => .inr e) : Za (fun k => F k ∨ k = gx) wa wv).trans hk1 (fun _ h => .inl (.inl h));clear hd1 hk1 CS;obtain ⟨x0, x1, x2, x3, x4, x5⟩ := Yk HX1.out;obtain ⟨r0, r1, r2, r3, r4, r5⟩ := Yk HR1.out;have f0 := HR1.frozen 0; have f1 := HR1.frozen 1; have f2 := HR1.frozen 2; have f3 := HR1.frozen 3; have f4 := HR1.frozen 4; have f5 := HR1.frozen 5;have hlx := HX1.lt; have hlr := HR1.lt;go_wp2_with fail;obtain ⟨wz, hwz⟩ := nE (Yw w1 gr (.int .i64 vt) (.int .i64 (vl : Int)) (.int .i64 11) (.int .i64 (va : Int)) (.int .i64 (vn : Int)) (.int .i64 (vs : Int)));have KZ : Za (fun k => k = gr) w1 wz := hwz ▸ Yg _ _ _ _ _ _ _ _;have BZ := Yr HR1.out (.int .i64 vt) (.int .i64 (vl : Int)) (.int .i64 11) (.int .i64 (va : Int)) (.int .i64 (vn : Int)) (.int .i64 (vs : Int));rw [hwz] at BZ;unfold Yw at hwz;rw [hwz];clear hwz;obtain ⟨t0, t1, t2, t3, t4, t5⟩ := Yk BZ;have hlz : gr < wa.heap.size := HRA.lt;have hgz : gx ≤ gr := kt
  have hf := TAIL2.out w1 wz (x.stop 2) (fun k => k = gr) HD1.out HKW.out KZ (fun k e => iq);refine bodyPost_ret (v := .agg #[vt, (vl : Int), .int .i64 11, (va : Int), (vn : Int), (vs : Int)]) kv rfl ⟨?_, ?_, hf.2⟩
  ·rw [HR.out]; try rfl
  ·rw [HR.out]; exact hf.1
 have HR : Hid (R = (x.hop.come tt.toNat, vw)) := by rw [Hid, HJ2.out, if_neg h1]
 clear HJ2;have h1' : (jm : Int) < pj := aa
 obtain ⟨tn, htn⟩ : ∃ y : Nat, tt = (y : Int) := ⟨tt.toNat, aa⟩;subst htn;have HTN : Hid (tn ≤ x.p.ops.length) := ei
 go_enter Tryz.func115, Tryz.ntmps115;go_upto_region 3 with fail;rw [HWA.out, HGX.out];have hgg : gx + 1 = gr := HGR.out;rw [hgg];clear hgg;go_upto_region 5 with fail;refine Zh wa.heap.size ab ab ?_
 repeat (go_big_quiet_step (fail))
 refine wpQuiet_nil ?_;intro wu hqu;have HBU : Hid (Below wa.heap.size wa wu) := ak
 clear hqu T8 T12;have HDU := hid (HDA.below HBU.out);have u12 : wu.cell? ⟨d, 12, none⟩ = some (.int .i64 (jm : Int)) := by rw [← HJP.2]; exact HDU.cell 12
 have uf := HDU.blk.frozen 12;have hdu := HDU.lt;go_upto_region 2 with fail;obtain ⟨wv, hwv⟩ := nE (wu.setCell ⟨d, 12, none⟩ (.int .i64 ((jm : Int) + 1)));have HKV : Hid (Za (fun k => k = d) wa wv) := hwv ▸ (Za.of_below (F := fun k => k = d) HBU.out).trans (Zy _ _ _ _) (fun _ h => .inl h)
 have HBV : Hid (Blk wv d 107 (x.hop.cells A c gi gh gp)) := by
  have e : (jm : Int) + 1 = ((x.jumps + 1 : Nat) : Int) := by rw [HJP.2]; simp
  rw [← hwv, Hid, e]; exact HDU.blk.set 12 _
 rw [hwv];clear hwv u12 uf hdu;have HDV : Hid (Zr B F w0 wv d gi gb gh gp F2 A c x.hop) := HDA.turn HKV.out HBV.out rfl rfl rfl rfl rfl rfl rfl (HD.ok.hop (by have := HJP.2; omega));have HXV := hid (HKV.blk HXA.out (fun (e : gx = d) => HFX.1 gc));have HRV := hid (HKV.blk HRA.out (fun (e : gr = d) => HFX.2 gc));have CS := hid (Za7 HDV.out tn HTN.out);go_wp2_with fail;refine CS.mono ?_;rintro en w1 ⟨rfl, hd1, hk1⟩
 have HD1 : Hid (Zl B (Fup F wa w1) w0 w1 d (x.hop.come tn)) := hd1.mono (fun k hk => hk.imp id (fun h => ⟨Nat.le_trans HKV.size h.1, h.2⟩)) (by
  rintro k (hf | hf)
  ·exact N115
  ·exact ⟨by have := HBA.size; have := HBW.out; omega, hf.2⟩)
 have HX1 := hid (hk1.blk HXV.out HFX.1);have HR1 := hid (hk1.blk HRV.out HFX.2);have HKW : Hid (Za F wa w1) := (HKV.mono (fun k _ (e : k = d) => gc) : Za F wa wv).trans hk1 (fun _ h => .inl h);clear hd1 hk1 CS;obtain ⟨x0, x1, x2, x3, x4, x5⟩ := Yk HX1.out;obtain ⟨r0, r1, r2, r3, r4, r5⟩ := Yk HR1.out;have f0 := HR1.frozen 0; have f1 := HR1.frozen 1; have f2 := HR1.frozen 2; have f3 := HR1.frozen 3; have f4 := HR1.frozen 4; have f5 := HR1.frozen 5;have hlx := HX1.lt; have hlr := HR1.lt;go_wp2_with fail;obtain ⟨wz, hwz⟩ := nE (Yw w1 gr (.int .i64 vt) (.int .i64 (vl : Int)) (.int .i64 (vw : Int)) (.int .i64 (va : Int)) (.int .i64 (vn : Int)) (.int .i64 (vs : Int)));have KZ : Za (fun k => k = gr) w1 wz := hwz ▸ Yg _ _ _ _ _ _ _ _;have BZ := Yr HR1.out (.int .i64 vt) (.int .i64 (vl : Int)) (.int .i64 (vw : Int)) (.int .i64 (va : Int)) (.int .i64 (vn : Int)) (.int .i64 (vs : Int));rw [hwz] at BZ;unfold Yw at hwz;rw [hwz];clear hwz;obtain ⟨t0, t1, t2, t3, t4, t5⟩ := Yk BZ;have hlz : gr < wa.heap.size := HRA.lt;have hgz : gx ≤ gr := kt
 have hf := TAIL.out w1 wz (x.hop.come tn) (fun k => k = gr) HD1.out HKW.out KZ (fun k e => iq);exact N57
end
end Go.Proofs.YtpkkfdmhbbipoaaGreat
