/- Walks: package dial: come. Walks: package dial: jump. -/
import Derived.Test.YtpkkfdmhbbipoaaGreatDd
namespace Go.Proofs.YtpkkfdmhbbipoaaGreat
open Go.RowKit PopT
def setD3 (w : World) (g : Nat) (a b c : Value) : World := ((w.setCell ⟨g, 13, none⟩ a).setCell ⟨g, 14, none⟩ b).setCell ⟨g, 15, none⟩ c
theorem setD3_keep (w : World) (g : Nat) (a b c : Value) : Keep (fun k => k = g) w (setD3 w g a b c) :=
 (set1_keep w g 13 a).trans ((set1_keep _ g 14 b).trans (set1_keep _ g 15 c) (fun _ h => .inl h)) (fun _ h => .inl h)
theorem own_none {w : World} {base n c size : Nat} {e : TypeId} {xs : List Value} {A : Option Addr} (h : w.ownsRow base e size (.slice A n c) n xs) (hA : A = none) : n = 0 ∧ c = 0 := by
 subst hA
 rcases h.2 with ⟨hv, e0⟩ | ⟨g', cap, cur, hv, -⟩
 ·injection hv with _ h1 h2; exact ⟨h1, h2⟩
 ·cases hv
theorem newM_zero (ps : List ByteArray) (h8 : ps.length ≤ 8) (h : ∀ p ∈ ps, (checkM p).2.2 = 0) : (newM ps).2.2 = 0 := by
 rw [newM, if_neg (by omega)]
 have : ∀ (l : List ByteArray) (i : Nat) (acc : List (List Item)), (∀ p ∈ l, (checkM p).2.2 = 0) → (newGo l i acc).2.2 = 0 := by
  intro l
  induction l with
  | nil => intro i acc _; rfl
  | cons p l ih =>
   intro i acc hp
   rw [newGo_check, if_neg (by have := hp p List.mem_cons_self; omega)]
   exact ih _ _ fun q hq => hp q (List.mem_cons_of_mem _ hq)
 exact this ps 0 [] h
theorem armsE_zero (n : Nat) (l : List ArmV) (h : armsE n l = 0) : ∀ m ∈ l, m.pat.size ≤ 64 ∧ (checkM m.pat).2.2 = 0 ∧ comesM n m.tt = true := by
 induction l with
 | nil => intro m hm; simp at hm
 | cons m l ih =>
  rw [armsE] at h
  by_cases hm : armE n m ≠ 0
  ·rw [if_pos hm] at h; exact absurd h hm
  ·rw [if_neg hm] at h
   intro q hq
   rcases List.mem_cons.1 hq with rfl | hq
   ·rw [armE] at hm
    split at hm
    ·exact absurd (by decide) hm
    ·split at hm
     ·rename_i h1 h2; exact absurd h2 hm
     ·split at hm
      ·exact absurd (by decide) hm
      ·rename_i h1 h2 h3
       refine ⟨by omega, by omega, ?_⟩
       cases hc : comesM n q.tt
       ·exact absurd hc h3
       ·rfl
   ·exact ih h q hq
theorem opsE_zero (n : Nat) (l : List OpV) : ∀ i, (opsE n l i).2 = 0 → ∀ o ∈ l, opE n o = 0 := by
 induction l with
 | nil => intro i h o ho; simp at ho
 | cons p l ih =>
  intro i h o ho
  rw [opsE] at h
  by_cases hp : opE n p ≠ 0
  ·rw [if_pos hp] at h; exact absurd h hp
  ·rw [if_neg hp] at h
   rcases List.mem_cons.1 ho with rfl | ho
   ·omega
   ·exact ih _ h o ho
theorem expectE_zero (n : Nat) (o : OpV) (h : expectE n o = 0) : o.arms.length ≤ 8 ∧ armsE n o.arms = 0 := by
 unfold expectE at h
 split at h
 ·omega
 ·split at h
  ·omega
  ·split at h
   ·rename_i h1 h2 h3; exact absurd h h3
   ·exact ⟨by omega, by omega⟩
theorem opE_expect (n : Nat) (o : OpV) (h : opE n o = 0) (hk : o.kind = 2) : expectE n o = 0 := by
 unfold opE at h
 rw [if_neg (by omega)] at h
 split at h
 ·omega
 ·rw [if_neg (by omega)] at h
  first | exact h | rwa [if_pos hk] at h
theorem wrongM_zero (p : ProgV) (h : (wrongM p).2 = 0) : p.ops.length ≤ 200 ∧ (0 ≤ p.jumps ∧ p.jumps ≤ 1000) ∧ ∀ o ∈ p.ops, opE p.ops.length o = 0 := by
 unfold wrongM at h
 split at h
 ·omega
 ·split at h
  ·omega
  ·split at h
   ·omega
   ·rename_i h1 h2 h3
    refine ⟨by omega, ?_, opsE_zero _ _ 0 h⟩
    by_cases hj : 0 ≤ p.jumps ∧ p.jumps ≤ 1000
    ·exact hj
    ·exact absurd (.inr hj) h2
theorem op_lt (x : DialV) (h : x.op.kind ≠ 0) : x.loc < x.p.ops.length := by
 by_cases hc : x.loc < x.p.ops.length
 ·exact hc
 ·rw [opEnd x (by omega)] at h; exact absurd rfl h
theorem op_good (x : DialV) (h : DialOk x) (hl : x.loc < x.p.ops.length) : opE x.p.ops.length x.op = 0 ∧ OpOk x.op := by
 rw [opAt x hl]
 exact ⟨(wrongM_zero _ h.pgood).2.2 _ (List.getElem_mem _), h.pok.2.2.2.2 _ (List.getElem_mem _)⟩
theorem op_arms (x : DialV) (h : DialOk x) (hk : x.op.kind = 2) : (newM (x.op.arms.map ArmV.pat)).2.2 = 0 ∧ x.op.arms.length ≤ 8 ∧ ∀ m ∈ x.op.arms, m.pat.size ≤ 64 := by
 have hg := op_good x h (op_lt x (by omega))
 have he := expectE_zero _ _ (opE_expect _ _ hg.1 hk)
 have ha := armsE_zero _ _ he.2
 refine ⟨newM_zero _ (by rw [List.length_map]; exact he.1) fun p hp => ?_, he.1, fun m hm => (ha m hm).1⟩
 obtain ⟨m, hm, rfl⟩ := List.mem_map.1 hp
 exact (ha m hm).2.1
theorem op_n (x : DialV) (h : DialOk x) : I6 x.op.n := by
 by_cases hl : x.loc < x.p.ops.length
 ·exact (op_good x h hl).2.2.2.1
 ·rw [opEnd x (by omega)]; exact ⟨by decide, by decide⟩
theorem op_text (x : DialV) (h : DialOk x) : x.op.text.size ≤ 9223372036854775807 := by
 by_cases hl : x.loc < x.p.ops.length
 ·exact (op_good x h hl).2.2.1
 ·rw [opEnd x (by omega)]; exact by decide
theorem DialOk.goes {x : DialV} (h : DialOk x) {tt : Nat} (ht : tt ≤ x.p.ops.length) : DialOk (x.goes tt) := by
 obtain ⟨o1, o2, o3, o4, o5, o6, o7, o8, o9, o10⟩ := h
 exact ⟨o1, o2, o3, ht, o5, o6, ⟨by show (-9223372036854775808 : Int) ≤ 9223372036854775807; decide, by show (9223372036854775807 : Int) ≤ 9223372036854775807; decide⟩, o8, o9, o10⟩
theorem DialOk.waits {x : DialV} (h : DialOk x) : DialOk x.waits := by
 have hn := op_n x h
 obtain ⟨o1, o2, o3, o4, o5, o6, o7, o8, o9, o10⟩ := h
 have := behindT_bd x.now x.op.n ⟨by omega, o10.2⟩ hn
 exact ⟨o1, o2, o3, o4, o5, o6, ⟨by show -9223372036854775808 ≤ behindT x.now x.op.n; omega, this.2⟩, o8, o9, o10⟩
section
variable {B d gi gb gh gp c : Nat} {F F2 : Nat → Prop} {w0 w w' : World} {A : Option Addr} {x : DialV}
theorem DialIn.turn {y : DialV} (h : DialIn B F w0 w d gi gb gh gp F2 A c x) (hk : Keep (fun k => k = d) w w') (hb : Blk w' d 107 (y.cells A c gi gh gp))
  (e1 : y.s = x.s) (e2 : y.p = x.p) (e3 : y.R = x.R) (e4 : y.S = x.S) (e5 : y.seen = x.seen) (e6 : y.P = x.P) (e7 : y.pd = x.pd) (hok : DialOk y) : DialIn B F w0 w' d gi gb gh gp F2 A c y := by
 obtain ⟨h1, h2, ⟨bs, ps, P, hbs, h3, h3'⟩, h4, h5, h6, h7, h8, h9, h10, h11, h12⟩ := h
 obtain ⟨n1, n2, n3, n4, n5, n6, n7, n8, n9, n10⟩ := h9
 refine ⟨hb, ?_, ⟨bs, ps, P, Nat.le_trans hbs hk.size, ?_, by rw [e6]; exact h3'⟩, ?_, by rw [e2]; exact h5, ?_, ⟨h7.1, Nat.le_trans h7.2 hk.size⟩, h8, ⟨n1, n2, n3, n4, n5, n6, n7, n8, n9, n10⟩, fun k hf => ⟨(h10 k hf).1, Nat.lt_of_lt_of_le (h10 k hf).2 hk.size⟩, by rw [e7, e1]; exact h11, hok⟩
 ·rw [e1, e3]; exact h2.keep hk (fun e => n1 e.symm) (fun e => n2 e.symm)
 ·rw [e1, e4, e5]; exact h3.keep hk (fun k hf (e : k = d) => n7 (e ▸ hf))
 ·rw [e7]; exact h4.keep hk (fun e => n3 e.symm)
 ·exact h6.trans (hk.below h6.size (fun k (e : k = d) => by rw [e]; exact Nat.le_trans h7.1 (h10 d h8.1).1))
theorem DialIn.turnP {p2 : PendV} (h : DialIn B F w0 w d gi gb gh gp F2 A c x) (hk : Keep (fun k => k = gp) w w') (hp : PendAt w' gp p2) (e : p2.out = x.pd.out) :
  DialIn B F w0 w' d gi gb gh gp F2 A c ⟨x.s, x.p, x.loc, x.st, x.jumps, x.due, x.R, x.S, x.seen, x.P, p2, x.eof, x.now⟩ := by
 obtain ⟨h1, h2, ⟨bs, ps, P, hbs, h3, h3'⟩, h4, h5, h6, h7, h8, h9, h10, h11, h12⟩ := h
 obtain ⟨n1, n2, n3, n4, n5, n6, n7, n8, n9, n10⟩ := h9
 obtain ⟨o1, o2, o3, o4, o5, o6, o7, o8, o9, o10⟩ := h12
 refine ⟨hk.blk h1 n3, h2.keep hk n4 n5, ⟨bs, ps, P, Nat.le_trans hbs hk.size, h3.keep hk (fun k hf (e : k = gp) => n10 (e ▸ hf)), h3'⟩, hp, h5, ?_, ⟨h7.1, Nat.le_trans h7.2 hk.size⟩, h8, ⟨n1, n2, n3, n4, n5, n6, n7, n8, n9, n10⟩, fun k hf => ⟨(h10 k hf).1, Nat.lt_of_lt_of_le (h10 k hf).2 hk.size⟩, e.trans h11, ⟨o1, o2, o3, o4, o5, o6, o7, o8, o9, o10⟩⟩
 exact h6.trans (hk.below h6.size (fun k (e : k = gp) => by rw [e]; exact Nat.le_trans h7.1 (h10 gp h8.2.2.2.1).1))
theorem DialIn.f2 (h : DialIn B F w0 w d gi gb gh gp F2 A c x) : ∀ k, F2 k → B ≤ k ∧ k < w.heap.size := fun k hf => h.fin k (h.fd.2.2.2.2 k hf)
theorem DialIn.turnH {bs seen : Nat} {S : List UInt8} {ps : List ByteArray} {P : Option (List (List Item))} (h : DialIn B F w0 w d gi gb gh gp F2 A c x) (hk : Keep F2 w w') (hbs : bs ≤ w'.heap.size) (hh : HoldAt bs (Fup F2 w w') w' gh x.s.win.toNat S seen ps P) :
  DialIn B (Fup F w w') w0 w' d gi gb gh gp (Fup F2 w w') A c ⟨x.s, x.p, x.loc, x.st, x.jumps, x.due, x.R, S, seen, P.getD [], x.pd, x.eof, x.now⟩ := by
 have hdl := h.lt
 have hil := (h.fin _ h.fd.2.1).2
 have hbl := (h.fin _ h.fd.2.2.1).2
 have hpl := (h.fin _ h.fd.2.2.2.1).2
 have hf2 := h.f2
 obtain ⟨h1, h2, ⟨bs', ps', P', hbs', h3, h3'⟩, h4, h5, h6, h7, h8, h9, h10, h11, h12⟩ := h
 obtain ⟨n1, n2, n3, n4, n5, n6, n7, n8, n9, n10⟩ := h9
 obtain ⟨o1, o2, o3, o4, o5, o6, o7, o8, o9, o10⟩ := h12
 have nf : ∀ k, k < w.heap.size → ¬ F2 k → ¬ Fup F2 w w' k := by
  rintro k hk1 hk2 (hk3 | hk3)
  ·exact hk2 hk3
  ·omega
 refine ⟨hk.blk h1 n7, h2.keep hk n8 n9, ⟨bs, ps, P, hbs, hh, rfl⟩, h4.keep hk n10, h5, ?_, ⟨h7.1, Nat.le_trans h7.2 hk.size⟩, ⟨.inl h8.1, .inl h8.2.1, .inl h8.2.2.1, .inl h8.2.2.2.1, ?_⟩, ⟨n1, n2, n3, n4, n5, n6, nf _ hdl n7, nf _ hil n8, nf _ hbl n9, nf _ hpl n10⟩, ?_, h11, ⟨o1, o2, o3, o4, o5, o6, o7, o8, o9, o10⟩⟩
 ·exact h6.trans (hk.below h6.size (fun k hf => Nat.le_trans h7.1 (hf2 k hf).1))
 ·rintro k (hf | hf)
  ·exact .inl (h8.2.2.2.2 k hf)
  ·exact .inr hf
 ·have hs := hk.size
  rintro k (hf | hf)
  ·have := h10 k hf; exact ⟨this.1, by omega⟩
  ·exact ⟨by omega, hf.2⟩
set_option maxRecDepth 20000 in
set_option maxHeartbeats 4000000 in
theorem dCome_any (h : DialIn B F w0 w d gi gb gh gp F2 A c x) (tt : Nat) (htt : tt ≤ x.p.ops.length) : Calls Tryz.prog 99 #[.pointer (some ⟨d, 0, none⟩), .int .i64 (tt : Int)] w fun e w' => e = .returned (.tuple #[]) ∧ DialAt B (Fup F w w') w0 w' d (x.come tt) ∧ Keep F w w' := by
 have HD := hid h
 have HOKY := hid (h.ok.goes htt)
 have HBASE : Hid (B ≤ w.heap.size) := h.base.2
 have CR : Hid (∀ W, Calls Tryz.prog 140 #[.agg #[.int .i64 x.due.til, .int .i64 x.due.lim, .int .i64 x.due.cut]] W fun e w' => e = .returned (.agg #[.int .i64 9223372036854775807, .int .i64 x.due.lim, .int .i64 x.due.cut]) ∧ Below W.heap.size W w') := fun W => dueRest_any x.due W
 have CW : Hid (∀ W n, I6 n → Calls Tryz.prog 143 #[.agg #[.int .i64 9223372036854775807, .int .i64 x.due.lim, .int .i64 x.due.cut], .int .i64 x.now, .int .i64 n] W fun e w' => e = .returned (.agg #[.int .i64 (behindT x.now n), .int .i64 x.due.lim, .int .i64 x.due.cut]) ∧ Below W.heap.size W w') :=
  fun W n hn => dueWait_any ⟨9223372036854775807, x.due.lim, x.due.cut⟩ x.now n W ⟨by have := HD.out.ok.now; omega, HD.out.ok.now.2⟩ hn
 obtain ⟨wa, hwa⟩ : ∃ W, w.setCell ⟨d, 10, none⟩ (.int .i64 (tt : Int)) = W := ⟨_, rfl⟩
 have HBA : Hid (Blk wa d 107 ((x.cells A c gi gh gp).setIfInBounds 10 (.int .i64 (tt : Int)))) := by rw [← hwa]; exact h.blk.set 10 _
 have HKA : Hid (Keep (fun k => k = d) w wa) := by rw [← hwa]; exact set1_keep _ _ _ _
 have HW := hid hwa
 clear hwa
 have c10 : w.cell? ⟨d, 10, none⟩ = some (.int .i64 (x.loc : Int)) := h.cell 10
 have y10 := h.blk.frozen 10
 have hl := h.lt
 have c13 : wa.cell? ⟨d, 13, none⟩ = some (.int .i64 x.due.til) := HBA.out.cell 13
 have c14 : wa.cell? ⟨d, 14, none⟩ = some (.int .i64 x.due.lim) := HBA.out.cell 14
 have c15 : wa.cell? ⟨d, 15, none⟩ = some (.int .i64 x.due.cut) := HBA.out.cell 15
 have hla := HBA.out.lt
 obtain ⟨t1, ht1⟩ : ∃ y, x.due.til = y := ⟨_, rfl⟩
 obtain ⟨t2, ht2⟩ : ∃ y, x.due.lim = y := ⟨_, rfl⟩
 obtain ⟨t3, ht3⟩ : ∃ y, x.due.cut = y := ⟨_, rfl⟩
 obtain ⟨now, hnow⟩ : ∃ y, x.now = y := ⟨_, rfl⟩
 have HT := hid (And.intro ht1 (And.intro ht2 (And.intro ht3 hnow)))
 rw [ht1] at c13 CR
 rw [ht2] at c14 CR CW
 rw [ht3] at c15 CR CW
 rw [hnow] at CW
 clear h ht1 ht2 ht3 hnow
 go_enter Tryz.func99, Tryz.ntmps99
 go_upto_region 1 with fail
 rw [HW.out]
 clear c10 y10 hl
 go_wp2_with fail
 refine (CR.out _).mono ?_
 rintro en wb ⟨rfl, hb⟩
 have HBB := hid (HBA.out.below hb hla)
 have HKB : Hid (Keep (fun k => k = d) w wb) := hid (HKA.out.trans (Keep.of_below (F := fun k => k = d) hb) (fun _ h => .inl h))
 clear hb CR c13 c14 c15 hla
 have z13 : wb.cell? ⟨d, 13, none⟩ = some (.int .i64 t1) := by rw [← HT.out.1]; exact HBB.out.cell 13
 have z14 : wb.cell? ⟨d, 14, none⟩ = some (.int .i64 t2) := by rw [← HT.out.2.1]; exact HBB.out.cell 14
 have z15 : wb.cell? ⟨d, 15, none⟩ = some (.int .i64 t3) := by rw [← HT.out.2.2.1]; exact HBB.out.cell 15
 have y13 := HBB.out.frozen 13; have y14 := HBB.out.frozen 14; have y15 := HBB.out.frozen 15
 have hlb := HBB.out.lt
 go_upto_region 2 with fail
 obtain ⟨wc, hwc⟩ : ∃ W, setD3 wb d (.int .i64 9223372036854775807) (.int .i64 t2) (.int .i64 t3) = W := ⟨_, rfl⟩
 have HKC : Hid (Keep (fun k => k = d) w wc) := by rw [← hwc]; exact HKB.out.trans (setD3_keep _ _ _ _ _) (fun _ h => .inl h)
 have HBC : Hid (Blk wc d 107 ((x.goes tt).cells A c gi gh gp)) := by
  rw [← hwc, Hid, ← HT.out.2.1, ← HT.out.2.2.1]
  exact ((HBB.out.set 13 _).set 14 _).set 15 _
 unfold setD3 at hwc
 rw [hwc]
 clear hwc z13 z14 z15 y13 y14 y15 hlb HBB HKB HBA HKA
 have DY : Hid (DialIn B F w0 wc d gi gb gh gp F2 A c (x.goes tt)) := HD.out.turn HKC.out HBC.out rfl rfl rfl rfl rfl rfl rfl HOKY.out
 have HKF : Hid (Keep F w wc) := HKC.out.mono (fun k _ hk => by rw [hk]; exact HD.out.fd.1)
 have HXY : Hid (x.come tt = (x.goes tt).enters ∧ (x.goes tt).s = x.s ∧ (x.goes tt).due = ⟨9223372036854775807, t2, t3⟩ ∧ (x.goes tt).now = now) := ⟨rfl, rfl, by rw [← HT.out.2.1, ← HT.out.2.2.1]; rfl, HT.out.2.2.2⟩
 have HLW : Hid (w.heap.size ≤ wc.heap.size) := HKC.out.size
 clear HBC HKC HD HW
 have co := op_any' DY.out
 obtain ⟨y, hy⟩ : ∃ y, x.goes tt = y := ⟨_, rfl⟩
 rw [hy] at DY HXY HOKY co
 clear hy
 obtain ⟨o, ho⟩ : ∃ o, y.op = o := ⟨_, rfl⟩
 have HO := hid ho
 rw [ho] at co
 clear ho
 obtain ⟨k, tx, nn, tj, arms, oT, oE⟩ := o
 have CO : Hid (Calls Tryz.prog 82 #[.pointer (some ⟨d, 0, none⟩)] wc fun e w' => ∃ v, e = .returned (.agg #[.int .i64 k, .string tx, .int .i64 nn, .int .i64 tj, v, .int .i64 oT, .int .i64 oE]) ∧ ArmsIn w' ⟨k, tx, nn, tj, arms, oT, oE⟩ v ∧ Below wc.heap.size wc w') := co
 have HNN : Hid (I6 nn) := by have := op_n y HOKY.out; rw [HO.out] at this; exact this
 have HTX : Hid (tx.size ≤ 9223372036854775807) := by have := op_text y HOKY.out; rw [HO.out] at this; exact this
 clear co
 go_wp2_with fail
 refine CO.out.mono ?_
 rintro en wd ⟨v, rfl, harm, hbd⟩
 obtain ⟨Av, cv, rfl, har⟩ := harm
 obtain ⟨na, hna⟩ : ∃ y, arms.length = y := ⟨_, rfl⟩
 have HNA := hid hna
 have hav : (Value.slice Av (OpV.mk k tx nn tj arms oT oE).arms.length cv) = .slice Av na cv := by rw [← hna]
 rw [hav]
 have HAR : Hid (Rd wd Av (armVCells arms)) := har
 clear CO hav har hna
 go_upto_region 3 with fail
 obtain ⟨we, hwe⟩ : ∃ W, wd.alloc (.cells #[.int .i64 k, .string tx, .int .i64 nn, .int .i64 tj, .slice Av na cv, .int .i64 oT, .int .i64 oE] 56) = W := ⟨_, rfl⟩
 have HBE : Hid (Below wc.heap.size wc we) := by rw [← hwe]; exact hbd.alloc hbd.size _
 have HARE : Hid (Rd we Av (armVCells arms)) := by rw [← hwe]; exact HAR.out.below ((Below.refl _ _).alloc (Nat.le_refl _) _)
 have HOB : Hid (Blk we wd.heap.size 56 #[.int .i64 k, .string tx, .int .i64 nn, .int .i64 tj, .slice Av na cv, .int .i64 oT, .int .i64 oE]) := by rw [← hwe]; exact Blk.new wd _ _
 rw [hwe]
 clear hwe HAR
 obtain ⟨g4, hg4⟩ : ∃ g, wd.heap.size = g := ⟨_, rfl⟩
 have hg4c : wc.heap.size ≤ g4 := by rw [← hg4]; exact hbd.size
 rw [hg4] at HOB ⊢
 clear hg4 hbd
 have DE : Hid (DialIn B F w0 we d gi gb gh gp F2 A c y) := DY.out.below HBE.out
 have HKE : Hid (Keep F w we) := HKF.out.trans (Keep.of_below (F := F) HBE.out) (fun _ h => .inl h)
 have HF2 : Hid (∀ k, F2 k → k < wc.heap.size) := fun k hk => (DY.out.f2 k hk).2
 clear HKF DY
 obtain ⟨q0, q1, q2, q3, q4, q5, q6⟩ := fact7 HOB.out
 have hle := HOB.out.lt
 have HLE : Hid (w.heap.size ≤ we.heap.size) := Nat.le_trans HLW.out HBE.out.size
 have hdl := DE.out.lt
 have d18 : we.cell? ⟨d, 18, none⟩ = some (.pointer (some ⟨gp, 0, none⟩)) := DE.out.cell 18
 have d17 : we.cell? ⟨d, 17, none⟩ = some (.pointer (some ⟨gh, 0, none⟩)) := DE.out.cell 17
 have FIN : Hid (∀ (F' : Nat → Prop) W (z : DialV), we.heap.size ≤ W.heap.size → Keep F we W → (∃ F2', DialIn B F' w0 W d gi gb gh gp F2' A c z) → (∀ k, F' k → Fup F we W k) → DialAt B (Fup F w W) w0 W d z ∧ Keep F w W) := by
  intro F' W z hs hk ⟨F2', hz⟩ hf
  refine ⟨⟨gi, gb, gh, gp, F2', A, c, hz.mono (fun k hk' => ?_) ?_⟩, HKE.out.trans hk (fun _ h => .inl h)⟩
  ·rcases hf k hk' with h | h
   ·exact .inl h
   ·exact .inr ⟨Nat.le_trans HLE.out h.1, h.2⟩
  ·rintro k (h | h)
   ·have := DE.out.fin k h; exact ⟨this.1, by omega⟩
   ·exact ⟨by have := DE.out.base.2; have h1 := HBE.out.size; have h2 := HLW.out; have h3 := HBASE.out; omega, h.2⟩
 by_cases hk1 : k = 1
 ·subst hk1
  have HE : Hid (x.come tt = y.writes) := by rw [Hid, HXY.out.1]; unfold DialV.enters; rw [HO.out]; exact if_pos rfl
  have CP := hid (fun W (hb : Below we.heap.size we W) => pnBegin_any gp y.pd tx W (DE.out.pend.below hb) HTX.out)
  go_upto_region 5 with fail
  have T1 : ∀ q : BW we.heap.size we, q.1.cell? ⟨d, 18, none⟩ = some (.pointer (some ⟨gp, 0, none⟩)) := fun q => q.cellAt hdl d18
  have T2 : ∀ q : BW we.heap.size we, q.1.cell? ⟨g4, 1, none⟩ = some (.string tx) := fun q => q.cellAt hle q1
  clear d17 d18 q0 q1 q2 q3 q4 q5 q6
  refine wp_region_ordT we.heap.size [6] (.val 0 (.val 1 (.val 2 (.val 3 (.val 4 (.val 5 (.op 6 (.nil)))))))) (by kernel_rfl) (by kernel_rfl) ?_
  obtain ⟨wx, hwx⟩ : ∃ W, we.drewN 1 = W := ⟨_, rfl⟩
  have HBW : Hid (Below we.heap.size we wx) := by rw [← hwx]; exact drewN_below we 1
  rw [hwx]
  clear hwx
  iterate 6 ((first | refine wpOrdT_val rfl rfl ?_ | refine wpOrdT_load rfl rfl (inBW HBW.out) ?_); go_big_quiet_step (fail); refine wpQuiet_nil ?_)
  refine wpOrdT_op rfl ?_
  go_wp2_with fail
  refine (CP.out wx HBW.out).mono ?_
  rintro en wp ⟨rfl, hp1, hkp⟩
  have HPN := hid hp1
  have HBX := hid HBW.out
  clear hp1 CP T1 T2
  go_wp2_with fail
  refine KT.past rfl ?_
  refine wpOrdT_nil ?_
  go_wp2_with fail
  try go_end0
  have hf := FIN.out _ _ y.writes (Nat.le_trans HBX.out.size hkp.size) ((Keep.of_below (F := F) HBX.out).trans (hkp.mono (fun k _ (e : k = gp) => by rw [e]; exact DE.out.fd.2.2.2.1) : Keep F wx wp) (fun _ h => .inl h)) ⟨F2, by have := (DE.out.below HBX.out).turnP hkp HPN.out rfl; have e : y.writes = ⟨y.s, y.p, y.loc, y.st, y.jumps, y.due, y.R, y.S, y.seen, y.P, y.pd.begin tx, y.eof, y.now⟩ := (by unfold DialV.writes; rw [HO.out]); rw [e]; exact this⟩ (fun k hk => .inl hk)
  rw [HE.out]
  exact ⟨rfl, hf.1, hf.2⟩
 have hk1f : (k == 1) = false := by rw [beq_eq_false_iff_ne]; exact hk1
 have HK1 := hid hk1
 clear hk1
 by_cases hk2 : k = 2
 ·subst hk2
  have HA := op_arms y HOKY.out (by rw [HO.out])
  rw [HO.out] at HA
  have HAH : Hid ((newM (arms.map ArmV.pat)).2.2 = 0 ∧ arms.length ≤ 8 ∧ ∀ m ∈ arms, m.pat.size ≤ 64) := HA
  have hna8 : na ≤ 8 := by rw [← HNA.out]; exact HAH.out.2.1
  clear HA
  have HE : Hid (x.come tt = y.hears.waits) := by rw [Hid, HXY.out.1]; unfold DialV.enters; rw [HO.out]; rw [if_neg (show ¬ (2 : Int) = 1 by decide), if_pos rfl]
  go_wp2_with fail
  go_loopw [5, 38] (fun v iv wr => ∃ (i c' : Nat) (A' : Option Addr), i ≤ na ∧ iv = .int .i64 (i : Int) ∧ v = .slice A' i c' ∧ wr.ownsRow we.heap.size 9 1 (.slice A' i c') i (textCells ((arms.take i).map ArmV.pat)) ∧ Below we.heap.size we wr) (fun _ iv _ => na - (intOf iv).toNat)
  case atStart => exact ⟨0, 0, none, by omega, rfl, rfl, World.ownsRow_nil _ _ _ _, Below.refl _ _⟩
  case round =>
   obtain ⟨i, c', A', hi, rfl, rfl, hown, hb⟩ := hrel
   have HB := hid hb
   have hsz := HB.out.size
   clear hb q0 q1 q2 q3 q4 q5 q6 hle hdl d18 d17
   by_cases hlt : i < na
   ·have HK : Hid (i < arms.length) := by rw [Hid, HNA.out]; exact hlt
    obtain ⟨b1, off1, rfl, hbl, hc⟩ := (HARE.out.below HB.out).at (by rw [armVCells_length, HNA.out]; omega)
    obtain ⟨e0, e1⟩ := arm_at hc i HK.out
    have HT2 : Hid ((arms.take (i + 1)).map ArmV.pat = (arms.take i).map ArmV.pat ++ [(arms[i]'HK.out).pat]) := by
     rw [Hid, List.take_succ_eq_append_getElem HK.out, List.map_append]; rfl
    obtain ⟨⟨pa, ta⟩, hx⟩ : ∃ x, arms[i]'HK.out = x := ⟨_, rfl⟩
    rw [hx] at e0 e1 HT2
    simp only at e0 e1
    clear hx hc
    go_upto_region 11 with fail
    obtain ⟨wx, hwx⟩ : ∃ W, wr.alloc (.cells #[.string pa, .int .i64 ta] 99) = W := ⟨_, rfl⟩
    have HBX : Hid (Below we.heap.size we wx) := by rw [← hwx]; exact HB.out.alloc HB.out.size _
    have HAX : Hid (Blk wx wr.heap.size 99 #[.string pa, .int .i64 ta]) := by rw [← hwx]; exact Blk.new wr _ _
    have hown2 : wx.ownsRow we.heap.size 9 1 (.slice A' i c') i (textCells ((arms.take i).map ArmV.pat)) := by rw [← hwx]; exact own_below hown ((Below.refl _ _).alloc (Nat.le_refl _) _)
    rw [hwx]
    clear hwx e0 e1 hbl hown
    obtain ⟨ga, hga⟩ : ∃ g, wr.heap.size = g := ⟨_, rfl⟩
    rw [hga] at HAX ⊢
    clear hga hsz
    obtain ⟨a0, a1⟩ := fact2 HAX.out
    have hal := HAX.out.lt
    have hsx := HBX.out.size
    go_wp2_with (at_builtin; refine wpList_append1 _ rfl _ _ 158 rfl we.heap.size 9 _ 1 16 Tryz.underlying158 Tryz.infoStr rfl (by decide) _ _ _ rfl hown2 1 [.string pa] rfl rfl rfl ?_ (by decide) hsx ?_)
    ·omega
    intro A2 d2 w3 hown3 hg3
    have HB3 := hid (below_grown HBX.out hown2 hg3 (Nat.le_refl _) hsx)
    have HO3 := hid hown3
    clear hown2 hg3 hown3 a0 a1 hal hsx HB HBX HAX
    go_wp2_with fail
    go_roundw
    case rel => exact ⟨i + 1, d2, A2, by omega, by go_num, rfl, by rw [HT2.out]; simpa [textCells] using HO3.out, HB3.out⟩
    case measure => simp [intOf]; omega
   ·have HPS : Hid ((arms.take i).map ArmV.pat = arms.map ArmV.pat ∧ (arms.map ArmV.pat).length = i) := ⟨by rw [List.take_of_length_le (by rw [HNA.out]; omega)], by rw [List.length_map, HNA.out]; omega⟩
    rw [HPS.out.1] at hown
    have HDG : Hid (DialIn B F w0 wr d gi gb gh gp F2 A c y) := DE.out.below HB.out
    obtain ⟨bs, ps0, P0, hbs, hh, hP⟩ := HDG.out.hold
    have cb := hoBegin_any bs gh y.s.win.toNat y.seen F2 y.S ps0 P0 A' i c' (arms.map ArmV.pat) wr hh HPS.out.2 (by omega) (fun p hp => by obtain ⟨m, hm, rfl⟩ := List.mem_map.1 hp; have := HAH.out.2.2 m hm; omega) (Rd_of_own hown) (own_none hown) hbs
    have HBS := hid hbs
    have CB : Hid (Calls Tryz.prog 142 #[.pointer (some ⟨gh, 0, none⟩), .slice A' i c'] wr fun e w' => e = .returned (.int .i64 0) ∧ HoldAt bs (Fup F2 wr w') w' gh y.s.win.toNat y.S 0 (arms.map ArmV.pat) (some (newM (arms.map ArmV.pat)).1) ∧ Keep F2 wr w') :=
     cb.mono (fun e w' hc => ⟨by rw [hc.1, HAH.out.1]; rfl, hc.2.2.1 HAH.out.1, hc.2.2.2⟩)
    have d17 : wr.cell? ⟨d, 17, none⟩ = some (.pointer (some ⟨gh, 0, none⟩)) := HDG.out.cell 17
    have hdl := HDG.out.lt
    clear cb hh hP hbs hown
    go_wp2_with fail
    refine CB.out.mono ?_
    rintro en wh ⟨rfl, hh2, hkh⟩
    have DH : Hid (DialIn B (Fup F wr wh) w0 wh d gi gb gh gp (Fup F2 wr wh) A c y.hears) := by
     have := HDG.out.turnH hkh (Nat.le_trans HBS.out hkh.size) hh2
     have e : y.hears = ⟨y.s, y.p, y.loc, y.st, y.jumps, y.due, y.R, y.S, 0, (newM (arms.map ArmV.pat)).1, y.pd, y.eof, y.now⟩ := by unfold DialV.hears; rw [HO.out]
     rw [Hid, e]; exact this
    have HKH : Hid (Keep F we wh) := (Keep.of_below (F := F) HB.out).trans (hkh.mono (fun k _ hk => DE.out.fd.2.2.2.2 k hk) : Keep F wr wh) (fun _ h => .inl h)
    have HOH : Hid (Blk wh g4 56 #[.int .i64 2, .string tx, .int .i64 nn, .int .i64 tj, .slice Av na cv, .int .i64 oT, .int .i64 oE]) :=
     hkh.blk (HOB.out.below HB.out HOB.out.lt) (fun hf => by have := HF2.out _ hf; omega)
    have HSZ : Hid (we.heap.size ≤ wr.heap.size ∧ wr.heap.size ≤ wh.heap.size) := ⟨HB.out.size, hkh.size⟩
    clear hh2 hkh d17 hdl CB
    go_upto_region 14 with fail
    have p13 : wh.cell? ⟨d, 13, none⟩ = some (.int .i64 9223372036854775807) := by rw [DH.out.cell 13]; show some (Value.int .i64 y.due.til) = _; rw [HXY.out.2.2.1]
    have p14 : wh.cell? ⟨d, 14, none⟩ = some (.int .i64 t2) := by rw [DH.out.cell 14]; show some (Value.int .i64 y.due.lim) = _; rw [HXY.out.2.2.1]
    have p15 : wh.cell? ⟨d, 15, none⟩ = some (.int .i64 t3) := by rw [DH.out.cell 15]; show some (Value.int .i64 y.due.cut) = _; rw [HXY.out.2.2.1]
    have p20 : wh.cell? ⟨d, 20, none⟩ = some (.int .i64 now) := by rw [DH.out.cell 20]; show some (Value.int .i64 y.now) = _; rw [HXY.out.2.2.2]
    have o2 : wh.cell? ⟨g4, 2, none⟩ = some (.int .i64 nn) := HOH.out.cell 2
    have hdl := DH.out.lt
    have hle := HOH.out.lt
    have T1 : ∀ q : BW wh.heap.size wh, q.1.cell? ⟨d, 13, none⟩ = some (.int .i64 9223372036854775807) := fun q => q.cellAt hdl p13
    have T2 : ∀ q : BW wh.heap.size wh, q.1.cell? ⟨d, 14, none⟩ = some (.int .i64 t2) := fun q => q.cellAt hdl p14
    have T3 : ∀ q : BW wh.heap.size wh, q.1.cell? ⟨d, 15, none⟩ = some (.int .i64 t3) := fun q => q.cellAt hdl p15
    have T4 : ∀ q : BW wh.heap.size wh, q.1.cell? ⟨d, 20, none⟩ = some (.int .i64 now) := fun q => q.cellAt hdl p20
    have T5 : ∀ q : BW wh.heap.size wh, q.1.cell? ⟨g4, 2, none⟩ = some (.int .i64 nn) := fun q => q.cellAt hle o2
    clear p13 p14 p15 p20 o2
    refine wp_region_ordT wh.heap.size [14] (.val 0 (.val 1 (.val 2 (.val 3 (.val 4 (.val 5 (.val 6 (.val 7 (.val 8 (.val 9 (.val 10 (.op 11 (.val 12 (.val 13 (.op 14 (.nil)))))))))))))))) (by kernel_rfl) (by kernel_rfl) ?_
    obtain ⟨wx, hwx⟩ : ∃ W, wh.drewN 1 = W := ⟨_, rfl⟩
    have HBW : Hid (Below wh.heap.size wh wx) := by rw [← hwx]; exact drewN_below wh 1
    rw [hwx]
    clear hwx
    iterate 11 ((first | refine wpOrdT_val rfl rfl ?_ | refine wpOrdT_load rfl rfl (inBW HBW.out) ?_); go_big_quiet_step (fail); refine wpQuiet_nil ?_)
    refine wpOrdT_op rfl ?_
    go_wp2_with fail
    refine (CW.out _ _ HNN.out).mono ?_
    rintro en wq ⟨rfl, hbq⟩
    replace HBW := hid (HBW.out.trans (hbq.mono HBW.out.size))
    clear hbq
    have HBQ : Hid (Below wh.heap.size wh wq) := HBW.out
    have HKQ := hid (DH.out.blk.below HBQ.out DH.out.lt)
    have z13 : wq.cell? ⟨d, 13, none⟩ = some (.int .i64 9223372036854775807) := by rw [HKQ.out.cell 13]; show some (Value.int .i64 y.due.til) = _; rw [HXY.out.2.2.1]
    have z14 : wq.cell? ⟨d, 14, none⟩ = some (.int .i64 t2) := by rw [HKQ.out.cell 14]; show some (Value.int .i64 y.due.lim) = _; rw [HXY.out.2.2.1]
    have z15 : wq.cell? ⟨d, 15, none⟩ = some (.int .i64 t3) := by rw [HKQ.out.cell 15]; show some (Value.int .i64 y.due.cut) = _; rw [HXY.out.2.2.1]
    have y13 := HKQ.out.frozen 13; have y14 := HKQ.out.frozen 14; have y15 := HKQ.out.frozen 15
    have hlq := HKQ.out.lt
    clear T1 T2 T3 T4 T5
    go_wp2_with fail
    refine KT.keep (inBW HBW.out) ?_
    iterate 2 (refine wpOrdT_val rfl rfl ?_; go_big_quiet_step (fail); refine wpQuiet_nil ?_)
    refine wpOrdT_op rfl ?_
    go_wp2_with fail
    refine KT.past rfl ?_
    refine wpOrdT_nil ?_
    go_wp2_with fail
    obtain ⟨wz, hwz⟩ : ∃ W, setD3 wq d (.int .i64 (behindT now nn)) (.int .i64 t2) (.int .i64 t3) = W := ⟨_, rfl⟩
    have KZ : Keep (fun k => k = d) wq wz := by rw [← hwz]; exact setD3_keep _ _ _ _ _
    have E : behindT y.hears.now y.hears.op.n = behindT now nn ∧ y.hears.due.lim = t2 ∧ y.hears.due.cut = t3 := ⟨by show behindT y.now y.op.n = _; rw [HXY.out.2.2.2, HO.out], by show y.due.lim = _; rw [HXY.out.2.2.1], by show y.due.cut = _; rw [HXY.out.2.2.1]⟩
    have BZ : Blk wz d 107 (y.hears.waits.cells A c gi gh gp) := by rw [← hwz, ← E.1, ← E.2.1, ← E.2.2]; exact ((HKQ.out.set 13 _).set 14 _).set 15 _
    unfold setD3 at hwz
    rw [hwz]
    try go_end0
    have DQ := (DH.out.below HBQ.out).turn KZ BZ rfl rfl rfl rfl rfl rfl rfl DH.out.ok.waits
    have hz1 := HBQ.out.size
    have hz2 := KZ.size
    have hf := FIN.out _ wz y.hears.waits (by have := HSZ.out; omega) ((HKH.out.trans (Keep.of_below (F := F) HBQ.out) (fun _ h => .inl h)).trans (KZ.mono (fun k _ (e : k = d) => by rw [e]; exact DE.out.fd.1) : Keep F wq wz) (fun _ h => .inl h)) ⟨_, DQ⟩ (fun k hk => hk.imp id (fun h => ⟨Nat.le_trans HSZ.out.1 h.1, by omega⟩))
    rw [HE.out]
    exact ⟨rfl, hf.1, hf.2⟩
 have hk2f : (k == 2) = false := by rw [beq_eq_false_iff_ne]; exact hk2
 have HK2 := hid hk2
 clear hk2
 by_cases hk4 : k = 4
 ·subst hk4
  have HE : Hid (x.come tt = y.waits) := by rw [Hid, HXY.out.1]; unfold DialV.enters; rw [HO.out]; rw [if_neg (show ¬ (4 : Int) = 1 by decide), if_neg (show ¬ (4 : Int) = 2 by decide), if_pos rfl]
  go_upto_region 16 with fail
  have p13 : we.cell? ⟨d, 13, none⟩ = some (.int .i64 9223372036854775807) := by rw [DE.out.cell 13]; show some (Value.int .i64 y.due.til) = _; rw [HXY.out.2.2.1]
  have p14 : we.cell? ⟨d, 14, none⟩ = some (.int .i64 t2) := by rw [DE.out.cell 14]; show some (Value.int .i64 y.due.lim) = _; rw [HXY.out.2.2.1]
  have p15 : we.cell? ⟨d, 15, none⟩ = some (.int .i64 t3) := by rw [DE.out.cell 15]; show some (Value.int .i64 y.due.cut) = _; rw [HXY.out.2.2.1]
  have p20 : we.cell? ⟨d, 20, none⟩ = some (.int .i64 now) := by rw [DE.out.cell 20]; show some (Value.int .i64 y.now) = _; rw [HXY.out.2.2.2]
  have T1 : ∀ q : BW we.heap.size we, q.1.cell? ⟨d, 13, none⟩ = some (.int .i64 9223372036854775807) := fun q => q.cellAt hdl p13
  have T2 : ∀ q : BW we.heap.size we, q.1.cell? ⟨d, 14, none⟩ = some (.int .i64 t2) := fun q => q.cellAt hdl p14
  have T3 : ∀ q : BW we.heap.size we, q.1.cell? ⟨d, 15, none⟩ = some (.int .i64 t3) := fun q => q.cellAt hdl p15
  have T4 : ∀ q : BW we.heap.size we, q.1.cell? ⟨d, 20, none⟩ = some (.int .i64 now) := fun q => q.cellAt hdl p20
  have T5 : ∀ q : BW we.heap.size we, q.1.cell? ⟨g4, 2, none⟩ = some (.int .i64 nn) := fun q => q.cellAt hle q2
  clear d17 d18 q0 q1 q2 q3 q4 q5 q6 p13 p14 p15 p20
  refine wp_region_ordT we.heap.size [14] (.val 0 (.val 1 (.val 2 (.val 3 (.val 4 (.val 5 (.val 6 (.val 7 (.val 8 (.val 9 (.val 10 (.op 11 (.val 12 (.val 13 (.op 14 (.nil)))))))))))))))) (by kernel_rfl) (by kernel_rfl) ?_
  obtain ⟨wx, hwx⟩ : ∃ W, we.drewN 1 = W := ⟨_, rfl⟩
  have HBW : Hid (Below we.heap.size we wx) := by rw [← hwx]; exact drewN_below we 1
  rw [hwx]
  clear hwx
  iterate 11 ((first | refine wpOrdT_val rfl rfl ?_ | refine wpOrdT_load rfl rfl (inBW HBW.out) ?_); go_big_quiet_step (fail); refine wpQuiet_nil ?_)
  refine wpOrdT_op rfl ?_
  go_wp2_with fail
  refine (CW.out _ _ HNN.out).mono ?_
  rintro en wq ⟨rfl, hbq⟩
  replace HBW := hid (HBW.out.trans (hbq.mono HBW.out.size))
  clear hbq
  have HBQ : Hid (Below we.heap.size we wq) := HBW.out
  have HKQ := hid (DE.out.blk.below HBQ.out DE.out.lt)
  have z13 : wq.cell? ⟨d, 13, none⟩ = some (.int .i64 9223372036854775807) := by rw [HKQ.out.cell 13]; show some (Value.int .i64 y.due.til) = _; rw [HXY.out.2.2.1]
  have z14 : wq.cell? ⟨d, 14, none⟩ = some (.int .i64 t2) := by rw [HKQ.out.cell 14]; show some (Value.int .i64 y.due.lim) = _; rw [HXY.out.2.2.1]
  have z15 : wq.cell? ⟨d, 15, none⟩ = some (.int .i64 t3) := by rw [HKQ.out.cell 15]; show some (Value.int .i64 y.due.cut) = _; rw [HXY.out.2.2.1]
  have y13 := HKQ.out.frozen 13; have y14 := HKQ.out.frozen 14; have y15 := HKQ.out.frozen 15
  have hlq := HKQ.out.lt
  clear T1 T2 T3 T4 T5
  go_wp2_with fail
  refine KT.keep (inBW HBW.out) ?_
  iterate 2 (refine wpOrdT_val rfl rfl ?_; go_big_quiet_step (fail); refine wpQuiet_nil ?_)
  refine wpOrdT_op rfl ?_
  go_wp2_with fail
  refine KT.past rfl ?_
  refine wpOrdT_nil ?_
  go_wp2_with fail
  obtain ⟨wz, hwz⟩ : ∃ W, setD3 wq d (.int .i64 (behindT now nn)) (.int .i64 t2) (.int .i64 t3) = W := ⟨_, rfl⟩
  have KZ : Keep (fun k => k = d) wq wz := by rw [← hwz]; exact setD3_keep _ _ _ _ _
  have E : behindT y.now y.op.n = behindT now nn ∧ y.due.lim = t2 ∧ y.due.cut = t3 := ⟨by show behindT y.now y.op.n = _; rw [HXY.out.2.2.2, HO.out], by show y.due.lim = _; rw [HXY.out.2.2.1], by show y.due.cut = _; rw [HXY.out.2.2.1]⟩
  have BZ : Blk wz d 107 (y.waits.cells A c gi gh gp) := by rw [← hwz, ← E.1, ← E.2.1, ← E.2.2]; exact ((HKQ.out.set 13 _).set 14 _).set 15 _
  unfold setD3 at hwz
  rw [hwz]
  try go_end0
  have DQ := (DE.out.below HBQ.out).turn KZ BZ rfl rfl rfl rfl rfl rfl rfl DE.out.ok.waits
  have hf := FIN.out F wz y.waits (Nat.le_trans HBQ.out.size KZ.size) ((Keep.of_below (F := F) HBQ.out).trans (KZ.mono (fun k _ (e : k = d) => by rw [e]; exact DE.out.fd.1) : Keep F wq wz) (fun _ h => .inl h)) ⟨F2, DQ⟩ (fun k hk => .inl hk)
  rw [HE.out]
  exact ⟨rfl, hf.1, hf.2⟩
 have hk4f : (k == 4) = false := by rw [beq_eq_false_iff_ne]; exact hk4
 have HE : Hid (x.come tt = y) := by rw [Hid, HXY.out.1]; unfold DialV.enters; rw [HO.out]; rw [if_neg HK1.out, if_neg HK2.out, if_neg hk4]
 clear hk4
 go_wp2_with fail
 try go_end0
 have hf := FIN.out F we y (Nat.le_refl _) (Keep.refl F we) ⟨F2, DE.out⟩ (fun k hk => .inl hk)
 rw [HE.out]
 exact ⟨rfl, hf.1, hf.2⟩
end
def setS6 (w : World) (g : Nat) (a b c d e f : Value) : World := (((((w.setCell ⟨g, 0, none⟩ a).setCell ⟨g, 1, none⟩ b).setCell ⟨g, 2, none⟩ c).setCell ⟨g, 3, none⟩ d).setCell ⟨g, 4, none⟩ e).setCell ⟨g, 5, none⟩ f
theorem setS6_blk {w : World} {g : Nat} {t : TypeId} {x0 x1 x2 x3 x4 x5 : Value} (h : Blk w g t #[x0, x1, x2, x3, x4, x5]) (a b c d e f : Value) : Blk (setS6 w g a b c d e f) g t #[a, b, c, d, e, f] := by
 have h0 : Blk _ g t #[a, x1, x2, x3, x4, x5] := h.set 0 a
 have h1 : Blk _ g t #[a, b, x2, x3, x4, x5] := h0.set 1 b
 have h2 : Blk _ g t #[a, b, c, x3, x4, x5] := h1.set 2 c
 have h3 : Blk _ g t #[a, b, c, d, x4, x5] := h2.set 3 d
 have h4 : Blk _ g t #[a, b, c, d, e, x5] := h3.set 4 e
 exact h4.set 5 f
theorem setS6_keep (w : World) (g : Nat) (a b c d e f : Value) : Keep (fun k => k = g) w (setS6 w g a b c d e f) :=
 (set1_keep w g 0 a).trans ((set1_keep _ g 1 b).trans ((set1_keep _ g 2 c).trans ((set1_keep _ g 3 d).trans ((set1_keep _ g 4 e).trans (set1_keep _ g 5 f) (fun _ h => .inl h)) (fun _ h => .inl h)) (fun _ h => .inl h)) (fun _ h => .inl h)) (fun _ h => .inl h)
theorem fact6 {w : World} {g : Nat} {t : TypeId} {x0 x1 x2 x3 x4 x5 : Value} (h : Blk w g t #[x0, x1, x2, x3, x4, x5]) : w.cell? ⟨g, 0, none⟩ = some x0 ∧ w.cell? ⟨g, 1, none⟩ = some x1 ∧ w.cell? ⟨g, 2, none⟩ = some x2 ∧ w.cell? ⟨g, 3, none⟩ = some x3 ∧ w.cell? ⟨g, 4, none⟩ = some x4 ∧ w.cell? ⟨g, 5, none⟩ = some x5 :=
 ⟨h.cell 0, h.cell 1, h.cell 2, h.cell 3, h.cell 4, h.cell 5⟩
section
variable {B d gi gb gh gp c : Nat} {F F2 : Nat → Prop} {w0 w w' : World} {A : Option Addr} {x : DialV}
theorem DialAt.mono {G : Nat → Prop} (h : DialAt B F w0 w d x) (hg : ∀ k, F k → G k) (hG : ∀ k, G k → B ≤ k ∧ k < w.heap.size) : DialAt B G w0 w d x := by
 obtain ⟨gi, gb, gh, gp, F2, A, c, h⟩ := h
 exact ⟨gi, gb, gh, gp, F2, A, c, h.mono hg hG⟩
theorem DialAt.lt (h : DialAt B F w0 w d x) : d < w.heap.size := by obtain ⟨gi, gb, gh, gp, F2, A, c, h⟩ := h; exact h.lt
theorem DialAt.wrap {G : Nat → Prop} {wa w1 w2 : World} (h : DialAt B (Fup F wa w1) w0 w1 d x) (hF : ∀ k, F k → B ≤ k ∧ k < w.heap.size) (hB : B ≤ w.heap.size) (h1 : w.heap.size ≤ wa.heap.size) (hk : Keep G w1 w2) (hG : ∀ k, G k → w.heap.size ≤ k ∧ k < wa.heap.size) : DialAt B (Fup F w w2) w0 w2 d x := by
 refine (h.keep hk ?_ (fun k hg => Nat.le_trans hB (hG k hg).1)).mono ?_ ?_
 ·rintro k (hf | hf) hg
  ·have := hF k hf; have := hG k hg; omega
  ·have := hG k hg; omega
 ·rintro k (hf | hf)
  ·exact .inl hf
  ·exact .inr ⟨Nat.le_trans h1 hf.1, Nat.lt_of_lt_of_le hf.2 hk.size⟩
 ·have := hk.size
  rintro k (hf | hf)
  ·have h2 := hF k hf; have h3 := h.lt
   refine ⟨h2.1, ?_⟩
   obtain ⟨gi, gb, gh, gp, F2, A, c, h⟩ := h
   have := (h.fin k (.inl hf)).2; omega
  ·exact ⟨Nat.le_trans hB hf.1, hf.2⟩
theorem DialOk.hop (h : DialOk x) (hj : x.jumps < 1000) : DialOk x.hop := by
 obtain ⟨o1, o2, o3, o4, o5, o6, o7, o8, o9, o10⟩ := h
 exact ⟨o1, o2, o3, o4, o5, by show x.jumps + 1 ≤ 2000; omega, o7, o8, o9, o10⟩
set_option maxRecDepth 20000 in
set_option maxHeartbeats 4000000 in
theorem dJump_any (h : DialIn B F w0 w d gi gb gh gp F2 A c x) (v : StepV) (tt : Int) (htt : tt ≤ (x.p.ops.length : Int)) : Calls Tryz.prog 115 #[.pointer (some ⟨d, 0, none⟩), v.val, .int .i64 tt] w fun e w' => e = .returned (StepV.val ⟨v.tick, v.loc, (x.jump v.what tt).2, v.arm, v.n, v.st⟩) ∧ DialAt B (Fup F w w') w0 w' d (x.jump v.what tt).1 ∧ Keep F w w' := by
 obtain ⟨vt, vl, vw, va, vn, vs⟩ := v
 unfold StepV.val
 have HF : Hid (∀ k, F k → B ≤ k ∧ k < w.heap.size) := h.fin
 have HBW : Hid (B ≤ w.heap.size) := h.base.2
 obtain ⟨wa, hwa⟩ : ∃ W, (w.alloc (.cells #[.int .i64 vt, .int .i64 (vl : Int), .int .i64 (vw : Int), .int .i64 (va : Int), .int .i64 (vn : Int), .int .i64 (vs : Int)] 51)).alloc (.cells #[.int .i64 0, .int .i64 0, .int .i64 0, .int .i64 0, .int .i64 0, .int .i64 0] 51) = W := ⟨_, rfl⟩
 have HBA : Hid (Below w.heap.size w wa) := by rw [← hwa]; exact below2 _ _ _
 have HXA : Hid (Blk wa w.heap.size 51 #[.int .i64 vt, .int .i64 (vl : Int), .int .i64 (vw : Int), .int .i64 (va : Int), .int .i64 (vn : Int), .int .i64 (vs : Int)]) := by rw [← hwa]; exact (Blk.new w _ _).alloc _
 have HRA : Hid (Blk wa (w.heap.size + 1) 51 #[.int .i64 0, .int .i64 0, .int .i64 0, .int .i64 0, .int .i64 0, .int .i64 0]) := by rw [← hwa]; exact new2 _ _ _ _
 have HSA : Hid (wa.heap.size = w.heap.size + 2) := by rw [← hwa, Hid]; simp
 have HWA := hid hwa
 have HD := hid h
 have HDA := hid (h.below HBA.out)
 clear hwa h
 obtain ⟨gx, hgx⟩ : ∃ y, w.heap.size = y := ⟨_, rfl⟩
 have HGX := hid hgx
 have HG1 : Hid (w.heap.size + 1 = gx + 1) := by rw [hgx]; rfl
 rw [hgx] at HXA HRA HSA
 obtain ⟨gr, hgr⟩ : ∃ y, gx + 1 = y := ⟨_, rfl⟩
 have HGR := hid hgr
 rw [hgr] at HRA
 -- what follows a call that leaves the dialogue
 have TAIL : Hid (∀ (w1 w2 : World) (y : DialV) (G : Nat → Prop), DialAt B (Fup F wa w1) w0 w1 d y → Keep F wa w1 → Keep G w1 w2 → (∀ k, G k → gx ≤ k ∧ k < wa.heap.size) → DialAt B (Fup F w w2) w0 w2 d y ∧ Keep F w w2) := by
  intro w1 w2 y G h1 h2 h3 h4
  refine ⟨h1.wrap HF.out HBW.out HBA.out.size h3 (fun k hk => by rw [HGX.out]; exact h4 k hk), ?_⟩
  refine ((Keep.of_below (F := F) HBA.out).trans h2 (fun _ h => .inl h)).trans h3 (fun k hk => .inr ?_)
  rw [HGX.out]; exact (h4 k hk).1
 have TAIL2 : Hid (∀ (w1 w2 : World) (y : DialV) (G : Nat → Prop), DialAt B (Fup F wa w1) w0 w1 d y → Keep (fun k => F k ∨ k = gx) wa w1 → Keep G w1 w2 → (∀ k, G k → gx ≤ k ∧ k < wa.heap.size) → DialAt B (Fup F w w2) w0 w2 d y ∧ Keep F w w2) := by
  intro w1 w2 y G h1 h2 h3 h4
  refine ⟨h1.wrap HF.out HBW.out HBA.out.size h3 (fun k hk => by rw [HGX.out]; exact h4 k hk), ?_⟩
  refine ((Keep.of_below (F := F) HBA.out).trans h2 (fun k h => h.imp id (fun e => by rw [e, HGX.out]; exact Nat.le_refl _))).trans h3 (fun k hk => .inr ?_)
  rw [HGX.out]; exact (h4 k hk).1
 have HFX : Hid (¬ F gx ∧ ¬ F gr) := ⟨fun hf => by have := HF.out _ hf; omega, fun hf => by have := HF.out _ hf; omega⟩
 have HJ := hid (show DialV.jump x vw tt = if tt < 0 then (x.stop 2, vw) else if x.p.jumps ≤ (x.jumps : Int) then (x.stop 2, 11) else (x.hop.come tt.toNat, vw) from rfl)
 obtain ⟨R, hR⟩ : ∃ R, DialV.jump x vw tt = R := ⟨_, rfl⟩
 simp only [hR] at HJ ⊢
 clear hR hgx hgr
 by_cases h0 : tt < 0
 ·have CS := hid (dStop_any HDA.out 2 (by omega))
  have HR : Hid (R = (x.stop 2, vw)) := by rw [Hid, HJ.out, if_pos h0]
  clear HJ htt
  go_enter Tryz.func115, Tryz.ntmps115
  go_upto_region 3 with fail
  rw [HWA.out, HGX.out]
  have hgg : gx + 1 = gr := HGR.out
  rw [hgg]
  clear hgg
  go_wp2_with fail
  refine CS.out.mono ?_
  rintro en w1 ⟨rfl, hd1, hk1⟩
  have HD1 := hid hd1; have HK1 := hid hk1
  have HX1 := hid (hk1.blk HXA.out HFX.out.1)
  have HR1 := hid (hk1.blk HRA.out HFX.out.2)
  clear hd1 hk1 CS
  obtain ⟨x0, x1, x2, x3, x4, x5⟩ := fact6 HX1.out
  obtain ⟨r0, r1, r2, r3, r4, r5⟩ := fact6 HR1.out
  have f0 := HR1.out.frozen 0; have f1 := HR1.out.frozen 1; have f2 := HR1.out.frozen 2; have f3 := HR1.out.frozen 3; have f4 := HR1.out.frozen 4; have f5 := HR1.out.frozen 5
  have hlx := HX1.out.lt; have hlr := HR1.out.lt
  go_wp2_with fail
  obtain ⟨wz, hwz⟩ : ∃ W, setS6 w1 gr (.int .i64 vt) (.int .i64 (vl : Int)) (.int .i64 (vw : Int)) (.int .i64 (va : Int)) (.int .i64 (vn : Int)) (.int .i64 (vs : Int)) = W := ⟨_, rfl⟩
  have KZ : Keep (fun k => k = gr) w1 wz := by rw [← hwz]; exact setS6_keep _ _ _ _ _ _ _ _
  have BZ := setS6_blk HR1.out (.int .i64 vt) (.int .i64 (vl : Int)) (.int .i64 (vw : Int)) (.int .i64 (va : Int)) (.int .i64 (vn : Int)) (.int .i64 (vs : Int))
  rw [hwz] at BZ
  unfold setS6 at hwz
  rw [hwz]
  clear hwz
  obtain ⟨t0, t1, t2, t3, t4, t5⟩ := fact6 BZ
  have hlz : gr < wa.heap.size := HRA.out.lt
  have hgz : gx ≤ gr := by have := HGR.out; omega
  have hf := TAIL.out w1 wz (x.stop 2) (fun k => k = gr) HD1.out HK1.out KZ (fun k e => by rw [(e : k = gr)]; exact ⟨hgz, hlz⟩)
  refine bodyPost_ret (v := .agg #[.int .i64 vt, .int .i64 (vl : Int), .int .i64 (vw : Int), .int .i64 (va : Int), .int .i64 (vn : Int), .int .i64 (vs : Int)]) (by simp [results, Tryz.results115, go_sem, t0, t1, t2, t3, t4, t5]) rfl ⟨?_, ?_, hf.2⟩
  ·rw [HR.out]; try rfl
  ·rw [HR.out]; exact hf.1
 have HJ2 : Hid (R = if x.p.jumps ≤ (x.jumps : Int) then (x.stop 2, 11) else (x.hop.come tt.toNat, vw)) := by rw [Hid, HJ.out, if_neg h0]
 have hpj := (wrongM_zero _ HD.out.ok.pgood).2.1
 obtain ⟨pj, hpjn⟩ : ∃ y, x.p.jumps = y := ⟨_, rfl⟩
 obtain ⟨jm, hjm⟩ : ∃ y, x.jumps = y := ⟨_, rfl⟩
 rw [hpjn] at hpj HJ2
 rw [hjm] at HJ2
 have c8 : wa.cell? ⟨d, 8, none⟩ = some (.int .i64 pj) := by rw [← hpjn]; exact HDA.out.cell 8
 have c12 : wa.cell? ⟨d, 12, none⟩ = some (.int .i64 (jm : Int)) := by rw [← hjm]; exact HDA.out.cell 12
 have hdl := HDA.out.lt
 have T8 : ∀ q : BW wa.heap.size wa, q.1.cell? ⟨d, 8, none⟩ = some (.int .i64 pj) := fun q => q.cellAt hdl c8
 have T12 : ∀ q : BW wa.heap.size wa, q.1.cell? ⟨d, 12, none⟩ = some (.int .i64 (jm : Int)) := fun q => q.cellAt hdl c12
 have HJP := hid (And.intro hpjn hjm)
 clear HJ c8 c12 hpjn hjm
 by_cases h1 : pj ≤ (jm : Int)
 ·have HR : Hid (R = (x.stop 2, 11)) := by rw [Hid, HJ2.out, if_pos h1]
  clear HJ2 htt
  go_enter Tryz.func115, Tryz.ntmps115
  go_upto_region 3 with fail
  rw [HWA.out, HGX.out]
  have hgg : gx + 1 = gr := HGR.out
  rw [hgg]
  clear hgg
  go_upto_region 5 with fail
  refine wp_region_below wa.heap.size (by kernel_rfl) (by kernel_rfl) ?_
  repeat (go_big_quiet_step (fail))
  refine wpQuiet_nil ?_
  intro wu hqu
  have HBU : Hid (Below wa.heap.size wa wu) := by obtain ⟨q, rfl⟩ := hqu; exact q.2
  clear hqu T8 T12
  have HX0 := hid (HXA.out.below HBU.out HXA.out.lt)
  have HR0 := hid (HRA.out.below HBU.out HRA.out.lt)
  have e2 : wu.cell? ⟨gx, 2, none⟩ = some (.int .i64 (vw : Int)) := HX0.out.cell 2
  have ef := HX0.out.frozen 2
  have hxl := HX0.out.lt
  go_upto_region 7 with fail
  obtain ⟨wv, hwv⟩ : ∃ W, wu.setCell ⟨gx, 2, none⟩ (.int .i64 11) = W := ⟨_, rfl⟩
  have HXV : Hid (Blk wv gx 51 #[.int .i64 vt, .int .i64 (vl : Int), .int .i64 11, .int .i64 (va : Int), .int .i64 (vn : Int), .int .i64 (vs : Int)]) := by rw [← hwv]; exact HX0.out.set 2 _
  have HKV : Hid (Keep (fun k => k = gx) wa wv) := by rw [← hwv]; exact (Keep.of_below (F := fun k => k = gx) HBU.out).trans (set1_keep _ _ _ _) (fun _ h => .inl h)
  rw [hwv]
  clear hwv e2 ef hxl HX0
  have HDV : Hid (DialIn B F w0 wv d gi gb gh gp F2 A c x) := HDA.out.keep HKV.out (fun k hf e => HFX.out.1 (by rw [← (e : k = gx)]; exact hf)) (fun k e => by rw [(e : k = gx), ← HGX.out]; exact HBW.out)
  have HRV : Hid (Blk wv gr 51 #[.int .i64 0, .int .i64 0, .int .i64 0, .int .i64 0, .int .i64 0, .int .i64 0]) := HKV.out.blk HRA.out (fun (e : gr = gx) => by have := HGR.out; omega)
  have CS := hid (dStop_any HDV.out 2 (by omega))
  go_wp2_with fail
  refine CS.out.mono ?_
  rintro en w1 ⟨rfl, hd1, hk1⟩
  have HD1 : Hid (DialAt B (Fup F wa w1) w0 w1 d (x.stop 2)) := hd1.mono (fun k hk => hk.imp id (fun h => ⟨Nat.le_trans HKV.out.size h.1, h.2⟩)) (by
   rintro k (hf | hf)
   ·have := HF.out k hf; exact ⟨this.1, by have := HBA.out.size; have := HKV.out.size; have := hk1.size; omega⟩
   ·exact ⟨by have := HBA.out.size; have := HBW.out; omega, hf.2⟩)
  have HX1 := hid (hk1.blk HXV.out HFX.out.1)
  have HR1 := hid (hk1.blk HRV.out HFX.out.2)
  have HKW : Hid (Keep (fun k => F k ∨ k = gx) wa w1) := (HKV.out.mono (fun k _ e => .inr e) : Keep (fun k => F k ∨ k = gx) wa wv).trans hk1 (fun _ h => .inl (.inl h))
  clear hd1 hk1 CS
  obtain ⟨x0, x1, x2, x3, x4, x5⟩ := fact6 HX1.out
  obtain ⟨r0, r1, r2, r3, r4, r5⟩ := fact6 HR1.out
  have f0 := HR1.out.frozen 0; have f1 := HR1.out.frozen 1; have f2 := HR1.out.frozen 2; have f3 := HR1.out.frozen 3; have f4 := HR1.out.frozen 4; have f5 := HR1.out.frozen 5
  have hlx := HX1.out.lt; have hlr := HR1.out.lt
  go_wp2_with fail
  obtain ⟨wz, hwz⟩ : ∃ W, setS6 w1 gr (.int .i64 vt) (.int .i64 (vl : Int)) (.int .i64 11) (.int .i64 (va : Int)) (.int .i64 (vn : Int)) (.int .i64 (vs : Int)) = W := ⟨_, rfl⟩
  have KZ : Keep (fun k => k = gr) w1 wz := by rw [← hwz]; exact setS6_keep _ _ _ _ _ _ _ _
  have BZ := setS6_blk HR1.out (.int .i64 vt) (.int .i64 (vl : Int)) (.int .i64 11) (.int .i64 (va : Int)) (.int .i64 (vn : Int)) (.int .i64 (vs : Int))
  rw [hwz] at BZ
  unfold setS6 at hwz
  rw [hwz]
  clear hwz
  obtain ⟨t0, t1, t2, t3, t4, t5⟩ := fact6 BZ
  have hlz : gr < wa.heap.size := HRA.out.lt
  have hgz : gx ≤ gr := by have := HGR.out; omega
  have hf := TAIL2.out w1 wz (x.stop 2) (fun k => k = gr) HD1.out HKW.out KZ (fun k e => by rw [(e : k = gr)]; exact ⟨hgz, hlz⟩)
  refine bodyPost_ret (v := .agg #[.int .i64 vt, .int .i64 (vl : Int), .int .i64 11, .int .i64 (va : Int), .int .i64 (vn : Int), .int .i64 (vs : Int)]) (by simp [results, Tryz.results115, go_sem, t0, t1, t2, t3, t4, t5]) rfl ⟨?_, ?_, hf.2⟩
  ·rw [HR.out]; try rfl
  ·rw [HR.out]; exact hf.1
 have HR : Hid (R = (x.hop.come tt.toNat, vw)) := by rw [Hid, HJ2.out, if_neg h1]
 clear HJ2
 have h1' : (jm : Int) < pj := by omega
 obtain ⟨tn, htn⟩ : ∃ y : Nat, tt = (y : Int) := ⟨tt.toNat, by omega⟩
 subst htn
 have HTN : Hid (tn ≤ x.p.ops.length) := by rw [Hid]; omega
 go_enter Tryz.func115, Tryz.ntmps115
 go_upto_region 3 with fail
 rw [HWA.out, HGX.out]
 have hgg : gx + 1 = gr := HGR.out
 rw [hgg]
 clear hgg
 go_upto_region 5 with fail
 refine wp_region_below wa.heap.size (by kernel_rfl) (by kernel_rfl) ?_
 repeat (go_big_quiet_step (fail))
 refine wpQuiet_nil ?_
 intro wu hqu
 have HBU : Hid (Below wa.heap.size wa wu) := by obtain ⟨q, rfl⟩ := hqu; exact q.2
 clear hqu T8 T12
 have HDU := hid (HDA.out.below HBU.out)
 have u12 : wu.cell? ⟨d, 12, none⟩ = some (.int .i64 (jm : Int)) := by rw [← HJP.out.2]; exact HDU.out.cell 12
 have uf := HDU.out.blk.frozen 12
 have hdu := HDU.out.lt
 go_upto_region 2 with fail
 obtain ⟨wv, hwv⟩ : ∃ W, wu.setCell ⟨d, 12, none⟩ (.int .i64 ((jm : Int) + 1)) = W := ⟨_, rfl⟩
 have HKV : Hid (Keep (fun k => k = d) wa wv) := by rw [← hwv]; exact (Keep.of_below (F := fun k => k = d) HBU.out).trans (set1_keep _ _ _ _) (fun _ h => .inl h)
 have HBV : Hid (Blk wv d 107 (x.hop.cells A c gi gh gp)) := by
  have e : (jm : Int) + 1 = ((x.jumps + 1 : Nat) : Int) := by rw [HJP.out.2]; simp
  rw [← hwv, Hid, e]; exact HDU.out.blk.set 12 _
 rw [hwv]
 clear hwv u12 uf hdu
 have HDV : Hid (DialIn B F w0 wv d gi gb gh gp F2 A c x.hop) := HDA.out.turn HKV.out HBV.out rfl rfl rfl rfl rfl rfl rfl (HD.out.ok.hop (by have := HJP.out.2; omega))
 have HXV := hid (HKV.out.blk HXA.out (fun (e : gx = d) => HFX.out.1 (by rw [e]; exact HD.out.fd.1)))
 have HRV := hid (HKV.out.blk HRA.out (fun (e : gr = d) => HFX.out.2 (by rw [e]; exact HD.out.fd.1)))
 have CS := hid (dCome_any HDV.out tn HTN.out)
 go_wp2_with fail
 refine CS.out.mono ?_
 rintro en w1 ⟨rfl, hd1, hk1⟩
 have HD1 : Hid (DialAt B (Fup F wa w1) w0 w1 d (x.hop.come tn)) := hd1.mono (fun k hk => hk.imp id (fun h => ⟨Nat.le_trans HKV.out.size h.1, h.2⟩)) (by
  rintro k (hf | hf)
  ·have := HF.out k hf; exact ⟨this.1, by have := HBA.out.size; have := HKV.out.size; have := hk1.size; omega⟩
  ·exact ⟨by have := HBA.out.size; have := HBW.out; omega, hf.2⟩)
 have HX1 := hid (hk1.blk HXV.out HFX.out.1)
 have HR1 := hid (hk1.blk HRV.out HFX.out.2)
 have HKW : Hid (Keep F wa w1) := (HKV.out.mono (fun k _ (e : k = d) => by rw [e]; exact HD.out.fd.1) : Keep F wa wv).trans hk1 (fun _ h => .inl h)
 clear hd1 hk1 CS
 obtain ⟨x0, x1, x2, x3, x4, x5⟩ := fact6 HX1.out
 obtain ⟨r0, r1, r2, r3, r4, r5⟩ := fact6 HR1.out
 have f0 := HR1.out.frozen 0; have f1 := HR1.out.frozen 1; have f2 := HR1.out.frozen 2; have f3 := HR1.out.frozen 3; have f4 := HR1.out.frozen 4; have f5 := HR1.out.frozen 5
 have hlx := HX1.out.lt; have hlr := HR1.out.lt
 go_wp2_with fail
 obtain ⟨wz, hwz⟩ : ∃ W, setS6 w1 gr (.int .i64 vt) (.int .i64 (vl : Int)) (.int .i64 (vw : Int)) (.int .i64 (va : Int)) (.int .i64 (vn : Int)) (.int .i64 (vs : Int)) = W := ⟨_, rfl⟩
 have KZ : Keep (fun k => k = gr) w1 wz := by rw [← hwz]; exact setS6_keep _ _ _ _ _ _ _ _
 have BZ := setS6_blk HR1.out (.int .i64 vt) (.int .i64 (vl : Int)) (.int .i64 (vw : Int)) (.int .i64 (va : Int)) (.int .i64 (vn : Int)) (.int .i64 (vs : Int))
 rw [hwz] at BZ
 unfold setS6 at hwz
 rw [hwz]
 clear hwz
 obtain ⟨t0, t1, t2, t3, t4, t5⟩ := fact6 BZ
 have hlz : gr < wa.heap.size := HRA.out.lt
 have hgz : gx ≤ gr := by have := HGR.out; omega
 have hf := TAIL.out w1 wz (x.hop.come tn) (fun k => k = gr) HD1.out HKW.out KZ (fun k e => by rw [(e : k = gr)]; exact ⟨hgz, hlz⟩)
 refine bodyPost_ret (v := .agg #[.int .i64 vt, .int .i64 (vl : Int), .int .i64 (vw : Int), .int .i64 (va : Int), .int .i64 (vn : Int), .int .i64 (vs : Int)]) (by simp [results, Tryz.results115, go_sem, t0, t1, t2, t3, t4, t5]) rfl ⟨?_, ?_, hf.2⟩
 ·rw [HR.out]; try rfl
 ·rw [HR.out]; exact hf.1
end
end Go.Proofs.YtpkkfdmhbbipoaaGreat
