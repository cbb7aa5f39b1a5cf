/- ProgSame: for every two scripts and number the law answers true. No condition. -/
import Derived.Test.YtpkkfdmhbbipoaaPs
import Derived.Test.YtpkkfdmhbbipoaaPr
import Derived.Deep.DeepCutAuto
import Derived.Test.YtpkkfdmhbbipoaaMi
namespace Go.Proofs.Ytpkkfdmhbbipoaa
open Go.RowKit PopT

theorem fewP_len (p : ProgV) (most : Nat) : (fewP p most).ops.length ≤ most ∧ ∀ o ∈ (fewP p most).ops, o.arms.length ≤ 10 := by
  refine ⟨by show ((p.ops.take most).map cutO).length ≤ most; rw [List.length_map, List.length_take]; omega, fun o ho => ?_⟩
  obtain ⟨x, -, rfl⟩ := List.mem_map.1 ho
  show ((x.arms.take 10).map cutA).length ≤ 10
  rw [List.length_map, List.length_take]; omega
/-- The memory of a script that may be written on: its ops' row, and each one's arms. -/
def CpOk (lo hi : Nat) (W : World) (A : Option Addr) (l : List OpV) : Prop :=
  l = [] ∨ ∃ gO cs, A = some ⟨gO, 0, none⟩ ∧ (lo ≤ gO ∧ gO < hi) ∧ Blk W gO 38 cs ∧ l.length * 7 ≤ cs.size ∧ ∀ i (h : i < l.length), (∃ k, cs[i * 7]? = some (.int .i64 k)) ∧ ∃ Ai ci, cs[i * 7 + 4]? = some (.slice Ai (l[i]).arms.length ci) ∧
    ((l[i]).arms.length = 0 ∨ ∃ gi ds, Ai = some ⟨gi, 0, none⟩ ∧ (lo ≤ gi ∧ gi < hi) ∧ Blk W gi 40 ds ∧ (l[i]).arms.length * 2 ≤ ds.size)
theorem own_blk {w : World} {b0 e size n g c : Nat} {xs : List Value} (h : w.ownsRow b0 e size (.slice (some ⟨g, 0, none⟩) n c) n xs) : ∃ cs, Blk w g e cs ∧ cs.toList.take (n * size) = xs ∧ n * size ≤ cs.size := by
  rcases h.2 with ⟨hv, h0⟩ | ⟨g', cap, cur, hv, hb, hg, hn, hc, hz, hx⟩
  · injection hv with h1 _ _; cases h1
  · injection hv with h1 h2 h3
    injection h1 with h1; injection h1 with h1
    subst h1
    exact ⟨cur, hg, hx, by rw [hz]; exact Nat.mul_le_mul_right _ hn⟩
theorem opV_get (xs : List (OpV × Value)) (k : Nat) (h : k < xs.length) (j : Nat) (hj : j < 7) : (opVCells xs)[k * 7 + j]? = ((xs[k]).1.cells (xs[k]).2)[j]? :=
  flatMap_get (fun x : OpV × Value => x.1.cells x.2) 7 xs (fun _ _ => rfl) k h j hj
theorem CpOk.of_own {lo n c : Nat} {W : World} {A : Option Addr} {l : List OpV} (h : OpsOwn lo W (.slice A n c) l) (hn : l.length = n) : CpOk lo W.heap.size W A l := by
  obtain ⟨xs, hxs, hrow, harm⟩ := h
  by_cases hl : l = []
  · exact .inl hl
  refine .inr ?_
  have hpos : 0 < l.length := List.length_pos_iff.2 hl
  rw [hn] at hrow
  rcases own_parts hrow with ⟨_, h0, _⟩ | ⟨gO, rfl, hlt, hlo⟩
  · omega
  obtain ⟨cs, hb, htk, hsz⟩ := own_blk hrow
  refine ⟨gO, cs, rfl, ⟨hlo, hlt⟩, hb, by omega, fun i hi => ?_⟩
  have hxl : xs.length = l.length := by rw [← hxs, List.length_map]
  have hxi : i < xs.length := by omega
  have hli : (xs[i]).1 = l[i] := by
    have h1 : (xs.map Prod.fst)[i]? = l[i]? := by rw [hxs]
    rw [List.getElem?_map, List.getElem?_eq_getElem hxi, List.getElem?_eq_getElem hi] at h1
    simpa using h1
  have hcell : ∀ j, j < 7 → cs[i * 7 + j]? = ((xs[i]).1.cells (xs[i]).2)[j]? := fun j hj => by
    rw [← opV_get xs i hxi j hj, ← htk, List.getElem?_take_of_lt (by omega)]; simp
  refine ⟨⟨(xs[i]).1.kind, hcell 0 (by omega)⟩, ?_⟩
  obtain ⟨Ai, ci, hv, hro⟩ := harm _ (List.getElem_mem hxi)
  refine ⟨Ai, ci, (hcell 4 (by omega)).trans (by rw [← hli, hv]; rfl), ?_⟩
  rw [hv] at hro
  rw [← hli]
  rcases own_parts hro with ⟨_, h0, _⟩ | ⟨gi, rfl, hlt2, hlo2⟩
  · exact .inl h0
  · obtain ⟨ds, hb2, _, hsz2⟩ := own_blk hro
    exact .inr ⟨gi, ds, rfl, ⟨hlo2, hlt2⟩, hb2, hsz2⟩
theorem CpOk.below {lo hi : Nat} {W W' : World} {A : Option Addr} {l : List OpV} (h : CpOk lo hi W A l) (hb : Below W.heap.size W W') : CpOk lo hi W' A l := by
  rcases h with h | ⟨gO, cs, h1, h2, h3, h4, h5⟩
  · exact .inl h
  · refine .inr ⟨gO, cs, h1, h2, h3.below hb h3.lt, h4, fun i hi => ?_⟩
    obtain ⟨k, Ai, ci, e, r⟩ := h5 i hi
    refine ⟨k, Ai, ci, e, ?_⟩
    rcases r with r | ⟨gi, ds, r1, r2, r3, r4⟩
    · exact .inl r
    · exact .inr ⟨gi, ds, r1, r2, r3.below hb r3.lt, r4⟩
theorem CpOk.far {lo hi g o : Nat} {W : World} {A : Option Addr} {l : List OpV} {t : TypeId} {ts : Array Value} {u : Value} (h : CpOk lo hi W A l) (hb : Blk W g t ts) (h1 : t ≠ 38) (h2 : t ≠ 40) : CpOk lo hi (W.setCell ⟨g, o, none⟩ u) A l := by
  rcases h with h | ⟨gO, cs, e1, e2, e3, e4, e5⟩
  · exact .inl h
  · refine .inr ⟨gO, cs, e1, e2, e3.set_far (fun e => blk_type_ne hb e3 h1 e.symm), e4, fun i hi => ?_⟩
    obtain ⟨k, Ai, ci, e, r⟩ := e5 i hi
    refine ⟨k, Ai, ci, e, ?_⟩
    rcases r with r | ⟨gi, ds, r1, r2, r3, r4⟩
    · exact .inl r
    · exact .inr ⟨gi, ds, r1, r2, r3.set_far (fun e => blk_type_ne hb r3 h2 e.symm), r4⟩
theorem CpOk.set4P {lo hi g : Nat} {W : World} {A : Option Addr} {l : List OpV} {x0 x1 x2 x3 : Value} (h : CpOk lo hi W A l) (hb : Blk W g 31 #[x0, x1, x2, x3]) (a b c d : Value) : CpOk lo hi (set4 W g a b c d) A l :=
  (((h.far hb (by decide) (by decide)).far (hb.set 0 a) (by decide) (by decide)).far ((hb.set 0 a).set 1 b) (by decide) (by decide)).far (((hb.set 0 a).set 1 b).set 2 c) (by decide) (by decide)
/-- What an op's cells are, and its arms' cells. -/
theorem CpOk.at {lo hi : Nat} {W : World} {A : Option Addr} {l : List OpV} (h : CpOk lo hi W A l) (i : Nat) (hi' : i < l.length) : ∃ gO kk Ai ci, A = some ⟨gO, 0, none⟩ ∧ gO < W.heap.size ∧ (lo ≤ gO ∧ gO < hi) ∧ W.cell? ⟨gO, i * 7, none⟩ = some (.int .i64 kk) ∧ W.cell? ⟨gO, i * 7 + 4, none⟩ = some (.slice Ai (l[i]).arms.length ci) ∧ W.frozen? ⟨gO, i * 7, none⟩ = false ∧
    ∀ k, k < (l[i]).arms.length → ∃ gi y, Ai = some ⟨gi, 0, none⟩ ∧ gi < W.heap.size ∧ (lo ≤ gi ∧ gi < hi) ∧ W.cell? ⟨gi, k * 2 + 1, none⟩ = some y ∧ W.frozen? ⟨gi, k * 2 + 1, none⟩ = false := by
  rcases h with h | ⟨gO, cs, e1, e2, e3, e4, e5⟩
  · subst h; simp at hi'
  obtain ⟨⟨kk, hk⟩, Ai, ci, e, r⟩ := e5 i hi'
  refine ⟨gO, kk, Ai, ci, e1, e3.lt, e2, (e3.cell _).trans hk, (e3.cell _).trans e, e3.frozen _, fun k hk2 => ?_⟩
  rcases r with r | ⟨gi, ds, r1, r2, r3, r4⟩
  · omega
  · obtain ⟨y, hy⟩ : ∃ y, ds[k * 2 + 1]? = some y := ⟨_, Array.getElem?_eq_getElem (by omega)⟩
    exact ⟨gi, y, r1, r3.lt, r2, (r3.cell _).trans hy, r3.frozen _⟩
theorem CpOk.setK {lo hi gO : Nat} {W : World} {l : List OpV} (h : CpOk lo hi W (some ⟨gO, 0, none⟩) l) (i : Nat) (v : Int) : CpOk lo hi (W.setCell ⟨gO, i * 7, none⟩ (.int .i64 v)) (some ⟨gO, 0, none⟩) l := by
  rcases h with h | ⟨g2, cs, e1, e2, e3, e4, e5⟩
  · exact .inl h
  injection e1 with e1; injection e1 with e1; subst e1
  refine .inr ⟨gO, _, rfl, e2, e3.set _ _, by simpa using e4, fun k hk => ?_⟩
  obtain ⟨⟨kk, hkk⟩, Ai, ci, e, r⟩ := e5 k hk
  refine ⟨?_, Ai, ci, by rw [Array.getElem?_setIfInBounds, if_neg (by omega)]; exact e, ?_⟩
  · rw [Array.getElem?_setIfInBounds]
    split
    · split
      · exact ⟨v, rfl⟩
      · omega
    · exact ⟨kk, hkk⟩
  · rcases r with r | ⟨gi, ds, r1, r2, r3, r4⟩
    · exact .inl r
    · exact .inr ⟨gi, ds, r1, r2, r3.set_far (fun e => blk_type_ne r3 e3 (by decide) e), r4⟩
theorem CpOk.setA {lo hi gi o : Nat} {W : World} {A : Option Addr} {l : List OpV} {ts : Array Value} {u : Value} (h : CpOk lo hi W A l) (hb : Blk W gi 40 ts) : CpOk lo hi (W.setCell ⟨gi, o, none⟩ u) A l := by
  rcases h with h | ⟨g2, cs, e1, e2, e3, e4, e5⟩
  · exact .inl h
  refine .inr ⟨g2, cs, e1, e2, e3.set_far (fun e => blk_type_ne hb e3 (by decide) e.symm), e4, fun k hk => ?_⟩
  obtain ⟨kk, Ai, ci, e, r⟩ := e5 k hk
  refine ⟨kk, Ai, ci, e, ?_⟩
  rcases r with r | ⟨gj, ds, r1, r2, r3, r4⟩
  · exact .inl r
  · by_cases hg : gj = gi
    · subst hg
      exact .inr ⟨gj, _, r1, r2, r3.set _ _, by simpa using r4⟩
    · exact .inr ⟨gj, ds, r1, r2, r3.set_far hg, r4⟩
theorem CpOk.armBlk {lo hi i k gi c : Nat} {gO : Nat} {W : World} {l : List OpV} (h : CpOk lo hi W (some ⟨gO, 0, none⟩) l) (hi' : i < l.length) (hc : W.cell? ⟨gO, i * 7 + 4, none⟩ = some (.slice (some ⟨gi, 0, none⟩) (l[i]).arms.length c)) (hk : k < (l[i]).arms.length) : ∃ ts, Blk W gi 40 ts := by
  rcases h with h | ⟨g2, cs, e1, e2, e3, e4, e5⟩
  · subst h; simp at hi'
  injection e1 with e1; injection e1 with e1; subst e1
  obtain ⟨kk, Ai, ci, e, r⟩ := e5 i hi'
  rcases r with r | ⟨gj, ds, r1, r2, r3, r4⟩
  · omega
  · subst r1
    have h1 := (hc.symm.trans (e3.cell _)).trans e
    injection h1 with h1; injection h1 with h1 _ _; injection h1 with h1; injection h1 with h1
    subst h1
    exact ⟨ds, r3⟩
theorem OpsOwn.keepF {base : Nat} {F : Nat → Prop} {w w' : World} {v : Value} {l : List OpV} (h : OpsOwn base w v l) (hk : Keep F w w') (hf : ∀ k, base ≤ k → ¬ F k) : OpsOwn base w' v l := by
  obtain ⟨xs, h1, h2, h3⟩ := h
  refine ⟨xs, h1, hk.own h2 (fun k hv => hf k (h2.lt k hv).1), fun x hx => ?_⟩
  obtain ⟨A, c, e, ho⟩ := h3 x hx
  exact ⟨A, c, e, hk.own ho (fun k hv => hf k (ho.lt k hv).1)⟩

set_option maxRecDepth 20000 in
set_option maxHeartbeats 16000000 in
theorem progSame_lw (A : Option Addr) (c : Nat) (B : Option Addr) (d : Nat) (p q : ProgV) (kd : Int) (w : World) (hin : OpsIn w A p.ops) (hok : ProgOk p) (hin2 : OpsIn w B q.ops) (hok2 : ProgOk q) :
    Calls Try.prog 4 #[p.val (.slice A p.ops.length c), q.val (.slice B q.ops.length d), .int .i64 kd] w fun e w' => e = .returned (.bool true) ∧ Below w.heap.size w w' := by
  have CFA := hid (fun W (h : OpsIn W A p.ops) => fewP_any p A c 8 W h hok (by omega))
  have CFB := hid (fun W (h : OpsIn W B q.ops) => fewP_any q B d 8 W h hok2 (by omega))
  have HF1 := hid (fewP_ok p 8 hok); have HF2 := hid (fewP_ok q 8 hok2)
  have HL1 := hid (fewP_len p 8); have HL2 := hid (fewP_len q 8)
  have HTW := hid (fewP_twice p 8); have HTX := hid (fewP_twice q 8)
  obtain ⟨a, hpa⟩ : ∃ y, fewP p 8 = y := ⟨_, rfl⟩
  obtain ⟨b, hqb⟩ : ∃ y, fewP q 8 = y := ⟨_, rfl⟩
  rw [hpa] at CFA HF1 HL1 HTW
  rw [hqb] at CFB HF2 HL2 HTX
  have CGA := hid (fun A' c' W (h : OpsIn W A' a.ops) => fewP_any a A' c' 8 W h HF1.out (by omega))
  have CGB := hid (fun A' c' W (h : OpsIn W A' b.ops) => fewP_any b A' c' 8 W h HF2.out (by omega))
  rw [HTW.out] at CGA
  rw [HTX.out] at CGB
  have CCP := hid (fun A' c' b0 W (h : OpsOwn b0 W (.slice A' a.ops.length c') a.ops) => copyP_any a A' c' b0 W h (by have := HL1.out.1; omega) (fun o ho => by have := HL1.out.2 o ho; omega))
  have CS := hid (fun A' B' c' d' W (h1 : OpsIn W A' a.ops) (h2 : OpsIn W B' b.ops) => progSame_any a b A' B' c' d' W h1 h2 HF1.out.2.2.2.1 (fun o ho => (HF1.out.2.2.2.2 o ho).2.2.2.2.1))
  have CR := hid (fun A' B' c' d' W (h1 : OpsIn W A' a.ops) (h2 : OpsIn W B' b.ops) => rSame_any a b A' B' c' d' W h1 h2 HF1.out.2.2.2.1 (fun o ho => (HF1.out.2.2.2.2 o ho).2.2.2.2.1))
  have CSA := hid (fun A' B' c' d' W (h1 : OpsIn W A' a.ops) (h2 : OpsIn W B' a.ops) => progSame_any a a A' B' c' d' W h1 h2 HF1.out.2.2.2.1 (fun o ho => (HF1.out.2.2.2.2 o ho).2.2.2.2.1))
  have CRA := hid (fun A' B' c' d' W (h1 : OpsIn W A' a.ops) (h2 : OpsIn W B' a.ops) => rSame_any a a A' B' c' d' W h1 h2 HF1.out.2.2.2.1 (fun o ho => (HF1.out.2.2.2.2 o ho).2.2.2.2.1))
  rw [show sameP a a = true from decide_eq_true rfl] at CSA CRA
  have CW := hid (fun W => word_any kd W); have CX := hid (fun W => rWord_any kd W); have CL := hid (fun W => lives13_any W)
  obtain ⟨wk, hwk⟩ : ∃ y, wordM kd = y := ⟨_, rfl⟩
  rw [hwk] at CW CX
  obtain ⟨sm, hsm⟩ : ∃ y, sameP a b = y := ⟨_, rfl⟩
  rw [hsm] at CS CR
  have HIN := hid hin; have HIN2 := hid hin2
  clear hpa hqb hwk hsm hin hin2 hok hok2 HTW HTX HF1 HF2
  obtain ⟨p1, p2, p3, po⟩ := p
  obtain ⟨q1, q2, q3, qo⟩ := q
  obtain ⟨a1, a2, a3, ao⟩ := a
  obtain ⟨b1, b2, b3, bo⟩ := b
  unfold ProgV.val at CFA CFB CGA CGB CCP CS CR CSA CRA ⊢
  simp only at CFA CFB CGA CGB CCP CS CR CSA CRA HIN HIN2 HL1 HL2 ⊢
  obtain ⟨n0, hn0⟩ : ∃ y, po.length = y := ⟨_, rfl⟩
  obtain ⟨m0, hm0⟩ : ∃ y, qo.length = y := ⟨_, rfl⟩
  obtain ⟨n, hn⟩ : ∃ y, ao.length = y := ⟨_, rfl⟩
  obtain ⟨m, hm⟩ : ∃ y, bo.length = y := ⟨_, rfl⟩
  have HN := hid hn; have HM := hid hm
  rw [hn0] at CFA ⊢
  rw [hm0] at CFB ⊢
  rw [hn] at CFA CGA CCP CS CR CSA CRA HL1
  rw [hm] at CFB CGB CS CR HL2
  clear hn0 hm0 hn hm
  go_enter Try.func4, Try.ntmps4
  go_upto_region 1 with fail
  obtain ⟨wb, hwb⟩ : ∃ W, (w.alloc (.cells #[.string p1, .int .i64 p2, .int .i64 p3, .slice A n0 c] 31)).alloc (.cells #[.string q1, .int .i64 q2, .int .i64 q3, .slice B m0 d] 31) = W := ⟨_, rfl⟩
  have HB0 : Hid (Below w.heap.size w wb) := by rw [← hwb]; exact below2 _ _ _
  have HA0 : Hid (Blk wb w.heap.size 31 #[.string p1, .int .i64 p2, .int .i64 p3, .slice A n0 c]) := by rw [← hwb]; exact (Blk.new w _ _).alloc _
  have HQ0 : Hid (Blk wb (w.heap.size + 1) 31 #[.string q1, .int .i64 q2, .int .i64 q3, .slice B m0 d]) := by rw [← hwb]; exact new2 _ _ _ _
  rw [hwb]
  clear hwb
  obtain ⟨ga, hga⟩ : ∃ g, w.heap.size = g := ⟨_, rfl⟩
  have HGA := hid hga
  rw [hga] at HA0 HQ0 ⊢
  obtain ⟨gb, hgb⟩ : ∃ g, ga + 1 = g := ⟨_, rfl⟩
  have hgab : ga < gb := by omega
  rw [hgb] at HQ0 ⊢
  clear hga hgb
  have Tx0 : ∀ q : BW wb.heap.size wb, q.1.cell? ⟨ga, 0, none⟩ = some (.string p1) := fun q => q.cellAt (HA0.out).lt ((HA0.out).cell 0)
  have Tx1 : ∀ q : BW wb.heap.size wb, q.1.cell? ⟨ga, 1, none⟩ = some (.int .i64 p2) := fun q => q.cellAt (HA0.out).lt ((HA0.out).cell 1)
  have Tx2 : ∀ q : BW wb.heap.size wb, q.1.cell? ⟨ga, 2, none⟩ = some (.int .i64 p3) := fun q => q.cellAt (HA0.out).lt ((HA0.out).cell 2)
  have Tx3 : ∀ q : BW wb.heap.size wb, q.1.cell? ⟨ga, 3, none⟩ = some (.slice A n0 c) := fun q => q.cellAt (HA0.out).lt ((HA0.out).cell 3)
  refine wp_region_ordT wb.heap.size [4, 5] (.val 0 (.two 1 (.op 2 (.op 3 (.op 4 (.op 5 (.nil))))) 2 (.op 1 (.op 3 (.op 4 (.op 5 (.nil))))))) (by kernel_rfl) (by kernel_rfl) ?_
  obtain ⟨wc, hwc⟩ : ∃ W, wb.drewN 1 = W := ⟨_, rfl⟩
  have HBW : Hid (Below wb.heap.size wb wc) := by rw [← hwc]; exact drewN_below wb 1
  rw [hwc]
  clear hwc
  refine wpOrdT_load rfl rfl (inBW HBW.out) ?_
  go_big_quiet_step (fail)
  refine wpQuiet_nil ?_
  refine wpOrdT_two rfl rfl ?_ ?_
  focus
    have HSW : Hid (w.heap.size ≤ wc.heap.size) := Nat.le_trans HB0.out.size HBW.out.size
    have CQ := hid (CFA.out wc (HIN.out.below (HB0.out.trans (HBW.out.mono HB0.out.size))))
    go_wp2_with fail
    refine CQ.out.mono ?_
    rintro en wc ⟨A1, c1, rfl, ho, hb⟩
    have HO1 : Hid (∀ W', Below wc.heap.size wc W' → OpsOwn w.heap.size W' (.slice A1 n c1) ao) := fun W' h => (ho.base HSW.out).below h (Nat.le_refl _)
    have HBWn : Hid (Below wb.heap.size wb wc) := HBW.out.trans (hb.mono HBW.out.size)
    clear HBW
    have HBW := HBWn
    clear HBWn
    clear hb ho CQ HSW
    go_wp2_with fail
    refine KT.keep (inBW HBW.out) ?_
    refine wpOrdT_op rfl ?_
    obtain ⟨y0, y1, y2, y3⟩ := fact4 (HQ0.out.below HBW.out HQ0.out.lt)
    have yl := ((HQ0.out.below HBW.out HQ0.out.lt)).lt
    go_wp2_with fail
    clear y0 y1 y2 y3 yl
    refine KT.same ?_
    refine wpOrdT_op rfl ?_
    have HSW : Hid (w.heap.size ≤ wc.heap.size) := Nat.le_trans HB0.out.size HBW.out.size
    have CQ := hid (CFB.out wc (HIN2.out.below (HB0.out.trans (HBW.out.mono HB0.out.size))))
    go_wp2_with fail
    refine CQ.out.mono ?_
    rintro en wc ⟨A2, c2, rfl, ho, hb⟩
    have HO2 : Hid (∀ W', Below wc.heap.size wc W' → OpsOwn w.heap.size W' (.slice A2 m c2) bo) := fun W' h => (ho.base HSW.out).below h (Nat.le_refl _)
    have HO1n := hid (fun (W' : World) (h : Below wc.heap.size wc W') => HO1.out W' (hb.trans (h.mono hb.size)))
    clear HO1
    have HO1 := HO1n
    clear HO1n
    have HBWn : Hid (Below wb.heap.size wb wc) := HBW.out.trans (hb.mono HBW.out.size)
    clear HBW
    have HBW := HBWn
    clear HBWn
    clear hb ho CQ HSW
    go_wp2_with fail
    refine KT.keep (inBW HBW.out) ?_
    refine wpOrdT_op rfl ?_
    have HAC := hid (HA0.out.below HBW.out HA0.out.lt)
    have HQC := hid (HQ0.out.below HBW.out HQ0.out.lt)
    have HO1c := hid (HO1.out wc (Below.refl _ _)); have HO2c := hid (HO2.out wc (Below.refl _ _))
    have HBC : Hid (Below w.heap.size w wc) := HB0.out.trans (HBW.out.mono HB0.out.size)
    obtain ⟨y0, y1, y2, y3⟩ := fact4 HAC.out
    have yl := (HAC.out).lt
    have yf0 := (HAC.out).frozen 0; have yf1 := (HAC.out).frozen 1; have yf2 := (HAC.out).frozen 2; have yf3 := (HAC.out).frozen 3
    go_wp2_with fail
    obtain ⟨wd, hwd⟩ : ∃ W, set4 wc ga (.string a1) (.int .i64 a2) (.int .i64 a3) (.slice A1 n c1) = W := ⟨_, rfl⟩
    have HA1 : Hid (Blk wd ga 31 #[.string a1, .int .i64 a2, .int .i64 a3, .slice A1 n c1]) := by rw [← hwd]; exact set4_blk HAC.out _ _ _ _
    have HQ1 : Hid (Blk wd gb 31 #[.string q1, .int .i64 q2, .int .i64 q3, .slice B m0 d]) := by rw [← hwd]; exact (((HQC.out.set_far (Nat.ne_of_gt hgab)).set_far (Nat.ne_of_gt hgab)).set_far (Nat.ne_of_gt hgab)).set_far (Nat.ne_of_gt hgab)
    have HO1d : Hid (OpsOwn w.heap.size wd (.slice A1 n c1) ao) := by rw [← hwd]; exact set4_ops HO1c.out HAC.out _ _ _ _
    have HO2d : Hid (OpsOwn w.heap.size wd (.slice A2 m c2) bo) := by rw [← hwd]; exact set4_ops HO2c.out HAC.out _ _ _ _
    have HBD : Hid (Below w.heap.size w wd) := by rw [← hwd]; exact set4_below HBC.out (by rw [HGA.out]; exact Nat.le_refl _) _ _ _ _
    unfold set4 at hwd
    rw [hwd]
    clear hwd HAC HQC HO1c HO2c HBC HO1 HO2 HBW y0 y1 y2 y3 yl yf0 yf1 yf2 yf3
    refine KT.past rfl ?_
    refine wpOrdT_op rfl ?_
    obtain ⟨y0, y1, y2, y3⟩ := fact4 HQ1.out
    have yl := (HQ1.out).lt
    have yf0 := (HQ1.out).frozen 0; have yf1 := (HQ1.out).frozen 1; have yf2 := (HQ1.out).frozen 2; have yf3 := (HQ1.out).frozen 3
    go_wp2_with fail
    obtain ⟨we, hwe⟩ : ∃ W, set4 wd gb (.string b1) (.int .i64 b2) (.int .i64 b3) (.slice A2 m c2) = W := ⟨_, rfl⟩
    have HB2 : Hid (Blk we gb 31 #[.string b1, .int .i64 b2, .int .i64 b3, .slice A2 m c2]) := by rw [← hwe]; exact set4_blk HQ1.out _ _ _ _
    have HA2 : Hid (Blk we ga 31 #[.string a1, .int .i64 a2, .int .i64 a3, .slice A1 n c1]) := by rw [← hwe]; exact (((HA1.out.set_far (Nat.ne_of_lt hgab)).set_far (Nat.ne_of_lt hgab)).set_far (Nat.ne_of_lt hgab)).set_far (Nat.ne_of_lt hgab)
    have HO1e : Hid (OpsOwn w.heap.size we (.slice A1 n c1) ao) := by rw [← hwe]; exact set4_ops HO1d.out HQ1.out _ _ _ _
    have HO2e : Hid (OpsOwn w.heap.size we (.slice A2 m c2) bo) := by rw [← hwe]; exact set4_ops HO2d.out HQ1.out _ _ _ _
    have HBE : Hid (Below w.heap.size w we) := by rw [← hwe]; exact set4_below HBD.out (by rw [HGA.out]; omega) _ _ _ _
    unfold set4 at hwe
    rw [hwe]
    clear hwe HA1 HQ1 HO1d HO2d HBD y0 y1 y2 y3 yl yf0 yf1 yf2 yf3
    refine KT.past rfl ?_
    refine wpOrdT_nil ?_
  rotate_left 1
  focus
    obtain ⟨y0, y1, y2, y3⟩ := fact4 (HQ0.out.below HBW.out HQ0.out.lt)
    have yl := ((HQ0.out.below HBW.out HQ0.out.lt)).lt
    go_wp2_with fail
    clear y0 y1 y2 y3 yl
    refine KT.same ?_
    refine wpOrdT_op rfl ?_
    have HSW : Hid (w.heap.size ≤ wc.heap.size) := Nat.le_trans HB0.out.size HBW.out.size
    have CQ := hid (CFA.out wc (HIN.out.below (HB0.out.trans (HBW.out.mono HB0.out.size))))
    go_wp2_with fail
    refine CQ.out.mono ?_
    rintro en wc ⟨A1, c1, rfl, ho, hb⟩
    have HO1 : Hid (∀ W', Below wc.heap.size wc W' → OpsOwn w.heap.size W' (.slice A1 n c1) ao) := fun W' h => (ho.base HSW.out).below h (Nat.le_refl _)
    have HBWn : Hid (Below wb.heap.size wb wc) := HBW.out.trans (hb.mono HBW.out.size)
    clear HBW
    have HBW := HBWn
    clear HBWn
    clear hb ho CQ HSW
    go_wp2_with fail
    refine KT.keep (inBW HBW.out) ?_
    refine wpOrdT_op rfl ?_
    have HSW : Hid (w.heap.size ≤ wc.heap.size) := Nat.le_trans HB0.out.size HBW.out.size
    have CQ := hid (CFB.out wc (HIN2.out.below (HB0.out.trans (HBW.out.mono HB0.out.size))))
    go_wp2_with fail
    refine CQ.out.mono ?_
    rintro en wc ⟨A2, c2, rfl, ho, hb⟩
    have HO2 : Hid (∀ W', Below wc.heap.size wc W' → OpsOwn w.heap.size W' (.slice A2 m c2) bo) := fun W' h => (ho.base HSW.out).below h (Nat.le_refl _)
    have HO1n := hid (fun (W' : World) (h : Below wc.heap.size wc W') => HO1.out W' (hb.trans (h.mono hb.size)))
    clear HO1
    have HO1 := HO1n
    clear HO1n
    have HBWn : Hid (Below wb.heap.size wb wc) := HBW.out.trans (hb.mono HBW.out.size)
    clear HBW
    have HBW := HBWn
    clear HBWn
    clear hb ho CQ HSW
    go_wp2_with fail
    refine KT.keep (inBW HBW.out) ?_
    refine wpOrdT_op rfl ?_
    have HAC := hid (HA0.out.below HBW.out HA0.out.lt)
    have HQC := hid (HQ0.out.below HBW.out HQ0.out.lt)
    have HO1c := hid (HO1.out wc (Below.refl _ _)); have HO2c := hid (HO2.out wc (Below.refl _ _))
    have HBC : Hid (Below w.heap.size w wc) := HB0.out.trans (HBW.out.mono HB0.out.size)
    obtain ⟨y0, y1, y2, y3⟩ := fact4 HAC.out
    have yl := (HAC.out).lt
    have yf0 := (HAC.out).frozen 0; have yf1 := (HAC.out).frozen 1; have yf2 := (HAC.out).frozen 2; have yf3 := (HAC.out).frozen 3
    go_wp2_with fail
    obtain ⟨wd, hwd⟩ : ∃ W, set4 wc ga (.string a1) (.int .i64 a2) (.int .i64 a3) (.slice A1 n c1) = W := ⟨_, rfl⟩
    have HA1 : Hid (Blk wd ga 31 #[.string a1, .int .i64 a2, .int .i64 a3, .slice A1 n c1]) := by rw [← hwd]; exact set4_blk HAC.out _ _ _ _
    have HQ1 : Hid (Blk wd gb 31 #[.string q1, .int .i64 q2, .int .i64 q3, .slice B m0 d]) := by rw [← hwd]; exact (((HQC.out.set_far (Nat.ne_of_gt hgab)).set_far (Nat.ne_of_gt hgab)).set_far (Nat.ne_of_gt hgab)).set_far (Nat.ne_of_gt hgab)
    have HO1d : Hid (OpsOwn w.heap.size wd (.slice A1 n c1) ao) := by rw [← hwd]; exact set4_ops HO1c.out HAC.out _ _ _ _
    have HO2d : Hid (OpsOwn w.heap.size wd (.slice A2 m c2) bo) := by rw [← hwd]; exact set4_ops HO2c.out HAC.out _ _ _ _
    have HBD : Hid (Below w.heap.size w wd) := by rw [← hwd]; exact set4_below HBC.out (by rw [HGA.out]; exact Nat.le_refl _) _ _ _ _
    unfold set4 at hwd
    rw [hwd]
    clear hwd HAC HQC HO1c HO2c HBC HO1 HO2 HBW y0 y1 y2 y3 yl yf0 yf1 yf2 yf3
    refine KT.past rfl ?_
    refine wpOrdT_op rfl ?_
    obtain ⟨y0, y1, y2, y3⟩ := fact4 HQ1.out
    have yl := (HQ1.out).lt
    have yf0 := (HQ1.out).frozen 0; have yf1 := (HQ1.out).frozen 1; have yf2 := (HQ1.out).frozen 2; have yf3 := (HQ1.out).frozen 3
    go_wp2_with fail
    obtain ⟨we, hwe⟩ : ∃ W, set4 wd gb (.string b1) (.int .i64 b2) (.int .i64 b3) (.slice A2 m c2) = W := ⟨_, rfl⟩
    have HB2 : Hid (Blk we gb 31 #[.string b1, .int .i64 b2, .int .i64 b3, .slice A2 m c2]) := by rw [← hwe]; exact set4_blk HQ1.out _ _ _ _
    have HA2 : Hid (Blk we ga 31 #[.string a1, .int .i64 a2, .int .i64 a3, .slice A1 n c1]) := by rw [← hwe]; exact (((HA1.out.set_far (Nat.ne_of_lt hgab)).set_far (Nat.ne_of_lt hgab)).set_far (Nat.ne_of_lt hgab)).set_far (Nat.ne_of_lt hgab)
    have HO1e : Hid (OpsOwn w.heap.size we (.slice A1 n c1) ao) := by rw [← hwe]; exact set4_ops HO1d.out HQ1.out _ _ _ _
    have HO2e : Hid (OpsOwn w.heap.size we (.slice A2 m c2) bo) := by rw [← hwe]; exact set4_ops HO2d.out HQ1.out _ _ _ _
    have HBE : Hid (Below w.heap.size w we) := by rw [← hwe]; exact set4_below HBD.out (by rw [HGA.out]; omega) _ _ _ _
    unfold set4 at hwe
    rw [hwe]
    clear hwe HA1 HQ1 HO1d HO2d HBD y0 y1 y2 y3 yl yf0 yf1 yf2 yf3
    refine KT.past rfl ?_
    refine wpOrdT_nil ?_
  all_goals
    clear Tx0 Tx1 Tx2 Tx3
    go_upto_region 2 with fail
    have Tx0 : ∀ q : BW we.heap.size we, q.1.cell? ⟨ga, 0, none⟩ = some (.string a1) := fun q => q.cellAt (HA2.out).lt ((HA2.out).cell 0)
    have Tx1 : ∀ q : BW we.heap.size we, q.1.cell? ⟨ga, 1, none⟩ = some (.int .i64 a2) := fun q => q.cellAt (HA2.out).lt ((HA2.out).cell 1)
    have Tx2 : ∀ q : BW we.heap.size we, q.1.cell? ⟨ga, 2, none⟩ = some (.int .i64 a3) := fun q => q.cellAt (HA2.out).lt ((HA2.out).cell 2)
    have Tx3 : ∀ q : BW we.heap.size we, q.1.cell? ⟨ga, 3, none⟩ = some (.slice A1 n c1) := fun q => q.cellAt (HA2.out).lt ((HA2.out).cell 3)
    go_cut [7, 8] (fun s7 s8 wx => ∃ (g7 g8 : Nat) (A3 : Option Addr) (c3 : Nat) (A4 : Option Addr) (c4 Bc Ec : Nat), s7 = .pointer (some ⟨g7, 0, none⟩) ∧ s8 = .pointer (some ⟨g8, 0, none⟩) ∧ Blk wx g7 31 #[.string a1, .int .i64 a2, .int .i64 a3, .slice A3 n c3] ∧ Blk wx g8 31 #[.string a1, .int .i64 a2, .int .i64 a3, .slice A4 n c4] ∧ OpsOwn Bc wx (.slice A3 n c3) ao ∧ OpsOwn Ec wx (.slice A4 n c4) ao ∧ CpOk Bc Ec wx A3 ao ∧ Below we.heap.size we wx ∧ (g7 < Bc ∨ Ec ≤ g7) ∧ (g8 < Bc ∨ Ec ≤ g8) ∧ we.heap.size ≤ Bc)
    case first =>
      refine wp_region_ordT we.heap.size [] (.val 0 (.val 2 (.three 1 (.three 3 (.two 4 (.op 5 (.op 6 (.op 7 (.nil)))) 5 (.op 4 (.op 6 (.op 7 (.nil))))) 4 (.two 3 (.op 5 (.op 6 (.op 7 (.nil)))) 5 (.op 3 (.op 6 (.op 7 (.nil))))) 5 (.two 3 (.op 4 (.op 6 (.op 7 (.nil)))) 4 (.op 3 (.op 6 (.op 7 (.nil)))))) 4 (.two 1 (.two 3 (.op 5 (.op 6 (.op 7 (.nil)))) 5 (.op 3 (.op 6 (.op 7 (.nil))))) 5 (.op 1 (.op 3 (.op 6 (.op 7 (.nil)))))) 5 (.two 1 (.two 3 (.op 4 (.op 6 (.op 7 (.nil)))) 4 (.op 3 (.op 6 (.op 7 (.nil))))) 4 (.op 1 (.op 3 (.op 6 (.op 7 (.nil))))))))) (by kernel_rfl) (by kernel_rfl) ?_
      obtain ⟨wc, hwc⟩ : ∃ W, we.drewN 1 = W := ⟨_, rfl⟩
      have HBW : Hid (Below we.heap.size we wc) := by rw [← hwc]; exact drewN_below we 1
      rw [hwc]
      clear hwc
      refine wpOrdT_load rfl rfl (inBW HBW.out) ?_
      go_big_quiet_step (fail)
      refine wpQuiet_nil ?_
      refine wpOrdT_load rfl rfl (inBW HBW.out) ?_
      go_big_quiet_step (fail)
      refine wpQuiet_nil ?_
      refine wpOrdT_three rfl rfl rfl ?_ ?_ ?_
      focus
        have CQ := hid (CCP.out A1 c1 w.heap.size wc (HO1e.out.below HBW.out (Nat.le_refl _)))
        have HBC0 : Hid (we.heap.size ≤ wc.heap.size) := HBW.out.size
        try have L7 := hid (F7.out wc (Below.refl _ _)).lt
        try have L8 := hid (F8.out wc (Below.refl _ _)).lt
        obtain ⟨Bc, hBc⟩ : ∃ y, wc.heap.size = y := ⟨_, rfl⟩
        try rw [hBc] at L7
        try rw [hBc] at L8
        rw [hBc] at HBC0
        have HBC := hid hBc
        clear hBc
        go_wp2_with fail
        refine CQ.out.mono ?_
        rintro en wc ⟨A3, c3, rfl, ho, hb⟩
        rw [HBC.out] at ho
        have CP : Hid (∀ W', Below wc.heap.size wc W' → OpsOwn Bc W' (.slice A3 n c3) ao) := fun W' h => ho.below h (Nat.le_refl _)
        have CK0 : Hid (CpOk Bc wc.heap.size wc A3 ao) := CpOk.of_own ho HN.out
        obtain ⟨Ec, hEc⟩ : ∃ y, wc.heap.size = y := ⟨_, rfl⟩
        have EC : Hid (∀ W', Below wc.heap.size wc W' → Ec ≤ W'.heap.size) := fun W' h => by rw [← hEc]; exact h.size
        rw [hEc] at CK0
        have CK : Hid (∀ W', Below wc.heap.size wc W' → CpOk Bc Ec W' A3 ao) := fun W' h => CK0.out.below h
        clear hEc CK0
        try (have F7n := hid (fun (W' : World) (h : Below wc.heap.size wc W') => F7.out W' (hb.trans (h.mono hb.size))); clear F7; have F7 := F7n; clear F7n)
        try (have F8n := hid (fun (W' : World) (h : Below wc.heap.size wc W') => F8.out W' (hb.trans (h.mono hb.size))); clear F8; have F8 := F8n; clear F8n)
        have HBWn : Hid (Below we.heap.size we wc) := HBW.out.trans (hb.mono HBW.out.size)
        clear HBW
        have HBW := HBWn
        clear HBWn
        clear hb ho CQ HBC
        go_wp2_with fail
        refine KT.keep (inBW HBW.out) ?_
        refine wpOrdT_three rfl rfl rfl ?_ ?_ ?_
        focus
          have CQ := hid (CGA.out A1 c1 wc ((HO1e.out.below HBW.out (Nat.le_refl _)).inn HN.out))
          have HEW := hid (EC.out wc (Below.refl _ _))
          go_wp2_with fail
          refine CQ.out.mono ?_
          rintro en wc ⟨A4, c4, rfl, ho, hb⟩
          have MI : Hid (∀ W', Below wc.heap.size wc W' → OpsOwn Ec W' (.slice A4 n c4) ao) := fun W' h => (ho.base HEW.out).below h (Nat.le_refl _)
          have CPn := hid (fun (W' : World) (h : Below wc.heap.size wc W') => CP.out W' (hb.trans (h.mono hb.size)))
          clear CP
          have CP := CPn
          clear CPn
          have CKn := hid (fun (W' : World) (h : Below wc.heap.size wc W') => CK.out W' (hb.trans (h.mono hb.size)))
          clear CK
          have CK := CKn
          clear CKn
          have ECn := hid (fun (W' : World) (h : Below wc.heap.size wc W') => EC.out W' (hb.trans (h.mono hb.size)))
          clear EC
          have EC := ECn
          clear ECn
          try (have F7n := hid (fun (W' : World) (h : Below wc.heap.size wc W') => F7.out W' (hb.trans (h.mono hb.size))); clear F7; have F7 := F7n; clear F7n)
          try (have F8n := hid (fun (W' : World) (h : Below wc.heap.size wc W') => F8.out W' (hb.trans (h.mono hb.size))); clear F8; have F8 := F8n; clear F8n)
          have HBWn : Hid (Below we.heap.size we wc) := HBW.out.trans (hb.mono HBW.out.size)
          clear HBW
          have HBW := HBWn
          clear HBWn
          clear hb ho CQ HEW
          go_wp2_with fail
          refine KT.keep (inBW HBW.out) ?_
          refine wpOrdT_two rfl rfl ?_ ?_
          focus
            try have HLT := hid (F8.out wc (Below.refl _ _)).lt
            try have R7 := hid (EC.out wc (Below.refl _ _))
            have HG7 : Hid (we.heap.size ≤ wc.heap.size) := HBW.out.size
            go_wp2_with fail
            obtain ⟨wn, hwn⟩ : ∃ W, wc.alloc (.cells #[.string ⟨#[]⟩, .int .i64 0, .int .i64 0, .slice none 0 0] 31) = W := ⟨_, rfl⟩
            have hb : Below wc.heap.size wc wn := by rw [← hwn]; exact (Below.refl _ _).alloc (Nat.le_refl _) _
            have hbk : Blk wn wc.heap.size 31 #[.string ⟨#[]⟩, .int .i64 0, .int .i64 0, .slice none 0 0] := by rw [← hwn]; exact Blk.new _ _ _
            rw [hwn]
            clear hwn
            obtain ⟨g7, hg7⟩ : ∃ y, wc.heap.size = y := ⟨_, rfl⟩
            try rw [hg7] at R7
            try rw [hg7] at HLT
            rw [hg7] at hbk HG7 ⊢
            have HBWn : Hid (Below we.heap.size we wn) := HBW.out.trans (hb.mono HBW.out.size)
            try (have CPn := hid (fun (W' : World) (h : Below wn.heap.size wn W') => CP.out W' (hb.trans (h.mono hb.size))); clear CP; have CP := CPn; clear CPn)
            try (have CKn := hid (fun (W' : World) (h : Below wn.heap.size wn W') => CK.out W' (hb.trans (h.mono hb.size))); clear CK; have CK := CKn; clear CKn)
            try (have ECn := hid (fun (W' : World) (h : Below wn.heap.size wn W') => EC.out W' (hb.trans (h.mono hb.size))); clear EC; have EC := ECn; clear ECn)
            try (have MIn := hid (fun (W' : World) (h : Below wn.heap.size wn W') => MI.out W' (hb.trans (h.mono hb.size))); clear MI; have MI := MIn; clear MIn)
            try (have F8n := hid (fun (W' : World) (h : Below wn.heap.size wn W') => F8.out W' (hb.trans (h.mono hb.size))); clear F8; have F8 := F8n; clear F8n)
            have F7 : Hid (∀ W', Below wn.heap.size wn W' → Blk W' g7 31 #[.string ⟨#[]⟩, .int .i64 0, .int .i64 0, .slice none 0 0]) := fun W' h => hbk.below h hbk.lt
            clear HBW hb hbk hg7
            have HBW := HBWn
            clear HBWn
            obtain ⟨wc, hwc⟩ : ∃ y, y = wn := ⟨_, rfl⟩
            subst hwc
            refine KT.keep (inBW HBW.out) ?_
            refine wpOrdT_op rfl ?_
            try have HLT := hid (F7.out wc (Below.refl _ _)).lt
            try have R8 := hid (EC.out wc (Below.refl _ _))
            have HG8 : Hid (we.heap.size ≤ wc.heap.size) := HBW.out.size
            go_wp2_with fail
            obtain ⟨wn, hwn⟩ : ∃ W, wc.alloc (.cells #[.string ⟨#[]⟩, .int .i64 0, .int .i64 0, .slice none 0 0] 31) = W := ⟨_, rfl⟩
            have hb : Below wc.heap.size wc wn := by rw [← hwn]; exact (Below.refl _ _).alloc (Nat.le_refl _) _
            have hbk : Blk wn wc.heap.size 31 #[.string ⟨#[]⟩, .int .i64 0, .int .i64 0, .slice none 0 0] := by rw [← hwn]; exact Blk.new _ _ _
            rw [hwn]
            clear hwn
            obtain ⟨g8, hg8⟩ : ∃ y, wc.heap.size = y := ⟨_, rfl⟩
            try rw [hg8] at R8
            try rw [hg8] at HLT
            rw [hg8] at hbk HG8 ⊢
            have HBWn : Hid (Below we.heap.size we wn) := HBW.out.trans (hb.mono HBW.out.size)
            try (have CPn := hid (fun (W' : World) (h : Below wn.heap.size wn W') => CP.out W' (hb.trans (h.mono hb.size))); clear CP; have CP := CPn; clear CPn)
            try (have CKn := hid (fun (W' : World) (h : Below wn.heap.size wn W') => CK.out W' (hb.trans (h.mono hb.size))); clear CK; have CK := CKn; clear CKn)
            try (have ECn := hid (fun (W' : World) (h : Below wn.heap.size wn W') => EC.out W' (hb.trans (h.mono hb.size))); clear EC; have EC := ECn; clear ECn)
            try (have MIn := hid (fun (W' : World) (h : Below wn.heap.size wn W') => MI.out W' (hb.trans (h.mono hb.size))); clear MI; have MI := MIn; clear MIn)
            try (have F7n := hid (fun (W' : World) (h : Below wn.heap.size wn W') => F7.out W' (hb.trans (h.mono hb.size))); clear F7; have F7 := F7n; clear F7n)
            have F8 : Hid (∀ W', Below wn.heap.size wn W' → Blk W' g8 31 #[.string ⟨#[]⟩, .int .i64 0, .int .i64 0, .slice none 0 0]) := fun W' h => hbk.below h hbk.lt
            clear HBW hb hbk hg8
            have HBW := HBWn
            clear HBWn
            obtain ⟨wc, hwc⟩ : ∃ y, y = wn := ⟨_, rfl⟩
            subst hwc
            refine KT.keep (inBW HBW.out) ?_
            refine wpOrdT_op rfl ?_
            have K7 := hid (F7.out wc (Below.refl _ _)); have K8 := hid (F8.out wc (Below.refl _ _))
            have CPc := hid (CP.out wc (Below.refl _ _)); have CKc := hid (CK.out wc (Below.refl _ _)); have MIc := hid (MI.out wc (Below.refl _ _))
            have HNE : Hid (g7 ≠ g8 ∧ ga ≠ g7 ∧ ga ≠ g8 ∧ gb ≠ g7 ∧ gb ≠ g8) := by
              have h1 := HA2.out.lt; have h2 := HB2.out.lt; have h3 := HG7.out; have h4 := HG8.out
              refine ⟨?_, by omega, by omega, by omega, by omega⟩
              first
                | exact Nat.ne_of_lt HLT.out
                | exact Nat.ne_of_gt HLT.out
            have D7 : Hid (g7 < Bc ∨ Ec ≤ g7) := by first | exact Or.inl L7.out | exact Or.inr R7.out
            have D8 : Hid (g8 < Bc ∨ Ec ≤ g8) := by first | exact Or.inl L8.out | exact Or.inr R8.out
            obtain ⟨y0, y1, y2, y3⟩ := fact4 K7.out
            have yl := (K7.out).lt
            have yf0 := (K7.out).frozen 0; have yf1 := (K7.out).frozen 1; have yf2 := (K7.out).frozen 2; have yf3 := (K7.out).frozen 3
            go_wp2_with fail
            obtain ⟨wf, hwf⟩ : ∃ W, set4 wc g7 (.string a1) (.int .i64 a2) (.int .i64 a3) (.slice A3 n c3) = W := ⟨_, rfl⟩
            have H7f : Hid (Blk wf g7 31 #[.string a1, .int .i64 a2, .int .i64 a3, .slice A3 n c3]) := by rw [← hwf]; exact set4_blk K7.out _ _ _ _
            have H8f : Hid (Blk wf g8 31 #[.string ⟨#[]⟩, .int .i64 0, .int .i64 0, .slice none 0 0]) := by rw [← hwf]; exact (((K8.out.set_far (Ne.symm HNE.out.1)).set_far (Ne.symm HNE.out.1)).set_far (Ne.symm HNE.out.1)).set_far (Ne.symm HNE.out.1)
            have CPf : Hid (OpsOwn Bc wf (.slice A3 n c3) ao) := by rw [← hwf]; exact set4_ops CPc.out K7.out _ _ _ _
            have MIf : Hid (OpsOwn Ec wf (.slice A4 n c4) ao) := by rw [← hwf]; exact set4_ops MIc.out K7.out _ _ _ _
            have CKf : Hid (CpOk Bc Ec wf A3 ao) := by rw [← hwf]; exact CKc.out.set4P K7.out _ _ _ _
            have HBF : Hid (Below we.heap.size we wf) := by rw [← hwf]; exact set4_below HBW.out HG7.out _ _ _ _
            unfold set4 at hwf
            rw [hwf]
            clear hwf K7 K8 CPc CKc MIc CP CK MI F7 F8 HBW y0 y1 y2 y3 yl yf0 yf1 yf2 yf3
            have HBW := HBF
            refine KT.keep (inBW HBW.out) ?_
            refine wpOrdT_op rfl ?_
            obtain ⟨y0, y1, y2, y3⟩ := fact4 H8f.out
            have yl := (H8f.out).lt
            have yf0 := (H8f.out).frozen 0; have yf1 := (H8f.out).frozen 1; have yf2 := (H8f.out).frozen 2; have yf3 := (H8f.out).frozen 3
            go_wp2_with fail
            obtain ⟨w3, hw3⟩ : ∃ W, set4 wf g8 (.string a1) (.int .i64 a2) (.int .i64 a3) (.slice A4 n c4) = W := ⟨_, rfl⟩
            have H8 : Hid (Blk w3 g8 31 #[.string a1, .int .i64 a2, .int .i64 a3, .slice A4 n c4]) := by rw [← hw3]; exact set4_blk H8f.out _ _ _ _
            have H7 : Hid (Blk w3 g7 31 #[.string a1, .int .i64 a2, .int .i64 a3, .slice A3 n c3]) := by rw [← hw3]; exact (((H7f.out.set_far HNE.out.1).set_far HNE.out.1).set_far HNE.out.1).set_far HNE.out.1
            have CP : Hid (OpsOwn Bc w3 (.slice A3 n c3) ao) := by rw [← hw3]; exact set4_ops CPf.out H8f.out _ _ _ _
            have MI : Hid (OpsOwn Ec w3 (.slice A4 n c4) ao) := by rw [← hw3]; exact set4_ops MIf.out H8f.out _ _ _ _
            have CK : Hid (CpOk Bc Ec w3 A3 ao) := by rw [← hw3]; exact CKf.out.set4P H8f.out _ _ _ _
            have HBE3 : Hid (Below we.heap.size we w3) := by rw [← hw3]; exact set4_below HBF.out HG8.out _ _ _ _
            unfold set4 at hw3
            rw [hw3]
            clear hw3 H7f H8f CPf MIf CKf HBF HBW y0 y1 y2 y3 yl yf0 yf1 yf2 yf3
            have HBW := HBE3
            refine KT.keep (inBW HBW.out) ?_
            refine wpOrdT_nil ?_
          rotate_left 1
          focus
            try have HLT := hid (F7.out wc (Below.refl _ _)).lt
            try have R8 := hid (EC.out wc (Below.refl _ _))
            have HG8 : Hid (we.heap.size ≤ wc.heap.size) := HBW.out.size
            go_wp2_with fail
            obtain ⟨wn, hwn⟩ : ∃ W, wc.alloc (.cells #[.string ⟨#[]⟩, .int .i64 0, .int .i64 0, .slice none 0 0] 31) = W := ⟨_, rfl⟩
            have hb : Below wc.heap.size wc wn := by rw [← hwn]; exact (Below.refl _ _).alloc (Nat.le_refl _) _
            have hbk : Blk wn wc.heap.size 31 #[.string ⟨#[]⟩, .int .i64 0, .int .i64 0, .slice none 0 0] := by rw [← hwn]; exact Blk.new _ _ _
            rw [hwn]
            clear hwn
            obtain ⟨g8, hg8⟩ : ∃ y, wc.heap.size = y := ⟨_, rfl⟩
            try rw [hg8] at R8
            try rw [hg8] at HLT
            rw [hg8] at hbk HG8 ⊢
            have HBWn : Hid (Below we.heap.size we wn) := HBW.out.trans (hb.mono HBW.out.size)
            try (have CPn := hid (fun (W' : World) (h : Below wn.heap.size wn W') => CP.out W' (hb.trans (h.mono hb.size))); clear CP; have CP := CPn; clear CPn)
            try (have CKn := hid (fun (W' : World) (h : Below wn.heap.size wn W') => CK.out W' (hb.trans (h.mono hb.size))); clear CK; have CK := CKn; clear CKn)
            try (have ECn := hid (fun (W' : World) (h : Below wn.heap.size wn W') => EC.out W' (hb.trans (h.mono hb.size))); clear EC; have EC := ECn; clear ECn)
            try (have MIn := hid (fun (W' : World) (h : Below wn.heap.size wn W') => MI.out W' (hb.trans (h.mono hb.size))); clear MI; have MI := MIn; clear MIn)
            try (have F7n := hid (fun (W' : World) (h : Below wn.heap.size wn W') => F7.out W' (hb.trans (h.mono hb.size))); clear F7; have F7 := F7n; clear F7n)
            have F8 : Hid (∀ W', Below wn.heap.size wn W' → Blk W' g8 31 #[.string ⟨#[]⟩, .int .i64 0, .int .i64 0, .slice none 0 0]) := fun W' h => hbk.below h hbk.lt
            clear HBW hb hbk hg8
            have HBW := HBWn
            clear HBWn
            obtain ⟨wc, hwc⟩ : ∃ y, y = wn := ⟨_, rfl⟩
            subst hwc
            refine KT.keep (inBW HBW.out) ?_
            refine wpOrdT_op rfl ?_
            try have HLT := hid (F8.out wc (Below.refl _ _)).lt
            try have R7 := hid (EC.out wc (Below.refl _ _))
            have HG7 : Hid (we.heap.size ≤ wc.heap.size) := HBW.out.size
            go_wp2_with fail
            obtain ⟨wn, hwn⟩ : ∃ W, wc.alloc (.cells #[.string ⟨#[]⟩, .int .i64 0, .int .i64 0, .slice none 0 0] 31) = W := ⟨_, rfl⟩
            have hb : Below wc.heap.size wc wn := by rw [← hwn]; exact (Below.refl _ _).alloc (Nat.le_refl _) _
            have hbk : Blk wn wc.heap.size 31 #[.string ⟨#[]⟩, .int .i64 0, .int .i64 0, .slice none 0 0] := by rw [← hwn]; exact Blk.new _ _ _
            rw [hwn]
            clear hwn
            obtain ⟨g7, hg7⟩ : ∃ y, wc.heap.size = y := ⟨_, rfl⟩
            try rw [hg7] at R7
            try rw [hg7] at HLT
            rw [hg7] at hbk HG7 ⊢
            have HBWn : Hid (Below we.heap.size we wn) := HBW.out.trans (hb.mono HBW.out.size)
            try (have CPn := hid (fun (W' : World) (h : Below wn.heap.size wn W') => CP.out W' (hb.trans (h.mono hb.size))); clear CP; have CP := CPn; clear CPn)
            try (have CKn := hid (fun (W' : World) (h : Below wn.heap.size wn W') => CK.out W' (hb.trans (h.mono hb.size))); clear CK; have CK := CKn; clear CKn)
            try (have ECn := hid (fun (W' : World) (h : Below wn.heap.size wn W') => EC.out W' (hb.trans (h.mono hb.size))); clear EC; have EC := ECn; clear ECn)
            try (have MIn := hid (fun (W' : World) (h : Below wn.heap.size wn W') => MI.out W' (hb.trans (h.mono hb.size))); clear MI; have MI := MIn; clear MIn)
            try (have F8n := hid (fun (W' : World) (h : Below wn.heap.size wn W') => F8.out W' (hb.trans (h.mono hb.size))); clear F8; have F8 := F8n; clear F8n)
            have F7 : Hid (∀ W', Below wn.heap.size wn W' → Blk W' g7 31 #[.string ⟨#[]⟩, .int .i64 0, .int .i64 0, .slice none 0 0]) := fun W' h => hbk.below h hbk.lt
            clear HBW hb hbk hg7
            have HBW := HBWn
            clear HBWn
            obtain ⟨wc, hwc⟩ : ∃ y, y = wn := ⟨_, rfl⟩
            subst hwc
            refine KT.keep (inBW HBW.out) ?_
            refine wpOrdT_op rfl ?_
            have K7 := hid (F7.out wc (Below.refl _ _)); have K8 := hid (F8.out wc (Below.refl _ _))
            have CPc := hid (CP.out wc (Below.refl _ _)); have CKc := hid (CK.out wc (Below.refl _ _)); have MIc := hid (MI.out wc (Below.refl _ _))
            have HNE : Hid (g7 ≠ g8 ∧ ga ≠ g7 ∧ ga ≠ g8 ∧ gb ≠ g7 ∧ gb ≠ g8) := by
              have h1 := HA2.out.lt; have h2 := HB2.out.lt; have h3 := HG7.out; have h4 := HG8.out
              refine ⟨?_, by omega, by omega, by omega, by omega⟩
              first
                | exact Nat.ne_of_lt HLT.out
                | exact Nat.ne_of_gt HLT.out
            have D7 : Hid (g7 < Bc ∨ Ec ≤ g7) := by first | exact Or.inl L7.out | exact Or.inr R7.out
            have D8 : Hid (g8 < Bc ∨ Ec ≤ g8) := by first | exact Or.inl L8.out | exact Or.inr R8.out
            obtain ⟨y0, y1, y2, y3⟩ := fact4 K7.out
            have yl := (K7.out).lt
            have yf0 := (K7.out).frozen 0; have yf1 := (K7.out).frozen 1; have yf2 := (K7.out).frozen 2; have yf3 := (K7.out).frozen 3
            go_wp2_with fail
            obtain ⟨wf, hwf⟩ : ∃ W, set4 wc g7 (.string a1) (.int .i64 a2) (.int .i64 a3) (.slice A3 n c3) = W := ⟨_, rfl⟩
            have H7f : Hid (Blk wf g7 31 #[.string a1, .int .i64 a2, .int .i64 a3, .slice A3 n c3]) := by rw [← hwf]; exact set4_blk K7.out _ _ _ _
            have H8f : Hid (Blk wf g8 31 #[.string ⟨#[]⟩, .int .i64 0, .int .i64 0, .slice none 0 0]) := by rw [← hwf]; exact (((K8.out.set_far (Ne.symm HNE.out.1)).set_far (Ne.symm HNE.out.1)).set_far (Ne.symm HNE.out.1)).set_far (Ne.symm HNE.out.1)
            have CPf : Hid (OpsOwn Bc wf (.slice A3 n c3) ao) := by rw [← hwf]; exact set4_ops CPc.out K7.out _ _ _ _
            have MIf : Hid (OpsOwn Ec wf (.slice A4 n c4) ao) := by rw [← hwf]; exact set4_ops MIc.out K7.out _ _ _ _
            have CKf : Hid (CpOk Bc Ec wf A3 ao) := by rw [← hwf]; exact CKc.out.set4P K7.out _ _ _ _
            have HBF : Hid (Below we.heap.size we wf) := by rw [← hwf]; exact set4_below HBW.out HG7.out _ _ _ _
            unfold set4 at hwf
            rw [hwf]
            clear hwf K7 K8 CPc CKc MIc CP CK MI F7 F8 HBW y0 y1 y2 y3 yl yf0 yf1 yf2 yf3
            have HBW := HBF
            refine KT.keep (inBW HBW.out) ?_
            refine wpOrdT_op rfl ?_
            obtain ⟨y0, y1, y2, y3⟩ := fact4 H8f.out
            have yl := (H8f.out).lt
            have yf0 := (H8f.out).frozen 0; have yf1 := (H8f.out).frozen 1; have yf2 := (H8f.out).frozen 2; have yf3 := (H8f.out).frozen 3
            go_wp2_with fail
            obtain ⟨w3, hw3⟩ : ∃ W, set4 wf g8 (.string a1) (.int .i64 a2) (.int .i64 a3) (.slice A4 n c4) = W := ⟨_, rfl⟩
            have H8 : Hid (Blk w3 g8 31 #[.string a1, .int .i64 a2, .int .i64 a3, .slice A4 n c4]) := by rw [← hw3]; exact set4_blk H8f.out _ _ _ _
            have H7 : Hid (Blk w3 g7 31 #[.string a1, .int .i64 a2, .int .i64 a3, .slice A3 n c3]) := by rw [← hw3]; exact (((H7f.out.set_far HNE.out.1).set_far HNE.out.1).set_far HNE.out.1).set_far HNE.out.1
            have CP : Hid (OpsOwn Bc w3 (.slice A3 n c3) ao) := by rw [← hw3]; exact set4_ops CPf.out H8f.out _ _ _ _
            have MI : Hid (OpsOwn Ec w3 (.slice A4 n c4) ao) := by rw [← hw3]; exact set4_ops MIf.out H8f.out _ _ _ _
            have CK : Hid (CpOk Bc Ec w3 A3 ao) := by rw [← hw3]; exact CKf.out.set4P H8f.out _ _ _ _
            have HBE3 : Hid (Below we.heap.size we w3) := by rw [← hw3]; exact set4_below HBF.out HG8.out _ _ _ _
            unfold set4 at hw3
            rw [hw3]
            clear hw3 H7f H8f CPf MIf CKf HBF HBW y0 y1 y2 y3 yl yf0 yf1 yf2 yf3
            have HBW := HBE3
            refine KT.keep (inBW HBW.out) ?_
            refine wpOrdT_nil ?_
        rotate_left 2
        focus
          try have HLT := hid (F8.out wc (Below.refl _ _)).lt
          try have R7 := hid (EC.out wc (Below.refl _ _))
          have HG7 : Hid (we.heap.size ≤ wc.heap.size) := HBW.out.size
          go_wp2_with fail
          obtain ⟨wn, hwn⟩ : ∃ W, wc.alloc (.cells #[.string ⟨#[]⟩, .int .i64 0, .int .i64 0, .slice none 0 0] 31) = W := ⟨_, rfl⟩
          have hb : Below wc.heap.size wc wn := by rw [← hwn]; exact (Below.refl _ _).alloc (Nat.le_refl _) _
          have hbk : Blk wn wc.heap.size 31 #[.string ⟨#[]⟩, .int .i64 0, .int .i64 0, .slice none 0 0] := by rw [← hwn]; exact Blk.new _ _ _
          rw [hwn]
          clear hwn
          obtain ⟨g7, hg7⟩ : ∃ y, wc.heap.size = y := ⟨_, rfl⟩
          try rw [hg7] at R7
          try rw [hg7] at HLT
          rw [hg7] at hbk HG7 ⊢
          have HBWn : Hid (Below we.heap.size we wn) := HBW.out.trans (hb.mono HBW.out.size)
          try (have CPn := hid (fun (W' : World) (h : Below wn.heap.size wn W') => CP.out W' (hb.trans (h.mono hb.size))); clear CP; have CP := CPn; clear CPn)
          try (have CKn := hid (fun (W' : World) (h : Below wn.heap.size wn W') => CK.out W' (hb.trans (h.mono hb.size))); clear CK; have CK := CKn; clear CKn)
          try (have ECn := hid (fun (W' : World) (h : Below wn.heap.size wn W') => EC.out W' (hb.trans (h.mono hb.size))); clear EC; have EC := ECn; clear ECn)
          try (have MIn := hid (fun (W' : World) (h : Below wn.heap.size wn W') => MI.out W' (hb.trans (h.mono hb.size))); clear MI; have MI := MIn; clear MIn)
          try (have F8n := hid (fun (W' : World) (h : Below wn.heap.size wn W') => F8.out W' (hb.trans (h.mono hb.size))); clear F8; have F8 := F8n; clear F8n)
          have F7 : Hid (∀ W', Below wn.heap.size wn W' → Blk W' g7 31 #[.string ⟨#[]⟩, .int .i64 0, .int .i64 0, .slice none 0 0]) := fun W' h => hbk.below h hbk.lt
          clear HBW hb hbk hg7
          have HBW := HBWn
          clear HBWn
          obtain ⟨wc, hwc⟩ : ∃ y, y = wn := ⟨_, rfl⟩
          subst hwc
          refine KT.keep (inBW HBW.out) ?_
          refine wpOrdT_two rfl rfl ?_ ?_
          focus
            have CQ := hid (CGA.out A1 c1 wc ((HO1e.out.below HBW.out (Nat.le_refl _)).inn HN.out))
            have HEW := hid (EC.out wc (Below.refl _ _))
            go_wp2_with fail
            refine CQ.out.mono ?_
            rintro en wc ⟨A4, c4, rfl, ho, hb⟩
            have MI : Hid (∀ W', Below wc.heap.size wc W' → OpsOwn Ec W' (.slice A4 n c4) ao) := fun W' h => (ho.base HEW.out).below h (Nat.le_refl _)
            have CPn := hid (fun (W' : World) (h : Below wc.heap.size wc W') => CP.out W' (hb.trans (h.mono hb.size)))
            clear CP
            have CP := CPn
            clear CPn
            have CKn := hid (fun (W' : World) (h : Below wc.heap.size wc W') => CK.out W' (hb.trans (h.mono hb.size)))
            clear CK
            have CK := CKn
            clear CKn
            have ECn := hid (fun (W' : World) (h : Below wc.heap.size wc W') => EC.out W' (hb.trans (h.mono hb.size)))
            clear EC
            have EC := ECn
            clear ECn
            try (have F7n := hid (fun (W' : World) (h : Below wc.heap.size wc W') => F7.out W' (hb.trans (h.mono hb.size))); clear F7; have F7 := F7n; clear F7n)
            try (have F8n := hid (fun (W' : World) (h : Below wc.heap.size wc W') => F8.out W' (hb.trans (h.mono hb.size))); clear F8; have F8 := F8n; clear F8n)
            have HBWn : Hid (Below we.heap.size we wc) := HBW.out.trans (hb.mono HBW.out.size)
            clear HBW
            have HBW := HBWn
            clear HBWn
            clear hb ho CQ HEW
            go_wp2_with fail
            refine KT.keep (inBW HBW.out) ?_
            refine wpOrdT_op rfl ?_
            try have HLT := hid (F7.out wc (Below.refl _ _)).lt
            try have R8 := hid (EC.out wc (Below.refl _ _))
            have HG8 : Hid (we.heap.size ≤ wc.heap.size) := HBW.out.size
            go_wp2_with fail
            obtain ⟨wn, hwn⟩ : ∃ W, wc.alloc (.cells #[.string ⟨#[]⟩, .int .i64 0, .int .i64 0, .slice none 0 0] 31) = W := ⟨_, rfl⟩
            have hb : Below wc.heap.size wc wn := by rw [← hwn]; exact (Below.refl _ _).alloc (Nat.le_refl _) _
            have hbk : Blk wn wc.heap.size 31 #[.string ⟨#[]⟩, .int .i64 0, .int .i64 0, .slice none 0 0] := by rw [← hwn]; exact Blk.new _ _ _
            rw [hwn]
            clear hwn
            obtain ⟨g8, hg8⟩ : ∃ y, wc.heap.size = y := ⟨_, rfl⟩
            try rw [hg8] at R8
            try rw [hg8] at HLT
            rw [hg8] at hbk HG8 ⊢
            have HBWn : Hid (Below we.heap.size we wn) := HBW.out.trans (hb.mono HBW.out.size)
            try (have CPn := hid (fun (W' : World) (h : Below wn.heap.size wn W') => CP.out W' (hb.trans (h.mono hb.size))); clear CP; have CP := CPn; clear CPn)
            try (have CKn := hid (fun (W' : World) (h : Below wn.heap.size wn W') => CK.out W' (hb.trans (h.mono hb.size))); clear CK; have CK := CKn; clear CKn)
            try (have ECn := hid (fun (W' : World) (h : Below wn.heap.size wn W') => EC.out W' (hb.trans (h.mono hb.size))); clear EC; have EC := ECn; clear ECn)
            try (have MIn := hid (fun (W' : World) (h : Below wn.heap.size wn W') => MI.out W' (hb.trans (h.mono hb.size))); clear MI; have MI := MIn; clear MIn)
            try (have F7n := hid (fun (W' : World) (h : Below wn.heap.size wn W') => F7.out W' (hb.trans (h.mono hb.size))); clear F7; have F7 := F7n; clear F7n)
            have F8 : Hid (∀ W', Below wn.heap.size wn W' → Blk W' g8 31 #[.string ⟨#[]⟩, .int .i64 0, .int .i64 0, .slice none 0 0]) := fun W' h => hbk.below h hbk.lt
            clear HBW hb hbk hg8
            have HBW := HBWn
            clear HBWn
            obtain ⟨wc, hwc⟩ : ∃ y, y = wn := ⟨_, rfl⟩
            subst hwc
            refine KT.keep (inBW HBW.out) ?_
            refine wpOrdT_op rfl ?_
            have K7 := hid (F7.out wc (Below.refl _ _)); have K8 := hid (F8.out wc (Below.refl _ _))
            have CPc := hid (CP.out wc (Below.refl _ _)); have CKc := hid (CK.out wc (Below.refl _ _)); have MIc := hid (MI.out wc (Below.refl _ _))
            have HNE : Hid (g7 ≠ g8 ∧ ga ≠ g7 ∧ ga ≠ g8 ∧ gb ≠ g7 ∧ gb ≠ g8) := by
              have h1 := HA2.out.lt; have h2 := HB2.out.lt; have h3 := HG7.out; have h4 := HG8.out
              refine ⟨?_, by omega, by omega, by omega, by omega⟩
              first
                | exact Nat.ne_of_lt HLT.out
                | exact Nat.ne_of_gt HLT.out
            have D7 : Hid (g7 < Bc ∨ Ec ≤ g7) := by first | exact Or.inl L7.out | exact Or.inr R7.out
            have D8 : Hid (g8 < Bc ∨ Ec ≤ g8) := by first | exact Or.inl L8.out | exact Or.inr R8.out
            obtain ⟨y0, y1, y2, y3⟩ := fact4 K7.out
            have yl := (K7.out).lt
            have yf0 := (K7.out).frozen 0; have yf1 := (K7.out).frozen 1; have yf2 := (K7.out).frozen 2; have yf3 := (K7.out).frozen 3
            go_wp2_with fail
            obtain ⟨wf, hwf⟩ : ∃ W, set4 wc g7 (.string a1) (.int .i64 a2) (.int .i64 a3) (.slice A3 n c3) = W := ⟨_, rfl⟩
            have H7f : Hid (Blk wf g7 31 #[.string a1, .int .i64 a2, .int .i64 a3, .slice A3 n c3]) := by rw [← hwf]; exact set4_blk K7.out _ _ _ _
            have H8f : Hid (Blk wf g8 31 #[.string ⟨#[]⟩, .int .i64 0, .int .i64 0, .slice none 0 0]) := by rw [← hwf]; exact (((K8.out.set_far (Ne.symm HNE.out.1)).set_far (Ne.symm HNE.out.1)).set_far (Ne.symm HNE.out.1)).set_far (Ne.symm HNE.out.1)
            have CPf : Hid (OpsOwn Bc wf (.slice A3 n c3) ao) := by rw [← hwf]; exact set4_ops CPc.out K7.out _ _ _ _
            have MIf : Hid (OpsOwn Ec wf (.slice A4 n c4) ao) := by rw [← hwf]; exact set4_ops MIc.out K7.out _ _ _ _
            have CKf : Hid (CpOk Bc Ec wf A3 ao) := by rw [← hwf]; exact CKc.out.set4P K7.out _ _ _ _
            have HBF : Hid (Below we.heap.size we wf) := by rw [← hwf]; exact set4_below HBW.out HG7.out _ _ _ _
            unfold set4 at hwf
            rw [hwf]
            clear hwf K7 K8 CPc CKc MIc CP CK MI F7 F8 HBW y0 y1 y2 y3 yl yf0 yf1 yf2 yf3
            have HBW := HBF
            refine KT.keep (inBW HBW.out) ?_
            refine wpOrdT_op rfl ?_
            obtain ⟨y0, y1, y2, y3⟩ := fact4 H8f.out
            have yl := (H8f.out).lt
            have yf0 := (H8f.out).frozen 0; have yf1 := (H8f.out).frozen 1; have yf2 := (H8f.out).frozen 2; have yf3 := (H8f.out).frozen 3
            go_wp2_with fail
            obtain ⟨w3, hw3⟩ : ∃ W, set4 wf g8 (.string a1) (.int .i64 a2) (.int .i64 a3) (.slice A4 n c4) = W := ⟨_, rfl⟩
            have H8 : Hid (Blk w3 g8 31 #[.string a1, .int .i64 a2, .int .i64 a3, .slice A4 n c4]) := by rw [← hw3]; exact set4_blk H8f.out _ _ _ _
            have H7 : Hid (Blk w3 g7 31 #[.string a1, .int .i64 a2, .int .i64 a3, .slice A3 n c3]) := by rw [← hw3]; exact (((H7f.out.set_far HNE.out.1).set_far HNE.out.1).set_far HNE.out.1).set_far HNE.out.1
            have CP : Hid (OpsOwn Bc w3 (.slice A3 n c3) ao) := by rw [← hw3]; exact set4_ops CPf.out H8f.out _ _ _ _
            have MI : Hid (OpsOwn Ec w3 (.slice A4 n c4) ao) := by rw [← hw3]; exact set4_ops MIf.out H8f.out _ _ _ _
            have CK : Hid (CpOk Bc Ec w3 A3 ao) := by rw [← hw3]; exact CKf.out.set4P H8f.out _ _ _ _
            have HBE3 : Hid (Below we.heap.size we w3) := by rw [← hw3]; exact set4_below HBF.out HG8.out _ _ _ _
            unfold set4 at hw3
            rw [hw3]
            clear hw3 H7f H8f CPf MIf CKf HBF HBW y0 y1 y2 y3 yl yf0 yf1 yf2 yf3
            have HBW := HBE3
            refine KT.keep (inBW HBW.out) ?_
            refine wpOrdT_nil ?_
          rotate_left 1
          focus
            try have HLT := hid (F7.out wc (Below.refl _ _)).lt
            try have R8 := hid (EC.out wc (Below.refl _ _))
            have HG8 : Hid (we.heap.size ≤ wc.heap.size) := HBW.out.size
            go_wp2_with fail
            obtain ⟨wn, hwn⟩ : ∃ W, wc.alloc (.cells #[.string ⟨#[]⟩, .int .i64 0, .int .i64 0, .slice none 0 0] 31) = W := ⟨_, rfl⟩
            have hb : Below wc.heap.size wc wn := by rw [← hwn]; exact (Below.refl _ _).alloc (Nat.le_refl _) _
            have hbk : Blk wn wc.heap.size 31 #[.string ⟨#[]⟩, .int .i64 0, .int .i64 0, .slice none 0 0] := by rw [← hwn]; exact Blk.new _ _ _
            rw [hwn]
            clear hwn
            obtain ⟨g8, hg8⟩ : ∃ y, wc.heap.size = y := ⟨_, rfl⟩
            try rw [hg8] at R8
            try rw [hg8] at HLT
            rw [hg8] at hbk HG8 ⊢
            have HBWn : Hid (Below we.heap.size we wn) := HBW.out.trans (hb.mono HBW.out.size)
            try (have CPn := hid (fun (W' : World) (h : Below wn.heap.size wn W') => CP.out W' (hb.trans (h.mono hb.size))); clear CP; have CP := CPn; clear CPn)
            try (have CKn := hid (fun (W' : World) (h : Below wn.heap.size wn W') => CK.out W' (hb.trans (h.mono hb.size))); clear CK; have CK := CKn; clear CKn)
            try (have ECn := hid (fun (W' : World) (h : Below wn.heap.size wn W') => EC.out W' (hb.trans (h.mono hb.size))); clear EC; have EC := ECn; clear ECn)
            try (have MIn := hid (fun (W' : World) (h : Below wn.heap.size wn W') => MI.out W' (hb.trans (h.mono hb.size))); clear MI; have MI := MIn; clear MIn)
            try (have F7n := hid (fun (W' : World) (h : Below wn.heap.size wn W') => F7.out W' (hb.trans (h.mono hb.size))); clear F7; have F7 := F7n; clear F7n)
            have F8 : Hid (∀ W', Below wn.heap.size wn W' → Blk W' g8 31 #[.string ⟨#[]⟩, .int .i64 0, .int .i64 0, .slice none 0 0]) := fun W' h => hbk.below h hbk.lt
            clear HBW hb hbk hg8
            have HBW := HBWn
            clear HBWn
            obtain ⟨wc, hwc⟩ : ∃ y, y = wn := ⟨_, rfl⟩
            subst hwc
            refine KT.keep (inBW HBW.out) ?_
            refine wpOrdT_op rfl ?_
            have CQ := hid (CGA.out A1 c1 wc ((HO1e.out.below HBW.out (Nat.le_refl _)).inn HN.out))
            have HEW := hid (EC.out wc (Below.refl _ _))
            go_wp2_with fail
            refine CQ.out.mono ?_
            rintro en wc ⟨A4, c4, rfl, ho, hb⟩
            have MI : Hid (∀ W', Below wc.heap.size wc W' → OpsOwn Ec W' (.slice A4 n c4) ao) := fun W' h => (ho.base HEW.out).below h (Nat.le_refl _)
            have CPn := hid (fun (W' : World) (h : Below wc.heap.size wc W') => CP.out W' (hb.trans (h.mono hb.size)))
            clear CP
            have CP := CPn
            clear CPn
            have CKn := hid (fun (W' : World) (h : Below wc.heap.size wc W') => CK.out W' (hb.trans (h.mono hb.size)))
            clear CK
            have CK := CKn
            clear CKn
            have ECn := hid (fun (W' : World) (h : Below wc.heap.size wc W') => EC.out W' (hb.trans (h.mono hb.size)))
            clear EC
            have EC := ECn
            clear ECn
            try (have F7n := hid (fun (W' : World) (h : Below wc.heap.size wc W') => F7.out W' (hb.trans (h.mono hb.size))); clear F7; have F7 := F7n; clear F7n)
            try (have F8n := hid (fun (W' : World) (h : Below wc.heap.size wc W') => F8.out W' (hb.trans (h.mono hb.size))); clear F8; have F8 := F8n; clear F8n)
            have HBWn : Hid (Below we.heap.size we wc) := HBW.out.trans (hb.mono HBW.out.size)
            clear HBW
            have HBW := HBWn
            clear HBWn
            clear hb ho CQ HEW
            go_wp2_with fail
            refine KT.keep (inBW HBW.out) ?_
            refine wpOrdT_op rfl ?_
            have K7 := hid (F7.out wc (Below.refl _ _)); have K8 := hid (F8.out wc (Below.refl _ _))
            have CPc := hid (CP.out wc (Below.refl _ _)); have CKc := hid (CK.out wc (Below.refl _ _)); have MIc := hid (MI.out wc (Below.refl _ _))
            have HNE : Hid (g7 ≠ g8 ∧ ga ≠ g7 ∧ ga ≠ g8 ∧ gb ≠ g7 ∧ gb ≠ g8) := by
              have h1 := HA2.out.lt; have h2 := HB2.out.lt; have h3 := HG7.out; have h4 := HG8.out
              refine ⟨?_, by omega, by omega, by omega, by omega⟩
              first
                | exact Nat.ne_of_lt HLT.out
                | exact Nat.ne_of_gt HLT.out
            have D7 : Hid (g7 < Bc ∨ Ec ≤ g7) := by first | exact Or.inl L7.out | exact Or.inr R7.out
            have D8 : Hid (g8 < Bc ∨ Ec ≤ g8) := by first | exact Or.inl L8.out | exact Or.inr R8.out
            obtain ⟨y0, y1, y2, y3⟩ := fact4 K7.out
            have yl := (K7.out).lt
            have yf0 := (K7.out).frozen 0; have yf1 := (K7.out).frozen 1; have yf2 := (K7.out).frozen 2; have yf3 := (K7.out).frozen 3
            go_wp2_with fail
            obtain ⟨wf, hwf⟩ : ∃ W, set4 wc g7 (.string a1) (.int .i64 a2) (.int .i64 a3) (.slice A3 n c3) = W := ⟨_, rfl⟩
            have H7f : Hid (Blk wf g7 31 #[.string a1, .int .i64 a2, .int .i64 a3, .slice A3 n c3]) := by rw [← hwf]; exact set4_blk K7.out _ _ _ _
            have H8f : Hid (Blk wf g8 31 #[.string ⟨#[]⟩, .int .i64 0, .int .i64 0, .slice none 0 0]) := by rw [← hwf]; exact (((K8.out.set_far (Ne.symm HNE.out.1)).set_far (Ne.symm HNE.out.1)).set_far (Ne.symm HNE.out.1)).set_far (Ne.symm HNE.out.1)
            have CPf : Hid (OpsOwn Bc wf (.slice A3 n c3) ao) := by rw [← hwf]; exact set4_ops CPc.out K7.out _ _ _ _
            have MIf : Hid (OpsOwn Ec wf (.slice A4 n c4) ao) := by rw [← hwf]; exact set4_ops MIc.out K7.out _ _ _ _
            have CKf : Hid (CpOk Bc Ec wf A3 ao) := by rw [← hwf]; exact CKc.out.set4P K7.out _ _ _ _
            have HBF : Hid (Below we.heap.size we wf) := by rw [← hwf]; exact set4_below HBW.out HG7.out _ _ _ _
            unfold set4 at hwf
            rw [hwf]
            clear hwf K7 K8 CPc CKc MIc CP CK MI F7 F8 HBW y0 y1 y2 y3 yl yf0 yf1 yf2 yf3
            have HBW := HBF
            refine KT.keep (inBW HBW.out) ?_
            refine wpOrdT_op rfl ?_
            obtain ⟨y0, y1, y2, y3⟩ := fact4 H8f.out
            have yl := (H8f.out).lt
            have yf0 := (H8f.out).frozen 0; have yf1 := (H8f.out).frozen 1; have yf2 := (H8f.out).frozen 2; have yf3 := (H8f.out).frozen 3
            go_wp2_with fail
            obtain ⟨w3, hw3⟩ : ∃ W, set4 wf g8 (.string a1) (.int .i64 a2) (.int .i64 a3) (.slice A4 n c4) = W := ⟨_, rfl⟩
            have H8 : Hid (Blk w3 g8 31 #[.string a1, .int .i64 a2, .int .i64 a3, .slice A4 n c4]) := by rw [← hw3]; exact set4_blk H8f.out _ _ _ _
            have H7 : Hid (Blk w3 g7 31 #[.string a1, .int .i64 a2, .int .i64 a3, .slice A3 n c3]) := by rw [← hw3]; exact (((H7f.out.set_far HNE.out.1).set_far HNE.out.1).set_far HNE.out.1).set_far HNE.out.1
            have CP : Hid (OpsOwn Bc w3 (.slice A3 n c3) ao) := by rw [← hw3]; exact set4_ops CPf.out H8f.out _ _ _ _
            have MI : Hid (OpsOwn Ec w3 (.slice A4 n c4) ao) := by rw [← hw3]; exact set4_ops MIf.out H8f.out _ _ _ _
            have CK : Hid (CpOk Bc Ec w3 A3 ao) := by rw [← hw3]; exact CKf.out.set4P H8f.out _ _ _ _
            have HBE3 : Hid (Below we.heap.size we w3) := by rw [← hw3]; exact set4_below HBF.out HG8.out _ _ _ _
            unfold set4 at hw3
            rw [hw3]
            clear hw3 H7f H8f CPf MIf CKf HBF HBW y0 y1 y2 y3 yl yf0 yf1 yf2 yf3
            have HBW := HBE3
            refine KT.keep (inBW HBW.out) ?_
            refine wpOrdT_nil ?_
        rotate_left 2
        focus
          try have HLT := hid (F7.out wc (Below.refl _ _)).lt
          try have R8 := hid (EC.out wc (Below.refl _ _))
          have HG8 : Hid (we.heap.size ≤ wc.heap.size) := HBW.out.size
          go_wp2_with fail
          obtain ⟨wn, hwn⟩ : ∃ W, wc.alloc (.cells #[.string ⟨#[]⟩, .int .i64 0, .int .i64 0, .slice none 0 0] 31) = W := ⟨_, rfl⟩
          have hb : Below wc.heap.size wc wn := by rw [← hwn]; exact (Below.refl _ _).alloc (Nat.le_refl _) _
          have hbk : Blk wn wc.heap.size 31 #[.string ⟨#[]⟩, .int .i64 0, .int .i64 0, .slice none 0 0] := by rw [← hwn]; exact Blk.new _ _ _
          rw [hwn]
          clear hwn
          obtain ⟨g8, hg8⟩ : ∃ y, wc.heap.size = y := ⟨_, rfl⟩
          try rw [hg8] at R8
          try rw [hg8] at HLT
          rw [hg8] at hbk HG8 ⊢
          have HBWn : Hid (Below we.heap.size we wn) := HBW.out.trans (hb.mono HBW.out.size)
          try (have CPn := hid (fun (W' : World) (h : Below wn.heap.size wn W') => CP.out W' (hb.trans (h.mono hb.size))); clear CP; have CP := CPn; clear CPn)
          try (have CKn := hid (fun (W' : World) (h : Below wn.heap.size wn W') => CK.out W' (hb.trans (h.mono hb.size))); clear CK; have CK := CKn; clear CKn)
          try (have ECn := hid (fun (W' : World) (h : Below wn.heap.size wn W') => EC.out W' (hb.trans (h.mono hb.size))); clear EC; have EC := ECn; clear ECn)
          try (have MIn := hid (fun (W' : World) (h : Below wn.heap.size wn W') => MI.out W' (hb.trans (h.mono hb.size))); clear MI; have MI := MIn; clear MIn)
          try (have F7n := hid (fun (W' : World) (h : Below wn.heap.size wn W') => F7.out W' (hb.trans (h.mono hb.size))); clear F7; have F7 := F7n; clear F7n)
          have F8 : Hid (∀ W', Below wn.heap.size wn W' → Blk W' g8 31 #[.string ⟨#[]⟩, .int .i64 0, .int .i64 0, .slice none 0 0]) := fun W' h => hbk.below h hbk.lt
          clear HBW hb hbk hg8
          have HBW := HBWn
          clear HBWn
          obtain ⟨wc, hwc⟩ : ∃ y, y = wn := ⟨_, rfl⟩
          subst hwc
          refine KT.keep (inBW HBW.out) ?_
          refine wpOrdT_two rfl rfl ?_ ?_
          focus
            have CQ := hid (CGA.out A1 c1 wc ((HO1e.out.below HBW.out (Nat.le_refl _)).inn HN.out))
            have HEW := hid (EC.out wc (Below.refl _ _))
            go_wp2_with fail
            refine CQ.out.mono ?_
            rintro en wc ⟨A4, c4, rfl, ho, hb⟩
            have MI : Hid (∀ W', Below wc.heap.size wc W' → OpsOwn Ec W' (.slice A4 n c4) ao) := fun W' h => (ho.base HEW.out).below h (Nat.le_refl _)
            have CPn := hid (fun (W' : World) (h : Below wc.heap.size wc W') => CP.out W' (hb.trans (h.mono hb.size)))
            clear CP
            have CP := CPn
            clear CPn
            have CKn := hid (fun (W' : World) (h : Below wc.heap.size wc W') => CK.out W' (hb.trans (h.mono hb.size)))
            clear CK
            have CK := CKn
            clear CKn
            have ECn := hid (fun (W' : World) (h : Below wc.heap.size wc W') => EC.out W' (hb.trans (h.mono hb.size)))
            clear EC
            have EC := ECn
            clear ECn
            try (have F7n := hid (fun (W' : World) (h : Below wc.heap.size wc W') => F7.out W' (hb.trans (h.mono hb.size))); clear F7; have F7 := F7n; clear F7n)
            try (have F8n := hid (fun (W' : World) (h : Below wc.heap.size wc W') => F8.out W' (hb.trans (h.mono hb.size))); clear F8; have F8 := F8n; clear F8n)
            have HBWn : Hid (Below we.heap.size we wc) := HBW.out.trans (hb.mono HBW.out.size)
            clear HBW
            have HBW := HBWn
            clear HBWn
            clear hb ho CQ HEW
            go_wp2_with fail
            refine KT.keep (inBW HBW.out) ?_
            refine wpOrdT_op rfl ?_
            try have HLT := hid (F8.out wc (Below.refl _ _)).lt
            try have R7 := hid (EC.out wc (Below.refl _ _))
            have HG7 : Hid (we.heap.size ≤ wc.heap.size) := HBW.out.size
            go_wp2_with fail
            obtain ⟨wn, hwn⟩ : ∃ W, wc.alloc (.cells #[.string ⟨#[]⟩, .int .i64 0, .int .i64 0, .slice none 0 0] 31) = W := ⟨_, rfl⟩
            have hb : Below wc.heap.size wc wn := by rw [← hwn]; exact (Below.refl _ _).alloc (Nat.le_refl _) _
            have hbk : Blk wn wc.heap.size 31 #[.string ⟨#[]⟩, .int .i64 0, .int .i64 0, .slice none 0 0] := by rw [← hwn]; exact Blk.new _ _ _
            rw [hwn]
            clear hwn
            obtain ⟨g7, hg7⟩ : ∃ y, wc.heap.size = y := ⟨_, rfl⟩
            try rw [hg7] at R7
            try rw [hg7] at HLT
            rw [hg7] at hbk HG7 ⊢
            have HBWn : Hid (Below we.heap.size we wn) := HBW.out.trans (hb.mono HBW.out.size)
            try (have CPn := hid (fun (W' : World) (h : Below wn.heap.size wn W') => CP.out W' (hb.trans (h.mono hb.size))); clear CP; have CP := CPn; clear CPn)
            try (have CKn := hid (fun (W' : World) (h : Below wn.heap.size wn W') => CK.out W' (hb.trans (h.mono hb.size))); clear CK; have CK := CKn; clear CKn)
            try (have ECn := hid (fun (W' : World) (h : Below wn.heap.size wn W') => EC.out W' (hb.trans (h.mono hb.size))); clear EC; have EC := ECn; clear ECn)
            try (have MIn := hid (fun (W' : World) (h : Below wn.heap.size wn W') => MI.out W' (hb.trans (h.mono hb.size))); clear MI; have MI := MIn; clear MIn)
            try (have F8n := hid (fun (W' : World) (h : Below wn.heap.size wn W') => F8.out W' (hb.trans (h.mono hb.size))); clear F8; have F8 := F8n; clear F8n)
            have F7 : Hid (∀ W', Below wn.heap.size wn W' → Blk W' g7 31 #[.string ⟨#[]⟩, .int .i64 0, .int .i64 0, .slice none 0 0]) := fun W' h => hbk.below h hbk.lt
            clear HBW hb hbk hg7
            have HBW := HBWn
            clear HBWn
            obtain ⟨wc, hwc⟩ : ∃ y, y = wn := ⟨_, rfl⟩
            subst hwc
            refine KT.keep (inBW HBW.out) ?_
            refine wpOrdT_op rfl ?_
            have K7 := hid (F7.out wc (Below.refl _ _)); have K8 := hid (F8.out wc (Below.refl _ _))
            have CPc := hid (CP.out wc (Below.refl _ _)); have CKc := hid (CK.out wc (Below.refl _ _)); have MIc := hid (MI.out wc (Below.refl _ _))
            have HNE : Hid (g7 ≠ g8 ∧ ga ≠ g7 ∧ ga ≠ g8 ∧ gb ≠ g7 ∧ gb ≠ g8) := by
              have h1 := HA2.out.lt; have h2 := HB2.out.lt; have h3 := HG7.out; have h4 := HG8.out
              refine ⟨?_, by omega, by omega, by omega, by omega⟩
              first
                | exact Nat.ne_of_lt HLT.out
                | exact Nat.ne_of_gt HLT.out
            have D7 : Hid (g7 < Bc ∨ Ec ≤ g7) := by first | exact Or.inl L7.out | exact Or.inr R7.out
            have D8 : Hid (g8 < Bc ∨ Ec ≤ g8) := by first | exact Or.inl L8.out | exact Or.inr R8.out
            obtain ⟨y0, y1, y2, y3⟩ := fact4 K7.out
            have yl := (K7.out).lt
            have yf0 := (K7.out).frozen 0; have yf1 := (K7.out).frozen 1; have yf2 := (K7.out).frozen 2; have yf3 := (K7.out).frozen 3
            go_wp2_with fail
            obtain ⟨wf, hwf⟩ : ∃ W, set4 wc g7 (.string a1) (.int .i64 a2) (.int .i64 a3) (.slice A3 n c3) = W := ⟨_, rfl⟩
            have H7f : Hid (Blk wf g7 31 #[.string a1, .int .i64 a2, .int .i64 a3, .slice A3 n c3]) := by rw [← hwf]; exact set4_blk K7.out _ _ _ _
            have H8f : Hid (Blk wf g8 31 #[.string ⟨#[]⟩, .int .i64 0, .int .i64 0, .slice none 0 0]) := by rw [← hwf]; exact (((K8.out.set_far (Ne.symm HNE.out.1)).set_far (Ne.symm HNE.out.1)).set_far (Ne.symm HNE.out.1)).set_far (Ne.symm HNE.out.1)
            have CPf : Hid (OpsOwn Bc wf (.slice A3 n c3) ao) := by rw [← hwf]; exact set4_ops CPc.out K7.out _ _ _ _
            have MIf : Hid (OpsOwn Ec wf (.slice A4 n c4) ao) := by rw [← hwf]; exact set4_ops MIc.out K7.out _ _ _ _
            have CKf : Hid (CpOk Bc Ec wf A3 ao) := by rw [← hwf]; exact CKc.out.set4P K7.out _ _ _ _
            have HBF : Hid (Below we.heap.size we wf) := by rw [← hwf]; exact set4_below HBW.out HG7.out _ _ _ _
            unfold set4 at hwf
            rw [hwf]
            clear hwf K7 K8 CPc CKc MIc CP CK MI F7 F8 HBW y0 y1 y2 y3 yl yf0 yf1 yf2 yf3
            have HBW := HBF
            refine KT.keep (inBW HBW.out) ?_
            refine wpOrdT_op rfl ?_
            obtain ⟨y0, y1, y2, y3⟩ := fact4 H8f.out
            have yl := (H8f.out).lt
            have yf0 := (H8f.out).frozen 0; have yf1 := (H8f.out).frozen 1; have yf2 := (H8f.out).frozen 2; have yf3 := (H8f.out).frozen 3
            go_wp2_with fail
            obtain ⟨w3, hw3⟩ : ∃ W, set4 wf g8 (.string a1) (.int .i64 a2) (.int .i64 a3) (.slice A4 n c4) = W := ⟨_, rfl⟩
            have H8 : Hid (Blk w3 g8 31 #[.string a1, .int .i64 a2, .int .i64 a3, .slice A4 n c4]) := by rw [← hw3]; exact set4_blk H8f.out _ _ _ _
            have H7 : Hid (Blk w3 g7 31 #[.string a1, .int .i64 a2, .int .i64 a3, .slice A3 n c3]) := by rw [← hw3]; exact (((H7f.out.set_far HNE.out.1).set_far HNE.out.1).set_far HNE.out.1).set_far HNE.out.1
            have CP : Hid (OpsOwn Bc w3 (.slice A3 n c3) ao) := by rw [← hw3]; exact set4_ops CPf.out H8f.out _ _ _ _
            have MI : Hid (OpsOwn Ec w3 (.slice A4 n c4) ao) := by rw [← hw3]; exact set4_ops MIf.out H8f.out _ _ _ _
            have CK : Hid (CpOk Bc Ec w3 A3 ao) := by rw [← hw3]; exact CKf.out.set4P H8f.out _ _ _ _
            have HBE3 : Hid (Below we.heap.size we w3) := by rw [← hw3]; exact set4_below HBF.out HG8.out _ _ _ _
            unfold set4 at hw3
            rw [hw3]
            clear hw3 H7f H8f CPf MIf CKf HBF HBW y0 y1 y2 y3 yl yf0 yf1 yf2 yf3
            have HBW := HBE3
            refine KT.keep (inBW HBW.out) ?_
            refine wpOrdT_nil ?_
          rotate_left 1
          focus
            try have HLT := hid (F8.out wc (Below.refl _ _)).lt
            try have R7 := hid (EC.out wc (Below.refl _ _))
            have HG7 : Hid (we.heap.size ≤ wc.heap.size) := HBW.out.size
            go_wp2_with fail
            obtain ⟨wn, hwn⟩ : ∃ W, wc.alloc (.cells #[.string ⟨#[]⟩, .int .i64 0, .int .i64 0, .slice none 0 0] 31) = W := ⟨_, rfl⟩
            have hb : Below wc.heap.size wc wn := by rw [← hwn]; exact (Below.refl _ _).alloc (Nat.le_refl _) _
            have hbk : Blk wn wc.heap.size 31 #[.string ⟨#[]⟩, .int .i64 0, .int .i64 0, .slice none 0 0] := by rw [← hwn]; exact Blk.new _ _ _
            rw [hwn]
            clear hwn
            obtain ⟨g7, hg7⟩ : ∃ y, wc.heap.size = y := ⟨_, rfl⟩
            try rw [hg7] at R7
            try rw [hg7] at HLT
            rw [hg7] at hbk HG7 ⊢
            have HBWn : Hid (Below we.heap.size we wn) := HBW.out.trans (hb.mono HBW.out.size)
            try (have CPn := hid (fun (W' : World) (h : Below wn.heap.size wn W') => CP.out W' (hb.trans (h.mono hb.size))); clear CP; have CP := CPn; clear CPn)
            try (have CKn := hid (fun (W' : World) (h : Below wn.heap.size wn W') => CK.out W' (hb.trans (h.mono hb.size))); clear CK; have CK := CKn; clear CKn)
            try (have ECn := hid (fun (W' : World) (h : Below wn.heap.size wn W') => EC.out W' (hb.trans (h.mono hb.size))); clear EC; have EC := ECn; clear ECn)
            try (have MIn := hid (fun (W' : World) (h : Below wn.heap.size wn W') => MI.out W' (hb.trans (h.mono hb.size))); clear MI; have MI := MIn; clear MIn)
            try (have F8n := hid (fun (W' : World) (h : Below wn.heap.size wn W') => F8.out W' (hb.trans (h.mono hb.size))); clear F8; have F8 := F8n; clear F8n)
            have F7 : Hid (∀ W', Below wn.heap.size wn W' → Blk W' g7 31 #[.string ⟨#[]⟩, .int .i64 0, .int .i64 0, .slice none 0 0]) := fun W' h => hbk.below h hbk.lt
            clear HBW hb hbk hg7
            have HBW := HBWn
            clear HBWn
            obtain ⟨wc, hwc⟩ : ∃ y, y = wn := ⟨_, rfl⟩
            subst hwc
            refine KT.keep (inBW HBW.out) ?_
            refine wpOrdT_op rfl ?_
            have CQ := hid (CGA.out A1 c1 wc ((HO1e.out.below HBW.out (Nat.le_refl _)).inn HN.out))
            have HEW := hid (EC.out wc (Below.refl _ _))
            go_wp2_with fail
            refine CQ.out.mono ?_
            rintro en wc ⟨A4, c4, rfl, ho, hb⟩
            have MI : Hid (∀ W', Below wc.heap.size wc W' → OpsOwn Ec W' (.slice A4 n c4) ao) := fun W' h => (ho.base HEW.out).below h (Nat.le_refl _)
            have CPn := hid (fun (W' : World) (h : Below wc.heap.size wc W') => CP.out W' (hb.trans (h.mono hb.size)))
            clear CP
            have CP := CPn
            clear CPn
            have CKn := hid (fun (W' : World) (h : Below wc.heap.size wc W') => CK.out W' (hb.trans (h.mono hb.size)))
            clear CK
            have CK := CKn
            clear CKn
            have ECn := hid (fun (W' : World) (h : Below wc.heap.size wc W') => EC.out W' (hb.trans (h.mono hb.size)))
            clear EC
            have EC := ECn
            clear ECn
            try (have F7n := hid (fun (W' : World) (h : Below wc.heap.size wc W') => F7.out W' (hb.trans (h.mono hb.size))); clear F7; have F7 := F7n; clear F7n)
            try (have F8n := hid (fun (W' : World) (h : Below wc.heap.size wc W') => F8.out W' (hb.trans (h.mono hb.size))); clear F8; have F8 := F8n; clear F8n)
            have HBWn : Hid (Below we.heap.size we wc) := HBW.out.trans (hb.mono HBW.out.size)
            clear HBW
            have HBW := HBWn
            clear HBWn
            clear hb ho CQ HEW
            go_wp2_with fail
            refine KT.keep (inBW HBW.out) ?_
            refine wpOrdT_op rfl ?_
            have K7 := hid (F7.out wc (Below.refl _ _)); have K8 := hid (F8.out wc (Below.refl _ _))
            have CPc := hid (CP.out wc (Below.refl _ _)); have CKc := hid (CK.out wc (Below.refl _ _)); have MIc := hid (MI.out wc (Below.refl _ _))
            have HNE : Hid (g7 ≠ g8 ∧ ga ≠ g7 ∧ ga ≠ g8 ∧ gb ≠ g7 ∧ gb ≠ g8) := by
              have h1 := HA2.out.lt; have h2 := HB2.out.lt; have h3 := HG7.out; have h4 := HG8.out
              refine ⟨?_, by omega, by omega, by omega, by omega⟩
              first
                | exact Nat.ne_of_lt HLT.out
                | exact Nat.ne_of_gt HLT.out
            have D7 : Hid (g7 < Bc ∨ Ec ≤ g7) := by first | exact Or.inl L7.out | exact Or.inr R7.out
            have D8 : Hid (g8 < Bc ∨ Ec ≤ g8) := by first | exact Or.inl L8.out | exact Or.inr R8.out
            obtain ⟨y0, y1, y2, y3⟩ := fact4 K7.out
            have yl := (K7.out).lt
            have yf0 := (K7.out).frozen 0; have yf1 := (K7.out).frozen 1; have yf2 := (K7.out).frozen 2; have yf3 := (K7.out).frozen 3
            go_wp2_with fail
            obtain ⟨wf, hwf⟩ : ∃ W, set4 wc g7 (.string a1) (.int .i64 a2) (.int .i64 a3) (.slice A3 n c3) = W := ⟨_, rfl⟩
            have H7f : Hid (Blk wf g7 31 #[.string a1, .int .i64 a2, .int .i64 a3, .slice A3 n c3]) := by rw [← hwf]; exact set4_blk K7.out _ _ _ _
            have H8f : Hid (Blk wf g8 31 #[.string ⟨#[]⟩, .int .i64 0, .int .i64 0, .slice none 0 0]) := by rw [← hwf]; exact (((K8.out.set_far (Ne.symm HNE.out.1)).set_far (Ne.symm HNE.out.1)).set_far (Ne.symm HNE.out.1)).set_far (Ne.symm HNE.out.1)
            have CPf : Hid (OpsOwn Bc wf (.slice A3 n c3) ao) := by rw [← hwf]; exact set4_ops CPc.out K7.out _ _ _ _
            have MIf : Hid (OpsOwn Ec wf (.slice A4 n c4) ao) := by rw [← hwf]; exact set4_ops MIc.out K7.out _ _ _ _
            have CKf : Hid (CpOk Bc Ec wf A3 ao) := by rw [← hwf]; exact CKc.out.set4P K7.out _ _ _ _
            have HBF : Hid (Below we.heap.size we wf) := by rw [← hwf]; exact set4_below HBW.out HG7.out _ _ _ _
            unfold set4 at hwf
            rw [hwf]
            clear hwf K7 K8 CPc CKc MIc CP CK MI F7 F8 HBW y0 y1 y2 y3 yl yf0 yf1 yf2 yf3
            have HBW := HBF
            refine KT.keep (inBW HBW.out) ?_
            refine wpOrdT_op rfl ?_
            obtain ⟨y0, y1, y2, y3⟩ := fact4 H8f.out
            have yl := (H8f.out).lt
            have yf0 := (H8f.out).frozen 0; have yf1 := (H8f.out).frozen 1; have yf2 := (H8f.out).frozen 2; have yf3 := (H8f.out).frozen 3
            go_wp2_with fail
            obtain ⟨w3, hw3⟩ : ∃ W, set4 wf g8 (.string a1) (.int .i64 a2) (.int .i64 a3) (.slice A4 n c4) = W := ⟨_, rfl⟩
            have H8 : Hid (Blk w3 g8 31 #[.string a1, .int .i64 a2, .int .i64 a3, .slice A4 n c4]) := by rw [← hw3]; exact set4_blk H8f.out _ _ _ _
            have H7 : Hid (Blk w3 g7 31 #[.string a1, .int .i64 a2, .int .i64 a3, .slice A3 n c3]) := by rw [← hw3]; exact (((H7f.out.set_far HNE.out.1).set_far HNE.out.1).set_far HNE.out.1).set_far HNE.out.1
            have CP : Hid (OpsOwn Bc w3 (.slice A3 n c3) ao) := by rw [← hw3]; exact set4_ops CPf.out H8f.out _ _ _ _
            have MI : Hid (OpsOwn Ec w3 (.slice A4 n c4) ao) := by rw [← hw3]; exact set4_ops MIf.out H8f.out _ _ _ _
            have CK : Hid (CpOk Bc Ec w3 A3 ao) := by rw [← hw3]; exact CKf.out.set4P H8f.out _ _ _ _
            have HBE3 : Hid (Below we.heap.size we w3) := by rw [← hw3]; exact set4_below HBF.out HG8.out _ _ _ _
            unfold set4 at hw3
            rw [hw3]
            clear hw3 H7f H8f CPf MIf CKf HBF HBW y0 y1 y2 y3 yl yf0 yf1 yf2 yf3
            have HBW := HBE3
            refine KT.keep (inBW HBW.out) ?_
            refine wpOrdT_nil ?_
      rotate_left 6
      focus
        try have HLT := hid (F8.out wc (Below.refl _ _)).lt
        try have R7 := hid (EC.out wc (Below.refl _ _))
        have HG7 : Hid (we.heap.size ≤ wc.heap.size) := HBW.out.size
        go_wp2_with fail
        obtain ⟨wn, hwn⟩ : ∃ W, wc.alloc (.cells #[.string ⟨#[]⟩, .int .i64 0, .int .i64 0, .slice none 0 0] 31) = W := ⟨_, rfl⟩
        have hb : Below wc.heap.size wc wn := by rw [← hwn]; exact (Below.refl _ _).alloc (Nat.le_refl _) _
        have hbk : Blk wn wc.heap.size 31 #[.string ⟨#[]⟩, .int .i64 0, .int .i64 0, .slice none 0 0] := by rw [← hwn]; exact Blk.new _ _ _
        rw [hwn]
        clear hwn
        obtain ⟨g7, hg7⟩ : ∃ y, wc.heap.size = y := ⟨_, rfl⟩
        try rw [hg7] at R7
        try rw [hg7] at HLT
        rw [hg7] at hbk HG7 ⊢
        have HBWn : Hid (Below we.heap.size we wn) := HBW.out.trans (hb.mono HBW.out.size)
        try (have CPn := hid (fun (W' : World) (h : Below wn.heap.size wn W') => CP.out W' (hb.trans (h.mono hb.size))); clear CP; have CP := CPn; clear CPn)
        try (have CKn := hid (fun (W' : World) (h : Below wn.heap.size wn W') => CK.out W' (hb.trans (h.mono hb.size))); clear CK; have CK := CKn; clear CKn)
        try (have ECn := hid (fun (W' : World) (h : Below wn.heap.size wn W') => EC.out W' (hb.trans (h.mono hb.size))); clear EC; have EC := ECn; clear ECn)
        try (have MIn := hid (fun (W' : World) (h : Below wn.heap.size wn W') => MI.out W' (hb.trans (h.mono hb.size))); clear MI; have MI := MIn; clear MIn)
        try (have F8n := hid (fun (W' : World) (h : Below wn.heap.size wn W') => F8.out W' (hb.trans (h.mono hb.size))); clear F8; have F8 := F8n; clear F8n)
        have F7 : Hid (∀ W', Below wn.heap.size wn W' → Blk W' g7 31 #[.string ⟨#[]⟩, .int .i64 0, .int .i64 0, .slice none 0 0]) := fun W' h => hbk.below h hbk.lt
        clear HBW hb hbk hg7
        have HBW := HBWn
        clear HBWn
        obtain ⟨wc, hwc⟩ : ∃ y, y = wn := ⟨_, rfl⟩
        subst hwc
        refine KT.keep (inBW HBW.out) ?_
        refine wpOrdT_two rfl rfl ?_ ?_
        focus
          have CQ := hid (CCP.out A1 c1 w.heap.size wc (HO1e.out.below HBW.out (Nat.le_refl _)))
          have HBC0 : Hid (we.heap.size ≤ wc.heap.size) := HBW.out.size
          try have L7 := hid (F7.out wc (Below.refl _ _)).lt
          try have L8 := hid (F8.out wc (Below.refl _ _)).lt
          obtain ⟨Bc, hBc⟩ : ∃ y, wc.heap.size = y := ⟨_, rfl⟩
          try rw [hBc] at L7
          try rw [hBc] at L8
          rw [hBc] at HBC0
          have HBC := hid hBc
          clear hBc
          go_wp2_with fail
          refine CQ.out.mono ?_
          rintro en wc ⟨A3, c3, rfl, ho, hb⟩
          rw [HBC.out] at ho
          have CP : Hid (∀ W', Below wc.heap.size wc W' → OpsOwn Bc W' (.slice A3 n c3) ao) := fun W' h => ho.below h (Nat.le_refl _)
          have CK0 : Hid (CpOk Bc wc.heap.size wc A3 ao) := CpOk.of_own ho HN.out
          obtain ⟨Ec, hEc⟩ : ∃ y, wc.heap.size = y := ⟨_, rfl⟩
          have EC : Hid (∀ W', Below wc.heap.size wc W' → Ec ≤ W'.heap.size) := fun W' h => by rw [← hEc]; exact h.size
          rw [hEc] at CK0
          have CK : Hid (∀ W', Below wc.heap.size wc W' → CpOk Bc Ec W' A3 ao) := fun W' h => CK0.out.below h
          clear hEc CK0
          try (have F7n := hid (fun (W' : World) (h : Below wc.heap.size wc W') => F7.out W' (hb.trans (h.mono hb.size))); clear F7; have F7 := F7n; clear F7n)
          try (have F8n := hid (fun (W' : World) (h : Below wc.heap.size wc W') => F8.out W' (hb.trans (h.mono hb.size))); clear F8; have F8 := F8n; clear F8n)
          have HBWn : Hid (Below we.heap.size we wc) := HBW.out.trans (hb.mono HBW.out.size)
          clear HBW
          have HBW := HBWn
          clear HBWn
          clear hb ho CQ HBC
          go_wp2_with fail
          refine KT.keep (inBW HBW.out) ?_
          refine wpOrdT_two rfl rfl ?_ ?_
          focus
            have CQ := hid (CGA.out A1 c1 wc ((HO1e.out.below HBW.out (Nat.le_refl _)).inn HN.out))
            have HEW := hid (EC.out wc (Below.refl _ _))
            go_wp2_with fail
            refine CQ.out.mono ?_
            rintro en wc ⟨A4, c4, rfl, ho, hb⟩
            have MI : Hid (∀ W', Below wc.heap.size wc W' → OpsOwn Ec W' (.slice A4 n c4) ao) := fun W' h => (ho.base HEW.out).below h (Nat.le_refl _)
            have CPn := hid (fun (W' : World) (h : Below wc.heap.size wc W') => CP.out W' (hb.trans (h.mono hb.size)))
            clear CP
            have CP := CPn
            clear CPn
            have CKn := hid (fun (W' : World) (h : Below wc.heap.size wc W') => CK.out W' (hb.trans (h.mono hb.size)))
            clear CK
            have CK := CKn
            clear CKn
            have ECn := hid (fun (W' : World) (h : Below wc.heap.size wc W') => EC.out W' (hb.trans (h.mono hb.size)))
            clear EC
            have EC := ECn
            clear ECn
            try (have F7n := hid (fun (W' : World) (h : Below wc.heap.size wc W') => F7.out W' (hb.trans (h.mono hb.size))); clear F7; have F7 := F7n; clear F7n)
            try (have F8n := hid (fun (W' : World) (h : Below wc.heap.size wc W') => F8.out W' (hb.trans (h.mono hb.size))); clear F8; have F8 := F8n; clear F8n)
            have HBWn : Hid (Below we.heap.size we wc) := HBW.out.trans (hb.mono HBW.out.size)
            clear HBW
            have HBW := HBWn
            clear HBWn
            clear hb ho CQ HEW
            go_wp2_with fail
            refine KT.keep (inBW HBW.out) ?_
            refine wpOrdT_op rfl ?_
            try have HLT := hid (F7.out wc (Below.refl _ _)).lt
            try have R8 := hid (EC.out wc (Below.refl _ _))
            have HG8 : Hid (we.heap.size ≤ wc.heap.size) := HBW.out.size
            go_wp2_with fail
            obtain ⟨wn, hwn⟩ : ∃ W, wc.alloc (.cells #[.string ⟨#[]⟩, .int .i64 0, .int .i64 0, .slice none 0 0] 31) = W := ⟨_, rfl⟩
            have hb : Below wc.heap.size wc wn := by rw [← hwn]; exact (Below.refl _ _).alloc (Nat.le_refl _) _
            have hbk : Blk wn wc.heap.size 31 #[.string ⟨#[]⟩, .int .i64 0, .int .i64 0, .slice none 0 0] := by rw [← hwn]; exact Blk.new _ _ _
            rw [hwn]
            clear hwn
            obtain ⟨g8, hg8⟩ : ∃ y, wc.heap.size = y := ⟨_, rfl⟩
            try rw [hg8] at R8
            try rw [hg8] at HLT
            rw [hg8] at hbk HG8 ⊢
            have HBWn : Hid (Below we.heap.size we wn) := HBW.out.trans (hb.mono HBW.out.size)
            try (have CPn := hid (fun (W' : World) (h : Below wn.heap.size wn W') => CP.out W' (hb.trans (h.mono hb.size))); clear CP; have CP := CPn; clear CPn)
            try (have CKn := hid (fun (W' : World) (h : Below wn.heap.size wn W') => CK.out W' (hb.trans (h.mono hb.size))); clear CK; have CK := CKn; clear CKn)
            try (have ECn := hid (fun (W' : World) (h : Below wn.heap.size wn W') => EC.out W' (hb.trans (h.mono hb.size))); clear EC; have EC := ECn; clear ECn)
            try (have MIn := hid (fun (W' : World) (h : Below wn.heap.size wn W') => MI.out W' (hb.trans (h.mono hb.size))); clear MI; have MI := MIn; clear MIn)
            try (have F7n := hid (fun (W' : World) (h : Below wn.heap.size wn W') => F7.out W' (hb.trans (h.mono hb.size))); clear F7; have F7 := F7n; clear F7n)
            have F8 : Hid (∀ W', Below wn.heap.size wn W' → Blk W' g8 31 #[.string ⟨#[]⟩, .int .i64 0, .int .i64 0, .slice none 0 0]) := fun W' h => hbk.below h hbk.lt
            clear HBW hb hbk hg8
            have HBW := HBWn
            clear HBWn
            obtain ⟨wc, hwc⟩ : ∃ y, y = wn := ⟨_, rfl⟩
            subst hwc
            refine KT.keep (inBW HBW.out) ?_
            refine wpOrdT_op rfl ?_
            have K7 := hid (F7.out wc (Below.refl _ _)); have K8 := hid (F8.out wc (Below.refl _ _))
            have CPc := hid (CP.out wc (Below.refl _ _)); have CKc := hid (CK.out wc (Below.refl _ _)); have MIc := hid (MI.out wc (Below.refl _ _))
            have HNE : Hid (g7 ≠ g8 ∧ ga ≠ g7 ∧ ga ≠ g8 ∧ gb ≠ g7 ∧ gb ≠ g8) := by
              have h1 := HA2.out.lt; have h2 := HB2.out.lt; have h3 := HG7.out; have h4 := HG8.out
              refine ⟨?_, by omega, by omega, by omega, by omega⟩
              first
                | exact Nat.ne_of_lt HLT.out
                | exact Nat.ne_of_gt HLT.out
            have D7 : Hid (g7 < Bc ∨ Ec ≤ g7) := by first | exact Or.inl L7.out | exact Or.inr R7.out
            have D8 : Hid (g8 < Bc ∨ Ec ≤ g8) := by first | exact Or.inl L8.out | exact Or.inr R8.out
            obtain ⟨y0, y1, y2, y3⟩ := fact4 K7.out
            have yl := (K7.out).lt
            have yf0 := (K7.out).frozen 0; have yf1 := (K7.out).frozen 1; have yf2 := (K7.out).frozen 2; have yf3 := (K7.out).frozen 3
            go_wp2_with fail
            obtain ⟨wf, hwf⟩ : ∃ W, set4 wc g7 (.string a1) (.int .i64 a2) (.int .i64 a3) (.slice A3 n c3) = W := ⟨_, rfl⟩
            have H7f : Hid (Blk wf g7 31 #[.string a1, .int .i64 a2, .int .i64 a3, .slice A3 n c3]) := by rw [← hwf]; exact set4_blk K7.out _ _ _ _
            have H8f : Hid (Blk wf g8 31 #[.string ⟨#[]⟩, .int .i64 0, .int .i64 0, .slice none 0 0]) := by rw [← hwf]; exact (((K8.out.set_far (Ne.symm HNE.out.1)).set_far (Ne.symm HNE.out.1)).set_far (Ne.symm HNE.out.1)).set_far (Ne.symm HNE.out.1)
            have CPf : Hid (OpsOwn Bc wf (.slice A3 n c3) ao) := by rw [← hwf]; exact set4_ops CPc.out K7.out _ _ _ _
            have MIf : Hid (OpsOwn Ec wf (.slice A4 n c4) ao) := by rw [← hwf]; exact set4_ops MIc.out K7.out _ _ _ _
            have CKf : Hid (CpOk Bc Ec wf A3 ao) := by rw [← hwf]; exact CKc.out.set4P K7.out _ _ _ _
            have HBF : Hid (Below we.heap.size we wf) := by rw [← hwf]; exact set4_below HBW.out HG7.out _ _ _ _
            unfold set4 at hwf
            rw [hwf]
            clear hwf K7 K8 CPc CKc MIc CP CK MI F7 F8 HBW y0 y1 y2 y3 yl yf0 yf1 yf2 yf3
            have HBW := HBF
            refine KT.keep (inBW HBW.out) ?_
            refine wpOrdT_op rfl ?_
            obtain ⟨y0, y1, y2, y3⟩ := fact4 H8f.out
            have yl := (H8f.out).lt
            have yf0 := (H8f.out).frozen 0; have yf1 := (H8f.out).frozen 1; have yf2 := (H8f.out).frozen 2; have yf3 := (H8f.out).frozen 3
            go_wp2_with fail
            obtain ⟨w3, hw3⟩ : ∃ W, set4 wf g8 (.string a1) (.int .i64 a2) (.int .i64 a3) (.slice A4 n c4) = W := ⟨_, rfl⟩
            have H8 : Hid (Blk w3 g8 31 #[.string a1, .int .i64 a2, .int .i64 a3, .slice A4 n c4]) := by rw [← hw3]; exact set4_blk H8f.out _ _ _ _
            have H7 : Hid (Blk w3 g7 31 #[.string a1, .int .i64 a2, .int .i64 a3, .slice A3 n c3]) := by rw [← hw3]; exact (((H7f.out.set_far HNE.out.1).set_far HNE.out.1).set_far HNE.out.1).set_far HNE.out.1
            have CP : Hid (OpsOwn Bc w3 (.slice A3 n c3) ao) := by rw [← hw3]; exact set4_ops CPf.out H8f.out _ _ _ _
            have MI : Hid (OpsOwn Ec w3 (.slice A4 n c4) ao) := by rw [← hw3]; exact set4_ops MIf.out H8f.out _ _ _ _
            have CK : Hid (CpOk Bc Ec w3 A3 ao) := by rw [← hw3]; exact CKf.out.set4P H8f.out _ _ _ _
            have HBE3 : Hid (Below we.heap.size we w3) := by rw [← hw3]; exact set4_below HBF.out HG8.out _ _ _ _
            unfold set4 at hw3
            rw [hw3]
            clear hw3 H7f H8f CPf MIf CKf HBF HBW y0 y1 y2 y3 yl yf0 yf1 yf2 yf3
            have HBW := HBE3
            refine KT.keep (inBW HBW.out) ?_
            refine wpOrdT_nil ?_
          rotate_left 1
          focus
            try have HLT := hid (F7.out wc (Below.refl _ _)).lt
            try have R8 := hid (EC.out wc (Below.refl _ _))
            have HG8 : Hid (we.heap.size ≤ wc.heap.size) := HBW.out.size
            go_wp2_with fail
            obtain ⟨wn, hwn⟩ : ∃ W, wc.alloc (.cells #[.string ⟨#[]⟩, .int .i64 0, .int .i64 0, .slice none 0 0] 31) = W := ⟨_, rfl⟩
            have hb : Below wc.heap.size wc wn := by rw [← hwn]; exact (Below.refl _ _).alloc (Nat.le_refl _) _
            have hbk : Blk wn wc.heap.size 31 #[.string ⟨#[]⟩, .int .i64 0, .int .i64 0, .slice none 0 0] := by rw [← hwn]; exact Blk.new _ _ _
            rw [hwn]
            clear hwn
            obtain ⟨g8, hg8⟩ : ∃ y, wc.heap.size = y := ⟨_, rfl⟩
            try rw [hg8] at R8
            try rw [hg8] at HLT
            rw [hg8] at hbk HG8 ⊢
            have HBWn : Hid (Below we.heap.size we wn) := HBW.out.trans (hb.mono HBW.out.size)
            try (have CPn := hid (fun (W' : World) (h : Below wn.heap.size wn W') => CP.out W' (hb.trans (h.mono hb.size))); clear CP; have CP := CPn; clear CPn)
            try (have CKn := hid (fun (W' : World) (h : Below wn.heap.size wn W') => CK.out W' (hb.trans (h.mono hb.size))); clear CK; have CK := CKn; clear CKn)
            try (have ECn := hid (fun (W' : World) (h : Below wn.heap.size wn W') => EC.out W' (hb.trans (h.mono hb.size))); clear EC; have EC := ECn; clear ECn)
            try (have MIn := hid (fun (W' : World) (h : Below wn.heap.size wn W') => MI.out W' (hb.trans (h.mono hb.size))); clear MI; have MI := MIn; clear MIn)
            try (have F7n := hid (fun (W' : World) (h : Below wn.heap.size wn W') => F7.out W' (hb.trans (h.mono hb.size))); clear F7; have F7 := F7n; clear F7n)
            have F8 : Hid (∀ W', Below wn.heap.size wn W' → Blk W' g8 31 #[.string ⟨#[]⟩, .int .i64 0, .int .i64 0, .slice none 0 0]) := fun W' h => hbk.below h hbk.lt
            clear HBW hb hbk hg8
            have HBW := HBWn
            clear HBWn
            obtain ⟨wc, hwc⟩ : ∃ y, y = wn := ⟨_, rfl⟩
            subst hwc
            refine KT.keep (inBW HBW.out) ?_
            refine wpOrdT_op rfl ?_
            have CQ := hid (CGA.out A1 c1 wc ((HO1e.out.below HBW.out (Nat.le_refl _)).inn HN.out))
            have HEW := hid (EC.out wc (Below.refl _ _))
            go_wp2_with fail
            refine CQ.out.mono ?_
            rintro en wc ⟨A4, c4, rfl, ho, hb⟩
            have MI : Hid (∀ W', Below wc.heap.size wc W' → OpsOwn Ec W' (.slice A4 n c4) ao) := fun W' h => (ho.base HEW.out).below h (Nat.le_refl _)
            have CPn := hid (fun (W' : World) (h : Below wc.heap.size wc W') => CP.out W' (hb.trans (h.mono hb.size)))
            clear CP
            have CP := CPn
            clear CPn
            have CKn := hid (fun (W' : World) (h : Below wc.heap.size wc W') => CK.out W' (hb.trans (h.mono hb.size)))
            clear CK
            have CK := CKn
            clear CKn
            have ECn := hid (fun (W' : World) (h : Below wc.heap.size wc W') => EC.out W' (hb.trans (h.mono hb.size)))
            clear EC
            have EC := ECn
            clear ECn
            try (have F7n := hid (fun (W' : World) (h : Below wc.heap.size wc W') => F7.out W' (hb.trans (h.mono hb.size))); clear F7; have F7 := F7n; clear F7n)
            try (have F8n := hid (fun (W' : World) (h : Below wc.heap.size wc W') => F8.out W' (hb.trans (h.mono hb.size))); clear F8; have F8 := F8n; clear F8n)
            have HBWn : Hid (Below we.heap.size we wc) := HBW.out.trans (hb.mono HBW.out.size)
            clear HBW
            have HBW := HBWn
            clear HBWn
            clear hb ho CQ HEW
            go_wp2_with fail
            refine KT.keep (inBW HBW.out) ?_
            refine wpOrdT_op rfl ?_
            have K7 := hid (F7.out wc (Below.refl _ _)); have K8 := hid (F8.out wc (Below.refl _ _))
            have CPc := hid (CP.out wc (Below.refl _ _)); have CKc := hid (CK.out wc (Below.refl _ _)); have MIc := hid (MI.out wc (Below.refl _ _))
            have HNE : Hid (g7 ≠ g8 ∧ ga ≠ g7 ∧ ga ≠ g8 ∧ gb ≠ g7 ∧ gb ≠ g8) := by
              have h1 := HA2.out.lt; have h2 := HB2.out.lt; have h3 := HG7.out; have h4 := HG8.out
              refine ⟨?_, by omega, by omega, by omega, by omega⟩
              first
                | exact Nat.ne_of_lt HLT.out
                | exact Nat.ne_of_gt HLT.out
            have D7 : Hid (g7 < Bc ∨ Ec ≤ g7) := by first | exact Or.inl L7.out | exact Or.inr R7.out
            have D8 : Hid (g8 < Bc ∨ Ec ≤ g8) := by first | exact Or.inl L8.out | exact Or.inr R8.out
            obtain ⟨y0, y1, y2, y3⟩ := fact4 K7.out
            have yl := (K7.out).lt
            have yf0 := (K7.out).frozen 0; have yf1 := (K7.out).frozen 1; have yf2 := (K7.out).frozen 2; have yf3 := (K7.out).frozen 3
            go_wp2_with fail
            obtain ⟨wf, hwf⟩ : ∃ W, set4 wc g7 (.string a1) (.int .i64 a2) (.int .i64 a3) (.slice A3 n c3) = W := ⟨_, rfl⟩
            have H7f : Hid (Blk wf g7 31 #[.string a1, .int .i64 a2, .int .i64 a3, .slice A3 n c3]) := by rw [← hwf]; exact set4_blk K7.out _ _ _ _
            have H8f : Hid (Blk wf g8 31 #[.string ⟨#[]⟩, .int .i64 0, .int .i64 0, .slice none 0 0]) := by rw [← hwf]; exact (((K8.out.set_far (Ne.symm HNE.out.1)).set_far (Ne.symm HNE.out.1)).set_far (Ne.symm HNE.out.1)).set_far (Ne.symm HNE.out.1)
            have CPf : Hid (OpsOwn Bc wf (.slice A3 n c3) ao) := by rw [← hwf]; exact set4_ops CPc.out K7.out _ _ _ _
            have MIf : Hid (OpsOwn Ec wf (.slice A4 n c4) ao) := by rw [← hwf]; exact set4_ops MIc.out K7.out _ _ _ _
            have CKf : Hid (CpOk Bc Ec wf A3 ao) := by rw [← hwf]; exact CKc.out.set4P K7.out _ _ _ _
            have HBF : Hid (Below we.heap.size we wf) := by rw [← hwf]; exact set4_below HBW.out HG7.out _ _ _ _
            unfold set4 at hwf
            rw [hwf]
            clear hwf K7 K8 CPc CKc MIc CP CK MI F7 F8 HBW y0 y1 y2 y3 yl yf0 yf1 yf2 yf3
            have HBW := HBF
            refine KT.keep (inBW HBW.out) ?_
            refine wpOrdT_op rfl ?_
            obtain ⟨y0, y1, y2, y3⟩ := fact4 H8f.out
            have yl := (H8f.out).lt
            have yf0 := (H8f.out).frozen 0; have yf1 := (H8f.out).frozen 1; have yf2 := (H8f.out).frozen 2; have yf3 := (H8f.out).frozen 3
            go_wp2_with fail
            obtain ⟨w3, hw3⟩ : ∃ W, set4 wf g8 (.string a1) (.int .i64 a2) (.int .i64 a3) (.slice A4 n c4) = W := ⟨_, rfl⟩
            have H8 : Hid (Blk w3 g8 31 #[.string a1, .int .i64 a2, .int .i64 a3, .slice A4 n c4]) := by rw [← hw3]; exact set4_blk H8f.out _ _ _ _
            have H7 : Hid (Blk w3 g7 31 #[.string a1, .int .i64 a2, .int .i64 a3, .slice A3 n c3]) := by rw [← hw3]; exact (((H7f.out.set_far HNE.out.1).set_far HNE.out.1).set_far HNE.out.1).set_far HNE.out.1
            have CP : Hid (OpsOwn Bc w3 (.slice A3 n c3) ao) := by rw [← hw3]; exact set4_ops CPf.out H8f.out _ _ _ _
            have MI : Hid (OpsOwn Ec w3 (.slice A4 n c4) ao) := by rw [← hw3]; exact set4_ops MIf.out H8f.out _ _ _ _
            have CK : Hid (CpOk Bc Ec w3 A3 ao) := by rw [← hw3]; exact CKf.out.set4P H8f.out _ _ _ _
            have HBE3 : Hid (Below we.heap.size we w3) := by rw [← hw3]; exact set4_below HBF.out HG8.out _ _ _ _
            unfold set4 at hw3
            rw [hw3]
            clear hw3 H7f H8f CPf MIf CKf HBF HBW y0 y1 y2 y3 yl yf0 yf1 yf2 yf3
            have HBW := HBE3
            refine KT.keep (inBW HBW.out) ?_
            refine wpOrdT_nil ?_
        rotate_left 2
        focus
          try have HLT := hid (F7.out wc (Below.refl _ _)).lt
          try have R8 := hid (EC.out wc (Below.refl _ _))
          have HG8 : Hid (we.heap.size ≤ wc.heap.size) := HBW.out.size
          go_wp2_with fail
          obtain ⟨wn, hwn⟩ : ∃ W, wc.alloc (.cells #[.string ⟨#[]⟩, .int .i64 0, .int .i64 0, .slice none 0 0] 31) = W := ⟨_, rfl⟩
          have hb : Below wc.heap.size wc wn := by rw [← hwn]; exact (Below.refl _ _).alloc (Nat.le_refl _) _
          have hbk : Blk wn wc.heap.size 31 #[.string ⟨#[]⟩, .int .i64 0, .int .i64 0, .slice none 0 0] := by rw [← hwn]; exact Blk.new _ _ _
          rw [hwn]
          clear hwn
          obtain ⟨g8, hg8⟩ : ∃ y, wc.heap.size = y := ⟨_, rfl⟩
          try rw [hg8] at R8
          try rw [hg8] at HLT
          rw [hg8] at hbk HG8 ⊢
          have HBWn : Hid (Below we.heap.size we wn) := HBW.out.trans (hb.mono HBW.out.size)
          try (have CPn := hid (fun (W' : World) (h : Below wn.heap.size wn W') => CP.out W' (hb.trans (h.mono hb.size))); clear CP; have CP := CPn; clear CPn)
          try (have CKn := hid (fun (W' : World) (h : Below wn.heap.size wn W') => CK.out W' (hb.trans (h.mono hb.size))); clear CK; have CK := CKn; clear CKn)
          try (have ECn := hid (fun (W' : World) (h : Below wn.heap.size wn W') => EC.out W' (hb.trans (h.mono hb.size))); clear EC; have EC := ECn; clear ECn)
          try (have MIn := hid (fun (W' : World) (h : Below wn.heap.size wn W') => MI.out W' (hb.trans (h.mono hb.size))); clear MI; have MI := MIn; clear MIn)
          try (have F7n := hid (fun (W' : World) (h : Below wn.heap.size wn W') => F7.out W' (hb.trans (h.mono hb.size))); clear F7; have F7 := F7n; clear F7n)
          have F8 : Hid (∀ W', Below wn.heap.size wn W' → Blk W' g8 31 #[.string ⟨#[]⟩, .int .i64 0, .int .i64 0, .slice none 0 0]) := fun W' h => hbk.below h hbk.lt
          clear HBW hb hbk hg8
          have HBW := HBWn
          clear HBWn
          obtain ⟨wc, hwc⟩ : ∃ y, y = wn := ⟨_, rfl⟩
          subst hwc
          refine KT.keep (inBW HBW.out) ?_
          refine wpOrdT_op rfl ?_
          have CQ := hid (CCP.out A1 c1 w.heap.size wc (HO1e.out.below HBW.out (Nat.le_refl _)))
          have HBC0 : Hid (we.heap.size ≤ wc.heap.size) := HBW.out.size
          try have L7 := hid (F7.out wc (Below.refl _ _)).lt
          try have L8 := hid (F8.out wc (Below.refl _ _)).lt
          obtain ⟨Bc, hBc⟩ : ∃ y, wc.heap.size = y := ⟨_, rfl⟩
          try rw [hBc] at L7
          try rw [hBc] at L8
          rw [hBc] at HBC0
          have HBC := hid hBc
          clear hBc
          go_wp2_with fail
          refine CQ.out.mono ?_
          rintro en wc ⟨A3, c3, rfl, ho, hb⟩
          rw [HBC.out] at ho
          have CP : Hid (∀ W', Below wc.heap.size wc W' → OpsOwn Bc W' (.slice A3 n c3) ao) := fun W' h => ho.below h (Nat.le_refl _)
          have CK0 : Hid (CpOk Bc wc.heap.size wc A3 ao) := CpOk.of_own ho HN.out
          obtain ⟨Ec, hEc⟩ : ∃ y, wc.heap.size = y := ⟨_, rfl⟩
          have EC : Hid (∀ W', Below wc.heap.size wc W' → Ec ≤ W'.heap.size) := fun W' h => by rw [← hEc]; exact h.size
          rw [hEc] at CK0
          have CK : Hid (∀ W', Below wc.heap.size wc W' → CpOk Bc Ec W' A3 ao) := fun W' h => CK0.out.below h
          clear hEc CK0
          try (have F7n := hid (fun (W' : World) (h : Below wc.heap.size wc W') => F7.out W' (hb.trans (h.mono hb.size))); clear F7; have F7 := F7n; clear F7n)
          try (have F8n := hid (fun (W' : World) (h : Below wc.heap.size wc W') => F8.out W' (hb.trans (h.mono hb.size))); clear F8; have F8 := F8n; clear F8n)
          have HBWn : Hid (Below we.heap.size we wc) := HBW.out.trans (hb.mono HBW.out.size)
          clear HBW
          have HBW := HBWn
          clear HBWn
          clear hb ho CQ HBC
          go_wp2_with fail
          refine KT.keep (inBW HBW.out) ?_
          refine wpOrdT_op rfl ?_
          have CQ := hid (CGA.out A1 c1 wc ((HO1e.out.below HBW.out (Nat.le_refl _)).inn HN.out))
          have HEW := hid (EC.out wc (Below.refl _ _))
          go_wp2_with fail
          refine CQ.out.mono ?_
          rintro en wc ⟨A4, c4, rfl, ho, hb⟩
          have MI : Hid (∀ W', Below wc.heap.size wc W' → OpsOwn Ec W' (.slice A4 n c4) ao) := fun W' h => (ho.base HEW.out).below h (Nat.le_refl _)
          have CPn := hid (fun (W' : World) (h : Below wc.heap.size wc W') => CP.out W' (hb.trans (h.mono hb.size)))
          clear CP
          have CP := CPn
          clear CPn
          have CKn := hid (fun (W' : World) (h : Below wc.heap.size wc W') => CK.out W' (hb.trans (h.mono hb.size)))
          clear CK
          have CK := CKn
          clear CKn
          have ECn := hid (fun (W' : World) (h : Below wc.heap.size wc W') => EC.out W' (hb.trans (h.mono hb.size)))
          clear EC
          have EC := ECn
          clear ECn
          try (have F7n := hid (fun (W' : World) (h : Below wc.heap.size wc W') => F7.out W' (hb.trans (h.mono hb.size))); clear F7; have F7 := F7n; clear F7n)
          try (have F8n := hid (fun (W' : World) (h : Below wc.heap.size wc W') => F8.out W' (hb.trans (h.mono hb.size))); clear F8; have F8 := F8n; clear F8n)
          have HBWn : Hid (Below we.heap.size we wc) := HBW.out.trans (hb.mono HBW.out.size)
          clear HBW
          have HBW := HBWn
          clear HBWn
          clear hb ho CQ HEW
          go_wp2_with fail
          refine KT.keep (inBW HBW.out) ?_
          refine wpOrdT_op rfl ?_
          have K7 := hid (F7.out wc (Below.refl _ _)); have K8 := hid (F8.out wc (Below.refl _ _))
          have CPc := hid (CP.out wc (Below.refl _ _)); have CKc := hid (CK.out wc (Below.refl _ _)); have MIc := hid (MI.out wc (Below.refl _ _))
          have HNE : Hid (g7 ≠ g8 ∧ ga ≠ g7 ∧ ga ≠ g8 ∧ gb ≠ g7 ∧ gb ≠ g8) := by
            have h1 := HA2.out.lt; have h2 := HB2.out.lt; have h3 := HG7.out; have h4 := HG8.out
            refine ⟨?_, by omega, by omega, by omega, by omega⟩
            first
              | exact Nat.ne_of_lt HLT.out
              | exact Nat.ne_of_gt HLT.out
          have D7 : Hid (g7 < Bc ∨ Ec ≤ g7) := by first | exact Or.inl L7.out | exact Or.inr R7.out
          have D8 : Hid (g8 < Bc ∨ Ec ≤ g8) := by first | exact Or.inl L8.out | exact Or.inr R8.out
          obtain ⟨y0, y1, y2, y3⟩ := fact4 K7.out
          have yl := (K7.out).lt
          have yf0 := (K7.out).frozen 0; have yf1 := (K7.out).frozen 1; have yf2 := (K7.out).frozen 2; have yf3 := (K7.out).frozen 3
          go_wp2_with fail
          obtain ⟨wf, hwf⟩ : ∃ W, set4 wc g7 (.string a1) (.int .i64 a2) (.int .i64 a3) (.slice A3 n c3) = W := ⟨_, rfl⟩
          have H7f : Hid (Blk wf g7 31 #[.string a1, .int .i64 a2, .int .i64 a3, .slice A3 n c3]) := by rw [← hwf]; exact set4_blk K7.out _ _ _ _
          have H8f : Hid (Blk wf g8 31 #[.string ⟨#[]⟩, .int .i64 0, .int .i64 0, .slice none 0 0]) := by rw [← hwf]; exact (((K8.out.set_far (Ne.symm HNE.out.1)).set_far (Ne.symm HNE.out.1)).set_far (Ne.symm HNE.out.1)).set_far (Ne.symm HNE.out.1)
          have CPf : Hid (OpsOwn Bc wf (.slice A3 n c3) ao) := by rw [← hwf]; exact set4_ops CPc.out K7.out _ _ _ _
          have MIf : Hid (OpsOwn Ec wf (.slice A4 n c4) ao) := by rw [← hwf]; exact set4_ops MIc.out K7.out _ _ _ _
          have CKf : Hid (CpOk Bc Ec wf A3 ao) := by rw [← hwf]; exact CKc.out.set4P K7.out _ _ _ _
          have HBF : Hid (Below we.heap.size we wf) := by rw [← hwf]; exact set4_below HBW.out HG7.out _ _ _ _
          unfold set4 at hwf
          rw [hwf]
          clear hwf K7 K8 CPc CKc MIc CP CK MI F7 F8 HBW y0 y1 y2 y3 yl yf0 yf1 yf2 yf3
          have HBW := HBF
          refine KT.keep (inBW HBW.out) ?_
          refine wpOrdT_op rfl ?_
          obtain ⟨y0, y1, y2, y3⟩ := fact4 H8f.out
          have yl := (H8f.out).lt
          have yf0 := (H8f.out).frozen 0; have yf1 := (H8f.out).frozen 1; have yf2 := (H8f.out).frozen 2; have yf3 := (H8f.out).frozen 3
          go_wp2_with fail
          obtain ⟨w3, hw3⟩ : ∃ W, set4 wf g8 (.string a1) (.int .i64 a2) (.int .i64 a3) (.slice A4 n c4) = W := ⟨_, rfl⟩
          have H8 : Hid (Blk w3 g8 31 #[.string a1, .int .i64 a2, .int .i64 a3, .slice A4 n c4]) := by rw [← hw3]; exact set4_blk H8f.out _ _ _ _
          have H7 : Hid (Blk w3 g7 31 #[.string a1, .int .i64 a2, .int .i64 a3, .slice A3 n c3]) := by rw [← hw3]; exact (((H7f.out.set_far HNE.out.1).set_far HNE.out.1).set_far HNE.out.1).set_far HNE.out.1
          have CP : Hid (OpsOwn Bc w3 (.slice A3 n c3) ao) := by rw [← hw3]; exact set4_ops CPf.out H8f.out _ _ _ _
          have MI : Hid (OpsOwn Ec w3 (.slice A4 n c4) ao) := by rw [← hw3]; exact set4_ops MIf.out H8f.out _ _ _ _
          have CK : Hid (CpOk Bc Ec w3 A3 ao) := by rw [← hw3]; exact CKf.out.set4P H8f.out _ _ _ _
          have HBE3 : Hid (Below we.heap.size we w3) := by rw [← hw3]; exact set4_below HBF.out HG8.out _ _ _ _
          unfold set4 at hw3
          rw [hw3]
          clear hw3 H7f H8f CPf MIf CKf HBF HBW y0 y1 y2 y3 yl yf0 yf1 yf2 yf3
          have HBW := HBE3
          refine KT.keep (inBW HBW.out) ?_
          refine wpOrdT_nil ?_
      rotate_left 3
      focus
        try have HLT := hid (F7.out wc (Below.refl _ _)).lt
        try have R8 := hid (EC.out wc (Below.refl _ _))
        have HG8 : Hid (we.heap.size ≤ wc.heap.size) := HBW.out.size
        go_wp2_with fail
        obtain ⟨wn, hwn⟩ : ∃ W, wc.alloc (.cells #[.string ⟨#[]⟩, .int .i64 0, .int .i64 0, .slice none 0 0] 31) = W := ⟨_, rfl⟩
        have hb : Below wc.heap.size wc wn := by rw [← hwn]; exact (Below.refl _ _).alloc (Nat.le_refl _) _
        have hbk : Blk wn wc.heap.size 31 #[.string ⟨#[]⟩, .int .i64 0, .int .i64 0, .slice none 0 0] := by rw [← hwn]; exact Blk.new _ _ _
        rw [hwn]
        clear hwn
        obtain ⟨g8, hg8⟩ : ∃ y, wc.heap.size = y := ⟨_, rfl⟩
        try rw [hg8] at R8
        try rw [hg8] at HLT
        rw [hg8] at hbk HG8 ⊢
        have HBWn : Hid (Below we.heap.size we wn) := HBW.out.trans (hb.mono HBW.out.size)
        try (have CPn := hid (fun (W' : World) (h : Below wn.heap.size wn W') => CP.out W' (hb.trans (h.mono hb.size))); clear CP; have CP := CPn; clear CPn)
        try (have CKn := hid (fun (W' : World) (h : Below wn.heap.size wn W') => CK.out W' (hb.trans (h.mono hb.size))); clear CK; have CK := CKn; clear CKn)
        try (have ECn := hid (fun (W' : World) (h : Below wn.heap.size wn W') => EC.out W' (hb.trans (h.mono hb.size))); clear EC; have EC := ECn; clear ECn)
        try (have MIn := hid (fun (W' : World) (h : Below wn.heap.size wn W') => MI.out W' (hb.trans (h.mono hb.size))); clear MI; have MI := MIn; clear MIn)
        try (have F7n := hid (fun (W' : World) (h : Below wn.heap.size wn W') => F7.out W' (hb.trans (h.mono hb.size))); clear F7; have F7 := F7n; clear F7n)
        have F8 : Hid (∀ W', Below wn.heap.size wn W' → Blk W' g8 31 #[.string ⟨#[]⟩, .int .i64 0, .int .i64 0, .slice none 0 0]) := fun W' h => hbk.below h hbk.lt
        clear HBW hb hbk hg8
        have HBW := HBWn
        clear HBWn
        obtain ⟨wc, hwc⟩ : ∃ y, y = wn := ⟨_, rfl⟩
        subst hwc
        refine KT.keep (inBW HBW.out) ?_
        refine wpOrdT_two rfl rfl ?_ ?_
        focus
          have CQ := hid (CCP.out A1 c1 w.heap.size wc (HO1e.out.below HBW.out (Nat.le_refl _)))
          have HBC0 : Hid (we.heap.size ≤ wc.heap.size) := HBW.out.size
          try have L7 := hid (F7.out wc (Below.refl _ _)).lt
          try have L8 := hid (F8.out wc (Below.refl _ _)).lt
          obtain ⟨Bc, hBc⟩ : ∃ y, wc.heap.size = y := ⟨_, rfl⟩
          try rw [hBc] at L7
          try rw [hBc] at L8
          rw [hBc] at HBC0
          have HBC := hid hBc
          clear hBc
          go_wp2_with fail
          refine CQ.out.mono ?_
          rintro en wc ⟨A3, c3, rfl, ho, hb⟩
          rw [HBC.out] at ho
          have CP : Hid (∀ W', Below wc.heap.size wc W' → OpsOwn Bc W' (.slice A3 n c3) ao) := fun W' h => ho.below h (Nat.le_refl _)
          have CK0 : Hid (CpOk Bc wc.heap.size wc A3 ao) := CpOk.of_own ho HN.out
          obtain ⟨Ec, hEc⟩ : ∃ y, wc.heap.size = y := ⟨_, rfl⟩
          have EC : Hid (∀ W', Below wc.heap.size wc W' → Ec ≤ W'.heap.size) := fun W' h => by rw [← hEc]; exact h.size
          rw [hEc] at CK0
          have CK : Hid (∀ W', Below wc.heap.size wc W' → CpOk Bc Ec W' A3 ao) := fun W' h => CK0.out.below h
          clear hEc CK0
          try (have F7n := hid (fun (W' : World) (h : Below wc.heap.size wc W') => F7.out W' (hb.trans (h.mono hb.size))); clear F7; have F7 := F7n; clear F7n)
          try (have F8n := hid (fun (W' : World) (h : Below wc.heap.size wc W') => F8.out W' (hb.trans (h.mono hb.size))); clear F8; have F8 := F8n; clear F8n)
          have HBWn : Hid (Below we.heap.size we wc) := HBW.out.trans (hb.mono HBW.out.size)
          clear HBW
          have HBW := HBWn
          clear HBWn
          clear hb ho CQ HBC
          go_wp2_with fail
          refine KT.keep (inBW HBW.out) ?_
          refine wpOrdT_two rfl rfl ?_ ?_
          focus
            have CQ := hid (CGA.out A1 c1 wc ((HO1e.out.below HBW.out (Nat.le_refl _)).inn HN.out))
            have HEW := hid (EC.out wc (Below.refl _ _))
            go_wp2_with fail
            refine CQ.out.mono ?_
            rintro en wc ⟨A4, c4, rfl, ho, hb⟩
            have MI : Hid (∀ W', Below wc.heap.size wc W' → OpsOwn Ec W' (.slice A4 n c4) ao) := fun W' h => (ho.base HEW.out).below h (Nat.le_refl _)
            have CPn := hid (fun (W' : World) (h : Below wc.heap.size wc W') => CP.out W' (hb.trans (h.mono hb.size)))
            clear CP
            have CP := CPn
            clear CPn
            have CKn := hid (fun (W' : World) (h : Below wc.heap.size wc W') => CK.out W' (hb.trans (h.mono hb.size)))
            clear CK
            have CK := CKn
            clear CKn
            have ECn := hid (fun (W' : World) (h : Below wc.heap.size wc W') => EC.out W' (hb.trans (h.mono hb.size)))
            clear EC
            have EC := ECn
            clear ECn
            try (have F7n := hid (fun (W' : World) (h : Below wc.heap.size wc W') => F7.out W' (hb.trans (h.mono hb.size))); clear F7; have F7 := F7n; clear F7n)
            try (have F8n := hid (fun (W' : World) (h : Below wc.heap.size wc W') => F8.out W' (hb.trans (h.mono hb.size))); clear F8; have F8 := F8n; clear F8n)
            have HBWn : Hid (Below we.heap.size we wc) := HBW.out.trans (hb.mono HBW.out.size)
            clear HBW
            have HBW := HBWn
            clear HBWn
            clear hb ho CQ HEW
            go_wp2_with fail
            refine KT.keep (inBW HBW.out) ?_
            refine wpOrdT_op rfl ?_
            try have HLT := hid (F8.out wc (Below.refl _ _)).lt
            try have R7 := hid (EC.out wc (Below.refl _ _))
            have HG7 : Hid (we.heap.size ≤ wc.heap.size) := HBW.out.size
            go_wp2_with fail
            obtain ⟨wn, hwn⟩ : ∃ W, wc.alloc (.cells #[.string ⟨#[]⟩, .int .i64 0, .int .i64 0, .slice none 0 0] 31) = W := ⟨_, rfl⟩
            have hb : Below wc.heap.size wc wn := by rw [← hwn]; exact (Below.refl _ _).alloc (Nat.le_refl _) _
            have hbk : Blk wn wc.heap.size 31 #[.string ⟨#[]⟩, .int .i64 0, .int .i64 0, .slice none 0 0] := by rw [← hwn]; exact Blk.new _ _ _
            rw [hwn]
            clear hwn
            obtain ⟨g7, hg7⟩ : ∃ y, wc.heap.size = y := ⟨_, rfl⟩
            try rw [hg7] at R7
            try rw [hg7] at HLT
            rw [hg7] at hbk HG7 ⊢
            have HBWn : Hid (Below we.heap.size we wn) := HBW.out.trans (hb.mono HBW.out.size)
            try (have CPn := hid (fun (W' : World) (h : Below wn.heap.size wn W') => CP.out W' (hb.trans (h.mono hb.size))); clear CP; have CP := CPn; clear CPn)
            try (have CKn := hid (fun (W' : World) (h : Below wn.heap.size wn W') => CK.out W' (hb.trans (h.mono hb.size))); clear CK; have CK := CKn; clear CKn)
            try (have ECn := hid (fun (W' : World) (h : Below wn.heap.size wn W') => EC.out W' (hb.trans (h.mono hb.size))); clear EC; have EC := ECn; clear ECn)
            try (have MIn := hid (fun (W' : World) (h : Below wn.heap.size wn W') => MI.out W' (hb.trans (h.mono hb.size))); clear MI; have MI := MIn; clear MIn)
            try (have F8n := hid (fun (W' : World) (h : Below wn.heap.size wn W') => F8.out W' (hb.trans (h.mono hb.size))); clear F8; have F8 := F8n; clear F8n)
            have F7 : Hid (∀ W', Below wn.heap.size wn W' → Blk W' g7 31 #[.string ⟨#[]⟩, .int .i64 0, .int .i64 0, .slice none 0 0]) := fun W' h => hbk.below h hbk.lt
            clear HBW hb hbk hg7
            have HBW := HBWn
            clear HBWn
            obtain ⟨wc, hwc⟩ : ∃ y, y = wn := ⟨_, rfl⟩
            subst hwc
            refine KT.keep (inBW HBW.out) ?_
            refine wpOrdT_op rfl ?_
            have K7 := hid (F7.out wc (Below.refl _ _)); have K8 := hid (F8.out wc (Below.refl _ _))
            have CPc := hid (CP.out wc (Below.refl _ _)); have CKc := hid (CK.out wc (Below.refl _ _)); have MIc := hid (MI.out wc (Below.refl _ _))
            have HNE : Hid (g7 ≠ g8 ∧ ga ≠ g7 ∧ ga ≠ g8 ∧ gb ≠ g7 ∧ gb ≠ g8) := by
              have h1 := HA2.out.lt; have h2 := HB2.out.lt; have h3 := HG7.out; have h4 := HG8.out
              refine ⟨?_, by omega, by omega, by omega, by omega⟩
              first
                | exact Nat.ne_of_lt HLT.out
                | exact Nat.ne_of_gt HLT.out
            have D7 : Hid (g7 < Bc ∨ Ec ≤ g7) := by first | exact Or.inl L7.out | exact Or.inr R7.out
            have D8 : Hid (g8 < Bc ∨ Ec ≤ g8) := by first | exact Or.inl L8.out | exact Or.inr R8.out
            obtain ⟨y0, y1, y2, y3⟩ := fact4 K7.out
            have yl := (K7.out).lt
            have yf0 := (K7.out).frozen 0; have yf1 := (K7.out).frozen 1; have yf2 := (K7.out).frozen 2; have yf3 := (K7.out).frozen 3
            go_wp2_with fail
            obtain ⟨wf, hwf⟩ : ∃ W, set4 wc g7 (.string a1) (.int .i64 a2) (.int .i64 a3) (.slice A3 n c3) = W := ⟨_, rfl⟩
            have H7f : Hid (Blk wf g7 31 #[.string a1, .int .i64 a2, .int .i64 a3, .slice A3 n c3]) := by rw [← hwf]; exact set4_blk K7.out _ _ _ _
            have H8f : Hid (Blk wf g8 31 #[.string ⟨#[]⟩, .int .i64 0, .int .i64 0, .slice none 0 0]) := by rw [← hwf]; exact (((K8.out.set_far (Ne.symm HNE.out.1)).set_far (Ne.symm HNE.out.1)).set_far (Ne.symm HNE.out.1)).set_far (Ne.symm HNE.out.1)
            have CPf : Hid (OpsOwn Bc wf (.slice A3 n c3) ao) := by rw [← hwf]; exact set4_ops CPc.out K7.out _ _ _ _
            have MIf : Hid (OpsOwn Ec wf (.slice A4 n c4) ao) := by rw [← hwf]; exact set4_ops MIc.out K7.out _ _ _ _
            have CKf : Hid (CpOk Bc Ec wf A3 ao) := by rw [← hwf]; exact CKc.out.set4P K7.out _ _ _ _
            have HBF : Hid (Below we.heap.size we wf) := by rw [← hwf]; exact set4_below HBW.out HG7.out _ _ _ _
            unfold set4 at hwf
            rw [hwf]
            clear hwf K7 K8 CPc CKc MIc CP CK MI F7 F8 HBW y0 y1 y2 y3 yl yf0 yf1 yf2 yf3
            have HBW := HBF
            refine KT.keep (inBW HBW.out) ?_
            refine wpOrdT_op rfl ?_
            obtain ⟨y0, y1, y2, y3⟩ := fact4 H8f.out
            have yl := (H8f.out).lt
            have yf0 := (H8f.out).frozen 0; have yf1 := (H8f.out).frozen 1; have yf2 := (H8f.out).frozen 2; have yf3 := (H8f.out).frozen 3
            go_wp2_with fail
            obtain ⟨w3, hw3⟩ : ∃ W, set4 wf g8 (.string a1) (.int .i64 a2) (.int .i64 a3) (.slice A4 n c4) = W := ⟨_, rfl⟩
            have H8 : Hid (Blk w3 g8 31 #[.string a1, .int .i64 a2, .int .i64 a3, .slice A4 n c4]) := by rw [← hw3]; exact set4_blk H8f.out _ _ _ _
            have H7 : Hid (Blk w3 g7 31 #[.string a1, .int .i64 a2, .int .i64 a3, .slice A3 n c3]) := by rw [← hw3]; exact (((H7f.out.set_far HNE.out.1).set_far HNE.out.1).set_far HNE.out.1).set_far HNE.out.1
            have CP : Hid (OpsOwn Bc w3 (.slice A3 n c3) ao) := by rw [← hw3]; exact set4_ops CPf.out H8f.out _ _ _ _
            have MI : Hid (OpsOwn Ec w3 (.slice A4 n c4) ao) := by rw [← hw3]; exact set4_ops MIf.out H8f.out _ _ _ _
            have CK : Hid (CpOk Bc Ec w3 A3 ao) := by rw [← hw3]; exact CKf.out.set4P H8f.out _ _ _ _
            have HBE3 : Hid (Below we.heap.size we w3) := by rw [← hw3]; exact set4_below HBF.out HG8.out _ _ _ _
            unfold set4 at hw3
            rw [hw3]
            clear hw3 H7f H8f CPf MIf CKf HBF HBW y0 y1 y2 y3 yl yf0 yf1 yf2 yf3
            have HBW := HBE3
            refine KT.keep (inBW HBW.out) ?_
            refine wpOrdT_nil ?_
          rotate_left 1
          focus
            try have HLT := hid (F8.out wc (Below.refl _ _)).lt
            try have R7 := hid (EC.out wc (Below.refl _ _))
            have HG7 : Hid (we.heap.size ≤ wc.heap.size) := HBW.out.size
            go_wp2_with fail
            obtain ⟨wn, hwn⟩ : ∃ W, wc.alloc (.cells #[.string ⟨#[]⟩, .int .i64 0, .int .i64 0, .slice none 0 0] 31) = W := ⟨_, rfl⟩
            have hb : Below wc.heap.size wc wn := by rw [← hwn]; exact (Below.refl _ _).alloc (Nat.le_refl _) _
            have hbk : Blk wn wc.heap.size 31 #[.string ⟨#[]⟩, .int .i64 0, .int .i64 0, .slice none 0 0] := by rw [← hwn]; exact Blk.new _ _ _
            rw [hwn]
            clear hwn
            obtain ⟨g7, hg7⟩ : ∃ y, wc.heap.size = y := ⟨_, rfl⟩
            try rw [hg7] at R7
            try rw [hg7] at HLT
            rw [hg7] at hbk HG7 ⊢
            have HBWn : Hid (Below we.heap.size we wn) := HBW.out.trans (hb.mono HBW.out.size)
            try (have CPn := hid (fun (W' : World) (h : Below wn.heap.size wn W') => CP.out W' (hb.trans (h.mono hb.size))); clear CP; have CP := CPn; clear CPn)
            try (have CKn := hid (fun (W' : World) (h : Below wn.heap.size wn W') => CK.out W' (hb.trans (h.mono hb.size))); clear CK; have CK := CKn; clear CKn)
            try (have ECn := hid (fun (W' : World) (h : Below wn.heap.size wn W') => EC.out W' (hb.trans (h.mono hb.size))); clear EC; have EC := ECn; clear ECn)
            try (have MIn := hid (fun (W' : World) (h : Below wn.heap.size wn W') => MI.out W' (hb.trans (h.mono hb.size))); clear MI; have MI := MIn; clear MIn)
            try (have F8n := hid (fun (W' : World) (h : Below wn.heap.size wn W') => F8.out W' (hb.trans (h.mono hb.size))); clear F8; have F8 := F8n; clear F8n)
            have F7 : Hid (∀ W', Below wn.heap.size wn W' → Blk W' g7 31 #[.string ⟨#[]⟩, .int .i64 0, .int .i64 0, .slice none 0 0]) := fun W' h => hbk.below h hbk.lt
            clear HBW hb hbk hg7
            have HBW := HBWn
            clear HBWn
            obtain ⟨wc, hwc⟩ : ∃ y, y = wn := ⟨_, rfl⟩
            subst hwc
            refine KT.keep (inBW HBW.out) ?_
            refine wpOrdT_op rfl ?_
            have CQ := hid (CGA.out A1 c1 wc ((HO1e.out.below HBW.out (Nat.le_refl _)).inn HN.out))
            have HEW := hid (EC.out wc (Below.refl _ _))
            go_wp2_with fail
            refine CQ.out.mono ?_
            rintro en wc ⟨A4, c4, rfl, ho, hb⟩
            have MI : Hid (∀ W', Below wc.heap.size wc W' → OpsOwn Ec W' (.slice A4 n c4) ao) := fun W' h => (ho.base HEW.out).below h (Nat.le_refl _)
            have CPn := hid (fun (W' : World) (h : Below wc.heap.size wc W') => CP.out W' (hb.trans (h.mono hb.size)))
            clear CP
            have CP := CPn
            clear CPn
            have CKn := hid (fun (W' : World) (h : Below wc.heap.size wc W') => CK.out W' (hb.trans (h.mono hb.size)))
            clear CK
            have CK := CKn
            clear CKn
            have ECn := hid (fun (W' : World) (h : Below wc.heap.size wc W') => EC.out W' (hb.trans (h.mono hb.size)))
            clear EC
            have EC := ECn
            clear ECn
            try (have F7n := hid (fun (W' : World) (h : Below wc.heap.size wc W') => F7.out W' (hb.trans (h.mono hb.size))); clear F7; have F7 := F7n; clear F7n)
            try (have F8n := hid (fun (W' : World) (h : Below wc.heap.size wc W') => F8.out W' (hb.trans (h.mono hb.size))); clear F8; have F8 := F8n; clear F8n)
            have HBWn : Hid (Below we.heap.size we wc) := HBW.out.trans (hb.mono HBW.out.size)
            clear HBW
            have HBW := HBWn
            clear HBWn
            clear hb ho CQ HEW
            go_wp2_with fail
            refine KT.keep (inBW HBW.out) ?_
            refine wpOrdT_op rfl ?_
            have K7 := hid (F7.out wc (Below.refl _ _)); have K8 := hid (F8.out wc (Below.refl _ _))
            have CPc := hid (CP.out wc (Below.refl _ _)); have CKc := hid (CK.out wc (Below.refl _ _)); have MIc := hid (MI.out wc (Below.refl _ _))
            have HNE : Hid (g7 ≠ g8 ∧ ga ≠ g7 ∧ ga ≠ g8 ∧ gb ≠ g7 ∧ gb ≠ g8) := by
              have h1 := HA2.out.lt; have h2 := HB2.out.lt; have h3 := HG7.out; have h4 := HG8.out
              refine ⟨?_, by omega, by omega, by omega, by omega⟩
              first
                | exact Nat.ne_of_lt HLT.out
                | exact Nat.ne_of_gt HLT.out
            have D7 : Hid (g7 < Bc ∨ Ec ≤ g7) := by first | exact Or.inl L7.out | exact Or.inr R7.out
            have D8 : Hid (g8 < Bc ∨ Ec ≤ g8) := by first | exact Or.inl L8.out | exact Or.inr R8.out
            obtain ⟨y0, y1, y2, y3⟩ := fact4 K7.out
            have yl := (K7.out).lt
            have yf0 := (K7.out).frozen 0; have yf1 := (K7.out).frozen 1; have yf2 := (K7.out).frozen 2; have yf3 := (K7.out).frozen 3
            go_wp2_with fail
            obtain ⟨wf, hwf⟩ : ∃ W, set4 wc g7 (.string a1) (.int .i64 a2) (.int .i64 a3) (.slice A3 n c3) = W := ⟨_, rfl⟩
            have H7f : Hid (Blk wf g7 31 #[.string a1, .int .i64 a2, .int .i64 a3, .slice A3 n c3]) := by rw [← hwf]; exact set4_blk K7.out _ _ _ _
            have H8f : Hid (Blk wf g8 31 #[.string ⟨#[]⟩, .int .i64 0, .int .i64 0, .slice none 0 0]) := by rw [← hwf]; exact (((K8.out.set_far (Ne.symm HNE.out.1)).set_far (Ne.symm HNE.out.1)).set_far (Ne.symm HNE.out.1)).set_far (Ne.symm HNE.out.1)
            have CPf : Hid (OpsOwn Bc wf (.slice A3 n c3) ao) := by rw [← hwf]; exact set4_ops CPc.out K7.out _ _ _ _
            have MIf : Hid (OpsOwn Ec wf (.slice A4 n c4) ao) := by rw [← hwf]; exact set4_ops MIc.out K7.out _ _ _ _
            have CKf : Hid (CpOk Bc Ec wf A3 ao) := by rw [← hwf]; exact CKc.out.set4P K7.out _ _ _ _
            have HBF : Hid (Below we.heap.size we wf) := by rw [← hwf]; exact set4_below HBW.out HG7.out _ _ _ _
            unfold set4 at hwf
            rw [hwf]
            clear hwf K7 K8 CPc CKc MIc CP CK MI F7 F8 HBW y0 y1 y2 y3 yl yf0 yf1 yf2 yf3
            have HBW := HBF
            refine KT.keep (inBW HBW.out) ?_
            refine wpOrdT_op rfl ?_
            obtain ⟨y0, y1, y2, y3⟩ := fact4 H8f.out
            have yl := (H8f.out).lt
            have yf0 := (H8f.out).frozen 0; have yf1 := (H8f.out).frozen 1; have yf2 := (H8f.out).frozen 2; have yf3 := (H8f.out).frozen 3
            go_wp2_with fail
            obtain ⟨w3, hw3⟩ : ∃ W, set4 wf g8 (.string a1) (.int .i64 a2) (.int .i64 a3) (.slice A4 n c4) = W := ⟨_, rfl⟩
            have H8 : Hid (Blk w3 g8 31 #[.string a1, .int .i64 a2, .int .i64 a3, .slice A4 n c4]) := by rw [← hw3]; exact set4_blk H8f.out _ _ _ _
            have H7 : Hid (Blk w3 g7 31 #[.string a1, .int .i64 a2, .int .i64 a3, .slice A3 n c3]) := by rw [← hw3]; exact (((H7f.out.set_far HNE.out.1).set_far HNE.out.1).set_far HNE.out.1).set_far HNE.out.1
            have CP : Hid (OpsOwn Bc w3 (.slice A3 n c3) ao) := by rw [← hw3]; exact set4_ops CPf.out H8f.out _ _ _ _
            have MI : Hid (OpsOwn Ec w3 (.slice A4 n c4) ao) := by rw [← hw3]; exact set4_ops MIf.out H8f.out _ _ _ _
            have CK : Hid (CpOk Bc Ec w3 A3 ao) := by rw [← hw3]; exact CKf.out.set4P H8f.out _ _ _ _
            have HBE3 : Hid (Below we.heap.size we w3) := by rw [← hw3]; exact set4_below HBF.out HG8.out _ _ _ _
            unfold set4 at hw3
            rw [hw3]
            clear hw3 H7f H8f CPf MIf CKf HBF HBW y0 y1 y2 y3 yl yf0 yf1 yf2 yf3
            have HBW := HBE3
            refine KT.keep (inBW HBW.out) ?_
            refine wpOrdT_nil ?_
        rotate_left 2
        focus
          try have HLT := hid (F8.out wc (Below.refl _ _)).lt
          try have R7 := hid (EC.out wc (Below.refl _ _))
          have HG7 : Hid (we.heap.size ≤ wc.heap.size) := HBW.out.size
          go_wp2_with fail
          obtain ⟨wn, hwn⟩ : ∃ W, wc.alloc (.cells #[.string ⟨#[]⟩, .int .i64 0, .int .i64 0, .slice none 0 0] 31) = W := ⟨_, rfl⟩
          have hb : Below wc.heap.size wc wn := by rw [← hwn]; exact (Below.refl _ _).alloc (Nat.le_refl _) _
          have hbk : Blk wn wc.heap.size 31 #[.string ⟨#[]⟩, .int .i64 0, .int .i64 0, .slice none 0 0] := by rw [← hwn]; exact Blk.new _ _ _
          rw [hwn]
          clear hwn
          obtain ⟨g7, hg7⟩ : ∃ y, wc.heap.size = y := ⟨_, rfl⟩
          try rw [hg7] at R7
          try rw [hg7] at HLT
          rw [hg7] at hbk HG7 ⊢
          have HBWn : Hid (Below we.heap.size we wn) := HBW.out.trans (hb.mono HBW.out.size)
          try (have CPn := hid (fun (W' : World) (h : Below wn.heap.size wn W') => CP.out W' (hb.trans (h.mono hb.size))); clear CP; have CP := CPn; clear CPn)
          try (have CKn := hid (fun (W' : World) (h : Below wn.heap.size wn W') => CK.out W' (hb.trans (h.mono hb.size))); clear CK; have CK := CKn; clear CKn)
          try (have ECn := hid (fun (W' : World) (h : Below wn.heap.size wn W') => EC.out W' (hb.trans (h.mono hb.size))); clear EC; have EC := ECn; clear ECn)
          try (have MIn := hid (fun (W' : World) (h : Below wn.heap.size wn W') => MI.out W' (hb.trans (h.mono hb.size))); clear MI; have MI := MIn; clear MIn)
          try (have F8n := hid (fun (W' : World) (h : Below wn.heap.size wn W') => F8.out W' (hb.trans (h.mono hb.size))); clear F8; have F8 := F8n; clear F8n)
          have F7 : Hid (∀ W', Below wn.heap.size wn W' → Blk W' g7 31 #[.string ⟨#[]⟩, .int .i64 0, .int .i64 0, .slice none 0 0]) := fun W' h => hbk.below h hbk.lt
          clear HBW hb hbk hg7
          have HBW := HBWn
          clear HBWn
          obtain ⟨wc, hwc⟩ : ∃ y, y = wn := ⟨_, rfl⟩
          subst hwc
          refine KT.keep (inBW HBW.out) ?_
          refine wpOrdT_op rfl ?_
          have CQ := hid (CCP.out A1 c1 w.heap.size wc (HO1e.out.below HBW.out (Nat.le_refl _)))
          have HBC0 : Hid (we.heap.size ≤ wc.heap.size) := HBW.out.size
          try have L7 := hid (F7.out wc (Below.refl _ _)).lt
          try have L8 := hid (F8.out wc (Below.refl _ _)).lt
          obtain ⟨Bc, hBc⟩ : ∃ y, wc.heap.size = y := ⟨_, rfl⟩
          try rw [hBc] at L7
          try rw [hBc] at L8
          rw [hBc] at HBC0
          have HBC := hid hBc
          clear hBc
          go_wp2_with fail
          refine CQ.out.mono ?_
          rintro en wc ⟨A3, c3, rfl, ho, hb⟩
          rw [HBC.out] at ho
          have CP : Hid (∀ W', Below wc.heap.size wc W' → OpsOwn Bc W' (.slice A3 n c3) ao) := fun W' h => ho.below h (Nat.le_refl _)
          have CK0 : Hid (CpOk Bc wc.heap.size wc A3 ao) := CpOk.of_own ho HN.out
          obtain ⟨Ec, hEc⟩ : ∃ y, wc.heap.size = y := ⟨_, rfl⟩
          have EC : Hid (∀ W', Below wc.heap.size wc W' → Ec ≤ W'.heap.size) := fun W' h => by rw [← hEc]; exact h.size
          rw [hEc] at CK0
          have CK : Hid (∀ W', Below wc.heap.size wc W' → CpOk Bc Ec W' A3 ao) := fun W' h => CK0.out.below h
          clear hEc CK0
          try (have F7n := hid (fun (W' : World) (h : Below wc.heap.size wc W') => F7.out W' (hb.trans (h.mono hb.size))); clear F7; have F7 := F7n; clear F7n)
          try (have F8n := hid (fun (W' : World) (h : Below wc.heap.size wc W') => F8.out W' (hb.trans (h.mono hb.size))); clear F8; have F8 := F8n; clear F8n)
          have HBWn : Hid (Below we.heap.size we wc) := HBW.out.trans (hb.mono HBW.out.size)
          clear HBW
          have HBW := HBWn
          clear HBWn
          clear hb ho CQ HBC
          go_wp2_with fail
          refine KT.keep (inBW HBW.out) ?_
          refine wpOrdT_op rfl ?_
          have CQ := hid (CGA.out A1 c1 wc ((HO1e.out.below HBW.out (Nat.le_refl _)).inn HN.out))
          have HEW := hid (EC.out wc (Below.refl _ _))
          go_wp2_with fail
          refine CQ.out.mono ?_
          rintro en wc ⟨A4, c4, rfl, ho, hb⟩
          have MI : Hid (∀ W', Below wc.heap.size wc W' → OpsOwn Ec W' (.slice A4 n c4) ao) := fun W' h => (ho.base HEW.out).below h (Nat.le_refl _)
          have CPn := hid (fun (W' : World) (h : Below wc.heap.size wc W') => CP.out W' (hb.trans (h.mono hb.size)))
          clear CP
          have CP := CPn
          clear CPn
          have CKn := hid (fun (W' : World) (h : Below wc.heap.size wc W') => CK.out W' (hb.trans (h.mono hb.size)))
          clear CK
          have CK := CKn
          clear CKn
          have ECn := hid (fun (W' : World) (h : Below wc.heap.size wc W') => EC.out W' (hb.trans (h.mono hb.size)))
          clear EC
          have EC := ECn
          clear ECn
          try (have F7n := hid (fun (W' : World) (h : Below wc.heap.size wc W') => F7.out W' (hb.trans (h.mono hb.size))); clear F7; have F7 := F7n; clear F7n)
          try (have F8n := hid (fun (W' : World) (h : Below wc.heap.size wc W') => F8.out W' (hb.trans (h.mono hb.size))); clear F8; have F8 := F8n; clear F8n)
          have HBWn : Hid (Below we.heap.size we wc) := HBW.out.trans (hb.mono HBW.out.size)
          clear HBW
          have HBW := HBWn
          clear HBWn
          clear hb ho CQ HEW
          go_wp2_with fail
          refine KT.keep (inBW HBW.out) ?_
          refine wpOrdT_op rfl ?_
          have K7 := hid (F7.out wc (Below.refl _ _)); have K8 := hid (F8.out wc (Below.refl _ _))
          have CPc := hid (CP.out wc (Below.refl _ _)); have CKc := hid (CK.out wc (Below.refl _ _)); have MIc := hid (MI.out wc (Below.refl _ _))
          have HNE : Hid (g7 ≠ g8 ∧ ga ≠ g7 ∧ ga ≠ g8 ∧ gb ≠ g7 ∧ gb ≠ g8) := by
            have h1 := HA2.out.lt; have h2 := HB2.out.lt; have h3 := HG7.out; have h4 := HG8.out
            refine ⟨?_, by omega, by omega, by omega, by omega⟩
            first
              | exact Nat.ne_of_lt HLT.out
              | exact Nat.ne_of_gt HLT.out
          have D7 : Hid (g7 < Bc ∨ Ec ≤ g7) := by first | exact Or.inl L7.out | exact Or.inr R7.out
          have D8 : Hid (g8 < Bc ∨ Ec ≤ g8) := by first | exact Or.inl L8.out | exact Or.inr R8.out
          obtain ⟨y0, y1, y2, y3⟩ := fact4 K7.out
          have yl := (K7.out).lt
          have yf0 := (K7.out).frozen 0; have yf1 := (K7.out).frozen 1; have yf2 := (K7.out).frozen 2; have yf3 := (K7.out).frozen 3
          go_wp2_with fail
          obtain ⟨wf, hwf⟩ : ∃ W, set4 wc g7 (.string a1) (.int .i64 a2) (.int .i64 a3) (.slice A3 n c3) = W := ⟨_, rfl⟩
          have H7f : Hid (Blk wf g7 31 #[.string a1, .int .i64 a2, .int .i64 a3, .slice A3 n c3]) := by rw [← hwf]; exact set4_blk K7.out _ _ _ _
          have H8f : Hid (Blk wf g8 31 #[.string ⟨#[]⟩, .int .i64 0, .int .i64 0, .slice none 0 0]) := by rw [← hwf]; exact (((K8.out.set_far (Ne.symm HNE.out.1)).set_far (Ne.symm HNE.out.1)).set_far (Ne.symm HNE.out.1)).set_far (Ne.symm HNE.out.1)
          have CPf : Hid (OpsOwn Bc wf (.slice A3 n c3) ao) := by rw [← hwf]; exact set4_ops CPc.out K7.out _ _ _ _
          have MIf : Hid (OpsOwn Ec wf (.slice A4 n c4) ao) := by rw [← hwf]; exact set4_ops MIc.out K7.out _ _ _ _
          have CKf : Hid (CpOk Bc Ec wf A3 ao) := by rw [← hwf]; exact CKc.out.set4P K7.out _ _ _ _
          have HBF : Hid (Below we.heap.size we wf) := by rw [← hwf]; exact set4_below HBW.out HG7.out _ _ _ _
          unfold set4 at hwf
          rw [hwf]
          clear hwf K7 K8 CPc CKc MIc CP CK MI F7 F8 HBW y0 y1 y2 y3 yl yf0 yf1 yf2 yf3
          have HBW := HBF
          refine KT.keep (inBW HBW.out) ?_
          refine wpOrdT_op rfl ?_
          obtain ⟨y0, y1, y2, y3⟩ := fact4 H8f.out
          have yl := (H8f.out).lt
          have yf0 := (H8f.out).frozen 0; have yf1 := (H8f.out).frozen 1; have yf2 := (H8f.out).frozen 2; have yf3 := (H8f.out).frozen 3
          go_wp2_with fail
          obtain ⟨w3, hw3⟩ : ∃ W, set4 wf g8 (.string a1) (.int .i64 a2) (.int .i64 a3) (.slice A4 n c4) = W := ⟨_, rfl⟩
          have H8 : Hid (Blk w3 g8 31 #[.string a1, .int .i64 a2, .int .i64 a3, .slice A4 n c4]) := by rw [← hw3]; exact set4_blk H8f.out _ _ _ _
          have H7 : Hid (Blk w3 g7 31 #[.string a1, .int .i64 a2, .int .i64 a3, .slice A3 n c3]) := by rw [← hw3]; exact (((H7f.out.set_far HNE.out.1).set_far HNE.out.1).set_far HNE.out.1).set_far HNE.out.1
          have CP : Hid (OpsOwn Bc w3 (.slice A3 n c3) ao) := by rw [← hw3]; exact set4_ops CPf.out H8f.out _ _ _ _
          have MI : Hid (OpsOwn Ec w3 (.slice A4 n c4) ao) := by rw [← hw3]; exact set4_ops MIf.out H8f.out _ _ _ _
          have CK : Hid (CpOk Bc Ec w3 A3 ao) := by rw [← hw3]; exact CKf.out.set4P H8f.out _ _ _ _
          have HBE3 : Hid (Below we.heap.size we w3) := by rw [← hw3]; exact set4_below HBF.out HG8.out _ _ _ _
          unfold set4 at hw3
          rw [hw3]
          clear hw3 H7f H8f CPf MIf CKf HBF HBW y0 y1 y2 y3 yl yf0 yf1 yf2 yf3
          have HBW := HBE3
          refine KT.keep (inBW HBW.out) ?_
          refine wpOrdT_nil ?_
      all_goals
        go_wp2_with fail
        go_meet
        exact ⟨g7, g8, A3, c3, A4, c4, Bc, Ec, rfl, rfl, H7.out, H8.out, CP.out, MI.out, CK.out, HBE3.out, D7.out, D8.out, HBC0.out⟩
    case rest =>
      obtain ⟨g7, g8, A3, c3, A4, c4, Bc, Ec, rfl, rfl, h7, h8, hcp, hmi, hck, hbe, hd7, hd8, hbc⟩ := hcut
      have H7 := hid h7; have H8 := hid h8; have CP := hid hcp; have MI := hid hmi; have CK := hid hck; have HBE3 := hid hbe; have D7 := hid hd7; have D8 := hid hd8; have HBC0 := hid hbc
      clear h7 h8 hcp hmi hck hbe hd7 hd8 hbc
      obtain ⟨w3, hw3⟩ : ∃ y, y = wc := ⟨_, rfl⟩
      subst hw3
      have HO1w : Hid (OpsIn we A1 ao) := HO1e.out.inn HN.out
      have HA3 := hid (HA2.out.below HBE3.out HA2.out.lt); have HB3 := hid (HB2.out.below HBE3.out HB2.out.lt)
      have HO13 := hid (HO1e.out.below HBE3.out (Nat.le_refl _)); have HO23 := hid (HO2e.out.below HBE3.out (Nat.le_refl _))
      have HBT : Hid (Below w.heap.size w w3) := HBE.out.trans (HBE3.out.mono HBE.out.size)
      have HGG : Hid (ga < we.heap.size ∧ gb < we.heap.size ∧ w.heap.size ≤ we.heap.size) := ⟨HA2.out.lt, HB2.out.lt, HBE.out.size⟩
      clear HA2 HB2 HO1e HO2e HBE CFA CFB CCP HB0 HA0 HQ0 HIN HIN2 Tx0 Tx1 Tx2 Tx3
      go_upto_region 3 with fail
      have Tx0 : ∀ q : BW w3.heap.size w3, q.1.cell? ⟨ga, 0, none⟩ = some (.string a1) := fun q => q.cellAt (HA3.out).lt ((HA3.out).cell 0)
      have Tx1 : ∀ q : BW w3.heap.size w3, q.1.cell? ⟨ga, 1, none⟩ = some (.int .i64 a2) := fun q => q.cellAt (HA3.out).lt ((HA3.out).cell 1)
      have Tx2 : ∀ q : BW w3.heap.size w3, q.1.cell? ⟨ga, 2, none⟩ = some (.int .i64 a3) := fun q => q.cellAt (HA3.out).lt ((HA3.out).cell 2)
      have Tx3 : ∀ q : BW w3.heap.size w3, q.1.cell? ⟨ga, 3, none⟩ = some (.slice A1 n c1) := fun q => q.cellAt (HA3.out).lt ((HA3.out).cell 3)
      have Ty0 : ∀ q : BW w3.heap.size w3, q.1.cell? ⟨gb, 0, none⟩ = some (.string b1) := fun q => q.cellAt (HB3.out).lt ((HB3.out).cell 0)
      have Ty1 : ∀ q : BW w3.heap.size w3, q.1.cell? ⟨gb, 1, none⟩ = some (.int .i64 b2) := fun q => q.cellAt (HB3.out).lt ((HB3.out).cell 1)
      have Ty2 : ∀ q : BW w3.heap.size w3, q.1.cell? ⟨gb, 2, none⟩ = some (.int .i64 b3) := fun q => q.cellAt (HB3.out).lt ((HB3.out).cell 2)
      have Ty3 : ∀ q : BW w3.heap.size w3, q.1.cell? ⟨gb, 3, none⟩ = some (.slice A2 m c2) := fun q => q.cellAt (HB3.out).lt ((HB3.out).cell 3)
      have Tz0 : ∀ q : BW w3.heap.size w3, q.1.cell? ⟨g7, 0, none⟩ = some (.string a1) := fun q => q.cellAt (H7.out).lt ((H7.out).cell 0)
      have Tz1 : ∀ q : BW w3.heap.size w3, q.1.cell? ⟨g7, 1, none⟩ = some (.int .i64 a2) := fun q => q.cellAt (H7.out).lt ((H7.out).cell 1)
      have Tz2 : ∀ q : BW w3.heap.size w3, q.1.cell? ⟨g7, 2, none⟩ = some (.int .i64 a3) := fun q => q.cellAt (H7.out).lt ((H7.out).cell 2)
      have Tz3 : ∀ q : BW w3.heap.size w3, q.1.cell? ⟨g7, 3, none⟩ = some (.slice A3 n c3) := fun q => q.cellAt (H7.out).lt ((H7.out).cell 3)
      refine wp_region_ordT w3.heap.size [] (.val 0 (.val 2 (.val 5 (.val 6 (.op 1 (.op 3 (.op 4 (.op 7 (.val 8 (.val 9 (.val 10 (.val 11 (.op 12 (.val 13 (.val 14 (.val 15 (.val 16 (.val 18 (.op 17 (.op 19 (.val 20 (.val 21 (.nil))))))))))))))))))))))) (by kernel_rfl) (by kernel_rfl) ?_
      obtain ⟨wc, hwc⟩ : ∃ W, w3.drewN 1 = W := ⟨_, rfl⟩
      have HBW : Hid (Below w3.heap.size w3 wc) := by rw [← hwc]; exact drewN_below w3 1
      rw [hwc]
      clear hwc
      refine wpOrdT_load rfl rfl (inBW HBW.out) ?_
      go_big_quiet_step (fail)
      refine wpQuiet_nil ?_
      refine wpOrdT_load rfl rfl (inBW HBW.out) ?_
      go_big_quiet_step (fail)
      refine wpQuiet_nil ?_
      refine wpOrdT_load rfl rfl (inBW HBW.out) ?_
      go_big_quiet_step (fail)
      refine wpQuiet_nil ?_
      refine wpOrdT_load rfl rfl (inBW HBW.out) ?_
      go_big_quiet_step (fail)
      refine wpQuiet_nil ?_
      refine wpOrdT_op rfl ?_
      have CQ := hid (CGA.out A1 c1 wc ((HO13.out.below HBW.out (Nat.le_refl _)).inn HN.out))
      go_wp2_with fail
      refine CQ.out.mono ?_
      rintro en wc ⟨A5, c5, rfl, ho, hb⟩
      have O5 : Hid (∀ W', Below wc.heap.size wc W' → OpsIn W' A5 ao) := fun W' h => (ho.inn HN.out).below h
      clear ho
      have HBWn : Hid (Below w3.heap.size w3 wc) := HBW.out.trans (hb.mono HBW.out.size)
      clear HBW
      have HBW := HBWn
      clear HBWn
      clear hb CQ
      go_wp2_with fail
      refine KT.keep (inBW HBW.out) ?_
      refine wpOrdT_op rfl ?_
      have CQ := hid (CGB.out A2 c2 wc ((HO23.out.below HBW.out (Nat.le_refl _)).inn HM.out))
      go_wp2_with fail
      refine CQ.out.mono ?_
      rintro en wc ⟨A6, c6, rfl, ho, hb⟩
      have O6 : Hid (∀ W', Below wc.heap.size wc W' → OpsIn W' A6 bo) := fun W' h => (ho.inn HM.out).below h
      clear ho
      have O5n := hid (fun (W' : World) (h : Below wc.heap.size wc W') => O5.out W' (hb.trans (h.mono hb.size)))
      clear O5
      have O5 := O5n
      clear O5n
      have HBWn : Hid (Below w3.heap.size w3 wc) := HBW.out.trans (hb.mono HBW.out.size)
      clear HBW
      have HBW := HBWn
      clear HBWn
      clear hb CQ
      go_wp2_with fail
      refine KT.keep (inBW HBW.out) ?_
      refine wpOrdT_op rfl ?_
      have CQ := hid (CS.out A5 A6 c5 c6 wc (O5.out wc (Below.refl _ _)) (O6.out wc (Below.refl _ _)))
      go_wp2_with fail
      refine CQ.out.mono ?_
      rintro en wc ⟨rfl, hb⟩
      clear O5 O6
      have HBWn : Hid (Below w3.heap.size w3 wc) := HBW.out.trans (hb.mono HBW.out.size)
      clear HBW
      have HBW := HBWn
      clear HBWn
      clear hb CQ
      go_wp2_with fail
      refine KT.keep (inBW HBW.out) ?_
      refine wpOrdT_op rfl ?_
      have CQ := hid (CR.out A1 A2 c1 c2 wc ((HO13.out.below HBW.out (Nat.le_refl _)).inn HN.out) ((HO23.out.below HBW.out (Nat.le_refl _)).inn HM.out))
      go_wp2_with fail
      refine CQ.out.mono ?_
      rintro en wc ⟨rfl, hb⟩
      have HBWn : Hid (Below w3.heap.size w3 wc) := HBW.out.trans (hb.mono HBW.out.size)
      clear HBW
      have HBW := HBWn
      clear HBWn
      clear hb CQ
      go_wp2_with fail
      refine KT.keep (inBW HBW.out) ?_
      refine wpOrdT_val rfl rfl ?_
      go_big_quiet_step (fail)
      refine wpQuiet_nil ?_
      refine wpOrdT_val rfl rfl ?_
      go_big_quiet_step (fail)
      refine wpQuiet_nil ?_
      refine wpOrdT_load rfl rfl (inBW HBW.out) ?_
      go_big_quiet_step (fail)
      refine wpQuiet_nil ?_
      refine wpOrdT_load rfl rfl (inBW HBW.out) ?_
      go_big_quiet_step (fail)
      refine wpQuiet_nil ?_
      refine wpOrdT_op rfl ?_
      have CQ := hid (CRA.out A3 A1 c3 c1 wc ((CP.out.below HBW.out (Nat.le_refl _)).inn HN.out) ((HO13.out.below HBW.out (Nat.le_refl _)).inn HN.out))
      go_wp2_with fail
      refine CQ.out.mono ?_
      rintro en wc ⟨rfl, hb⟩
      have HBWn : Hid (Below w3.heap.size w3 wc) := HBW.out.trans (hb.mono HBW.out.size)
      clear HBW
      have HBW := HBWn
      clear HBWn
      clear hb CQ
      go_wp2_with fail
      refine KT.keep (inBW HBW.out) ?_
      refine wpOrdT_val rfl rfl ?_
      go_big_quiet_step (fail)
      refine wpQuiet_nil ?_
      refine wpOrdT_val rfl rfl ?_
      go_big_quiet_step (fail)
      refine wpQuiet_nil ?_
      refine wpOrdT_val rfl rfl ?_
      go_big_quiet_step (fail)
      refine wpQuiet_nil ?_
      refine wpOrdT_val rfl rfl ?_
      go_big_quiet_step (fail)
      refine wpQuiet_nil ?_
      refine wpOrdT_val rfl rfl ?_
      go_big_quiet_step (fail)
      refine wpQuiet_nil ?_
      refine wpOrdT_op rfl ?_
      go_wp2_with fail
      refine (CW.out _).mono ?_
      rintro en wc' ⟨rfl, rfl⟩
      go_wp2_with fail
      refine KT.keep (inBW HBW.out) ?_
      refine wpOrdT_op rfl ?_
      have CQ := hid (CX.out wc)
      go_wp2_with fail
      refine CQ.out.mono ?_
      rintro en wc ⟨rfl, hb⟩
      have HBWn : Hid (Below w3.heap.size w3 wc) := HBW.out.trans (hb.mono HBW.out.size)
      clear HBW
      have HBW := HBWn
      clear HBWn
      clear hb CQ
      go_wp2_with fail
      refine KT.keep (inBW HBW.out) ?_
      refine wpOrdT_val rfl rfl ?_
      go_big_quiet_step (fail)
      refine wpQuiet_nil ?_
      refine wpOrdT_val rfl rfl ?_
      go_big_quiet_step (fail)
      refine wpQuiet_nil ?_
      refine wpOrdT_nil ?_
      have hn8 : n ≤ 8 := HL1.out.1
      have HX1 := hid (HA3.out.below HBW.out HA3.out.lt); have HX7 := hid (H7.out.below HBW.out H7.out.lt); have HX8 := hid (H8.out.below HBW.out H8.out.lt)
      have HCK := hid (CK.out.below HBW.out); have HMI := hid (MI.out.below HBW.out (Nat.le_refl _))
      have HE4 : Hid (Below we.heap.size we wc) := HBE3.out.trans (HBW.out.mono HBE3.out.size)
      have HB4 : Hid (Below w.heap.size w wc) := HBT.out.trans (HBW.out.mono HBT.out.size)
      clear HA3 HB3 H7 H8 CK CP MI HO13 HO23 HBE3 HBT HBW CW CX CS CR CGA CGB Tx0 Tx1 Tx2 Tx3 Ty0 Ty1 Ty2 Ty3 Tz0 Tz1 Tz2 Tz3
      obtain ⟨x0, x1, x2, x3⟩ := fact4 HX1.out
      have xl := (HX1.out).lt
      obtain ⟨z0, z1, z2, z3⟩ := fact4 HX7.out
      have zl := (HX7.out).lt
      go_wp2_with fail
      obtain ⟨F, hF⟩ : ∃ f : Nat → Prop, f = fun k => Bc ≤ k ∧ k < Ec := ⟨_, rfl⟩
      have HFE := hid hF
      have HNF : Hid (¬ F ga ∧ ¬ F g7 ∧ ¬ F g8) := by
        have h1 := HGG.out; have h2 := HBC0.out; have h7 := D7.out; have h8 := D8.out
        rw [hF]; refine ⟨?_, ?_, ?_⟩ <;> (intro h; omega)
      clear hF
      go_loopw [9] (fun iv wr => ∃ i : Nat, i ≤ n ∧ iv = .int .i64 (i : Int) ∧ Keep F wc wr ∧ CpOk Bc Ec wr A3 ao) (fun iv _ => n - (intOf iv).toNat)
      case atStart => exact ⟨0, by omega, rfl, Keep.refl _ _, HCK.out⟩
      case round =>
        obtain ⟨i, hi, rfl, hk, hc⟩ := hrel
        have HK := hid hk; have HC := hid hc
        clear hk hc x0 x1 x2 x3 xl z0 z1 z2 z3 zl
        have HW1 := hid (HK.out.blk HX1.out HNF.out.1); have HW7 := hid (HK.out.blk HX7.out HNF.out.2.1)
        obtain ⟨x0, x1, x2, x3⟩ := fact4 HW1.out
        have xl := (HW1.out).lt
        obtain ⟨z0, z1, z2, z3⟩ := fact4 HW7.out
        have zl := (HW7.out).lt
        by_cases hlt : i < n
        · have HLI : Hid (i < ao.length) := by rw [Hid, HN.out]; exact hlt
          obtain ⟨gO, kk, Ai, ci, rfl, hgl, hgr, k0, k4, kf, -⟩ := HC.out.at i HLI.out
          have HGR := hid hgr
          have HNA : Hid ((ao[i]'HLI.out).arms.length ≤ 10) := HL1.out.2 _ (List.getElem_mem _)
          obtain ⟨ni, hni⟩ : ∃ y, (ao[i]'HLI.out).arms.length = y := ⟨_, rfl⟩
          have HNI := hid hni
          rw [hni] at k4 HNA
          clear hgr hni
          go_upto_region 8 with fail
          refine wp_region_tail 12 (by kernel_rfl) (by kernel_rfl) ?_
          simp only [List.take_succ_cons, List.take_zero, List.drop_succ_cons, List.drop_zero]
          repeat still_step
          refine wpStill_nil ?_
          go_wp2_with fail
          obtain ⟨kw, hkw⟩ : ∃ y, Go.RowKit.wrap64 (kk + 1) = y := ⟨_, rfl⟩
          rw [hkw]
          clear hkw
          obtain ⟨w8, hw8⟩ : ∃ W, (wr.drewN 1).setCell ⟨gO, i * 7, none⟩ (.int .i64 kw) = W := ⟨_, rfl⟩
          have HK2 : Hid (Keep F wc w8) := by rw [← hw8]; exact (HK.out.trans (Keep.drewN F wr 1) (fun _ h => .inl h)).trans (Keep.setCell F _ _ _ (by rw [HFE.out]; exact HGR.out)) (fun _ h => .inl h)
          have HC2 : Hid (CpOk Bc Ec w8 (some ⟨gO, 0, none⟩) ao) := by rw [← hw8]; exact (HC.out.below (drewN_below wr 1)).setK i kw
          rw [hw8]
          clear hw8 HK HC HW1 HW7 k0 k4 kf hgl x0 x1 x2 x3 xl z0 z1 z2 z3 zl
          have HY1 := hid (HK2.out.blk HX1.out HNF.out.1); have HY7 := hid (HK2.out.blk HX7.out HNF.out.2.1)
          obtain ⟨x0, x1, x2, x3⟩ := fact4 HY1.out
          have xl := HY1.out.lt
          obtain ⟨z0, z1, z2, z3⟩ := fact4 HY7.out
          have zl := HY7.out.lt
          go_wp2_with fail
          go_loopw [10] (fun iv wr => ∃ j : Nat, j ≤ ni ∧ iv = .int .i64 (j : Int) ∧ Keep F wc wr ∧ CpOk Bc Ec wr (some ⟨gO, 0, none⟩) ao) (fun iv _ => ni - (intOf iv).toNat)
          case atStart => exact ⟨0, by omega, rfl, HK2.out, HC2.out⟩
          case round =>
            obtain ⟨j, hj, rfl, hk, hc⟩ := hrel
            have HK3 := hid hk; have HC3 := hid hc
            clear hk hc x0 x1 x2 x3 xl z0 z1 z2 z3 zl
            have HV1 := hid (HK3.out.blk HX1.out HNF.out.1); have HV7 := hid (HK3.out.blk HX7.out HNF.out.2.1)
            obtain ⟨x0, x1, x2, x3⟩ := fact4 HV1.out
            have xl := (HV1.out).lt
            obtain ⟨z0, z1, z2, z3⟩ := fact4 HV7.out
            have zl := (HV7.out).lt
            obtain ⟨gO', kk', Aj, cj, hgo, hgl', -, k0, k4, kf, hAr⟩ := HC3.out.at i HLI.out
            injection hgo with hgo; injection hgo with hgo
            subst hgo
            rw [HNI.out] at k4 hAr
            have HK4 := hid k4
            have hni10 : ni ≤ 10 := HNA.out
            by_cases hlj : j < ni
            · obtain ⟨gi, y, rfl, hgil, hgir, j0, jf⟩ := hAr j hlj
              have HAB : Hid (∃ ts, Blk wr gi 40 ts) := HC3.out.armBlk HLI.out (by rw [HNI.out]; exact HK4.out) (k := j) (by rw [HNI.out]; exact hlj)
              have HGI := hid hgir
              clear hAr hgir
              go_wp2_with fail
              obtain ⟨w9, hw9⟩ : ∃ W, wr.setCell ⟨gi, j * 2 + 1, none⟩ (.int .i64 (-9)) = W := ⟨_, rfl⟩
              have HK5 : Hid (Keep F wc w9) := by rw [← hw9]; exact HK3.out.trans (Keep.setCell F wr _ _ (by rw [HFE.out]; exact HGI.out)) (fun _ h => .inl h)
              have HC5 : Hid (CpOk Bc Ec w9 (some ⟨gO, 0, none⟩) ao) := by rw [← hw9]; obtain ⟨ts, hts⟩ := HAB.out; exact HC3.out.setA hts
              rw [hw9]
              clear hw9 HK3 HC3 HV1 HV7 HAB HK4 k0 k4 kf j0 jf hgil x0 x1 x2 x3 xl z0 z1 z2 z3 zl
              go_roundw
              case rel => exact ⟨j + 1, by omega, by go_num, HK5.out, HC5.out⟩
              case measure => simp [intOf]; omega
            · clear hAr
              go_wp2_with fail
              go_roundw
              case rel => exact ⟨i + 1, by omega, by go_num, HK3.out, HC3.out⟩
              case measure => simp [intOf]; omega
        · have HIA : Hid (OpsIn wr A1 ao) := HO1w.out.below (HE4.out.trans (HK.out.below (B := we.heap.size) HE4.out.size (fun k hk => by rw [HFE.out] at hk; have := HBC0.out; omega)))
          have HIM : Hid (OpsIn wr A4 ao) := (HMI.out.keepF HK.out (fun k hk hf => by rw [HFE.out] at hf; omega)).inn HN.out
          have HB9 : Hid (Below w.heap.size w wr) := HB4.out.trans (HK.out.below HB4.out.size (fun k hk => by rw [HFE.out] at hk; have := HBC0.out; have := HGG.out; omega))
          have HW8 := hid (HK.out.blk HX8.out HNF.out.2.2)
          clear HK HC HMI HO1w HE4 HB4 HX1 HX7 HX8 HCK
          obtain ⟨v0, v1, v2, v3⟩ := fact4 HW8.out
          have vl := (HW8.out).lt
          have CQ := hid (CRA.out A1 A4 c1 c4 wr HIA.out HIM.out)
          go_wp2_with fail
          refine CQ.out.mono ?_
          rintro en ws ⟨rfl, hb⟩
          have HY1 := hid (HW1.out.below hb HW1.out.lt); have HY8 := hid (HW8.out.below hb HW8.out.lt)
          have HBA := hid (HB9.out.trans (hb.mono HB9.out.size))
          have HIA2 := hid (HIA.out.below hb); have HIM2 := hid (HIM.out.below hb)
          clear hb CQ HW1 HW8 HW7 HB9 HIA HIM x0 x1 x2 x3 xl z0 z1 z2 z3 zl v0 v1 v2 v3 vl
          obtain ⟨x0, x1, x2, x3⟩ := fact4 HY1.out
          have xl := (HY1.out).lt
          obtain ⟨v0, v1, v2, v3⟩ := fact4 HY8.out
          have vl := (HY8.out).lt
          have CQ := hid (CSA.out A1 A4 c1 c4 ws HIA2.out HIM2.out)
          go_wp2_with fail
          refine CQ.out.mono ?_
          rintro en wt ⟨rfl, hb⟩
          have HBB := hid (HBA.out.trans (hb.mono HBA.out.size))
          clear hb CQ HY1 HY8 HBA HIA2 HIM2 x0 x1 x2 x3 xl v0 v1 v2 v3 vl
          go_wp2_with fail
          refine (CL.out _).mono ?_
          rintro en wu ⟨rfl, hb⟩
          have HBD := hid (HBB.out.trans (hb.mono HBB.out.size))
          clear hb HBB
          go_wp2_with fail
          go_ret
          rw [HGA.out]; exact ⟨rfl, by have := HBD.out; rwa [HGA.out] at this⟩
end Go.Proofs.Ytpkkfdmhbbipoaa
namespace Go.Proofs.Ytpkkfdmhbbipoaa
open Go.ChangeShapes Go.WideShapes Go.ChangeAt Go.RowKit Go.WideElems Go.Deep
open Go.ChangeMaps (open_string shut_string)

set_option maxRecDepth 100000 in
theorem progSame_lifted (os : Os) (started : os.Started) (H : Type) (enc : TypeId × Value → H) :
    ReturnsInHanded {} Try.checked os 4 .any (Rows.progSameSpec.pre6 enc Try.prog Try.f4 [] false) (Rows.progSameSpec.post enc Try.prog Try.f4 false true false false) := by
  refine law_lifted 4 Try.f4 Rows.progSameSpec os started H enc Try.func4 (by kernel_rfl) (by kernel_rfl) (by kernel_rfl) rfl (fun ds h => ?_)
    (ChangeSpec.witness6 (enc := enc) (C := Try.checked) false ⟨#[], #[.agg #[.string ⟨#[]⟩, .int .i64 0, .int .i64 0, .slice none 0 0], .agg #[.string ⟨#[]⟩, .int .i64 0, .int .i64 0, .slice none 0 0], .int .i64 0], []⟩ 8 (by kernel_rfl) (by kernel_rfl) (by kernel_rfl) (by kernel_rfl)) ?_
  · have hn : ds.length = 3 := h
    match ds, hn with
    | [d0, d1, d2], _ => rfl
  · intro W args ds p base hval hA _ _
    rw [show Try.f4.params.toList = [31, 31, 3] from by rw [Try.params4]] at hval hA
    obtain ⟨v0, _, d0, _, p0, _, rfl, rfl, rfl, h0, hA⟩ := all_cons hA
    obtain ⟨v1, _, d1, _, p1, _, rfl, rfl, rfl, h1, hA⟩ := all_cons hA
    obtain ⟨v2, _, d2, _, p2, _, rfl, rfl, rfl, h2, hA⟩ := all_cons hA
    obtain rfl := all_nil hA
    obtain ⟨p0, A0, c0, rfl, hi0, ho0⟩ := open_progArg (hval 0 _ v0 rfl rfl) h0
    obtain ⟨p1, A1, c1, rfl, hi1, ho1⟩ := open_progArg (hval 1 _ v1 rfl rfl) h1
    obtain ⟨x2, rfl, rfl, rfl, hw2⟩ := open_int Try.underlying3 (hval 2 _ v2 rfl rfl) h2
    exact progSame_lw A0 c0 A1 c1 p0 p1 x2 W hi0 ho0 hi1 ho1

theorem progSame_holds : Rows.ProgSameSaid :=
  OpenClaim.holds_of_wide 4 Try.f4 rfl rfl rfl rfl rfl rfl rfl ⟨rfl, rfl, rfl, rfl, rfl⟩ rfl rfl rfl rfl rfl (by kernel_rfl) Try.func4 (by kernel_rfl)
    (of_decide_eq_true (by kernel_rfl)) (by unfold Func.isWrapper; first | (rw [if_pos (by decide +kernel)]; kernel_rfl) | (rw [if_neg (by decide +kernel)]; exact ⟨rfl, rfl⟩))
    (fun os started H enc _ => progSame_lifted os started H enc)
#print axioms progSame_holds
end Go.Proofs.Ytpkkfdmhbbipoaa
