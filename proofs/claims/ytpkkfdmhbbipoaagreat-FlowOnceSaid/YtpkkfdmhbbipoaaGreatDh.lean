/- Walks: package dial: look. -/
import Derived.Test.YtpkkfdmhbbipoaaGreatDg
namespace Go.Proofs.YtpkkfdmhbbipoaaGreat
open Go.RowKit PopT
theorem labE_le (n : Nat) (t : Int) (h : labE n t = false) : t ≤ (n : Int) := by
 by_cases h1 : t = -1
 ·omega
 ·unfold labE comesM at h
  rw [decide_eq_true h1, Bool.true_and] at h
  simp only [Bool.not_eq_false', Bool.and_eq_true, decide_eq_true_eq] at h
  exact h.2
theorem comesM_le (n : Nat) (t : Int) (h : comesM n t = true) : t ≤ (n : Int) := by
 unfold comesM at h
 simp only [Bool.and_eq_true, decide_eq_true_eq] at h
 exact h.2
theorem expectE_labs (n : Nat) (o : OpV) (h : expectE n o = 0) : o.onT ≤ (n : Int) ∧ o.onE ≤ (n : Int) := by
 unfold expectE at h
 split at h
 ·omega
 ·split at h
  ·omega
  ·split at h
   ·rename_i h1 h2 h3; exact absurd h h3
   ·split at h
    ·omega
    ·rename_i h4
     have h5 : ¬ labE n o.onT = true := fun e => h4 (.inl e)
     have h6 : ¬ labE n o.onE = true := fun e => h4 (.inr e)
     exact ⟨labE_le n _ (Bool.eq_false_iff.2 h5), labE_le n _ (Bool.eq_false_iff.2 h6)⟩
theorem op_tgts (x : DialV) (h : DialOk x) (hk : x.op.kind = 2) : (∀ i, (x.op.arms.getD i ⟨⟨#[]⟩, 0⟩).tt ≤ (x.p.ops.length : Int)) ∧ x.op.onT ≤ (x.p.ops.length : Int) ∧ x.op.onE ≤ (x.p.ops.length : Int) := by
 have hg := op_good x h (op_lt x (by omega))
 have he := opE_expect _ _ hg.1 hk
 have ha := armsE_zero _ _ (expectE_zero _ _ he).2
 refine ⟨fun i => ?_, expectE_labs _ _ he⟩
 rw [List.getD_eq_getElem?_getD]
 cases hi : x.op.arms[i]? with
 | none => show (0 : Int) ≤ _; omega
 | some m => exact comesM_le _ _ (ha m (List.mem_of_getElem? hi)).2.2
theorem armV_at (l : List ArmV) (i : Nat) (hi : i < l.length) : (armVCells l)[i * 2 + 1]? = some (.int .i64 (l.getD i ⟨⟨#[]⟩, 0⟩).tt) := by
 induction l generalizing i with
 | nil => simp at hi
 | cons m l ih =>
  cases i with
  | zero => rfl
  | succ i =>
   have : armVCells (m :: l) = [.string m.pat, .int .i64 m.tt] ++ armVCells l := rfl
   rw [this, List.getElem?_append_right (by simp; omega)]
   have e : (i + 1) * 2 + 1 - ([Value.string m.pat, .int .i64 m.tt] : List Value).length = i * 2 + 1 := by simp; omega
   rw [e, ih i (by simp at hi; omega)]
   rfl
theorem Blk.put {w : World} {g : Nat} {t : TypeId} {cs : Array Value} (h : Blk w g t cs) (i : Nat) (v : Value) : ∃ W, w.setCell ⟨g, i, none⟩ v = W ∧ Hid (Blk W g t (cs.setIfInBounds i v)) ∧ Hid (Keep (fun k => k = g) w W) := ⟨_, rfl, h.set i v, set1_keep _ _ _ _⟩
theorem Blk.some {w : World} {g : Nat} {t : TypeId} {cs : Array Value} (h : Blk w g t cs) (i : Nat) (hi : i < cs.size) : ∃ y, w.cell? ⟨g, i, none⟩ = Option.some y := ⟨cs[i], by rw [h.cell i, Array.getElem?_eq_getElem hi]⟩
theorem KT.step {b : Bool} {B : Nat} {wb w w' : World} {p : Prop} (h : Below B w w') (hp : p) : KT b (fun W => ∃ q : BW B wb, W = q.1) w w' p :=
 ⟨fun _ ⟨q, e⟩ => ⟨⟨w', q.2.trans (by rw [← e]; exact h)⟩, rfl⟩, hp⟩
section
variable {B d gi gb gh gp c : Nat} {F F2 : Nat → Prop} {w0 w w' : World} {A : Option Addr} {x : DialV}
theorem tailL {G Fv : Nat → Prop} {wv w1 w2 : World} {y : DialV} (hF : ∀ k, F k → B ≤ k ∧ k < w.heap.size) (hB : B ≤ w.heap.size) (hv : ∀ k, Fv k → F k ∨ w.heap.size ≤ k) (hkv : Keep F w wv) (h1 : DialAt B (Fup Fv wv w1) w0 w1 d y) (hk1 : Keep Fv wv w1) (hk2 : Keep G w1 w2)
  (hG : ∀ k, G k → w.heap.size ≤ k ∧ k < wv.heap.size ∧ ¬ Fv k) : DialAt B (Fup F w w2) w0 w2 d y ∧ Keep F w w2 := by
 have s1 := hkv.size
 have s2 := hk1.size
 have s3 := hk2.size
 refine ⟨?_, (hkv.trans hk1 hv).trans hk2 (fun k hk => .inr (hG k hk).1)⟩
 have hfin : ∀ k, Fup Fv wv w1 k → k < w1.heap.size := by
  obtain ⟨gi, gb, gh, gp, F2, A, c, h⟩ := h1
  exact fun k hk => (h.fin k hk).2
 refine (h1.keep hk2 ?_ (fun k hg => Nat.le_trans hB (hG k hg).1)).mono ?_ ?_
 ·rintro k (hf | hf) hg
  ·exact (hG k hg).2.2 hf
  ·have := hG k hg; omega
 ·intro k hk
  have := hfin k hk
  rcases hk with hf | hf
  ·exact (hv k hf).imp id (fun h => ⟨h, by omega⟩)
  ·exact .inr ⟨by omega, by omega⟩
 ·rintro k (hf | hf)
  ·have := hF k hf; exact ⟨this.1, by omega⟩
  ·exact ⟨by omega, hf.2⟩
set_option maxRecDepth 20000 in
set_option maxHeartbeats 16000000 in
theorem dLook_any (h : DialIn B F w0 w d gi gb gh gp F2 A c x) (v : StepV) (ov : Value) (hk : x.op.kind = 2) (hP : x.P.length = x.op.arms.length) (hov : ArmsIn w0 x.op ov) (hv : v.arm = 0) : Calls Tryz.prog 114 #[.pointer (some ⟨d, 0, none⟩), v.val, x.op.val ov] w fun e w' => e = .returned (StepV.val ⟨v.tick, v.loc, x.look.2.1, x.look.2.2.1, x.look.2.2.2, v.st⟩) ∧ DialAt B (Fup F w w') w0 w' d x.look.1 ∧ Keep F w w' := by
 obtain ⟨vt, vl, vw, va, vn, vs⟩ := v
 simp only at hv
 subst hv
 unfold StepV.val
 have HD := hid h
 have HF : Hid (∀ k, F k → B ≤ k ∧ k < w.heap.size) := h.fin
 have HB : Hid (B ≤ w.heap.size) := h.base.2
 have HTG := hid (op_tgts x h.ok hk)
 obtain ⟨L, hL⟩ : ∃ y, lookM x.s.win.toNat x.P x.S x.seen x.R = y := ⟨_, rfl⟩
 obtain ⟨mt, hmt⟩ : ∃ y, L.mtch = y := ⟨_, rfl⟩
 obtain ⟨fl, hfl⟩ : ∃ y, L.full = y := ⟨_, rfl⟩
 obtain ⟨ar, har⟩ : ∃ y, L.arm = y := ⟨_, rfl⟩
 obtain ⟨gn, hgn⟩ : ∃ y, L.gone = y := ⟨_, rfl⟩
 obtain ⟨rd, hrd⟩ : ∃ y, L.read = y := ⟨_, rfl⟩
 have HAR : Hid (mt = true → ar < x.op.arms.length) := fun e => by
  have := look_arm x.s.win.toNat x.P x.S x.seen x.R (by rw [hL, hmt]; exact e)
  rwa [hL, hP, har] at this
 have HSE : Hid (x.look = if mt = true then (((x.looked L).jump 2 (x.op.arms.getD ar ⟨⟨#[]⟩, 0⟩).tt).1, ((x.looked L).jump 2 (x.op.arms.getD ar ⟨⟨#[]⟩, 0⟩).tt).2, ar, gn)
   else if fl = true then ((x.looked L).stop 4, 13, 0, rd)
   else if x.eof = true then (((x.looked L).jump 4 x.op.onE).1, ((x.looked L).jump 4 x.op.onE).2, 0, rd)
   else if dueT x.due.til x.now = true then (((x.looked L).jump 3 x.op.onT).1, ((x.looked L).jump 3 x.op.onT).2, 0, rd)
   else (x.looked L, 1, 0, rd)) := by
  rw [Hid, DialV.look]
  simp only [hL, hmt, hfl, har, hgn, hrd]
 have CLK : Hid (∀ W, Below w.heap.size w W → Calls Tryz.prog 152 #[.pointer (some ⟨gh, 0, none⟩), .pointer (some ⟨gi, 0, none⟩)] W fun e w' =>
   e = .returned (.agg #[.bool mt, .bool fl, .int .i64 (ar : Int), .int .i64 (gn : Int), .int .i64 (rd : Int)]) ∧ DialIn B (Fup F W w') w0 w' d gi gb gh gp (Fup F2 W w') A c (x.looked L) ∧ Keep F W w') := fun W hb => by
  have := (HD.out.below hb).looks
  rw [hL, hmt, hfl, har, hgn, hrd] at this
  exact this
 obtain ⟨R, hR⟩ : ∃ y, x.look = y := ⟨_, rfl⟩
 rw [hR] at HSE ⊢
 obtain ⟨Av, cv, rfl, harm⟩ := hov
 have HARM := hid harm
 obtain ⟨na, hna⟩ : ∃ y, x.op.arms.length = y := ⟨_, rfl⟩
 rw [hna] at HAR ⊢
 obtain ⟨o, ho⟩ : ∃ y, x.op = y := ⟨_, rfl⟩
 rw [ho] at HSE HARM HTG hna ⊢
 have HNA := hid hna
 obtain ⟨k, tx, nn, tj, arms, oT, oE⟩ := o
 unfold OpV.val
 simp only at HSE HARM HTG HNA ⊢
 clear hL hmt hfl har hgn hrd hR ho hna hk hP harm
 obtain ⟨wa, hwa⟩ : ∃ W, ((w.alloc (.cells #[.int .i64 vt, .int .i64 (vl : Int), .int .i64 (vw : Int), .int .i64 0, .int .i64 (vn : Int), .int .i64 (vs : Int)] 51)).alloc (.cells #[.int .i64 k, .string tx, .int .i64 nn, .int .i64 tj, .slice Av na cv, .int .i64 oT, .int .i64 oE] 56)).alloc (.cells #[.int .i64 0, .int .i64 0, .int .i64 0, .int .i64 0, .int .i64 0, .int .i64 0] 51) = W := ⟨_, rfl⟩
 have HBA : Hid (Below w.heap.size w wa) := by rw [← hwa]; exact below3 _ _ _ _
 have HXA : Hid (Blk wa w.heap.size 51 #[.int .i64 vt, .int .i64 (vl : Int), .int .i64 (vw : Int), .int .i64 0, .int .i64 (vn : Int), .int .i64 (vs : Int)]) := by rw [← hwa]; exact ((Blk.new w _ _).alloc _).alloc _
 have HOA : Hid (Blk wa (w.heap.size + 1) 56 #[.int .i64 k, .string tx, .int .i64 nn, .int .i64 tj, .slice Av na cv, .int .i64 oT, .int .i64 oE]) := by rw [← hwa]; exact (new2 _ _ _ _).alloc _
 have HRA : Hid (Blk wa (w.heap.size + 2) 51 #[.int .i64 0, .int .i64 0, .int .i64 0, .int .i64 0, .int .i64 0, .int .i64 0]) := by rw [← hwa]; exact new3 _ _ _ _ _
 have HWA := hid hwa
 have HDA := hid (h.below HBA.out)
 clear hwa h
 obtain ⟨gx, hgx⟩ : ∃ y, w.heap.size = y := ⟨_, rfl⟩
 have HGX := hid hgx
 rw [hgx] at HXA HOA HRA
 clear hgx
 go_enter Tryz.func114, Tryz.ntmps114
 go_upto_region 1 with fail
 rw [HWA.out, HGX.out]
 obtain ⟨go, hgo⟩ : ∃ y, gx + 1 = y := ⟨_, rfl⟩
 rw [hgo]
 obtain ⟨gr, hgr⟩ : ∃ y, go + 1 = y := ⟨_, rfl⟩
 rw [hgr]
 have hgr2 : gx + 2 = gr := by omega
 rw [hgo] at HOA
 rw [hgr2] at HRA
 have HG : Hid (w.heap.size = gx ∧ gx + 1 = go ∧ go + 1 = gr ∧ gr < wa.heap.size) := ⟨HGX.out, hgo, hgr, HRA.out.lt⟩
 have HFX : Hid (∀ k, F k → k < gx) := fun k hk => by have := HF.out k hk; have := HG.out.1; omega
 clear hgo hgr hgr2 HGX HWA
 have hdl := HDA.out.lt
 have T16 : ∀ q : BW wa.heap.size wa, q.1.cell? ⟨d, 16, none⟩ = some (.pointer (some ⟨gi, 0, none⟩)) := fun q => q.cellAt hdl (HDA.out.cell 16)
 have T17 : ∀ q : BW wa.heap.size wa, q.1.cell? ⟨d, 17, none⟩ = some (.pointer (some ⟨gh, 0, none⟩)) := fun q => q.cellAt hdl (HDA.out.cell 17)
 refine wp_region_ordT wa.heap.size [8] (.val 0 (.val 1 (.val 2 (.val 3 (.val 4 (.val 5 (.val 6 (.val 7 (.two 8 (.op 9 (.op 10 .nil)) 9 (.op 8 (.op 10 .nil))))))))))) (by kernel_rfl) (by kernel_rfl) ?_
 obtain ⟨wx, hwx⟩ : ∃ W, wa.drewN 1 = W := ⟨_, rfl⟩
 have HBW : Hid (Below wa.heap.size wa wx) := by rw [← hwx]; exact drewN_below wa 1
 rw [hwx]
 clear hwx
 have HXX := hid (HXA.out.below HBW.out HXA.out.lt)
 have HOX := hid (HOA.out.below HBW.out HOA.out.lt)
 have HRX := hid (HRA.out.below HBW.out HRA.out.lt)
 have HBC : Hid (Below w.heap.size w wx) := HBA.out.trans (HBW.out.mono HBA.out.size)
 iterate 8 ((first | refine wpOrdT_val rfl rfl ?_ | refine wpOrdT_load rfl rfl (inBW HBW.out) ?_); go_big_quiet_step (fail); refine wpQuiet_nil ?_)
 clear T16 T17 hdl
 refine wpOrdT_two rfl rfl ?_ ?_
 focus
  have CL := hid (CLK.out wx HBC.out)
  go_wp2_with fail
  refine CL.out.mono ?_
  rintro en w1 ⟨rfl, hd1, hk1⟩
  have HD1 := hid hd1; have HK1 := hid hk1
  have HX1 := hid (hk1.blk HXX.out (fun hf => by have := HFX.out _ hf; omega))
  have HO1 := hid (hk1.blk HOX.out (fun hf => by have := HFX.out _ hf; have := HG.out; omega))
  have HR1 := hid (hk1.blk HRX.out (fun hf => by have := HFX.out _ hf; have := HG.out; omega))
  have HS1 : Hid (wa.heap.size ≤ w1.heap.size) := Nat.le_trans HBW.out.size hk1.size
  have HKA : Hid (Keep F wa w1) := (Keep.of_below (F := F) HBW.out).trans hk1 (fun _ h => .inl h)
  clear hd1 hk1 CL
  go_wp2_with fail
  refine KT.past rfl ?_
  refine wpOrdT_op rfl ?_
  go_wp2_with fail
  obtain ⟨wn, hwn⟩ : ∃ W, w1.alloc (.cells #[.bool false, .bool false, .int .i64 0, .int .i64 0, .int .i64 0] 179) = W := ⟨_, rfl⟩
  have HFN : Hid (Blk wn w1.heap.size 179 #[.bool false, .bool false, .int .i64 0, .int .i64 0, .int .i64 0]) := by rw [← hwn]; exact Blk.new _ _ _
  have HBN : Hid (Below w1.heap.size w1 wn) := by rw [← hwn]; exact (Below.refl _ _).alloc (Nat.le_refl _) _
  rw [hwn]
  clear hwn
  refine KT.step (HBN.out.mono HS1.out) ?_
  have HFE : Hid (∀ k, Fup F wx w1 k → k < w1.heap.size) := fun k hk => (HD1.out.fin k hk).2
  obtain ⟨gf, hgf⟩ : ∃ y, w1.heap.size = y := ⟨_, rfl⟩
  rw [hgf] at HFN HFE ⊢
  have HGF : Hid (wa.heap.size ≤ gf) := by rw [Hid, ← hgf]; exact HS1.out
  have HGE := hid hgf
  clear hgf
  refine wpOrdT_op rfl ?_
  obtain ⟨f0, f1, f2, f3, f4⟩ := fact5 HFN.out
  have y0 := HFN.out.frozen 0; have y1 := HFN.out.frozen 1; have y2 := HFN.out.frozen 2; have y3 := HFN.out.frozen 3; have y4 := HFN.out.frozen 4
  have hfl := HFN.out.lt
  go_wp2_with fail
  obtain ⟨wf, hwf⟩ : ∃ W, set5 wn gf (.bool mt) (.bool fl) (.int .i64 (ar : Int)) (.int .i64 (gn : Int)) (.int .i64 (rd : Int)) = W := ⟨_, rfl⟩
  have HFD : Hid (Blk wf gf 179 #[.bool mt, .bool fl, .int .i64 (ar : Int), .int .i64 (gn : Int), .int .i64 (rd : Int)]) := by rw [← hwf]; exact set5_blk HFN.out _ _ _ _ _
  have HKF : Hid (Keep (fun k => k = gf) wn wf) := by rw [← hwf]; exact set5_self _ _ _ _ _ _ _
  unfold set5 at hwf
  rw [hwf]
  clear hwf f0 f1 f2 f3 f4 y0 y1 y2 y3 y4 hfl
  refine KT.step (HKF.out.below (Nat.le_trans HS1.out HBN.out.size) (fun k (e : k = gf) => by rw [e]; exact HGF.out)) ?_
  refine wpOrdT_nil ?_
  have HKB : Hid (Keep (fun k => k = gf) w1 wf) := (Keep.of_below (F := fun k => k = gf) HBN.out).trans HKF.out (fun _ h => .inl h)
  obtain ⟨Fv, F2v, HDV, HFV, HKV⟩ : ∃ Fv F2v, Hid (DialIn B Fv w0 wf d gi gb gh gp F2v A c (x.looked L)) ∧ Hid ((∀ k, Fv k → F k ∨ wa.heap.size ≤ k) ∧ ¬ Fv gf) ∧ Hid (Keep F wa wf) :=
   ⟨Fup F wx w1, Fup F2 wx w1, HD1.out.keep HKB.out (fun k hk (e : k = gf) => by have := HFE.out k hk; omega) (fun k (e : k = gf) => by have := HGF.out; have := HBA.out.size; have := HB.out; omega),
    ⟨fun k hk => hk.imp id (fun h => Nat.le_trans HBW.out.size h.1), fun hk => by have := HFE.out _ hk; omega⟩,
    HKA.out.trans HKB.out (fun k (e : k = gf) => .inr (by rw [e]; exact HGF.out))⟩
  have hfx : ∀ k, k < wa.heap.size → ¬ k = gf := fun k h => by have := HGF.out; omega
  have HX := hid (HKB.out.blk HX1.out (hfx _ (by have := HG.out; omega)))
  have HO := hid (HKB.out.blk HO1.out (hfx _ (by have := HG.out; omega)))
  have HRR := hid (HKB.out.blk HR1.out (hfx _ (by have := HG.out; omega)))
  clear hfx HX1 HO1 HR1 HKB HKF HFE HBN HFN HKA HD1 HK1 HS1 HGE
 rotate_left 1
 focus
  go_wp2_with fail
  obtain ⟨wn, hwn⟩ : ∃ W, wx.alloc (.cells #[.bool false, .bool false, .int .i64 0, .int .i64 0, .int .i64 0] 179) = W := ⟨_, rfl⟩
  have HFN : Hid (Blk wn wx.heap.size 179 #[.bool false, .bool false, .int .i64 0, .int .i64 0, .int .i64 0]) := by rw [← hwn]; exact Blk.new _ _ _
  have HBN : Hid (Below wx.heap.size wx wn) := by rw [← hwn]; exact (Below.refl _ _).alloc (Nat.le_refl _) _
  rw [hwn]
  clear hwn
  refine KT.step (HBN.out.mono HBW.out.size) ?_
  obtain ⟨gf, hgf⟩ : ∃ y, wx.heap.size = y := ⟨_, rfl⟩
  rw [hgf] at HFN ⊢
  have HGF : Hid (wa.heap.size ≤ gf) := by rw [Hid, ← hgf]; exact HBW.out.size
  have HGE := hid hgf
  clear hgf
  refine wpOrdT_op rfl ?_
  have HXN := hid (HXX.out.below HBN.out HXX.out.lt)
  have HON := hid (HOX.out.below HBN.out HOX.out.lt)
  have HRN := hid (HRX.out.below HBN.out HRX.out.lt)
  have CL := hid (CLK.out wn (HBC.out.trans (HBN.out.mono HBC.out.size)))
  go_wp2_with fail
  refine CL.out.mono ?_
  rintro en w1 ⟨rfl, hd1, hk1⟩
  have HD1 := hid hd1; have HK1 := hid hk1
  have HX1 := hid (hk1.blk HXN.out (fun hf => by have := HFX.out _ hf; omega))
  have HO1 := hid (hk1.blk HON.out (fun hf => by have := HFX.out _ hf; have := HG.out; omega))
  have HR1 := hid (hk1.blk HRN.out (fun hf => by have := HFX.out _ hf; have := HG.out; omega))
  have HF1 := hid (hk1.blk HFN.out (fun hf => by have := HFX.out _ hf; have := HG.out; have := HGF.out; omega))
  have HBX : Hid (Below wa.heap.size wa wn) := HBW.out.trans (HBN.out.mono HBW.out.size)
  have HS1 : Hid (wa.heap.size ≤ w1.heap.size) := Nat.le_trans HBX.out.size hk1.size
  have HKA : Hid (Keep F wa w1) := (Keep.of_below (F := F) HBX.out).trans hk1 (fun _ h => .inl h)
  have HGW : Hid (gf < wn.heap.size) := HFN.out.lt
  clear hd1 hk1 CL
  go_wp2_with fail
  refine KT.past rfl ?_
  refine wpOrdT_op rfl ?_
  obtain ⟨f0, f1, f2, f3, f4⟩ := fact5 HF1.out
  have y0 := HF1.out.frozen 0; have y1 := HF1.out.frozen 1; have y2 := HF1.out.frozen 2; have y3 := HF1.out.frozen 3; have y4 := HF1.out.frozen 4
  have hfl := HF1.out.lt
  go_wp2_with fail
  obtain ⟨wf, hwf⟩ : ∃ W, set5 w1 gf (.bool mt) (.bool fl) (.int .i64 (ar : Int)) (.int .i64 (gn : Int)) (.int .i64 (rd : Int)) = W := ⟨_, rfl⟩
  have HFD : Hid (Blk wf gf 179 #[.bool mt, .bool fl, .int .i64 (ar : Int), .int .i64 (gn : Int), .int .i64 (rd : Int)]) := by rw [← hwf]; exact set5_blk HF1.out _ _ _ _ _
  have HKB : Hid (Keep (fun k => k = gf) w1 wf) := by rw [← hwf]; exact set5_self _ _ _ _ _ _ _
  unfold set5 at hwf
  rw [hwf]
  clear hwf f0 f1 f2 f3 f4 y0 y1 y2 y3 y4 hfl
  refine KT.step (HKB.out.below HS1.out (fun k (e : k = gf) => by rw [e]; exact HGF.out)) ?_
  refine wpOrdT_nil ?_
  have HNF : Hid (¬ Fup F wn w1 gf) := by
   rintro (hf | hf)
   ·have := HFX.out _ hf; have := HG.out; have := HGF.out; omega
   ·have := HGW.out; have := hf.1; omega
  obtain ⟨Fv, F2v, HDV, HFV, HKV⟩ : ∃ Fv F2v, Hid (DialIn B Fv w0 wf d gi gb gh gp F2v A c (x.looked L)) ∧ Hid ((∀ k, Fv k → F k ∨ wa.heap.size ≤ k) ∧ ¬ Fv gf) ∧ Hid (Keep F wa wf) :=
   ⟨Fup F wn w1, Fup F2 wn w1, HD1.out.keep HKB.out (fun k hk (e : k = gf) => HNF.out (by rw [← e]; exact hk)) (fun k (e : k = gf) => by have := HGF.out; have := HBA.out.size; have := HB.out; omega),
    ⟨fun k hk => hk.imp id (fun h => Nat.le_trans HBX.out.size h.1), HNF.out⟩,
    HKA.out.trans HKB.out (fun k (e : k = gf) => .inr (by rw [e]; exact HGF.out))⟩
  have hfx : ∀ k, k < wa.heap.size → ¬ k = gf := fun k h => by have := HGF.out; omega
  have HX := hid (HKB.out.blk HX1.out (hfx _ (by have := HG.out; omega)))
  have HO := hid (HKB.out.blk HO1.out (hfx _ (by have := HG.out; omega)))
  have HRR := hid (HKB.out.blk HR1.out (hfx _ (by have := HG.out; omega)))
  clear hfx HX1 HO1 HR1 HKB HBN HFN HKA HD1 HK1 HS1 HGE HXN HON HRN HF1 HBX HGW HNF
 all_goals
  have hfl := HFD.out.lt; have hxl := HX.out.lt
  have f4 : wf.cell? ⟨gf, 4, none⟩ = some (.int .i64 (rd : Int)) := HFD.out.cell 4
  have e4 : wf.cell? ⟨gx, 4, none⟩ = some (.int .i64 (vn : Int)) := HX.out.cell 4
  have ef4 := HX.out.frozen 4
  go_upto_region 4 with fail
  obtain ⟨wg, hwg, hxg, HKG⟩ := Blk.put HX.out 4 (.int .i64 (rd : Int))
  rw [hwg]
  have HXG : Hid (Blk wg gx 51 #[.int .i64 vt, .int .i64 (vl : Int), .int .i64 (vw : Int), .int .i64 0, .int .i64 (rd : Int), .int .i64 (vs : Int)]) := hxg
  have HNX : Hid ((∀ k, Fv k → ¬ k = gx) ∧ (∀ k, Fv k → ¬ k = go) ∧ (∀ k, Fv k → ¬ k = gr) ∧ (∀ k, Fv k → ¬ k = gf) ∧ gx ≠ gr ∧ go ≠ gr ∧ gf ≠ gr ∧ gf ≠ gx ∧ go ≠ gx) := by
   have hh : ∀ k, Fv k → k < gx ∨ wa.heap.size ≤ k := fun k hk => (HFV.out.1 k hk).imp (HFX.out k) id
   have := HG.out; have := HGF.out
   exact ⟨fun k hk => by have := hh k hk; omega, fun k hk => by have := hh k hk; omega, fun k hk => by have := hh k hk; omega, fun k hk e => HFV.out.2 (by rw [← e]; exact hk), by omega, by omega, by omega, by omega, by omega⟩
  have HBX : Hid (B ≤ gx ∧ B ≤ gr) := by have := HG.out; have := HB.out; exact ⟨by omega, by omega⟩
  have HDG := hid (HDV.out.keep HKG.out HNX.out.1 (fun k (e : k = gx) => by rw [e]; exact HBX.out.1))
  have HFG := hid (HKG.out.blk HFD.out HNX.out.2.2.2.2.2.2.2.1)
  have HOG := hid (HKG.out.blk HO.out HNX.out.2.2.2.2.2.2.2.2)
  have HRG := hid (HKG.out.blk HRR.out (fun e => HNX.out.2.2.2.2.1 e.symm))
  have HKH : Hid (Keep F w wg) := ((Keep.of_below (F := F) HBA.out).trans HKV.out (fun _ h => .inl h)).trans HKG.out (fun k (e : k = gx) => .inr (by rw [e, HG.out.1]; exact Nat.le_refl _))
  have HFW : Hid (∀ k, Fv k → F k ∨ w.heap.size ≤ k) := fun k hk => (HFV.out.1 k hk).imp id (fun h => Nat.le_trans HBA.out.size h)
  have HSG : Hid (gr < wg.heap.size) := HRG.out.lt
  clear hwg hxg f4 e4 ef4 hxl hfl HX HO HRR HFD HDV HKV HKG
  have hfl := HFG.out.lt
  cases mt
  ·have g0 : wg.cell? ⟨gf, 0, none⟩ = some (.bool false) := HFG.out.cell 0
   cases fl
   ·have g1 : wg.cell? ⟨gf, 1, none⟩ = some (.bool false) := HFG.out.cell 1
    have hdl := HDG.out.lt
    cases he : x.eof
    ·rw [he] at HSE
     have c19 : wg.cell? ⟨d, 19, none⟩ = some (.bool false) := by have := HDG.out.cell 19; rw [← he]; exact this
     have hdl := HDG.out.lt
     obtain ⟨t1, ht1⟩ : ∃ y, x.due.til = y := ⟨_, rfl⟩
     obtain ⟨t2, ht2⟩ : ∃ y, x.due.lim = y := ⟨_, rfl⟩
     obtain ⟨t3, ht3⟩ : ∃ y, x.due.cut = y := ⟨_, rfl⟩
     obtain ⟨nw, hnw⟩ : ∃ y, x.now = y := ⟨_, rfl⟩
     have CW : Hid (∀ W, Calls Tryz.prog 120 #[.agg #[.int .i64 t1, .int .i64 t2, .int .i64 t3], .int .i64 nw] W fun e w' => e = .returned (.bool (dueT t1 nw)) ∧ Below W.heap.size W w') := by
      rw [← ht1, ← ht2, ← ht3, ← hnw]; exact fun W => dueWoken_any x.due x.now W
     have T13 : ∀ q : BW wg.heap.size wg, q.1.cell? ⟨d, 13, none⟩ = some (.int .i64 t1) := fun q => q.cellAt hdl (by rw [← ht1]; exact HDG.out.cell 13)
     have T14 : ∀ q : BW wg.heap.size wg, q.1.cell? ⟨d, 14, none⟩ = some (.int .i64 t2) := fun q => q.cellAt hdl (by rw [← ht2]; exact HDG.out.cell 14)
     have T15 : ∀ q : BW wg.heap.size wg, q.1.cell? ⟨d, 15, none⟩ = some (.int .i64 t3) := fun q => q.cellAt hdl (by rw [← ht3]; exact HDG.out.cell 15)
     have T20 : ∀ q : BW wg.heap.size wg, q.1.cell? ⟨d, 20, none⟩ = some (.int .i64 nw) := fun q => q.cellAt hdl (by rw [← hnw]; exact HDG.out.cell 20)
     rw [ht1, hnw] at HSE
     clear ht1 ht2 ht3 hnw he
     obtain ⟨dt, hdt⟩ : ∃ y, dueT t1 nw = y := ⟨_, rfl⟩
     rw [hdt] at CW HSE
     clear hdt
     go_upto_region 13 with fail
     refine wp_region_below wg.heap.size (by kernel_rfl) (by kernel_rfl) ?_
     repeat (go_big_quiet_step (first | (go_at_call 120; exact callBW (Nat.le_refl _) CW.out _)))
     refine wpQuiet_nil ?_
     intro wu hqu
     have HBU : Hid (Below wg.heap.size wg wu) := by obtain ⟨q, rfl⟩ := hqu; exact q.2
     clear hqu T13 T14 T15 T20 CW c19 g0 g1 hfl hdl
     have HXG' := hid (HXG.out.below HBU.out HXG.out.lt)
     have HDG' := hid (HDG.out.below HBU.out)
     have HOG' := hid (HOG.out.below HBU.out HOG.out.lt)
     have HRG' := hid (HRG.out.below HBU.out HRG.out.lt)
     have HKH' : Hid (Keep F w wu) := HKH.out.trans (Keep.of_below (F := F) HBU.out) (fun _ h => .inl h)
     cases dt
     ·have HR : Hid (R = (x.looked L, 1, 0, rd)) := by rw [Hid, HSE.out, if_neg (by decide), if_neg (by decide), if_neg (by decide), if_neg (by decide)]
      clear HSE
      have e2 : wu.cell? ⟨gx, 2, none⟩ = some (.int .i64 (vw : Int)) := HXG'.out.cell 2
      have ef2 := HXG'.out.frozen 2
      have hxl := HXG'.out.lt
      go_upto_region 16 with fail
      obtain ⟨wv, hwv, hxv, HKP⟩ := Blk.put HXG'.out 2 (.int .i64 1)
      rw [hwv]
      have HXV : Hid (Blk wv gx 51 #[.int .i64 vt, .int .i64 (vl : Int), .int .i64 1, .int .i64 0, .int .i64 (rd : Int), .int .i64 (vs : Int)]) := hxv
      have HDV : Hid (DialIn B Fv w0 wv d gi gb gh gp F2v A c (x.looked L)) := HDG'.out.keep HKP.out HNX.out.1 (fun k (e : k = gx) => by rw [e]; exact HBX.out.1)
      have HOV2 := hid (HKP.out.blk HOG'.out HNX.out.2.2.2.2.2.2.2.2)
      have HRW := hid (HKP.out.blk HRG'.out (fun e => HNX.out.2.2.2.2.1 e.symm))
      have HKV : Hid (Keep F w wv) := HKH'.out.trans HKP.out (fun k (e : k = gx) => .inr (by rw [e, HG.out.1]; exact Nat.le_refl _))
      have HSV : Hid (gr < wv.heap.size) := HRW.out.lt
      clear hwv hxv HKP e2 ef2 hxl
      obtain ⟨x0, x1, x2, x3, x4, x5⟩ := fact6 HXV.out
      have hlx := HXV.out.lt
      have HRV := HRW
      obtain ⟨r0, r1, r2, r3, r4, r5⟩ := fact6 HRV.out
      have z0 := HRV.out.frozen 0; have z1 := HRV.out.frozen 1; have z2 := HRV.out.frozen 2; have z3 := HRV.out.frozen 3; have z4 := HRV.out.frozen 4; have z5 := HRV.out.frozen 5
      have hlr := HRV.out.lt
      go_wp2_with fail
      obtain ⟨wz, hwz⟩ : ∃ W, setS6 wv gr (.int .i64 vt) (.int .i64 (vl : Int)) (.int .i64 1) (.int .i64 0) (.int .i64 (rd : Int)) (.int .i64 (vs : Int)) = W := ⟨_, rfl⟩
      have KZ : Hid (Keep (fun k => k = gr) wv wz) := by rw [← hwz]; exact setS6_keep _ _ _ _ _ _ _ _
      have BZ := setS6_blk HRV.out (.int .i64 vt) (.int .i64 (vl : Int)) (.int .i64 1) (.int .i64 0) (.int .i64 (rd : Int)) (.int .i64 (vs : Int))
      rw [hwz] at BZ
      unfold setS6 at hwz
      rw [hwz]
      clear hwz
      obtain ⟨t0, t1, t2, t3, t4, t5⟩ := fact6 BZ
      have hf := tailL (G := fun k => k = gr) HF.out HB.out HFW.out HKV.out (DialAt.up (w := wv) HDV.out.at HDV.out.fin HDV.out.base.2 (Nat.le_refl _)) (Keep.refl Fv wv) KZ.out (fun k (e : k = gr) => by rw [e]; exact ⟨by have := HG.out; omega, HSV.out, fun h => HNX.out.2.2.1 _ h rfl⟩)
      refine bodyPost_ret (v := .agg #[.int .i64 vt, .int .i64 (vl : Int), .int .i64 1, .int .i64 0, .int .i64 (rd : Int), .int .i64 (vs : Int)]) (by simp [results, Tryz.results114, go_sem, t0, t1, t2, t3, t4, t5]) rfl ⟨?_, ?_, hf.2⟩
      ·rw [HR.out]; try rfl
      ·rw [HR.out]; exact hf.1
     ·have HR : Hid (R = (((x.looked L).jump 3 oT).1, ((x.looked L).jump 3 oT).2, 0, rd)) := by rw [Hid, HSE.out, if_neg (by decide), if_neg (by decide), if_neg (by decide), if_pos rfl]
      clear HSE
      have e2 : wu.cell? ⟨gx, 2, none⟩ = some (.int .i64 (vw : Int)) := HXG'.out.cell 2
      have ef2 := HXG'.out.frozen 2
      have hxl := HXG'.out.lt
      go_upto_region 15 with fail
      obtain ⟨wv, hwv, hxv, HKP⟩ := Blk.put HXG'.out 2 (.int .i64 3)
      rw [hwv]
      have HXV : Hid (Blk wv gx 51 #[.int .i64 vt, .int .i64 (vl : Int), .int .i64 3, .int .i64 0, .int .i64 (rd : Int), .int .i64 (vs : Int)]) := hxv
      have HDV : Hid (DialIn B Fv w0 wv d gi gb gh gp F2v A c (x.looked L)) := HDG'.out.keep HKP.out HNX.out.1 (fun k (e : k = gx) => by rw [e]; exact HBX.out.1)
      have HOV2 := hid (HKP.out.blk HOG'.out HNX.out.2.2.2.2.2.2.2.2)
      have HRW := hid (HKP.out.blk HRG'.out (fun e => HNX.out.2.2.2.2.1 e.symm))
      have HKV : Hid (Keep F w wv) := HKH'.out.trans HKP.out (fun k (e : k = gx) => .inr (by rw [e, HG.out.1]; exact Nat.le_refl _))
      have HSV : Hid (gr < wv.heap.size) := HRW.out.lt
      clear hwv hxv HKP e2 ef2 hxl
      have CJ := dJump_any (x := x.looked L) HDV.out ⟨vt, vl, 3, 0, rd, vs⟩ oT (HTG.out.2.1)
      unfold StepV.val at CJ
      simp only at CJ
      obtain ⟨J, hJ⟩ : ∃ y, (x.looked L).jump 3 oT = y := ⟨_, rfl⟩
      rw [hJ] at CJ HR
      have CJ := hid CJ
      clear hJ
      obtain ⟨x0, x1, x2, x3, x4, x5⟩ := fact6 HXV.out
      have hlx := HXV.out.lt
      have oc : wv.cell? ⟨go, 5, none⟩ = some (.int .i64 oT) := HOV2.out.cell 5
      have hlo := HOV2.out.lt
      go_wp2_with fail
      refine CJ.out.mono ?_
      rintro en w1 ⟨rfl, hd1, hk1⟩
      have HD1 := hid hd1; have HK1 := hid hk1
      have HRV := hid (hk1.blk HRW.out (fun h => HNX.out.2.2.1 _ h rfl))
      clear hd1 hk1 CJ
      obtain ⟨r0, r1, r2, r3, r4, r5⟩ := fact6 HRV.out
      have z0 := HRV.out.frozen 0; have z1 := HRV.out.frozen 1; have z2 := HRV.out.frozen 2; have z3 := HRV.out.frozen 3; have z4 := HRV.out.frozen 4; have z5 := HRV.out.frozen 5
      have hlr := HRV.out.lt
      go_wp2_with fail
      obtain ⟨wz, hwz⟩ : ∃ W, setS6 w1 gr (.int .i64 vt) (.int .i64 (vl : Int)) (.int .i64 (J.2 : Int)) (.int .i64 0) (.int .i64 (rd : Int)) (.int .i64 (vs : Int)) = W := ⟨_, rfl⟩
      have KZ : Hid (Keep (fun k => k = gr) w1 wz) := by rw [← hwz]; exact setS6_keep _ _ _ _ _ _ _ _
      have BZ := setS6_blk HRV.out (.int .i64 vt) (.int .i64 (vl : Int)) (.int .i64 (J.2 : Int)) (.int .i64 0) (.int .i64 (rd : Int)) (.int .i64 (vs : Int))
      rw [hwz] at BZ
      unfold setS6 at hwz
      rw [hwz]
      clear hwz
      obtain ⟨t0, t1, t2, t3, t4, t5⟩ := fact6 BZ
      have hf := tailL (G := fun k => k = gr) HF.out HB.out HFW.out HKV.out HD1.out HK1.out KZ.out (fun k (e : k = gr) => by rw [e]; exact ⟨by have := HG.out; omega, HSV.out, fun h => HNX.out.2.2.1 _ h rfl⟩)
      refine bodyPost_ret (v := .agg #[.int .i64 vt, .int .i64 (vl : Int), .int .i64 (J.2 : Int), .int .i64 0, .int .i64 (rd : Int), .int .i64 (vs : Int)]) (by simp [results, Tryz.results114, go_sem, t0, t1, t2, t3, t4, t5]) rfl ⟨?_, ?_, hf.2⟩
      ·rw [HR.out]; try rfl
      ·rw [HR.out]; exact hf.1
    ·rw [he] at HSE
     have HXG' := HXG; have HDG' := HDG; have HOG' := HOG; have HRG' := HRG; have HKH' := HKH
     have HR : Hid (R = (((x.looked L).jump 4 oE).1, ((x.looked L).jump 4 oE).2, 0, rd)) := by rw [Hid, HSE.out, if_neg (by decide), if_neg (by decide), if_pos rfl]
     have c19 : wg.cell? ⟨d, 19, none⟩ = some (.bool true) := by have := HDG.out.cell 19; rw [← he]; exact this
     clear HSE
     have e2 : wg.cell? ⟨gx, 2, none⟩ = some (.int .i64 (vw : Int)) := HXG'.out.cell 2
     have ef2 := HXG'.out.frozen 2
     have hxl := HXG'.out.lt
     go_upto_region 12 with fail
     obtain ⟨wv, hwv, hxv, HKP⟩ := Blk.put HXG'.out 2 (.int .i64 4)
     rw [hwv]
     have HXV : Hid (Blk wv gx 51 #[.int .i64 vt, .int .i64 (vl : Int), .int .i64 4, .int .i64 0, .int .i64 (rd : Int), .int .i64 (vs : Int)]) := hxv
     have HDV : Hid (DialIn B Fv w0 wv d gi gb gh gp F2v A c (x.looked L)) := HDG'.out.keep HKP.out HNX.out.1 (fun k (e : k = gx) => by rw [e]; exact HBX.out.1)
     have HOV2 := hid (HKP.out.blk HOG'.out HNX.out.2.2.2.2.2.2.2.2)
     have HRW := hid (HKP.out.blk HRG'.out (fun e => HNX.out.2.2.2.2.1 e.symm))
     have HKV : Hid (Keep F w wv) := HKH'.out.trans HKP.out (fun k (e : k = gx) => .inr (by rw [e, HG.out.1]; exact Nat.le_refl _))
     have HSV : Hid (gr < wv.heap.size) := HRW.out.lt
     clear hwv hxv HKP e2 ef2 hxl
     have CJ := dJump_any (x := x.looked L) HDV.out ⟨vt, vl, 4, 0, rd, vs⟩ oE (HTG.out.2.2)
     unfold StepV.val at CJ
     simp only at CJ
     obtain ⟨J, hJ⟩ : ∃ y, (x.looked L).jump 4 oE = y := ⟨_, rfl⟩
     rw [hJ] at CJ HR
     have CJ := hid CJ
     clear hJ
     obtain ⟨x0, x1, x2, x3, x4, x5⟩ := fact6 HXV.out
     have hlx := HXV.out.lt
     have oc : wv.cell? ⟨go, 6, none⟩ = some (.int .i64 oE) := HOV2.out.cell 6
     have hlo := HOV2.out.lt
     go_wp2_with fail
     refine CJ.out.mono ?_
     rintro en w1 ⟨rfl, hd1, hk1⟩
     have HD1 := hid hd1; have HK1 := hid hk1
     have HRV := hid (hk1.blk HRW.out (fun h => HNX.out.2.2.1 _ h rfl))
     clear hd1 hk1 CJ
     obtain ⟨r0, r1, r2, r3, r4, r5⟩ := fact6 HRV.out
     have z0 := HRV.out.frozen 0; have z1 := HRV.out.frozen 1; have z2 := HRV.out.frozen 2; have z3 := HRV.out.frozen 3; have z4 := HRV.out.frozen 4; have z5 := HRV.out.frozen 5
     have hlr := HRV.out.lt
     go_wp2_with fail
     obtain ⟨wz, hwz⟩ : ∃ W, setS6 w1 gr (.int .i64 vt) (.int .i64 (vl : Int)) (.int .i64 (J.2 : Int)) (.int .i64 0) (.int .i64 (rd : Int)) (.int .i64 (vs : Int)) = W := ⟨_, rfl⟩
     have KZ : Hid (Keep (fun k => k = gr) w1 wz) := by rw [← hwz]; exact setS6_keep _ _ _ _ _ _ _ _
     have BZ := setS6_blk HRV.out (.int .i64 vt) (.int .i64 (vl : Int)) (.int .i64 (J.2 : Int)) (.int .i64 0) (.int .i64 (rd : Int)) (.int .i64 (vs : Int))
     rw [hwz] at BZ
     unfold setS6 at hwz
     rw [hwz]
     clear hwz
     obtain ⟨t0, t1, t2, t3, t4, t5⟩ := fact6 BZ
     have hf := tailL (G := fun k => k = gr) HF.out HB.out HFW.out HKV.out HD1.out HK1.out KZ.out (fun k (e : k = gr) => by rw [e]; exact ⟨by have := HG.out; omega, HSV.out, fun h => HNX.out.2.2.1 _ h rfl⟩)
     refine bodyPost_ret (v := .agg #[.int .i64 vt, .int .i64 (vl : Int), .int .i64 (J.2 : Int), .int .i64 0, .int .i64 (rd : Int), .int .i64 (vs : Int)]) (by simp [results, Tryz.results114, go_sem, t0, t1, t2, t3, t4, t5]) rfl ⟨?_, ?_, hf.2⟩
     ·rw [HR.out]; try rfl
     ·rw [HR.out]; exact hf.1
   ·skip
    have HXG' := HXG; have HDG' := HDG; have HOG' := HOG; have HRG' := HRG; have HKH' := HKH
    have HR : Hid (R = ((x.looked L).stop 4, 13, 0, rd)) := by rw [Hid, HSE.out, if_neg (by decide), if_pos rfl]
    have g1 : wg.cell? ⟨gf, 1, none⟩ = some (.bool true) := HFG.out.cell 1
    clear HSE
    have e2 : wg.cell? ⟨gx, 2, none⟩ = some (.int .i64 (vw : Int)) := HXG'.out.cell 2
    have ef2 := HXG'.out.frozen 2
    have hxl := HXG'.out.lt
    go_upto_region 9 with fail
    obtain ⟨wv, hwv, hxv, HKP⟩ := Blk.put HXG'.out 2 (.int .i64 13)
    rw [hwv]
    have HXV : Hid (Blk wv gx 51 #[.int .i64 vt, .int .i64 (vl : Int), .int .i64 13, .int .i64 0, .int .i64 (rd : Int), .int .i64 (vs : Int)]) := hxv
    have HDV : Hid (DialIn B Fv w0 wv d gi gb gh gp F2v A c (x.looked L)) := HDG'.out.keep HKP.out HNX.out.1 (fun k (e : k = gx) => by rw [e]; exact HBX.out.1)
    have HOV2 := hid (HKP.out.blk HOG'.out HNX.out.2.2.2.2.2.2.2.2)
    have HRW := hid (HKP.out.blk HRG'.out (fun e => HNX.out.2.2.2.2.1 e.symm))
    have HKV : Hid (Keep F w wv) := HKH'.out.trans HKP.out (fun k (e : k = gx) => .inr (by rw [e, HG.out.1]; exact Nat.le_refl _))
    have HSV : Hid (gr < wv.heap.size) := HRW.out.lt
    clear hwv hxv HKP e2 ef2 hxl
    have CS := hid (dStop_any HDV.out 4 (by omega))
    go_wp2_with fail
    refine CS.out.mono ?_
    rintro en w1 ⟨rfl, hd1, hk1⟩
    have HD1 := hid hd1; have HK1 := hid hk1
    have HRV := hid (hk1.blk HRW.out (fun h => HNX.out.2.2.1 _ h rfl))
    have HX1 := hid (hk1.blk HXV.out (fun h => HNX.out.1 _ h rfl))
    clear hd1 hk1 CS g0 g1 hfl
    obtain ⟨x0, x1, x2, x3, x4, x5⟩ := fact6 HX1.out
    have hlx := HX1.out.lt
    obtain ⟨r0, r1, r2, r3, r4, r5⟩ := fact6 HRV.out
    have z0 := HRV.out.frozen 0; have z1 := HRV.out.frozen 1; have z2 := HRV.out.frozen 2; have z3 := HRV.out.frozen 3; have z4 := HRV.out.frozen 4; have z5 := HRV.out.frozen 5
    have hlr := HRV.out.lt
    go_wp2_with fail
    obtain ⟨wz, hwz⟩ : ∃ W, setS6 w1 gr (.int .i64 vt) (.int .i64 (vl : Int)) (.int .i64 13) (.int .i64 0) (.int .i64 (rd : Int)) (.int .i64 (vs : Int)) = W := ⟨_, rfl⟩
    have KZ : Hid (Keep (fun k => k = gr) w1 wz) := by rw [← hwz]; exact setS6_keep _ _ _ _ _ _ _ _
    have BZ := setS6_blk HRV.out (.int .i64 vt) (.int .i64 (vl : Int)) (.int .i64 13) (.int .i64 0) (.int .i64 (rd : Int)) (.int .i64 (vs : Int))
    rw [hwz] at BZ
    unfold setS6 at hwz
    rw [hwz]
    clear hwz
    obtain ⟨t0, t1, t2, t3, t4, t5⟩ := fact6 BZ
    have hf := tailL (G := fun k => k = gr) HF.out HB.out HFW.out HKV.out HD1.out HK1.out KZ.out (fun k (e : k = gr) => by rw [e]; exact ⟨by have := HG.out; omega, HSV.out, fun h => HNX.out.2.2.1 _ h rfl⟩)
    refine bodyPost_ret (v := .agg #[.int .i64 vt, .int .i64 (vl : Int), .int .i64 13, .int .i64 0, .int .i64 (rd : Int), .int .i64 (vs : Int)]) (by simp [results, Tryz.results114, go_sem, t0, t1, t2, t3, t4, t5]) rfl ⟨?_, ?_, hf.2⟩
    ·rw [HR.out]; try rfl
    ·rw [HR.out]; exact hf.1
  ·have g0 : wg.cell? ⟨gf, 0, none⟩ = some (.bool true) := HFG.out.cell 0
   have hai := HAR.out rfl
   have HR : Hid (R = (((x.looked L).jump 2 (arms.getD ar ⟨⟨#[]⟩, 0⟩).tt).1, ((x.looked L).jump 2 (arms.getD ar ⟨⟨#[]⟩, 0⟩).tt).2, ar, gn)) := by rw [Hid, HSE.out, if_pos rfl]
   clear HSE HAR
   go_upto_region 5 with fail
   have T2 : ∀ q : KW (fun k => k = gx) wg, q.1.cell? ⟨gf, 2, none⟩ = some (.int .i64 (ar : Int)) := fun q => q.cellAt hfl HNX.out.2.2.2.2.2.2.2.1 (HFG.out.cell 2)
   have T3 : ∀ q : KW (fun k => k = gx) wg, q.1.cell? ⟨gf, 3, none⟩ = some (.int .i64 (gn : Int)) := fun q => q.cellAt hfl HNX.out.2.2.2.2.2.2.2.1 (HFG.out.cell 3)
   clear g0
   refine wp_region_ordK (fun k => k = gx) [] (.val 0 (.val 1 (.val 2 (.val 3 (.val 4 (.op 5 (.val 6 (.op 7 (.val 8 (.op 9 (.nil))))))))))) (by kernel_rfl) (by kernel_rfl) ?_
   obtain ⟨wc, hwc⟩ : ∃ W, wg.drewN 1 = W := ⟨_, rfl⟩
   have HBC2 : Hid (Below wg.heap.size wg wc) := by rw [← hwc]; exact drewN_below wg 1
   rw [hwc]
   clear hwc
   have HKW : Hid (Keep (fun k => k = gx) wg wc) := Keep.of_below HBC2.out
   have HXC := hid (HXG.out.below HBC2.out HXG.out.lt)
   iterate 5 ((first | refine wpOrdT_val rfl rfl ?_ | refine wpOrdT_load rfl rfl (inKW HKW.out) ?_); go_big_quiet_step (fail); refine wpQuiet_nil ?_)
   refine wpOrdT_op rfl ?_
   obtain ⟨y2, e2⟩ := HXC.out.some 2 (by simp)
   have ef2 := HXC.out.frozen 2
   have hxl := HXC.out.lt
   go_wp2_with fail
   obtain ⟨wc, hwc, HXC, hkc⟩ := Blk.put HXC.out 2 (.int .i64 2)
   rw [hwc]
   clear hwc e2 ef2 hxl
   have HKW : Hid (Keep (fun k => k = gx) wg wc) := HKW.out.trans hkc.out (fun _ h => .inl h)
   refine KT.keep (inKW HKW.out) ?_
   refine wpOrdT_val rfl rfl ?_
   go_big_quiet_step (fail)
   refine wpQuiet_nil ?_
   refine wpOrdT_op rfl ?_
   obtain ⟨y3, e3⟩ := HXC.out.some 3 (by simp)
   have ef3 := HXC.out.frozen 3
   have hxl := HXC.out.lt
   go_wp2_with fail
   obtain ⟨wc, hwc, HXC, hkc⟩ := Blk.put HXC.out 3 (.int .i64 (ar : Int))
   rw [hwc]
   clear hwc e3 ef3 hxl
   have HKW : Hid (Keep (fun k => k = gx) wg wc) := HKW.out.trans hkc.out (fun _ h => .inl h)
   refine KT.keep (inKW HKW.out) ?_
   refine wpOrdT_val rfl rfl ?_
   go_big_quiet_step (fail)
   refine wpQuiet_nil ?_
   refine wpOrdT_op rfl ?_
   obtain ⟨y4, e4⟩ := HXC.out.some 4 (by simp)
   have ef4 := HXC.out.frozen 4
   have hxl := HXC.out.lt
   go_wp2_with fail
   obtain ⟨wc, hwc, HXC, hkc⟩ := Blk.put HXC.out 4 (.int .i64 (gn : Int))
   rw [hwc]
   clear hwc e4 ef4 hxl
   have HKW : Hid (Keep (fun k => k = gx) wg wc) := HKW.out.trans hkc.out (fun _ h => .inl h)
   refine KT.keep (inKW HKW.out) ?_
   refine wpOrdT_nil ?_
   all_goals
    have HXC' : Hid (Blk wc gx 51 #[.int .i64 vt, .int .i64 (vl : Int), .int .i64 2, .int .i64 (ar : Int), .int .i64 (gn : Int), .int .i64 (vs : Int)]) := HXC
    clear T2 T3 HXC
    have HDC := hid (HDG.out.keep HKW.out HNX.out.1 (fun k (e : k = gx) => by rw [e]; exact HBX.out.1))
    have HFC := hid (HKW.out.blk HFG.out HNX.out.2.2.2.2.2.2.2.1)
    have HOC := hid (HKW.out.blk HOG.out HNX.out.2.2.2.2.2.2.2.2)
    have HRC := hid (HKW.out.blk HRG.out (fun e => HNX.out.2.2.2.2.1 e.symm))
    have HKC : Hid (Keep F w wc) := HKH.out.trans HKW.out (fun k (e : k = gx) => .inr (by rw [e, HG.out.1]; exact Nat.le_refl _))
    clear HKW
    obtain ⟨b, off, hA, hbl, hcc⟩ := HARM.out.at (by rw [armVCells_length, HNA.out]; omega)
    have harc := hcc _ _ (armV_at arms ar (by rw [HNA.out]; exact hai))
    obtain ⟨tg, htg⟩ : ∃ y, (arms.getD ar ⟨⟨#[]⟩, 0⟩).tt = y := ⟨_, rfl⟩
    have HTT : Hid (tg ≤ (x.p.ops.length : Int)) := by rw [Hid, ← htg]; exact HTG.out.1 ar
    rw [htg] at harc HR
    clear htg hcc
    have hbw : Below w0.heap.size w0 wc := HDC.out.w0w
    have hbf : ¬ (Fv b ∨ b = gr) := by
     have h1 := HDC.out.base.1
     have h2 := HBX.out.2
     rintro (hf | e)
     ·have := (HDC.out.fin b hf).1; omega
     ·omega
    have hbc : wc.cell? ⟨b, off + ar * 2 + 1, none⟩ = some (.int .i64 tg) := (World.cell?_of_block (hbw.block b hbl)).trans (by rw [Nat.add_assoc]; exact harc)
    have hbl2 : b < wc.heap.size := Nat.lt_of_lt_of_le hbl hbw.size
    have TB : ∀ q : KW (fun k => Fv k ∨ k = gr) wc, q.1.cell? ⟨b, off + ar * 2 + 1, none⟩ = some (.int .i64 tg) := fun q => q.cellAt hbl2 hbf hbc
    have hgx : ¬ (Fv gx ∨ gx = gr) := fun h => h.elim (fun h => HNX.out.1 _ h rfl) HNX.out.2.2.2.2.1
    have hgo : ¬ (Fv go ∨ go = gr) := fun h => h.elim (fun h => HNX.out.2.1 _ h rfl) HNX.out.2.2.2.2.2.1
    have hgf : ¬ (Fv gf ∨ gf = gr) := fun h => h.elim (fun h => HNX.out.2.2.2.1 _ h rfl) HNX.out.2.2.2.2.2.2.1
    have hlx := HXC'.out.lt; have hlo := HOC.out.lt; have hlf := HFC.out.lt
    have X0 : ∀ q : KW (fun k => Fv k ∨ k = gr) wc, q.1.cell? ⟨gx, 0, none⟩ = some (.int .i64 vt) := fun q => q.cellAt hlx hgx (HXC'.out.cell 0)
    have X1 : ∀ q : KW (fun k => Fv k ∨ k = gr) wc, q.1.cell? ⟨gx, 1, none⟩ = some (.int .i64 (vl : Int)) := fun q => q.cellAt hlx hgx (HXC'.out.cell 1)
    have X2 : ∀ q : KW (fun k => Fv k ∨ k = gr) wc, q.1.cell? ⟨gx, 2, none⟩ = some (.int .i64 2) := fun q => q.cellAt hlx hgx (HXC'.out.cell 2)
    have X3 : ∀ q : KW (fun k => Fv k ∨ k = gr) wc, q.1.cell? ⟨gx, 3, none⟩ = some (.int .i64 (ar : Int)) := fun q => q.cellAt hlx hgx (HXC'.out.cell 3)
    have X4 : ∀ q : KW (fun k => Fv k ∨ k = gr) wc, q.1.cell? ⟨gx, 4, none⟩ = some (.int .i64 (gn : Int)) := fun q => q.cellAt hlx hgx (HXC'.out.cell 4)
    have X5 : ∀ q : KW (fun k => Fv k ∨ k = gr) wc, q.1.cell? ⟨gx, 5, none⟩ = some (.int .i64 (vs : Int)) := fun q => q.cellAt hlx hgx (HXC'.out.cell 5)
    have O4 : ∀ q : KW (fun k => Fv k ∨ k = gr) wc, q.1.cell? ⟨go, 4, none⟩ = some (.slice (some ⟨b, off, none⟩) na cv) := fun q => q.cellAt hlo hgo (by rw [← hA]; exact HOC.out.cell 4)
    have G2 : ∀ q : KW (fun k => Fv k ∨ k = gr) wc, q.1.cell? ⟨gf, 2, none⟩ = some (.int .i64 (ar : Int)) := fun q => q.cellAt hlf hgf (HFC.out.cell 2)
    have hai2 : (ar : Int) < (na : Int) := by omega
    clear hA hbw hbf hbc harc hgx hgo hgf
    go_upto_region 6 with fail
    refine wp_region_ordK (fun k => Fv k ∨ k = gr) [] (.val 0 (.val 1 (.val 2 (.val 3 (.val 4 (.val 5 (.val 6 (.val 7 (.val 8 (.op 9 (.op 10 (.nil)))))))))))) (by kernel_rfl) (by kernel_rfl) ?_
    obtain ⟨wv, hwv⟩ : ∃ W, wc.drewN 1 = W := ⟨_, rfl⟩
    have HBV : Hid (Below wc.heap.size wc wv) := by rw [← hwv]; exact drewN_below wc 1
    rw [hwv]
    clear hwv
    have HKW : Hid (Keep (fun k => Fv k ∨ k = gr) wc wv) := Keep.of_below HBV.out
    have HDV := hid (HDC.out.below HBV.out)
    have HRW := hid (HRC.out.below HBV.out HRC.out.lt)
    have HKV : Hid (Keep F w wv) := HKC.out.trans (Keep.of_below (F := F) HBV.out) (fun _ h => .inl h)
    have HSV : Hid (gr < wv.heap.size) := HRW.out.lt
    iterate 9 ((first | refine wpOrdT_val rfl rfl ?_ | refine wpOrdT_load rfl rfl (inKW HKW.out) ?_); go_big_quiet_step (fail); refine wpQuiet_nil ?_)
    refine wpOrdT_op rfl ?_
    have CJ := dJump_any (x := x.looked L) HDV.out ⟨vt, vl, 2, ar, gn, vs⟩ tg (HTT.out)
    unfold StepV.val at CJ
    simp only at CJ
    obtain ⟨J, hJ⟩ : ∃ y, (x.looked L).jump 2 tg = y := ⟨_, rfl⟩
    rw [hJ] at CJ HR
    have CJ := hid CJ
    clear hJ
    go_wp2_with fail
    refine CJ.out.mono ?_
    rintro en w1 ⟨rfl, hd1, hk1⟩
    have HD1 := hid hd1; have HK1 := hid hk1
    have HRV := hid (hk1.blk HRW.out (fun h => HNX.out.2.2.1 _ h rfl))
    have HKW : Hid (Keep (fun k => Fv k ∨ k = gr) wc w1) := HKW.out.trans hk1 (fun _ h => .inl (.inl h))
    clear hd1 hk1 CJ X0 X1 X2 X3 X4 X5 O4 G2 TB
    obtain ⟨r0, r1, r2, r3, r4, r5⟩ := fact6 HRV.out
    have z0 := HRV.out.frozen 0; have z1 := HRV.out.frozen 1; have z2 := HRV.out.frozen 2; have z3 := HRV.out.frozen 3; have z4 := HRV.out.frozen 4; have z5 := HRV.out.frozen 5
    have hlr := HRV.out.lt
    go_wp2_with fail
    refine KT.keep (inKW HKW.out) ?_
    refine wpOrdT_op rfl ?_
    go_wp2_with fail
    obtain ⟨wz, hwz⟩ : ∃ W, setS6 w1 gr (.int .i64 vt) (.int .i64 (vl : Int)) (.int .i64 (J.2 : Int)) (.int .i64 (ar : Int)) (.int .i64 (gn : Int)) (.int .i64 (vs : Int)) = W := ⟨_, rfl⟩
    have KZ : Hid (Keep (fun k => k = gr) w1 wz) := by rw [← hwz]; exact setS6_keep _ _ _ _ _ _ _ _
    have BZ := setS6_blk HRV.out (.int .i64 vt) (.int .i64 (vl : Int)) (.int .i64 (J.2 : Int)) (.int .i64 (ar : Int)) (.int .i64 (gn : Int)) (.int .i64 (vs : Int))
    rw [hwz] at BZ
    unfold setS6 at hwz
    rw [hwz]
    clear hwz
    obtain ⟨t0, t1, t2, t3, t4, t5⟩ := fact6 BZ
    have HKW : Hid (Keep (fun k => Fv k ∨ k = gr) wc wz) := HKW.out.trans KZ.out (fun _ h => .inl (.inr h))
    refine KT.keep (inKW HKW.out) ?_
    refine wpOrdT_nil ?_
    have hf := tailL (G := fun k => k = gr) HF.out HB.out HFW.out HKV.out HD1.out HK1.out KZ.out (fun k (e : k = gr) => by rw [e]; exact ⟨by have := HG.out; omega, HSV.out, fun h => HNX.out.2.2.1 _ h rfl⟩)
    go_wp2_with fail
    refine bodyPost_ret (v := .agg #[.int .i64 vt, .int .i64 (vl : Int), .int .i64 (J.2 : Int), .int .i64 (ar : Int), .int .i64 (gn : Int), .int .i64 (vs : Int)]) (by simp [results, Tryz.results114, go_sem, t0, t1, t2, t3, t4, t5]) rfl ⟨?_, ?_, hf.2⟩
    ·rw [HR.out]; try rfl
    ·rw [HR.out]; exact hf.1
end
end Go.Proofs.YtpkkfdmhbbipoaaGreat
