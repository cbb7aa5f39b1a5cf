/- Walks: package solo: one. Walks: package solo: Run. -/
import Derived.Test.YtemhdkmijfngnaaGreatDl
namespace Go.Proofs.YtemhdkmijfngnaaGreat
open Go.RowKit PopT

structure InV where
  kind : Int
  b : ByteArray
  n : Int
  tick : Int
def InV.val (i : InV) : Value := .agg #[.int .i64 i.kind, .string i.b, .int .i64 i.n, .int .i64 i.tick]
def InV.cells (i : InV) : List Value := [.int .i64 i.kind, .string i.b, .int .i64 i.n, .int .i64 i.tick]
def InV.ok (i : InV) : Prop := i.b.size ≤ 9223372036854775807 ∧ I6 i.n ∧ I6 i.tick
/-- What an input comes to. -/
structure OutV where
  n : Int
  b : ByteArray
  t : Int
  loc : Int
  what : Int
  arm : Int
  m : Int
  st : Int
  did : Bool
  deriving DecidableEq
def OutV.val (o : OutV) : Value := .agg #[.int .i64 o.n, .string o.b, .int .i64 o.t, .int .i64 o.loc, .int .i64 o.what, .int .i64 o.arm, .int .i64 o.m, .int .i64 o.st, .bool o.did]
def OutV.cells (o : OutV) : List Value := [.int .i64 o.n, .string o.b, .int .i64 o.t, .int .i64 o.loc, .int .i64 o.what, .int .i64 o.arm, .int .i64 o.m, .int .i64 o.st, .bool o.did]
def outZ : OutV := ⟨0, ⟨#[]⟩, 0, 0, 0, 0, 0, 0, false⟩
def outS (s : StepV) (did : Bool) : OutV := ⟨0, ⟨#[]⟩, s.tick, s.loc, s.what, s.arm, s.n, s.st, did⟩
def DialV.one (x : DialV) (i : InV) : DialV × OutV :=
  if i.kind = 1 then ((x.put i.b).1, ⟨((x.put i.b).2 : Nat), ⟨#[]⟩, 0, 0, 0, 0, 0, 0, false⟩)
  else if i.kind = 2 then (x.ends, ⟨0, ⟨#[]⟩, 0, 0, 0, 0, 0, 0, decide (x.st = 0) && !x.eof⟩)
  else if i.kind = 3 then (x.take i.n, ⟨0, x.took i.n, 0, 0, 0, 0, 0, 0, false⟩)
  else if i.kind = 4 then (x.cuts i.tick, outZ)
  else if i.kind = 5 then ((x.step i.tick).1, outS (x.step i.tick).2.1 (x.step i.tick).2.2)
  else (x, outZ)
theorem fit_one {x : DialV} (h : DialOk x) (hf : Fit x) (i : InV) (hi : i.ok) : Fit (x.one i).1 := by
  unfold DialV.one
  split
  · exact fit_put hf _
  · split
    · exact fit_ends hf
    · split
      · exact fit_take hf _
      · split
        · exact fit_cuts hf _
        · split
          · exact fit_step h hf _ hi.2.2.2
          · exact hf
def set9 (w : World) (g : Nat) (a0 a1 a2 a3 a4 a5 a6 a7 a8 : Value) : World := ((((((((w.setCell ⟨g, 0, none⟩ a0).setCell ⟨g, 1, none⟩ a1).setCell ⟨g, 2, none⟩ a2).setCell ⟨g, 3, none⟩ a3).setCell ⟨g, 4, none⟩ a4).setCell ⟨g, 5, none⟩ a5).setCell ⟨g, 6, none⟩ a6).setCell ⟨g, 7, none⟩ a7).setCell ⟨g, 8, none⟩ a8
theorem set9_blk {w : World} {g : Nat} {t : TypeId} {x0 x1 x2 x3 x4 x5 x6 x7 x8 : Value} (h : Blk w g t #[x0, x1, x2, x3, x4, x5, x6, x7, x8]) (a0 a1 a2 a3 a4 a5 a6 a7 a8 : Value) : Blk (set9 w g a0 a1 a2 a3 a4 a5 a6 a7 a8) g t #[a0, a1, a2, a3, a4, a5, a6, a7, a8] := by
  have h0 : Blk _ g t #[a0, x1, x2, x3, x4, x5, x6, x7, x8] := h.set 0 a0
  have h1 : Blk _ g t #[a0, a1, x2, x3, x4, x5, x6, x7, x8] := h0.set 1 a1
  have h2 : Blk _ g t #[a0, a1, a2, x3, x4, x5, x6, x7, x8] := h1.set 2 a2
  have h3 : Blk _ g t #[a0, a1, a2, a3, x4, x5, x6, x7, x8] := h2.set 3 a3
  have h4 : Blk _ g t #[a0, a1, a2, a3, a4, x5, x6, x7, x8] := h3.set 4 a4
  have h5 : Blk _ g t #[a0, a1, a2, a3, a4, a5, x6, x7, x8] := h4.set 5 a5
  have h6 : Blk _ g t #[a0, a1, a2, a3, a4, a5, a6, x7, x8] := h5.set 6 a6
  have h7 : Blk _ g t #[a0, a1, a2, a3, a4, a5, a6, a7, x8] := h6.set 7 a7
  have h8 : Blk _ g t #[a0, a1, a2, a3, a4, a5, a6, a7, a8] := h7.set 8 a8
  exact h8
theorem set9_keep (w : World) (g : Nat) (a0 a1 a2 a3 a4 a5 a6 a7 a8 : Value) : Keep (fun k => k = g) w (set9 w g a0 a1 a2 a3 a4 a5 a6 a7 a8) :=
  (set1_keep _ g 0 a0).trans ((set1_keep _ g 1 a1).trans ((set1_keep _ g 2 a2).trans ((set1_keep _ g 3 a3).trans ((set1_keep _ g 4 a4).trans ((set1_keep _ g 5 a5).trans ((set1_keep _ g 6 a6).trans ((set1_keep _ g 7 a7).trans (set1_keep _ g 8 a8) (fun _ h => .inl h)) (fun _ h => .inl h)) (fun _ h => .inl h)) (fun _ h => .inl h)) (fun _ h => .inl h)) (fun _ h => .inl h)) (fun _ h => .inl h)) (fun _ h => .inl h)
theorem fact9 {w : World} {g : Nat} {t : TypeId} {x0 x1 x2 x3 x4 x5 x6 x7 x8 : Value} (h : Blk w g t #[x0, x1, x2, x3, x4, x5, x6, x7, x8]) : w.cell? ⟨g, 0, none⟩ = some x0 ∧ w.cell? ⟨g, 1, none⟩ = some x1 ∧ w.cell? ⟨g, 2, none⟩ = some x2 ∧ w.cell? ⟨g, 3, none⟩ = some x3 ∧ w.cell? ⟨g, 4, none⟩ = some x4 ∧ w.cell? ⟨g, 5, none⟩ = some x5 ∧ w.cell? ⟨g, 6, none⟩ = some x6 ∧ w.cell? ⟨g, 7, none⟩ = some x7 ∧ w.cell? ⟨g, 8, none⟩ = some x8 :=
  ⟨h.cell 0, h.cell 1, h.cell 2, h.cell 3, h.cell 4, h.cell 5, h.cell 6, h.cell 7, h.cell 8⟩
section
variable {B d : Nat} {F : Nat → Prop} {w0 w : World} {x : DialV}
set_option maxRecDepth 20000 in
set_option maxHeartbeats 16000000 in
theorem soloOne_any (h : DialAt B F w0 w d x) (hf : Fit x) (i : InV) (hi : i.ok) : Calls Tryz.prog 64 #[.pointer (some ⟨d, 0, none⟩), i.val] w fun e w' => e = .returned (x.one i).2.val ∧ DialAt B (Fup F w w') w0 w' d (x.one i).1 ∧ Keep F w w' := by
  have HF : Hid (∀ k, F k → B ≤ k ∧ k < w.heap.size) := h.fin
  have HB : Hid (B ≤ w.heap.size) := h.base
  have HFT := hid hf
  have HSE : Hid (x.one i = if i.kind = 1 then ((x.put i.b).1, ⟨((x.put i.b).2 : Nat), ⟨#[]⟩, 0, 0, 0, 0, 0, 0, false⟩)
    else if i.kind = 2 then (x.ends, ⟨0, ⟨#[]⟩, 0, 0, 0, 0, 0, 0, decide (x.st = 0) && !x.eof⟩)
    else if i.kind = 3 then (x.take i.n, ⟨0, x.took i.n, 0, 0, 0, 0, 0, 0, false⟩)
    else if i.kind = 4 then (x.cuts i.tick, outZ)
    else if i.kind = 5 then ((x.step i.tick).1, outS (x.step i.tick).2.1 (x.step i.tick).2.2)
    else (x, outZ)) := rfl
  obtain ⟨R, hR⟩ : ∃ y, x.one i = y := ⟨_, rfl⟩
  rw [hR] at HSE ⊢
  have HI := hid hi
  obtain ⟨k, b, n, t⟩ := i
  simp only at HSE
  unfold InV.val
  simp only
  clear hR hf hi
  obtain ⟨wa, hwa⟩ : ∃ W, ((w.alloc (.cells #[.int .i64 k, .string b, .int .i64 n, .int .i64 t] 46)).alloc (.cells #[.int .i64 0, .string ⟨#[]⟩, .int .i64 0, .int .i64 0, .int .i64 0, .int .i64 0, .int .i64 0, .int .i64 0, .bool false] 72)).alloc (.cells #[.int .i64 0, .string ⟨#[]⟩, .int .i64 0, .int .i64 0, .int .i64 0, .int .i64 0, .int .i64 0, .int .i64 0, .bool false] 72) = W := ⟨_, rfl⟩
  have HBA : Hid (Below w.heap.size w wa) := by rw [← hwa]; exact below3 _ _ _ _
  have HIA : Hid (Blk wa w.heap.size 46 #[.int .i64 k, .string b, .int .i64 n, .int .i64 t]) := by rw [← hwa]; exact ((Blk.new w _ _).alloc _).alloc _
  have HRA : Hid (Blk wa (w.heap.size + 1) 72 #[.int .i64 0, .string ⟨#[]⟩, .int .i64 0, .int .i64 0, .int .i64 0, .int .i64 0, .int .i64 0, .int .i64 0, .bool false]) := by rw [← hwa]; exact (new2 _ _ _ _).alloc _
  have HOA : Hid (Blk wa (w.heap.size + 2) 72 #[.int .i64 0, .string ⟨#[]⟩, .int .i64 0, .int .i64 0, .int .i64 0, .int .i64 0, .int .i64 0, .int .i64 0, .bool false]) := by rw [← hwa]; exact new3 _ _ _ _ _
  have HWA := hid hwa
  have HDA := hid (h.below HBA.out)
  clear hwa h
  go_enter Tryz.func64, Tryz.ntmps64
  go_upto_region 2 with fail
  have e2 : w.heap.size + 1 + 1 = w.heap.size + 2 := rfl
  try rw [e2]
  rw [HWA.out]
  clear e2
  obtain ⟨gi, hgi⟩ : ∃ y, w.heap.size = y := ⟨_, rfl⟩
  have HGI := hid hgi
  rw [hgi] at HIA HRA HOA ⊢
  clear hgi HWA
  obtain ⟨gr, hgr⟩ : ∃ y, gi + 1 = y := ⟨_, rfl⟩
  obtain ⟨go, hgo⟩ : ∃ y, gi + 2 = y := ⟨_, rfl⟩
  rw [hgr] at HRA ⊢
  rw [hgo] at HOA ⊢
  have HG : Hid (w.heap.size = gi ∧ gi + 1 = gr ∧ gi + 2 = go ∧ go < wa.heap.size) := ⟨HGI.out, hgr, hgo, HOA.out.lt⟩
  clear hgr hgo HGI
  have HNF : Hid (¬ F gr ∧ ¬ F go) := ⟨fun hf => by have := HF.out _ hf; have := HG.out; omega, fun hf => by have := HF.out _ hf; have := HG.out; omega⟩
  have HKA : Hid (Keep F w wa) := Keep.of_below HBA.out
  have HSA : Hid (gr < wa.heap.size ∧ go < wa.heap.size) := ⟨HRA.out.lt, HOA.out.lt⟩
  -- what follows a call that leaves the dialogue
  have TAIL : Hid (∀ w1 w2 y, DialAt B (Fup F wa w1) w0 w1 d y → Keep F wa w1 → Keep (fun k => k = gr ∨ k = go) w1 w2 → DialAt B (Fup F w w2) w0 w2 d y ∧ Keep F w w2) := fun w1 w2 y h1 h2 h3 =>
    tailL HF.out HB.out (fun k hk => .inl hk) HKA.out h1 h2 h3 (fun k hk => by
      rcases hk with e | e
      · rw [e]; exact ⟨by have := HG.out; omega, HSA.out.1, HNF.out.1⟩
      · rw [e]; exact ⟨by have := HG.out; omega, HSA.out.2, HNF.out.2⟩)
  have HNE : Hid (gr ≠ go) := by have := HG.out; rw [Hid]; omega
  have i0 : wa.cell? ⟨gi, 0, none⟩ = some (.int .i64 k) := HIA.out.cell 0
  have hli := HIA.out.lt
  clear HNF HSA HKA
  by_cases k1 : k = 1
  · subst k1
    have HR := hid (HSE.out.trans (if_pos rfl))
    clear HSE
    have CC := hid (aPut HDA.out b HI.out.1)
    obtain ⟨pr, hpr⟩ : ∃ y, x.put b = y := ⟨_, rfl⟩
    rw [hpr] at CC HR
    clear hpr
    have i1 : wa.cell? ⟨gi, 1, none⟩ = some (.string b) := HIA.out.cell 1
    go_wp2_with fail
    refine CC.out.mono ?_
    rintro en w1 ⟨rfl, hd1, hk1⟩
    have HD1 := hid hd1; have HK1 := hid hk1
    have HO1 := hid (hk1.blk HOA.out (fun hf => by have := HF.out _ hf; have := HG.out; omega))
    have HR1 := hid (hk1.blk HRA.out (fun hf => by have := HF.out _ hf; have := HG.out; omega))
    clear hd1 hk1 CC HIA HOA HRA
    have ec := HO1.out.frozen 0
    obtain ⟨yc, eg⟩ := HO1.out.some 0 (by simp)
    have hlc := HO1.out.lt
    go_upto_region 13 with fail
    obtain ⟨wv, hwv, hxo, hko⟩ := Blk.put HO1.out 0 (.int .i64 (pr.2 : Int))
    rw [hwv]
    have HXO : Hid (Blk wv go 72 #[.int .i64 (pr.2 : Int), .string ⟨#[]⟩, .int .i64 0, .int .i64 0, .int .i64 0, .int .i64 0, .int .i64 0, .int .i64 0, .bool false]) := hxo
    have HRV := hid (hko.out.blk HR1.out HNE.out)
    have HKO : Hid (Keep (fun k => k = gr ∨ k = go) w1 wv) := hko.out.mono (fun k _ e => .inr e)
    clear hwv hxo hko ec eg hlc HO1 HR1
    obtain ⟨x0, x1, x2, x3, x4, x5, x6, x7, x8⟩ := fact9 HXO.out
    have hlx := HXO.out.lt
    obtain ⟨r0, r1, r2, r3, r4, r5, r6, r7, r8⟩ := fact9 HRV.out
    have z0 := HRV.out.frozen 0; have z1 := HRV.out.frozen 1; have z2 := HRV.out.frozen 2; have z3 := HRV.out.frozen 3; have z4 := HRV.out.frozen 4; have z5 := HRV.out.frozen 5; have z6 := HRV.out.frozen 6; have z7 := HRV.out.frozen 7; have z8 := HRV.out.frozen 8
    have hlr := HRV.out.lt
    go_wp2_with fail
    obtain ⟨wz, hwz⟩ : ∃ W, set9 wv gr (.int .i64 (pr.2 : Int)) (.string ⟨#[]⟩) (.int .i64 0) (.int .i64 0) (.int .i64 0) (.int .i64 0) (.int .i64 0) (.int .i64 0) (.bool false) = W := ⟨_, rfl⟩
    have KZ : Hid (Keep (fun k => k = gr) wv wz) := by rw [← hwz]; exact set9_keep _ _ _ _ _ _ _ _ _ _ _
    have BZ := set9_blk HRV.out (.int .i64 (pr.2 : Int)) (.string ⟨#[]⟩) (.int .i64 0) (.int .i64 0) (.int .i64 0) (.int .i64 0) (.int .i64 0) (.int .i64 0) (.bool false)
    rw [hwz] at BZ
    unfold set9 at hwz
    rw [hwz]
    clear hwz
    obtain ⟨t0, t1, t2, t3, t4, t5, t6, t7, t8⟩ := fact9 BZ
    have HDF : DialAt B (Fup F w wz) w0 wz d pr.1 ∧ Keep F w wz := TAIL.out w1 wz _ HD1.out HK1.out (HKO.out.trans KZ.out (fun k (e : k = gr) => .inl (.inl e)))
    refine bodyPost_ret (v := .agg #[.int .i64 (pr.2 : Int), .string ⟨#[]⟩, .int .i64 0, .int .i64 0, .int .i64 0, .int .i64 0, .int .i64 0, .int .i64 0, .bool false]) (by simp [results, Tryz.results64, go_sem, t0, t1, t2, t3, t4, t5, t6, t7, t8]) rfl ⟨?_, ?_, HDF.2⟩
    · rw [HR.out]; try rfl
    · rw [HR.out]; exact HDF.1
  have HSE := hid (HSE.out.trans (if_neg k1))
  have k1f : (k == 1) = false := by rw [beq_eq_false_iff_ne]; exact k1
  clear k1
  by_cases k2 : k = 2
  · subst k2
    have HR := hid (HSE.out.trans (if_pos rfl))
    clear HSE
    have CC := hid (aEof HDA.out)
    obtain ⟨pr, hpr⟩ : ∃ y, (decide (x.st = 0) && !x.eof) = y := ⟨_, rfl⟩
    rw [hpr] at CC HR
    clear hpr
    go_wp2_with fail
    refine CC.out.mono ?_
    rintro en w1 ⟨rfl, hd1, hk1⟩
    have HD1 := hid hd1; have HK1 := hid hk1
    have HO1 := hid (hk1.blk HOA.out (fun hf => by have := HF.out _ hf; have := HG.out; omega))
    have HR1 := hid (hk1.blk HRA.out (fun hf => by have := HF.out _ hf; have := HG.out; omega))
    clear hd1 hk1 CC HIA HOA HRA
    have ec := HO1.out.frozen 8
    obtain ⟨yc, eg⟩ := HO1.out.some 8 (by simp)
    have hlc := HO1.out.lt
    go_upto_region 13 with fail
    obtain ⟨wv, hwv, hxo, hko⟩ := Blk.put HO1.out 8 (.bool pr)
    rw [hwv]
    have HXO : Hid (Blk wv go 72 #[.int .i64 0, .string ⟨#[]⟩, .int .i64 0, .int .i64 0, .int .i64 0, .int .i64 0, .int .i64 0, .int .i64 0, .bool pr]) := hxo
    have HRV := hid (hko.out.blk HR1.out HNE.out)
    have HKO : Hid (Keep (fun k => k = gr ∨ k = go) w1 wv) := hko.out.mono (fun k _ e => .inr e)
    clear hwv hxo hko ec eg hlc HO1 HR1
    obtain ⟨x0, x1, x2, x3, x4, x5, x6, x7, x8⟩ := fact9 HXO.out
    have hlx := HXO.out.lt
    obtain ⟨r0, r1, r2, r3, r4, r5, r6, r7, r8⟩ := fact9 HRV.out
    have z0 := HRV.out.frozen 0; have z1 := HRV.out.frozen 1; have z2 := HRV.out.frozen 2; have z3 := HRV.out.frozen 3; have z4 := HRV.out.frozen 4; have z5 := HRV.out.frozen 5; have z6 := HRV.out.frozen 6; have z7 := HRV.out.frozen 7; have z8 := HRV.out.frozen 8
    have hlr := HRV.out.lt
    go_wp2_with fail
    obtain ⟨wz, hwz⟩ : ∃ W, set9 wv gr (.int .i64 0) (.string ⟨#[]⟩) (.int .i64 0) (.int .i64 0) (.int .i64 0) (.int .i64 0) (.int .i64 0) (.int .i64 0) (.bool pr) = W := ⟨_, rfl⟩
    have KZ : Hid (Keep (fun k => k = gr) wv wz) := by rw [← hwz]; exact set9_keep _ _ _ _ _ _ _ _ _ _ _
    have BZ := set9_blk HRV.out (.int .i64 0) (.string ⟨#[]⟩) (.int .i64 0) (.int .i64 0) (.int .i64 0) (.int .i64 0) (.int .i64 0) (.int .i64 0) (.bool pr)
    rw [hwz] at BZ
    unfold set9 at hwz
    rw [hwz]
    clear hwz
    obtain ⟨t0, t1, t2, t3, t4, t5, t6, t7, t8⟩ := fact9 BZ
    have HDF : DialAt B (Fup F w wz) w0 wz d x.ends ∧ Keep F w wz := TAIL.out w1 wz _ HD1.out HK1.out (HKO.out.trans KZ.out (fun k (e : k = gr) => .inl (.inl e)))
    refine bodyPost_ret (v := .agg #[.int .i64 0, .string ⟨#[]⟩, .int .i64 0, .int .i64 0, .int .i64 0, .int .i64 0, .int .i64 0, .int .i64 0, .bool pr]) (by simp [results, Tryz.results64, go_sem, t0, t1, t2, t3, t4, t5, t6, t7, t8]) rfl ⟨?_, ?_, HDF.2⟩
    · rw [HR.out]; try rfl
    · rw [HR.out]; exact HDF.1
  have HSE := hid (HSE.out.trans (if_neg k2))
  have k2f : (k == 2) = false := by rw [beq_eq_false_iff_ne]; exact k2
  clear k2
  by_cases k3 : k = 3
  · subst k3
    have HR := hid (HSE.out.trans (if_pos rfl))
    clear HSE
    have CC := hid (aTake HDA.out n)
    obtain ⟨pr, hpr⟩ : ∃ y, x.took n = y := ⟨_, rfl⟩
    rw [hpr] at CC HR
    clear hpr
    have i2 : wa.cell? ⟨gi, 2, none⟩ = some (.int .i64 n) := HIA.out.cell 2
    go_wp2_with fail
    refine CC.out.mono ?_
    rintro en w1 ⟨rfl, hd1, hk1⟩
    have HD1 := hid hd1; have HK1 := hid hk1
    have HO1 := hid (hk1.blk HOA.out (fun hf => by have := HF.out _ hf; have := HG.out; omega))
    have HR1 := hid (hk1.blk HRA.out (fun hf => by have := HF.out _ hf; have := HG.out; omega))
    clear hd1 hk1 CC HIA HOA HRA
    have ec := HO1.out.frozen 1
    obtain ⟨yc, eg⟩ := HO1.out.some 1 (by simp)
    have hlc := HO1.out.lt
    go_upto_region 13 with fail
    obtain ⟨wv, hwv, hxo, hko⟩ := Blk.put HO1.out 1 (.string pr)
    rw [hwv]
    have HXO : Hid (Blk wv go 72 #[.int .i64 0, .string pr, .int .i64 0, .int .i64 0, .int .i64 0, .int .i64 0, .int .i64 0, .int .i64 0, .bool false]) := hxo
    have HRV := hid (hko.out.blk HR1.out HNE.out)
    have HKO : Hid (Keep (fun k => k = gr ∨ k = go) w1 wv) := hko.out.mono (fun k _ e => .inr e)
    clear hwv hxo hko ec eg hlc HO1 HR1
    obtain ⟨x0, x1, x2, x3, x4, x5, x6, x7, x8⟩ := fact9 HXO.out
    have hlx := HXO.out.lt
    obtain ⟨r0, r1, r2, r3, r4, r5, r6, r7, r8⟩ := fact9 HRV.out
    have z0 := HRV.out.frozen 0; have z1 := HRV.out.frozen 1; have z2 := HRV.out.frozen 2; have z3 := HRV.out.frozen 3; have z4 := HRV.out.frozen 4; have z5 := HRV.out.frozen 5; have z6 := HRV.out.frozen 6; have z7 := HRV.out.frozen 7; have z8 := HRV.out.frozen 8
    have hlr := HRV.out.lt
    go_wp2_with fail
    obtain ⟨wz, hwz⟩ : ∃ W, set9 wv gr (.int .i64 0) (.string pr) (.int .i64 0) (.int .i64 0) (.int .i64 0) (.int .i64 0) (.int .i64 0) (.int .i64 0) (.bool false) = W := ⟨_, rfl⟩
    have KZ : Hid (Keep (fun k => k = gr) wv wz) := by rw [← hwz]; exact set9_keep _ _ _ _ _ _ _ _ _ _ _
    have BZ := set9_blk HRV.out (.int .i64 0) (.string pr) (.int .i64 0) (.int .i64 0) (.int .i64 0) (.int .i64 0) (.int .i64 0) (.int .i64 0) (.bool false)
    rw [hwz] at BZ
    unfold set9 at hwz
    rw [hwz]
    clear hwz
    obtain ⟨t0, t1, t2, t3, t4, t5, t6, t7, t8⟩ := fact9 BZ
    have HDF : DialAt B (Fup F w wz) w0 wz d (x.take n) ∧ Keep F w wz := TAIL.out w1 wz _ HD1.out HK1.out (HKO.out.trans KZ.out (fun k (e : k = gr) => .inl (.inl e)))
    refine bodyPost_ret (v := .agg #[.int .i64 0, .string pr, .int .i64 0, .int .i64 0, .int .i64 0, .int .i64 0, .int .i64 0, .int .i64 0, .bool false]) (by simp [results, Tryz.results64, go_sem, t0, t1, t2, t3, t4, t5, t6, t7, t8]) rfl ⟨?_, ?_, HDF.2⟩
    · rw [HR.out]; try rfl
    · rw [HR.out]; exact HDF.1
  have HSE := hid (HSE.out.trans (if_neg k3))
  have k3f : (k == 3) = false := by rw [beq_eq_false_iff_ne]; exact k3
  clear k3
  by_cases k4 : k = 4
  · subst k4
    have HR := hid (HSE.out.trans (if_pos rfl))
    clear HSE
    have CC := hid (aCut HDA.out t HI.out.2.2)
    have i3 : wa.cell? ⟨gi, 3, none⟩ = some (.int .i64 t) := HIA.out.cell 3
    go_wp2_with fail
    refine CC.out.mono ?_
    rintro en w1 ⟨rfl, hd1, hk1⟩
    have HD1 := hid hd1; have HK1 := hid hk1
    have HO1 := hid (hk1.blk HOA.out (fun hf => by have := HF.out _ hf; have := HG.out; omega))
    have HR1 := hid (hk1.blk HRA.out (fun hf => by have := HF.out _ hf; have := HG.out; omega))
    clear hd1 hk1 CC HIA HOA HRA
    have HXO := HO1; have HRV := HR1
    have HKO : Hid (Keep (fun k => k = gr ∨ k = go) w1 w1) := Keep.refl _ _
    clear HO1 HR1
    obtain ⟨x0, x1, x2, x3, x4, x5, x6, x7, x8⟩ := fact9 HXO.out
    have hlx := HXO.out.lt
    obtain ⟨r0, r1, r2, r3, r4, r5, r6, r7, r8⟩ := fact9 HRV.out
    have z0 := HRV.out.frozen 0; have z1 := HRV.out.frozen 1; have z2 := HRV.out.frozen 2; have z3 := HRV.out.frozen 3; have z4 := HRV.out.frozen 4; have z5 := HRV.out.frozen 5; have z6 := HRV.out.frozen 6; have z7 := HRV.out.frozen 7; have z8 := HRV.out.frozen 8
    have hlr := HRV.out.lt
    go_wp2_with fail
    obtain ⟨wz, hwz⟩ : ∃ W, set9 w1 gr (.int .i64 0) (.string ⟨#[]⟩) (.int .i64 0) (.int .i64 0) (.int .i64 0) (.int .i64 0) (.int .i64 0) (.int .i64 0) (.bool false) = W := ⟨_, rfl⟩
    have KZ : Hid (Keep (fun k => k = gr) w1 wz) := by rw [← hwz]; exact set9_keep _ _ _ _ _ _ _ _ _ _ _
    have BZ := set9_blk HRV.out (.int .i64 0) (.string ⟨#[]⟩) (.int .i64 0) (.int .i64 0) (.int .i64 0) (.int .i64 0) (.int .i64 0) (.int .i64 0) (.bool false)
    rw [hwz] at BZ
    unfold set9 at hwz
    rw [hwz]
    clear hwz
    obtain ⟨t0, t1, t2, t3, t4, t5, t6, t7, t8⟩ := fact9 BZ
    have HDF : DialAt B (Fup F w wz) w0 wz d (x.cuts t) ∧ Keep F w wz := TAIL.out w1 wz _ HD1.out HK1.out (HKO.out.trans KZ.out (fun k (e : k = gr) => .inl (.inl e)))
    refine bodyPost_ret (v := .agg #[.int .i64 0, .string ⟨#[]⟩, .int .i64 0, .int .i64 0, .int .i64 0, .int .i64 0, .int .i64 0, .int .i64 0, .bool false]) (by simp [results, Tryz.results64, go_sem, t0, t1, t2, t3, t4, t5, t6, t7, t8]) rfl ⟨?_, ?_, HDF.2⟩
    · rw [HR.out]; try rfl
    · rw [HR.out]; exact HDF.1
  have HSE := hid (HSE.out.trans (if_neg k4))
  have k4f : (k == 4) = false := by rw [beq_eq_false_iff_ne]; exact k4
  clear k4
  by_cases k5 : k = 5
  · subst k5
    have HR := hid (HSE.out.trans (if_pos rfl))
    clear HSE
    have CC := aStep HDA.out HFT.out t HI.out.2.2.2
    obtain ⟨⟨y, s, dd⟩, hpr⟩ : ∃ y, x.step t = y := ⟨_, rfl⟩
    rw [hpr] at CC HR
    clear hpr
    unfold StepV.val at CC
    simp only at CC HR
    have CC := hid CC
    have i3 : wa.cell? ⟨gi, 3, none⟩ = some (.int .i64 t) := HIA.out.cell 3
    go_wp2_with fail
    refine CC.out.mono ?_
    rintro en w1 ⟨rfl, hd1, hk1⟩
    have HD1 := hid hd1; have HK1 := hid hk1
    have HO1 := hid (hk1.blk HOA.out (fun hf => by have := HF.out _ hf; have := HG.out; omega))
    have HR1 := hid (hk1.blk HRA.out (fun hf => by have := HF.out _ hf; have := HG.out; omega))
    clear hd1 hk1 CC HIA HOA HRA
    obtain ⟨c0, c1, c2, c3, c4, c5, c6, c7, c8⟩ := fact9 HO1.out
    have ez2 := HO1.out.frozen 2; have ez3 := HO1.out.frozen 3; have ez4 := HO1.out.frozen 4; have ez5 := HO1.out.frozen 5; have ez6 := HO1.out.frozen 6; have ez7 := HO1.out.frozen 7; have ez8 := HO1.out.frozen 8
    have hlc := HO1.out.lt
    go_upto_region 13 with fail
    obtain ⟨wv, hwv⟩ : ∃ W, ((((((w1.setCell ⟨go, 2, none⟩ (.int .i64 s.tick)).setCell ⟨go, 3, none⟩ (.int .i64 (s.loc : Int))).setCell ⟨go, 4, none⟩ (.int .i64 (s.what : Int))).setCell ⟨go, 5, none⟩ (.int .i64 (s.arm : Int))).setCell ⟨go, 6, none⟩ (.int .i64 (s.n : Int))).setCell ⟨go, 7, none⟩ (.int .i64 (s.st : Int))).setCell ⟨go, 8, none⟩ (.bool dd) = W := ⟨_, rfl⟩
    have HXO : Hid (Blk wv go 72 #[.int .i64 0, .string ⟨#[]⟩, .int .i64 s.tick, .int .i64 (s.loc : Int), .int .i64 (s.what : Int), .int .i64 (s.arm : Int), .int .i64 (s.n : Int), .int .i64 (s.st : Int), .bool dd]) := by rw [← hwv]; exact (((((((HO1.out.set 2 _).set 3 _).set 4 _).set 5 _).set 6 _).set 7 _).set 8 _)
    have hko : Keep (fun k => k = go) w1 wv := by rw [← hwv]; exact ((set1_keep _ go 2 _).trans ((set1_keep _ go 3 _).trans ((set1_keep _ go 4 _).trans ((set1_keep _ go 5 _).trans ((set1_keep _ go 6 _).trans ((set1_keep _ go 7 _).trans (set1_keep _ go 8 _) (fun _ h => .inl h)) (fun _ h => .inl h)) (fun _ h => .inl h)) (fun _ h => .inl h)) (fun _ h => .inl h)) (fun _ h => .inl h))
    have HRV := hid (hko.blk HR1.out HNE.out)
    have HKO : Hid (Keep (fun k => k = gr ∨ k = go) w1 wv) := hko.mono (fun k _ e => .inr e)
    rw [hwv]
    clear hwv hko c0 c1 c2 c3 c4 c5 c6 c7 c8 ez2 ez3 ez4 ez5 ez6 ez7 ez8 hlc HO1 HR1
    obtain ⟨x0, x1, x2, x3, x4, x5, x6, x7, x8⟩ := fact9 HXO.out
    have hlx := HXO.out.lt
    obtain ⟨r0, r1, r2, r3, r4, r5, r6, r7, r8⟩ := fact9 HRV.out
    have z0 := HRV.out.frozen 0; have z1 := HRV.out.frozen 1; have z2 := HRV.out.frozen 2; have z3 := HRV.out.frozen 3; have z4 := HRV.out.frozen 4; have z5 := HRV.out.frozen 5; have z6 := HRV.out.frozen 6; have z7 := HRV.out.frozen 7; have z8 := HRV.out.frozen 8
    have hlr := HRV.out.lt
    go_wp2_with fail
    obtain ⟨wz, hwz⟩ : ∃ W, set9 wv gr (.int .i64 0) (.string ⟨#[]⟩) (.int .i64 s.tick) (.int .i64 (s.loc : Int)) (.int .i64 (s.what : Int)) (.int .i64 (s.arm : Int)) (.int .i64 (s.n : Int)) (.int .i64 (s.st : Int)) (.bool dd) = W := ⟨_, rfl⟩
    have KZ : Hid (Keep (fun k => k = gr) wv wz) := by rw [← hwz]; exact set9_keep _ _ _ _ _ _ _ _ _ _ _
    have BZ := set9_blk HRV.out (.int .i64 0) (.string ⟨#[]⟩) (.int .i64 s.tick) (.int .i64 (s.loc : Int)) (.int .i64 (s.what : Int)) (.int .i64 (s.arm : Int)) (.int .i64 (s.n : Int)) (.int .i64 (s.st : Int)) (.bool dd)
    rw [hwz] at BZ
    unfold set9 at hwz
    rw [hwz]
    clear hwz
    obtain ⟨t0, t1, t2, t3, t4, t5, t6, t7, t8⟩ := fact9 BZ
    have HDF : DialAt B (Fup F w wz) w0 wz d y ∧ Keep F w wz := TAIL.out w1 wz _ HD1.out HK1.out (HKO.out.trans KZ.out (fun k (e : k = gr) => .inl (.inl e)))
    refine bodyPost_ret (v := .agg #[.int .i64 0, .string ⟨#[]⟩, .int .i64 s.tick, .int .i64 (s.loc : Int), .int .i64 (s.what : Int), .int .i64 (s.arm : Int), .int .i64 (s.n : Int), .int .i64 (s.st : Int), .bool dd]) (by simp [results, Tryz.results64, go_sem, t0, t1, t2, t3, t4, t5, t6, t7, t8]) rfl ⟨?_, ?_, HDF.2⟩
    · rw [HR.out]; try rfl
    · rw [HR.out]; exact HDF.1
  have HSE := hid (HSE.out.trans (if_neg k5))
  have k5f : (k == 5) = false := by rw [beq_eq_false_iff_ne]; exact k5
  clear k5
  have HR := hid HSE.out
  have HD1 : Hid (DialAt B (Fup F wa wa) w0 wa d x) := DialAt.up HDA.out HDA.out.fin HDA.out.base (Nat.le_refl _)
  have HK1 : Hid (Keep F wa wa) := Keep.refl _ _
  have HXO := HOA; have HRV := HRA
  have HKO : Hid (Keep (fun k => k = gr ∨ k = go) wa wa) := Keep.refl _ _
  clear HSE HIA HOA HRA
  obtain ⟨x0, x1, x2, x3, x4, x5, x6, x7, x8⟩ := fact9 HXO.out
  have hlx := HXO.out.lt
  obtain ⟨r0, r1, r2, r3, r4, r5, r6, r7, r8⟩ := fact9 HRV.out
  have z0 := HRV.out.frozen 0; have z1 := HRV.out.frozen 1; have z2 := HRV.out.frozen 2; have z3 := HRV.out.frozen 3; have z4 := HRV.out.frozen 4; have z5 := HRV.out.frozen 5; have z6 := HRV.out.frozen 6; have z7 := HRV.out.frozen 7; have z8 := HRV.out.frozen 8
  have hlr := HRV.out.lt
  go_wp2_with fail
  obtain ⟨wz, hwz⟩ : ∃ W, set9 wa gr (.int .i64 0) (.string ⟨#[]⟩) (.int .i64 0) (.int .i64 0) (.int .i64 0) (.int .i64 0) (.int .i64 0) (.int .i64 0) (.bool false) = W := ⟨_, rfl⟩
  have KZ : Hid (Keep (fun k => k = gr) wa wz) := by rw [← hwz]; exact set9_keep _ _ _ _ _ _ _ _ _ _ _
  have BZ := set9_blk HRV.out (.int .i64 0) (.string ⟨#[]⟩) (.int .i64 0) (.int .i64 0) (.int .i64 0) (.int .i64 0) (.int .i64 0) (.int .i64 0) (.bool false)
  rw [hwz] at BZ
  unfold set9 at hwz
  rw [hwz]
  clear hwz
  obtain ⟨t0, t1, t2, t3, t4, t5, t6, t7, t8⟩ := fact9 BZ
  have HDF : DialAt B (Fup F w wz) w0 wz d x ∧ Keep F w wz := TAIL.out wa wz _ HD1.out HK1.out (HKO.out.trans KZ.out (fun k (e : k = gr) => .inl (.inl e)))
  refine bodyPost_ret (v := .agg #[.int .i64 0, .string ⟨#[]⟩, .int .i64 0, .int .i64 0, .int .i64 0, .int .i64 0, .int .i64 0, .int .i64 0, .bool false]) (by simp [results, Tryz.results64, go_sem, t0, t1, t2, t3, t4, t5, t6, t7, t8]) rfl ⟨?_, ?_, HDF.2⟩
  · rw [HR.out]; try rfl
  · rw [HR.out]; exact HDF.1
end
end Go.Proofs.YtemhdkmijfngnaaGreat
namespace Go.Proofs.YtemhdkmijfngnaaGreat
open Go.RowKit PopT

def inVCells (l : List InV) : List Value := l.flatMap InV.cells
theorem inVCells_length (l : List InV) : (inVCells l).length = l.length * 4 := by
  induction l with
  | nil => rfl
  | cons x l ih => simp only [inVCells, List.flatMap_cons, List.length_append, List.length_cons] at *; rw [ih]; simp [InV.cells]; omega
theorem inVCells_append (a b : List InV) : inVCells (a ++ b) = inVCells a ++ inVCells b := by simp [inVCells]
theorem inV_at (l : List InV) (i : Nat) (x : InV) (hi : l[i]? = some x) (j : Nat) (hj : j < 4) : (inVCells l)[i * 4 + j]? = x.cells[j]? := by
  induction l generalizing i with
  | nil => simp at hi
  | cons m l ih =>
    have e : inVCells (m :: l) = m.cells ++ inVCells l := rfl
    have hm : m.cells.length = 4 := rfl
    rw [e]
    cases i with
    | zero =>
      simp only [List.getElem?_cons_zero, Option.some.injEq] at hi
      subst hi
      rw [List.getElem?_append_left (by omega)]; simp
    | succ i =>
      rw [List.getElem?_append_right (by omega)]
      have e2 : (i + 1) * 4 + j - m.cells.length = i * 4 + j := by omega
      rw [e2]
      exact ih i (by simpa using hi)
def outVCells (l : List OutV) : List Value := l.flatMap OutV.cells
theorem outVCells_append (a b : List OutV) : outVCells (a ++ b) = outVCells a ++ outVCells b := by simp [outVCells]
theorem outVCells_length (l : List OutV) : (outVCells l).length = l.length * 9 := by
  induction l with
  | nil => rfl
  | cons x l ih => simp only [outVCells, List.flatMap_cons, List.length_append, List.length_cons] at *; rw [ih]; simp [OutV.cells]; omega
theorem outV_at (l : List OutV) (i : Nat) (x : OutV) (hi : l[i]? = some x) (j : Nat) (hj : j < 9) : (outVCells l)[i * 9 + j]? = x.cells[j]? := by
  induction l generalizing i with
  | nil => simp at hi
  | cons m l ih =>
    have e : outVCells (m :: l) = m.cells ++ outVCells l := rfl
    have hm : m.cells.length = 9 := rfl
    rw [e]
    cases i with
    | zero =>
      simp only [List.getElem?_cons_zero, Option.some.injEq] at hi
      subst hi
      rw [List.getElem?_append_left (by omega)]; simp
    | succ i =>
      rw [List.getElem?_append_right (by omega)]
      have e2 : (i + 1) * 9 + j - m.cells.length = i * 9 + j := by omega
      rw [e2]
      exact ih i (by simpa using hi)
/-- What inputs come to. -/
def runL (x : DialV) : List InV → List OutV
  | [] => []
  | i :: l => (x.one i).2 :: runL (x.one i).1 l
def runS (x : DialV) : List InV → DialV
  | [] => x
  | i :: l => runS (x.one i).1 l
theorem runL_append (x : DialV) (a b : List InV) : runL x (a ++ b) = runL x a ++ runL (runS x a) b := by
  induction a generalizing x with
  | nil => rfl
  | cons i a ih => simp only [List.cons_append, runL, runS, ih]
theorem runS_append (x : DialV) (a b : List InV) : runS x (a ++ b) = runS (runS x a) b := by
  induction a generalizing x with
  | nil => rfl
  | cons i a ih => simp only [List.cons_append, runS, ih]
theorem runL_length (x : DialV) (l : List InV) : (runL x l).length = l.length := by
  induction l generalizing x with
  | nil => rfl
  | cons i l ih => simp only [runL, List.length_cons, ih]
def runE (s : SetV) (p : ProgV) : Nat := if goodS s = false then 1 else if (wrongM p).2 ≠ 0 then 2 else 0
def runO (s : SetV) (p : ProgV) (now : Int) (l : List InV) : List OutV := if runE s p = 0 then runL ((newV s p now).come 0) l else []
theorem Tryz.infoOut : (Tryz.prog.info? 72).map (fun i => (i.zero, i.size, i.bytes)) = some (some (.agg #[.int .i64 0, .string ⟨#[]⟩, .int .i64 0, .int .i64 0, .int .i64 0, .int .i64 0, .int .i64 0, .int .i64 0, .bool false]), 9, 80) := by kernel_rfl
/-- A row of one's own, beside a dialogue. -/
theorem DialAt.own {B b1 d : Nat} {F : Nat → Prop} {w0 w w' : World} {x : DialV} {e : TypeId} {size n : Nat} {v : Value} {xs : List Value} (h : DialAt B F w0 w d x) (hB : B ≤ b1) (ho : w.ownsRow b1 e size v n xs) (hf : ∀ k, v.ownBlock = some k → ¬ F k) (hk : Keep (fun k => v.ownBlock = some k) w w') : DialAt B F w0 w' d x :=
  h.keep hk (fun k hk hv => hf k hv hk) (fun k hv => Nat.le_trans hB (ho.lt k hv).1)

set_option maxRecDepth 20000 in
set_option maxHeartbeats 16000000 in
theorem soloRun_any (s : SetV) (p : ProgV) (A : Option Addr) (c b0 : Nat) (now : Int) (AL : Option Addr) (n cl : Nat) (l : List InV) (w : World) (hin : OpsOwn b0 w (.slice A p.ops.length c) p.ops) (hok : ProgOk p) (hnow : I6 now)
    (hl : l.length = n) (hi : ∀ i ∈ l, i.ok) (hn : n ≤ 1000) (hr : Rd w AL (inVCells l)) :
    Calls Tryz.prog 29 #[s.val, p.val (.slice A p.ops.length c), .int .i64 now, .slice AL n cl] w fun e w' => ∃ A' c', e = .returned (.tuple #[.slice A' (runO s p now l).length c', .int .i64 (runE s p : Int)]) ∧
      w'.ownsRow w.heap.size 72 9 (.slice A' (runO s p now l).length c') (runO s p now l).length (outVCells (runO s p now l)) ∧ Below w.heap.size w w' := by
  have HCN : Hid (∀ W, Below w.heap.size w W → Calls Tryz.prog 49 #[s.val, p.val (.slice A p.ops.length c), .int .i64 now] W fun e w' => newPost W (goodS s) (wrongM p).2 (newV s p now) e w') := fun W hb => dNew_any s p A c b0 now W (hin.below hb (Nat.le_refl _)) hok hnow
  have HFT : Hid (goodS s = true → (wrongM p).2 = 0 → Fit ((newV s p now).come 0)) := fun h1 h2 => fit_new (newV_ok s p now h1 h2 hok hnow)
  have HR : Hid (runO s p now l = if runE s p = 0 then runL ((newV s p now).come 0) l else []) := rfl
  have HE : Hid (runE s p = if goodS s = false then 1 else if (wrongM p).2 ≠ 0 then 2 else 0) := rfl
  obtain ⟨R, hR⟩ : ∃ y, runO s p now l = y := ⟨_, rfl⟩
  obtain ⟨er, her⟩ : ∃ y, runE s p = y := ⟨_, rfl⟩
  obtain ⟨gs, hgs⟩ : ∃ y, goodS s = y := ⟨_, rfl⟩
  obtain ⟨pw, hpw⟩ : ∃ y, (wrongM p).2 = y := ⟨_, rfl⟩
  obtain ⟨nv, hnv⟩ : ∃ y, newV s p now = y := ⟨_, rfl⟩
  rw [hR, her, hnv] at HR
  rw [her, hgs, hpw] at HE
  rw [hR, her]
  rw [hgs, hpw, hnv] at HCN HFT
  obtain ⟨m, hm⟩ : ∃ y, p.ops.length = y := ⟨_, rfl⟩
  rw [hm] at HCN ⊢
  clear hR her hgs hpw hnv hm hin hok hnow
  obtain ⟨lv, rg, wn, ou, qu, vi⟩ := s
  obtain ⟨nm, dl, jp, ops⟩ := p
  unfold SetV.val ProgV.val at HCN ⊢
  simp only at HCN ⊢
  have HL := hid hl; have HI := hid hi; have HRD := hid hr
  clear hl hi hr
  obtain ⟨wa, hwa⟩ : ∃ W, (w.alloc (.cells #[.int .i64 lv, .int .i64 rg, .int .i64 wn, .int .i64 ou, .int .i64 qu, .int .i64 vi] 23)).alloc (.cells #[.string nm, .int .i64 dl, .int .i64 jp, .slice A m c] 26) = W := ⟨_, rfl⟩
  have HBA : Hid (Below w.heap.size w wa) := by rw [← hwa]; exact below2 _ _ _
  have HSA : Hid (Blk wa w.heap.size 23 #[.int .i64 lv, .int .i64 rg, .int .i64 wn, .int .i64 ou, .int .i64 qu, .int .i64 vi]) := by rw [← hwa]; exact (Blk.new w _ _).alloc _
  have HPA : Hid (Blk wa (w.heap.size + 1) 26 #[.string nm, .int .i64 dl, .int .i64 jp, .slice A m c]) := by rw [← hwa]; exact new2 _ _ _ _
  have HWA := hid hwa
  clear hwa
  obtain ⟨gx, hgx⟩ : ∃ y, w.heap.size = y := ⟨_, rfl⟩
  have HGX := hid hgx
  rw [hgx] at HSA HPA
  clear hgx
  have CN := hid (HCN.out wa HBA.out)
  obtain ⟨x0, x1, x2, x3, x4, x5⟩ := fact6 HSA.out
  obtain ⟨p0, p1, p2, p3⟩ := fact4 HPA.out
  have hlx := HSA.out.lt; have hlp := HPA.out.lt
  go_enter Tryz.func29, Tryz.ntmps29
  go_upto_region 1 with fail
  rw [HWA.out, HGX.out]
  clear HWA HCN
  go_wp2_with fail
  refine CN.out.mono ?_
  intro en w1 hq
  unfold newPost at hq
  obtain ⟨hb, hq⟩ := hq
  have HB1 : Hid (Below w.heap.size w w1) := HBA.out.trans (hb.mono HBA.out.size)
  have HBS : Hid (w.heap.size ≤ wa.heap.size) := HBA.out.size
  clear hb x0 x1 x2 x3 x4 x5 p0 p1 p2 p3 hlx hlp HSA HPA HBA CN
  cases gs
  · rw [if_pos rfl] at hq
    subst hq
    have her : er = 1 := HE.out
    have hRR : R = [] := by rw [HR.out, her]; rfl
    subst her
    have HRR := hid hRR
    clear hRR HR HE
    go_wp2_with fail
    go_ret2
    rw [HRR.out]
    exact ⟨none, 0, rfl, World.ownsRow_nil _ _ _ _, HB1.out⟩
  rw [if_neg (by decide)] at hq
  have HE := hid (HE.out.trans (if_neg (by decide)))
  by_cases hpw : pw ≠ 0
  · rw [if_pos hpw] at hq
    subst hq
    have her : er = 2 := HE.out.trans (if_pos hpw)
    have hRR : R = [] := by rw [HR.out, her]; rfl
    subst her
    have HRR := hid hRR
    clear hRR HR HE hpw
    go_wp2_with fail
    go_ret2
    rw [HRR.out]
    exact ⟨none, 0, rfl, World.ownsRow_nil _ _ _ _, HB1.out⟩
  rw [if_neg hpw] at hq
  have her : er = 0 := HE.out.trans (if_neg hpw)
  subst her
  have HRF := hid (HR.out.trans (if_pos rfl))
  clear HR
  have hpw0 : pw = 0 := by omega
  subst hpw0
  have HF0 := hid (HFT.out (by first | rfl | trivial) (by first | rfl | trivial))
  obtain ⟨w0, d, B, F, rfl, hB, hd⟩ := hq
  have HD := hid hd
  obtain ⟨x, hx⟩ : ∃ y, nv.come 0 = y := ⟨_, rfl⟩
  rw [hx] at HD HRF HF0
  have HBB : Hid (w.heap.size ≤ B ∧ B ≤ w1.heap.size) := ⟨Nat.le_trans HBS.out hB, hd.base⟩
  clear hx hd hB hpw HE HFT HBS
  obtain ⟨b1, hb1⟩ : ∃ y, w1.heap.size = y := ⟨_, rfl⟩
  have HBB1 : Hid (w.heap.size ≤ b1 ∧ B ≤ b1) := by rw [← hb1]; exact ⟨HB1.out.size, HBB.out.2⟩
  have HRB : Hid (∀ W, Below w.heap.size w W → Rd W AL (inVCells l)) := fun W hb => HRD.out.below hb
  go_wp2_with fail
  go_loopw [27, 12] (fun iv ov wr => ∃ (i c' : Nat) (A' : Option Addr) (F' : Nat → Prop), i ≤ n ∧ iv = .int .i64 (i : Int) ∧ ov = .slice A' i c' ∧ b1 ≤ wr.heap.size ∧ Below w.heap.size w wr ∧ wr.ownsRow b1 72 9 (.slice A' i c') i (outVCells (runL x (l.take i))) ∧
      DialAt B F' w0 wr d (runS x (l.take i)) ∧ Fit (runS x (l.take i)) ∧ (∀ k, (Value.slice A' i c').ownBlock = some k → ¬ F' k)) (fun iv _ _ => n - (intOf iv).toNat)
  case atStart => exact ⟨0, 0, none, F, by omega, rfl, rfl, by rw [← hb1]; exact Nat.le_refl _, HB1.out, World.ownsRow_nil _ _ _ _, HD.out, HF0.out, fun k hk => by cases hk⟩
  case round =>
    obtain ⟨i, c', A', F', hi, rfl, rfl, hsz, hb, hown, hd, hf, hnf⟩ := hrel
    have HB := hid hb; have HO := hid hown; have HDD := hid hd; have HFI := hid hf; have HNF := hid hnf; have HSZ := hid hsz
    clear hb hown hd hf hnf hsz HB1 HD HF0
    by_cases hlt : i < n
    · have hli : i < l.length := by rw [HL.out]; exact hlt
      have hget : l[i]? = some (l[i]'hli) := List.getElem?_eq_getElem hli
      have hTK : l.take (i + 1) = l.take i ++ [l[i]'hli] := by rw [List.take_succ_eq_append_getElem hli]
      have hII := HI.out _ (List.getElem_mem hli)
      obtain ⟨iv, hiv⟩ : ∃ y, l[i]'hli = y := ⟨_, rfl⟩
      rw [hiv] at hget hTK hII
      have HTL : Hid (runL x (l.take (i + 1)) = runL x (l.take i) ++ [((runS x (l.take i)).one iv).2]) := by rw [Hid, hTK, runL_append]; rfl
      have HTS : Hid (runS x (l.take (i + 1)) = ((runS x (l.take i)).one iv).1) := by rw [Hid, hTK, runS_append]; rfl
      obtain ⟨bl, off, rfl, hbl, hcc⟩ := (HRB.out wr HB.out).at (by rw [inVCells_length]; omega)
      have hc : ∀ j u, j < 4 → iv.cells[j]? = some u → wr.cell? ⟨bl, off + (i * 4 + j), none⟩ = some u := fun j u hj hu => hcc _ u ((inV_at l i iv hget j hj).trans hu)
      have HFN : Hid (Fit ((runS x (l.take i)).one iv).1) := fit_one HDD.out.ok HFI.out iv hII
      have HON : Hid (∀ W, Below wr.heap.size wr W → Calls Tryz.prog 64 #[.pointer (some ⟨d, 0, none⟩), iv.val] W fun e w' => e = .returned ((runS x (l.take i)).one iv).2.val ∧ DialAt B (Fup F' W w') w0 w' d ((runS x (l.take i)).one iv).1 ∧ Keep F' W w') := fun W hb => soloOne_any (HDD.out.below hb) HFI.out iv hII
      obtain ⟨⟨y, ou⟩, hou⟩ : ∃ y, (runS x (l.take i)).one iv = y := ⟨_, rfl⟩
      rw [hou] at HTL HTS HON HFN
      obtain ⟨ik, ib, inn, it⟩ := iv
      have c0 := hc 0 _ (by omega) rfl
      have c1 := hc 1 _ (by omega) rfl
      have c2 := hc 2 _ (by omega) rfl
      have c3 := hc 3 _ (by omega) rfl
      simp only [Nat.add_zero, ← Nat.add_assoc] at c0 c1 c2 c3
      obtain ⟨on, ob, ot, ol, ow, oa, om, os, od⟩ := ou
      unfold InV.val OutV.val at HON
      simp only at HON HTL HTS HFN
      have hi2 : (i : Int) < (n : Int) := by omega
      clear hget hTK hII hiv hou hc hcc hli
      go_upto_region 8 with fail
      obtain ⟨w2, hw2⟩ : ∃ W, wr.alloc (.cells #[.int .i64 ik, .string ib, .int .i64 inn, .int .i64 it] 46) = W := ⟨_, rfl⟩
      have HI2 : Hid (Blk w2 wr.heap.size 46 #[.int .i64 ik, .string ib, .int .i64 inn, .int .i64 it]) := by rw [← hw2]; exact Blk.new _ _ _
      have HB2 : Hid (Below wr.heap.size wr w2) := by rw [← hw2]; exact (Below.refl _ _).alloc (Nat.le_refl _) _
      rw [hw2]
      clear hw2 c0 c1 c2 c3 hbl
      have CO := hid (HON.out w2 HB2.out)
      have HO2 := hid (own_below HO.out HB2.out)
      have HSW : Hid (wr.heap.size ≤ w2.heap.size) := HB2.out.size
      have HB3 := hid (HB.out.trans (HB2.out.mono HB.out.size))
      have HLT := hid (fun k hk => (HO.out.lt k hk).2)
      have HD2 := hid (HDD.out.below HB2.out)
      obtain ⟨gi, hgi⟩ : ∃ y, wr.heap.size = y := ⟨_, rfl⟩
      rw [hgi] at HI2 ⊢
      obtain ⟨i0, i1, i2, i3⟩ := fact4 HI2.out
      have hlI := HI2.out.lt
      clear hgi HON HB HO HDD HB2
      go_wp2_with fail
      refine CO.out.mono ?_
      rintro en w3 ⟨rfl, hd3, hk3⟩
      have HD3 := hid hd3
      have HO3 : Hid (w3.ownsRow b1 72 9 (.slice A' i c') i (outVCells (runL x (l.take i)))) := hk3.own HO2.out (fun k hv hf => HNF.out k hv hf)
      have HB4 : Hid (Below w.heap.size w w3) := HB3.out.trans ((HD2.out.under hk3).mono HBB.out.1)
      have HN3 : Hid (∀ k, (Value.slice A' i c').ownBlock = some k → ¬ Fup F' w2 w3 k) := fun k hk hf => hf.elim (HNF.out k hk) (fun h => by have := HLT.out k hk; have := HSW.out; omega)
      have hs3 : b1 ≤ w3.heap.size := Nat.le_trans HSZ.out (Nat.le_trans HSW.out hk3.size)
      clear hd3 hk3 CO i0 i1 i2 i3 hlI HI2 HO2 HD2 HNF HLT HB3
      go_wp2_with (at_builtin; refine wpList_append1K _ rfl _ _ 63 rfl b1 72 _ 9 80 Tryz.underlying63 Tryz.infoOut rfl (by decide) _ _ _ rfl HO3.out 1 [.int .i64 on, .string ob, .int .i64 ot, .int .i64 ol, .int .i64 ow, .int .i64 oa, .int .i64 om, .int .i64 os, .bool od] rfl rfl rfl ?_ (by decide) hs3 ?_)
      · omega
      intro g5 c5 w5 hown5 hk5 hf5
      have HO5 : Hid (w5.ownsRow b1 72 9 (.slice (some ⟨g5, 0, none⟩) (i + 1) c5) (i + 1) (outVCells (runL x (l.take (i + 1))))) := by
        rw [Hid, HTL.out, outVCells_append]; exact hown5
      have HD5 : Hid (DialAt B (Fup F' w2 w3) w0 w5 d (runS x (l.take (i + 1)))) := by rw [Hid, HTS.out]; exact HD3.out.own HBB1.out.2 HO3.out HN3.out hk5
      have HF5 : Hid (Fit (runS x (l.take (i + 1)))) := by rw [Hid, HTS.out]; exact HFN.out
      have HN5 : Hid (∀ k, (Value.slice (some ⟨g5, 0, none⟩) (i + 1) c5).ownBlock = some k → ¬ Fup F' w2 w3 k) := by
        intro k hk hf
        have hk' : g5 = k := by injection hk
        subst hk'
        rcases hf5 with h | h
        · exact HN3.out _ h hf
        · have := (HD3.out.fin _ hf).2; omega
      have HB5 : Hid (Below w.heap.size w w5) := HB4.out.trans (hk5.below HB4.out.size (fun k hk => Nat.le_trans HBB1.out.1 (HO3.out.lt k hk).1))
      have HS5 : Hid (b1 ≤ w5.heap.size) := Nat.le_trans hs3 hk5.size
      clear hown5 hk5 hf5 HD3 HO3 HB4 HN3 hs3 HTL HTS HFN HSW HSZ HFI
      go_wp2_with fail
      go_roundw
      case rel => exact ⟨i + 1, c5, some ⟨g5, 0, none⟩, Fup F' w2 w3, by omega, by go_num, rfl, HS5.out, HB5.out, HO5.out, HD5.out, HF5.out, HN5.out⟩
      case measure => simp [intOf]; omega
    · have hin : i = n := by omega
      have hi2 : ¬ (i : Int) < (n : Int) := by omega
      have HRN : Hid (R = runL x (l.take i) ∧ R.length = i) := by
        have e : l.take i = l := List.take_of_length_le (by rw [HL.out]; omega)
        rw [e]
        exact ⟨HRF.out, by rw [HRF.out, runL_length, HL.out, hin]⟩
      clear hin
      go_wp2_with fail
      go_ret2
      rw [HRN.out.2, HRN.out.1]
      exact ⟨A', c', rfl, own_base HO.out HBB1.out.1, HB.out⟩
end Go.Proofs.YtemhdkmijfngnaaGreat
