/- Walks: package solo: one. Walks: package solo: Run. -/
import Derived.Test.YtpkkfdmhbbipoaaGreatDl
namespace Go.Proofs.YtpkkfdmhbbipoaaGreat
set_option maxRecDepth 20000
set_option maxHeartbeats 16000000
open Go.RowKit PopT
structure InV where
 kind : Int
 b : ByteArray
 n : Int
 tick : Int
def InV.val (i : InV) : Value := .agg #[i.kind, i.b, i.n, i.tick]
def InV.cells (i : InV) : List Value := [i.kind, i.b, i.n, i.tick]
def InV.ok (i : InV) : Prop := i.b.size ≤ 9223372036854775807 ∧ I6 i.n ∧ I6 i.tick
structure Ub where
 n : Int
 b : ByteArray
 t : Int
 loc : Int
 what : Int
 arm : Int
 m : Int
 st : Int
 did : Bool
 deriving DecidableEq
def Ub.val (o : Ub) : Value := .agg #[o.n, o.b, o.t, o.loc, o.what, o.arm, o.m, o.st, o.did]
def Ub.cells (o : Ub) : List Value := [o.n, o.b, o.t, o.loc, o.what, o.arm, o.m, o.st, o.did]
def Zh9 : Ub := ⟨0, ⟨#[]⟩, 0, 0, 0, 0, 0, 0, false⟩
def Zqh (s : Qa) (did : Bool) : Ub := ⟨0, ⟨#[]⟩, s.tick, s.loc, s.what, s.arm, s.n, s.st, did⟩
def Zf.one (x : Zf) (i : InV) : Zf × Ub :=
 if i.kind = 1 then ((x.put i.b).1, ⟨((x.put i.b).2 : Nat), ⟨#[]⟩, 0, 0, 0, 0, 0, 0, false⟩)
 else if i.kind = 2 then (x.ends, ⟨0, ⟨#[]⟩, 0, 0, 0, 0, 0, 0, decide (x.st = 0) && !x.eof⟩)
 else if i.kind = 3 then (x.take i.n, ⟨0, x.took i.n, 0, 0, 0, 0, 0, 0, false⟩)
 else if i.kind = 4 then (x.cuts i.tick, Zh9)
 else if i.kind = 5 then ((x.step i.tick).1, Zqh (x.step i.tick).2.1 (x.step i.tick).2.2)
 else (x, Zh9)
theorem Zmg {x : Zf} (h : Ys x) (hf : Fit x) (i : InV) (hi : i.ok) : Fit (x.one i).1 := by
 unfold Zf.one;split
 ·exact Zq2 hf _
 ·split
  ·exact Zpv hf
  ·split
   ·exact Zpr hf _
   ·split
    ·exact Zpx hf _
    ·split
     ·exact Zps h hf _ hi.2.2.2
     ·exact hf
def Zbc (w : World) (g : Nat) (a0 a1 a2 a3 a4 a5 a6 a7 a8 : Value) : World := ((((((((w.setCell ⟨g, 0, none⟩ a0).setCell ⟨g, 1, none⟩ a1).setCell ⟨g, 2, none⟩ a2).setCell ⟨g, 3, none⟩ a3).setCell ⟨g, 4, none⟩ a4).setCell ⟨g, 5, none⟩ a5).setCell ⟨g, 6, none⟩ a6).setCell ⟨g, 7, none⟩ a7).setCell ⟨g, 8, none⟩ a8
theorem Ge {w : World} {g : Nat} {t : TypeId} {x0 x1 x2 x3 x4 x5 x6 x7 x8 : Value} (h : Blk w g t #[x0, x1, x2, x3, x4, x5, x6, x7, x8]) (a0 a1 a2 a3 a4 a5 a6 a7 a8 : Value) : Blk (Zbc w g a0 a1 a2 a3 a4 a5 a6 a7 a8) g t #[a0, a1, a2, a3, a4, a5, a6, a7, a8] := by
 have h0 : Blk _ g t #[a0, x1, x2, x3, x4, x5, x6, x7, x8] := h.set 0 a0;have h1 : Blk _ g t #[a0, a1, x2, x3, x4, x5, x6, x7, x8] := h0.set 1 a1;have h2 : Blk _ g t #[a0, a1, a2, x3, x4, x5, x6, x7, x8] := h1.set 2 a2;have h3 : Blk _ g t #[a0, a1, a2, a3, x4, x5, x6, x7, x8] := h2.set 3 a3;have h4 : Blk _ g t #[a0, a1, a2, a3, a4, x5, x6, x7, x8] := h3.set 4 a4;have h5 : Blk _ g t #[a0, a1, a2, a3, a4, a5, x6, x7, x8] := h4.set 5 a5;have h6 : Blk _ g t #[a0, a1, a2, a3, a4, a5, a6, x7, x8] := h5.set 6 a6;have h7 : Blk _ g t #[a0, a1, a2, a3, a4, a5, a6, a7, x8] := h6.set 7 a7;have h8 : Blk _ g t #[a0, a1, a2, a3, a4, a5, a6, a7, a8] := h7.set 8 a8;exact h8
theorem Jr (w : World) (g : Nat) (a0 a1 a2 a3 a4 a5 a6 a7 a8 : Value) : Za (fun k => k = g) w (Zbc w g a0 a1 a2 a3 a4 a5 a6 a7 a8) :=
 (Zy _ g 0 a0).trans ((Zy _ g 1 a1).trans ((Zy _ g 2 a2).trans ((Zy _ g 3 a3).trans ((Zy _ g 4 a4).trans ((Zy _ g 5 a5).trans ((Zy _ g 6 a6).trans ((Zy _ g 7 a7).trans (Zy _ g 8 a8) (fun _ h => .inl h)) (fun _ h => .inl h)) (fun _ h => .inl h)) (fun _ h => .inl h)) (fun _ h => .inl h)) (fun _ h => .inl h)) (fun _ h => .inl h)) (fun _ h => .inl h)
theorem Qn {w : World} {g : Nat} {t : TypeId} {x0 x1 x2 x3 x4 x5 x6 x7 x8 : Value} (h : Blk w g t #[x0, x1, x2, x3, x4, x5, x6, x7, x8]) : w.cell? ⟨g, 0, none⟩ = some x0 ∧ w.cell? ⟨g, 1, none⟩ = some x1 ∧ w.cell? ⟨g, 2, none⟩ = some x2 ∧ w.cell? ⟨g, 3, none⟩ = some x3 ∧ w.cell? ⟨g, 4, none⟩ = some x4 ∧ w.cell? ⟨g, 5, none⟩ = some x5 ∧ w.cell? ⟨g, 6, none⟩ = some x6 ∧ w.cell? ⟨g, 7, none⟩ = some x7 ∧ w.cell? ⟨g, 8, none⟩ = some x8 :=
 ⟨h.cell 0, h.cell 1, h.cell 2, h.cell 3, h.cell 4, h.cell 5, h.cell 6, h.cell 7, h.cell 8⟩
section
variable {B d : Nat} {F : Nat → Prop} {w0 w : World} {x : Zf}
theorem N50{P:Prop}(h:P:=by
 refine bodyPost_ret (v := .agg #[.int .i64 0, .string ⟨#[]⟩, .int .i64 0, .int .i64 0, .int .i64 0, .int .i64 0, .int .i64 0, .int .i64 0, .bool false]) bc rfl ⟨?_, ?_, HDF.2⟩
 ·rw [HR.out]; try rfl
 ·rw [HR.out]; exact HDF.1):P:=h
theorem Zdp (h : Zl B F w0 w d x) (hf : Fit x) (i : InV) (hi : i.ok) : Calls Tryz.prog 80 #[.pointer (some ⟨d, 0, none⟩), i.val] w fun e w' => e = .returned (x.one i).2.val ∧ Zl B (Fup F w w') w0 w' d (x.one i).1 ∧ Za F w w' := by
 have HF : Hid (∀ k, F k → B ≤ k ∧ k < w.heap.size) := h.fin;have HB : Hid (B ≤ w.heap.size) := h.base;have HFT := hid hf
 have HSE : Hid (x.one i = if i.kind = 1 then ((x.put i.b).1, ⟨((x.put i.b).2 : Nat), ⟨#[]⟩, 0, 0, 0, 0, 0, 0, false⟩)
  else if i.kind = 2 then (x.ends, ⟨0, ⟨#[]⟩, 0, 0, 0, 0, 0, 0, decide (x.st = 0) && !x.eof⟩)
  else if i.kind = 3 then (x.take i.n, ⟨0, x.took i.n, 0, 0, 0, 0, 0, 0, false⟩)
  else if i.kind = 4 then (x.cuts i.tick, Zh9)
  else if i.kind = 5 then ((x.step i.tick).1, Zqh (x.step i.tick).2.1 (x.step i.tick).2.2)
  else (x, Zh9)) := rfl
 obtain ⟨R, hR⟩ := nE (x.one i);rw [hR] at HSE ⊢;have HI := hid hi;obtain ⟨k, b, n, t⟩ := i;simp only at HSE;unfold InV.val;simp only;clear hR hf hi;obtain ⟨wa, hwa⟩ := nE (((w.alloc (.cells #[k, b, n, t] 46)).alloc (.cells #[.int .i64 0, .string ⟨#[]⟩, .int .i64 0, .int .i64 0, .int .i64 0, .int .i64 0, .int .i64 0, .int .i64 0, .bool false] 118)).alloc (.cells #[.int .i64 0, .string ⟨#[]⟩, .int .i64 0, .int .i64 0, .int .i64 0, .int .i64 0, .int .i64 0, .int .i64 0, .bool false] 118));have HBA : Hid (Below w.heap.size w wa) := hwa ▸ Qq _ _ _ _;have HIA : Hid (Blk wa w.heap.size 46 #[k, b, n, t]) := hwa ▸ ((Blk.new w _ _).alloc _).alloc _;have HRA : Hid (Blk wa (w.heap.size + 1) 118 #[.int .i64 0, .string ⟨#[]⟩, .int .i64 0, .int .i64 0, .int .i64 0, .int .i64 0, .int .i64 0, .int .i64 0, .bool false]) := hwa ▸ (Gz _ _ _ _).alloc _;have HOA : Hid (Blk wa (w.heap.size + 2) 118 #[.int .i64 0, .string ⟨#[]⟩, .int .i64 0, .int .i64 0, .int .i64 0, .int .i64 0, .int .i64 0, .int .i64 0, .bool false]) := hwa ▸ Zj4 _ _ _ _ _;have HWA := hid hwa;have HDA := hid (h.below HBA.out);clear hwa h;go_enter Tryz.func80, Tryz.ntmps80;go_upto_region 2 with fail;have e2 : w.heap.size + 1 + 1 = w.heap.size + 2 := rfl
 try rw [e2]
 rw [HWA.out];clear e2;obtain ⟨gi, hgi⟩ := nE (w.heap.size);have HGI := hid hgi;rw [hgi] at HIA HRA HOA ⊢;clear hgi HWA;obtain ⟨gr, hgr⟩ := nE (gi + 1);obtain ⟨go, hgo⟩ := nE (gi + 2);rw [hgr] at HRA ⊢;rw [hgo] at HOA ⊢;have HG : Hid (w.heap.size = gi ∧ gi + 1 = gr ∧ gi + 2 = go ∧ go < wa.heap.size) := ⟨HGI.out, hgr, hgo, HOA.lt⟩;clear hgr hgo HGI;have HNF : Hid (¬ F gr ∧ ¬ F go) := ⟨fun hf => al, fun hf => al⟩;have HKA : Hid (Za F w wa) := Za.of_below HBA.out;have HSA : Hid (gr < wa.heap.size ∧ go < wa.heap.size) := ⟨HRA.lt, HOA.lt⟩
 -- what follows a call that leaves the dialogue
 have TAIL : Hid (∀ w1 w2 y, Zl B (Fup F wa w1) w0 w1 d y → Za F wa w1 → Za (fun k => k = gr ∨ k = go) w1 w2 → Zl B (Fup F w w2) w0 w2 d y ∧ Za F w w2) := fun w1 w2 y h1 h2 h3 =>
  Qr HF.out HB.out (fun k hk => .inl hk) HKA.out h1 h2 h3 (fun k hk => by
   rcases hk with e | e
   ·rw [e]; exact ⟨ai, HSA.1, HNF.1⟩
   ·rw [e]; exact ⟨ai, HSA.2, HNF.2⟩)
 have HNE : Hid (gr ≠ go) := by have := HG.out; rw [Hid]; omega
 have i0 := cA HIA.out 0 k rfl;have hli := HIA.lt;clear HNF HSA HKA;by_cases k1 : k = 1
 ·subst k1
  have HR := hid (HSE.trans (if_pos rfl));clear HSE;have CC := hid (Zsm HDA.out b HI.1);obtain ⟨pr, hpr⟩ := nE (x.put b);rw [hpr] at CC HR;clear hpr;have i1 := cA HIA.out 1 b rfl;go_wp2_with fail;refine CC.mono ?_;rintro en w1 ⟨rfl, hd1, hk1⟩;have HD1 := hid hd1; have HK1 := hid hk1;have HO1 := hid (hk1.blk HOA.out (fun hf => al));have HR1 := hid (hk1.blk HRA.out (fun hf => al));clear hd1 hk1 CC HIA HOA HRA;have ec := HO1.frozen 0;obtain ⟨yc, eg⟩ := HO1.some 0 ah;have hlc := HO1.lt;go_upto_region 13 with fail;obtain ⟨wv, hwv, hxo, hko⟩ := Blk.put HO1.out 0 (.int .i64 (pr.2 : Int));rw [hwv];have HXO : Hid (Blk wv go 118 #[(pr.2 : Int), .string ⟨#[]⟩, .int .i64 0, .int .i64 0, .int .i64 0, .int .i64 0, .int .i64 0, .int .i64 0, .bool false]) := hxo;have HRV := hid (hko.out.blk HR1.out HNE.out);have HKO : Hid (Za (fun k => k = gr ∨ k = go) w1 wv) := hko.out.mono (fun k _ e => .inr e);clear hwv hxo hko ec eg hlc HO1 HR1;obtain ⟨x0, x1, x2, x3, x4, x5, x6, x7, x8⟩ := Qn HXO.out;have hlx := HXO.lt;obtain ⟨r0, r1, r2, r3, r4, r5, r6, r7, r8⟩ := Qn HRV.out;have z0 := HRV.frozen 0; have z1 := HRV.frozen 1; have z2 := HRV.frozen 2; have z3 := HRV.frozen 3; have z4 := HRV.frozen 4; have z5 := HRV.frozen 5; have z6 := HRV.frozen 6; have z7 := HRV.frozen 7; have z8 := HRV.frozen 8;have hlr := HRV.lt;go_wp2_with fail;obtain ⟨wz, hwz⟩ := nE (Zbc wv gr (.int .i64 (pr.2 : Int)) (.string ⟨#[]⟩) (.int .i64 0) (.int .i64 0) (.int .i64 0) (.int .i64 0) (.int .i64 0) (.int .i64 0) (.bool false));have KZ : Hid (Za (fun k => k = gr) wv wz) := hwz ▸ Jr _ _ _ _ _ _ _ _ _ _ _;have BZ := Ge HRV.out (.int .i64 (pr.2 : Int)) (.string ⟨#[]⟩) (.int .i64 0) (.int .i64 0) (.int .i64 0) (.int .i64 0) (.int .i64 0) (.int .i64 0) (.bool false);rw [hwz] at BZ;unfold Zbc at hwz;rw [hwz];clear hwz;obtain ⟨t0, t1, t2, t3, t4, t5, t6, t7, t8⟩ := Qn BZ;have HDF : Zl B (Fup F w wz) w0 wz d pr.1 ∧ Za F w wz := TAIL.out w1 wz _ HD1.out HK1.out (HKO.trans KZ.out (fun k (e : k = gr) => .inl (.inl e)));refine bodyPost_ret (v := .agg #[(pr.2 : Int), .string ⟨#[]⟩, .int .i64 0, .int .i64 0, .int .i64 0, .int .i64 0, .int .i64 0, .int .i64 0, .bool false]) bc rfl ⟨?_, ?_, HDF.2⟩
  ·rw [HR.out]; try rfl
  ·rw [HR.out]; exact HDF.1
 have HSE := hid (HSE.trans (if_neg k1));have k1f := bF k1;clear k1;by_cases k2 : k = 2
 ·subst k2
  have HR := hid (HSE.trans (if_pos rfl));clear HSE;have CC := hid (Zsn HDA.out);obtain ⟨pr, hpr⟩ := nE ((decide (x.st = 0) && !x.eof));rw [hpr] at CC HR;clear hpr;go_wp2_with fail;refine CC.mono ?_;rintro en w1 ⟨rfl, hd1, hk1⟩;have HD1 := hid hd1; have HK1 := hid hk1;have HO1 := hid (hk1.blk HOA.out (fun hf => al));have HR1 := hid (hk1.blk HRA.out (fun hf => al));clear hd1 hk1 CC HIA HOA HRA;have ec := HO1.frozen 8;obtain ⟨yc, eg⟩ := HO1.some 8 ah;have hlc := HO1.lt;go_upto_region 13 with fail;obtain ⟨wv, hwv, hxo, hko⟩ := Blk.put HO1.out 8 (.bool pr);rw [hwv];have HXO : Hid (Blk wv go 118 #[.int .i64 0, .string ⟨#[]⟩, .int .i64 0, .int .i64 0, .int .i64 0, .int .i64 0, .int .i64 0, .int .i64 0, pr]) := hxo;have HRV := hid (hko.out.blk HR1.out HNE.out);have HKO : Hid (Za (fun k => k = gr ∨ k = go) w1 wv) := hko.out.mono (fun k _ e => .inr e);clear hwv hxo hko ec eg hlc HO1 HR1;obtain ⟨x0, x1, x2, x3, x4, x5, x6, x7, x8⟩ := Qn HXO.out;have hlx := HXO.lt;obtain ⟨r0, r1, r2, r3, r4, r5, r6, r7, r8⟩ := Qn HRV.out;have z0 := HRV.frozen 0; have z1 := HRV.frozen 1; have z2 := HRV.frozen 2; have z3 := HRV.frozen 3; have z4 := HRV.frozen 4; have z5 := HRV.frozen 5; have z6 := HRV.frozen 6; have z7 := HRV.frozen 7; have z8 := HRV.frozen 8;have hlr := HRV.lt;go_wp2_with fail;obtain ⟨wz, hwz⟩ := nE (Zbc wv gr (.int .i64 0) (.string ⟨#[]⟩) (.int .i64 0) (.int .i64 0) (.int .i64 0) (.int .i64 0) (.int .i64 0) (.int .i64 0) (.bool pr));have KZ : Hid (Za (fun k => k = gr) wv wz) := hwz ▸ Jr _ _ _ _ _ _ _ _ _ _ _;have BZ := Ge HRV.out (.int .i64 0) (.string ⟨#[]⟩) (.int .i64 0) (.int .i64 0) (.int .i64 0) (.int .i64 0) (.int .i64 0) (.int .i64 0) (.bool pr);rw [hwz] at BZ;unfold Zbc at hwz;rw [hwz];clear hwz;obtain ⟨t0, t1, t2, t3, t4, t5, t6, t7, t8⟩ := Qn BZ;have HDF : Zl B (Fup F w wz) w0 wz d x.ends ∧ Za F w wz := TAIL.out w1 wz _ HD1.out HK1.out (HKO.trans KZ.out (fun k (e : k = gr) => .inl (.inl e)));refine bodyPost_ret (v := .agg #[.int .i64 0, .string ⟨#[]⟩, .int .i64 0, .int .i64 0, .int .i64 0, .int .i64 0, .int .i64 0, .int .i64 0, pr]) bc rfl ⟨?_, ?_, HDF.2⟩
  ·rw [HR.out]; try rfl
  ·rw [HR.out]; exact HDF.1
 have HSE := hid (HSE.trans (if_neg k2));have k2f := bF k2;clear k2;by_cases k3 : k = 3
 ·subst k3
  have HR := hid (HSE.trans (if_pos rfl));clear HSE;have CC := hid (Zsj HDA.out n);obtain ⟨pr, hpr⟩ := nE (x.took n);rw [hpr] at CC HR;clear hpr;have i2 := cA HIA.out 2 n rfl;go_wp2_with fail;refine CC.mono ?_;rintro en w1 ⟨rfl, hd1, hk1⟩;have HD1 := hid hd1; have HK1 := hid hk1;have HO1 := hid (hk1.blk HOA.out (fun hf => al));have HR1 := hid (hk1.blk HRA.out (fun hf => al));clear hd1 hk1 CC HIA HOA HRA;have ec := HO1.frozen 1;obtain ⟨yc, eg⟩ := HO1.some 1 ah;have hlc := HO1.lt;go_upto_region 13 with fail;obtain ⟨wv, hwv, hxo, hko⟩ := Blk.put HO1.out 1 (.string pr);rw [hwv];have HXO : Hid (Blk wv go 118 #[.int .i64 0, pr, .int .i64 0, .int .i64 0, .int .i64 0, .int .i64 0, .int .i64 0, .int .i64 0, .bool false]) := hxo;have HRV := hid (hko.out.blk HR1.out HNE.out);have HKO : Hid (Za (fun k => k = gr ∨ k = go) w1 wv) := hko.out.mono (fun k _ e => .inr e);clear hwv hxo hko ec eg hlc HO1 HR1;obtain ⟨x0, x1, x2, x3, x4, x5, x6, x7, x8⟩ := Qn HXO.out;have hlx := HXO.lt;obtain ⟨r0, r1, r2, r3, r4, r5, r6, r7, r8⟩ := Qn HRV.out;have z0 := HRV.frozen 0; have z1 := HRV.frozen 1; have z2 := HRV.frozen 2; have z3 := HRV.frozen 3; have z4 := HRV.frozen 4; have z5 := HRV.frozen 5; have z6 := HRV.frozen 6; have z7 := HRV.frozen 7; have z8 := HRV.frozen 8;have hlr := HRV.lt;go_wp2_with fail;obtain ⟨wz, hwz⟩ := nE (Zbc wv gr (.int .i64 0) (.string pr) (.int .i64 0) (.int .i64 0) (.int .i64 0) (.int .i64 0) (.int .i64 0) (.int .i64 0) (.bool false));have KZ : Hid (Za (fun k => k = gr) wv wz) := hwz ▸ Jr _ _ _ _ _ _ _ _ _ _ _;have BZ := Ge HRV.out (.int .i64 0) (.string pr) (.int .i64 0) (.int .i64 0) (.int .i64 0) (.int .i64 0) (.int .i64 0) (.int .i64 0) (.bool false);rw [hwz] at BZ;unfold Zbc at hwz;rw [hwz];clear hwz;obtain ⟨t0, t1, t2, t3, t4, t5, t6, t7, t8⟩ := Qn BZ;have HDF : Zl B (Fup F w wz) w0 wz d (x.take n) ∧ Za F w wz := TAIL.out w1 wz _ HD1.out HK1.out (HKO.trans KZ.out (fun k (e : k = gr) => .inl (.inl e)));refine bodyPost_ret (v := .agg #[.int .i64 0, pr, .int .i64 0, .int .i64 0, .int .i64 0, .int .i64 0, .int .i64 0, .int .i64 0, .bool false]) bc rfl ⟨?_, ?_, HDF.2⟩
  ·rw [HR.out]; try rfl
  ·rw [HR.out]; exact HDF.1
 have HSE := hid (HSE.trans (if_neg k3));have k3f := bF k3;clear k3;by_cases k4 : k = 4
 ·subst k4
  have HR := hid (HSE.trans (if_pos rfl));clear HSE;have CC := hid (Zso HDA.out t HI.2.2);have i3 := cA HIA.out 3 t rfl;go_wp2_with fail;refine CC.mono ?_;rintro en w1 ⟨rfl, hd1, hk1⟩;have HD1 := hid hd1; have HK1 := hid hk1;have HO1 := hid (hk1.blk HOA.out (fun hf => al));have HR1 := hid (hk1.blk HRA.out (fun hf => al));clear hd1 hk1 CC HIA HOA HRA;have HXO := HO1; have HRV := HR1;have HKO : Hid (Za (fun k => k = gr ∨ k = go) w1 w1) := Za.refl _ _;clear HO1 HR1;obtain ⟨x0, x1, x2, x3, x4, x5, x6, x7, x8⟩ := Qn HXO.out;have hlx := HXO.lt;obtain ⟨r0, r1, r2, r3, r4, r5, r6, r7, r8⟩ := Qn HRV.out;have z0 := HRV.frozen 0; have z1 := HRV.frozen 1; have z2 := HRV.frozen 2; have z3 := HRV.frozen 3; have z4 := HRV.frozen 4; have z5 := HRV.frozen 5; have z6 := HRV.frozen 6; have z7 := HRV.frozen 7; have z8 := HRV.frozen 8;have hlr := HRV.lt;go_wp2_with fail;obtain ⟨wz, hwz⟩ := nE (Zbc w1 gr (.int .i64 0) (.string ⟨#[]⟩) (.int .i64 0) (.int .i64 0) (.int .i64 0) (.int .i64 0) (.int .i64 0) (.int .i64 0) (.bool false));have KZ : Hid (Za (fun k => k = gr) w1 wz) := hwz ▸ Jr _ _ _ _ _ _ _ _ _ _ _;have BZ := Ge HRV.out (.int .i64 0) (.string ⟨#[]⟩) (.int .i64 0) (.int .i64 0) (.int .i64 0) (.int .i64 0) (.int .i64 0) (.int .i64 0) (.bool false);rw [hwz] at BZ;unfold Zbc at hwz;rw [hwz];clear hwz;obtain ⟨t0, t1, t2, t3, t4, t5, t6, t7, t8⟩ := Qn BZ;have HDF : Zl B (Fup F w wz) w0 wz d (x.cuts t) ∧ Za F w wz := TAIL.out w1 wz _ HD1.out HK1.out (HKO.trans KZ.out (fun k (e : k = gr) => .inl (.inl e)));exact N50
 have HSE := hid (HSE.trans (if_neg k4));have k4f := bF k4;clear k4;by_cases k5 : k = 5
 ·subst k5
  have HR := hid (HSE.trans (if_pos rfl));clear HSE;have CC := Zsk HDA.out HFT.out t HI.2.2.2;obtain ⟨⟨y, s, dd⟩, hpr⟩ : ∃ y, x.step t = y := ⟨_, rfl⟩;rw [hpr] at CC HR;clear hpr;unfold Qa.val at CC;simp only at CC HR;have CC := hid CC;have i3 := cA HIA.out 3 t rfl;go_wp2_with fail;refine CC.mono ?_;rintro en w1 ⟨rfl, hd1, hk1⟩;have HD1 := hid hd1; have HK1 := hid hk1;have HO1 := hid (hk1.blk HOA.out (fun hf => al));have HR1 := hid (hk1.blk HRA.out (fun hf => al));clear hd1 hk1 CC HIA HOA HRA;obtain ⟨c0, c1, c2, c3, c4, c5, c6, c7, c8⟩ := Qn HO1.out;have ez2 := HO1.frozen 2; have ez3 := HO1.frozen 3; have ez4 := HO1.frozen 4; have ez5 := HO1.frozen 5; have ez6 := HO1.frozen 6; have ez7 := HO1.frozen 7; have ez8 := HO1.frozen 8;have hlc := HO1.lt;go_upto_region 13 with fail;obtain ⟨wv, hwv⟩ := nE (((((((w1.setCell ⟨go, 2, none⟩ (.int .i64 s.tick)).setCell ⟨go, 3, none⟩ (.int .i64 (s.loc : Int))).setCell ⟨go, 4, none⟩ (.int .i64 (s.what : Int))).setCell ⟨go, 5, none⟩ (.int .i64 (s.arm : Int))).setCell ⟨go, 6, none⟩ (.int .i64 (s.n : Int))).setCell ⟨go, 7, none⟩ (.int .i64 (s.st : Int))).setCell ⟨go, 8, none⟩ (.bool dd));have HXO : Hid (Blk wv go 118 #[.int .i64 0, .string ⟨#[]⟩, s.tick, (s.loc : Int), (s.what : Int), (s.arm : Int), (s.n : Int), (s.st : Int), dd]) := hwv ▸ (((((((HO1.set 2 _).set 3 _).set 4 _).set 5 _).set 6 _).set 7 _).set 8 _);have hko : Za (fun k => k = go) w1 wv := hwv ▸ ((Zy _ go 2 _).trans ((Zy _ go 3 _).trans ((Zy _ go 4 _).trans ((Zy _ go 5 _).trans ((Zy _ go 6 _).trans ((Zy _ go 7 _).trans (Zy _ go 8 _) (fun _ h => .inl h)) (fun _ h => .inl h)) (fun _ h => .inl h)) (fun _ h => .inl h)) (fun _ h => .inl h)) (fun _ h => .inl h));have HRV := hid (hko.blk HR1.out HNE.out);have HKO : Hid (Za (fun k => k = gr ∨ k = go) w1 wv) := hko.mono (fun k _ e => .inr e);rw [hwv];clear hwv hko c0 c1 c2 c3 c4 c5 c6 c7 c8 ez2 ez3 ez4 ez5 ez6 ez7 ez8 hlc HO1 HR1;obtain ⟨x0, x1, x2, x3, x4, x5, x6, x7, x8⟩ := Qn HXO.out;have hlx := HXO.lt;obtain ⟨r0, r1, r2, r3, r4, r5, r6, r7, r8⟩ := Qn HRV.out;have z0 := HRV.frozen 0; have z1 := HRV.frozen 1; have z2 := HRV.frozen 2; have z3 := HRV.frozen 3; have z4 := HRV.frozen 4; have z5 := HRV.frozen 5; have z6 := HRV.frozen 6; have z7 := HRV.frozen 7; have z8 := HRV.frozen 8;have hlr := HRV.lt;go_wp2_with fail;obtain ⟨wz, hwz⟩ := nE (Zbc wv gr (.int .i64 0) (.string ⟨#[]⟩) (.int .i64 s.tick) (.int .i64 (s.loc : Int)) (.int .i64 (s.what : Int)) (.int .i64 (s.arm : Int)) (.int .i64 (s.n : Int)) (.int .i64 (s.st : Int)) (.bool dd));have KZ : Hid (Za (fun k => k = gr) wv wz) := hwz ▸ Jr _ _ _ _ _ _ _ _ _ _ _;have BZ := Ge HRV.out (.int .i64 0) (.string ⟨#[]⟩) (.int .i64 s.tick) (.int .i64 (s.loc : Int)) (.int .i64 (s.what : Int)) (.int .i64 (s.arm : Int)) (.int .i64 (s.n : Int)) (.int .i64 (s.st : Int)) (.bool dd);rw [hwz] at BZ;unfold Zbc at hwz;rw [hwz];clear hwz;obtain ⟨t0, t1, t2, t3, t4, t5, t6, t7, t8⟩ := Qn BZ;have HDF : Zl B (Fup F w wz) w0 wz d y ∧ Za F w wz := TAIL.out w1 wz _ HD1.out HK1.out (HKO.trans KZ.out (fun k (e : k = gr) => .inl (.inl e)));refine bodyPost_ret (v := .agg #[.int .i64 0, .string ⟨#[]⟩, s.tick, (s.loc : Int), (s.what : Int), (s.arm : Int), (s.n : Int), (s.st : Int), dd]) bc rfl ⟨?_, ?_, HDF.2⟩
  ·rw [HR.out]; try rfl
  ·rw [HR.out]; exact HDF.1
 have HSE := hid (HSE.trans (if_neg k5));have k5f := bF k5;clear k5;have HR := hid HSE.out;have HD1 : Hid (Zl B (Fup F wa wa) w0 wa d x) := Zl.up HDA.out HDA.fin HDA.base (Nat.le_refl _);have HK1 : Hid (Za F wa wa) := Za.refl _ _;have HXO := HOA; have HRV := HRA;have HKO : Hid (Za (fun k => k = gr ∨ k = go) wa wa) := Za.refl _ _;clear HSE HIA HOA HRA;obtain ⟨x0, x1, x2, x3, x4, x5, x6, x7, x8⟩ := Qn HXO.out;have hlx := HXO.lt;obtain ⟨r0, r1, r2, r3, r4, r5, r6, r7, r8⟩ := Qn HRV.out;have z0 := HRV.frozen 0; have z1 := HRV.frozen 1; have z2 := HRV.frozen 2; have z3 := HRV.frozen 3; have z4 := HRV.frozen 4; have z5 := HRV.frozen 5; have z6 := HRV.frozen 6; have z7 := HRV.frozen 7; have z8 := HRV.frozen 8;have hlr := HRV.lt;go_wp2_with fail;obtain ⟨wz, hwz⟩ := nE (Zbc wa gr (.int .i64 0) (.string ⟨#[]⟩) (.int .i64 0) (.int .i64 0) (.int .i64 0) (.int .i64 0) (.int .i64 0) (.int .i64 0) (.bool false));have KZ : Hid (Za (fun k => k = gr) wa wz) := hwz ▸ Jr _ _ _ _ _ _ _ _ _ _ _;have BZ := Ge HRV.out (.int .i64 0) (.string ⟨#[]⟩) (.int .i64 0) (.int .i64 0) (.int .i64 0) (.int .i64 0) (.int .i64 0) (.int .i64 0) (.bool false);rw [hwz] at BZ;unfold Zbc at hwz;rw [hwz];clear hwz;obtain ⟨t0, t1, t2, t3, t4, t5, t6, t7, t8⟩ := Qn BZ;have HDF : Zl B (Fup F w wz) w0 wz d x ∧ Za F w wz := TAIL.out wa wz _ HD1.out HK1.out (HKO.trans KZ.out (fun k (e : k = gr) => .inl (.inl e)));exact N50
end
def Yt (l : List InV) : List Value := l.flatMap InV.cells
theorem Kn (l : List InV) : (Yt l).length = l.length * 4 := by
 induction l with
 | nil => rfl
 | cons x l ih => simp only [Yt, List.flatMap_cons, List.length_append, List.length_cons] at *; rw [ih]; simp [InV.cells]; omega
theorem Zeh (a b : List InV) : Yt (a ++ b) = Yt a ++ Yt b := by simp [Yt]
theorem N59{P:Prop}(h:P:=by
 simp only [List.getElem?_cons_zero, Option.some.injEq] at hi;subst hi;rw [List.getElem?_append_left aa]; simp):P:=h
theorem Zkc (l : List InV) (i : Nat) (x : InV) (hi : l[i]? = some x) (j : Nat) (hj : j < 4) : (Yt l)[i * 4 + j]? = x.cells[j]? := by
 induction l generalizing i with
 | nil => simp at hi
 | cons m l ih =>
  have e : Yt (m :: l) = m.cells ++ Yt l := rfl;have hm : m.cells.length = 4 := rfl;rw [e];cases i with
  | zero =>
   exact N59
  | succ i =>
   rw [List.getElem?_append_right aa];have e2 : (i + 1) * 4 + j - m.cells.length = i * 4 + j := aa
   rw [e2];exact ih i kg
def Yn (l : List Ub) : List Value := l.flatMap Ub.cells
theorem Ns (a b : List Ub) : Yn (a ++ b) = Yn a ++ Yn b := by simp [Yn]
theorem Ud (l : List Ub) : (Yn l).length = l.length * 9 := by
 induction l with
 | nil => rfl
 | cons x l ih => simp only [Yn, List.flatMap_cons, List.length_append, List.length_cons] at *; rw [ih]; simp [Ub.cells]; omega
theorem Zcd (l : List Ub) (i : Nat) (x : Ub) (hi : l[i]? = some x) (j : Nat) (hj : j < 9) : (Yn l)[i * 9 + j]? = x.cells[j]? := by
 induction l generalizing i with
 | nil => simp at hi
 | cons m l ih =>
  have e : Yn (m :: l) = m.cells ++ Yn l := rfl;have hm : m.cells.length = 9 := rfl;rw [e];cases i with
  | zero =>
   exact N59
  | succ i =>
   rw [List.getElem?_append_right aa];have e2 : (i + 1) * 9 + j - m.cells.length = i * 9 + j := aa
   rw [e2];exact ih i kg
def Gb (x : Zf) : List InV → List Ub
 | [] => []
 | i :: l => (x.one i).2 :: Gb (x.one i).1 l
def Kc (x : Zf) : List InV → Zf
 | [] => x
 | i :: l => Kc (x.one i).1 l
theorem Zds (x : Zf) (a b : List InV) : Gb x (a ++ b) = Gb x a ++ Gb (Kc x a) b := by
 induction a generalizing x with
 | nil => rfl
 | cons i a ih => simp only [List.cons_append, Gb, Kc, ih]
theorem Zdq (x : Zf) (a b : List InV) : Kc x (a ++ b) = Kc (Kc x a) b := by
 induction a generalizing x with
 | nil => rfl
 | cons i a ih => simp only [List.cons_append, Kc, ih]
theorem Zdr (x : Zf) (l : List InV) : (Gb x l).length = l.length := by
 induction l generalizing x with
 | nil => rfl
 | cons i l ih => simp only [Gb, List.length_cons, ih]
def Zcy (s : Uk) (p : Xl) : Nat := if Wf s = false then 1 else if (Xf p).2 ≠ 0 then 2 else 0
def Kd (s : Uk) (p : Xl) (now : Int) (l : List InV) : List Ub := if Zcy s p = 0 then Gb ((Jf s p now).come 0) l else []
theorem Zh6 : (Tryz.prog.info? 118).map (fun i => (i.zero, i.size, i.bytes)) = some (some (.agg #[.int .i64 0, .string ⟨#[]⟩, .int .i64 0, .int .i64 0, .int .i64 0, .int .i64 0, .int .i64 0, .int .i64 0, .bool false]), 9, 80) := by kernel_rfl
theorem Zl.own {B b1 d : Nat} {F : Nat → Prop} {w0 w w' : World} {x : Zf} {e : TypeId} {size n : Nat} {v : Value} {xs : List Value} (h : Zl B F w0 w d x) (hB : B ≤ b1) (ho : w.ownsRow b1 e size v n xs) (hf : ∀ k, v.ownBlock = some k → ¬ F k) (hk : Za (fun k => v.ownBlock = some k) w w') : Zl B F w0 w' d x :=
 h.keep hk (fun k hk hv => hf k hv hk) (fun k hv => Nat.le_trans hB (ho.lt k hv).1)
theorem N117{P:Prop}(h:P:=by
 go_wp2_with fail
 go_ret2
 rw [HRR.out];exact ⟨none, 0, rfl, World.ownsRow_nil _ _ _ _, HB1.out⟩):P:=h
theorem N95{P:Prop}(h:P:=by
 have e : l.take i = l := List.take_of_length_le bj;rw [e];exact ⟨HRF.out, by rw [HRF.out, Zdr, HL.out, hin]⟩):P:=h
theorem Zdo (s : Uk) (p : Xl) (A : Option Addr) (c b0 : Nat) (now : Int) (AL : Option Addr) (n cl : Nat) (l : List InV) (w : World) (hin : Wt b0 w (.slice A p.ops.length c) p.ops) (hok : Jb p) (hnow : I6 now)
  (hl : l.length = n) (hi : ∀ i ∈ l, i.ok) (hn : n ≤ 1000) (hr : Rd w AL (Yt l)) :
  Calls Tryz.prog 41 #[s.val, p.val (.slice A p.ops.length c), now, .slice AL n cl] w fun e w' => ∃ A' c', e = .returned (.tuple #[.slice A' (Kd s p now l).length c', (Zcy s p : Int)]) ∧
   w'.ownsRow w.heap.size 118 9 (.slice A' (Kd s p now l).length c') (Kd s p now l).length (Yn (Kd s p now l)) ∧ Below w.heap.size w w' := by
 have HCN : Hid (∀ W, Below w.heap.size w W → Calls Tryz.prog 55 #[s.val, p.val (.slice A p.ops.length c), now] W fun e w' => Ny W (Wf s) (Xf p).2 (Jf s p now) e w') := fun W hb => Ziz s p A c b0 now W (hin.below hb (Nat.le_refl _)) hok hnow;have HFT : Hid (Wf s = true → (Xf p).2 = 0 → Fit ((Jf s p now).come 0)) := fun h1 h2 => Zmh (Zel s p now h1 h2 hok hnow);have HR : Hid (Kd s p now l = if Zcy s p = 0 then Gb ((Jf s p now).come 0) l else []) := rfl;have HE : Hid (Zcy s p = if Wf s = false then 1 else if (Xf p).2 ≠ 0 then 2 else 0) := rfl;obtain ⟨R, hR⟩ := nE (Kd s p now l);obtain ⟨er, her⟩ := nE (Zcy s p);obtain ⟨gs, hgs⟩ := nE (Wf s);obtain ⟨pw, hpw⟩ := nE ((Xf p).2);obtain ⟨nv, hnv⟩ := nE (Jf s p now);rw [hR, her, hnv] at HR;rw [her, hgs, hpw] at HE;rw [hR, her];rw [hgs, hpw, hnv] at HCN HFT;obtain ⟨m, hm⟩ := nE (p.ops.length);rw [hm] at HCN ⊢;clear hR her hgs hpw hnv hm hin hok hnow;obtain ⟨lv, rg, wn, ou, qu, vi⟩ := s;obtain ⟨nm, dl, jp, ops⟩ := p;unfold Uk.val Xl.val at HCN ⊢;simp only at HCN ⊢;have HL := hid hl; have HI := hid hi; have HRD := hid hr;clear hl hi hr;obtain ⟨wa, hwa⟩ := nE ((w.alloc (.cells #[lv, rg, wn, ou, qu, vi] 23)).alloc (.cells #[nm, dl, jp, .slice A m c] 26));have HBA : Hid (Below w.heap.size w wa) := hwa ▸ Uu _ _ _;have HSA : Hid (Blk wa w.heap.size 23 #[lv, rg, wn, ou, qu, vi]) := hwa ▸ (Blk.new w _ _).alloc _;have HPA : Hid (Blk wa (w.heap.size + 1) 26 #[nm, dl, jp, .slice A m c]) := hwa ▸ Gz _ _ _ _;have HWA := hid hwa;clear hwa;obtain ⟨gx, hgx⟩ := nE (w.heap.size);have HGX := hid hgx;rw [hgx] at HSA HPA;clear hgx;have CN := hid (HCN.out wa HBA.out);obtain ⟨x0, x1, x2, x3, x4, x5⟩ := Yk HSA.out;obtain ⟨p0, p1, p2, p3⟩ := Wc HPA.out;have hlx := HSA.lt; have hlp := HPA.lt;go_enter Tryz.func41, Tryz.ntmps41;go_upto_region 1 with fail;rw [HWA.out, HGX.out];clear HWA HCN;go_wp2_with fail;refine CN.mono ?_;intro en w1 hq;unfold Ny at hq;obtain ⟨hb, hq⟩ := hq;have HB1 := bt HBA hb;have HBS : Hid (w.heap.size ≤ wa.heap.size) := HBA.size;clear hb x0 x1 x2 x3 x4 x5 p0 p1 p2 p3 hlx hlp HSA HPA HBA CN;cases gs
 ·rw [if_pos rfl] at hq
  subst hq;have her : er = 1 := HE.out;have hRR : R = [] := by rw [HR.out, her]; rfl
  subst her;have HRR := hid hRR;clear hRR HR HE;exact N117
 rw [if_neg ac] at hq;have HE := hid (HE.trans (if_neg ac));by_cases hpw : pw ≠ 0
 ·rw [if_pos hpw] at hq
  subst hq;have her : er = 2 := HE.trans (if_pos hpw);have hRR : R = [] := by rw [HR.out, her]; rfl
  subst her;have HRR := hid hRR;clear hRR HR HE hpw;exact N117
 rw [if_neg hpw] at hq;have her : er = 0 := HE.trans (if_neg hpw);subst her;have HRF := hid (HR.trans (if_pos rfl));clear HR;have hpw0 : pw = 0 := aa
 subst hpw0;have HF0 := hid (HFT.out (by first | rfl | trivial) (by first | rfl | trivial));obtain ⟨w0, d, B, F, rfl, hB, hd⟩ := hq;have HD := hid hd;obtain ⟨x, hx⟩ := nE (nv.come 0);rw [hx] at HD HRF HF0;have HBB : Hid (w.heap.size ≤ B ∧ B ≤ w1.heap.size) := ⟨Nat.le_trans HBS.out hB, hd.base⟩;clear hx hd hB hpw HE HFT HBS;obtain ⟨b1, hb1⟩ := nE (w1.heap.size);have HBB1 : Hid (w.heap.size ≤ b1 ∧ B ≤ b1) := hb1 ▸ ⟨HB1.size, HBB.2⟩;have HRB : Hid (∀ W, Below w.heap.size w W → Rd W AL (Yt l)) := fun W hb => HRD.below hb;go_wp2_with fail
 go_loopw [27, 12] (fun iv ov wr => ∃ (i c' : Nat) (A' : Option Addr) (F' : Nat → Prop), i ≤ n ∧ iv = .int .i64 (i : Int) ∧ ov = .slice A' i c' ∧ b1 ≤ wr.heap.size ∧ Below w.heap.size w wr ∧ wr.ownsRow b1 118 9 (.slice A' i c') i (Yn (Gb x (l.take i))) ∧
   Zl B F' w0 wr d (Kc x (l.take i)) ∧ Fit (Kc x (l.take i)) ∧ (∀ k, (Value.slice A' i c').ownBlock = some k → ¬ F' k)) (fun iv _ _ => n - (intOf iv).toNat)
 case atStart => exact ⟨0, 0, none, F, aa, rfl, rfl, by rw [← hb1]; exact Nat.le_refl _, HB1.out, World.ownsRow_nil _ _ _ _, HD.out, HF0.out, fun k hk => by cases hk⟩
 case round =>
  obtain ⟨i, c', A', F', hi, rfl, rfl, hsz, hb, hown, hd, hf, hnf⟩ := hrel;have HB := hid hb; have HO := hid hown; have HDD := hid hd; have HFI := hid hf; have HNF := hid hnf; have HSZ := hid hsz;clear hb hown hd hf hnf hsz HB1 HD HF0;by_cases hlt : i < n
  ·have hli : i < l.length := by rw [HL.out]; exact hlt
   have hget : l[i]? = some (l[i]'hli) := List.getElem?_eq_getElem hli;have hTK : l.take (i + 1) = l.take i ++ [l[i]'hli] := by rw [List.take_succ_eq_append_getElem hli]
   have hII := HI.out _ (List.getElem_mem hli);obtain ⟨iv, hiv⟩ := nE (l[i]'hli);rw [hiv] at hget hTK hII;have HTL : Hid (Gb x (l.take (i + 1)) = Gb x (l.take i) ++ [((Kc x (l.take i)).one iv).2]) := by rw [Hid, hTK, Zds]; rfl
   have HTS : Hid (Kc x (l.take (i + 1)) = ((Kc x (l.take i)).one iv).1) := by rw [Hid, hTK, Zdq]; rfl
   obtain ⟨bl, off, rfl, hbl, hcc⟩ := (HRB.out wr HB.out).at (by rw [Kn]; omega);have hc : ∀ j u, j < 4 → iv.cells[j]? = some u → wr.cell? ⟨bl, off + (i * 4 + j), none⟩ = some u := fun j u hj hu => hcc _ u ((Zkc l i iv hget j hj).trans hu);have HFN : Hid (Fit ((Kc x (l.take i)).one iv).1) := Zmg HDD.ok HFI.out iv hII;have HON : Hid (∀ W, Below wr.heap.size wr W → Calls Tryz.prog 80 #[.pointer (some ⟨d, 0, none⟩), iv.val] W fun e w' => e = .returned ((Kc x (l.take i)).one iv).2.val ∧ Zl B (Fup F' W w') w0 w' d ((Kc x (l.take i)).one iv).1 ∧ Za F' W w') := fun W hb => Zdp (HDD.below hb) HFI.out iv hII;obtain ⟨⟨y, ou⟩, hou⟩ : ∃ y, (Kc x (l.take i)).one iv = y := ⟨_, rfl⟩;rw [hou] at HTL HTS HON HFN;obtain ⟨ik, ib, inn, it⟩ := iv;have c0 := hc 0 _ aa rfl;have c1 := hc 1 _ aa rfl;have c2 := hc 2 _ aa rfl;have c3 := hc 3 _ aa rfl;simp only [Nat.add_zero, ← Nat.add_assoc] at c0 c1 c2 c3;obtain ⟨on, ob, ot, ol, ow, oa, om, os, od⟩ := ou;unfold InV.val Ub.val at HON;simp only at HON HTL HTS HFN;have hi2 : (i : Int) < (n : Int) := aa
   clear hget hTK hII hiv hou hc hcc hli;go_upto_region 8 with fail;obtain ⟨w2, hw2⟩ := nE (wr.alloc (.cells #[ik, ib, inn, it] 46));have HI2 := bn hw2;have HB2 := ba hw2;rw [hw2];clear hw2 c0 c1 c2 c3 hbl;have CO := hid (HON.out w2 HB2.out);have HO2 := hid (Yc HO.out HB2.out);have HSW : Hid (wr.heap.size ≤ w2.heap.size) := HB2.size;have HB3 := hid (HB.trans (HB2.mono HB.size));have HLT := hid (fun k hk => (HO.lt k hk).2);have HD2 := hid (HDD.below HB2.out);obtain ⟨gi, hgi⟩ := nE (wr.heap.size);rw [hgi] at HI2 ⊢;obtain ⟨i0, i1, i2, i3⟩ := Wc HI2.out;have hlI := HI2.lt;clear hgi HON HB HO HDD HB2;go_wp2_with fail;refine CO.mono ?_;rintro en w3 ⟨rfl, hd3, hk3⟩;have HD3 := hid hd3;have HO3 : Hid (w3.ownsRow b1 118 9 (.slice A' i c') i (Yn (Gb x (l.take i)))) := hk3.own HO2.out (fun k hv hf => HNF.out k hv hf);have HB4 : Hid (Below w.heap.size w w3) := HB3.trans ((HD2.under hk3).mono HBB.1);have HN3 : Hid (∀ k, (Value.slice A' i c').ownBlock = some k → ¬ Fup F' w2 w3 k) := fun k hk hf => hf.elim (HNF.out k hk) (fun h => by have := HLT.out k hk; have := HSW.out; omega);have hs3 : b1 ≤ w3.heap.size := Nat.le_trans HSZ.out (Nat.le_trans HSW.out hk3.size);clear hd3 hk3 CO i0 i1 i2 i3 hlI HI2 HO2 HD2 HNF HLT HB3;go_wp2_with (at_builtin; refine Wb _ rfl _ _ 73 rfl b1 118 _ 9 80 Tryz.underlying73 Zh6 rfl ac _ _ _ rfl HO3.out 1 [on, ob, ot, ol, ow, oa, om, os, od] rfl rfl rfl ?_ ac hs3 ?_)
   ·omega
   intro g5 c5 w5 hown5 hk5 hf5
   have HO5 : Hid (w5.ownsRow b1 118 9 (.slice (some ⟨g5, 0, none⟩) (i + 1) c5) (i + 1) (Yn (Gb x (l.take (i + 1))))) := by
    rw [Hid, HTL.out, Ns]; exact hown5
   have HD5 : Hid (Zl B (Fup F' w2 w3) w0 w5 d (Kc x (l.take (i + 1)))) := by rw [Hid, HTS.out]; exact HD3.own HBB1.2 HO3.out HN3.out hk5
   have HF5 : Hid (Fit (Kc x (l.take (i + 1)))) := by rw [Hid, HTS.out]; exact HFN.out
   have HN5 : Hid (∀ k, (Value.slice (some ⟨g5, 0, none⟩) (i + 1) c5).ownBlock = some k → ¬ Fup F' w2 w3 k) := by
    intro k hk hf;have hk' : g5 = k := by injection hk
    subst hk';rcases hf5 with h | h
    ·exact HN3.out _ h hf
    ·have := (HD3.fin _ hf).2; omega
   have HB5 : Hid (Below w.heap.size w w5) := HB4.trans (hk5.below HB4.size (fun k hk => Nat.le_trans HBB1.1 (HO3.lt k hk).1));have HS5 : Hid (b1 ≤ w5.heap.size) := Nat.le_trans hs3 hk5.size;clear hown5 hk5 hf5 HD3 HO3 HB4 HN3 hs3 HTL HTS HFN HSW HSZ HFI;go_wp2_with fail;go_roundw
   case rel => exact ⟨i + 1, c5, some ⟨g5, 0, none⟩, Fup F' w2 w3, aa, aw, rfl, HS5.out, HB5.out, HO5.out, HD5.out, HF5.out, HN5.out⟩
   case measure => simp [intOf]; omega
  ·have hin : i = n := by omega
   have hi2 : ¬ (i : Int) < (n : Int) := aa
   have HRN : Hid (R = Gb x (l.take i) ∧ R.length = i) := by
    exact N95
   clear hin;go_wp2_with fail
   go_ret2
   rw [HRN.2, HRN.1];exact ⟨A', c', rfl, Vi HO.out HBB1.1, HB.out⟩
end Go.Proofs.YtpkkfdmhbbipoaaGreat
