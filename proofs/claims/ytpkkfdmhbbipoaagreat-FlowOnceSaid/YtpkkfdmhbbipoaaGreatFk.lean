/- Law 24's run: the steps of a dialogue. -/
import Derived.Test.YtpkkfdmhbbipoaaGreatFj
import Derived.Test.YtpkkfdmhbbipoaaGreatEb
import Derived.Test.YtpkkfdmhbbipoaaGreatDk
import Derived.Deep.CutBlock
import Derived.Deep.DeepCutAuto
namespace Go.Proofs.YtpkkfdmhbbipoaaGreat
open Go.RowKit PopT
def StepV.row (x : StepV) : List Value := [.int .i64 x.tick, .int .i64 (x.loc : Int), .int .i64 (x.what : Int), .int .i64 (x.arm : Int), .int .i64 (x.n : Int), .int .i64 (x.st : Int)]
def stVCells (l : List StepV) : List Value := l.flatMap StepV.row
theorem stVCells_length (l : List StepV) : (stVCells l).length = l.length * 6 := by
 induction l with
 | nil => rfl
 | cons x l ih => simp only [stVCells, List.flatMap_cons, List.length_append, List.length_cons] at *; rw [ih]; simp [StepV.row]; omega
theorem stVCells_append (a b : List StepV) : stVCells (a ++ b) = stVCells a ++ stVCells b := by simp [stVCells]
theorem Tryz.infoStp : (Tryz.prog.info? 51).map (fun i => (i.zero, i.size, i.bytes)) = some (some (.agg #[.int .i64 0, .int .i64 0, .int .i64 0, .int .i64 0, .int .i64 0, .int .i64 0]), 6, 48) := by kernel_rfl
theorem res_threeF {P : Program} {fn : Func} {tmps : Array Value} {W : World} {t1 t2 t3 : Nat} {v1 v2 v3 : Value} (h1 : tmps.getD t1 undef = v1) (h2 : tmps.getD t2 undef = v2) (h3 : tmps.getD t3 undef = v3) (hr : fn.results = #[.tmp t1, .tmp t2, .tmp t3]) : (results fn tmps).run P W = .ok (.tuple #[v1, v2, v3]) W := by
 unfold results; rw [hr]; subst h1; subst h2; subst h3
 simp only [List.mapM_toArray, List.mapM_cons, List.mapM_nil, bind_pure_comp, Sem.run_bind, Sem.run_map]
 rfl
def erF (s : SetV) (p : ProgV) : Nat := if goodS s = false then 1 else if (wrongM p).2 ≠ 0 then 2 else 0
structure LoopF (B d b1 : Nat) (G0 : Nat → Prop) (w0 w6 wr : World) (x : DialV) (F : Nat → Prop) (ov : Value) (l : List StepV) : Prop where
 dial : DialAt B F w0 wr d x
 own : wr.ownsRow b1 51 6 ov l.length (stVCells l)
 keep : Keep G0 w6 wr
 sub : ∀ k, F k → G0 k ∨ w6.heap.size ≤ k
 osub : ∀ k, ov.ownBlock = some k → G0 k ∨ w6.heap.size ≤ k
 dis : ∀ k, ov.ownBlock = some k → ¬ F k
 fit : Fit x
section
variable {B d b1 : Nat} {G0 F : Nat → Prop} {w0 w6 wr w' : World} {x y : DialV} {ov ov' : Value} {l l' : List StepV}
theorem LoopF.next (h : LoopF B d b1 G0 w0 w6 wr x F ov l) (hd : DialAt B (Fup F wr w') w0 w' d y) (hk : Keep F wr w') (hf : Fit y) : LoopF B d b1 G0 w0 w6 w' y (Fup F wr w') ov l := by
 refine ⟨hd, hk.own h.own (fun k hv hF => h.dis k hv hF), h.keep.trans hk h.sub, ?_, h.osub, ?_, hf⟩
 ·rintro k (hk2 | hk2)
  ·exact h.sub k hk2
  ·exact .inr (Nat.le_trans h.keep.size hk2.1)
 ·rintro k hv (hk2 | hk2)
  ·exact h.dis k hv hk2
  ·exact Nat.lt_irrefl _ (Nat.lt_of_lt_of_le (h.own.lt k hv).2 hk2.1)
theorem LoopF.below (h : LoopF B d b1 G0 w0 w6 wr x F ov l) (hb : Below wr.heap.size wr w') : LoopF B d b1 G0 w0 w6 w' x F ov l :=
 ⟨h.dial.below hb, own_below h.own hb, h.keep.trans (Keep.of_below (F := G0) hb) (fun _ => .inl), h.sub, h.osub, h.dis, h.fit⟩
theorem LoopF.app (h : LoopF B d b1 G0 w0 w6 wr x F ov l) (hB : B ≤ b1) (hk : Keep (fun k => ov.ownBlock = some k) wr w') (ho : w'.ownsRow b1 51 6 ov' l'.length (stVCells l')) (hg : ∀ k, ov'.ownBlock = some k → ov.ownBlock = some k ∨ wr.heap.size ≤ k) : LoopF B d b1 G0 w0 w6 w' x F ov' l' := by
 refine ⟨h.dial.own hB h.own h.dis hk, ho, h.keep.trans hk h.osub, h.sub, fun k hv => ?_, fun k hv hF => ?_, h.fit⟩
 ·rcases hg k hv with h1 | h1
  ·exact h.osub k h1
  ·exact .inr (Nat.le_trans h.keep.size h1)
 ·rcases hg k hv with h1 | h1
  ·exact h.dis k h1 hF
  ·exact Nat.lt_irrefl _ (Nat.lt_of_lt_of_le (h.dial.fin k hF).2 h1)
end
def RunQ (s : SetV) (p : ProgV) (w : World) (e : Ending) (w' : World) : Prop := Below w.heap.size w w' ∧ (e = .returned (.tuple #[.slice none 0 0, .int .i64 0, .bool false]) ∨
 ∃ (v : Value) (x : DialV) (l : List StepV) (n : Nat), e = .returned (.tuple #[v, .int .i64 (n : Int), .bool true]) ∧ w'.ownsRow w.heap.size 51 6 v l.length (stVCells l) ∧ l.length ≤ 360 ∧ n ≤ 3840 ∧ DialOk x ∧ RunI s p x l n)
set_option maxRecDepth 20000 in
set_option maxHeartbeats 16000000 in
theorem run24_any (A : Option Addr) (c : Nat) (B : Option Addr) (k : Nat) (x : PlayV) (w : World) (hx : PlayOk w x A B k) :
  Calls Tryz.prog 58 #[x.val A c B k] w fun e w' => RunQ x.s (fewP x.p 9) w e w' := by
 obtain ⟨hop, hpok, hnow, hrd, -, hiok, -, -⟩ := hx
 have CFP : Hid (∀ W, Below w.heap.size w W → Calls Tryz.prog 26 #[x.p.val (.slice A x.p.ops.length c), .int .i64 9] W fun e w' => ∃ A' c', e = .returned ((fewP x.p 9).val (.slice A' (fewP x.p 9).ops.length c')) ∧ OpsOwn W.heap.size w' (.slice A' (fewP x.p 9).ops.length c') (fewP x.p 9).ops ∧ Below W.heap.size W w') := fun W hb =>
  fewP_any x.p A c 9 W (hop.below hb) hpok (by omega)
 have HER : Hid (erF x.s (fewP x.p 9) = if goodS x.s = false then 1 else if (wrongM (fewP x.p 9)).2 ≠ 0 then 2 else 0) := rfl
 have HGS : Hid (erF x.s (fewP x.p 9) = 0 → goodS x.s = true) := fun h => by unfold erF at h; split at h; cases h; rename_i h2; simpa using h2
 have HNV : Hid (erF x.s (fewP x.p 9) = 0 → DialOk (newV x.s (fewP x.p 9) x.now)) := fun h => by
  refine newV_ok _ _ _ (HGS.out h) ?_ (fewP_ok x.p 9 hpok) hnow
  unfold erF at h; split at h; cases h; split at h; cases h; rename_i h2; omega
 have HR0 : Hid (erF x.s (fewP x.p 9) = 0 → Fit ((newV x.s (fewP x.p 9) x.now).come 0) ∧ RunI x.s (fewP x.p 9) ((newV x.s (fewP x.p 9) x.now).come 0) [] 0) := fun h => ⟨fit_new (HNV.out h), runI_new (HNV.out h)⟩
 have CDN : Hid (∀ W A' c' b0, OpsOwn b0 W (.slice A' (fewP x.p 9).ops.length c') (fewP x.p 9).ops → Calls Tryz.prog 55 #[x.s.val, (fewP x.p 9).val (.slice A' (fewP x.p 9).ops.length c'), .int .i64 x.now] W fun e w' => Below W.heap.size W w' ∧ ∃ q, e = .returned (.tuple #[.pointer q, .int .i64 ((erF x.s (fewP x.p 9) : Nat) : Int)]) ∧
   (erF x.s (fewP x.p 9) = 0 → ∃ w0 d B F, q = some ⟨d, 0, none⟩ ∧ W.heap.size ≤ B ∧ DialAt B F w0 w' d ((newV x.s (fewP x.p 9) x.now).come 0))) := fun W A' c' b0 ho =>
  (dNew_any x.s (fewP x.p 9) A' c' b0 x.now W ho (fewP_ok x.p 9 hpok) hnow).mono (fun e w' h => by
   unfold newPost at h
   refine ⟨h.1, ?_⟩
   have h2 := h.2
   unfold erF
   split at h2
   ·rename_i h3; rw [if_pos h3]; exact ⟨_, h2, fun h => by cases h⟩
   ·rename_i h3
    rw [if_neg h3]
    split at h2
    ·rename_i h4; rw [if_pos h4]; exact ⟨_, h2, fun h => by cases h⟩
    ·rename_i h4
     rw [if_neg h4]
     obtain ⟨w0, d, B, F, rfl, hB, hd⟩ := h2
     exact ⟨_, rfl, fun _ => ⟨w0, d, B, F, rfl, hB, hd⟩⟩)
 have CGD : Hid (∀ W, Calls Tryz.prog 60 #[x.s.val] W fun e w' => e = .returned (.bool (goodS x.s)) ∧ Below W.heap.size W w') := fun W => good18_any x.s W
 have CFI : Hid (∀ W, Below w.heap.size w W → Calls Tryz.prog 15 #[.slice B x.l.length k, .int .i64 60] W fun e w' => ∃ g c', e = .returned (.slice (some ⟨g, 0, none⟩) (fewI x.l 60).length c') ∧ w'.ownsRow W.heap.size 46 4 (.slice (some ⟨g, 0, none⟩) (fewI x.l 60).length c') (fewI x.l 60).length (inVCells (fewI x.l 60)) ∧ Below W.heap.size W w') := fun W hb =>
  few22_any B x.l.length k x.l 60 W rfl (hrd.below hb) hiok (by omega)
 have HIO : Hid (∀ i ∈ fewI x.l 60, i.ok) := fewI_ok hiok 60
 have HLI : Hid ((fewI x.l 60).length ≤ 60) := fewI_length x.l 60
 obtain ⟨Q, hQ⟩ : ∃ Q : Ending → World → Prop, (fun e w' => RunQ x.s (fewP x.p 9) w e w') = Q := ⟨_, rfl⟩
 have HQ : Hid (∀ e w', RunQ x.s (fewP x.p 9) w e w' → Q e w') := fun e w' h => by rw [← hQ]; exact h
 rw [hQ]
 obtain ⟨X0, hX0⟩ : ∃ y, (newV x.s (fewP x.p 9) x.now).come 0 = y := ⟨_, rfl⟩
 obtain ⟨er, her⟩ : ∃ y, erF x.s (fewP x.p 9) = y := ⟨_, rfl⟩
 rw [her, hX0] at CDN HR0
 rw [her] at HGS
 obtain ⟨gs, hgs⟩ : ∃ y, goodS x.s = y := ⟨_, rfl⟩
 rw [hgs] at CGD HGS
 obtain ⟨s, p, now, l, ask⟩ := x
 obtain ⟨s2, hs2⟩ : ∃ y, y = s := ⟨_, rfl⟩
 have HS2 : Hid (s2.ring = s.ring) := by rw [hs2]; rfl
 unfold PlayV.val
 simp only at CFP CDN CFI HIO HLI HR0 HQ CGD ⊢
 rw [← hs2] at HR0 HQ
 obtain ⟨n, hnn⟩ : ∃ y, l.length = y := ⟨_, rfl⟩
 obtain ⟨m, hmm⟩ : ∃ y, p.ops.length = y := ⟨_, rfl⟩
 obtain ⟨pf, hpf⟩ : ∃ y, fewP p 9 = y := ⟨_, rfl⟩
 obtain ⟨li, hli⟩ : ∃ y, fewI l 60 = y := ⟨_, rfl⟩
 rw [hnn, hmm]
 rw [hmm] at CFP
 rw [hnn, hli] at CFI
 rw [hli] at HIO HLI
 rw [hpf] at CFP CDN HR0 HQ
 obtain ⟨ql, hql⟩ : ∃ y, li.length = y := ⟨_, rfl⟩
 have HQL := hid hql
 rw [hql] at CFI HLI
 clear hop hpok hnow hrd hiok hnn hmm hpf hli hQ her hX0 hgs hs2 hql HER HNV
 obtain ⟨lv, rg, wn, ou, qu, vi⟩ := s
 obtain ⟨nm, dl, jp, ops⟩ := p
 obtain ⟨nm2, dl2, jp2, ops2⟩ := pf
 unfold SetV.val at CDN CGD
 unfold ProgV.val at CFP CDN
 simp only at CFP CDN CGD HS2 ⊢
 obtain ⟨m2, hm2⟩ : ∃ y, ops2.length = y := ⟨_, rfl⟩
 rw [hm2] at CFP CDN
 clear hm2
 obtain ⟨pf, hpf⟩ : ∃ y : ProgV, y = ⟨nm2, dl2, jp2, ops2⟩ := ⟨_, rfl⟩
 rw [← hpf] at HR0 HQ
 clear hpf
 go_enter Tryz.func58, Tryz.ntmps58
 go_upto_region 1 with fail
 generalize hwz : w.alloc (.cells #[.int .i64 lv, .int .i64 rg, .int .i64 wn, .int .i64 ou, .int .i64 qu, .int .i64 vi, .string nm, .int .i64 dl, .int .i64 jp, .slice A m c, .int .i64 now, .slice B n k, .int .i64 ask] 29) = wz
 have HXX : Hid (Blk wz w.heap.size 29 #[.int .i64 lv, .int .i64 rg, .int .i64 wn, .int .i64 ou, .int .i64 qu, .int .i64 vi, .string nm, .int .i64 dl, .int .i64 jp, .slice A m c, .int .i64 now, .slice B n k, .int .i64 ask]) := by rw [← hwz]; exact Blk.new w _ _
 have HB : Hid (Below w.heap.size w wz) := by rw [← hwz]; exact (Below.refl _ _).alloc (Nat.le_refl _) _
 obtain ⟨gx, hgx⟩ : ∃ y, w.heap.size = y := ⟨_, rfl⟩
 have HGX := hid hgx
 rw [hgx] at HXX ⊢
 clear hwz hgx
 have X00 : ∀ q : BW wz.heap.size wz, q.1.cell? ⟨gx, 0, none⟩ = some (.int .i64 lv) := fun q => q.cellAt HXX.out.lt (HXX.out.cell 0)
 have X1 : ∀ q : BW wz.heap.size wz, q.1.cell? ⟨gx, 1, none⟩ = some (.int .i64 rg) := fun q => q.cellAt HXX.out.lt (HXX.out.cell 1)
 have X2 : ∀ q : BW wz.heap.size wz, q.1.cell? ⟨gx, 2, none⟩ = some (.int .i64 wn) := fun q => q.cellAt HXX.out.lt (HXX.out.cell 2)
 have X3 : ∀ q : BW wz.heap.size wz, q.1.cell? ⟨gx, 3, none⟩ = some (.int .i64 ou) := fun q => q.cellAt HXX.out.lt (HXX.out.cell 3)
 have X4 : ∀ q : BW wz.heap.size wz, q.1.cell? ⟨gx, 4, none⟩ = some (.int .i64 qu) := fun q => q.cellAt HXX.out.lt (HXX.out.cell 4)
 have X5 : ∀ q : BW wz.heap.size wz, q.1.cell? ⟨gx, 5, none⟩ = some (.int .i64 vi) := fun q => q.cellAt HXX.out.lt (HXX.out.cell 5)
 have X6 : ∀ q : BW wz.heap.size wz, q.1.cell? ⟨gx, 6, none⟩ = some (.string nm) := fun q => q.cellAt HXX.out.lt (HXX.out.cell 6)
 have X7 : ∀ q : BW wz.heap.size wz, q.1.cell? ⟨gx, 7, none⟩ = some (.int .i64 dl) := fun q => q.cellAt HXX.out.lt (HXX.out.cell 7)
 have X8 : ∀ q : BW wz.heap.size wz, q.1.cell? ⟨gx, 8, none⟩ = some (.int .i64 jp) := fun q => q.cellAt HXX.out.lt (HXX.out.cell 8)
 have X9 : ∀ q : BW wz.heap.size wz, q.1.cell? ⟨gx, 9, none⟩ = some (.slice A m c) := fun q => q.cellAt HXX.out.lt (HXX.out.cell 9)
 have X10 : ∀ q : BW wz.heap.size wz, q.1.cell? ⟨gx, 10, none⟩ = some (.int .i64 now) := fun q => q.cellAt HXX.out.lt (HXX.out.cell 10)
 refine wp_region_ordT wz.heap.size [] (.val 0 (.val 1 (.val 2 (.val 3 (.val 5 (.val 6 (.op 4 (.op 7 (.val 8 (.val 9 (.val 10 (.val 11 (.val 12 (.nil)))))))))))))) (by kernel_rfl) (by kernel_rfl) ?_
 obtain ⟨wc, hwc⟩ : ∃ W, wz.drewN 1 = W := ⟨_, rfl⟩
 have HBW : Hid (Below wz.heap.size wz wc) := by rw [← hwc]; exact drewN_below wz 1
 rw [hwc]
 clear hwc
 iterate 6 ((first | refine wpOrdT_val rfl rfl ?_ | refine wpOrdT_load rfl rfl (inBW HBW.out) ?_); go_big_quiet_step (fail); refine wpQuiet_nil ?_)
 refine wpOrdT_op rfl ?_
 have CQ := hid (CFP.out wc (HB.out.trans (HBW.out.mono HB.out.size)))
 go_wp2_with fail
 refine CQ.out.mono ?_
 rintro en wn ⟨A2, c2, rfl, ho2, hb⟩
 have HBWn : Hid (Below wz.heap.size wz wn) := HBW.out.trans (hb.mono HBW.out.size)
 have HO2 := hid (ho2.base HBW.out.size)
 clear HBW hb CQ ho2
 have HBW := HBWn
 clear HBWn
 obtain ⟨wc, hwc⟩ : ∃ y, y = wn := ⟨_, rfl⟩
 subst hwc
 go_wp2_with fail
 refine KT.keep (inBW HBW.out) ?_
 refine wpOrdT_op rfl ?_
 have CQ := hid (CDN.out wc A2 c2 _ HO2.out)
 go_wp2_with fail
 refine CQ.out.mono ?_
 rintro en wn ⟨hb, q, rfl, hd⟩
 have HDD : Hid (er = 0 → ∃ w0 d B F, q = some ⟨d, 0, none⟩ ∧ wz.heap.size ≤ B ∧ DialAt B F w0 wn d X0) := fun h => by
  obtain ⟨w0, d, B, F, h1, h2, h3⟩ := hd h
  exact ⟨w0, d, B, F, h1, Nat.le_trans HBW.out.size h2, h3⟩
 have HBWn : Hid (Below wz.heap.size wz wn) := HBW.out.trans (hb.mono HBW.out.size)
 clear HBW hb CQ hd HO2
 have HBW := HBWn
 clear HBWn
 obtain ⟨wc, hwc⟩ : ∃ y, y = wn := ⟨_, rfl⟩
 subst hwc
 go_wp2_with fail
 refine KT.keep (inBW HBW.out) ?_
 iterate 5 (refine wpOrdT_val rfl rfl ?_; go_big_quiet_step (fail); refine wpQuiet_nil ?_)
 refine wpOrdT_nil ?_
 go_upto_region 2 with fail
 obtain ⟨w2, hw2⟩ : ∃ y, y = wc := ⟨_, rfl⟩
 subst hw2
 have HX2 := hid (HXX.out.below HBW.out HXX.out.lt)
 have HB2 : Hid (Below w.heap.size w w2) := HB.out.trans (HBW.out.mono HB.out.size)
 have HS2Z : Hid (gx < wz.heap.size ∧ wz.heap.size ≤ w2.heap.size ∧ w.heap.size ≤ wz.heap.size) := ⟨HXX.out.lt, HBW.out.size, HB.out.size⟩
 clear HXX HB HBW X00 X1 X2 X3 X4 X5 X6 X7 X8 X9 X10 CFP CDN
 by_cases h0 : er = 0
 case neg =>
  have hb0 : ((er : Int) != 0) = true := by simp; omega
  have HB3 := HB2
  go_wp2_with fail
  refine bodyPost_ret (res_threeF rfl rfl rfl Tryz.results58) rfl ?_
  exact HQ.out _ _ ⟨HB3.out, .inl rfl⟩
 have hgs := HGS.out h0
 subst hgs
 have HFR := hid (HR0.out h0)
 obtain ⟨w0, d, B0, F0, rfl, hB, hd⟩ := HDD.out h0
 have HD2 := hid hd
 have HBB := hid hB
 subst h0
 clear hB hd HDD HGS HR0
 have x0 : w2.cell? ⟨gx, 0, none⟩ = some (.int .i64 lv) := HX2.out.cell 0
 have x1 : w2.cell? ⟨gx, 1, none⟩ = some (.int .i64 rg) := HX2.out.cell 1
 have x2 : w2.cell? ⟨gx, 2, none⟩ = some (.int .i64 wn) := HX2.out.cell 2
 have x3 : w2.cell? ⟨gx, 3, none⟩ = some (.int .i64 ou) := HX2.out.cell 3
 have x4 : w2.cell? ⟨gx, 4, none⟩ = some (.int .i64 qu) := HX2.out.cell 4
 have x5 : w2.cell? ⟨gx, 5, none⟩ = some (.int .i64 vi) := HX2.out.cell 5
 have xl := HX2.out.lt
 go_wp2_with fail
 refine (CGD.out _).mono ?_
 rintro en w3 ⟨rfl, hb⟩
 have HX3 := hid (HX2.out.below hb HX2.out.lt)
 have HB3 : Hid (Below w.heap.size w w3) := HB2.out.trans (hb.mono HB2.out.size)
 have HD3 := hid (HD2.out.below hb)
 have HS3 : Hid (gx < w3.heap.size ∧ wz.heap.size ≤ w3.heap.size) := ⟨HX3.out.lt, Nat.le_trans HS2Z.out.2.1 hb.size⟩
 clear hb x0 x1 x2 x3 x4 x5 xl HX2 HB2 HD2 CGD
 have x1 : w3.cell? ⟨gx, 1, none⟩ = some (.int .i64 rg) := HX3.out.cell 1
 have x2 : w3.cell? ⟨gx, 2, none⟩ = some (.int .i64 wn) := HX3.out.cell 2
 have x11 : w3.cell? ⟨gx, 11, none⟩ = some (.slice B n k) := HX3.out.cell 11
 have xl := HX3.out.lt
 by_cases hw32 : (32 : Int) < wn
 case pos =>
  go_wp2_with fail
  refine bodyPost_ret (res_threeF rfl rfl rfl Tryz.results58) rfl ?_
  exact HQ.out _ _ ⟨HB3.out, .inl rfl⟩
 have hwn : ¬ (32 : Int) < wn := hw32
 by_cases hr64 : (64 : Int) < rg
 case pos =>
  go_wp2_with fail
  refine bodyPost_ret (res_threeF rfl rfl rfl Tryz.results58) rfl ?_
  exact HQ.out _ _ ⟨HB3.out, .inl rfl⟩
 have HRG : Hid (s2.ring ≤ 64) := by have := HS2.out; rw [Hid]; omega
 obtain ⟨wA, hwA⟩ : ∃ W, w3.alloc (.cells #[] 51) = W := ⟨_, rfl⟩
 have HOA : Hid (wA.ownsRow w3.heap.size 51 6 (.slice (some ⟨w3.heap.size, 0, none⟩) 0 0) 0 []) := by
  rw [Hid, ← hwA]
  have := World.ownsRow_made (base := w3.heap.size) (e := 51) (size := 6) w3 #[] 0 (Nat.le_refl _) (by simp [maxLen]) (by simp)
  simpa using this
 have HBA : Hid (Below w3.heap.size w3 wA) := by rw [← hwA]; exact (Below.refl _ _).alloc (Nat.le_refl _) _
 have HXA := hid (HX3.out.below HBA.out HX3.out.lt)
 have HWA := hid hwA
 clear hwA
 go_upto_region 4 with fail
 go_wp2_with fail
 rw [HWA.out]
 have HB4A : Hid (Below w.heap.size w wA) := HB3.out.trans (HBA.out.mono HB3.out.size)
 refine (CFI.out wA HB4A.out).mono ?_
 rintro en w6 ⟨g, c6, rfl, hown, hb⟩
 have HX6 := hid (HXA.out.below hb HXA.out.lt)
 have HB6 : Hid (Below w.heap.size w w6) := HB4A.out.trans (hb.mono HB4A.out.size)
 have HO6 := hid (own_below HOA.out hb)
 have HD6 := hid (HD3.out.below (HBA.out.trans (hb.mono HBA.out.size)))
 have HNF : Hid (∀ k, F0 k → B0 ≤ k ∧ k < w3.heap.size) := HD3.out.fin
 have HRD6 : Hid (Rd w6 (some ⟨g, 0, none⟩) (inVCells li)) := Rd_of_own hown
 have HG6 : Hid (w3.heap.size < g ∧ g < w6.heap.size) := by
  have h1 := hown.lt g rfl
  have h2 : wA.heap.size = w3.heap.size + 1 := by rw [← HWA.out]; simp
  rw [Hid]; omega
 have HS36 : Hid (w3.heap.size ≤ w6.heap.size ∧ B0 ≤ w3.heap.size ∧ w.heap.size ≤ B0) := ⟨Nat.le_trans HBA.out.size hb.size, HD3.out.base, by have := HBB.out; have := HB3.out.size; have := HS2Z.out; omega⟩
 clear hown hb x1 x2 x11 xl HX3 HXA HD3 CFI HOA HBA HB4A HWA
 clear wA
 obtain ⟨b1, hb1⟩ : ∃ y, w3.heap.size = y := ⟨_, rfl⟩
 rw [hb1] at HO6 HNF HG6 HS36 ⊢
 clear hb1
 have HST : Hid (LoopF B0 d b1 (fun k => F0 k ∨ k = b1) w0 w6 w6 X0 F0 (.slice (some ⟨b1, 0, none⟩) 0 0) []) := by
  refine ⟨HD6.out, HO6.out, Keep.refl _ _, fun k h => .inl (.inl h), fun k h => .inl (.inr ?_), fun k h hF => ?_, HFR.out.1⟩
  ·have h2 : b1 = k := Option.some.inj h
   exact h2.symm
  ·have h2 : b1 = k := Option.some.inj h
   have := HNF.out k hF; omega
 have HRI0 := hid HFR.out.2
 clear HD6 HO6 HFR
 go_wp2_with fail
 go_loopw [10, 7, 8] (fun iv ov nv wr => ∃ (i : Nat) (x : DialV) (F : Nat → Prop) (l : List StepV) (n : Nat), i ≤ ql ∧ iv = .int .i64 (i : Int) ∧ nv = .int .i64 (n : Int) ∧ l.length ≤ 6 * i ∧ n ≤ 64 * i ∧ RunI s2 pf x l n ∧ LoopF B0 d b1 (fun k => F0 k ∨ k = b1) w0 w6 wr x F ov l) (fun iv _ _ _ => ql - (intOf iv).toNat)
 case atStart => exact ⟨0, X0, F0, [], 0, by omega, rfl, rfl, Nat.zero_le _, Nat.zero_le _, HRI0.out, HST.out⟩
 case round =>
  obtain ⟨i, x, F, l, n, hi, rfl, rfl, hll, hnl, hri, hlp⟩ := hrel
  have HLL := hid hll; have HNL := hid hnl; have HRI := hid hri; have HLP := hid hlp
  have HBR : Hid (Below w.heap.size w wr) := HB6.out.trans (hlp.keep.below HB6.out.size (fun k hk => by have := HS36.out; have := HNF.out; rcases hk with hk | hk; have := HNF.out k hk; omega; omega))
  clear hll hnl hri hlp HST HRI0
  by_cases hlt : i < ql
  case neg =>
   have hlt2 : ¬ (i : Int) < (ql : Int) := by omega
   go_wp2_with fail
   refine bodyPost_ret (res_threeF rfl rfl rfl Tryz.results58) rfl ?_
   refine HQ.out _ _ ⟨HBR.out, .inr ⟨_, x, l, n, rfl, own_base HLP.out.own (by have := HS36.out; omega), by have := HLL.out; have := HLI.out; omega, by have := HNL.out; have := HLI.out; omega, HLP.out.dial.ok, HRI.out⟩⟩
  case pos =>
  have hli : i < li.length := by rw [HQL.out]; exact hlt
  have hget : li[i]? = some (li[i]'hli) := List.getElem?_eq_getElem hli
  have hII := HIO.out _ (List.getElem_mem hli)
  obtain ⟨iv, hiv⟩ : ∃ y, li[i]'hli = y := ⟨_, rfl⟩
  rw [hiv] at hget hII
  obtain ⟨ik, ib, inn, it⟩ := iv
  have HCL : Hid (∀ W, Keep (fun k => F0 k ∨ k = b1) w6 W → W.cell? ⟨g, i * 4, none⟩ = some (.int .i64 ik) ∧ W.cell? ⟨g, i * 4 + 1, none⟩ = some (.string ib) ∧ W.cell? ⟨g, i * 4 + 2, none⟩ = some (.int .i64 inn) ∧ W.cell? ⟨g, i * 4 + 3, none⟩ = some (.int .i64 it) ∧ g < W.heap.size) := fun W hk => by
   obtain ⟨bl, off, hA, hbl, hcc⟩ := (hk.rd HRD6.out (fun a ha hf => by
    injection ha with ha; subst ha
    have h2 := HG6.out
    rcases hf with hf | hf
    ·have h1 := HNF.out _ hf; simp only at h1; omega
    ·simp only at hf; omega)).at (by rw [inVCells_length]; omega)
   injection hA with hA
   injection hA with hA1 hA2
   subst hA1; subst hA2
   have hc : ∀ j u, j < 4 → (InV.mk ik ib inn it).cells[j]? = some u → W.cell? ⟨g, 0 + (i * 4 + j), none⟩ = some u := fun j u hj hu => hcc _ u ((inV_at li i _ hget j hj).trans hu)
   have c0 := hc 0 _ (by omega) rfl
   have c1 := hc 1 _ (by omega) rfl
   have c2 := hc 2 _ (by omega) rfl
   have c3 := hc 3 _ (by omega) rfl
   simp only [Nat.add_zero, ← Nat.add_assoc, Nat.zero_add] at c0 c1 c2 c3
   exact ⟨c0, c1, c2, c3, hbl⟩
  have HII : Hid (ib.size ≤ 9223372036854775807 ∧ I6 inn ∧ I6 it) := hII
  have hi2 : (i : Int) < (ql : Int) := by omega
  have hi60 : i ≤ 1000 := by have := HLI.out; omega
  clear hget hII hiv hli
  obtain ⟨c0, c1, c2, c3, hbl⟩ := HCL.out wr HLP.out.keep
  rcases Decidable.em (ik = 1) with k1 | k1
  ·have kb1 : (ik == 1) = true := by rw [beq_iff_eq]; exact k1
   have CP := hid (aPut HLP.out.dial ib HII.out.1)
   clear k1
   have hpl : (x.put ib).2 ≤ 64 := by
    have h1 := put_le x ib
    have h2 := HRG.out
    rw [HRI.out.es] at h1; omega
   have hnb : n ≤ 100000 := by have := HNL.out; omega
   have HPL := hid hpl
   obtain ⟨pt, hpt⟩ : ∃ y, (x.put ib).2 = y := ⟨_, rfl⟩
   rw [hpt] at CP hpl
   have HPT := hid hpt
   clear hpt
   go_wp2_with fail
   refine CP.out.mono ?_
   rintro en w7 ⟨rfl, hd, hk⟩
   have HR2 : Hid (RunI s2 pf ((x.put ib).1) l (n + (x.put ib).2)) := HRI.out.put ib
   have HP2 := hid (HLP.out.next hd hk (fit_put HLP.out.fit _))
   have HL2 : Hid (l.length ≤ 6 * (i + 1)) := by have := HLL.out; rw [Hid]; omega
   have HN2 : Hid (n + (x.put ib).2 ≤ 64 * (i + 1)) := by have := HNL.out; have := HPL.out; rw [Hid]; omega
   clear hd hk CP
   go_wp2_with fail
   go_roundw
   case rel => exact ⟨i + 1, (x.put ib).1, Fup F wr w7, l, n + (x.put ib).2, by omega, by go_num, (by rw [HPT.out, Int.natCast_add]), HL2.out, HN2.out, HR2.out, HP2.out⟩
   case measure => simp [intOf]; omega
  ·have kb1 : (ik == 1) = false := by rw [beq_eq_false_iff_ne]; exact k1
   rcases Decidable.em (ik = 2) with k2 | k2
   ·have kb2 : (ik == 2) = true := by rw [beq_iff_eq]; exact k2
    have CP := hid (aEof HLP.out.dial)
    clear k1 k2
    go_wp2_with fail
    refine CP.out.mono ?_
    rintro en w7 ⟨rfl, hd, hk⟩
    have HR2 : Hid (RunI s2 pf (x.ends) l (n)) := HRI.out.same (ends_moves x HRI.out.fl)
    have HP2 := hid (HLP.out.next hd hk (fit_ends HLP.out.fit))
    have HL2 : Hid (l.length ≤ 6 * (i + 1)) := by have := HLL.out; rw [Hid]; omega
    have HN2 : Hid (n ≤ 64 * (i + 1)) := by have := HNL.out; rw [Hid]; omega
    clear hd hk CP
    go_wp2_with fail
    go_roundw
    case rel => exact ⟨i + 1, x.ends, Fup F wr w7, l, n, by omega, by go_num, rfl, HL2.out, HN2.out, HR2.out, HP2.out⟩
    case measure => simp [intOf]; omega
   ·have kb2 : (ik == 2) = false := by rw [beq_eq_false_iff_ne]; exact k2
    rcases Decidable.em (ik = 3) with k3 | k3
    ·have kb3 : (ik == 3) = true := by rw [beq_iff_eq]; exact k3
     have CP := hid (aTake HLP.out.dial inn)
     clear k1 k2 k3
     go_wp2_with fail
     refine CP.out.mono ?_
     rintro en w7 ⟨rfl, hd, hk⟩
     have HR2 : Hid (RunI s2 pf (x.take inn) l (n)) := HRI.out.same (take_moves x HRI.out.fl inn)
     have HP2 := hid (HLP.out.next hd hk (fit_take HLP.out.fit _))
     have HL2 : Hid (l.length ≤ 6 * (i + 1)) := by have := HLL.out; rw [Hid]; omega
     have HN2 : Hid (n ≤ 64 * (i + 1)) := by have := HNL.out; rw [Hid]; omega
     clear hd hk CP
     go_wp2_with fail
     go_roundw
     case rel => exact ⟨i + 1, x.take inn, Fup F wr w7, l, n, by omega, by go_num, rfl, HL2.out, HN2.out, HR2.out, HP2.out⟩
     case measure => simp [intOf]; omega
    ·have kb3 : (ik == 3) = false := by rw [beq_eq_false_iff_ne]; exact k3
     rcases Decidable.em (ik = 4) with k4 | k4
     ·have kb4 : (ik == 4) = true := by rw [beq_iff_eq]; exact k4
      have CP := hid (aCut HLP.out.dial it HII.out.2.2)
      clear k1 k2 k3 k4
      go_wp2_with fail
      refine CP.out.mono ?_
      rintro en w7 ⟨rfl, hd, hk⟩
      have HR2 : Hid (RunI s2 pf (x.cuts it) l (n)) := HRI.out.same (cuts_moves x HRI.out.fl it)
      have HP2 := hid (HLP.out.next hd hk (fit_cuts HLP.out.fit _))
      have HL2 : Hid (l.length ≤ 6 * (i + 1)) := by have := HLL.out; rw [Hid]; omega
      have HN2 : Hid (n ≤ 64 * (i + 1)) := by have := HNL.out; rw [Hid]; omega
      clear hd hk CP
      go_wp2_with fail
      go_roundw
      case rel => exact ⟨i + 1, x.cuts it, Fup F wr w7, l, n, by omega, by go_num, rfl, HL2.out, HN2.out, HR2.out, HP2.out⟩
      case measure => simp [intOf]; omega
     ·have kb4 : (ik == 4) = false := by rw [beq_eq_false_iff_ne]; exact k4
      clear k1 k2 k3 k4
      have HN2 : Hid (n ≤ 64 * (i + 1)) := by have := HNL.out; rw [Hid]; omega
      go_wp2_with fail
      clear c0 c1 c2 c3 hbl
      go_loopw [11, 7] (fun kv ov wq => ∃ (kk : Nat) (x2 : DialV) (F2 : Nat → Prop) (l2 : List StepV), kk ≤ 6 ∧ kv = .int .i64 (kk : Int) ∧ l2.length ≤ 6 * i + kk ∧ RunI s2 pf x2 l2 n ∧ LoopF B0 d b1 (fun k => F0 k ∨ k = b1) w0 w6 wq x2 F2 ov l2) (fun kv _ _ => 6 - (intOf kv).toNat)
      case atStart => exact ⟨0, x, F, l, by omega, rfl, by have := HLL.out; omega, HRI.out, HLP.out⟩
      case round =>
       obtain ⟨kk, x2, F2, l2, hkk, rfl, hl2, hr2, hp2⟩ := hrel
       have HLL2 := hid hl2; have HRI2 := hid hr2; have HLP2 := hid hp2
       clear hl2 hr2 hp2 HLL HNL HRI HLP HBR
       by_cases hk6 : kk < 6
       case neg =>
        have hk62 : ¬ (kk : Int) < 6 := by omega
        have HL2 : Hid (l2.length ≤ 6 * (i + 1)) := by have := HLL2.out; rw [Hid]; omega
        go_wp2_with fail
        go_roundw
        case rel => exact ⟨i + 1, x2, F2, l2, n, by omega, by go_num, rfl, HL2.out, HN2.out, HRI2.out, HLP2.out⟩
        case measure => simp [intOf]; omega
       case pos =>
        have hk62 : (kk : Int) < 6 := by omega
        have CP := hid (aStep HLP2.out.dial HLP2.out.fit it HII.out.2.2.2)
        have HSM := hid (HRI2.out.step HLP2.out.dial.ok HLP2.out.fit it HII.out.2.2.2)
        have HFS := hid (fit_step HLP2.out.dial.ok HLP2.out.fit it HII.out.2.2.2)
        obtain ⟨⟨x3, ⟨tk, lc, wh, ar, nn, ss⟩, dd⟩, hst⟩ : ∃ y, x2.step it = y := ⟨_, rfl⟩
        rw [hst] at CP HSM HFS
        unfold StepV.val at CP
        simp only at CP HSM HFS
        clear hst
        obtain ⟨-, -, -, c3, hbl⟩ := HCL.out wr HLP2.out.keep
        go_wp2_with fail
        refine CP.out.mono ?_
        rintro en w7 ⟨rfl, hd, hk⟩
        have HL0 := hid (HLP2.out.next hd hk HFS.out)
        have hs7 : b1 ≤ w7.heap.size := by have h1 := HS36.out; have h2 := HLP2.out.keep.size; have h3 := hk.size; omega
        obtain ⟨F3, hF3⟩ : ∃ y, y = Fup F2 wr w7 := ⟨_, rfl⟩
        rw [← hF3] at HL0
        clear hd hk CP HLP2 HRI2 HFS hF3 c3 hbl
        go_upto_region 13 with fail
        generalize hw8 : w7.alloc (.cells #[.int .i64 tk, .int .i64 (lc : Int), .int .i64 (wh : Int), .int .i64 (ar : Int), .int .i64 (nn : Int), .int .i64 (ss : Int)] 51) = w8
        have HS8 : Hid (Blk w8 w7.heap.size 51 #[.int .i64 tk, .int .i64 (lc : Int), .int .i64 (wh : Int), .int .i64 (ar : Int), .int .i64 (nn : Int), .int .i64 (ss : Int)]) := by rw [← hw8]; exact Blk.new w7 _ _
        have hb8 : Below w7.heap.size w7 w8 := by rw [← hw8]; exact (Below.refl _ _).alloc (Nat.le_refl _) _
        have HL1 := hid (HL0.out.below hb8)
        have hs8 : b1 ≤ w8.heap.size := Nat.le_trans hs7 hb8.size
        obtain ⟨gs, hgs⟩ : ∃ y, w7.heap.size = y := ⟨_, rfl⟩
        rw [hgs] at HS8 ⊢
        clear hw8 hb8 hs7 HL0 hgs
        cases dd
        case false =>
         have HR3 := hid (HSM.out.1 rfl)
         have HL2 : Hid (l2.length ≤ 6 * (i + 1)) := by have := HLL2.out; rw [Hid]; omega
         go_wp2_with fail
         go_roundw
         case rel => exact ⟨i + 1, x3, F3, l2, n, by omega, by go_num, rfl, HL2.out, HN2.out, HR3.out, HL1.out⟩
         case measure => simp [intOf]; omega
        case true =>
         have HR3 := hid (HSM.out.2 rfl)
         have s0 := HS8.out.cell 0
         have s1 := HS8.out.cell 1
         have s2' := HS8.out.cell 2
         have s3 := HS8.out.cell 3
         have s4 := HS8.out.cell 4
         have s5 := HS8.out.cell 5
         have sl := HS8.out.lt
         go_wp2_with (at_builtin; refine wpList_append1K _ rfl _ _ 82 rfl b1 51 _ 6 48 Tryz.underlying82 Tryz.infoStp rfl (by decide) _ _ _ rfl HL1.out.own 1 [.int .i64 tk, .int .i64 (lc : Int), .int .i64 (wh : Int), .int .i64 (ar : Int), .int .i64 (nn : Int), .int .i64 (ss : Int)] rfl rfl rfl ?_ (by decide) hs8 ?_)
         ·have := HLL2.out; omega
         intro g5 c5 w9 hown5 hk5 hf5
         obtain ⟨l3, hl3⟩ : ∃ y, l2 ++ [(⟨tk, lc, wh, ar, nn, ss⟩ : StepV)] = y := ⟨_, rfl⟩
         have hlen : l3.length = l2.length + 1 := by rw [← hl3]; simp
         have HP3 := hid (HL1.out.app (l' := l3) HS36.out.2.1 hk5 (by rw [hlen, ← hl3, stVCells_append]; exact hown5) (fun k hv => by
          have h2 : g5 = k := Option.some.inj hv
          rw [← h2]; exact hf5))
         have HL3 : Hid (l3.length ≤ 6 * i + (kk + 1)) := by have := HLL2.out; rw [Hid]; omega
         rw [hl3] at HR3
         clear hown5 hk5 hf5 HL1 HS8 s0 s1 s2' s3 s4 s5 sl hs8 HSM HLL2 hlen hl3
         go_wp2_with fail
         go_roundw
         case rel => exact ⟨kk + 1, x3, F3, l3, by omega, by go_num, HL3.out, HR3.out, HP3.out⟩
         case measure => simp [intOf]; omega
end Go.Proofs.YtpkkfdmhbbipoaaGreat
