/- SoloFront: for all inputs the law answers true. No condition. -/
import Derived.Test.YtemhdkmijfngnaaGreatEc
import Derived.Test.YtemhdkmijfngnaaGreatMi
import Derived.Test.YtemhdkmijfngnaaGreatEb
namespace Go.Proofs.YtemhdkmijfngnaaGreat
open Go.RowKit PopT

theorem own_Rd {w : World} {base n c size : Nat} {e : TypeId} {A : Option Addr} {xs : List Value} (h : w.ownsRow base e size (.slice A n c) n xs) : Rd w A xs := Rd_of_own h
theorem own_under {w w' : World} {base B size n : Nat} {e : TypeId} {v : Value} {xs : List Value} {w1 : World} (h : w.ownsRow base e size v n xs) (hb : Below B w1 w) (hB : B ≤ base) (hs : B ≤ w.heap.size) (hk : Keep (fun k => v.ownBlock = some k) w w') : Below B w1 w' :=
  hb.trans (hk.below hs (fun k hk => Nat.le_trans hB (h.lt k hk).1))
theorem Rd_left {w : World} {A : Option Addr} {xs ys : List Value} (h : Rd w A (xs ++ ys)) : Rd w A xs := by
  rcases h with h | ⟨b, off, hA, hl, hc⟩
  · exact .inl (List.append_eq_nil_iff.1 h).1
  · exact .inr ⟨b, off, hA, hl, fun j u hu => hc j u (by rw [List.getElem?_append_left (List.getElem?_eq_some_iff.1 hu).1]; exact hu)⟩
theorem own_cap {w : World} {base n c size : Nat} {e : TypeId} {A : Option Addr} {xs : List Value} (h : w.ownsRow base e size (.slice A n c) n xs) : n ≤ c := by
  rcases h.2 with ⟨hv, h0⟩ | ⟨g, cap, cur, hv, _, _, hc, _⟩
  · omega
  · injection hv with _ _ h3; omega
theorem in_add (g j : Nat) : (⟨g, 0, none⟩ : Addr).add j = ⟨g, j, none⟩ := by unfold Addr.add; split <;> simp_all
theorem inV_one (l : List InV) : ∀ u ∈ inVCells l, u.oneCell' = true := by
  intro u hu
  unfold inVCells at hu
  obtain ⟨i, _, hi⟩ := List.mem_flatMap.1 hu
  unfold InV.cells at hi
  simp only [List.mem_cons, List.not_mem_nil, or_false] at hi
  rcases hi with rfl | rfl | rfl | rfl <;> rfl

set_option maxRecDepth 20000 in
set_option maxHeartbeats 16000000 in
theorem soloFront_any (A : Option Addr) (c : Nat) (B : Option Addr) (k : Nat) (C : Option Addr) (nq cq : Nat) (x : PlayV) (lq : List InV) (w : World) (hx : PlayOk w x A B) (hlq : lq.length = nq) (_hnq : nq ≤ 9223372036854775807) (hrq : Rd w C (inVCells lq)) (hiq : ∀ i ∈ lq, i.ok) :
    Calls Tryz.prog 5 #[x.val A c B k, .slice C nq cq] w fun e w' => e = .returned (.bool true) ∧ Below w.heap.size w w' := by
  have CFQ : Hid (∀ (W : World), Below w.heap.size w W → Calls Tryz.prog 16 #[.slice C nq cq, .int .i64 10] W fun e w' => ∃ g c', e = .returned (.slice (some ⟨g, 0, none⟩) (fewI lq 10).length c') ∧ w'.ownsRow W.heap.size 46 4 (.slice (some ⟨g, 0, none⟩) (fewI lq 10).length c') (fewI lq 10).length (inVCells (fewI lq 10)) ∧ Below W.heap.size W w') := fun W hb =>
    few22_any C nq cq lq 10 W hlq (hrq.below hb) hiq (by omega)
  have HIQ : Hid (∀ i ∈ fewI lq 10, i.ok) := fewI_ok hiq 10
  have HLQ : Hid ((fewI lq 10).length ≤ 10) := fewI_length lq 10
  obtain ⟨l2, hl2⟩ : ∃ y, fewI lq 10 = y := ⟨_, rfl⟩
  rw [hl2] at CFQ HIQ HLQ
  obtain ⟨n2, hn2⟩ : ∃ y, l2.length = y := ⟨_, rfl⟩
  have HN2 := hid hn2
  rw [hn2] at CFQ HLQ
  clear hl2 hn2 hlq hrq hiq _hnq
  obtain ⟨hop, hpok, hnow, hrd, hlen, hiok, -⟩ := hx
  have HLV : Hid (∀ W, Calls Tryz.prog 27 #[x.s.val] W fun e w' => e = .returned (.bool (smallM x.s)) ∧ Below W.heap.size W w') := fun W => light23_any x.s W
  have CFP : Hid (∀ W, Below w.heap.size w W → Calls Tryz.prog 30 #[x.p.val (.slice A x.p.ops.length c), .int .i64 9] W fun e w' => ∃ A' c', e = .returned ((fewP x.p 9).val (.slice A' (fewP x.p 9).ops.length c')) ∧ OpsOwn W.heap.size w' (.slice A' (fewP x.p 9).ops.length c') (fewP x.p 9).ops ∧ Below W.heap.size W w') := fun W hb =>
    fewP_any x.p A c 9 W (hop.below hb) hpok (by omega)
  have CFI : Hid (∀ (most : Nat) (W : World), most ≤ 1000 → Below w.heap.size w W → Calls Tryz.prog 16 #[.slice B x.l.length k, .int .i64 (most : Int)] W fun e w' => ∃ g c', e = .returned (.slice (some ⟨g, 0, none⟩) (fewI x.l most).length c') ∧ w'.ownsRow W.heap.size 46 4 (.slice (some ⟨g, 0, none⟩) (fewI x.l most).length c') (fewI x.l most).length (inVCells (fewI x.l most)) ∧ Below W.heap.size W w') := fun most W hm hb =>
    few22_any B x.l.length k x.l most W rfl (hrd.below hb) hiok hm
  have HRD : Hid (∀ W, Below w.heap.size w W → Rd W B (inVCells x.l)) := fun W hb => hrd.below hb
  have HIO := hid hiok
  have HNOW := hid hnow
  have HPO := hid (fewP_ok x.p 9 hpok)
  obtain ⟨s, p, now, l, ask⟩ := x
  unfold PlayV.val
  simp only at HLV CFP CFI HRD HIO HNOW HPO hlen ⊢
  obtain ⟨n, hnn⟩ : ∃ y, l.length = y := ⟨_, rfl⟩
  have HNL := hid hnn
  rw [hnn] at CFI ⊢
  obtain ⟨m, hmm⟩ : ∃ y, p.ops.length = y := ⟨_, rfl⟩
  have HML := hid hmm
  rw [hmm] at CFP ⊢
  obtain ⟨pf, hpf⟩ : ∃ y, fewP p 9 = y := ⟨_, rfl⟩
  have HPF := hid hpf
  rw [hpf] at CFP HPO
  clear hop hpok hnow hrd hlen hiok hnn hmm hpf
  have HRUN : Hid (∀ (W : World) (A' : Option Addr) (c' b0 : Nat) (AL : Option Addr) (q cl : Nat) (li : List InV), OpsOwn b0 W (.slice A' pf.ops.length c') pf.ops → li.length = q → (∀ i ∈ li, i.ok) → q ≤ 1000 → Rd W AL (inVCells li) →
      Calls Tryz.prog 29 #[s.val, pf.val (.slice A' pf.ops.length c'), .int .i64 now, .slice AL q cl] W fun e w' => ∃ A2 c2, e = .returned (.tuple #[.slice A2 (runO s pf now li).length c2, .int .i64 (runE s pf : Int)]) ∧
        w'.ownsRow W.heap.size 72 9 (.slice A2 (runO s pf now li).length c2) (runO s pf now li).length (outVCells (runO s pf now li)) ∧ Below W.heap.size W w') := fun W A' c' b0 AL q cl li h1 h2 h3 h4 h5 =>
    soloRun_any s pf A' c' b0 now AL q cl li W h1 HPO.out HNOW.out h2 h3 h4 h5
  obtain ⟨er, her⟩ : ∃ y, runE s pf = y := ⟨_, rfl⟩
  have HER := hid her
  rw [her] at HRUN
  obtain ⟨x0, hx0⟩ : ∃ y, (newV s pf now).come 0 = y := ⟨_, rfl⟩
  have HRO : Hid (∀ li, runO s pf now li = if er = 0 then runL x0 li else []) := fun li => by rw [← her, ← hx0]; rfl
  obtain ⟨RO, hRO⟩ : ∃ f, runO s pf now = f := ⟨_, rfl⟩
  rw [hRO] at HRUN HRO
  clear her hx0 hRO
  obtain ⟨sm, hsm⟩ : ∃ y, smallM s = y := ⟨_, rfl⟩
  rw [hsm] at HLV
  clear hsm
  obtain ⟨lv, rg, wn, ou, qu, vi⟩ := s
  obtain ⟨nm, dl, jp, ops⟩ := p
  obtain ⟨nm2, dl2, jp2, ops2⟩ := pf
  unfold SetV.val at HLV HRUN
  unfold ProgV.val at CFP HRUN
  simp only at HLV HRUN CFP ⊢
  obtain ⟨m2, hm2⟩ : ∃ y, ops2.length = y := ⟨_, rfl⟩
  rw [hm2] at CFP HRUN
  clear hm2 HML HER HPO HNOW
  have CF16 : Hid (∀ W, Below w.heap.size w W → Calls Tryz.prog 16 #[.slice B n k, .int .i64 16] W fun e w' => ∃ g c', e = .returned (.slice (some ⟨g, 0, none⟩) (fewI l 16).length c') ∧ w'.ownsRow W.heap.size 46 4 (.slice (some ⟨g, 0, none⟩) (fewI l 16).length c') (fewI l 16).length (inVCells (fewI l 16)) ∧ Below W.heap.size W w') := fun W hb => CFI.out 16 W (by omega) hb
  have HI1 : Hid (∀ i ∈ fewI l 16, i.ok) := fewI_ok HIO.out 16
  have HL1 : Hid ((fewI l 16).length ≤ 16) := fewI_length l 16
  obtain ⟨l1, hl1⟩ : ∃ y, fewI l 16 = y := ⟨_, rfl⟩
  rw [hl1] at CF16 HI1 HL1
  obtain ⟨n1, hn1⟩ : ∃ y, l1.length = y := ⟨_, rfl⟩
  have HN1 := hid hn1
  rw [hn1] at CF16 HL1
  clear hl1 hn1 CFI HRD HIO HNL HPF
  obtain ⟨wa, hwa⟩ : ∃ W, w.alloc (.cells #[.int .i64 lv, .int .i64 rg, .int .i64 wn, .int .i64 ou, .int .i64 qu, .int .i64 vi, .string nm, .int .i64 dl, .int .i64 jp, .slice A m c, .int .i64 now, .slice B n k, .int .i64 ask] 29) = W := ⟨_, rfl⟩
  have HBA : Hid (Below w.heap.size w wa) := by rw [← hwa]; exact (Below.refl _ _).alloc (Nat.le_refl _) _
  have HXA : Hid (Blk wa w.heap.size 29 #[.int .i64 lv, .int .i64 rg, .int .i64 wn, .int .i64 ou, .int .i64 qu, .int .i64 vi, .string nm, .int .i64 dl, .int .i64 jp, .slice A m c, .int .i64 now, .slice B n k, .int .i64 ask]) := by rw [← hwa]; exact Blk.new w _ _
  have HWA := hid hwa
  clear hwa
  obtain ⟨gb, hgb⟩ : ∃ y, w.heap.size = y := ⟨_, rfl⟩
  have HGB := hid hgb
  rw [hgb] at HXA
  clear hgb
  go_enter Tryz.func5, Tryz.ntmps5
  go_upto_region 1 with fail
  rw [HWA.out, HGB.out]
  clear HWA
  have x0 : wa.cell? ⟨gb, 0, none⟩ = some (.int .i64 lv) := HXA.out.cell 0
  have x1 : wa.cell? ⟨gb, 1, none⟩ = some (.int .i64 rg) := HXA.out.cell 1
  have x2 : wa.cell? ⟨gb, 2, none⟩ = some (.int .i64 wn) := HXA.out.cell 2
  have x3 : wa.cell? ⟨gb, 3, none⟩ = some (.int .i64 ou) := HXA.out.cell 3
  have x4 : wa.cell? ⟨gb, 4, none⟩ = some (.int .i64 qu) := HXA.out.cell 4
  have x5 : wa.cell? ⟨gb, 5, none⟩ = some (.int .i64 vi) := HXA.out.cell 5
  have hlx := HXA.out.lt
  go_wp2_with fail
  refine (HLV.out _).mono ?_
  rintro en w1 ⟨rfl, hb⟩
  have HB1 : Hid (Below w.heap.size w w1) := HBA.out.trans (hb.mono HBA.out.size)
  have HX1 := hid (HXA.out.below hb HXA.out.lt)
  clear hb x0 x1 x2 x3 x4 x5 hlx HXA HBA HLV
  cases sm
  · go_wp2_with fail
    refine (lives23_any _).mono ?_
    rintro en w2 ⟨rfl, hb⟩
    have HB2 := hid (HB1.out.trans (hb.mono HB1.out.size))
    clear hb
    go_wp2_with fail
    go_ret
    exact ⟨rfl, HB2.out⟩
  have x11 : w1.cell? ⟨gb, 11, none⟩ = some (.slice B n k) := HX1.out.cell 11
  have hlx := HX1.out.lt
  have CL := hid (CF16.out w1 HB1.out)
  go_wp2_with fail
  refine CL.out.mono ?_
  rintro en w2 ⟨g1, c1, rfl, hown, hb⟩
  have HB2 : Hid (Below w.heap.size w w2) := HB1.out.trans (hb.mono HB1.out.size)
  have HX2 := hid (HX1.out.below hb HX1.out.lt)
  clear hown hb CL x11 hlx HX1 HB1
  by_cases her : er = 0
  · subst her
    have HRQ := hid (fun li => (HRO.out li).trans (if_pos rfl))
    clear HRO
    go_upto_region 4 with fail
    have X0 : ∀ q : BW w2.heap.size w2, q.1.cell? ⟨gb, 0, none⟩ = some (.int .i64 lv) := fun q => q.cellAt HX2.out.lt (HX2.out.cell 0)
    have X1 : ∀ q : BW w2.heap.size w2, q.1.cell? ⟨gb, 1, none⟩ = some (.int .i64 rg) := fun q => q.cellAt HX2.out.lt (HX2.out.cell 1)
    have X2 : ∀ q : BW w2.heap.size w2, q.1.cell? ⟨gb, 2, none⟩ = some (.int .i64 wn) := fun q => q.cellAt HX2.out.lt (HX2.out.cell 2)
    have X3 : ∀ q : BW w2.heap.size w2, q.1.cell? ⟨gb, 3, none⟩ = some (.int .i64 ou) := fun q => q.cellAt HX2.out.lt (HX2.out.cell 3)
    have X4 : ∀ q : BW w2.heap.size w2, q.1.cell? ⟨gb, 4, none⟩ = some (.int .i64 qu) := fun q => q.cellAt HX2.out.lt (HX2.out.cell 4)
    have X5 : ∀ q : BW w2.heap.size w2, q.1.cell? ⟨gb, 5, none⟩ = some (.int .i64 vi) := fun q => q.cellAt HX2.out.lt (HX2.out.cell 5)
    have X6 : ∀ q : BW w2.heap.size w2, q.1.cell? ⟨gb, 6, none⟩ = some (.string nm) := fun q => q.cellAt HX2.out.lt (HX2.out.cell 6)
    have X7 : ∀ q : BW w2.heap.size w2, q.1.cell? ⟨gb, 7, none⟩ = some (.int .i64 dl) := fun q => q.cellAt HX2.out.lt (HX2.out.cell 7)
    have X8 : ∀ q : BW w2.heap.size w2, q.1.cell? ⟨gb, 8, none⟩ = some (.int .i64 jp) := fun q => q.cellAt HX2.out.lt (HX2.out.cell 8)
    have X9 : ∀ q : BW w2.heap.size w2, q.1.cell? ⟨gb, 9, none⟩ = some (.slice A m c) := fun q => q.cellAt HX2.out.lt (HX2.out.cell 9)
    have X10 : ∀ q : BW w2.heap.size w2, q.1.cell? ⟨gb, 10, none⟩ = some (.int .i64 now) := fun q => q.cellAt HX2.out.lt (HX2.out.cell 10)
    have X11 : ∀ q : BW w2.heap.size w2, q.1.cell? ⟨gb, 11, none⟩ = some (.slice B n k) := fun q => q.cellAt HX2.out.lt (HX2.out.cell 11)
    refine wp_region_ordT w2.heap.size [] (.val 0 (.val 1 (.val 2 (.val 3 (.val 5 (.val 6 (.val 7 (.val 8 (.op 4 (.op 9 (.op 10 (.val 11 (.val 12 (.val 13 (.val 14 (.val 15 (.nil))))))))))))))))) (by kernel_rfl) (by kernel_rfl) ?_
    obtain ⟨wc, hwc⟩ : ∃ W, w2.drewN 1 = W := ⟨_, rfl⟩
    have HBW : Hid (Below w2.heap.size w2 wc) := by rw [← hwc]; exact drewN_below w2 1
    rw [hwc]
    clear hwc
    refine wpOrdT_val rfl rfl ?_
    go_big_quiet_step (fail)
    refine wpQuiet_nil ?_
    refine wpOrdT_load rfl rfl (inBW HBW.out) ?_
    go_big_quiet_step (fail)
    refine wpQuiet_nil ?_
    refine wpOrdT_val rfl rfl ?_
    go_big_quiet_step (fail)
    refine wpQuiet_nil ?_
    refine wpOrdT_load rfl rfl (inBW HBW.out) ?_
    go_big_quiet_step (fail)
    refine wpQuiet_nil ?_
    refine wpOrdT_val rfl rfl ?_
    go_big_quiet_step (fail)
    refine wpQuiet_nil ?_
    refine wpOrdT_load rfl rfl (inBW HBW.out) ?_
    go_big_quiet_step (fail)
    refine wpQuiet_nil ?_
    refine wpOrdT_val rfl rfl ?_
    go_big_quiet_step (fail)
    refine wpQuiet_nil ?_
    refine wpOrdT_load rfl rfl (inBW HBW.out) ?_
    go_big_quiet_step (fail)
    refine wpQuiet_nil ?_
    refine wpOrdT_op rfl ?_
    have CP := hid (CFP.out wc (HB2.out.trans (HBW.out.mono HB2.out.size)))
    go_wp2_with fail
    refine CP.out.mono ?_
    rintro en wd ⟨A3, c3, rfl, ho, hb⟩
    have HO3 := hid ho
    have HBX : Hid (Below w2.heap.size w2 wd) := HBW.out.trans (hb.mono HBW.out.size)
    clear ho hb CP
    have HBW := HBX
    go_wp2_with fail
    refine KT.keep (inBW HBX.out) ?_
    refine wpOrdT_op rfl ?_
    have CL := hid (CF16.out wd (HB2.out.trans (HBX.out.mono HB2.out.size)))
    go_wp2_with fail
    refine CL.out.mono ?_
    rintro en we ⟨g4, c4, rfl, ho, hb⟩
    have HR4 := hid (own_Rd ho)
    have HO4 := hid (HO3.out.below hb (Nat.le_refl _))
    have HBY : Hid (Below w2.heap.size w2 we) := HBX.out.trans (hb.mono HBX.out.size)
    clear ho hb CL
    have HBX := HBY
    go_wp2_with fail
    refine KT.keep (inBW HBX.out) ?_
    refine wpOrdT_op rfl ?_
    have CR := (HRUN.out we A3 c3 _ (some ⟨g4, 0, none⟩) n1 c4 l1 HO4.out HN1.out HI1.out (by have := HL1.out; omega) HR4.out)
    have hrl : (RO l1).length = n1 := by rw [HRQ.out, runL_length, HN1.out]
    rw [hrl] at CR
    clear hrl
    have CR := hid CR
    go_wp2_with fail
    refine CR.out.mono ?_
    rintro en wf ⟨A5, c5, rfl, ho, hb⟩
    have HOA := hid ho
    have HBZ : Hid (Below w2.heap.size w2 wf) := HBY.out.trans (hb.mono HBY.out.size)
    clear ho hb CR
    go_wp2_with fail
    have HBX := HBZ
    refine KT.keep (inBW HBX.out) ?_
    refine wpOrdT_val rfl rfl ?_
    go_big_quiet_step (fail)
    refine wpQuiet_nil ?_
    refine wpOrdT_val rfl rfl ?_
    go_big_quiet_step (fail)
    refine wpQuiet_nil ?_
    refine wpOrdT_val rfl rfl ?_
    go_big_quiet_step (fail)
    refine wpQuiet_nil ?_
    refine wpOrdT_val rfl rfl ?_
    go_big_quiet_step (fail)
    refine wpQuiet_nil ?_
    refine wpOrdT_val rfl rfl ?_
    go_big_quiet_step (fail)
    refine wpQuiet_nil ?_
    refine wpOrdT_nil ?_
    clear X0 X1 X2 X3 X4 X5 X6 X7 X8 X9 X10 X11 HO3 HO4 HR4
    have HX3 := hid (HX2.out.below HBZ.out HX2.out.lt)
    have HB3 : Hid (Below w.heap.size w wf) := HB2.out.trans (HBZ.out.mono HB2.out.size)
    clear HX2 HB2 HBW HBX HBY HBZ
    go_upto_region 5 with fail
    have X0 : ∀ q : BW wf.heap.size wf, q.1.cell? ⟨gb, 0, none⟩ = some (.int .i64 lv) := fun q => q.cellAt HX3.out.lt (HX3.out.cell 0)
    have X1 : ∀ q : BW wf.heap.size wf, q.1.cell? ⟨gb, 1, none⟩ = some (.int .i64 rg) := fun q => q.cellAt HX3.out.lt (HX3.out.cell 1)
    have X2 : ∀ q : BW wf.heap.size wf, q.1.cell? ⟨gb, 2, none⟩ = some (.int .i64 wn) := fun q => q.cellAt HX3.out.lt (HX3.out.cell 2)
    have X3 : ∀ q : BW wf.heap.size wf, q.1.cell? ⟨gb, 3, none⟩ = some (.int .i64 ou) := fun q => q.cellAt HX3.out.lt (HX3.out.cell 3)
    have X4 : ∀ q : BW wf.heap.size wf, q.1.cell? ⟨gb, 4, none⟩ = some (.int .i64 qu) := fun q => q.cellAt HX3.out.lt (HX3.out.cell 4)
    have X5 : ∀ q : BW wf.heap.size wf, q.1.cell? ⟨gb, 5, none⟩ = some (.int .i64 vi) := fun q => q.cellAt HX3.out.lt (HX3.out.cell 5)
    have X6 : ∀ q : BW wf.heap.size wf, q.1.cell? ⟨gb, 6, none⟩ = some (.string nm) := fun q => q.cellAt HX3.out.lt (HX3.out.cell 6)
    have X7 : ∀ q : BW wf.heap.size wf, q.1.cell? ⟨gb, 7, none⟩ = some (.int .i64 dl) := fun q => q.cellAt HX3.out.lt (HX3.out.cell 7)
    have X8 : ∀ q : BW wf.heap.size wf, q.1.cell? ⟨gb, 8, none⟩ = some (.int .i64 jp) := fun q => q.cellAt HX3.out.lt (HX3.out.cell 8)
    have X9 : ∀ q : BW wf.heap.size wf, q.1.cell? ⟨gb, 9, none⟩ = some (.slice A m c) := fun q => q.cellAt HX3.out.lt (HX3.out.cell 9)
    have X10 : ∀ q : BW wf.heap.size wf, q.1.cell? ⟨gb, 10, none⟩ = some (.int .i64 now) := fun q => q.cellAt HX3.out.lt (HX3.out.cell 10)
    have X11 : ∀ q : BW wf.heap.size wf, q.1.cell? ⟨gb, 11, none⟩ = some (.slice B n k) := fun q => q.cellAt HX3.out.lt (HX3.out.cell 11)
    refine wp_region_ordT wf.heap.size [] (.val 0 (.val 1 (.val 2 (.val 3 (.val 5 (.val 6 (.val 7 (.val 8 (.val 10 (.op 4 (.op 9 (.op 11 (.op 12 (.op 13 (.val 14 (.val 15 (.val 16 (.val 17 (.val 18 (.nil)))))))))))))))))))) (by kernel_rfl) (by kernel_rfl) ?_
    obtain ⟨wc, hwc⟩ : ∃ W, wf.drewN 1 = W := ⟨_, rfl⟩
    have HBW : Hid (Below wf.heap.size wf wc) := by rw [← hwc]; exact drewN_below wf 1
    rw [hwc]
    clear hwc
    refine wpOrdT_val rfl rfl ?_
    go_big_quiet_step (fail)
    refine wpQuiet_nil ?_
    refine wpOrdT_load rfl rfl (inBW HBW.out) ?_
    go_big_quiet_step (fail)
    refine wpQuiet_nil ?_
    refine wpOrdT_val rfl rfl ?_
    go_big_quiet_step (fail)
    refine wpQuiet_nil ?_
    refine wpOrdT_load rfl rfl (inBW HBW.out) ?_
    go_big_quiet_step (fail)
    refine wpQuiet_nil ?_
    refine wpOrdT_val rfl rfl ?_
    go_big_quiet_step (fail)
    refine wpQuiet_nil ?_
    refine wpOrdT_load rfl rfl (inBW HBW.out) ?_
    go_big_quiet_step (fail)
    refine wpQuiet_nil ?_
    refine wpOrdT_val rfl rfl ?_
    go_big_quiet_step (fail)
    refine wpQuiet_nil ?_
    refine wpOrdT_load rfl rfl (inBW HBW.out) ?_
    go_big_quiet_step (fail)
    refine wpQuiet_nil ?_
    refine wpOrdT_val rfl rfl ?_
    go_big_quiet_step (fail)
    refine wpQuiet_nil ?_
    refine wpOrdT_op rfl ?_
    have CP := hid (CFP.out wc (HB3.out.trans (HBW.out.mono HB3.out.size)))
    go_wp2_with fail
    refine CP.out.mono ?_
    rintro en wd ⟨A3, c3, rfl, ho, hb⟩
    have HO3 := hid ho
    have HBX : Hid (Below wf.heap.size wf wd) := HBW.out.trans (hb.mono HBW.out.size)
    clear ho hb CP
    have HBW := HBX
    go_wp2_with fail
    refine KT.keep (inBW HBX.out) ?_
    refine wpOrdT_op rfl ?_
    have CL := hid (CF16.out wd (HB3.out.trans (HBX.out.mono HB3.out.size)))
    go_wp2_with fail
    refine CL.out.mono ?_
    rintro en we ⟨g4, c4, rfl, ho, hb⟩
    have HBE : Hid (Below wd.heap.size wd we) := hb
    have HR4 := hid ho
    have HBY : Hid (Below wf.heap.size wf we) := HBX.out.trans (hb.mono HBX.out.size)
    have HSD : Hid (wf.heap.size ≤ wd.heap.size ∧ wd.heap.size ≤ we.heap.size) := ⟨HBX.out.size, hb.size⟩
    clear ho hb CL
    have HBX := HBY
    go_wp2_with fail
    refine KT.keep (inBW HBX.out) ?_
    refine wpOrdT_op rfl ?_
    have CL := hid (CFQ.out we (HB3.out.trans (HBY.out.mono HB3.out.size)))
    go_wp2_with fail
    refine CL.out.mono ?_
    rintro en wh ⟨g6, c6, rfl, ho, hb⟩
    have HBD : Hid (Below wd.heap.size wd wh) := HBE.out.trans (hb.mono HBE.out.size)
    have HR6 := hid (own_below HR4.out hb)
    have HR7 := hid ho
    have HBV : Hid (Below wf.heap.size wf wh) := HBY.out.trans (hb.mono HBY.out.size)
    have HSH : Hid (we.heap.size ≤ wh.heap.size) := hb.size
    clear ho hb CL
    have HBX := HBV
    go_wp2_with fail
    refine KT.keep (inBW HBX.out) ?_
    refine wpOrdT_op rfl ?_
    have hbase : wd.heap.size ≤ wh.heap.size := Nat.le_trans HSD.out.2 HSH.out
    have hn16 := HL1.out
    have hn10 := HLQ.out
    go_wp2_with (at_builtin; refine wpList_appendK _ rfl _ _ 27 rfl wd.heap.size 46 _ 4 40 Tryz.underlying27 Tryz.infoIn rfl (by decide) _ n1 _ rfl HR6.out ⟨g6, 0, none⟩ n2 c6 (inVCells l2) rfl (by rw [inVCells_length, HN2.out]) (fun j u hu => by rw [in_add]; exact own_cells HR7.out j u hu) (inV_one l2) ?_ (by decide) hbase ?_)
    · omega
    intro A7 c7 wi hown7 hk7 hf7
    have HR8 : Hid (Rd wi A7 (inVCells (l1 ++ l2))) := by rw [Hid, inVCells_append]; exact own_Rd hown7
    have HBU : Hid (Below wf.heap.size wf wi) := own_under HR6.out HBV.out HSD.out.1 (Nat.le_trans HSD.out.1 hbase) hk7
    have HO8 : Hid (OpsOwn wc.heap.size wi (.slice A3 m2 c3) ops2) := HO3.out.below (own_under HR6.out HBD.out (Nat.le_refl _) hbase hk7) (Nat.le_refl _)
    clear hown7 hk7 hf7 hbase
    have HBX := HBU
    go_wp2_with fail
    refine KT.keep (inBW HBX.out) ?_
    refine wpOrdT_op rfl ?_
    have CR := HRUN.out wi A3 c3 _ A7 (n1 + n2) c7 (l1 ++ l2) HO8.out (by rw [List.length_append, HN1.out, HN2.out]) (fun i hi => (List.mem_append.1 hi).elim (HI1.out i) (HIQ.out i)) (by have := HL1.out; have := HLQ.out; omega) HR8.out
    have hrl : (RO (l1 ++ l2)).length = n1 + n2 := by rw [HRQ.out, runL_length, List.length_append, HN1.out, HN2.out]
    rw [hrl] at CR
    clear hrl
    have CR := hid CR
    go_wp2_with fail
    refine CR.out.mono ?_
    rintro en wj ⟨A9, c9, rfl, ho, hb⟩
    have HOB := hid ho
    have HBZ : Hid (Below wf.heap.size wf wj) := HBU.out.trans (hb.mono HBU.out.size)
    clear ho hb CR
    go_wp2_with fail
    have HBX := HBZ
    refine KT.keep (inBW HBX.out) ?_
    refine wpOrdT_val rfl rfl ?_
    go_big_quiet_step (fail)
    refine wpQuiet_nil ?_
    refine wpOrdT_val rfl rfl ?_
    go_big_quiet_step (fail)
    refine wpQuiet_nil ?_
    refine wpOrdT_val rfl rfl ?_
    go_big_quiet_step (fail)
    refine wpQuiet_nil ?_
    refine wpOrdT_val rfl rfl ?_
    go_big_quiet_step (fail)
    refine wpQuiet_nil ?_
    refine wpOrdT_val rfl rfl ?_
    go_big_quiet_step (fail)
    refine wpQuiet_nil ?_
    refine wpOrdT_nil ?_
    clear X0 X1 X2 X3 X4 X5 X6 X7 X8 X9 X10 X11 HO3 HO8 HR4 HR6 HR7 HR8 HX3
    have HOA2 := hid (own_below HOA.out HBZ.out)
    have HB4 : Hid (Below w.heap.size w wj) := HB3.out.trans (HBZ.out.mono HB3.out.size)
    clear HB3 HBW HBX HBY HBV HBU HBZ HOA HBE HBD
    have hnn : (n1 : Int) ≤ (n1 + n2 : Nat) := by omega
    have hq : n1 ≤ n1 + n2 := by omega
    obtain ⟨nb, hnb⟩ : ∃ y, n1 + n2 = y := ⟨_, rfl⟩
    rw [hnb] at HOB hnn hq ⊢
    have HRA : Hid (Rd wj A5 (outVCells (RO l1))) := own_Rd HOA2.out
    have HRB : Hid (Rd wj A9 (outVCells (RO l1))) := by
      have h1 : Rd wj A9 (outVCells (RO (l1 ++ l2))) := own_Rd HOB.out
      rw [HRQ.out, runL_append, outVCells_append, ← HRQ.out l1] at h1
      exact Rd_left h1
    have HNA : Hid ((RO l1).length = n1) := by rw [Hid, HRQ.out, runL_length, HN1.out]
    have HL16 := HL1.out
    have hcb : nb ≤ c9 := own_cap HOB.out
    have hcc : n1 ≤ c9 := by omega
    clear hnb HOA2 HOB
    go_upto_region 8 with fail
    have CA := hid (fun W (hb : Below wj.heap.size wj W) => alike_any A5 n1 c5 A9 n1 c9 (RO l1) W HNA.out rfl (by omega) (HRA.out.below hb) (HRB.out.below hb))
    go_wp2_with fail
    refine (CA.out _ (Below.refl _ _)).mono ?_
    rintro en wl ⟨rfl, hb⟩
    have HB5 := hid (HB4.out.trans (hb.mono HB4.out.size))
    clear hb CA
    go_wp2_with fail
    refine (lives23_any _).mono ?_
    rintro en wm ⟨rfl, hb⟩
    have HB6 := hid (HB5.out.trans (hb.mono HB5.out.size))
    clear hb
    go_wp2_with fail
    go_ret
    exact ⟨rfl, HB6.out⟩
  · have her0 : ((er : Int) == 0) = false := by rw [beq_eq_false_iff_ne]; omega
    have HROZ : Hid (∀ li, RO li = []) := fun li => (HRO.out li).trans (if_neg her)
    have her2 : ¬ ((er : Int) = 0) := by omega
    have her3 : (er == 0) = false := by rw [beq_eq_false_iff_ne]; exact her
    clear HRO
    go_upto_region 4 with fail
    have X0 : ∀ q : BW w2.heap.size w2, q.1.cell? ⟨gb, 0, none⟩ = some (.int .i64 lv) := fun q => q.cellAt HX2.out.lt (HX2.out.cell 0)
    have X1 : ∀ q : BW w2.heap.size w2, q.1.cell? ⟨gb, 1, none⟩ = some (.int .i64 rg) := fun q => q.cellAt HX2.out.lt (HX2.out.cell 1)
    have X2 : ∀ q : BW w2.heap.size w2, q.1.cell? ⟨gb, 2, none⟩ = some (.int .i64 wn) := fun q => q.cellAt HX2.out.lt (HX2.out.cell 2)
    have X3 : ∀ q : BW w2.heap.size w2, q.1.cell? ⟨gb, 3, none⟩ = some (.int .i64 ou) := fun q => q.cellAt HX2.out.lt (HX2.out.cell 3)
    have X4 : ∀ q : BW w2.heap.size w2, q.1.cell? ⟨gb, 4, none⟩ = some (.int .i64 qu) := fun q => q.cellAt HX2.out.lt (HX2.out.cell 4)
    have X5 : ∀ q : BW w2.heap.size w2, q.1.cell? ⟨gb, 5, none⟩ = some (.int .i64 vi) := fun q => q.cellAt HX2.out.lt (HX2.out.cell 5)
    have X6 : ∀ q : BW w2.heap.size w2, q.1.cell? ⟨gb, 6, none⟩ = some (.string nm) := fun q => q.cellAt HX2.out.lt (HX2.out.cell 6)
    have X7 : ∀ q : BW w2.heap.size w2, q.1.cell? ⟨gb, 7, none⟩ = some (.int .i64 dl) := fun q => q.cellAt HX2.out.lt (HX2.out.cell 7)
    have X8 : ∀ q : BW w2.heap.size w2, q.1.cell? ⟨gb, 8, none⟩ = some (.int .i64 jp) := fun q => q.cellAt HX2.out.lt (HX2.out.cell 8)
    have X9 : ∀ q : BW w2.heap.size w2, q.1.cell? ⟨gb, 9, none⟩ = some (.slice A m c) := fun q => q.cellAt HX2.out.lt (HX2.out.cell 9)
    have X10 : ∀ q : BW w2.heap.size w2, q.1.cell? ⟨gb, 10, none⟩ = some (.int .i64 now) := fun q => q.cellAt HX2.out.lt (HX2.out.cell 10)
    have X11 : ∀ q : BW w2.heap.size w2, q.1.cell? ⟨gb, 11, none⟩ = some (.slice B n k) := fun q => q.cellAt HX2.out.lt (HX2.out.cell 11)
    refine wp_region_ordT w2.heap.size [] (.val 0 (.val 1 (.val 2 (.val 3 (.val 5 (.val 6 (.val 7 (.val 8 (.op 4 (.op 9 (.op 10 (.val 11 (.val 12 (.val 13 (.val 14 (.val 15 (.nil))))))))))))))))) (by kernel_rfl) (by kernel_rfl) ?_
    obtain ⟨wc, hwc⟩ : ∃ W, w2.drewN 1 = W := ⟨_, rfl⟩
    have HBW : Hid (Below w2.heap.size w2 wc) := by rw [← hwc]; exact drewN_below w2 1
    rw [hwc]
    clear hwc
    refine wpOrdT_val rfl rfl ?_
    go_big_quiet_step (fail)
    refine wpQuiet_nil ?_
    refine wpOrdT_load rfl rfl (inBW HBW.out) ?_
    go_big_quiet_step (fail)
    refine wpQuiet_nil ?_
    refine wpOrdT_val rfl rfl ?_
    go_big_quiet_step (fail)
    refine wpQuiet_nil ?_
    refine wpOrdT_load rfl rfl (inBW HBW.out) ?_
    go_big_quiet_step (fail)
    refine wpQuiet_nil ?_
    refine wpOrdT_val rfl rfl ?_
    go_big_quiet_step (fail)
    refine wpQuiet_nil ?_
    refine wpOrdT_load rfl rfl (inBW HBW.out) ?_
    go_big_quiet_step (fail)
    refine wpQuiet_nil ?_
    refine wpOrdT_val rfl rfl ?_
    go_big_quiet_step (fail)
    refine wpQuiet_nil ?_
    refine wpOrdT_load rfl rfl (inBW HBW.out) ?_
    go_big_quiet_step (fail)
    refine wpQuiet_nil ?_
    refine wpOrdT_op rfl ?_
    have CP := hid (CFP.out wc (HB2.out.trans (HBW.out.mono HB2.out.size)))
    go_wp2_with fail
    refine CP.out.mono ?_
    rintro en wd ⟨A3, c3, rfl, ho, hb⟩
    have HO3 := hid ho
    have HBX : Hid (Below w2.heap.size w2 wd) := HBW.out.trans (hb.mono HBW.out.size)
    clear ho hb CP
    have HBW := HBX
    go_wp2_with fail
    refine KT.keep (inBW HBX.out) ?_
    refine wpOrdT_op rfl ?_
    have CL := hid (CF16.out wd (HB2.out.trans (HBX.out.mono HB2.out.size)))
    go_wp2_with fail
    refine CL.out.mono ?_
    rintro en we ⟨g4, c4, rfl, ho, hb⟩
    have HR4 := hid (own_Rd ho)
    have HO4 := hid (HO3.out.below hb (Nat.le_refl _))
    have HBY : Hid (Below w2.heap.size w2 we) := HBX.out.trans (hb.mono HBX.out.size)
    clear ho hb CL
    have HBX := HBY
    go_wp2_with fail
    refine KT.keep (inBW HBX.out) ?_
    refine wpOrdT_op rfl ?_
    have CR := (HRUN.out we A3 c3 _ (some ⟨g4, 0, none⟩) n1 c4 l1 HO4.out HN1.out HI1.out (by have := HL1.out; omega) HR4.out)
    have hrl : (RO l1).length = 0 := by rw [HROZ.out]; rfl
    rw [hrl] at CR
    clear hrl
    have CR := hid CR
    go_wp2_with fail
    refine CR.out.mono ?_
    rintro en wf ⟨A5, c5, rfl, ho, hb⟩
    have HOA := hid ho
    have HBZ : Hid (Below w2.heap.size w2 wf) := HBY.out.trans (hb.mono HBY.out.size)
    clear ho hb CR
    go_wp2_with fail
    have HBX := HBZ
    refine KT.keep (inBW HBX.out) ?_
    refine wpOrdT_val rfl rfl ?_
    go_big_quiet_step (fail)
    refine wpQuiet_nil ?_
    refine wpOrdT_val rfl rfl ?_
    go_big_quiet_step (fail)
    refine wpQuiet_nil ?_
    refine wpOrdT_val rfl rfl ?_
    go_big_quiet_step (fail)
    refine wpQuiet_nil ?_
    refine wpOrdT_val rfl rfl ?_
    go_big_quiet_step (fail)
    refine wpQuiet_nil ?_
    refine wpOrdT_val rfl rfl ?_
    go_big_quiet_step (fail)
    refine wpQuiet_nil ?_
    refine wpOrdT_nil ?_
    clear X0 X1 X2 X3 X4 X5 X6 X7 X8 X9 X10 X11 HO3 HO4 HR4
    have HX3 := hid (HX2.out.below HBZ.out HX2.out.lt)
    have HB3 : Hid (Below w.heap.size w wf) := HB2.out.trans (HBZ.out.mono HB2.out.size)
    clear HX2 HB2 HBW HBX HBY HBZ
    go_upto_region 5 with fail
    have X0 : ∀ q : BW wf.heap.size wf, q.1.cell? ⟨gb, 0, none⟩ = some (.int .i64 lv) := fun q => q.cellAt HX3.out.lt (HX3.out.cell 0)
    have X1 : ∀ q : BW wf.heap.size wf, q.1.cell? ⟨gb, 1, none⟩ = some (.int .i64 rg) := fun q => q.cellAt HX3.out.lt (HX3.out.cell 1)
    have X2 : ∀ q : BW wf.heap.size wf, q.1.cell? ⟨gb, 2, none⟩ = some (.int .i64 wn) := fun q => q.cellAt HX3.out.lt (HX3.out.cell 2)
    have X3 : ∀ q : BW wf.heap.size wf, q.1.cell? ⟨gb, 3, none⟩ = some (.int .i64 ou) := fun q => q.cellAt HX3.out.lt (HX3.out.cell 3)
    have X4 : ∀ q : BW wf.heap.size wf, q.1.cell? ⟨gb, 4, none⟩ = some (.int .i64 qu) := fun q => q.cellAt HX3.out.lt (HX3.out.cell 4)
    have X5 : ∀ q : BW wf.heap.size wf, q.1.cell? ⟨gb, 5, none⟩ = some (.int .i64 vi) := fun q => q.cellAt HX3.out.lt (HX3.out.cell 5)
    have X6 : ∀ q : BW wf.heap.size wf, q.1.cell? ⟨gb, 6, none⟩ = some (.string nm) := fun q => q.cellAt HX3.out.lt (HX3.out.cell 6)
    have X7 : ∀ q : BW wf.heap.size wf, q.1.cell? ⟨gb, 7, none⟩ = some (.int .i64 dl) := fun q => q.cellAt HX3.out.lt (HX3.out.cell 7)
    have X8 : ∀ q : BW wf.heap.size wf, q.1.cell? ⟨gb, 8, none⟩ = some (.int .i64 jp) := fun q => q.cellAt HX3.out.lt (HX3.out.cell 8)
    have X9 : ∀ q : BW wf.heap.size wf, q.1.cell? ⟨gb, 9, none⟩ = some (.slice A m c) := fun q => q.cellAt HX3.out.lt (HX3.out.cell 9)
    have X10 : ∀ q : BW wf.heap.size wf, q.1.cell? ⟨gb, 10, none⟩ = some (.int .i64 now) := fun q => q.cellAt HX3.out.lt (HX3.out.cell 10)
    have X11 : ∀ q : BW wf.heap.size wf, q.1.cell? ⟨gb, 11, none⟩ = some (.slice B n k) := fun q => q.cellAt HX3.out.lt (HX3.out.cell 11)
    refine wp_region_ordT wf.heap.size [] (.val 0 (.val 1 (.val 2 (.val 3 (.val 5 (.val 6 (.val 7 (.val 8 (.val 10 (.op 4 (.op 9 (.op 11 (.op 12 (.op 13 (.val 14 (.val 15 (.val 16 (.val 17 (.val 18 (.nil)))))))))))))))))))) (by kernel_rfl) (by kernel_rfl) ?_
    obtain ⟨wc, hwc⟩ : ∃ W, wf.drewN 1 = W := ⟨_, rfl⟩
    have HBW : Hid (Below wf.heap.size wf wc) := by rw [← hwc]; exact drewN_below wf 1
    rw [hwc]
    clear hwc
    refine wpOrdT_val rfl rfl ?_
    go_big_quiet_step (fail)
    refine wpQuiet_nil ?_
    refine wpOrdT_load rfl rfl (inBW HBW.out) ?_
    go_big_quiet_step (fail)
    refine wpQuiet_nil ?_
    refine wpOrdT_val rfl rfl ?_
    go_big_quiet_step (fail)
    refine wpQuiet_nil ?_
    refine wpOrdT_load rfl rfl (inBW HBW.out) ?_
    go_big_quiet_step (fail)
    refine wpQuiet_nil ?_
    refine wpOrdT_val rfl rfl ?_
    go_big_quiet_step (fail)
    refine wpQuiet_nil ?_
    refine wpOrdT_load rfl rfl (inBW HBW.out) ?_
    go_big_quiet_step (fail)
    refine wpQuiet_nil ?_
    refine wpOrdT_val rfl rfl ?_
    go_big_quiet_step (fail)
    refine wpQuiet_nil ?_
    refine wpOrdT_load rfl rfl (inBW HBW.out) ?_
    go_big_quiet_step (fail)
    refine wpQuiet_nil ?_
    refine wpOrdT_val rfl rfl ?_
    go_big_quiet_step (fail)
    refine wpQuiet_nil ?_
    refine wpOrdT_op rfl ?_
    have CP := hid (CFP.out wc (HB3.out.trans (HBW.out.mono HB3.out.size)))
    go_wp2_with fail
    refine CP.out.mono ?_
    rintro en wd ⟨A3, c3, rfl, ho, hb⟩
    have HO3 := hid ho
    have HBX : Hid (Below wf.heap.size wf wd) := HBW.out.trans (hb.mono HBW.out.size)
    clear ho hb CP
    have HBW := HBX
    go_wp2_with fail
    refine KT.keep (inBW HBX.out) ?_
    refine wpOrdT_op rfl ?_
    have CL := hid (CF16.out wd (HB3.out.trans (HBX.out.mono HB3.out.size)))
    go_wp2_with fail
    refine CL.out.mono ?_
    rintro en we ⟨g4, c4, rfl, ho, hb⟩
    have HBE : Hid (Below wd.heap.size wd we) := hb
    have HR4 := hid ho
    have HBY : Hid (Below wf.heap.size wf we) := HBX.out.trans (hb.mono HBX.out.size)
    have HSD : Hid (wf.heap.size ≤ wd.heap.size ∧ wd.heap.size ≤ we.heap.size) := ⟨HBX.out.size, hb.size⟩
    clear ho hb CL
    have HBX := HBY
    go_wp2_with fail
    refine KT.keep (inBW HBX.out) ?_
    refine wpOrdT_op rfl ?_
    have CL := hid (CFQ.out we (HB3.out.trans (HBY.out.mono HB3.out.size)))
    go_wp2_with fail
    refine CL.out.mono ?_
    rintro en wh ⟨g6, c6, rfl, ho, hb⟩
    have HBD : Hid (Below wd.heap.size wd wh) := HBE.out.trans (hb.mono HBE.out.size)
    have HR6 := hid (own_below HR4.out hb)
    have HR7 := hid ho
    have HBV : Hid (Below wf.heap.size wf wh) := HBY.out.trans (hb.mono HBY.out.size)
    have HSH : Hid (we.heap.size ≤ wh.heap.size) := hb.size
    clear ho hb CL
    have HBX := HBV
    go_wp2_with fail
    refine KT.keep (inBW HBX.out) ?_
    refine wpOrdT_op rfl ?_
    have hbase : wd.heap.size ≤ wh.heap.size := Nat.le_trans HSD.out.2 HSH.out
    have hn16 := HL1.out
    have hn10 := HLQ.out
    go_wp2_with (at_builtin; refine wpList_appendK _ rfl _ _ 27 rfl wd.heap.size 46 _ 4 40 Tryz.underlying27 Tryz.infoIn rfl (by decide) _ n1 _ rfl HR6.out ⟨g6, 0, none⟩ n2 c6 (inVCells l2) rfl (by rw [inVCells_length, HN2.out]) (fun j u hu => by rw [in_add]; exact own_cells HR7.out j u hu) (inV_one l2) ?_ (by decide) hbase ?_)
    · omega
    intro A7 c7 wi hown7 hk7 hf7
    have HR8 : Hid (Rd wi A7 (inVCells (l1 ++ l2))) := by rw [Hid, inVCells_append]; exact own_Rd hown7
    have HBU : Hid (Below wf.heap.size wf wi) := own_under HR6.out HBV.out HSD.out.1 (Nat.le_trans HSD.out.1 hbase) hk7
    have HO8 : Hid (OpsOwn wc.heap.size wi (.slice A3 m2 c3) ops2) := HO3.out.below (own_under HR6.out HBD.out (Nat.le_refl _) hbase hk7) (Nat.le_refl _)
    clear hown7 hk7 hf7 hbase
    have HBX := HBU
    go_wp2_with fail
    refine KT.keep (inBW HBX.out) ?_
    refine wpOrdT_op rfl ?_
    have CR := HRUN.out wi A3 c3 _ A7 (n1 + n2) c7 (l1 ++ l2) HO8.out (by rw [List.length_append, HN1.out, HN2.out]) (fun i hi => (List.mem_append.1 hi).elim (HI1.out i) (HIQ.out i)) (by have := HL1.out; have := HLQ.out; omega) HR8.out
    have hrl : (RO (l1 ++ l2)).length = 0 := by rw [HROZ.out]; rfl
    rw [hrl] at CR
    clear hrl
    have CR := hid CR
    go_wp2_with fail
    refine CR.out.mono ?_
    rintro en wj ⟨A9, c9, rfl, ho, hb⟩
    have HOB := hid ho
    have HBZ : Hid (Below wf.heap.size wf wj) := HBU.out.trans (hb.mono HBU.out.size)
    clear ho hb CR
    go_wp2_with fail
    have HBX := HBZ
    refine KT.keep (inBW HBX.out) ?_
    refine wpOrdT_val rfl rfl ?_
    go_big_quiet_step (fail)
    refine wpQuiet_nil ?_
    refine wpOrdT_val rfl rfl ?_
    go_big_quiet_step (fail)
    refine wpQuiet_nil ?_
    refine wpOrdT_val rfl rfl ?_
    go_big_quiet_step (fail)
    refine wpQuiet_nil ?_
    refine wpOrdT_val rfl rfl ?_
    go_big_quiet_step (fail)
    refine wpQuiet_nil ?_
    refine wpOrdT_val rfl rfl ?_
    go_big_quiet_step (fail)
    refine wpQuiet_nil ?_
    refine wpOrdT_nil ?_
    clear X0 X1 X2 X3 X4 X5 X6 X7 X8 X9 X10 X11 HO3 HO8 HR4 HR6 HR7 HR8 HX3
    have HOA2 := hid (own_below HOA.out HBZ.out)
    have HB4 : Hid (Below w.heap.size w wj) := HB3.out.trans (HBZ.out.mono HB3.out.size)
    clear HB3 HBW HBX HBY HBV HBU HBZ HOA HBE HBD
    clear HOA2 HOB
    go_wp2_with fail
    refine (lives23_any _).mono ?_
    rintro en wm ⟨rfl, hb⟩
    have HB6 := hid (HB4.out.trans (hb.mono HB4.out.size))
    clear hb
    go_wp2_with fail
    go_ret
    exact ⟨rfl, HB6.out⟩
end Go.Proofs.YtemhdkmijfngnaaGreat
namespace Go.Proofs.YtemhdkmijfngnaaGreat
open Go.ChangeShapes Go.WideShapes Go.ChangeAt Go.RowKit Go.WideElems Go.Deep
open Go.ChangeMaps (open_string shut_string)

set_option maxRecDepth 100000 in
theorem soloFront_lifted (os : Os) (started : os.Started) (H : Type) (enc : TypeId × Value → H) :
    ReturnsInHanded {} Tryz.checked os 5 .any (Rows.soloFrontSpec.pre6 enc Tryz.prog Tryz.f5 [] false) (Rows.soloFrontSpec.post enc Tryz.prog Tryz.f5 false true false false) := by
  refine law_lifted 5 Tryz.f5 Rows.soloFrontSpec os started H enc Tryz.func5 (by kernel_rfl) (by kernel_rfl) (by kernel_rfl) rfl (fun ds h => ?_)
    (ChangeSpec.witness6 (enc := enc) (C := Tryz.checked) false ⟨#[], #[.agg #[.int .i64 0, .int .i64 0, .int .i64 0, .int .i64 0, .int .i64 0, .int .i64 0, .string ⟨#[]⟩, .int .i64 0, .int .i64 0, .slice none 0 0, .int .i64 0, .slice none 0 0, .int .i64 0], .slice none 0 0], []⟩ 8 (by kernel_rfl) (by kernel_rfl) (by kernel_rfl) (by kernel_rfl)) ?_
  · have hn : ds.length = 2 := h
    match ds, hn with
    | [d0, d1], _ => rfl
  · intro W args ds p base hval hA _ _
    rw [show Tryz.f5.params.toList = [29, 27] from by rw [Tryz.params5]] at hval hA
    obtain ⟨v0, _, d0, _, p0, _, rfl, rfl, rfl, h0, hA⟩ := all_cons hA
    obtain ⟨v1, _, d1, _, p1, _, rfl, rfl, rfl, h1, hA⟩ := all_cons hA
    obtain rfl := all_nil hA
    obtain ⟨x0, A0, c0, B0, k0, rfl, hx0⟩ := open_play22Arg (hval 0 _ v0 rfl rfl) h0
    obtain ⟨A1, n1, c1, l1, rfl, hl1, hn1, hr1, hi1⟩ := open_ins (hval 1 _ v1 rfl rfl) h1
    exact soloFront_any A0 c0 B0 k0 A1 n1 c1 x0 l1 W hx0 hl1 hn1 hr1 hi1

theorem soloFront_holds : Rows.SoloFrontSaid :=
  OpenClaim.holds_of_wide 5 Tryz.f5 rfl rfl rfl rfl rfl rfl rfl ⟨rfl, rfl, rfl, rfl, rfl⟩ rfl rfl rfl rfl rfl (by kernel_rfl) Tryz.func5 (by kernel_rfl)
    (of_decide_eq_true (by kernel_rfl)) (by unfold Func.isWrapper; first | (rw [if_pos (by decide +kernel)]; kernel_rfl) | (rw [if_neg (by decide +kernel)]; exact ⟨rfl, rfl⟩))
    (fun os started H enc _ => soloFront_lifted os started H enc)
#print axioms soloFront_holds
end Go.Proofs.YtemhdkmijfngnaaGreat
