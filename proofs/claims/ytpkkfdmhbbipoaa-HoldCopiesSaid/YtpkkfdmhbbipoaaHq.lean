/- Walks: a copy of a window. What lies in memory side by side: resources with footprints that do not meet. Windows, rings, patterns and rows side by side: the calls, told of a bag. -/
import Derived.Test.YtpkkfdmhbbipoaaPj
import Derived.Test.YtpkkfdmhbbipoaaMh
import Derived.Deep.DeepCutAuto
import Derived.Test.YtpkkfdmhbbipoaaPh
import Derived.Test.YtpkkfdmhbbipoaaPl
namespace Go.Proofs.Ytpkkfdmhbbipoaa
open Go.RowKit PopT

set_option maxRecDepth 20000 in
set_option maxHeartbeats 1600000 in
/-- A copy of a row of bytes. -/
theorem cloneB_any (A : Option Addr) (n c : Nat) (ps : List UInt8) (w : World) (hl : ps.length = n) (hn : n ≤ 1000000) (hr : Rd w A (byteCells ps)) (hA : A = none → n = 0 ∧ c = 0) :
    Calls Try.prog 52 #[.slice A n c] w fun e w' => ∃ v, e = .returned v ∧ OwnF (fun k => w.heap.size ≤ k ∧ k < w'.heap.size) w' w.heap.size 5 1 v n (byteCells ps) ∧ Below w.heap.size w w' := by
  cases A with
  | none =>
    obtain ⟨rfl, rfl⟩ := hA rfl
    have hp : ps = [] := List.eq_nil_of_length_eq_zero hl
    subst hp
    clear hl hr hA
    have hq : ∀ W : World, (binOp .eql 92 (.slice none 0 0) (.slice none 0 0)).run Try.prog W = .ok (.bool true) W := fun W => Go.Lib.run_eql_slice_nil W _ _ none 0 0 0 0 Try.underlying92
    go_enter Try.func52, Try.ntmps52
    go_wp2_with fail
    go_ret
    exact ⟨_, rfl, OwnF.empty none, Below.refl _ _⟩
  | some ad =>
    have HL := hid hl
    have hnews : ∀ j u, (byteCells ps)[j]? = some u → w.cell? (ad.add j) = some u := by
      rcases hr with h | ⟨b, off, e, _, hc⟩
      · intro j u hj; rw [h] at hj; simp at hj
      · injection e with e; subst e
        intro j u hj
        rw [show (⟨b, off, none⟩ : Addr).add j = ⟨b, off + j, none⟩ from by unfold Addr.add; split <;> simp_all]
        exact hc j u hj
    have HNW := hid hnews
    have HLT : Hid ((byteCells ps).length = n * 1) := by rw [Hid, byteCells_length, hl]; omega
    have HON : Hid (∀ u ∈ byteCells ps, u.oneCell' = true) := fun u hu => by obtain ⟨x, _, rfl⟩ := List.mem_map.1 hu; rfl
    clear hl hr hA hnews
    have hq : ∀ W : World, (binOp .eql 92 (.slice (some ad) n c) (.slice none 0 0)).run Try.prog W = .ok (.bool false) W := fun W => Go.Lib.run_eql_slice_nil W _ _ (some ad) n c 0 0 Try.underlying92
    go_enter Try.func52, Try.ntmps52
    go_wp2_with (at_builtin; refine wpList_appendK _ rfl _ _ 92 rfl w.heap.size 5 _ 1 1 Try.underlying92 Try.infoU8 rfl (by decide) _ _ _ rfl (World.ownsRow_made (base := w.heap.size) (e := 5) (size := 1) w #[] 0 (Nat.le_refl _) (by simp [maxLen]) (by simp)) ad n c (byteCells ps) rfl HLT.out ?_ HON.out ?_ (by decide) (by simp) ?_)
    · intro j u hj
      have := HNW.out j u hj
      have hlt := World.block_lt_of_cell? w _ this
      exact (((Below.refl w.heap.size w).alloc (Nat.le_refl _) (.cells #[] 5)).cell hlt).trans this
    · omega
    intro A2 c2 w2 hown2 hk2 hf2
    have HO2 : Hid (w2.ownsRow w.heap.size 5 1 (.slice A2 n c2) n (byteCells ps)) := by rw [Hid]; simpa using hown2
    have HB2 : Hid (Below w.heap.size w w2) := ((Below.refl w.heap.size w).alloc (Nat.le_refl _) (.cells #[] 5)).trans (hk2.below (by simp) (fun k hk => by simp [Value.ownBlock] at hk; omega))
    clear hown2 hk2 hf2
    go_wp2_with fail
    go_ret
    exact ⟨_, rfl, .inr ⟨HO2.out, fun k hk => HO2.out.lt k hk⟩, HB2.out⟩

theorem OwnF.lower {F : Nat → Prop} {w : World} {b b2 : Nat} {e : TypeId} {size : Nat} {v : Value} {n : Nat} {xs : List Value} (h : OwnF F w b e size v n xs) (hb : b2 ≤ b) : OwnF F w b2 e size v n xs := by
  rcases h with h | ⟨h, hf⟩
  · exact .inl h
  · exact .inr ⟨own_base h hb, hf⟩
theorem ownF_none {F : Nat → Prop} {w : World} {b : Nat} {e : TypeId} {size n c : Nat} {xs : List Value} (h : OwnF F w b e size (.slice none n c) n xs) : n = 0 ∧ c = 0 := by
  rcases h with ⟨h0, _, A, hv⟩ | ⟨h, _⟩
  · injection hv with _ _ h3; exact ⟨h0, h3⟩
  · rcases h.2 with ⟨hv, h0⟩ | ⟨g, cap, cur, hv, _⟩
    · injection hv with _ _ h3; exact ⟨h0, h3⟩
    · injection hv with h1 _ _; cases h1
theorem ownF_cap {F : Nat → Prop} {w : World} {b : Nat} {e : TypeId} {size n c : Nat} {A : Option Addr} {xs : List Value} (h : OwnF F w b e size (.slice A n c) n xs) : n ≤ c := by
  rcases h with ⟨h0, _, _⟩ | ⟨h, _⟩
  · omega
  · rcases h.2 with ⟨_, h0⟩ | ⟨g, cap, cur, hv, _, _, hc, _⟩
    · omega
    · injection hv with _ h2 h3; omega

set_option maxRecDepth 20000 in
set_option maxHeartbeats 4000000 in
theorem hoCopy_any (base h win seen : Nat) (F : Nat → Prop) (S : List UInt8) (ps : List ByteArray) (P : Option (List (List Item))) (w : World) (hh : HoldAt base F w h win S seen ps P) (hP : P = none ∨ (P = some (newM ps).1 ∧ (newM ps).2.2 = 0)) (hp : ∀ p ∈ ps, p.size ≤ 1000000) (hn : ps.length ≤ 1000000) :
    Calls Try.prog 28 #[.pointer (some ⟨h, 0, none⟩)] w fun e w' => ∃ g, e = .returned (.pointer (some ⟨g, 0, none⟩)) ∧ HoldAt w.heap.size (fun k => w.heap.size ≤ k ∧ k < w'.heap.size) w' g win S seen ps P ∧ Below w.heap.size w w' := by
  obtain ⟨h0, h1, h2, h3, h4, h5, vb, vp, va, a1, a2, a3, a4⟩ := hh
  obtain ⟨A, c, rfl, hrd, -⟩ := a2.shape
  obtain ⟨B, d, rfl, hrd2, -⟩ := a3.shape
  have CB := hid (fun W (hb : Below w.heap.size w W) => cloneB_any A S.length c S W rfl (by omega) (hrd.below hb) (fun e => by subst e; exact ownF_none a2))
  have CS := hid (fun W (hb : Below w.heap.size w W) => cloneS_any B ps.length d ps W rfl hn (hrd2.below hb) (fun e => by subst e; exact ownF_none a3))
  have CN := hid (fun A' c' W (hr : Rd W A' (textCells ps)) => new_any A' ps.length c' ps W rfl hp hr)
  have HGOOD := hid (newM_good ps); have HFEW := hid (newM_few ps)
  have HV : Hid ((P = none ∧ va = .pointer none) ∨ (P = some (newM ps).1 ∧ (newM ps).2.2 = 0 ∧ ∃ b, va = .pointer (some ⟨b, 0, none⟩))) := by
    rcases a4 with ⟨e1, e2⟩ | ⟨ls, b, ar, e1, e2, _⟩
    · exact .inl ⟨e1, e2⟩
    · rcases hP with e | ⟨e3, e4⟩
      · rw [e] at e1; cases e1
      · exact .inr ⟨e3, e4, b, e2⟩
  obtain ⟨⟨ls, at', er⟩, hR⟩ : ∃ R, newM ps = R := ⟨_, rfl⟩
  rw [hR] at CN HGOOD HFEW HV
  simp only at HGOOD HFEW HV
  have HBD := hid (And.intro h2 (And.intro h3 (And.intro h4 h5)))
  have HA := hid a1
  obtain ⟨n, hnn⟩ : ∃ y, S.length = y := ⟨_, rfl⟩
  obtain ⟨m, hmm⟩ : ∃ y, ps.length = y := ⟨_, rfl⟩
  have HN := hid hnn; have HM := hid hmm
  rw [hnn] at CB HA HBD
  rw [hmm] at CS CN HA
  clear hR hP hp hn a1 a2 a3 a4 h0 h1 h2 h3 h4 h5 hrd hrd2 hnn hmm
  have T0 : ∀ q : BW w.heap.size w, q.1.cell? ⟨h, 0, none⟩ = some (.int .i64 (win : Int)) := fun q => q.cellAt HA.out.lt (HA.out.cell 0)
  have T1 : ∀ q : BW w.heap.size w, q.1.cell? ⟨h, 1, none⟩ = some (.slice A n c) := fun q => q.cellAt HA.out.lt (HA.out.cell 1)
  have T2 : ∀ q : BW w.heap.size w, q.1.cell? ⟨h, 2, none⟩ = some (.int .i64 (seen : Int)) := fun q => q.cellAt HA.out.lt (HA.out.cell 2)
  have T3 : ∀ q : BW w.heap.size w, q.1.cell? ⟨h, 3, none⟩ = some (.slice B m d) := fun q => q.cellAt HA.out.lt (HA.out.cell 3)
  have T4 : ∀ q : BW w.heap.size w, q.1.cell? ⟨h, 4, none⟩ = some (va) := fun q => q.cellAt HA.out.lt (HA.out.cell 4)
  have hl := HA.out.lt
  obtain ⟨x0, x1, x2, x3, x4⟩ := fact5 HA.out
  go_enter Try.func28, Try.ntmps28
  go_upto_region 3 with fail
  go_cut [3] (fun s3 wx => ∃ (g : Nat) (A2 : Option Addr) (c2 : Nat) (B2 : Option Addr) (d2 : Nat), s3 = .pointer (some ⟨g, 0, none⟩) ∧ Blk wx g 95 #[.int .i64 (win : Int), .slice A2 n c2, .int .i64 (seen : Int), .slice B2 m d2, .pointer none] ∧ OwnF (fun k => w.heap.size ≤ k ∧ k < wx.heap.size) wx w.heap.size 5 1 (.slice A2 n c2) n (byteCells S) ∧ OwnF (fun k => w.heap.size ≤ k ∧ k < wx.heap.size) wx w.heap.size 9 1 (.slice B2 m d2) m (textCells ps) ∧ Below w.heap.size w wx ∧ w.heap.size ≤ g)
  case first =>
    refine wp_region_ordT w.heap.size [] (.val 0 (.val 1 (.val 2 (.val 3 (.val 4 (.val 5 (.val 6 (.val 7 (.val 9 (.val 10 (.val 11 (.val 12 (.val 13 (.val 14 (.val 15 (.val 16 (.op 8 (.op 17 (.val 18 (.op 19 (.val 20 (.nil)))))))))))))))))))))) (by kernel_rfl) (by kernel_rfl) ?_
    obtain ⟨wc, hwc⟩ : ∃ W, w.drewN 1 = W := ⟨_, rfl⟩
    have HBW : Hid (Below w.heap.size w wc) := by rw [← hwc]; exact drewN_below w 1
    rw [hwc]
    clear hwc
    refine wpOrdT_val rfl rfl ?_
    go_big_quiet_step (fail)
    refine wpQuiet_nil ?_
    refine wpOrdT_val rfl rfl ?_
    go_big_quiet_step (fail)
    refine wpQuiet_nil ?_
    refine wpOrdT_val rfl rfl ?_
    go_big_quiet_step (fail)
    refine wpQuiet_nil ?_
    refine wpOrdT_load rfl rfl (inBW HBW.out) ?_
    go_big_quiet_step (fail)
    refine wpQuiet_nil ?_
    refine wpOrdT_val rfl rfl ?_
    go_big_quiet_step (fail)
    refine wpQuiet_nil ?_
    refine wpOrdT_val rfl rfl ?_
    go_big_quiet_step (fail)
    refine wpQuiet_nil ?_
    refine wpOrdT_val rfl rfl ?_
    go_big_quiet_step (fail)
    refine wpQuiet_nil ?_
    refine wpOrdT_load rfl rfl (inBW HBW.out) ?_
    go_big_quiet_step (fail)
    refine wpQuiet_nil ?_
    refine wpOrdT_val rfl rfl ?_
    go_big_quiet_step (fail)
    refine wpQuiet_nil ?_
    refine wpOrdT_val rfl rfl ?_
    go_big_quiet_step (fail)
    refine wpQuiet_nil ?_
    refine wpOrdT_val rfl rfl ?_
    go_big_quiet_step (fail)
    refine wpQuiet_nil ?_
    refine wpOrdT_load rfl rfl (inBW HBW.out) ?_
    go_big_quiet_step (fail)
    refine wpQuiet_nil ?_
    refine wpOrdT_val rfl rfl ?_
    go_big_quiet_step (fail)
    refine wpQuiet_nil ?_
    refine wpOrdT_val rfl rfl ?_
    go_big_quiet_step (fail)
    refine wpQuiet_nil ?_
    refine wpOrdT_val rfl rfl ?_
    go_big_quiet_step (fail)
    refine wpQuiet_nil ?_
    refine wpOrdT_load rfl rfl (inBW HBW.out) ?_
    go_big_quiet_step (fail)
    refine wpQuiet_nil ?_
    refine wpOrdT_op rfl ?_
    have HSW := hid HBW.out.size
    have CQ := hid (CB.out wc HBW.out)
    go_wp2_with fail
    refine CQ.out.mono ?_
    rintro en wc ⟨v2, rfl, ho, hb⟩
    obtain ⟨A2, c2, rfl, -, -⟩ := ho.shape
    have HO1 : Hid (∀ W', Below wc.heap.size wc W' → OwnF (fun k => w.heap.size ≤ k ∧ k < W'.heap.size) W' w.heap.size 5 1 (.slice A2 n c2) n (byteCells S)) := fun W' h => ((ho.lower HSW.out).below h (Nat.le_refl _)).mono (fun k hk => ⟨Nat.le_trans HSW.out hk.1, Nat.lt_of_lt_of_le hk.2 h.size⟩)
    have HBWn : Hid (Below w.heap.size w wc) := HBW.out.trans (hb.mono HBW.out.size)
    clear HBW
    have HBW := HBWn
    clear HBWn
    clear ho hb CQ HSW
    go_wp2_with fail
    refine KT.keep (inBW HBW.out) ?_
    refine wpOrdT_op rfl ?_
    have HSW := hid HBW.out.size
    have CQ := hid (CS.out wc HBW.out)
    go_wp2_with fail
    refine CQ.out.mono ?_
    rintro en wc ⟨v2, rfl, ho, hb⟩
    obtain ⟨B2, d2, rfl, -, -⟩ := ho.shape
    have HO2 : Hid (∀ W', Below wc.heap.size wc W' → OwnF (fun k => w.heap.size ≤ k ∧ k < W'.heap.size) W' w.heap.size 9 1 (.slice B2 m d2) m (textCells ps)) := fun W' h => ((ho.lower HSW.out).below h (Nat.le_refl _)).mono (fun k hk => ⟨Nat.le_trans HSW.out hk.1, Nat.lt_of_lt_of_le hk.2 h.size⟩)
    have HO1n := hid (fun (W' : World) (h : Below wc.heap.size wc W') => HO1.out W' (hb.trans (h.mono hb.size)))
    clear HO1
    have HO1 := HO1n
    clear HO1n
    have HBWn : Hid (Below w.heap.size w wc) := HBW.out.trans (hb.mono HBW.out.size)
    clear HBW
    have HBW := HBWn
    clear HBWn
    clear ho hb CQ HSW
    go_wp2_with fail
    refine KT.keep (inBW HBW.out) ?_
    refine wpOrdT_val rfl rfl ?_
    go_big_quiet_step (fail)
    refine wpQuiet_nil ?_
    refine wpOrdT_op rfl ?_
    go_wp2_with fail
    obtain ⟨wn, hwn⟩ : ∃ W, wc.alloc (.cells #[.int .i64 (win : Int), .slice A2 n c2, .int .i64 (seen : Int), .slice B2 m d2, .pointer none] 95) = W := ⟨_, rfl⟩
    have hb : Below wc.heap.size wc wn := by rw [← hwn]; exact (Below.refl _ _).alloc (Nat.le_refl _) _
    have HG : Hid (Blk wn wc.heap.size 95 #[.int .i64 (win : Int), .slice A2 n c2, .int .i64 (seen : Int), .slice B2 m d2, .pointer none]) := by rw [← hwn]; exact Blk.new _ _ _
    rw [hwn]
    clear hwn
    have HR1 := hid (HO1.out wn hb); have HR2 := hid (HO2.out wn hb)
    have HGE : Hid (w.heap.size ≤ wc.heap.size) := HBW.out.size
    have HBWn : Hid (Below w.heap.size w wn) := HBW.out.trans (hb.mono HBW.out.size)
    obtain ⟨g, hg⟩ : ∃ y, wc.heap.size = y := ⟨_, rfl⟩
    rw [hg] at HG HGE ⊢
    clear hg hb HO1 HO2 HBW
    have HBW := HBWn
    refine KT.keep (inBW HBW.out) ?_
    refine wpOrdT_val rfl rfl ?_
    go_big_quiet_step (fail)
    refine wpQuiet_nil ?_
    refine wpOrdT_nil ?_
    go_wp2_with fail
    go_meet
    exact ⟨g, A2, c2, B2, d2, rfl, HG.out, HR1.out, HR2.out, HBW.out, HGE.out⟩
  case rest =>
    obtain ⟨g, A2, c2, B2, d2, rfl, hg, ho1, ho2, hb, hge⟩ := hcut
    have HWS : Hid (w.heap.size ≤ wc.heap.size) := hb.size
    have HG := hid hg; have HO1 := hid ho1; have HO2 := hid ho2; have HB := hid hb; have HGE := hid hge
    obtain ⟨w2, hw2⟩ : ∃ y, y = wc := ⟨_, rfl⟩
    subst hw2
    have HAW := hid (HA.out.below hb HA.out.lt)
    clear hg ho1 ho2 hb hge T0 T1 T2 T3 T4 hl x0 x1 x2 x3 x4 CB CS HA
    obtain ⟨x0, x1, x2, x3, x4⟩ := fact5 HAW.out
    have hl := HAW.out.lt
    rcases HV.out with ⟨rfl, rfl⟩ | ⟨rfl, rfl, b0, rfl⟩
    · clear HV
      go_wp2_with fail
      go_ret
      obtain ⟨h2, h3, h4, h5⟩ := HBD.out
      refine ⟨g, rfl, ⟨HGE.out, ⟨HGE.out, HG.out.lt⟩, h2, h3, by rw [HN.out]; exact h4, by rw [HN.out]; exact h5, _, _, _, HG.out, by rw [HN.out]; exact HO1.out, by rw [HM.out]; exact HO2.out, .inl ⟨rfl, rfl⟩⟩, HB.out⟩
    · clear HV
      obtain ⟨y0, y1, y2, y3, y4⟩ := fact5 HG.out
      have hgl := HG.out.lt
      have HRD : Hid (Rd w2 B2 (textCells ps)) := by obtain ⟨A', c', e, hr, -⟩ := HO2.out.shape; injection e with e _ _; rw [e]; exact hr
      have CQ := hid (CN.out B2 d2 w2 HRD.out)
      go_wp2_with fail
      refine CQ.out.mono ?_
      rintro en w3 ⟨hb3, hres⟩
      rcases hres with ⟨he, -⟩ | ⟨-, b, ar, rfl, hat, hal, hst⟩
      · exact absurd rfl he
      have HB3 := hid hb3; have HAT := hid hat; have HST := hid hst
      have HAL : Hid (ar.map ArmS.l = ls) := hal
      have HG3 := hid (HG.out.below hb3 HG.out.lt)
      have HO13 := hid (HO1.out.below hb3 (Nat.le_refl _)); have HO23 := hid (HO2.out.below hb3 (Nat.le_refl _))
      have hbl : b < w3.heap.size := hat.blkLt
      have HBGE : Hid (w2.heap.size ≤ b) := hat.1
      clear hb3 hat hal hst CQ CN x0 x1 x2 x3 x4 hl y0 y1 y2 y3 y4 hgl HRD HG HO1 HO2 HAW
      obtain ⟨y0, y1, y2, y3, y4⟩ := fact5 HG3.out
      have hgl := HG3.out.lt
      have yf := HG3.out.frozen 4
      go_upto_region 7 with fail
      obtain ⟨w4, hw4⟩ : ∃ W, w3.setCell ⟨g, 4, none⟩ (.pointer (some ⟨b, 0, none⟩)) = W := ⟨_, rfl⟩
      have HG4 : Hid (Blk w4 g 95 #[.int .i64 (win : Int), .slice A2 n c2, .int .i64 (seen : Int), .slice B2 m d2, .pointer (some ⟨b, 0, none⟩)]) := by rw [← hw4]; exact HG3.out.set 4 _
      have HS4 : Hid (w4.heap.size = w3.heap.size) := by rw [Hid, ← hw4]; simp
      have HO14 : Hid (OwnF (fun k => w.heap.size ≤ k ∧ k < w4.heap.size) w4 w.heap.size 5 1 (.slice A2 n c2) n (byteCells S)) := by rw [← hw4]; exact (HO13.out.mono (fun k hk => ⟨hk.1, by have := HB3.out.size; simp; omega⟩)).set HG3.out (by decide)
      have HO24 : Hid (OwnF (fun k => w.heap.size ≤ k ∧ k < w4.heap.size) w4 w.heap.size 9 1 (.slice B2 m d2) m (textCells ps)) := by rw [← hw4]; exact (HO23.out.mono (fun k hk => ⟨hk.1, by have := HB3.out.size; simp; omega⟩)).set HG3.out (by decide)
      have HIN : Hid (ArmIn w2.heap.size (fun k => w2.heap.size ≤ k ∧ k < w3.heap.size) w3 (.pointer (some ⟨b, 0, none⟩)) (some ls) S 0) := by
        have hat3 := HAT.out
        refine .inr ⟨ls, b, ar, rfl, rfl, ?_, HAL.out, fun a ha => HGOOD.out _ (by rw [← HAL.out]; exact List.mem_map_of_mem ha), by have := HFEW.out; rw [← HAL.out, List.length_map] at this; exact this, fun k hk => ⟨?_, hat3.afLt k hk⟩, fun a ha => ⟨(HST.out a ha).2.2, (hat3.2.2 a ha).1.1.1⟩⟩
        · rw [fresh_self ar (fun a ha => (HST.out a ha).1)]; exact hat3
        · rcases hk with rfl | ⟨v, e1, e2⟩
          · exact hat3.1
          · obtain ⟨-, ⟨A, c, hk, ho⟩, -⟩ := hat3
            have e3 := (hk.cell 0).symm.trans e1
            injection e3 with e3
            subst e3
            exact (ho.lt k e2).1
      have HIN4 : Hid (ArmIn w2.heap.size (fun k => w2.heap.size ≤ k ∧ k < w4.heap.size) w4 (.pointer (some ⟨b, 0, none⟩)) (some ls) S 0) := by
        rw [Hid, HS4.out, ← hw4]; exact HIN.out.setB HG3.out (by decide) (by decide) (by decide)
      have HB4 : Hid (Below w.heap.size w w4) := by rw [← hw4]; exact (HB.out.trans (HB3.out.mono HB.out.size)).setCell HGE.out _
      rw [hw4]
      clear hw4 y0 y1 y2 y3 y4 hgl yf HG3 HO13 HO23 HIN HB HAT HST hbl
      obtain ⟨y0, y1, y2, y3, y4⟩ := fact5 HG4.out
      have hgl := HG4.out.lt
      have hcap := ownF_cap HO14.out
      have hsn : seen ≤ n := HBD.out.2.2.1
      have hsc : seen ≤ c2 := Nat.le_trans hsn hcap
      have hs6 : seen ≤ 4096 := by have := HBD.out; omega
      have HBS : Hid (b < w4.heap.size) := by
        rcases HIN4.out with ⟨e, _⟩ | ⟨ls2, b2, ar2, e1, e2, c1, _⟩
        · cases e
        · injection e2 with e2; injection e2 with e2; injection e2 with e2; subst e2; exact c1.blkLt
      have HW24 : Hid (w2.heap.size ≤ w4.heap.size) := by rw [Hid, HS4.out]; exact HB3.out.size
      have HWW := HWS
      go_quiet (fail)
      go_wp2_with fail
      go_loopw [56] (fun iv wr => ∃ i : Nat, i ≤ seen ∧ iv = .int .i64 (i : Int) ∧ ArmIn w2.heap.size (fun k => w2.heap.size ≤ k ∧ k < wr.heap.size) wr (.pointer (some ⟨b, 0, none⟩)) (some ls) S i ∧ FB w2.heap.size b w4 wr) (fun iv _ => seen - (intOf iv).toNat)
      case atStart => exact ⟨0, by omega, rfl, HIN4.out.below (drewN_below w4 nq), (FB.refl _ _ _ HBS.out).trans (drewN_below w4 nq) HW24.out⟩
      case round =>
        obtain ⟨i, hi, rfl, hin, hf⟩ := hrel
        have HIN := hid hin; have HF := hid hf
        have HGr : Hid (Blk wr g 95 #[.int .i64 (win : Int), .slice A2 n c2, .int .i64 (seen : Int), .slice B2 m d2, .pointer (some ⟨b, 0, none⟩)]) := (hf.2.1 g _ _ _ HG4.out (by decide) (by decide)).trans HG4.out
        have HOr : Hid (OwnF (fun k => w.heap.size ≤ k ∧ k < w4.heap.size) wr w.heap.size 5 1 (.slice A2 n c2) n (byteCells S)) := HO14.out.fb hf (by decide) (by decide)
        have HSr : Hid (w4.heap.size ≤ wr.heap.size) := hf.1.size
        clear hin hf y0 y1 y2 y3 y4 hgl
        obtain ⟨y0, y1, y2, y3, y4⟩ := fact5 HGr.out
        have hgl := HGr.out.lt
        by_cases hlt : i < seen
        · have his : i < S.length := by rw [HN.out]; omega
          obtain ⟨b2, off, e, hbl, hcc⟩ : ∃ b2 off, A2 = some ⟨b2, off, none⟩ ∧ b2 < wr.heap.size ∧ ∀ j u, (byteCells S)[j]? = some u → wr.cell? ⟨b2, off + j, none⟩ = some u := by
            obtain ⟨A', c', e, hr, -⟩ := HOr.out.shape
            injection e with e _ _
            rw [← e] at hr
            exact hr.at (by rw [byteCells_length]; omega)
          subst e
          have d0 : wr.cell? ⟨b2, off + i, none⟩ = some (.int .u8 ((S[i]'his).toNat : Int)) := hcc i _ (by unfold byteCells; rw [List.getElem?_map, List.getElem?_eq_getElem his]; rfl)
          rcases HIN.out with ⟨e, _⟩ | ⟨ls2, b3, ar, e1, e2, c1, c2', c3, c4, c5, c6⟩
          · cases e
          injection e1 with e1; injection e2 with e2; injection e2 with e2; injection e2 with e2
          subst e1; subst e2
          have HC := hid (And.intro c2' (And.intro c3 (And.intro c4 (And.intro c5 c6))))
          have CF := hid (feed_any w2.heap.size b (armsTo ar S i) i (S[i]'his).toNat wr c1 (fun a ha => by
            obtain ⟨a', ha', rfl⟩ := List.mem_map.1 ha
            rw [(stepsA_l _ _).1]; exact (c3 a' ha').2.2) (by rw [armsTo_length]; exact c4) (by omega) (UInt8.toNat_lt _) (Nat.le_trans HW24.out HSr.out))
          rw [armsTo_succ ar S i his] at CF
          have hcb := (S[i]'his).toNat_lt
          obtain ⟨cc, hcx⟩ : ∃ y, (S[i]'his).toNat = y := ⟨_, rfl⟩
          rw [hcx] at d0 CF hcb
          clear c1 c2' c3 c4 c5 c6 hcc hcx HIN his
          go_wp2_with fail
          refine CF.out.mono ?_
          rintro en wn ⟨rfl, hat, hf⟩
          have HI2 : Hid (ArmIn w2.heap.size (fun k => w2.heap.size ≤ k ∧ k < wn.heap.size) wn (.pointer (some ⟨b, 0, none⟩)) (some ls) S (i + 1)) := by
            obtain ⟨z2, z3, z4, z5, z6⟩ := HC.out
            have hs := hf.1.size
            refine .inr ⟨ls, b, ar, rfl, rfl, hat, z2, z3, z4, fun k hk => ⟨?_, hat.afLt k hk⟩, fun a ha => ⟨(z6 a ha).1, Nat.lt_of_lt_of_le (z6 a ha).2 hs⟩⟩
            rcases hf.2.2.2.2 k hk with h | h
            · exact (z5 k h).1
            · exact Nat.le_trans (Nat.le_trans HW24.out HSr.out) h
          have HF2 := hid (HF.out.trans2 hf)
          clear hat hf CF HC d0 hbl y0 y1 y2 y3 y4 hgl HGr HOr
          go_wp2_with fail
          go_roundw
          case rel => exact ⟨i + 1, by omega, by go_num, HI2.out, HF2.out⟩
          case measure => simp [intOf]; omega
        · have e : i = seen := by omega
          subst e
          go_wp2_with fail
          go_ret
          obtain ⟨h2, h3, h4, h5⟩ := HBD.out
          have hs := HF.out.1.size
          refine ⟨g, rfl, ⟨HGE.out, ⟨HGE.out, HGr.out.lt⟩, h2, h3, by rw [HN.out]; exact h4, by rw [HN.out]; exact h5, _, _, _, HGr.out, by rw [HN.out]; exact HOr.out.mono (fun k hk => ⟨hk.1, by omega⟩), by rw [HM.out]; exact (HO24.out.fb HF.out (by decide) (by decide)).mono (fun k hk => ⟨hk.1, by omega⟩), ?_⟩, HB4.out.trans (HF.out.1.mono HWW.out)⟩
          rcases HIN.out with ⟨e, _⟩ | ⟨ls2, b3, ar, e1, e2, ⟨z0, ⟨A, c, z1, z2⟩, z3⟩, c2', c3, c4, c5, c6⟩
          · cases e
          exact .inr ⟨ls2, b3, ar, e1, e2, ⟨Nat.le_trans HWW.out z0, ⟨A, c, z1, own_base z2 HWW.out⟩, z3⟩, c2', c3, c4, fun k hk => ⟨Nat.le_trans HWW.out (c5 k hk).1, (c5 k hk).2⟩, fun a ha => ⟨Nat.le_trans HWW.out (c6 a ha).1, (c6 a ha).2⟩⟩
end Go.Proofs.Ytpkkfdmhbbipoaa
namespace Go.Proofs.Ytpkkfdmhbbipoaa
open Go.RowKit PopT

/-- A thing in memory: the blocks it lies in, what is told of it; it stays while its blocks stay. -/
structure Rs where
  F : Nat → Prop
  A : World → Prop
  st : ∀ {K : Nat → Prop} {W W' : World}, A W → Keep K W W' → (∀ k, F k → ¬ K k) → A W'
def Bag (B : Nat) (W : World) : List Rs → Prop
  | [] => B ≤ W.heap.size
  | r :: l => r.A W ∧ (∀ k, r.F k → B ≤ k ∧ k < W.heap.size) ∧ (∀ s ∈ l, ∀ k, r.F k → ¬ s.F k) ∧ Bag B W l
section
variable {B : Nat} {W W' : World} {r s r' s' : Rs} {l : List Rs}
theorem Bag.base (h : Bag B W l) : B ≤ W.heap.size := by
  induction l with
  | nil => exact h
  | cons r l ih => exact ih h.2.2.2
theorem Bag.hd (h : Bag B W (r :: l)) : r.A W := h.1
theorem Bag.fin (h : Bag B W (r :: l)) : ∀ k, r.F k → B ≤ k ∧ k < W.heap.size := h.2.1
theorem Bag.tl (h : Bag B W (r :: l)) : Bag B W l := h.2.2.2
theorem Bag.get (h : Bag B W l) (n : Nat) (hn : l[n]? = some r) : r.A W ∧ ∀ k, r.F k → B ≤ k ∧ k < W.heap.size := by
  induction l generalizing n with
  | nil => simp at hn
  | cons x l ih =>
    cases n with
    | zero => simp at hn; subst hn; exact ⟨h.1, h.2.1⟩
    | succ n => exact ih h.2.2.2 n (by simpa using hn)
theorem Bag.swap (h : Bag B W (r :: s :: l)) : Bag B W (s :: r :: l) := by
  obtain ⟨h1, h2, h3, h4, h5, h6, h7⟩ := h
  refine ⟨h4, h5, fun x hx k hk => ?_, h1, h2, fun x hx => h3 x (List.mem_cons_of_mem _ hx), h7⟩
  rcases List.mem_cons.1 hx with rfl | hx
  · exact fun hr => h3 s (List.mem_cons_self ..) k hr hk
  · exact h6 x hx k hk
theorem Bag.cons_map {l2 : List Rs} (h : Bag B W (r :: l)) (hs : ∀ x ∈ l2, x ∈ l) (hb : Bag B W l → Bag B W l2) : Bag B W (r :: l2) :=
  ⟨h.1, h.2.1, fun x hx => h.2.2.1 x (hs x hx), hb h.2.2.2⟩
theorem Bag.bring (h : Bag B W l) (n : Nat) (hn : l[n]? = some r) : Bag B W (r :: l.eraseIdx n) := by
  induction l generalizing n with
  | nil => simp at hn
  | cons x l ih =>
    cases n with
    | zero => simp at hn; subst hn; exact h
    | succ n =>
      have hn' : l[n]? = some r := by simpa using hn
      have h1 : Bag B W (x :: r :: l.eraseIdx n) := h.cons_map (fun y hy => by
        rcases List.mem_cons.1 hy with rfl | hy
        · exact List.mem_of_getElem? hn'
        · exact List.mem_of_mem_eraseIdx hy) (fun hb => ih hb n hn')
      exact h1.swap
theorem Bag.keepTl {K : Nat → Prop} (h : Bag B W l) (hk : Keep K W W') (hd : ∀ s ∈ l, ∀ k, s.F k → ¬ K k) : Bag B W' l := by
  induction l with
  | nil => exact Nat.le_trans h hk.size
  | cons r l ih => exact ⟨r.st h.1 hk (hd r (List.mem_cons_self ..)), fun k hf => ⟨(h.2.1 k hf).1, Nat.lt_of_lt_of_le (h.2.1 k hf).2 hk.size⟩, h.2.2.1, ih h.2.2.2 (fun s hs => hd s (List.mem_cons_of_mem _ hs))⟩
theorem Bag.below (h : Bag B W l) (hb : Below W.heap.size W W') : Bag B W' l := h.keepTl (K := fun _ => False) (Keep.of_below hb) (fun _ _ _ _ h => h)
theorem Bag.ltAll (h : Bag B W l) : ∀ s ∈ l, ∀ k, s.F k → B ≤ k ∧ k < W.heap.size := by
  induction l with
  | nil => intro s hs; cases hs
  | cons r l ih =>
    intro s hs k hk
    rcases List.mem_cons.1 hs with rfl | hs
    · exact h.2.1 k hk
    · exact ih h.2.2.2 s hs k hk
/-- The first thing is turned. -/
theorem Bag.step (h : Bag B W (r :: l)) (hk : Keep r.F W W') (hr : r'.A W') (hf : ∀ k, r'.F k → Fup r.F W W' k) : Bag B W' (r' :: l) := by
  refine ⟨hr, fun k hk2 => ?_, fun s hs k hk2 hs2 => ?_, h.2.2.2.keepTl hk (fun s hs k hsk hrk => h.2.2.1 s hs k hrk hsk)⟩
  · rcases hf k hk2 with e | e
    · exact ⟨(h.2.1 k e).1, Nat.lt_of_lt_of_le (h.2.1 k e).2 hk.size⟩
    · exact ⟨Nat.le_trans h.base e.1, e.2⟩
  · rcases hf k hk2 with e | e
    · exact h.2.2.1 s hs k e hs2
    · have := (h.2.2.2.ltAll s hs k hs2).2; omega
/-- The first two are turned. -/
theorem Bag.step2 (h : Bag B W (r :: s :: l)) (hk : Keep (fun k => r.F k ∨ s.F k) W W') (hr : r'.A W') (hs : s'.A W') (hf : ∀ k, r'.F k → Fup r.F W W' k) (hg : ∀ k, s'.F k → s.F k) : Bag B W' (r' :: s' :: l) := by
  have hd : ∀ x ∈ l, ∀ k, x.F k → ¬ (r.F k ∨ s.F k) := fun x hx k hxk h2 => h2.elim (fun h3 => h.2.2.1 x (List.mem_cons_of_mem _ hx) k h3 hxk) (fun h3 => h.2.2.2.2.2.1 x hx k h3 hxk)
  refine ⟨hr, fun k hk2 => ?_, fun x hx k hk2 hx2 => ?_, hs, fun k hk2 => ⟨(h.2.2.2.2.1 k (hg k hk2)).1, Nat.lt_of_lt_of_le (h.2.2.2.2.1 k (hg k hk2)).2 hk.size⟩, fun x hx k hk2 => h.2.2.2.2.2.1 x hx k (hg k hk2), h.2.2.2.2.2.2.keepTl hk hd⟩
  · rcases hf k hk2 with e | e
    · exact ⟨(h.2.1 k e).1, Nat.lt_of_lt_of_le (h.2.1 k e).2 hk.size⟩
    · exact ⟨Nat.le_trans h.base e.1, e.2⟩
  · have hxs : ∀ y ∈ l, ∀ k, y.F k → k < W.heap.size := fun y hy k hyk => (h.2.2.2.2.2.2.ltAll y hy k hyk).2
    rcases List.mem_cons.1 hx with rfl | hx
    · rcases hf k hk2 with e | e
      · exact h.2.2.1 s (List.mem_cons_self ..) k e (hg k hx2)
      · have := (h.2.2.2.2.1 k (hg k hx2)).2; omega
    · rcases hf k hk2 with e | e
      · exact h.2.2.1 x (List.mem_cons_of_mem _ hx) k e hx2
      · have := hxs x hx k hx2; omega
/-- A new thing, in new blocks. -/
theorem Bag.new (h : Bag B W l) (hb : Below W.heap.size W W') (hr : r.A W') (hf : ∀ k, r.F k → W.heap.size ≤ k ∧ k < W'.heap.size) : Bag B W' (r :: l) :=
  ⟨hr, fun k hk => ⟨Nat.le_trans h.base (hf k hk).1, (hf k hk).2⟩, fun s hs k hk hs2 => by have := (h.ltAll s hs k hs2).2; have := (hf k hk).1; omega, h.below hb⟩
theorem Bag.nil (W : World) : Bag W.heap.size W [] := Nat.le_refl _
theorem Bag.fall1 (h : Bag B W (r :: l)) (hk : Keep r.F W W') : Below B W W' := hk.below h.base (fun k hf => (h.fin k hf).1)
theorem Bag.fall2 (h : Bag B W (r :: s :: l)) (hk : Keep (fun k => r.F k ∨ s.F k) W W') : Below B W W' := hk.below h.base (fun k hf => hf.elim (fun e => (h.fin k e).1) (fun e => (h.tl.fin k e).1))
end
/-- One block. -/
def rBlk (g : Nat) (t : TypeId) (cs : Array Value) : Rs := ⟨fun k => k = g, fun W => Blk W g t cs, fun h hk hd => hk.blk h (hd _ rfl)⟩
theorem Bag.alloc {B : Nat} {W : World} {l : List Rs} (h : Bag B W l) (t : TypeId) (cs : Array Value) : Bag B (W.alloc (.cells cs t)) (rBlk W.heap.size t cs :: l) :=
  h.new ((Below.refl _ _).alloc (Nat.le_refl _) _) (Blk.new W t cs) (fun k (e : k = _) => by rw [e]; simp)
theorem Bag.nots {B g : Nat} {W : World} {r s : Rs} {l : List Rs} {t : TypeId} {cs : Array Value} (h : Bag B W (r :: s :: l)) (n : Nat) (hn : l[n]? = some (rBlk g t cs)) : ¬ (r.F g ∨ s.F g) := by
  have hm := List.mem_of_getElem? hn
  rintro (hr | hs)
  · exact h.2.2.1 _ (List.mem_cons_of_mem _ hm) g hr rfl
  · exact h.2.2.2.2.2.1 _ hm g hs rfl
theorem Bag.blk {B g : Nat} {W : World} {l : List Rs} {t : TypeId} {cs : Array Value} (h : Bag B W l) (n : Nat) (hn : l[n]? = some (rBlk g t cs)) : Blk W g t cs := (h.get n hn).1
/-- One block turned by stores to it. -/
theorem Bag.put {B g : Nat} {W W' : World} {l : List Rs} {t : TypeId} {cs cs' : Array Value} (h : Bag B W (rBlk g t cs :: l)) (hk : Keep (fun k => k = g) W W') (hb : Blk W' g t cs') : Bag B W' (rBlk g t cs' :: l) :=
  h.step hk hb (fun _ hk2 => .inl hk2)
end Go.Proofs.Ytpkkfdmhbbipoaa
namespace Go.Proofs.Ytpkkfdmhbbipoaa
open Go.RowKit PopT

def rH (b0 : Nat) (F : Nat → Prop) (h win : Nat) (S : List UInt8) (seen : Nat) (ps : List ByteArray) (P : Option (List (List Item))) : Rs :=
  ⟨F, fun W => b0 ≤ W.heap.size ∧ HoldAt b0 F W h win S seen ps P, fun h hk hd => ⟨Nat.le_trans h.1 hk.size, h.2.keep hk hd⟩⟩
def rR (g gb m : Nat) (R : List UInt8) : Rs := ⟨RgF g gb, fun W => Rg W g gb m R, fun h hk hd => h.keep hk (hd g (.inl rfl)) (hd gb (.inr rfl))⟩
def rP (G : Nat → Prop) (ls : List (List Item)) (v : Value) : Rs := ⟨G, fun W => PatG G W ls v, fun h hk hd => h.keep hk hd⟩
def rO (b : Nat) (e : TypeId) (size : Nat) (v : Value) (n : Nat) (xs : List Value) : Rs := ⟨fun k => v.ownBlock = some k, fun W => W.ownsRow b e size v n xs, fun h hk hd => hk.own h hd⟩
section
variable {B h win seen g gb m b0 : Nat} {F : Nat → Prop} {W : World} {S R : List UInt8} {ps : List ByteArray} {P : Option (List (List Item))} {l : List Rs}
theorem bLook (H : Bag B W (rH b0 F h win S seen ps P :: rR g gb m R :: l)) (L : LookR) (hL : lookM win (P.getD []) S seen R = L) : Calls Try.prog 26 #[.pointer (some ⟨h, 0, none⟩), .pointer (some ⟨g, 0, none⟩)] W fun e w' =>
    e = .returned (foundV L.mtch L.full L.arm L.gone L.read) ∧ (∃ F', Bag B w' (rH b0 F' h win L.S L.seen ps P :: rR g gb m L.R :: l)) ∧ Below B W w' ∧ Keep (fun k => F k ∨ RgF g gb k) W w' := by
  subst hL
  refine (hoLook_any b0 h win seen g gb m F S R ps P W H.hd.2 H.tl.hd (fun k hk => H.2.2.1 _ (List.mem_cons_self ..) k hk) (fun k hk => (H.fin k hk).2) H.hd.1).mono ?_
  rintro e w' ⟨rfl, h1, h2, h3⟩
  exact ⟨rfl, ⟨_, H.step2 (r' := rH b0 (Fup F W w') h win _ _ ps P) (s' := rR g gb m _) h3 ⟨Nat.le_trans H.hd.1 h3.size, h1⟩ h2 (fun k hk => hk) (fun k hk => hk)⟩, H.fall2 h3, h3⟩
theorem bPut (H : Bag B W (rR g gb m R :: l)) (s : ByteArray) (hs : s.size ≤ 9223372036854775807) : Calls Try.prog 25 #[.pointer (some ⟨g, 0, none⟩), .string s] W fun e w' =>
    e = .returned (.int .i64 ((min s.size (m - R.length) : Nat) : Int)) ∧ Bag B w' (rR g gb m (R ++ s.data.toList.take (min s.size (m - R.length))) :: l) ∧ Below B W w' := by
  refine (rgPut_any W g gb m R s H.hd hs).mono ?_
  rintro e w' ⟨rfl, h2, h3⟩
  exact ⟨rfl, H.step (r' := rR g gb m _) h3 h2 (fun k hk => .inl hk), H.fall1 h3⟩
theorem bText (H : Bag B W (rH b0 F h win S seen ps P :: l)) : Calls Try.prog 30 #[.pointer (some ⟨h, 0, none⟩)] W fun e w' => e = .returned (.string (rgT S)) ∧ Below W.heap.size W w' := hoText_any b0 h win seen F S ps P W H.hd.2
theorem bFresh (H : Bag B W (rH b0 F h win S seen ps P :: l)) : Calls Try.prog 31 #[.pointer (some ⟨h, 0, none⟩)] W fun e w' => e = .returned (.int .i64 ((S.length : Int) - (seen : Int))) ∧ Below W.heap.size W w' := hoFresh_any b0 h win seen F S ps P W H.hd.2
theorem bNew (H : Bag B W l) (x : Int) (h1 : -9223372036854775808 ≤ x) (h2 : x ≤ 9223372036854775807) : Calls Try.prog 20 #[.int .i64 x] W fun e w' => ∃ b0 F h, e = .returned (.pointer (some ⟨h, 0, none⟩)) ∧ Bag B w' (rH b0 F h (clampN x 4096) [] 0 [] none :: l) ∧ Below W.heap.size W w' := by
  refine (hoNew_any x W h1 h2).mono ?_
  rintro e w' ⟨rfl, h3, h4⟩
  exact ⟨W.heap.size, fun k => k = W.heap.size, W.heap.size, rfl, H.new (r := rH W.heap.size (fun k => k = W.heap.size) W.heap.size _ [] 0 [] none) h4 ⟨h4.size, h3⟩ (fun k (hk : k = _) => by rw [hk]; exact ⟨Nat.le_refl _, h3.lt⟩), h4⟩
theorem bRing (H : Bag B W l) (x : Int) (h1 : -9223372036854775808 ≤ x) (h2 : x ≤ 9223372036854775807) : Calls Try.prog 21 #[.int .i64 x] W fun e w' => ∃ g gb, e = .returned (.pointer (some ⟨g, 0, none⟩)) ∧ Bag B w' (rR g gb (clampN x 4096) [] :: l) ∧ Below W.heap.size W w' := by
  refine (rgNew_any x W h1 h2).mono ?_
  rintro e w' ⟨g, gb, rfl, h3, h4, h5, h6⟩
  exact ⟨g, gb, rfl, H.new (r := rR g gb _ []) h6 h3 (fun k hk => by rcases hk with e | e <;> rw [e]; exact ⟨h4, h3.lt.1⟩; exact ⟨h5, h3.lt.2⟩), h6⟩
theorem bBegin (H : Bag B W (rH b0 F h win S seen ps P :: l)) (A : Option Addr) (n c : Nat) (qs : List ByteArray) (hl : qs.length = n) (hn : n ≤ 1000000) (hp : ∀ p ∈ qs, p.size ≤ 1000000) (hr : Rd W A (textCells qs)) (hA : A = none → n = 0 ∧ c = 0) :
    Calls Try.prog 23 #[.pointer (some ⟨h, 0, none⟩), .slice A n c] W fun e w' => e = .returned (.int .i64 (((newM qs).2.2 : Nat) : Int)) ∧
      ((newM qs).2.2 ≠ 0 → Bag B w' (rH b0 F h win S seen ps P :: l)) ∧ ((newM qs).2.2 = 0 → ∃ F', Bag B w' (rH b0 F' h win S 0 qs (some (newM qs).1) :: l)) ∧ Below B W w' := by
  refine (hoBegin_any b0 h win seen F S ps P A n c qs W H.hd.2 hl hn hp hr hA H.hd.1).mono ?_
  rintro e w' ⟨rfl, h1, h2, h3⟩
  exact ⟨rfl, fun h0 => H.step (r' := rH b0 F h win S seen ps P) h3 ⟨Nat.le_trans H.hd.1 h3.size, h1 h0⟩ (fun k hk => .inl hk), fun h0 => ⟨_, H.step (r' := rH b0 (Fup F W w') h win S 0 qs _) h3 ⟨Nat.le_trans H.hd.1 h3.size, h2 h0⟩ (fun k hk => hk)⟩, H.fall1 h3⟩
theorem bCopy (H : Bag B W (rH b0 F h win S seen ps P :: l)) (hP : P = none ∨ (P = some (newM ps).1 ∧ (newM ps).2.2 = 0)) (hp : ∀ p ∈ ps, p.size ≤ 1000000) (hn : ps.length ≤ 1000000) :
    Calls Try.prog 28 #[.pointer (some ⟨h, 0, none⟩)] W fun e w' => ∃ b1 F1 h1, e = .returned (.pointer (some ⟨h1, 0, none⟩)) ∧ Bag B w' (rH b1 F1 h1 win S seen ps P :: rH b0 F h win S seen ps P :: l) ∧ Below W.heap.size W w' := by
  refine (hoCopy_any b0 h win seen F S ps P W H.hd.2 hP hp hn).mono ?_
  rintro e w' ⟨g, rfl, h1, h2⟩
  exact ⟨W.heap.size, _, g, rfl, H.new (r := rH W.heap.size (fun k => W.heap.size ≤ k ∧ k < w'.heap.size) g win S seen ps P) h2 ⟨h2.size, h1⟩ (fun k hk => hk), h2⟩
end
end Go.Proofs.Ytpkkfdmhbbipoaa
