/- The law's literal, as rounds. -/
import Derived.Test.YtpkkfdmhbbipoaaEvg
namespace Go.Proofs.Ytpkkfdmhbbipoaa
open Go.RowKit Go.Maps

theorem Try.infoRd : (Try.prog.info? 79).map (fun i => (i.zero, i.size, i.bytes)) = some (some (.agg #[.int .i64 0, .slice none 0 0, .slice none 0 0, .slice none 0 0, .int .i64 0, .bool false]), 6, 96) := by kernel_rfl
def litE : List EvV := [(⟨1, 0, 0, 3, ⟨#[]⟩, 0, 0, 0, 0, 0, 0, 0⟩ : EvV), (⟨2, 0, 0, 0, ⟨#[]⟩, 0, 0, 0, 0, 0, 0, 0⟩ : EvV), (⟨1, 0, 0, 5, ⟨#[]⟩, 0, 0, 0, 0, 0, 0, 0⟩ : EvV), (⟨4, 0, 2, 0, ⟨#[111, 107]⟩, 0, 0, 0, 0, 0, 0, 0⟩ : EvV)]
theorem cut_lit : cutEvs litE = [[(⟨1, 0, 0, 3, ⟨#[]⟩, 0, 0, 0, 0, 0, 0, 0⟩ : EvV), (⟨2, 0, 0, 0, ⟨#[]⟩, 0, 0, 0, 0, 0, 0, 0⟩ : EvV)], [(⟨1, 0, 0, 5, ⟨#[]⟩, 0, 0, 0, 0, 0, 0, 0⟩ : EvV), (⟨4, 0, 2, 0, ⟨#[111, 107]⟩, 0, 0, 0, 0, 0, 0, 0⟩ : EvV)]] := rfl
theorem own_cap {W : World} {e : TypeId} {size B k c : Nat} {A : Option Addr} {xs : List Value} (h : W.ownsRow B e size (.slice A k c) k xs) (hk : 0 < k) : k ≤ c ∧ Rd W A xs ∧ ∃ g, A = some ⟨g, 0, none⟩ ∧ B ≤ g ∧ g < W.heap.size := by
  rcases h.2 with ⟨_, h0⟩ | ⟨g, cap, cur, hv, hb, hc, hn, _⟩
  · omega
  · have hlt := h.lt
    cases hv
    exact ⟨hn, Rd_of_own h, g, rfl, (hlt g rfl).1, (hlt g rfl).2⟩
set_option maxRecDepth 20000 in
set_option maxHeartbeats 4000000 in
theorem roundsLit_any (A : Option Addr) (c : Nat) (w : World) (hr : Rd w A (evCells litE)) :
    Calls Try.prog 54 #[.slice A 4 c] w fun e w' => (∃ g g1 g2 g3 cr c1 c2 c3, e = .returned (.slice (some ⟨g, 0, none⟩) 2 cr) ∧ w'.ownsRow w.heap.size 79 6 (.slice (some ⟨g, 0, none⟩) 2 cr) 2 [.int .i64 3, .slice (some ⟨g1, 0, none⟩) 1 c1, .slice none 0 0, .slice none 0 0, .int .i64 0, .bool false, .int .i64 2, .slice none 0 0, .slice (some ⟨g2, 0, none⟩) 1 c2, .slice (some ⟨g3, 0, none⟩) 1 c3, .int .i64 0, .bool false] ∧ w'.ownsRow w.heap.size 81 3 (.slice (some ⟨g2, 0, none⟩) 1 c2) 1 [.int .i64 0, .string ⟨#[111, 107]⟩, .bool false] ∧ w'.ownsRow w.heap.size 83 4 (.slice (some ⟨g3, 0, none⟩) 1 c3) 1 [.int .i64 0, .bool true, .bool false, .int .i64 0]) ∧ Below w.heap.size w w' := by
  have HRA := hid hr
  clear hr
  have hmm := @run_makeMap Try.prog
  go_enter Try.func54, Try.ntmps54
  go_upto_region 3 with fail
  obtain ⟨w1, hw1⟩ : ∃ W, (w.alloc (.map #[] 0)).alloc (.cells #[.int .i64 0, .map (some w.heap.size)] 132) = W := ⟨_, rfl⟩
  have HM1 : Hid (w1.ownsMap (H := Unit) Try.prog 3 (plainElem Try.prog 4) w.heap.size 0 (.map [])) := by rw [← hw1]; exact (World.ownsMap_made w _ _ _).alloc _
  have HC1 : Hid (Blk w1 (w.heap.size + 1) 132 #[.int .i64 0, .map (some w.heap.size)]) := by
    rw [Hid, ← hw1]
    have := Blk.new (w.alloc (.map #[] 0)) 132 #[.int .i64 0, .map (some w.heap.size)]
    simpa using this
  have HB1 : Hid (Below w.heap.size w w1) := by rw [← hw1]; exact ((Below.refl _ _).alloc (Nat.le_refl _) _).alloc (by simp) _
  try rw [hw1]
  clear hw1 hmm
  have HLT : Hid (w.heap.size + 1 < w1.heap.size) := HC1.out.lt
  obtain ⟨gm, hgm⟩ : ∃ y, w.heap.size = y := ⟨_, rfl⟩
  have HGM := hid hgm
  rw [hgm] at HM1 HC1 HLT ⊢
  obtain ⟨gc, hgc⟩ : ∃ y, gm + 1 = y := ⟨_, rfl⟩
  have HGC := hid hgc
  rw [hgc] at HC1 HLT ⊢
  clear hgm hgc
  have CR := hid (cutRounds_any A 4 c litE w1 rfl (HRA.out.below HB1.out) (by omega))
  go_wp2_with fail
  refine CR.out.mono ?_
  rintro en w2 ⟨⟨vs, ov, rfl, hcut⟩, hb⟩
  rw [cut_lit] at hcut
  obtain ⟨A0, c0, hv0, ho0⟩ := hcut.row 0 _ rfl
  obtain ⟨A1, c1, hv1, ho1⟩ := hcut.row 1 _ rfl
  obtain ⟨hc0, hr0, ga0, rfl, hb0, hl0⟩ := own_cap ho0 (by decide)
  obtain ⟨hc1, hr1, ga1, rfl, hb1, hl1⟩ := own_cap ho1 (by decide)
  obtain ⟨g0, co, hov⟩ := own_some hcut.out (by decide)
  subst hov
  have HO2 := hid hcut.out
  have HR0 := hid hr0; have HR1 := hid hr1; have HV0 := hid hv0; have HV1 := hid hv1; have HCP := hid (And.intro hc0 hc1)
  have HG2 : Hid (w1.heap.size ≤ ga0 ∧ w1.heap.size ≤ ga1 ∧ w1.heap.size ≤ g0) := ⟨hb0, hb1, (hcut.out.lt g0 rfl).1⟩
  have HC2 := hid (HC1.out.below hb HC1.out.lt)
  have HM2 := hid (ownsMap_same HM1.out (hb.block gm HM1.out.lt))
  have HB2 : Hid (Below w.heap.size w w2) := HB1.out.trans (hb.mono HB1.out.size)
  have HS2 : Hid (w1.heap.size ≤ w2.heap.size) := hb.size
  clear hcut hv0 hv1 ho0 ho1 hr0 hr1 hc0 hc1 hb0 hb1 hl0 hl1 hb CR HRA HB1 HC1 HM1
  go_wp2_with fail
  refine wp_loop_rounds 3 ?_
  rw [rounds_succ]
  have z0 : w2.cell? ⟨g0, 0, none⟩ = some (.slice (some ⟨ga0, 0, none⟩) 2 c0) := (HO2.out.cellAt 0 (by decide)).trans HV0.out
  have zl := (HO2.out.lt g0 rfl).2
  have C1 := hid (roundOpen_any gc gm (some ⟨ga0, 0, none⟩) c0 w2 HC2.out HR0.out (fun a h => by cases h; have := HG2.out; have := HLT.out; show ga0 ≠ gc; omega) HCP.out.1 HM2.out (by have := HGC.out; omega) (fun a h => by cases h; have := HG2.out; have := HLT.out; have := HGC.out; show ga0 ≠ gm; omega))
  go_wp2_with fail
  refine C1.out.mono ?_
  rintro en w3 ⟨⟨g1, d1, rfl, ho1, hc3⟩, hk⟩
  have HR31 := hid (hk.rd HR1.out (fun a h => by cases h; have := HG2.out; have := HLT.out; have := HGC.out; show ¬ (ga1 = gc ∨ ga1 = gm); omega))
  have HO3 := hid (hk.own HO2.out (fun k h => by cases h; have := HG2.out; have := HLT.out; have := HGC.out; show ¬ (g0 = gc ∨ g0 = gm); omega))
  have HC3 := hid hc3
  have HP3 := hid ho1
  have HF3 : Hid (∀ k, (Value.slice (some ⟨g1, 0, none⟩) 1 d1).ownBlock = some k → w2.heap.size ≤ k) := fun k h => (ho1.lt k h).1
  have HB3 : Hid (Below w.heap.size w w3) := HB2.out.trans (hk.below HB2.out.size (fun k h => by have := HGM.out; have := HGC.out; rcases h with h | h <;> omega))
  have HS3 : Hid (w2.heap.size ≤ w3.heap.size) := hk.size
  have hs3 : w.heap.size ≤ w3.heap.size := HB3.out.size
  clear ho1 hc3 hk C1 z0 zl HO2 HC2 HM2 HB2 HR0 HR1
  go_wp2_with (at_builtin; refine wpList_append1K _ rfl _ _ 73 rfl w.heap.size 79 _ 6 96 Try.underlying73 Try.infoRd rfl (by decide) _ 0 [] rfl (World.ownsRow_nil _ _ _ _) 1 [.int .i64 3, .slice (some ⟨g1, 0, none⟩) 1 d1, .slice none 0 0, .slice none 0 0, .int .i64 0, .bool false] rfl rfl rfl ?_ (by decide) hs3 ?_)
  · omega
  intro g4 c4 w4 hown4 hk4 hf4
  have HB4 : Hid (Below w3.heap.size w3 w4) := hk4.below (Nat.le_refl _) (fun k h => by cases h)
  have HR41 := hid (HR31.out.below HB4.out)
  have HO4 := hid (own_below HO3.out HB4.out)
  have HC4 := hid (HC3.out.below HB4.out HC3.out.lt)
  have HQ4 := hid hown4
  have HF4 : Hid (w3.heap.size ≤ g4) := by rcases hf4 with h | h; cases h; exact h
  have HB4w : Hid (Below w.heap.size w w4) := HB3.out.trans (HB4.out.mono hs3)
  clear hown4 hk4 hf4 hs3 HB4 HR31 HO3 HC3 HB3 HP3
  go_wp2_with fail
  rw [rounds_succ]
  have z0 : w4.cell? ⟨g0, 1, none⟩ = some (.slice (some ⟨ga1, 0, none⟩) 2 c1) := (HO4.out.cellAt 1 (by decide)).trans HV1.out
  have zl := (HO4.out.lt g0 rfl).2
  have C1 := hid (roundRead_any gc (.map (some gm)) (some ⟨ga1, 0, none⟩) c1 w4 HC4.out HR41.out (fun a h => by cases h; have := HG2.out; have := HLT.out; show ga1 ≠ gc; omega) HCP.out.2)
  go_wp2_with fail
  refine C1.out.mono ?_
  rintro en w5 ⟨⟨g2, d2, g3, d3, rfl, ho2, ho3⟩, hk⟩
  have hs4 : w.heap.size ≤ w4.heap.size := HB4w.out.size
  have HQ5 := hid (hk.own HQ4.out (fun k h => by cases h; have := HF4.out; have := HS3.out; have := HS2.out; have := HLT.out; show g4 ≠ gc; omega))
  have HP2 := hid (own_base ho2 hs4); have HP3 := hid (own_base ho3 hs4)
  have HF5 : Hid (g4 < w4.heap.size ∧ w4.heap.size ≤ g2 ∧ w4.heap.size ≤ g3) := ⟨(HQ4.out.lt g4 rfl).2, (ho2.lt g2 rfl).1, (ho3.lt g3 rfl).1⟩
  have HB5 : Hid (Below w.heap.size w w5) := HB4w.out.trans (hk.below HB4w.out.size (fun k h => by have := HGM.out; have := HGC.out; omega))
  have hs5 : w.heap.size ≤ w5.heap.size := HB5.out.size
  clear ho2 ho3 hk C1 z0 zl HQ4 HC4 HR41 HB4w HO4 hs4
  go_wp2_with (at_builtin; refine wpList_append1K _ rfl _ _ 73 rfl w.heap.size 79 _ 6 96 Try.underlying73 Try.infoRd rfl (by decide) _ 1 [.int .i64 3, .slice (some ⟨g1, 0, none⟩) 1 d1, .slice none 0 0, .slice none 0 0, .int .i64 0, .bool false] rfl HQ5.out 1 [.int .i64 2, .slice none 0 0, .slice (some ⟨g2, 0, none⟩) 1 d2, .slice (some ⟨g3, 0, none⟩) 1 d3, .int .i64 0, .bool false] rfl rfl rfl ?_ (by decide) hs5 ?_)
  · omega
  intro g6 c6 w6 hown6 hk6 hf6
  have HP6 := hid (hk6.own HP2.out (fun k h e => by cases h; cases e; have := HF5.out; omega))
  have HR6 := hid (hk6.own HP3.out (fun k h e => by cases h; cases e; have := HF5.out; omega))
  have HB6 : Hid (Below w.heap.size w w6) := HB5.out.trans (hk6.below HB5.out.size (fun k h => (HQ5.out.lt k h).1))
  have HQ6 := hid hown6
  clear hown6 hk6 hf6 hs5 HQ5 HP2 HP3 HB5
  go_wp2_with fail
  rw [rounds_succ]
  go_wp2_with fail
  go_ret
  exact ⟨⟨g6, g1, g2, g3, c6, d1, d2, d3, rfl, HQ6.out, HP6.out, HR6.out⟩, HB6.out⟩
def LitQ (w : World) (e : Ending) (w' : World) : Prop := (∃ g g1 g2 g3 cr c1 c2 c3, e = .returned (.slice (some ⟨g, 0, none⟩) 2 cr) ∧ w'.ownsRow w.heap.size 79 6 (.slice (some ⟨g, 0, none⟩) 2 cr) 2 [.int .i64 3, .slice (some ⟨g1, 0, none⟩) 1 c1, .slice none 0 0, .slice none 0 0, .int .i64 0, .bool false, .int .i64 2, .slice none 0 0, .slice (some ⟨g2, 0, none⟩) 1 c2, .slice (some ⟨g3, 0, none⟩) 1 c3, .int .i64 0, .bool false] ∧ w'.ownsRow w.heap.size 81 3 (.slice (some ⟨g2, 0, none⟩) 1 c2) 1 [.int .i64 0, .string ⟨#[111, 107]⟩, .bool false] ∧ w'.ownsRow w.heap.size 83 4 (.slice (some ⟨g3, 0, none⟩) 1 c3) 1 [.int .i64 0, .bool true, .bool false, .int .i64 0]) ∧ Below w.heap.size w w'
theorem RoundsLit_any (A : Option Addr) (c : Nat) (w : World) (hr : Rd w A (evCells litE)) : Calls Try.prog 33 #[.slice A 4 c] w fun e w' => LitQ w e w' := by
  have C1 := hid (roundsLit_any A c w hr)
  obtain ⟨Q, hQ⟩ : ∃ Q : Ending → World → Prop, (fun e w' => LitQ w e w') = Q := ⟨_, rfl⟩
  have HQ := hid hQ
  rw [hQ]
  clear hQ hr
  go_enter Try.func33, Try.ntmps33
  go_wp2_with fail
  refine C1.out.mono ?_
  rintro en w1 h
  obtain ⟨⟨g, g1, g2, g3, cr, c1, c2, c3, rfl, h1, h2, h3⟩, h4⟩ := h
  go_wp2_with fail
  try go_ret
  rw [← HQ.out]
  exact ⟨⟨g, g1, g2, g3, cr, c1, c2, c3, rfl, h1, h2, h3⟩, h4⟩
set_option maxRecDepth 20000 in
set_option maxHeartbeats 4000000 in
theorem lives40_any (w : World) : Calls Try.prog 10 #[] w fun e w' => e = .returned (.bool true) ∧ Below w.heap.size w w' := by
  obtain ⟨w1, hw1⟩ : ∃ W, w.alloc (.cells #[.int .i64 1, .int .i64 0, .int .i64 0, .int .i64 3, .string ⟨#[]⟩, .int .i64 0, .int .i64 0, .int .i64 0, .int .i64 0, .int .i64 0, .int .i64 0, .int .i64 0, .int .i64 2, .int .i64 0, .int .i64 0, .int .i64 0, .string ⟨#[]⟩, .int .i64 0, .int .i64 0, .int .i64 0, .int .i64 0, .int .i64 0, .int .i64 0, .int .i64 0, .int .i64 1, .int .i64 0, .int .i64 0, .int .i64 5, .string ⟨#[]⟩, .int .i64 0, .int .i64 0, .int .i64 0, .int .i64 0, .int .i64 0, .int .i64 0, .int .i64 0, .int .i64 4, .int .i64 0, .int .i64 2, .int .i64 0, .string ⟨#[111, 107]⟩, .int .i64 0, .int .i64 0, .int .i64 0, .int .i64 0, .int .i64 0, .int .i64 0, .int .i64 0] 72) = W := ⟨_, rfl⟩
  have HB1 : Hid (Below w.heap.size w w1) := by rw [← hw1]; exact (Below.refl _ _).alloc (Nat.le_refl _) _
  have C1 := hid (RoundsLit_any (some ⟨w.heap.size, 0, none⟩) 4 w1 (by rw [← hw1]; exact Rd_lit w 72 #[.int .i64 1, .int .i64 0, .int .i64 0, .int .i64 3, .string ⟨#[]⟩, .int .i64 0, .int .i64 0, .int .i64 0, .int .i64 0, .int .i64 0, .int .i64 0, .int .i64 0, .int .i64 2, .int .i64 0, .int .i64 0, .int .i64 0, .string ⟨#[]⟩, .int .i64 0, .int .i64 0, .int .i64 0, .int .i64 0, .int .i64 0, .int .i64 0, .int .i64 0, .int .i64 1, .int .i64 0, .int .i64 0, .int .i64 5, .string ⟨#[]⟩, .int .i64 0, .int .i64 0, .int .i64 0, .int .i64 0, .int .i64 0, .int .i64 0, .int .i64 0, .int .i64 4, .int .i64 0, .int .i64 2, .int .i64 0, .string ⟨#[111, 107]⟩, .int .i64 0, .int .i64 0, .int .i64 0, .int .i64 0, .int .i64 0, .int .i64 0, .int .i64 0]))
  go_enter Try.func10, Try.ntmps10
  go_wp2_with fail
  refine C1.out.mono ?_
  rintro en w2 ⟨⟨g, g1, g2, g3, cr, c1, c2, c3, rfl, h1, h2, h3⟩, h4⟩
  have HB2 : Hid (Below w.heap.size w w2) := HB1.out.trans (h4.mono HB1.out.size)
  have x0 : w2.cell? ⟨g, 0, none⟩ = some (.int .i64 3) := h1.cellAt 0 (by decide)
  have x1 : w2.cell? ⟨g, 1, none⟩ = some (.slice (some ⟨g1,0,none⟩) 1 c1) := h1.cellAt 1 (by decide)
  have x2 : w2.cell? ⟨g, 2, none⟩ = some (.slice none 0 0) := h1.cellAt 2 (by decide)
  have x3 : w2.cell? ⟨g, 3, none⟩ = some (.slice none 0 0) := h1.cellAt 3 (by decide)
  have x4 : w2.cell? ⟨g, 4, none⟩ = some (.int .i64 0) := h1.cellAt 4 (by decide)
  have x5 : w2.cell? ⟨g, 5, none⟩ = some (.bool false) := h1.cellAt 5 (by decide)
  have x6 : w2.cell? ⟨g, 6, none⟩ = some (.int .i64 2) := h1.cellAt 6 (by decide)
  have x7 : w2.cell? ⟨g, 7, none⟩ = some (.slice none 0 0) := h1.cellAt 7 (by decide)
  have x8 : w2.cell? ⟨g, 8, none⟩ = some (.slice (some ⟨g2,0,none⟩) 1 c2) := h1.cellAt 8 (by decide)
  have x9 : w2.cell? ⟨g, 9, none⟩ = some (.slice (some ⟨g3,0,none⟩) 1 c3) := h1.cellAt 9 (by decide)
  have x10 : w2.cell? ⟨g, 10, none⟩ = some (.int .i64 0) := h1.cellAt 10 (by decide)
  have x11 : w2.cell? ⟨g, 11, none⟩ = some (.bool false) := h1.cellAt 11 (by decide)
  have y1 : w2.cell? ⟨g2, 1, none⟩ = some (.string ⟨#[111, 107]⟩) := h2.cellAt 1 (by decide)
  have z1 : w2.cell? ⟨g3, 1, none⟩ = some (.bool true) := h3.cellAt 1 (by decide)
  have l0 := (h1.lt g rfl).2; have l2 := (h2.lt g2 rfl).2; have l3 := (h3.lt g3 rfl).2
  clear h1 h2 h3 h4 C1 hw1 HB1
  go_wp2_with fail
  go_ret
  exact ⟨rfl, HB2.out⟩
end Go.Proofs.Ytpkkfdmhbbipoaa
