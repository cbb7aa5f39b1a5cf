/- The rounds that tell two events each: the literal of the law. -/
import Derived.Test.YtpkkfdmhbbipoaaEvf
import Derived.Test.YtpkkfdmhbbipoaaTi
import Derived.Maps.Own
namespace Go.Proofs.Ytpkkfdmhbbipoaa
open Go.RowKit Go.Maps

theorem leftE_any (t now : Int) (w : World) (h0 : 0 ≤ now) (h1 : now < t) (h2 : t < 9223372036854775807) : Calls Try.prog 81 #[.int .i64 t, .int .i64 now] w fun e w' => e = .returned (.int .i64 (t - now)) ∧ w = w' := by
  have C1 := hid (fun W => own_any t W)
  have C2 := hid (fun W => own_any now W)
  rw [show ownT t = t by unfold ownT; rw [if_neg (by omega)]] at C1
  rw [show ownT now = now by unfold ownT; rw [if_neg (by omega)]] at C2
  have b1 : (t == 9223372036854775807) = false := by rw [beq_eq_false_iff_ne]; omega
  have b2 : ¬ t = 9223372036854775807 := by omega
  have b3 : ¬ t ≤ now := by omega
  have hw : IntKind.i64.wrap (t - now) = t - now := by apply IntWalk.i64_in <;> omega
  clear h1 h2
  go_enter Try.func81, Try.ntmps81
  go_wp2_with fail
  refine (C1.out _).mono ?_
  rintro en w1 ⟨rfl, rfl⟩
  go_wp2_with fail
  refine (C2.out _).mono ?_
  rintro en w1 ⟨rfl, rfl⟩
  go_wp2_with fail
  go_ret
  exact ⟨rfl, rfl⟩
theorem slice_ev (bb ob k : Nat) (W : World) (hk : 2 ≤ k) : (Instr.slice 22 (.slice (some ⟨bb, ob, none⟩) 2 k) (some (.int .i64 1)) none none).run Try.prog W = .ok (.slice (some ⟨bb, ob + 12, none⟩) 1 (k - 1)) W := by
  have e : Try.prog.elem 22 = 72 := by kernel_rfl
  have es : ∀ w, (sizeOf 72).run Try.prog w = .ok 12 w := fun w => by kernel_rfl
  rw [run_slice_l W 22 (some ⟨bb, ob, none⟩) 2 k (by rw [e]; exact Try.underlying22) .i64 1 (by omega) (by omega), e, es]
  have hne : ¬ k = 1 := by omega
  simp [Result.andThen, sliced, Addr.add, hne]
theorem ownsMap_same {H : Type} {P : Program} {k : TypeId} {R : Value → Option (DataW H × List MemPlace)} {b n : Nat} {D : DataW H} {w w' : World} (h : w.ownsMap P k R b n D) (he : w'.heap[b]? = w.heap[b]?) : w'.ownsMap P k R b n D := by
  obtain ⟨es, clock, hb, F, hs, hD⟩ := h
  exact ⟨es, clock, he.trans hb, F, hs, hD⟩
theorem Keep.of_grown {w w' : World} {b : Nat} (h : w.grownBy w' (some b)) : Keep (fun k => k = b) w w' := ⟨h.os, h.tape, h.output, h.size, fun k hk hf => h.block k hk (fun e => hf (Option.some.inj e))⟩
theorem Try.keyI : Keyed Try.prog 3 := int_keyed Try.underlying3
theorem Try.infoIE : (Try.prog.info? 3).map (fun i => (i.zero, i.size, i.bytes)) = some (some (.int .i64 0), 1, 8) := by kernel_rfl

set_option maxRecDepth 20000 in
set_option maxHeartbeats 4000000 in
theorem roundRead_any (gc : Nat) (M : Value) (A : Option Addr) (c : Nat) (w : World) (hc : Blk w gc 132 #[.int .i64 3, M]) (hr : Rd w A [.int .i64 1, .int .i64 0, .int .i64 0, .int .i64 5, .string ⟨#[]⟩, .int .i64 0, .int .i64 0, .int .i64 0, .int .i64 0, .int .i64 0, .int .i64 0, .int .i64 0, .int .i64 4, .int .i64 0, .int .i64 2, .int .i64 0, .string ⟨#[111,107]⟩, .int .i64 0, .int .i64 0, .int .i64 0, .int .i64 0, .int .i64 0, .int .i64 0, .int .i64 0]) (hA : ∀ a, A = some a → a.block ≠ gc) (hcap : 2 ≤ c) :
    Calls Try.prog 67 #[.pointer (some ⟨gc, 0, none⟩), .slice A 2 c] w fun e w' => (∃ g1 c1 g2 c2, e = .returned (.agg #[.int .i64 2, .slice none 0 0, .slice (some ⟨g1, 0, none⟩) 1 c1, .slice (some ⟨g2, 0, none⟩) 1 c2, .int .i64 0, .bool false]) ∧ w'.ownsRow w.heap.size 81 3 (.slice (some ⟨g1, 0, none⟩) 1 c1) 1 [.int .i64 0, .string ⟨#[111, 107]⟩, .bool false] ∧ w'.ownsRow w.heap.size 83 4 (.slice (some ⟨g2, 0, none⟩) 1 c2) 1 [.int .i64 0, .bool true, .bool false, .int .i64 0]) ∧ Keep (fun k => k = gc) w w' := by
  obtain ⟨bl, off, rfl, hbl, hcc⟩ := hr.at (by simp)
  have hne := hA _ rfl
  have HBL : Hid (∀ W : World, W.heap[bl]? = w.heap[bl]? → ∀ (j : Nat) u, ([.int .i64 1, .int .i64 0, .int .i64 0, .int .i64 5, .string ⟨#[]⟩, .int .i64 0, .int .i64 0, .int .i64 0, .int .i64 0, .int .i64 0, .int .i64 0, .int .i64 0, .int .i64 4, .int .i64 0, .int .i64 2, .int .i64 0, .string ⟨#[111,107]⟩, .int .i64 0, .int .i64 0, .int .i64 0, .int .i64 0, .int .i64 0, .int .i64 0, .int .i64 0] : List Value)[j]? = some u → W.cell? ⟨bl, off + j, none⟩ = some u) := fun W hW j u hj => (World.cell?_of_block (a := ⟨bl, off + j, none⟩) hW).trans (hcc j u hj)
  have HLT := hid hbl; have HNE := hid hne; have HC := hid hc
  have CL := hid (fun W => leftE_any 5 3 W (by omega) (by omega) (by omega))
  obtain ⟨dt, hdt⟩ : ∃ y : Int, 5 - 3 = y := ⟨_, rfl⟩
  have HDT : Hid (dt = 2) := by rw [Hid, ← hdt]; rfl
  rw [hdt] at CL
  clear hr hA hcc hbl hne hc hdt
  go_enter Try.func67, Try.ntmps67
  go_upto_region 1 with fail
  obtain ⟨wa, hwa⟩ : ∃ W, w.alloc (.cells #[.int .i64 0, .slice none 0 0, .slice none 0 0, .slice none 0 0, .int .i64 0, .bool false] 79) = W := ⟨_, rfl⟩
  have HRA : Hid (Blk wa w.heap.size 79 #[.int .i64 0, .slice none 0 0, .slice none 0 0, .slice none 0 0, .int .i64 0, .bool false]) := by rw [← hwa]; exact Blk.new w _ _
  have HBA : Hid (Below w.heap.size w wa) := by rw [← hwa]; exact (Below.refl _ _).alloc (Nat.le_refl _) _
  rw [hwa]
  have HCA := hid (HC.out.below HBA.out HC.out.lt)
  clear hwa
  have x3 : wa.cell? ⟨bl, off + 3, none⟩ = some (.int .i64 5) := HBL.out wa (HBA.out.block bl HLT.out) 3 _ rfl
  have y0 : wa.cell? ⟨gc, 0, none⟩ = some (.int .i64 3) := HCA.out.cell 0
  have yl := HCA.out.lt
  go_wp2_with fail
  refine (CL.out _).mono ?_
  rintro en w1 ⟨rfl, rfl⟩
  go_upto_region 3 with fail
  obtain ⟨wb, hwb⟩ : ∃ W, wa.alloc (.cells #[.int .i64 dt, .slice none 0 0, .slice none 0 0, .slice none 0 0, .int .i64 0, .bool false] 79) = W := ⟨_, rfl⟩
  have HRB : Hid (Blk wb wa.heap.size 79 #[.int .i64 dt, .slice none 0 0, .slice none 0 0, .slice none 0 0, .int .i64 0, .bool false]) := by rw [← hwb]; exact Blk.new wa _ _
  have HBB : Hid (Below wa.heap.size wa wb) := by rw [← hwb]; exact (Below.refl _ _).alloc (Nat.le_refl _) _
  rw [hwb]
  have HCB := hid (HCA.out.below HBB.out HCA.out.lt)
  have HAB := hid (HRA.out.below HBB.out HRA.out.lt)
  have HBW : Hid (Below w.heap.size w wb) := HBA.out.trans (HBB.out.mono HBA.out.size)
  have HNR : Hid (w.heap.size < wa.heap.size) := HRA.out.lt
  clear hwb x3 y0 yl HCA HRA HBA HBB CL
  obtain ⟨ga, hga⟩ : ∃ y, w.heap.size = y := ⟨_, rfl⟩
  obtain ⟨gr, hgr⟩ : ∃ y, wa.heap.size = y := ⟨_, rfl⟩
  have HGA := hid hga
  rw [hga, hgr] at HNR
  rw [hga] at HAB ⊢
  rw [hgr] at HRB ⊢
  clear hga hgr
  have y0 : wb.cell? ⟨gc, 0, none⟩ = some (.int .i64 3) := HCB.out.cell 0
  have yf := HCB.out.frozen 0
  have yl := HCB.out.lt
  have hsl := slice_ev bl off c
  go_upto_region 4 with fail
  obtain ⟨wd, hwd, HCD, HKD⟩ := Blk.putE HCB.out 0 (.int .i64 5)
  rw [hwd]
  have hgl := HC.out.lt
  have HRD := hid (HKD.out.blk HRB.out (fun e => by have := HGA.out; have := HNR.out; omega))
  have HAD := hid (HKD.out.blk HAB.out (fun e => by have := HGA.out; omega))
  have HKW : Hid (Keep (fun k => k = gc) w wd) := (Keep.of_below (F := fun k => k = gc) HBW.out).trans HKD.out (fun k h => .inl h)
  clear hwd HRB HAB HBW HKD HCB y0 yf yl hgl
  have hsl2 := fun W => hsl W hcap
  clear hsl
  go_wp2_with fail
  refine wp_loop_rounds 2 ?_
  rw [rounds_succ]
  have hbd : wd.heap[bl]? = w.heap[bl]? := HKW.out.block bl HLT.out HNE.out
  have x0 : wd.cell? ⟨bl, off + 12, none⟩ = some (.int .i64 4) := HBL.out wd hbd 12 _ rfl
  have x1 : wd.cell? ⟨bl, off + 13, none⟩ = some (.int .i64 0) := HBL.out wd hbd 13 _ rfl
  have x2 : wd.cell? ⟨bl, off + 14, none⟩ = some (.int .i64 2) := HBL.out wd hbd 14 _ rfl
  have x3 : wd.cell? ⟨bl, off + 15, none⟩ = some (.int .i64 0) := HBL.out wd hbd 15 _ rfl
  have x4 : wd.cell? ⟨bl, off + 16, none⟩ = some (.string ⟨#[111,107]⟩) := HBL.out wd hbd 16 _ rfl
  have x5 : wd.cell? ⟨bl, off + 17, none⟩ = some (.int .i64 0) := HBL.out wd hbd 17 _ rfl
  have x6 : wd.cell? ⟨bl, off + 18, none⟩ = some (.int .i64 0) := HBL.out wd hbd 18 _ rfl
  have x7 : wd.cell? ⟨bl, off + 19, none⟩ = some (.int .i64 0) := HBL.out wd hbd 19 _ rfl
  have x8 : wd.cell? ⟨bl, off + 20, none⟩ = some (.int .i64 0) := HBL.out wd hbd 20 _ rfl
  have x9 : wd.cell? ⟨bl, off + 21, none⟩ = some (.int .i64 0) := HBL.out wd hbd 21 _ rfl
  have x10 : wd.cell? ⟨bl, off + 22, none⟩ = some (.int .i64 0) := HBL.out wd hbd 22 _ rfl
  have x11 : wd.cell? ⟨bl, off + 23, none⟩ = some (.int .i64 0) := HBL.out wd hbd 23 _ rfl
  have xbl : bl < wd.heap.size := Nat.lt_of_lt_of_le HLT.out HKW.out.size
  clear hbd
  go_upto_region 7 with fail
  obtain ⟨we, hwe⟩ : ∃ W, wd.alloc (.cells #[.int .i64 4, .int .i64 0, .int .i64 2, .int .i64 0, .string ⟨#[111,107]⟩, .int .i64 0, .int .i64 0, .int .i64 0, .int .i64 0, .int .i64 0, .int .i64 0, .int .i64 0] 72) = W := ⟨_, rfl⟩
  have HXE : Hid (Blk we wd.heap.size 72 #[.int .i64 4, .int .i64 0, .int .i64 2, .int .i64 0, .string ⟨#[111,107]⟩, .int .i64 0, .int .i64 0, .int .i64 0, .int .i64 0, .int .i64 0, .int .i64 0, .int .i64 0]) := by rw [← hwe]; exact Blk.new wd _ _
  have HBE : Hid (Below wd.heap.size wd we) := by rw [← hwe]; exact (Below.refl _ _).alloc (Nat.le_refl _) _
  rw [hwe]
  have HRE := hid (HRD.out.below HBE.out HRD.out.lt)
  have HAE := hid (HAD.out.below HBE.out HAD.out.lt)
  have HCE := hid (HCD.out.below HBE.out HCD.out.lt)
  have HKE : Hid (Keep (fun k => k = gc) w we) := HKW.out.trans (Keep.of_below (F := fun k => k = gc) HBE.out) (fun k h => .inl h)
  have HNX : Hid (gr < wd.heap.size) := HRD.out.lt
  clear hwe x0 x1 x2 x3 x4 x5 x6 x7 x8 x9 x10 x11 xbl HBE HRD HAD HCD HKW
  obtain ⟨gx, hgx⟩ : ∃ y, wd.heap.size = y := ⟨_, rfl⟩
  rw [hgx] at HXE HNX ⊢
  clear hgx
  have x0 : we.cell? ⟨gx, 0, none⟩ = some (.int .i64 4) := HXE.out.cell 0
  have xl := HXE.out.lt
  have TX0 : ∀ q : BW we.heap.size we, q.1.cell? ⟨gx, 0, none⟩ = some (.int .i64 4) := fun q => q.cellAt HXE.out.lt (HXE.out.cell 0)
  have TX1 : ∀ q : BW we.heap.size we, q.1.cell? ⟨gx, 1, none⟩ = some (.int .i64 0) := fun q => q.cellAt HXE.out.lt (HXE.out.cell 1)
  have TX2 : ∀ q : BW we.heap.size we, q.1.cell? ⟨gx, 2, none⟩ = some (.int .i64 2) := fun q => q.cellAt HXE.out.lt (HXE.out.cell 2)
  have TX3 : ∀ q : BW we.heap.size we, q.1.cell? ⟨gx, 3, none⟩ = some (.int .i64 0) := fun q => q.cellAt HXE.out.lt (HXE.out.cell 3)
  have TX4 : ∀ q : BW we.heap.size we, q.1.cell? ⟨gx, 4, none⟩ = some (.string ⟨#[111,107]⟩) := fun q => q.cellAt HXE.out.lt (HXE.out.cell 4)
  have TX5 : ∀ q : BW we.heap.size we, q.1.cell? ⟨gx, 5, none⟩ = some (.int .i64 0) := fun q => q.cellAt HXE.out.lt (HXE.out.cell 5)
  have TX6 : ∀ q : BW we.heap.size we, q.1.cell? ⟨gx, 6, none⟩ = some (.int .i64 0) := fun q => q.cellAt HXE.out.lt (HXE.out.cell 6)
  have TX7 : ∀ q : BW we.heap.size we, q.1.cell? ⟨gx, 7, none⟩ = some (.int .i64 0) := fun q => q.cellAt HXE.out.lt (HXE.out.cell 7)
  have TX8 : ∀ q : BW we.heap.size we, q.1.cell? ⟨gx, 8, none⟩ = some (.int .i64 0) := fun q => q.cellAt HXE.out.lt (HXE.out.cell 8)
  have TX9 : ∀ q : BW we.heap.size we, q.1.cell? ⟨gx, 9, none⟩ = some (.int .i64 0) := fun q => q.cellAt HXE.out.lt (HXE.out.cell 9)
  have TX10 : ∀ q : BW we.heap.size we, q.1.cell? ⟨gx, 10, none⟩ = some (.int .i64 0) := fun q => q.cellAt HXE.out.lt (HXE.out.cell 10)
  have TX11 : ∀ q : BW we.heap.size we, q.1.cell? ⟨gx, 11, none⟩ = some (.int .i64 0) := fun q => q.cellAt HXE.out.lt (HXE.out.cell 11)
  have hbe : we.heap[bl]? = w.heap[bl]? := HKE.out.block bl HLT.out HNE.out
  have hle : bl < we.heap.size := Nat.lt_of_lt_of_le HLT.out HKE.out.size
  have TL0 : ∀ q : BW we.heap.size we, q.1.cell? ⟨bl, off, none⟩ = some (.int .i64 1) := fun q => q.cellAt hle (HBL.out we hbe 0 _ rfl)
  have TL1 : ∀ q : BW we.heap.size we, q.1.cell? ⟨bl, off + 1, none⟩ = some (.int .i64 0) := fun q => q.cellAt hle (HBL.out we hbe 1 _ rfl)
  have TL2 : ∀ q : BW we.heap.size we, q.1.cell? ⟨bl, off + 2, none⟩ = some (.int .i64 0) := fun q => q.cellAt hle (HBL.out we hbe 2 _ rfl)
  have TL3 : ∀ q : BW we.heap.size we, q.1.cell? ⟨bl, off + 3, none⟩ = some (.int .i64 5) := fun q => q.cellAt hle (HBL.out we hbe 3 _ rfl)
  have TL4 : ∀ q : BW we.heap.size we, q.1.cell? ⟨bl, off + 4, none⟩ = some (.string ⟨#[]⟩) := fun q => q.cellAt hle (HBL.out we hbe 4 _ rfl)
  have TL5 : ∀ q : BW we.heap.size we, q.1.cell? ⟨bl, off + 5, none⟩ = some (.int .i64 0) := fun q => q.cellAt hle (HBL.out we hbe 5 _ rfl)
  have TL6 : ∀ q : BW we.heap.size we, q.1.cell? ⟨bl, off + 6, none⟩ = some (.int .i64 0) := fun q => q.cellAt hle (HBL.out we hbe 6 _ rfl)
  have TL7 : ∀ q : BW we.heap.size we, q.1.cell? ⟨bl, off + 7, none⟩ = some (.int .i64 0) := fun q => q.cellAt hle (HBL.out we hbe 7 _ rfl)
  have TL8 : ∀ q : BW we.heap.size we, q.1.cell? ⟨bl, off + 8, none⟩ = some (.int .i64 0) := fun q => q.cellAt hle (HBL.out we hbe 8 _ rfl)
  have TL9 : ∀ q : BW we.heap.size we, q.1.cell? ⟨bl, off + 9, none⟩ = some (.int .i64 0) := fun q => q.cellAt hle (HBL.out we hbe 9 _ rfl)
  have TL10 : ∀ q : BW we.heap.size we, q.1.cell? ⟨bl, off + 10, none⟩ = some (.int .i64 0) := fun q => q.cellAt hle (HBL.out we hbe 10 _ rfl)
  have TL11 : ∀ q : BW we.heap.size we, q.1.cell? ⟨bl, off + 11, none⟩ = some (.int .i64 0) := fun q => q.cellAt hle (HBL.out we hbe 11 _ rfl)
  clear hbe
  go_upto_region 20 with fail
  try clear x0 xl
  refine wp_region_ordT we.heap.size [5] (.val 0 (.val 1 (.val 2 (.val 3 (.val 4 (.op 5 (.nil))))))) (by kernel_rfl) (by kernel_rfl) ?_
  obtain ⟨wc, hwc⟩ : ∃ W, we.drewN 1 = W := ⟨_, rfl⟩
  have HBW : Hid (Below we.heap.size we wc) := by rw [← hwc]; exact drewN_below we 1
  rw [hwc]
  clear hwc
  iterate 5 ((first | refine wpOrdT_val rfl rfl ?_ | refine wpOrdT_load rfl rfl (inBW HBW.out) ?_); go_big_quiet_step (fail); refine wpQuiet_nil ?_)
  refine wpOrdT_op rfl ?_
  have HRC := hid (HRE.out.below HBW.out HRE.out.lt)
  have HAC := hid (HAE.out.below HBW.out HAE.out.lt)
  have HKC : Hid (Keep (fun k => k = gc) w wc) := HKE.out.trans (Keep.of_below (F := fun k => k = gc) HBW.out) (fun k h => .inl h)
  have CP := hid (peerRead_any gr dt 0 false (.slice none 0 0) 4 0 2 0 0 0 0 0 0 0 0 ⟨#[111,107]⟩ 1 0 0 5 0 0 0 0 0 0 0 ⟨#[]⟩ wc rfl HRC.out)
  go_wp2_with fail
  refine CP.out.mono ?_
  rintro en wf ⟨rfl, ⟨g1, c1, g2, c2, hr, h1, h2⟩, hk⟩
  have hs0 : w.heap.size ≤ wc.heap.size := HKC.out.size
  have HRF := hid hr; have H1 := hid (own_base h1 hs0); have H2 := hid (own_base h2 hs0); have HKF := hid hk
  have hrl := HGA.out
  have HAF := hid (hk.blk HAC.out (fun e => by have := HNR.out; omega))
  have HKW : Hid (Keep (fun k => k = gc) w wf) := HKC.out.trans hk (fun k h => .inr (by rw [h]; have := HNR.out; have := HGA.out; omega))
  have HF1 : Hid (∀ k, (Value.slice (some ⟨g1, 0, none⟩) 1 c1).ownBlock = some k → k ≠ ga) := fun k h => by have := (h1.lt k h).1; have := HAC.out.lt; omega
  have HF2 : Hid (∀ k, (Value.slice (some ⟨g2, 0, none⟩) 1 c2).ownBlock = some k → k ≠ ga) := fun k h => by have := (h2.lt k h).1; have := HAC.out.lt; omega
  clear hr h1 h2 hk hs0 hrl CP HRC HAC HKC HBW HRE HAE HCE HXE HNX HKE TX0 TX1 TX2 TX3 TX4 TX5 TX6 TX7 TX8 TX9 TX10 TX11 TL0 TL1 TL2 TL3 TL4 TL5 TL6 TL7 TL8 TL9 TL10 TL11 hle
  go_wp2_with fail
  refine KT.past rfl ?_
  refine wpOrdT_nil ?_
  go_wp2_with fail
  rw [rounds_succ]
  obtain ⟨x0, x1, x2, x3, x4, x5⟩ := fact6E HRF.out
  have xl := HRF.out.lt
  obtain ⟨y0, y1, y2, y3, y4, y5⟩ := fact6E HAF.out
  have yf : ∀ j, wf.frozen? ⟨ga, j, none⟩ = false := fun j => HAF.out.frozen j
  have yl := HAF.out.lt
  go_wp2_with fail
  obtain ⟨wz, hwz⟩ : ∃ W, ((((((wf.setCell ⟨ga, 0, none⟩ (.int .i64 dt)).setCell ⟨ga, 1, none⟩ (.slice none 0 0)).setCell ⟨ga, 2, none⟩ (.slice (some ⟨g1, 0, none⟩) 1 c1)).setCell ⟨ga, 3, none⟩ (.slice (some ⟨g2, 0, none⟩) 1 c2)).setCell ⟨ga, 4, none⟩ (.int .i64 0)).setCell ⟨ga, 5, none⟩ (.bool false)) = W := ⟨_, rfl⟩
  have HZ : Hid (Blk wz ga 79 #[.int .i64 dt, .slice none 0 0, .slice (some ⟨g1, 0, none⟩) 1 c1, .slice (some ⟨g2, 0, none⟩) 1 c2, .int .i64 0, .bool false]) := by rw [← hwz]; exact ((((((HAF.out.set 0 (.int .i64 dt)).set 1 (.slice none 0 0)).set 2 (.slice (some ⟨g1, 0, none⟩) 1 c1)).set 3 (.slice (some ⟨g2, 0, none⟩) 1 c2)).set 4 (.int .i64 0)).set 5 (.bool false))
  have HKZ : Hid (Keep (fun k => k = ga) wf wz) := by rw [← hwz]; exact ((((((Keep.refl (fun k => k = ga) wf).trans (Keep.setCell (fun k => k = ga) _ ⟨ga, 0, none⟩ (.int .i64 dt) rfl) (fun _ => .inl)).trans (Keep.setCell (fun k => k = ga) _ ⟨ga, 1, none⟩ (.slice none 0 0) rfl) (fun _ => .inl)).trans (Keep.setCell (fun k => k = ga) _ ⟨ga, 2, none⟩ (.slice (some ⟨g1, 0, none⟩) 1 c1) rfl) (fun _ => .inl)).trans (Keep.setCell (fun k => k = ga) _ ⟨ga, 3, none⟩ (.slice (some ⟨g2, 0, none⟩) 1 c2) rfl) (fun _ => .inl)).trans (Keep.setCell (fun k => k = ga) _ ⟨ga, 4, none⟩ (.int .i64 0) rfl) (fun _ => .inl)).trans (Keep.setCell (fun k => k = ga) _ ⟨ga, 5, none⟩ (.bool false) rfl) (fun _ => .inl)
  have HKY : Hid (Keep (fun k => k = gc) w wz) := HKW.out.trans HKZ.out (fun k h => .inr (by rw [h, ← HGA.out]; exact Nat.le_refl _))
  have hd := HDT.out
  subst hd
  rw [hwz]
  clear hwz
  obtain ⟨z0, z1, z2, z3, z4, z5⟩ := fact6E HZ.out
  exact bodyPost_ret (v := .agg #[.int .i64 2, .slice none 0 0, .slice (some ⟨g1, 0, none⟩) 1 c1, .slice (some ⟨g2, 0, none⟩) 1 c2, .int .i64 0, .bool false]) (by simp [results, Try.results67, go_sem, z0, z1, z2, z3, z4, z5]) rfl ⟨⟨g1, c1, g2, c2, rfl, HKZ.out.own H1.out (fun k h e => HF1.out k h e), HKZ.out.own H2.out (fun k h e => HF2.out k h e)⟩, HKY.out⟩


set_option maxRecDepth 20000 in
set_option maxHeartbeats 4000000 in
theorem roundOpen_any (gc : Nat) (gm : Nat) (A : Option Addr) (c : Nat) (w : World) (hc : Blk w gc 132 #[.int .i64 0, .map (some gm)]) (hr : Rd w A [.int .i64 1, .int .i64 0, .int .i64 0, .int .i64 3, .string ⟨#[]⟩, .int .i64 0, .int .i64 0, .int .i64 0, .int .i64 0, .int .i64 0, .int .i64 0, .int .i64 0, .int .i64 2, .int .i64 0, .int .i64 0, .int .i64 0, .string ⟨#[]⟩, .int .i64 0, .int .i64 0, .int .i64 0, .int .i64 0, .int .i64 0, .int .i64 0, .int .i64 0]) (hA : ∀ a, A = some a → a.block ≠ gc) (hcap : 2 ≤ c) (hmap : w.ownsMap (H := Unit) Try.prog 3 (plainElem Try.prog 4) gm 0 (.map [])) (hgm : gm ≠ gc) (hbm : ∀ a, A = some a → a.block ≠ gm) :
    Calls Try.prog 67 #[.pointer (some ⟨gc, 0, none⟩), .slice A 2 c] w fun e w' => (∃ g1 c1, e = .returned (.agg #[.int .i64 3, .slice (some ⟨g1, 0, none⟩) 1 c1, .slice none 0 0, .slice none 0 0, .int .i64 0, .bool false]) ∧ w'.ownsRow w.heap.size 3 1 (.slice (some ⟨g1, 0, none⟩) 1 c1) 1 [.int .i64 0] ∧ Blk w' gc 132 #[.int .i64 3, .map (some gm)]) ∧ Keep (fun k => k = gc ∨ k = gm) w w' := by
  obtain ⟨bl, off, rfl, hbl, hcc⟩ := hr.at (by simp)
  have hne := hA _ rfl
  have HBL : Hid (∀ W : World, W.heap[bl]? = w.heap[bl]? → ∀ (j : Nat) u, ([.int .i64 1, .int .i64 0, .int .i64 0, .int .i64 3, .string ⟨#[]⟩, .int .i64 0, .int .i64 0, .int .i64 0, .int .i64 0, .int .i64 0, .int .i64 0, .int .i64 0, .int .i64 2, .int .i64 0, .int .i64 0, .int .i64 0, .string ⟨#[]⟩, .int .i64 0, .int .i64 0, .int .i64 0, .int .i64 0, .int .i64 0, .int .i64 0, .int .i64 0] : List Value)[j]? = some u → W.cell? ⟨bl, off + j, none⟩ = some u) := fun W hW j u hj => (World.cell?_of_block (a := ⟨bl, off + j, none⟩) hW).trans (hcc j u hj)
  have HLT := hid hbl; have HNE := hid hne; have HC := hid hc
  have CL := hid (fun W => leftE_any 3 0 W (by omega) (by omega) (by omega))
  obtain ⟨dt, hdt⟩ : ∃ y : Int, 3 - 0 = y := ⟨_, rfl⟩
  have HDT : Hid (dt = 3) := by rw [Hid, ← hdt]; rfl
  rw [hdt] at CL
  have HNM : Hid (bl ≠ gm) := hbm _ rfl
  have HMP := hid hmap
  have HNG := hid hgm
  clear hmap hgm hbm
  clear hr hA hcc hbl hne hc hdt
  go_enter Try.func67, Try.ntmps67
  go_upto_region 1 with fail
  obtain ⟨wa, hwa⟩ : ∃ W, w.alloc (.cells #[.int .i64 0, .slice none 0 0, .slice none 0 0, .slice none 0 0, .int .i64 0, .bool false] 79) = W := ⟨_, rfl⟩
  have HRA : Hid (Blk wa w.heap.size 79 #[.int .i64 0, .slice none 0 0, .slice none 0 0, .slice none 0 0, .int .i64 0, .bool false]) := by rw [← hwa]; exact Blk.new w _ _
  have HBA : Hid (Below w.heap.size w wa) := by rw [← hwa]; exact (Below.refl _ _).alloc (Nat.le_refl _) _
  rw [hwa]
  have HCA := hid (HC.out.below HBA.out HC.out.lt)
  clear hwa
  have x3 : wa.cell? ⟨bl, off + 3, none⟩ = some (.int .i64 3) := HBL.out wa (HBA.out.block bl HLT.out) 3 _ rfl
  have y0 : wa.cell? ⟨gc, 0, none⟩ = some (.int .i64 0) := HCA.out.cell 0
  have yl := HCA.out.lt
  go_wp2_with fail
  refine (CL.out _).mono ?_
  rintro en w1 ⟨rfl, rfl⟩
  go_upto_region 3 with fail
  obtain ⟨wb, hwb⟩ : ∃ W, wa.alloc (.cells #[.int .i64 dt, .slice none 0 0, .slice none 0 0, .slice none 0 0, .int .i64 0, .bool false] 79) = W := ⟨_, rfl⟩
  have HRB : Hid (Blk wb wa.heap.size 79 #[.int .i64 dt, .slice none 0 0, .slice none 0 0, .slice none 0 0, .int .i64 0, .bool false]) := by rw [← hwb]; exact Blk.new wa _ _
  have HBB : Hid (Below wa.heap.size wa wb) := by rw [← hwb]; exact (Below.refl _ _).alloc (Nat.le_refl _) _
  rw [hwb]
  have HCB := hid (HCA.out.below HBB.out HCA.out.lt)
  have HAB := hid (HRA.out.below HBB.out HRA.out.lt)
  have HBW : Hid (Below w.heap.size w wb) := HBA.out.trans (HBB.out.mono HBA.out.size)
  have HNR : Hid (w.heap.size < wa.heap.size) := HRA.out.lt
  clear hwb x3 y0 yl HCA HRA HBA HBB CL
  obtain ⟨ga, hga⟩ : ∃ y, w.heap.size = y := ⟨_, rfl⟩
  obtain ⟨gr, hgr⟩ : ∃ y, wa.heap.size = y := ⟨_, rfl⟩
  have HGA := hid hga
  rw [hga, hgr] at HNR
  rw [hga] at HAB ⊢
  rw [hgr] at HRB ⊢
  clear hga hgr
  have y0 : wb.cell? ⟨gc, 0, none⟩ = some (.int .i64 0) := HCB.out.cell 0
  have yf := HCB.out.frozen 0
  have yl := HCB.out.lt
  have hsl := slice_ev bl off c
  go_upto_region 4 with fail
  obtain ⟨wd, hwd, HCD, HKD⟩ := Blk.putE HCB.out 0 (.int .i64 3)
  rw [hwd]
  have hgl := HC.out.lt
  have HRD := hid (HKD.out.blk HRB.out (fun e => by have := HGA.out; have := HNR.out; omega))
  have HAD := hid (HKD.out.blk HAB.out (fun e => by have := HGA.out; omega))
  have HKW : Hid (Keep (fun k => k = gc) w wd) := (Keep.of_below (F := fun k => k = gc) HBW.out).trans HKD.out (fun k h => .inl h)
  clear hwd HRB HAB HBW HKD HCB y0 yf yl hgl
  have hsl2 := fun W => hsl W hcap
  clear hsl
  go_wp2_with fail
  refine wp_loop_rounds 2 ?_
  rw [rounds_succ]
  have hbd : wd.heap[bl]? = w.heap[bl]? := HKW.out.block bl HLT.out HNE.out
  have x0 : wd.cell? ⟨bl, off + 12, none⟩ = some (.int .i64 2) := HBL.out wd hbd 12 _ rfl
  have x1 : wd.cell? ⟨bl, off + 13, none⟩ = some (.int .i64 0) := HBL.out wd hbd 13 _ rfl
  have x2 : wd.cell? ⟨bl, off + 14, none⟩ = some (.int .i64 0) := HBL.out wd hbd 14 _ rfl
  have x3 : wd.cell? ⟨bl, off + 15, none⟩ = some (.int .i64 0) := HBL.out wd hbd 15 _ rfl
  have x4 : wd.cell? ⟨bl, off + 16, none⟩ = some (.string ⟨#[]⟩) := HBL.out wd hbd 16 _ rfl
  have x5 : wd.cell? ⟨bl, off + 17, none⟩ = some (.int .i64 0) := HBL.out wd hbd 17 _ rfl
  have x6 : wd.cell? ⟨bl, off + 18, none⟩ = some (.int .i64 0) := HBL.out wd hbd 18 _ rfl
  have x7 : wd.cell? ⟨bl, off + 19, none⟩ = some (.int .i64 0) := HBL.out wd hbd 19 _ rfl
  have x8 : wd.cell? ⟨bl, off + 20, none⟩ = some (.int .i64 0) := HBL.out wd hbd 20 _ rfl
  have x9 : wd.cell? ⟨bl, off + 21, none⟩ = some (.int .i64 0) := HBL.out wd hbd 21 _ rfl
  have x10 : wd.cell? ⟨bl, off + 22, none⟩ = some (.int .i64 0) := HBL.out wd hbd 22 _ rfl
  have x11 : wd.cell? ⟨bl, off + 23, none⟩ = some (.int .i64 0) := HBL.out wd hbd 23 _ rfl
  have xbl : bl < wd.heap.size := Nat.lt_of_lt_of_le HLT.out HKW.out.size
  clear hbd
  go_upto_region 7 with fail
  obtain ⟨we, hwe⟩ : ∃ W, wd.alloc (.cells #[.int .i64 2, .int .i64 0, .int .i64 0, .int .i64 0, .string ⟨#[]⟩, .int .i64 0, .int .i64 0, .int .i64 0, .int .i64 0, .int .i64 0, .int .i64 0, .int .i64 0] 72) = W := ⟨_, rfl⟩
  have HXE : Hid (Blk we wd.heap.size 72 #[.int .i64 2, .int .i64 0, .int .i64 0, .int .i64 0, .string ⟨#[]⟩, .int .i64 0, .int .i64 0, .int .i64 0, .int .i64 0, .int .i64 0, .int .i64 0, .int .i64 0]) := by rw [← hwe]; exact Blk.new wd _ _
  have HBE : Hid (Below wd.heap.size wd we) := by rw [← hwe]; exact (Below.refl _ _).alloc (Nat.le_refl _) _
  rw [hwe]
  have HRE := hid (HRD.out.below HBE.out HRD.out.lt)
  have HAE := hid (HAD.out.below HBE.out HAD.out.lt)
  have HCE := hid (HCD.out.below HBE.out HCD.out.lt)
  have HKE : Hid (Keep (fun k => k = gc) w we) := HKW.out.trans (Keep.of_below (F := fun k => k = gc) HBE.out) (fun k h => .inl h)
  have HNX : Hid (gr < wd.heap.size) := HRD.out.lt
  clear hwe x0 x1 x2 x3 x4 x5 x6 x7 x8 x9 x10 x11 xbl HBE HRD HAD HCD HKW
  obtain ⟨gx, hgx⟩ : ∃ y, wd.heap.size = y := ⟨_, rfl⟩
  rw [hgx] at HXE HNX ⊢
  clear hgx
  have x0 : we.cell? ⟨gx, 0, none⟩ = some (.int .i64 2) := HXE.out.cell 0
  have xl := HXE.out.lt
  have hmm : we.heap[gm]? = w.heap[gm]? := HKE.out.block gm HMP.out.lt HNG.out
  have HME : Hid (we.ownsMap (H := Unit) Try.prog 3 (plainElem Try.prog 4) gm 0 (.map [])) := ownsMap_same HMP.out hmm
  have TC1 : ∀ q : BW we.heap.size we, q.1.cell? ⟨gc, 1, none⟩ = some (.map (some gm)) := fun q => q.cellAt HCE.out.lt (HCE.out.cell 1)
  have TX1 : ∀ q : BW we.heap.size we, q.1.cell? ⟨gx, 1, none⟩ = some (.int .i64 0) := fun q => q.cellAt HXE.out.lt (HXE.out.cell 1)
  clear hmm
  go_upto_region 9 with fail
  clear x0 xl
  refine wp_region_ordT we.heap.size [6] (.val 0 (.val 1 (.val 2 (.val 3 (.val 4 (.val 5 (.op 6 (.nil)))))))) (by kernel_rfl) (by kernel_rfl) ?_
  obtain ⟨wc, hwc⟩ : ∃ W, we.drewN 1 = W := ⟨_, rfl⟩
  have HBW : Hid (Below we.heap.size we wc) := by rw [← hwc]; exact drewN_below we 1
  rw [hwc]
  clear hwc
  iterate 6 ((first | refine wpOrdT_val rfl rfl ?_ | refine wpOrdT_load rfl rfl (inBW HBW.out) ?_); go_big_quiet_step (fail); refine wpQuiet_nil ?_)
  refine wpOrdT_op rfl ?_
  have HMG : Hid (gm < we.heap.size) := Nat.lt_of_lt_of_le HMP.out.lt HKE.out.size
  have HMC : Hid (wc.ownsMap (H := Unit) Try.prog 3 (plainElem Try.prog 4) gm 0 (.map [])) := ownsMap_same HME.out (HBW.out.block gm HMG.out)
  have HRC := hid (HRE.out.below HBW.out HRE.out.lt)
  have HAC := hid (HAE.out.below HBW.out HAE.out.lt)
  have HXC := hid (HXE.out.below HBW.out HXE.out.lt)
  have HCC := hid (HCE.out.below HBW.out HCE.out.lt)
  have HKC : Hid (Keep (fun k => k = gc) w wc) := HKE.out.trans (Keep.of_below (F := fun k => k = gc) HBW.out) (fun k h => .inl h)
  go_wp2_with (at_mapUpdate; refine wpList_mapUpdate_own _ rfl _ _ _ 130 rfl 3 4 Try.keyI Try.underlying130 _ gm 0 _ rfl HMC.out (by unfold maxLen; omega) _ _ _ rfl rfl (keyOf_int_mk Try.underlying3 (by decide)) _ [] (plainElem_bool Try.underlying4 _) ?_)
  intro w5 hown5 hgrow5
  have HK5 := hid (Keep.of_grown hgrow5)
  have HR5 := hid (HK5.out.blk HRC.out (fun e => by have := HMP.out.lt; have := HNR.out; have := HGA.out; omega))
  have HA5 := hid (HK5.out.blk HAC.out (fun e => by have := HMP.out.lt; have := HGA.out; omega))
  have HX5 := hid (HK5.out.blk HXC.out (fun e => by have := HMP.out.lt; have := HNX.out; have := HNR.out; have := HGA.out; omega))
  have HC5 := hid (HK5.out.blk HCC.out (fun e => HNG.out e.symm))
  have HKW5 : Hid (Keep (fun k => k = gc ∨ k = gm) w w5) := (HKC.out.mono (fun _ _ h => .inl h) : Keep (fun k => k = gc ∨ k = gm) w wc).trans HK5.out (fun k h => .inl (.inr h))
  clear hown5 hgrow5 HMC HMG HME HKC HXC HAC HRC HCC HBW TC1 TX1 HRE HAE HCE HXE HK5
  go_wp2_with fail
  refine KT.past rfl ?_
  refine wpOrdT_nil ?_
  have xr : w5.cell? ⟨gr, 1, none⟩ = some (.slice none 0 0) := HR5.out.cell 1
  have xx : w5.cell? ⟨gx, 2, none⟩ = some (.int .i64 0) := HX5.out.cell 2
  have xrl := HR5.out.lt; have xxl := HX5.out.lt
  have hs5 : w.heap.size ≤ w5.heap.size := HKW5.out.size
  go_wp2_with (at_builtin; refine wpList_append1K _ rfl _ _ 75 rfl w.heap.size 3 _ 1 8 Try.underlying75 Try.infoIE rfl (by decide) _ 0 [] rfl (World.ownsRow_nil _ _ _ _) 1 [.int .i64 0] rfl rfl rfl ?_ (by decide) hs5 ?_)
  · omega
  intro g1 c1 w6 hown6 hk6 hf6
  have HB6 : Hid (Below w5.heap.size w5 w6) := hk6.below (Nat.le_refl _) (fun k h => by cases h)
  have HR6 := hid (HR5.out.below HB6.out HR5.out.lt)
  have HA6 := hid (HA5.out.below HB6.out HA5.out.lt)
  have HX6 := hid (HX5.out.below HB6.out HX5.out.lt)
  have HC6 := hid (HC5.out.below HB6.out HC5.out.lt)
  have HO6 := hid hown6
  have HG6 : Hid (g1 ≠ gr ∧ g1 ≠ ga) := by
    have h1 := HR5.out.lt; have h2 := HA5.out.lt
    rcases hf6 with h | h
    · cases h
    · exact ⟨by omega, by omega⟩
  have HKW6 : Hid (Keep (fun k => k = gc ∨ k = gm) w w6) := HKW5.out.trans (Keep.of_below (F := fun k => k = gc ∨ k = gm) HB6.out) (fun k h => .inl h)
  clear hown6 hk6 hf6 HR5 HA5 HX5 HC5 HKW5 xr xx xrl xxl hs5 HB6
  have xr : w6.cell? ⟨gr, 1, none⟩ = some (.slice none 0 0) := HR6.out.cell 1
  have xf := HR6.out.frozen 1
  have xl := HR6.out.lt
  go_upto_region 20 with fail
  obtain ⟨w7, hw7, HR7, hk7⟩ := Blk.putE HR6.out 1 (.slice (some ⟨g1, 0, none⟩) 1 c1)
  rw [hw7]
  simp only [List.setIfInBounds_toArray, List.set_cons_succ, List.set_cons_zero] at HR7
  have HA7 := hid (hk7.out.blk HA6.out (fun e => by have := HNR.out; omega))
  have HX7 := hid (hk7.out.blk HX6.out (fun e => by have := HNX.out; omega))
  have HC7 := hid (hk7.out.blk HC6.out (fun e => by have := HC.out.lt; have := HNR.out; have := HGA.out; omega))
  have HO7 := hid (hk7.out.own HO6.out (fun k h e => by cases h; exact HG6.out.1 e))
  have HK7 : Hid (Keep (fun k => k = gc ∨ k = gm) w w7) := HKW6.out.trans hk7.out (fun k h => .inr (by rw [h]; have := HNR.out; have := HGA.out; omega))
  clear hw7 hk7 HR6 HA6 HX6 HC6 HO6 HKW6 xr xf xl
  have TX0 : ∀ q : BW w7.heap.size w7, q.1.cell? ⟨gx, 0, none⟩ = some (.int .i64 2) := fun q => q.cellAt HX7.out.lt (HX7.out.cell 0)
  have TX1 : ∀ q : BW w7.heap.size w7, q.1.cell? ⟨gx, 1, none⟩ = some (.int .i64 0) := fun q => q.cellAt HX7.out.lt (HX7.out.cell 1)
  have TX2 : ∀ q : BW w7.heap.size w7, q.1.cell? ⟨gx, 2, none⟩ = some (.int .i64 0) := fun q => q.cellAt HX7.out.lt (HX7.out.cell 2)
  have TX3 : ∀ q : BW w7.heap.size w7, q.1.cell? ⟨gx, 3, none⟩ = some (.int .i64 0) := fun q => q.cellAt HX7.out.lt (HX7.out.cell 3)
  have TX4 : ∀ q : BW w7.heap.size w7, q.1.cell? ⟨gx, 4, none⟩ = some (.string ⟨#[]⟩) := fun q => q.cellAt HX7.out.lt (HX7.out.cell 4)
  have TX5 : ∀ q : BW w7.heap.size w7, q.1.cell? ⟨gx, 5, none⟩ = some (.int .i64 0) := fun q => q.cellAt HX7.out.lt (HX7.out.cell 5)
  have TX6 : ∀ q : BW w7.heap.size w7, q.1.cell? ⟨gx, 6, none⟩ = some (.int .i64 0) := fun q => q.cellAt HX7.out.lt (HX7.out.cell 6)
  have TX7 : ∀ q : BW w7.heap.size w7, q.1.cell? ⟨gx, 7, none⟩ = some (.int .i64 0) := fun q => q.cellAt HX7.out.lt (HX7.out.cell 7)
  have TX8 : ∀ q : BW w7.heap.size w7, q.1.cell? ⟨gx, 8, none⟩ = some (.int .i64 0) := fun q => q.cellAt HX7.out.lt (HX7.out.cell 8)
  have TX9 : ∀ q : BW w7.heap.size w7, q.1.cell? ⟨gx, 9, none⟩ = some (.int .i64 0) := fun q => q.cellAt HX7.out.lt (HX7.out.cell 9)
  have TX10 : ∀ q : BW w7.heap.size w7, q.1.cell? ⟨gx, 10, none⟩ = some (.int .i64 0) := fun q => q.cellAt HX7.out.lt (HX7.out.cell 10)
  have TX11 : ∀ q : BW w7.heap.size w7, q.1.cell? ⟨gx, 11, none⟩ = some (.int .i64 0) := fun q => q.cellAt HX7.out.lt (HX7.out.cell 11)
  have hbe : w7.heap[bl]? = w.heap[bl]? := HK7.out.block bl HLT.out (fun h => h.elim HNE.out HNM.out)
  have hle : bl < w7.heap.size := Nat.lt_of_lt_of_le HLT.out HK7.out.size
  have TL0 : ∀ q : BW w7.heap.size w7, q.1.cell? ⟨bl, off, none⟩ = some (.int .i64 1) := fun q => q.cellAt hle (HBL.out w7 hbe 0 _ rfl)
  have TL1 : ∀ q : BW w7.heap.size w7, q.1.cell? ⟨bl, off + 1, none⟩ = some (.int .i64 0) := fun q => q.cellAt hle (HBL.out w7 hbe 1 _ rfl)
  have TL2 : ∀ q : BW w7.heap.size w7, q.1.cell? ⟨bl, off + 2, none⟩ = some (.int .i64 0) := fun q => q.cellAt hle (HBL.out w7 hbe 2 _ rfl)
  have TL3 : ∀ q : BW w7.heap.size w7, q.1.cell? ⟨bl, off + 3, none⟩ = some (.int .i64 3) := fun q => q.cellAt hle (HBL.out w7 hbe 3 _ rfl)
  have TL4 : ∀ q : BW w7.heap.size w7, q.1.cell? ⟨bl, off + 4, none⟩ = some (.string ⟨#[]⟩) := fun q => q.cellAt hle (HBL.out w7 hbe 4 _ rfl)
  have TL5 : ∀ q : BW w7.heap.size w7, q.1.cell? ⟨bl, off + 5, none⟩ = some (.int .i64 0) := fun q => q.cellAt hle (HBL.out w7 hbe 5 _ rfl)
  have TL6 : ∀ q : BW w7.heap.size w7, q.1.cell? ⟨bl, off + 6, none⟩ = some (.int .i64 0) := fun q => q.cellAt hle (HBL.out w7 hbe 6 _ rfl)
  have TL7 : ∀ q : BW w7.heap.size w7, q.1.cell? ⟨bl, off + 7, none⟩ = some (.int .i64 0) := fun q => q.cellAt hle (HBL.out w7 hbe 7 _ rfl)
  have TL8 : ∀ q : BW w7.heap.size w7, q.1.cell? ⟨bl, off + 8, none⟩ = some (.int .i64 0) := fun q => q.cellAt hle (HBL.out w7 hbe 8 _ rfl)
  have TL9 : ∀ q : BW w7.heap.size w7, q.1.cell? ⟨bl, off + 9, none⟩ = some (.int .i64 0) := fun q => q.cellAt hle (HBL.out w7 hbe 9 _ rfl)
  have TL10 : ∀ q : BW w7.heap.size w7, q.1.cell? ⟨bl, off + 10, none⟩ = some (.int .i64 0) := fun q => q.cellAt hle (HBL.out w7 hbe 10 _ rfl)
  have TL11 : ∀ q : BW w7.heap.size w7, q.1.cell? ⟨bl, off + 11, none⟩ = some (.int .i64 0) := fun q => q.cellAt hle (HBL.out w7 hbe 11 _ rfl)
  clear hbe
  go_upto_region 20 with fail
  try clear x0 xl
  refine wp_region_ordT w7.heap.size [5] (.val 0 (.val 1 (.val 2 (.val 3 (.val 4 (.op 5 (.nil))))))) (by kernel_rfl) (by kernel_rfl) ?_
  obtain ⟨wc, hwc⟩ : ∃ W, w7.drewN 1 = W := ⟨_, rfl⟩
  have HBW : Hid (Below w7.heap.size w7 wc) := by rw [← hwc]; exact drewN_below w7 1
  rw [hwc]
  clear hwc
  iterate 5 ((first | refine wpOrdT_val rfl rfl ?_ | refine wpOrdT_load rfl rfl (inBW HBW.out) ?_); go_big_quiet_step (fail); refine wpQuiet_nil ?_)
  refine wpOrdT_op rfl ?_
  have HRC := hid (HR7.out.below HBW.out HR7.out.lt)
  have HAC := hid (HA7.out.below HBW.out HA7.out.lt)
  have HKC : Hid (Keep (fun k => k = gc ∨ k = gm) w wc) := HK7.out.trans (Keep.of_below (F := fun k => k = gc ∨ k = gm) HBW.out) (fun k h => .inl h)
  have CP := hid (peerNone_any gr 2 0 0 0 0 0 0 0 0 0 0 ⟨#[]⟩ 1 0 0 3 0 0 0 0 0 0 0 ⟨#[]⟩ wc rfl rfl rfl)
  go_wp2_with fail
  refine CP.out.mono ?_
  rintro en wf ⟨rfl, hb⟩
  have HRF := hid (HRC.out.below hb HRC.out.lt)
  have HAF := hid (HAC.out.below hb HAC.out.lt)
  have H1 := hid (own_below (own_below HO7.out HBW.out) hb)
  have HCF := hid ((HC7.out.below HBW.out HC7.out.lt).below hb (HC7.out.below HBW.out HC7.out.lt).lt)
  have HKW : Hid (Keep (fun k => k = gc ∨ k = gm) w wf) := HKC.out.trans (Keep.of_below (F := fun k => k = gc ∨ k = gm) hb) (fun k h => .inl h)
  have HF1 : Hid (∀ k, (Value.slice (some ⟨g1, 0, none⟩) 1 c1).ownBlock = some k → k ≠ ga) := fun k h e => HG6.out.2 (by cases h; exact e)
  clear hb CP HRC HAC HKC HBW HR7 HA7 HX7 HC7 HO7 HK7 HNX TX0 TX1 TX2 TX3 TX4 TX5 TX6 TX7 TX8 TX9 TX10 TX11 TL0 TL1 TL2 TL3 TL4 TL5 TL6 TL7 TL8 TL9 TL10 TL11 hle
  go_wp2_with fail
  refine KT.past rfl ?_
  refine wpOrdT_nil ?_
  go_wp2_with fail
  rw [rounds_succ]
  obtain ⟨x0, x1, x2, x3, x4, x5⟩ := fact6E HRF.out
  have xl := HRF.out.lt
  obtain ⟨y0, y1, y2, y3, y4, y5⟩ := fact6E HAF.out
  have yf : ∀ j, wf.frozen? ⟨ga, j, none⟩ = false := fun j => HAF.out.frozen j
  have yl := HAF.out.lt
  go_wp2_with fail
  obtain ⟨wz, hwz⟩ : ∃ W, ((((((wf.setCell ⟨ga, 0, none⟩ (.int .i64 dt)).setCell ⟨ga, 1, none⟩ (.slice (some ⟨g1, 0, none⟩) 1 c1)).setCell ⟨ga, 2, none⟩ (.slice none 0 0)).setCell ⟨ga, 3, none⟩ (.slice none 0 0)).setCell ⟨ga, 4, none⟩ (.int .i64 0)).setCell ⟨ga, 5, none⟩ (.bool false)) = W := ⟨_, rfl⟩
  have HZ : Hid (Blk wz ga 79 #[.int .i64 dt, .slice (some ⟨g1, 0, none⟩) 1 c1, .slice none 0 0, .slice none 0 0, .int .i64 0, .bool false]) := by rw [← hwz]; exact ((((((HAF.out.set 0 (.int .i64 dt)).set 1 (.slice (some ⟨g1, 0, none⟩) 1 c1)).set 2 (.slice none 0 0)).set 3 (.slice none 0 0)).set 4 (.int .i64 0)).set 5 (.bool false))
  have HKZ : Hid (Keep (fun k => k = ga) wf wz) := by rw [← hwz]; exact ((((((Keep.refl (fun k => k = ga) wf).trans (Keep.setCell (fun k => k = ga) _ ⟨ga, 0, none⟩ (.int .i64 dt) rfl) (fun _ => .inl)).trans (Keep.setCell (fun k => k = ga) _ ⟨ga, 1, none⟩ (.slice (some ⟨g1, 0, none⟩) 1 c1) rfl) (fun _ => .inl)).trans (Keep.setCell (fun k => k = ga) _ ⟨ga, 2, none⟩ (.slice none 0 0) rfl) (fun _ => .inl)).trans (Keep.setCell (fun k => k = ga) _ ⟨ga, 3, none⟩ (.slice none 0 0) rfl) (fun _ => .inl)).trans (Keep.setCell (fun k => k = ga) _ ⟨ga, 4, none⟩ (.int .i64 0) rfl) (fun _ => .inl)).trans (Keep.setCell (fun k => k = ga) _ ⟨ga, 5, none⟩ (.bool false) rfl) (fun _ => .inl)
  have HKY : Hid (Keep (fun k => k = gc ∨ k = gm) w wz) := HKW.out.trans HKZ.out (fun k h => .inr (by rw [h, ← HGA.out]; exact Nat.le_refl _))
  have hd := HDT.out
  subst hd
  rw [hwz]
  clear hwz
  obtain ⟨z0, z1, z2, z3, z4, z5⟩ := fact6E HZ.out
  exact bodyPost_ret (v := .agg #[.int .i64 3, .slice (some ⟨g1, 0, none⟩) 1 c1, .slice none 0 0, .slice none 0 0, .int .i64 0, .bool false]) (by simp [results, Try.results67, go_sem, z0, z1, z2, z3, z4, z5]) rfl ⟨⟨g1, c1, rfl, HKZ.out.own H1.out (fun k h e => HF1.out k h e), HKZ.out.blk HCF.out (fun e => by have := HC.out.lt; have := HGA.out; omega)⟩, HKY.out⟩


end Go.Proofs.Ytpkkfdmhbbipoaa
