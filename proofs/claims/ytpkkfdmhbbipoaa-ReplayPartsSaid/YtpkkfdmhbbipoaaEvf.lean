/- A peer's event, as it makes rounds. -/
import Derived.Test.YtpkkfdmhbbipoaaEve
namespace Go.Proofs.Ytpkkfdmhbbipoaa
open Go.RowKit

theorem Try.infoOf : (Try.prog.info? 81).map (fun i => (i.zero, i.size, i.bytes)) = some (some (.agg #[.int .i64 0, .string ⟨#[]⟩, .bool false]), 3, 32) := by kernel_rfl
theorem Try.infoRe : (Try.prog.info? 83).map (fun i => (i.zero, i.size, i.bytes)) = some (some (.agg #[.int .i64 0, .bool false, .bool false, .int .i64 0]), 4, 24) := by kernel_rfl
theorem fact6E {w : World} {g : Nat} {t : TypeId} {a0 a1 a2 a3 a4 a5 : Value} (h : Blk w g t #[a0, a1, a2, a3, a4, a5]) : w.cell? ⟨g, 0, none⟩ = some a0 ∧ w.cell? ⟨g, 1, none⟩ = some a1 ∧ w.cell? ⟨g, 2, none⟩ = some a2 ∧ w.cell? ⟨g, 3, none⟩ = some a3 ∧ w.cell? ⟨g, 4, none⟩ = some a4 ∧ w.cell? ⟨g, 5, none⟩ = some a5 := ⟨h.cell 0, h.cell 1, h.cell 2, h.cell 3, h.cell 4, h.cell 5⟩
set_option maxRecDepth 20000 in
set_option maxHeartbeats 4000000 in
theorem peerNone_any (g : Nat) (xkind xid xn xtick xe xt1 xt2 xt3 xt4 xt5 xt6 : Int) (xb : ByteArray) (ykind yid yn ytick ye yt1 yt2 yt3 yt4 yt5 yt6 : Int) (yb : ByteArray) (w : World) (h4 : (xkind == 4) = false) (h5 : (xkind == 5) = false) (h6 : (xkind == 6) = false) :
    Calls Try.prog 83 #[.pointer (some ⟨g, 0, none⟩), .agg #[.int .i64 xkind, .int .i64 xid, .int .i64 xn, .int .i64 xtick, .string xb, .int .i64 xe, .int .i64 xt1, .int .i64 xt2, .int .i64 xt3, .int .i64 xt4, .int .i64 xt5, .int .i64 xt6], .agg #[.int .i64 ykind, .int .i64 yid, .int .i64 yn, .int .i64 ytick, .string yb, .int .i64 ye, .int .i64 yt1, .int .i64 yt2, .int .i64 yt3, .int .i64 yt4, .int .i64 yt5, .int .i64 yt6]] w fun e w' => e = .returned (.tuple #[]) ∧ Below w.heap.size w w' := by
  have n4 : ¬ xkind = 4 := beq_eq_false_iff_ne.1 h4
  have n5 : ¬ xkind = 5 := beq_eq_false_iff_ne.1 h5
  have n6 : ¬ xkind = 6 := beq_eq_false_iff_ne.1 h6
  go_enter Try.func83, Try.ntmps83
  go_upto_region 1 with fail
  obtain ⟨w2, hw2⟩ : ∃ W, (w.alloc (.cells #[.int .i64 xkind, .int .i64 xid, .int .i64 xn, .int .i64 xtick, .string xb, .int .i64 xe, .int .i64 xt1, .int .i64 xt2, .int .i64 xt3, .int .i64 xt4, .int .i64 xt5, .int .i64 xt6] 72)).alloc (.cells #[.int .i64 ykind, .int .i64 yid, .int .i64 yn, .int .i64 ytick, .string yb, .int .i64 ye, .int .i64 yt1, .int .i64 yt2, .int .i64 yt3, .int .i64 yt4, .int .i64 yt5, .int .i64 yt6] 72) = W := ⟨_, rfl⟩
  have HX2 : Hid (Blk w2 w.heap.size 72 #[.int .i64 xkind, .int .i64 xid, .int .i64 xn, .int .i64 xtick, .string xb, .int .i64 xe, .int .i64 xt1, .int .i64 xt2, .int .i64 xt3, .int .i64 xt4, .int .i64 xt5, .int .i64 xt6]) := by rw [← hw2]; exact (Blk.new w _ _).alloc _
  have HB2 : Hid (Below w.heap.size w w2) := by rw [← hw2]; exact ((Below.refl _ _).alloc (Nat.le_refl _) _).alloc (by simp) _
  rw [hw2]
  have hx0 : w2.cell? ⟨w.heap.size, 0, none⟩ = some (.int .i64 xkind) := HX2.out.cell 0
  have hxl := HX2.out.lt
  clear hw2
  go_wp2_with fail
  go_end0
  exact ⟨rfl, HB2.out⟩

set_option maxRecDepth 20000 in
set_option maxHeartbeats 4000000 in
theorem peerRead_any (g : Nat) (tk dr : Int) (ab : Bool) (os : Value) (xkind xid xn xtick xe xt1 xt2 xt3 xt4 xt5 xt6 : Int) (xb : ByteArray) (ykind yid yn ytick ye yt1 yt2 yt3 yt4 yt5 yt6 : Int) (yb : ByteArray) (w : World) (h4 : xkind = 4) (hg : Blk w g 79 #[.int .i64 tk, os, .slice none 0 0, .slice none 0 0, .int .i64 dr, .bool ab]) :
    Calls Try.prog 83 #[.pointer (some ⟨g, 0, none⟩), .agg #[.int .i64 xkind, .int .i64 xid, .int .i64 xn, .int .i64 xtick, .string xb, .int .i64 xe, .int .i64 xt1, .int .i64 xt2, .int .i64 xt3, .int .i64 xt4, .int .i64 xt5, .int .i64 xt6], .agg #[.int .i64 ykind, .int .i64 yid, .int .i64 yn, .int .i64 ytick, .string yb, .int .i64 ye, .int .i64 yt1, .int .i64 yt2, .int .i64 yt3, .int .i64 yt4, .int .i64 yt5, .int .i64 yt6]] w fun e w' => e = .returned (.tuple #[]) ∧ (∃ g1 c1 g2 c2, Blk w' g 79 #[.int .i64 tk, os, .slice (some ⟨g1, 0, none⟩) 1 c1, .slice (some ⟨g2, 0, none⟩) 1 c2, .int .i64 dr, .bool ab] ∧ w'.ownsRow w.heap.size 81 3 (.slice (some ⟨g1, 0, none⟩) 1 c1) 1 [.int .i64 xid, .string xb, .bool false] ∧ w'.ownsRow w.heap.size 83 4 (.slice (some ⟨g2, 0, none⟩) 1 c2) 1 [.int .i64 xid, .bool true, .bool false, .int .i64 0]) ∧ Keep (fun k => k = g) w w' := by
  have HG := hid hg
  have hgl := hg.lt
  have HGL := hid hgl
  have h4b : (xkind == 4) = true := by rw [beq_iff_eq]; exact h4
  clear hg h4
  go_enter Try.func83, Try.ntmps83
  go_upto_region 1 with fail
  obtain ⟨w2, hw2⟩ : ∃ W, (w.alloc (.cells #[.int .i64 xkind, .int .i64 xid, .int .i64 xn, .int .i64 xtick, .string xb, .int .i64 xe, .int .i64 xt1, .int .i64 xt2, .int .i64 xt3, .int .i64 xt4, .int .i64 xt5, .int .i64 xt6] 72)).alloc (.cells #[.int .i64 ykind, .int .i64 yid, .int .i64 yn, .int .i64 ytick, .string yb, .int .i64 ye, .int .i64 yt1, .int .i64 yt2, .int .i64 yt3, .int .i64 yt4, .int .i64 yt5, .int .i64 yt6] 72) = W := ⟨_, rfl⟩
  have HX2 : Hid (Blk w2 w.heap.size 72 #[.int .i64 xkind, .int .i64 xid, .int .i64 xn, .int .i64 xtick, .string xb, .int .i64 xe, .int .i64 xt1, .int .i64 xt2, .int .i64 xt3, .int .i64 xt4, .int .i64 xt5, .int .i64 xt6]) := by rw [← hw2]; exact (Blk.new w _ _).alloc _
  have HB2 : Hid (Below w.heap.size w w2) := by rw [← hw2]; exact ((Below.refl _ _).alloc (Nat.le_refl _) _).alloc (by simp) _
  rw [hw2]
  have hx0 : w2.cell? ⟨w.heap.size, 0, none⟩ = some (.int .i64 xkind) := HX2.out.cell 0
  have hxl := HX2.out.lt
  clear hw2
  have HG2 := hid (HG.out.below HB2.out HGL.out)
  obtain ⟨gx, hgx⟩ : ∃ y, w.heap.size = y := ⟨_, rfl⟩
  have HGX := hid hgx
  have HNX : Hid (gx ≠ g) := by rw [Hid, ← hgx]; omega
  rw [hgx] at HX2 hx0 hxl ⊢
  clear hgx
  have T2 : ∀ q : BW w2.heap.size w2, q.1.cell? ⟨g, 2, none⟩ = some (.slice none 0 0) := fun q => q.cellAt HG2.out.lt (HG2.out.cell 2)
  have TX1 : ∀ q : BW w2.heap.size w2, q.1.cell? ⟨gx, 1, none⟩ = some (.int .i64 xid) := fun q => q.cellAt HX2.out.lt (HX2.out.cell 1)
  have TX4 : ∀ q : BW w2.heap.size w2, q.1.cell? ⟨gx, 4, none⟩ = some (.string xb) := fun q => q.cellAt HX2.out.lt (HX2.out.cell 4)
  have hs2 : w.heap.size ≤ w2.heap.size := HB2.out.size
  go_upto_region 3 with fail
  clear hx0 hxl hgl
  refine wp_region_ordT w2.heap.size [14] (.val 0 (.val 1 (.val 2 (.val 3 (.val 4 (.val 5 (.val 6 (.val 7 (.val 8 (.val 9 (.op 10 (.op 11 (.val 12 (.val 13 (.op 14 (.nil)))))))))))))))) (by kernel_rfl) (by kernel_rfl) ?_
  obtain ⟨wc, hwc⟩ : ∃ W, w2.drewN 1 = W := ⟨_, rfl⟩
  have HBW : Hid (Below w2.heap.size w2 wc) := by rw [← hwc]; exact drewN_below w2 1
  rw [hwc]
  clear hwc
  iterate 10 ((first | refine wpOrdT_val rfl rfl ?_ | refine wpOrdT_load rfl rfl (inBW HBW.out) ?_); go_big_quiet_step (fail); refine wpQuiet_nil ?_)
  refine wpOrdT_op rfl ?_
  go_wp2_with fail
  refine KT.keep (inBW (HBW.out.alloc HBW.out.size _)) ?_
  refine wpOrdT_op rfl ?_
  have hsc : w.heap.size ≤ wc.heap.size := Nat.le_trans hs2 HBW.out.size
  go_wp2_with (at_builtin; refine wpList_append1K _ rfl _ _ 76 rfl w.heap.size 81 _ 3 32 Try.underlying76 Try.infoOf rfl (by decide) _ 0 [] rfl (World.ownsRow_nil _ _ _ _) 1 [.int .i64 xid, .string xb, .bool false] rfl rfl rfl ?_ (by decide) hsc ?_)
  · omega
  intro g1 c1 w3 hown3 hk3 hf3
  have hb3 : Below wc.heap.size wc w3 := hk3.below (Nat.le_refl _) (fun k h => by cases h)
  go_wp2_with fail
  refine KT.keep (inBW (HBW.out.trans (hb3.mono HBW.out.size))) ?_
  have HB3 : Hid (Below w2.heap.size w2 w3) := HBW.out.trans (hb3.mono HBW.out.size)
  have HG3 := hid (HG2.out.below HB3.out HG2.out.lt)
  have HX3 := hid (HX2.out.below HB3.out HX2.out.lt)
  have HO3 := hid hown3
  have HF1 : Hid (g1 ≠ g ∧ g1 ≠ gx) := by
    have h1 := HX2.out.lt; have h2 := HG2.out.lt; have h3 := HBW.out.size
    rcases hf3 with h | h
    · cases h
    · exact ⟨by omega, by omega⟩
  have HB3w : Hid (Below w.heap.size w w3) := HB2.out.trans (HB3.out.mono hs2)
  have y2 : w3.cell? ⟨g, 2, none⟩ = some (.slice none 0 0) := HG3.out.cell 2
  have yf : w3.frozen? ⟨g, 2, none⟩ = false := HG3.out.frozen 2
  have yl := HG3.out.lt
  clear hown3 hk3 hf3 hb3 HBW T2 TX1 TX4 hsc HG2 HX2 HB2 HB3 hs2
  iterate 2 (refine wpOrdT_val rfl rfl ?_; go_big_quiet_step (fail); refine wpQuiet_nil ?_)
  refine wpOrdT_op rfl ?_
  go_wp2_with fail
  obtain ⟨w4, hw4, HG4, HK4⟩ := Blk.putE HG3.out 2 (.slice (some ⟨g1, 0, none⟩) 1 c1)
  rw [hw4]
  refine KT.past rfl ?_
  refine wpOrdT_nil ?_
  simp only [List.setIfInBounds_toArray, List.set_cons_succ, List.set_cons_zero] at HG4
  have HX4 := hid (HK4.out.blk HX3.out (fun e => HNX.out e))
  have HO4 := hid (HK4.out.own HO3.out (fun k e h => by cases e; exact HF1.out.1 h))
  have HK4w : Hid (Keep (fun k => k = g) w w4) := (Keep.of_below (F := fun k => k = g) HB3w.out).trans HK4.out (fun k h => .inl h)
  have hs4 : w.heap.size ≤ w4.heap.size := HK4w.out.size
  clear y2 yf yl hw4 HG3 HX3 HO3 HB3w HK4
  have T3 : ∀ q : BW w4.heap.size w4, q.1.cell? ⟨g, 3, none⟩ = some (.slice none 0 0) := fun q => q.cellAt HG4.out.lt (HG4.out.cell 3)
  have TX1 : ∀ q : BW w4.heap.size w4, q.1.cell? ⟨gx, 1, none⟩ = some (.int .i64 xid) := fun q => q.cellAt HX4.out.lt (HX4.out.cell 1)
  go_upto_region 4 with fail
  refine wp_region_ordT w4.heap.size [12] (.val 0 (.val 1 (.val 2 (.val 3 (.val 4 (.val 5 (.val 6 (.val 7 (.op 8 (.op 9 (.val 10 (.val 11 (.op 12 (.nil)))))))))))))) (by kernel_rfl) (by kernel_rfl) ?_
  obtain ⟨wc, hwc⟩ : ∃ W, w4.drewN 1 = W := ⟨_, rfl⟩
  have HBW : Hid (Below w4.heap.size w4 wc) := by rw [← hwc]; exact drewN_below w4 1
  rw [hwc]
  clear hwc
  iterate 8 ((first | refine wpOrdT_val rfl rfl ?_ | refine wpOrdT_load rfl rfl (inBW HBW.out) ?_); go_big_quiet_step (fail); refine wpQuiet_nil ?_)
  refine wpOrdT_op rfl ?_
  go_wp2_with fail
  refine KT.keep (inBW (HBW.out.alloc HBW.out.size _)) ?_
  refine wpOrdT_op rfl ?_
  have hsc : w.heap.size ≤ wc.heap.size := Nat.le_trans hs4 HBW.out.size
  go_wp2_with (at_builtin; refine wpList_append1K _ rfl _ _ 77 rfl w.heap.size 83 _ 4 24 Try.underlying77 Try.infoRe rfl (by decide) _ 0 [] rfl (World.ownsRow_nil _ _ _ _) 1 [.int .i64 xid, .bool true, .bool false, .int .i64 0] rfl rfl rfl ?_ (by decide) hsc ?_)
  · omega
  intro g2 c2 w5 hown5 hk5 hf5
  have hb5 : Below wc.heap.size wc w5 := hk5.below (Nat.le_refl _) (fun k h => by cases h)
  go_wp2_with fail
  refine KT.keep (inBW (HBW.out.trans (hb5.mono HBW.out.size))) ?_
  have HB5 : Hid (Below w4.heap.size w4 w5) := HBW.out.trans (hb5.mono HBW.out.size)
  have HG5 := hid (HG4.out.below HB5.out HG4.out.lt)
  have HO5 := hid hown5
  have HP5 := hid (own_below HO4.out HB5.out)
  have HF2 : Hid (g2 ≠ g) := by
    have h2 := HG4.out.lt; have h3 := HBW.out.size
    rcases hf5 with h | h
    · cases h
    · rw [Hid]; omega
  have HK5 : Hid (Keep (fun k => k = g) w w5) := HK4w.out.trans (Keep.of_below (F := fun k => k = g) HB5.out) (fun k h => .inl h)
  have y3 : w5.cell? ⟨g, 3, none⟩ = some (.slice none 0 0) := HG5.out.cell 3
  have yf : w5.frozen? ⟨g, 3, none⟩ = false := HG5.out.frozen 3
  have yl := HG5.out.lt
  clear hown5 hk5 hf5 hb5 HBW T3 TX1 hsc HG4 HX4 HO4 HB5 HK4w hs4
  iterate 2 (refine wpOrdT_val rfl rfl ?_; go_big_quiet_step (fail); refine wpQuiet_nil ?_)
  refine wpOrdT_op rfl ?_
  go_wp2_with fail
  obtain ⟨w6, hw6, HG6, HK6⟩ := Blk.putE HG5.out 3 (.slice (some ⟨g2, 0, none⟩) 1 c2)
  rw [hw6]
  refine KT.past rfl ?_
  refine wpOrdT_nil ?_
  simp only [List.setIfInBounds_toArray, List.set_cons_succ, List.set_cons_zero] at HG6
  have HO6 := hid (HK6.out.own HO5.out (fun k e h => by cases e; exact HF2.out h))
  have HP6 := hid (HK6.out.own HP5.out (fun k e h => by cases e; exact HF1.out.1 h))
  have HK6w : Hid (Keep (fun k => k = g) w w6) := HK5.out.trans HK6.out (fun k h => .inl h)
  clear y3 yf yl hw6 HG5 HO5 HP5 HK5 HK6
  go_wp2_with fail
  go_end0
  exact ⟨rfl, ⟨g1, c1, g2, c2, HG6.out, HP6.out, HO6.out⟩, HK6w.out⟩
end Go.Proofs.Ytpkkfdmhbbipoaa
