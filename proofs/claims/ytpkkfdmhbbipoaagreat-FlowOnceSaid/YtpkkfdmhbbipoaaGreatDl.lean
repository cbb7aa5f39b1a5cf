/- Layer 22 lives. -/
import Derived.Test.YtpkkfdmhbbipoaaGreatDk
namespace Go.Proofs.YtpkkfdmhbbipoaaGreat
open Go.RowKit PopT
set_option maxRecDepth 20000 in
theorem usual22_any (w : World) : Calls Tryz.prog 61 #[] w fun e w' => e = .returned (.agg #[.int .i64 4, .int .i64 8, .int .i64 16, .int .i64 3, .int .i64 5, .int .i64 1]) ∧ Below w.heap.size w w' := by
 obtain ⟨wa, hwa⟩ : ∃ W, w.alloc (.cells #[.int .i64 0, .int .i64 0, .int .i64 0, .int .i64 0, .int .i64 0, .int .i64 0] 23) = W := ⟨_, rfl⟩
 have HB : Hid (Below w.heap.size w wa) := by rw [← hwa]; exact (Below.refl _ _).alloc (Nat.le_refl _) _
 have HA : Hid (Blk wa w.heap.size 23 #[.int .i64 0, .int .i64 0, .int .i64 0, .int .i64 0, .int .i64 0, .int .i64 0]) := by rw [← hwa]; exact Blk.new w _ _
 have HWA := hid hwa
 clear hwa
 obtain ⟨gr, hgr⟩ : ∃ y, w.heap.size = y := ⟨_, rfl⟩
 have HG := hid hgr
 rw [hgr] at HA
 clear hgr
 go_enter Tryz.func61, Tryz.ntmps61
 go_upto_region 1 with fail
 rw [HWA.out, HG.out]
 obtain ⟨r0, r1, r2, r3, r4, r5⟩ := fact6 HA.out
 have z0 := HA.out.frozen 0; have z1 := HA.out.frozen 1; have z2 := HA.out.frozen 2; have z3 := HA.out.frozen 3; have z4 := HA.out.frozen 4; have z5 := HA.out.frozen 5
 have hlr := HA.out.lt
 go_wp2_with fail
 obtain ⟨wz, hwz⟩ : ∃ W, setS6 wa gr (.int .i64 4) (.int .i64 8) (.int .i64 16) (.int .i64 3) (.int .i64 5) (.int .i64 1) = W := ⟨_, rfl⟩
 have KZ : Hid (Keep (fun k => k = gr) wa wz) := by rw [← hwz]; exact setS6_keep _ _ _ _ _ _ _ _
 have BZ := setS6_blk HA.out (.int .i64 4) (.int .i64 8) (.int .i64 16) (.int .i64 3) (.int .i64 5) (.int .i64 1)
 rw [hwz] at BZ
 unfold setS6 at hwz
 rw [hwz]
 clear hwz
 obtain ⟨t0, t1, t2, t3, t4, t5⟩ := fact6 BZ
 refine bodyPost_ret (v := .agg #[.int .i64 4, .int .i64 8, .int .i64 16, .int .i64 3, .int .i64 5, .int .i64 1]) (by simp [results, Tryz.results61, go_sem, t0, t1, t2, t3, t4, t5]) rfl ⟨rfl, ?_⟩
 exact HB.out.trans (KZ.out.below HB.out.size (fun k (e : k = gr) => by rw [e, HG.out]; exact Nat.le_refl _))
end Go.Proofs.YtpkkfdmhbbipoaaGreat
