/- Layer 22 lives. -/
import Derived.Test.YtpkkfdmhbbipoaaGreatDk
namespace Go.Proofs.YtpkkfdmhbbipoaaGreat
set_option maxRecDepth 20000
open Go.RowKit PopT
theorem Zdl (w : World) : Calls Tryz.prog 61 #[] w fun e w' => e = .returned (.agg #[.int .i64 4, .int .i64 8, .int .i64 16, .int .i64 3, .int .i64 5, .int .i64 1]) ∧ Below w.heap.size w w' := by
 obtain ⟨wa, hwa⟩ := nE (w.alloc (.cells zs 23));have HB := ba hwa;have HA := bn hwa;have HWA := hid hwa;clear hwa;obtain ⟨gr, hgr⟩ := nE (w.heap.size);have HG := hid hgr;rw [hgr] at HA;clear hgr;go_enter Tryz.func61, Tryz.ntmps61;go_upto_region 1 with fail;rw [HWA.out, HG.out];obtain ⟨r0, r1, r2, r3, r4, r5⟩ := Yk HA.out;have z0 := HA.frozen 0; have z1 := HA.frozen 1; have z2 := HA.frozen 2; have z3 := HA.frozen 3; have z4 := HA.frozen 4; have z5 := HA.frozen 5;have hlr := HA.lt;go_wp2_with fail;obtain ⟨wz, hwz⟩ := nE (Yw wa gr (.int .i64 4) (.int .i64 8) (.int .i64 16) (.int .i64 3) (.int .i64 5) (.int .i64 1));have KZ : Hid (Za (fun k => k = gr) wa wz) := hwz ▸ Yg _ _ _ _ _ _ _ _;have BZ := Yr HA.out (.int .i64 4) (.int .i64 8) (.int .i64 16) (.int .i64 3) (.int .i64 5) (.int .i64 1);rw [hwz] at BZ;unfold Yw at hwz;rw [hwz];clear hwz;obtain ⟨t0, t1, t2, t3, t4, t5⟩ := Yk BZ;refine bodyPost_ret (v := .agg #[.int .i64 4, .int .i64 8, .int .i64 16, .int .i64 3, .int .i64 5, .int .i64 1]) (by simp [results, Tryz.results61, go_sem, t0, t1, t2, t3, t4, t5]) rfl ⟨rfl, ?_⟩;exact HB.trans (KZ.below HB.size (fun k (e : k = gr) => jk))
end Go.Proofs.YtpkkfdmhbbipoaaGreat
