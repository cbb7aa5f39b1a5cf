/- DialNil: for all inputs the law answers true. No condition. -/
import Derived.Test.YtemhdkmijfngnaaGreatDl
import Derived.Test.YtemhdkmijfngnaaGreatMi
namespace Go.Proofs.YtemhdkmijfngnaaGreat
open Go.RowKit PopT

set_option maxRecDepth 20000 in
set_option maxHeartbeats 4000000 in
theorem dialNil_any (now n : Int) (s : ByteArray) (w : World) (_hnow : Lit.wf (.int .i64 now) = true) (_hn : Lit.wf (.int .i64 n) = true) (_hs : s.size ≤ 9223372036854775807) : Calls Tryz.prog 12 #[.int .i64 now, .int .i64 n, .string s] w fun e w' => e = .returned (.bool true) ∧ Below w.heap.size w w' := by
  clear _hnow _hn _hs
  have CS := hid (nStep_any now w)
  go_enter Tryz.func12, Tryz.ntmps12
  go_wp2_with fail
  refine (nCut_any now w).mono ?_
  rintro en w1 ⟨rfl, rfl⟩
  go_wp2_with fail
  refine CS.out.mono ?_
  rintro en w1 ⟨rfl, hb⟩
  have HB1 := hid hb
  clear hb CS
  have HS1 : Hid (Blk (w1.alloc (.cells #[.int .i64 0, .int .i64 0, .int .i64 0, .int .i64 0, .int .i64 0, .int .i64 0] 51)) w1.heap.size 51 #[.int .i64 0, .int .i64 0, .int .i64 0, .int .i64 0, .int .i64 0, .int .i64 0]) := Blk.new _ _ _
  have HBH : Hid (Below w.heap.size w (w1.alloc (.cells #[.int .i64 0, .int .i64 0, .int .i64 0, .int .i64 0, .int .i64 0, .int .i64 0] 51))) := HB1.out.alloc HB1.out.size _
  obtain ⟨wh, hwh⟩ : ∃ W, w1.alloc (.cells #[.int .i64 0, .int .i64 0, .int .i64 0, .int .i64 0, .int .i64 0, .int .i64 0] 51) = W := ⟨_, rfl⟩
  rw [hwh] at HS1 HBH
  have HWH := hid hwh
  clear hwh
  obtain ⟨gs, hgs⟩ : ∃ y, w1.heap.size = y := ⟨_, rfl⟩
  have HGS := hid hgs
  rw [hgs] at HS1
  clear hgs
  obtain ⟨s0, s1, s2, s3, s4, s5⟩ := fact6 HS1.out
  have hl1 := HS1.out.lt
  have hl2 : wh.heap.size = wh.heap.size := rfl
  go_wp2_with fail
  rw [HWH.out, HGS.out]
  refine (nPut_any s wh).mono ?_
  rintro en w2 ⟨rfl, rfl⟩
  go_wp2_with fail
  refine (nEof_any wh).mono ?_
  rintro en w2 ⟨rfl, rfl⟩
  go_wp2_with fail
  refine (nTake_any n wh).mono ?_
  rintro en w2 ⟨rfl, rfl⟩
  go_wp2_with fail
  refine (nReady_any now wh).mono ?_
  rintro en w2 ⟨rfl, rfl⟩
  go_wp2_with fail
  refine (nPrice_any wh).mono ?_
  rintro en w2 ⟨rfl, rfl⟩
  go_wp2_with fail
  refine (nNext_any wh).mono ?_
  rintro en w2 ⟨rfl, rfl⟩
  go_wp2_with fail
  refine (nStatus_any wh).mono ?_
  rintro en w2 ⟨rfl, rfl⟩
  go_wp2_with fail
  refine (nLoc_any wh).mono ?_
  rintro en w2 ⟨rfl, rfl⟩
  go_wp2_with fail
  refine (nJumps_any wh).mono ?_
  rintro en w2 ⟨rfl, rfl⟩
  go_wp2_with fail
  refine (nRoom_any wh).mono ?_
  rintro en w2 ⟨rfl, rfl⟩
  go_wp2_with fail
  refine (nWaits_any wh).mono ?_
  rintro en w2 ⟨rfl, rfl⟩
  go_wp2_with fail
  refine (nWindow_any wh).mono ?_
  rintro en w2 ⟨rfl, rfl⟩
  go_wp2_with fail
  refine (nPending_any wh).mono ?_
  rintro en w2 ⟨rfl, rfl⟩
  go_wp2_with fail
  refine (nEnded_any wh).mono ?_
  rintro en w2 ⟨rfl, rfl⟩
  go_wp2_with fail
  refine (lives22_any wh).mono ?_
  rintro en w3 ⟨rfl, hb⟩
  have HB3 := hid (HBH.out.trans (hb.mono HBH.out.size))
  clear hb
  go_wp2_with fail
  go_ret
  exact ⟨rfl, HB3.out⟩
end Go.Proofs.YtemhdkmijfngnaaGreat
namespace Go.Proofs.YtemhdkmijfngnaaGreat
open Go.ChangeShapes Go.WideShapes Go.ChangeAt Go.RowKit Go.WideElems Go.Deep
open Go.ChangeMaps (open_string shut_string)

set_option maxRecDepth 100000 in
theorem dialNil_lifted (os : Os) (started : os.Started) (H : Type) (enc : TypeId × Value → H) :
    ReturnsInHanded {} Tryz.checked os 12 .any (Rows.dialNilSpec.pre6 enc Tryz.prog Tryz.f12 [] false) (Rows.dialNilSpec.post enc Tryz.prog Tryz.f12 false true false false) := by
  refine law_lifted 12 Tryz.f12 Rows.dialNilSpec os started H enc Tryz.func12 (by kernel_rfl) (by kernel_rfl) (by kernel_rfl) rfl (fun ds h => ?_)
    (ChangeSpec.witness6 (enc := enc) (C := Tryz.checked) false ⟨#[], #[.int .i64 0, .int .i64 0, .string ⟨#[]⟩], []⟩ 8 (by kernel_rfl) (by kernel_rfl) (by kernel_rfl) (by kernel_rfl)) ?_
  · have hn : ds.length = 3 := h
    match ds, hn with
    | [d0, d1, d2], _ => rfl
  · intro W args ds p base hval hA _ _
    rw [show Tryz.f12.params.toList = [2, 3, 9] from by rw [Tryz.params12]] at hval hA
    obtain ⟨v0, _, d0, _, p0, _, rfl, rfl, rfl, h0, hA⟩ := all_cons hA
    obtain ⟨v1, _, d1, _, p1, _, rfl, rfl, rfl, h1, hA⟩ := all_cons hA
    obtain ⟨v2, _, d2, _, p2, _, rfl, rfl, rfl, h2, hA⟩ := all_cons hA
    obtain rfl := all_nil hA
    obtain ⟨x0, rfl, rfl, rfl, hw0⟩ := open_int Tryz.underlying2 (hval 0 _ v0 rfl rfl) h0
    obtain ⟨x1, rfl, rfl, rfl, hw1⟩ := open_int Tryz.underlying3 (hval 1 _ v1 rfl rfl) h1
    obtain ⟨s2, rfl, _, _, hs2⟩ := open_string Tryz.underlying9 (hval 2 _ v2 rfl rfl) h2
    exact dialNil_any x0 x1 s2 W hw0 hw1 hs2

theorem dialNil_holds : Rows.DialNilSaid :=
  OpenClaim.holds_of_wide 12 Tryz.f12 rfl rfl rfl rfl rfl rfl rfl ⟨rfl, rfl, rfl, rfl, rfl⟩ rfl rfl rfl rfl rfl (by kernel_rfl) Tryz.func12 (by kernel_rfl)
    (of_decide_eq_true (by kernel_rfl)) (by unfold Func.isWrapper; first | (rw [if_pos (by decide +kernel)]; kernel_rfl) | (rw [if_neg (by decide +kernel)]; exact ⟨rfl, rfl⟩))
    (fun os started H enc _ => dialNil_lifted os started H enc)
#print axioms dialNil_holds
end Go.Proofs.YtemhdkmijfngnaaGreat
