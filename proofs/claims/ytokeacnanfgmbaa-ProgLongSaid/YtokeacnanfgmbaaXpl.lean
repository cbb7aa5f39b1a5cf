/- ProgLong: for every number the law answers true. No condition. -/
import Derived.Test.YtokeacnanfgmbaaPb
import Derived.Test.YtokeacnanfgmbaaMi
namespace Go.Proofs.Ytokeacnanfgmbaa
open Go.RowKit PopT

theorem Try.infoOp : (Try.prog.info? 27).map (fun i => (i.zero, i.size, i.bytes)) = some (some (.agg #[.int .i64 0, .string ⟨#[]⟩, .int .i64 0, .int .i64 0, .slice none 0 0, .int .i64 0, .int .i64 0]), 7, 80) := by kernel_rfl
def dOp : OpV := ⟨5, ⟨#[]⟩, 0, 0, [], 0, 0⟩
def dRow (k : Nat) : List (OpV × Value) := List.replicate k (dOp, .slice none 0 0)
theorem dRow_succ (k : Nat) : opVCells (dRow (k + 1)) = opVCells (dRow k) ++ [.int .i64 5, .string ⟨#[]⟩, .int .i64 0, .int .i64 0, .slice none 0 0, .int .i64 0, .int .i64 0] := by
  rw [dRow, List.replicate_succ', opVCells_append]; rfl
theorem dOps {w : World} {base n : Nat} {A : Option Addr} {c : Nat} (h : w.ownsRow base 27 7 (.slice A n c) n (opVCells (dRow n))) : OpsIn w A (List.replicate n dOp) := by
  refine ⟨dRow n, by simp [dRow], Rd_of_own h, fun x hx => ?_⟩
  obtain ⟨_, rfl⟩ := List.mem_replicate.1 hx
  exact ⟨none, 0, rfl, .inl rfl⟩
theorem d_wrong (n : Nat) : wrongM ⟨⟨#[97]⟩, neverI, 0, List.replicate n dOp⟩ = if 200 < n then (-1, 4) else (0, 0) := by
  have h1 : nameB ⟨#[97]⟩ = true := by decide +kernel
  have h2 : opsE n (List.replicate n dOp) 0 = (0, 0) := by
    refine opsE_none n _ 0 (fun o ho => ?_)
    obtain ⟨_, rfl⟩ := List.mem_replicate.1 ho
    rfl
  unfold wrongM
  simp only [h1, List.length_replicate, h2]
  rw [if_neg (by decide), if_neg (by simp)]
  split <;> rfl

set_option maxRecDepth 20000 in
set_option maxHeartbeats 4000000 in
theorem progLong_any (x : Int) (w : World) (hw : (Lit.int .u8 x).wf = true) : Calls Try.prog 3 #[.int .u8 x] w fun e w' => e = .returned (.bool true) ∧ Below w.heap.size w w' := by
  obtain ⟨r, rfl⟩ : ∃ r : Nat, x = r := by
    simp [Lit.wf, IntKind.min, IntKind.max, IntKind.signed, IntKind.bits] at hw
    exact ⟨x.toNat, by omega⟩
  clear hw
  obtain ⟨M, hM⟩ : ∃ M, 190 + r % 20 = M := ⟨_, rfl⟩
  have hM2 : 190 + ((r : Int) % 20) = (M : Int) := by omega
  have hM3 : M ≤ 209 := by omega
  have hr0 : 0 ≤ (r : Int) % 20 := by omega
  have hr1 : (r : Int) % 20 ≤ 19 := by omega
  clear hM
  have CL := hid (fun W => lives13_any W)
  have CW := hid (fun A c W h => progWrong_any ⟨⟨#[97]⟩, neverI, 0, List.replicate M dOp⟩ A c W h (by simp; omega) (by show ByteArray.size ⟨#[97]⟩ ≤ _; decide) (fun o ho => by obtain ⟨_, rfl⟩ := List.mem_replicate.1 ho; decide))
  rw [d_wrong] at CW
  have CW' : Hid (∀ A c W, OpsIn W A (List.replicate M dOp) → Calls Try.prog 11 #[.agg #[.string ⟨#[97]⟩, .int .i64 9223372036854775807, .int .i64 0, .slice A (List.replicate M dOp).length c]] W fun e w' => e = .returned (.tuple #[.int .i64 (if 200 < M then ((-1 : Int), 4) else (0, 0)).1, .int .i64 (((if 200 < M then ((-1 : Int), 4) else (0, 0)).2 : Nat) : Int)]) ∧ Below W.heap.size W w') := CW.out
  rw [List.length_replicate] at CW'
  clear CW
  go_enter Try.func3, Try.ntmps3
  go_upto_region 2 with fail
  obtain ⟨wb, hwb⟩ : ∃ W, w.alloc (.cells #[.string ⟨#[97]⟩, .int .i64 9223372036854775807, .int .i64 0, .slice none 0 0] 24) = W := ⟨_, rfl⟩
  have HB0 : Hid (Below w.heap.size w wb) := by rw [← hwb]; exact (Below.refl _ _).alloc (Nat.le_refl _) _
  have HP0 : Hid (Blk wb w.heap.size 24 #[.string ⟨#[97]⟩, .int .i64 9223372036854775807, .int .i64 0, .slice none 0 0]) := by rw [← hwb]; exact Blk.new w _ _
  rw [hwb]
  clear hwb
  obtain ⟨gp, hgp⟩ : ∃ g, w.heap.size = g := ⟨_, rfl⟩
  have HGP := hid hgp
  rw [hgp] at HP0 ⊢
  clear hgp
  go_wp2_with fail
  go_loopw [4] (fun iv wr => ∃ (k c : Nat) (A : Option Addr), k ≤ M ∧ iv = .int .i64 (k : Int) ∧ Blk wr gp 24 #[.string ⟨#[97]⟩, .int .i64 9223372036854775807, .int .i64 0, .slice A k c] ∧
      wr.ownsRow gp 27 7 (.slice A k c) k (opVCells (dRow k)) ∧ Below gp w wr) (fun iv _ => M - (intOf iv).toNat)
  case atStart => exact ⟨0, 0, none, by omega, rfl, HP0.out, World.ownsRow_nil _ _ _ _, by rw [← HGP.out]; exact HB0.out⟩
  case round =>
    obtain ⟨k, c, A, hk, rfl, hP, hown, hb⟩ := hrel
    have HP := hid hP; have HO := hid hown; have HB := hid hb
    obtain ⟨p0, p1, p2, p3⟩ := fact4 hP
    have pf := hP.frozen 3
    have hpl := hP.lt
    clear hP hown hb HP0
    by_cases hlt : k < M
    · have hne := hid (blk_ne HP.out HO.out (by decide))
      have hsz : gp ≤ wr.heap.size := by omega
      go_wp2_with (at_builtin; refine wpList_append1K _ rfl _ _ 22 rfl gp 27 _ 7 80 Try.underlying22 Try.infoOp rfl (by decide) _ _ _ rfl HO.out 1 [.int .i64 5, .string ⟨#[]⟩, .int .i64 0, .int .i64 0, .slice none 0 0, .int .i64 0, .int .i64 0] rfl rfl rfl ?_ (by decide) hsz ?_)
      · omega
      intro g5 c5 w5 hown5 hk5 hf5
      have HP5 : Hid (Blk w5 gp 24 #[.string ⟨#[97]⟩, .int .i64 9223372036854775807, .int .i64 0, .slice A k c]) := hk5.blk HP.out (fun h => hne.out h)
      have HB5 : Hid (Below gp w w5) := HB.out.trans (hk5.below hsz (fun k hk => (HO.out.lt k hk).1))
      have HO5 : Hid (w5.ownsRow gp 27 7 (.slice (some ⟨g5, 0, none⟩) (k + 1) c5) (k + 1) (opVCells (dRow (k + 1)))) := by rw [Hid, dRow_succ]; exact hown5
      have hg5 : g5 ≠ gp := by
        rintro rfl
        exact absurd rfl (blk_ne HP5.out HO5.out (by decide))
      have q3 := HP5.out.cell 3
      have qf := HP5.out.frozen 3
      have hql := HP5.out.lt
      clear hown5 hk5 hf5 p0 p1 p2 p3 pf hpl HO HP HB hne
      go_wp2_with fail
      go_roundw
      case rel =>
        refine ⟨k + 1, c5, some ⟨g5, 0, none⟩, by omega, by go_num, HP5.out.set 3 _, own_kept_set HO5.out ⟨gp, 3, none⟩ _ (by simp [Value.ownBlock, hg5]), HB5.out.setCell (Nat.le_refl _) _⟩
      case measure => simp [intOf]; omega
    · have hkM : k = M := by omega
      subst hkM
      have CX := hid (CW'.out A c wr (dOps HO.out))
      clear CW'
      have hsz : gp ≤ wr.heap.size := by omega
      by_cases h2 : 200 < k
      · have h2' : (200 : Int) < (k : Int) := by omega
        rw [if_pos h2] at CX
        clear h2
        go_wp2_with fail
        refine CX.out.mono ?_
        rintro en w1 ⟨rfl, hb1⟩
        have HB1 : Hid (Below gp w w1) := HB.out.trans (hb1.mono hsz)
        have HP1 : Hid (Blk w1 gp 24 #[.string ⟨#[97]⟩, .int .i64 9223372036854775807, .int .i64 0, .slice A k c]) := HP.out.below hb1 HP.out.lt
        clear p0 p1 p2 p3 pf hpl CX hb1 HO HB HP
        obtain ⟨p0, p1, p2, p3⟩ := fact4 HP1.out
        have hpl := HP1.out.lt
        have hs1 := HB1.out.size
        have CL1 := hid (CL.out w1)
        clear CL
        go_wp2_with fail
        refine CL1.out.mono ?_
        rintro en w2 ⟨rfl, hb2⟩
        have HB2 : Hid (Below gp w w2) := HB1.out.trans (hb2.mono (by omega))
        clear hb2 CL1 p0 p1 p2 p3 hpl HB1 HP1 hs1
        go_wp2_with fail
        go_ret
        exact ⟨rfl, by rw [HGP.out]; exact HB2.out⟩
      · have h2' : ¬ (200 : Int) < (k : Int) := by omega
        rw [if_neg h2] at CX
        clear h2
        go_wp2_with fail
        refine CX.out.mono ?_
        rintro en w1 ⟨rfl, hb1⟩
        have HB1 : Hid (Below gp w w1) := HB.out.trans (hb1.mono hsz)
        have HP1 : Hid (Blk w1 gp 24 #[.string ⟨#[97]⟩, .int .i64 9223372036854775807, .int .i64 0, .slice A k c]) := HP.out.below hb1 HP.out.lt
        clear p0 p1 p2 p3 pf hpl CX hb1 HO HB HP
        obtain ⟨p0, p1, p2, p3⟩ := fact4 HP1.out
        have hpl := HP1.out.lt
        have hs1 := HB1.out.size
        have CL1 := hid (CL.out w1)
        clear CL
        go_wp2_with fail
        refine CL1.out.mono ?_
        rintro en w2 ⟨rfl, hb2⟩
        have HB2 : Hid (Below gp w w2) := HB1.out.trans (hb2.mono (by omega))
        clear hb2 CL1 p0 p1 p2 p3 hpl HB1 HP1 hs1
        go_wp2_with fail
        go_ret
        exact ⟨rfl, by rw [HGP.out]; exact HB2.out⟩
end Go.Proofs.Ytokeacnanfgmbaa
namespace Go.Proofs.Ytokeacnanfgmbaa
open Go.ChangeShapes Go.WideShapes Go.ChangeAt Go.RowKit Go.WideElems Go.Deep
open Go.ChangeMaps (open_string shut_string)

set_option maxRecDepth 100000 in
theorem progLong_lifted (os : Os) (started : os.Started) (H : Type) (enc : TypeId × Value → H) :
    ReturnsInHanded {} Try.checked os 3 .any (Rows.progLongSpec.pre6 enc Try.prog Try.f3 [] false) (Rows.progLongSpec.post enc Try.prog Try.f3 false true false false) := by
  refine law_lifted 3 Try.f3 Rows.progLongSpec os started H enc Try.func3 (by kernel_rfl) (by kernel_rfl) (by kernel_rfl) rfl (fun ds h => ?_)
    (ChangeSpec.witness6 (enc := enc) (C := Try.checked) false ⟨#[], #[.int .u8 0], []⟩ 8 (by kernel_rfl) (by kernel_rfl) (by kernel_rfl) (by kernel_rfl)) ?_
  · have hn : ds.length = 1 := h
    match ds, hn with
    | [d0], _ => rfl
  · intro W args ds p base hval hA _ _
    rw [show Try.f3.params.toList = [5] from by rw [Try.params3]] at hval hA
    obtain ⟨v0, _, d0, _, p0, _, rfl, rfl, rfl, h0, hA⟩ := all_cons hA
    obtain rfl := all_nil hA
    obtain ⟨x0, rfl, rfl, rfl, hw0⟩ := open_int Try.underlying5 (hval 0 _ v0 rfl rfl) h0
    exact progLong_any x0 W hw0

theorem progLong_holds : Rows.ProgLongSaid :=
  OpenClaim.holds_of_wide 3 Try.f3 rfl rfl rfl rfl rfl rfl rfl ⟨rfl, rfl, rfl, rfl, rfl⟩ rfl rfl rfl rfl rfl (by kernel_rfl) Try.func3 (by kernel_rfl)
    (of_decide_eq_true (by kernel_rfl)) (by unfold Func.isWrapper; first | (rw [if_pos (by decide +kernel)]; kernel_rfl) | (rw [if_neg (by decide +kernel)]; exact ⟨rfl, rfl⟩))
    (fun os started H enc _ => progLong_lifted os started H enc)
#print axioms progLong_holds
end Go.Proofs.Ytokeacnanfgmbaa
