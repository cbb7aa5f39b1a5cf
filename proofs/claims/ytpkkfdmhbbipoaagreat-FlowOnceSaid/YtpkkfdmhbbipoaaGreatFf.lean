/- Walks: the reference's from, Reach, Loops (layer 24). Walks: the reference's Reach, Loops (layer 24), Same (layer 4). -/
import Derived.Test.YtpkkfdmhbbipoaaGreatFe
import Derived.Test.YtpkkfdmhbbipoaaGreatFc
namespace Go.Proofs.YtpkkfdmhbbipoaaGreat
open Go.RowKit PopT
structure InR (n : Nat) (l : List Int) : Prop where
 asc : Asc l
 rng : ∀ x ∈ l, 0 ≤ x ∧ x ≤ n
section
variable {p : ProgV} {A : Option Addr} {c : Nat} {w : World}
set_option maxRecDepth 20000 in
set_option maxHeartbeats 4000000 in
theorem lSame_any {a b : List Int} {A B : Option Addr} {c d : Nat} (w : World) (ha : Rd w A (intCells a)) (hb : Rd w B (intCells b)) (hl : a.length ≤ 1000000) :
  Calls Tryz.prog 32 #[.slice A a.length c, .slice B b.length d] w fun e w' => e = .returned (.bool (decide (a = b))) ∧ Below w.heap.size w w' := by
 by_cases hnm : a.length = b.length
 ·have HA := hid ha; have HB := hid hb
  have HR : Hid (decide (a = b) = decide (a.drop 0 = b.drop 0)) := rfl
  obtain ⟨R, hR⟩ : ∃ R, decide (a = b) = R := ⟨_, rfl⟩
  rw [hR] at HR ⊢
  obtain ⟨n, hn⟩ : ∃ n, a.length = n := ⟨_, rfl⟩
  have HN := hid hn
  have HM : Hid (b.length = n) := hnm.symm.trans hn
  rw [hn] at hl ⊢
  rw [HM.out]
  have hne : ((n : Int) != (n : Int)) = false := by simp
  clear hR ha hb hnm hn
  go_enter Tryz.func32, Tryz.ntmps32
  go_wp2_with fail
  go_loopw [5] (fun iv wr => ∃ i : Nat, i ≤ n ∧ iv = .int .i64 (i : Int) ∧ R = decide (a.drop i = b.drop i) ∧ Below w.heap.size w wr) (fun iv _ => n - (intOf iv).toNat)
  case atStart => exact ⟨0, by omega, rfl, HR.out, Below.refl _ _⟩
  case round =>
   obtain ⟨i, hi, rfl, hr, hbl⟩ := hrel
   have HRR := hid hr; have HBL := hid hbl
   clear hr hbl HR
   by_cases hlt : i < n
   ·have h1 : i < a.length := by rw [HN.out]; exact hlt
    have h2 : i < b.length := by rw [HM.out]; exact hlt
    obtain ⟨b1, o1, rfl, hbl1, hc1⟩ := (HA.out.below HBL.out).at (by rw [intCells_length]; omega)
    obtain ⟨b2, o2, rfl, hbl2, hc2⟩ := (HB.out.below HBL.out).at (by rw [intCells_length]; omega)
    have p0 : wr.cell? ⟨b1, o1 + i, none⟩ = some (.int .i64 a[i]) := hc1 i _ (intCells_get a i h1)
    have q0 : wr.cell? ⟨b2, o2 + i, none⟩ = some (.int .i64 b[i]) := hc2 i _ (intCells_get b i h2)
    have HS : Hid (R = decide (a[i] = b[i] ∧ a.drop (i + 1) = b.drop (i + 1))) := by
     rw [Hid, HRR.out, List.drop_eq_getElem_cons h1, List.drop_eq_getElem_cons h2, decide_eq_decide, List.cons.injEq]
    obtain ⟨x, hx⟩ : ∃ x, a[i]'h1 = x := ⟨_, rfl⟩
    obtain ⟨y, hy⟩ : ∃ x, b[i]'h2 = x := ⟨_, rfl⟩
    rw [hx] at p0 HS
    rw [hy] at q0 HS
    clear hx hy hc1 hc2 h1 h2 HRR
    by_cases hs : x = y
    ·subst hs
     have HS2 : Hid (R = decide (a.drop (i + 1) = b.drop (i + 1))) := by rw [Hid, HS.out]; simp
     clear HS
     go_wp2_with fail
     go_quiet (fail)
     have HB3 := hid (HBL.out.trans ((drewN_below wr nq).mono HBL.out.size))
     go_wp2_with fail
     go_roundw
     case rel => exact ⟨i + 1, by omega, by go_num, HS2.out, HB3.out⟩
     case measure => simp [intOf]; omega
    ·have HS2 : Hid (R = false) := by rw [Hid, HS.out]; simp [hs]
     have hs0 : ((x : Int) == y) = false := by rw [beq_eq_false_iff_ne]; exact hs
     clear HS hs
     go_wp2_with fail
     go_quiet (fail)
     have HB3 := hid (HBL.out.trans ((drewN_below wr nq).mono HBL.out.size))
     go_wp2_with fail
     try go_ret
     rw [HS2.out]; exact ⟨rfl, HB3.out⟩
   ·have HS2 : Hid (R = true) := by
     rw [Hid, HRR.out, List.drop_of_length_le (by rw [HN.out]; omega), List.drop_of_length_le (by rw [HM.out]; omega)]; rfl
    clear HRR
    go_wp2_with fail
    try go_ret
    rw [HS2.out]; exact ⟨rfl, HBL.out⟩
 ·have HE : Hid (decide (a = b) = false) := decide_eq_false (fun h => hnm (by rw [h]))
  obtain ⟨n, hn⟩ : ∃ n, a.length = n := ⟨_, rfl⟩
  obtain ⟨m, hm⟩ : ∃ n, b.length = n := ⟨_, rfl⟩
  rw [hn, hm] at hnm ⊢
  have hne : ((n : Int) != (m : Int)) = true := by simp; omega
  have hne2 : ((n : Int) == (m : Int)) = false := by simp; omega
  clear ha hb hn hm
  go_enter Tryz.func32, Tryz.ntmps32
  go_wp2_with fail
  try go_ret
  rw [HE.out]; exact ⟨rfl, Below.refl _ _⟩
end
end Go.Proofs.YtpkkfdmhbbipoaaGreat
