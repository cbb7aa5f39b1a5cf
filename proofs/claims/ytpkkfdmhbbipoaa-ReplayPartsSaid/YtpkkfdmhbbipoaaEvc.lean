/- The reference: where two lists of events part; whether two lists are one. -/
import Derived.Test.YtpkkfdmhbbipoaaEvb
import Derived.Test.YtpkkfdmhbbipoaaTail
namespace Go.Proofs.Ytpkkfdmhbbipoaa
open Go.RowKit

def RapQ (a b : List EvV) (e : Ending) : Prop := ∃ k, Part a b k ∧ ∃ r : Int, r = (if a = b then -1 else (k : Int)) ∧ e = .returned (.int .i64 r)
def SamQ (a b : List EvV) (e : Ending) : Prop := ∃ r : Bool, r = decide (a = b) ∧ e = .returned (.bool r)
set_option maxRecDepth 20000 in
set_option maxHeartbeats 4000000 in
theorem rSame29_any (A B : Option Addr) (n c m d : Nat) (a b : List EvV) (w : World) (ha : a.length = n) (hb : b.length = m) (hn : n ≤ 1000) (hm : m ≤ 1000) (hra : Rd w A (evCells a)) (hrb : Rd w B (evCells b)) :
    Calls Try.prog 9 #[.slice A n c, .slice B m d] w fun e w' => SamQ a b e ∧ Below w.heap.size w w' := by
  have HLA := hid ha; have HLB := hid hb
  have HA : Hid (∀ W, Below w.heap.size w W → Rd W A (evCells a)) := fun W h => hra.below h
  have HB2 : Hid (∀ W, Below w.heap.size w W → Rd W B (evCells b)) := fun W h => hrb.below h
  have HN2 : Hid (n ≤ 1000 ∧ m ≤ 1000) := ⟨hn, hm⟩
  clear ha hb hra hrb
  by_cases hnm : n = m
  case neg =>
    have HAB : Hid (a ≠ b) := fun e => hnm (by rw [← HLA.out, ← HLB.out, e])
    have hb1 : ((n : Int) == (m : Int)) = false := by rw [beq_eq_false_iff_ne]; omega
    have hb2 : ¬ (n : Int) = (m : Int) := by omega
    go_enter Try.func9, Try.ntmps9
    go_wp2_with fail
    go_ret
    exact ⟨⟨false, (decide_eq_false HAB.out).symm, rfl⟩, Below.refl _ _⟩
  have hb1 : ((n : Int) == (m : Int)) = true := by rw [beq_iff_eq]; omega
  have HNM := hid hnm
  clear hnm
  go_enter Try.func9, Try.ntmps9
  go_wp2_with fail
  go_loopw [5] (fun iv wr => ∃ i : Nat, i ≤ n ∧ iv = .int .i64 (i : Int) ∧ a.take i = b.take i ∧ Below w.heap.size w wr) (fun iv _ => n - (intOf iv).toNat)
  case atStart => exact ⟨0, by omega, rfl, rfl, Below.refl _ _⟩
  case round =>
    obtain ⟨i, hi, rfl, hs, hb⟩ := hrel
    have HB := hid hb; have HS := hid hs
    clear hb hs
    by_cases hlt : i < n
    · have hlm : i < m := by have := HNM.out; omega
      have hli : i < a.length := by rw [HLA.out]; omega
      have hlj : i < b.length := by rw [HLB.out]; omega
      have hga : a[i]? = some (a[i]'hli) := List.getElem?_eq_getElem hli
      have hgb : b[i]? = some (b[i]'hlj) := List.getElem?_eq_getElem hlj
      have HSA : Hid (a.take (i + 1) = a.take i ++ [a[i]'hli]) := List.take_succ_eq_append_getElem hli
      have HSB : Hid (b.take (i + 1) = b.take i ++ [b[i]'hlj]) := List.take_succ_eq_append_getElem hlj
      obtain ⟨ex, hex⟩ : ∃ y, a[i]'hli = y := ⟨_, rfl⟩
      obtain ⟨ey, hey⟩ : ∃ y, b[i]'hlj = y := ⟨_, rfl⟩
      rw [hex] at hga HSA
      rw [hey] at hgb HSB
      obtain ⟨b1, o1, rfl, hb1, hc1⟩ := (HA.out wr HB.out).at (by rw [evCells_length]; omega)
      obtain ⟨b2, o2, rfl, hb2, hc2⟩ := (HB2.out wr HB.out).at (by rw [evCells_length]; omega)
      have hcx : ∀ j u, j < 12 → ex.cells[j]? = some u → wr.cell? ⟨b1, o1 + (i * 12 + j), none⟩ = some u := fun j u hj hu => hc1 _ u ((ev_at a i ex hga j hj).trans hu)
      have hcy : ∀ j u, j < 12 → ey.cells[j]? = some u → wr.cell? ⟨b2, o2 + (i * 12 + j), none⟩ = some u := fun j u hj hu => hc2 _ u ((ev_at b i ey hgb j hj).trans hu)
      clear hc1 hc2 hex hey
      have HGA := hid hga
      have HGB := hid hgb
      clear hga hgb hli hlj
      have HEQ := Try.eqEv ex ey
      have HXY : Hid (decide (ex = ey) = true → ex = ey) := fun h => of_decide_eq_true h
      have HNX : Hid (decide (ex = ey) = false → ex ≠ ey) := fun h => of_decide_eq_false h
      obtain ⟨D, hD⟩ : ∃ y, decide (ex = ey) = y := ⟨_, rfl⟩
      rw [hD] at HXY HNX HEQ
      clear hD
      obtain ⟨xkind, xid, xn, xtick, xb, xe, xt1, xt2, xt3, xt4, xt5, xt6⟩ := ex
      obtain ⟨ykind, yid, yn, ytick, yb, ye, yt1, yt2, yt3, yt4, yt5, yt6⟩ := ey
      simp only at HEQ
      have Tx0 : ∀ q : BW wr.heap.size wr, q.1.cell? ⟨b1, o1 + i * 12, none⟩ = some (.int .i64 xkind) := fun q => q.cellAt hb1 (by have := hcx 0 _ (by omega) rfl; simpa only [Nat.add_zero, ← Nat.add_assoc] using this)
      have Tx1 : ∀ q : BW wr.heap.size wr, q.1.cell? ⟨b1, o1 + i * 12 + 1, none⟩ = some (.int .i64 xid) := fun q => q.cellAt hb1 (by have := hcx 1 _ (by omega) rfl; simpa only [Nat.add_zero, ← Nat.add_assoc] using this)
      have Tx2 : ∀ q : BW wr.heap.size wr, q.1.cell? ⟨b1, o1 + i * 12 + 2, none⟩ = some (.int .i64 xn) := fun q => q.cellAt hb1 (by have := hcx 2 _ (by omega) rfl; simpa only [Nat.add_zero, ← Nat.add_assoc] using this)
      have Tx3 : ∀ q : BW wr.heap.size wr, q.1.cell? ⟨b1, o1 + i * 12 + 3, none⟩ = some (.int .i64 xtick) := fun q => q.cellAt hb1 (by have := hcx 3 _ (by omega) rfl; simpa only [Nat.add_zero, ← Nat.add_assoc] using this)
      have Tx4 : ∀ q : BW wr.heap.size wr, q.1.cell? ⟨b1, o1 + i * 12 + 4, none⟩ = some (.string xb) := fun q => q.cellAt hb1 (by have := hcx 4 _ (by omega) rfl; simpa only [Nat.add_zero, ← Nat.add_assoc] using this)
      have Tx5 : ∀ q : BW wr.heap.size wr, q.1.cell? ⟨b1, o1 + i * 12 + 5, none⟩ = some (.int .i64 xe) := fun q => q.cellAt hb1 (by have := hcx 5 _ (by omega) rfl; simpa only [Nat.add_zero, ← Nat.add_assoc] using this)
      have Tx6 : ∀ q : BW wr.heap.size wr, q.1.cell? ⟨b1, o1 + i * 12 + 6, none⟩ = some (.int .i64 xt1) := fun q => q.cellAt hb1 (by have := hcx 6 _ (by omega) rfl; simpa only [Nat.add_zero, ← Nat.add_assoc] using this)
      have Tx7 : ∀ q : BW wr.heap.size wr, q.1.cell? ⟨b1, o1 + i * 12 + 7, none⟩ = some (.int .i64 xt2) := fun q => q.cellAt hb1 (by have := hcx 7 _ (by omega) rfl; simpa only [Nat.add_zero, ← Nat.add_assoc] using this)
      have Tx8 : ∀ q : BW wr.heap.size wr, q.1.cell? ⟨b1, o1 + i * 12 + 8, none⟩ = some (.int .i64 xt3) := fun q => q.cellAt hb1 (by have := hcx 8 _ (by omega) rfl; simpa only [Nat.add_zero, ← Nat.add_assoc] using this)
      have Tx9 : ∀ q : BW wr.heap.size wr, q.1.cell? ⟨b1, o1 + i * 12 + 9, none⟩ = some (.int .i64 xt4) := fun q => q.cellAt hb1 (by have := hcx 9 _ (by omega) rfl; simpa only [Nat.add_zero, ← Nat.add_assoc] using this)
      have Tx10 : ∀ q : BW wr.heap.size wr, q.1.cell? ⟨b1, o1 + i * 12 + 10, none⟩ = some (.int .i64 xt5) := fun q => q.cellAt hb1 (by have := hcx 10 _ (by omega) rfl; simpa only [Nat.add_zero, ← Nat.add_assoc] using this)
      have Tx11 : ∀ q : BW wr.heap.size wr, q.1.cell? ⟨b1, o1 + i * 12 + 11, none⟩ = some (.int .i64 xt6) := fun q => q.cellAt hb1 (by have := hcx 11 _ (by omega) rfl; simpa only [Nat.add_zero, ← Nat.add_assoc] using this)
      have Ty0 : ∀ q : BW wr.heap.size wr, q.1.cell? ⟨b2, o2 + i * 12, none⟩ = some (.int .i64 ykind) := fun q => q.cellAt hb2 (by have := hcy 0 _ (by omega) rfl; simpa only [Nat.add_zero, ← Nat.add_assoc] using this)
      have Ty1 : ∀ q : BW wr.heap.size wr, q.1.cell? ⟨b2, o2 + i * 12 + 1, none⟩ = some (.int .i64 yid) := fun q => q.cellAt hb2 (by have := hcy 1 _ (by omega) rfl; simpa only [Nat.add_zero, ← Nat.add_assoc] using this)
      have Ty2 : ∀ q : BW wr.heap.size wr, q.1.cell? ⟨b2, o2 + i * 12 + 2, none⟩ = some (.int .i64 yn) := fun q => q.cellAt hb2 (by have := hcy 2 _ (by omega) rfl; simpa only [Nat.add_zero, ← Nat.add_assoc] using this)
      have Ty3 : ∀ q : BW wr.heap.size wr, q.1.cell? ⟨b2, o2 + i * 12 + 3, none⟩ = some (.int .i64 ytick) := fun q => q.cellAt hb2 (by have := hcy 3 _ (by omega) rfl; simpa only [Nat.add_zero, ← Nat.add_assoc] using this)
      have Ty4 : ∀ q : BW wr.heap.size wr, q.1.cell? ⟨b2, o2 + i * 12 + 4, none⟩ = some (.string yb) := fun q => q.cellAt hb2 (by have := hcy 4 _ (by omega) rfl; simpa only [Nat.add_zero, ← Nat.add_assoc] using this)
      have Ty5 : ∀ q : BW wr.heap.size wr, q.1.cell? ⟨b2, o2 + i * 12 + 5, none⟩ = some (.int .i64 ye) := fun q => q.cellAt hb2 (by have := hcy 5 _ (by omega) rfl; simpa only [Nat.add_zero, ← Nat.add_assoc] using this)
      have Ty6 : ∀ q : BW wr.heap.size wr, q.1.cell? ⟨b2, o2 + i * 12 + 6, none⟩ = some (.int .i64 yt1) := fun q => q.cellAt hb2 (by have := hcy 6 _ (by omega) rfl; simpa only [Nat.add_zero, ← Nat.add_assoc] using this)
      have Ty7 : ∀ q : BW wr.heap.size wr, q.1.cell? ⟨b2, o2 + i * 12 + 7, none⟩ = some (.int .i64 yt2) := fun q => q.cellAt hb2 (by have := hcy 7 _ (by omega) rfl; simpa only [Nat.add_zero, ← Nat.add_assoc] using this)
      have Ty8 : ∀ q : BW wr.heap.size wr, q.1.cell? ⟨b2, o2 + i * 12 + 8, none⟩ = some (.int .i64 yt3) := fun q => q.cellAt hb2 (by have := hcy 8 _ (by omega) rfl; simpa only [Nat.add_zero, ← Nat.add_assoc] using this)
      have Ty9 : ∀ q : BW wr.heap.size wr, q.1.cell? ⟨b2, o2 + i * 12 + 9, none⟩ = some (.int .i64 yt4) := fun q => q.cellAt hb2 (by have := hcy 9 _ (by omega) rfl; simpa only [Nat.add_zero, ← Nat.add_assoc] using this)
      have Ty10 : ∀ q : BW wr.heap.size wr, q.1.cell? ⟨b2, o2 + i * 12 + 10, none⟩ = some (.int .i64 yt5) := fun q => q.cellAt hb2 (by have := hcy 10 _ (by omega) rfl; simpa only [Nat.add_zero, ← Nat.add_assoc] using this)
      have Ty11 : ∀ q : BW wr.heap.size wr, q.1.cell? ⟨b2, o2 + i * 12 + 11, none⟩ = some (.int .i64 yt6) := fun q => q.cellAt hb2 (by have := hcy 11 _ (by omega) rfl; simpa only [Nat.add_zero, ← Nat.add_assoc] using this)
      clear hcx hcy
      have hi2 : (i : Int) < (n : Int) := by omega
      go_upto_region 6 with fail
      refine wp_region_below wr.heap.size (by kernel_rfl) (by kernel_rfl) ?_
      repeat (go_big_quiet_step (fail))
      refine wpQuiet_nil ?_
      intro wu hqu
      have HBU : Hid (Below wr.heap.size wr wu) := by obtain ⟨q, rfl⟩ := hqu; exact q.2
      clear hqu
      clear Tx0 Ty0 Tx1 Ty1 Tx2 Ty2 Tx3 Ty3 Tx4 Ty4 Tx5 Ty5 Tx6 Ty6 Tx7 Ty7 Tx8 Ty8 Tx9 Ty9 Tx10 Ty10 Tx11 Ty11 hb1 hb2
      cases D
      · have hp := part_at HS.out HGA.out HGB.out (HNX.out rfl)
        go_wp2_with fail
        go_ret
        exact ⟨⟨false, (decide_eq_false hp.2).symm, rfl⟩, HB.out.trans (HBU.out.mono HB.out.size)⟩
      · have hp := same_step HS.out HGA.out HGB.out (HXY.out rfl)
        have HP := hid hp
        clear hp
        go_wp2_with fail
        go_roundw
        case rel => exact ⟨i + 1, by omega, by go_num, HP.out, HB.out.trans (HBU.out.mono HB.out.size)⟩
        case measure => simp [intOf]; omega
    · have HAB : Hid (a = b) := same_end HS.out (by rw [HLA.out]; omega) (by have := HNM.out; rw [HLB.out]; omega)
      have hi2 : ¬ (i : Int) < (n : Int) := by omega
      go_wp2_with fail
      go_ret
      exact ⟨⟨true, (decide_eq_true HAB.out).symm, rfl⟩, HB.out⟩

set_option maxRecDepth 20000 in
set_option maxHeartbeats 4000000 in
theorem rApart_any (A B : Option Addr) (n c m d : Nat) (a b : List EvV) (w : World) (ha : a.length = n) (hb : b.length = m) (hn : n ≤ 1000) (hm : m ≤ 1000) (hra : Rd w A (evCells a)) (hrb : Rd w B (evCells b)) :
    Calls Try.prog 8 #[.slice A n c, .slice B m d] w fun e w' => RapQ a b e ∧ Below w.heap.size w w' := by
  have HLA := hid ha; have HLB := hid hb
  have HA : Hid (∀ W, Below w.heap.size w W → Rd W A (evCells a)) := fun W h => hra.below h
  have HB2 : Hid (∀ W, Below w.heap.size w W → Rd W B (evCells b)) := fun W h => hrb.below h
  have HN2 : Hid (n ≤ 1000 ∧ m ≤ 1000) := ⟨hn, hm⟩
  clear ha hb hra hrb
  go_enter Try.func8, Try.ntmps8
  go_wp2_with fail
  go_loopw [5] (fun iv wr => ∃ i : Nat, i ≤ n ∧ i ≤ m ∧ iv = .int .i64 (i : Int) ∧ a.take i = b.take i ∧ Below w.heap.size w wr) (fun iv _ => n - (intOf iv).toNat)
  case atStart => exact ⟨0, by omega, by omega, rfl, rfl, Below.refl _ _⟩
  case round =>
    obtain ⟨i, hi, hj, rfl, hs, hb⟩ := hrel
    have HB := hid hb; have HS := hid hs
    clear hb hs
    by_cases hlt : i < n ∧ i < m
    · obtain ⟨hlt, hlm⟩ := hlt
      have hli : i < a.length := by rw [HLA.out]; omega
      have hlj : i < b.length := by rw [HLB.out]; omega
      have hga : a[i]? = some (a[i]'hli) := List.getElem?_eq_getElem hli
      have hgb : b[i]? = some (b[i]'hlj) := List.getElem?_eq_getElem hlj
      have HSA : Hid (a.take (i + 1) = a.take i ++ [a[i]'hli]) := List.take_succ_eq_append_getElem hli
      have HSB : Hid (b.take (i + 1) = b.take i ++ [b[i]'hlj]) := List.take_succ_eq_append_getElem hlj
      obtain ⟨ex, hex⟩ : ∃ y, a[i]'hli = y := ⟨_, rfl⟩
      obtain ⟨ey, hey⟩ : ∃ y, b[i]'hlj = y := ⟨_, rfl⟩
      rw [hex] at hga HSA
      rw [hey] at hgb HSB
      obtain ⟨b1, o1, rfl, hb1, hc1⟩ := (HA.out wr HB.out).at (by rw [evCells_length]; omega)
      obtain ⟨b2, o2, rfl, hb2, hc2⟩ := (HB2.out wr HB.out).at (by rw [evCells_length]; omega)
      have hcx : ∀ j u, j < 12 → ex.cells[j]? = some u → wr.cell? ⟨b1, o1 + (i * 12 + j), none⟩ = some u := fun j u hj hu => hc1 _ u ((ev_at a i ex hga j hj).trans hu)
      have hcy : ∀ j u, j < 12 → ey.cells[j]? = some u → wr.cell? ⟨b2, o2 + (i * 12 + j), none⟩ = some u := fun j u hj hu => hc2 _ u ((ev_at b i ey hgb j hj).trans hu)
      clear hc1 hc2 hex hey
      have HGA := hid hga
      have HGB := hid hgb
      clear hga hgb hli hlj
      have HEQ := Try.eqEv ex ey
      have HXY : Hid (decide (ex = ey) = true → ex = ey) := fun h => of_decide_eq_true h
      have HNX : Hid (decide (ex = ey) = false → ex ≠ ey) := fun h => of_decide_eq_false h
      obtain ⟨D, hD⟩ : ∃ y, decide (ex = ey) = y := ⟨_, rfl⟩
      rw [hD] at HXY HNX HEQ
      clear hD
      obtain ⟨xkind, xid, xn, xtick, xb, xe, xt1, xt2, xt3, xt4, xt5, xt6⟩ := ex
      obtain ⟨ykind, yid, yn, ytick, yb, ye, yt1, yt2, yt3, yt4, yt5, yt6⟩ := ey
      simp only at HEQ
      have Tx0 : ∀ q : BW wr.heap.size wr, q.1.cell? ⟨b1, o1 + i * 12, none⟩ = some (.int .i64 xkind) := fun q => q.cellAt hb1 (by have := hcx 0 _ (by omega) rfl; simpa only [Nat.add_zero, ← Nat.add_assoc] using this)
      have Tx1 : ∀ q : BW wr.heap.size wr, q.1.cell? ⟨b1, o1 + i * 12 + 1, none⟩ = some (.int .i64 xid) := fun q => q.cellAt hb1 (by have := hcx 1 _ (by omega) rfl; simpa only [Nat.add_zero, ← Nat.add_assoc] using this)
      have Tx2 : ∀ q : BW wr.heap.size wr, q.1.cell? ⟨b1, o1 + i * 12 + 2, none⟩ = some (.int .i64 xn) := fun q => q.cellAt hb1 (by have := hcx 2 _ (by omega) rfl; simpa only [Nat.add_zero, ← Nat.add_assoc] using this)
      have Tx3 : ∀ q : BW wr.heap.size wr, q.1.cell? ⟨b1, o1 + i * 12 + 3, none⟩ = some (.int .i64 xtick) := fun q => q.cellAt hb1 (by have := hcx 3 _ (by omega) rfl; simpa only [Nat.add_zero, ← Nat.add_assoc] using this)
      have Tx4 : ∀ q : BW wr.heap.size wr, q.1.cell? ⟨b1, o1 + i * 12 + 4, none⟩ = some (.string xb) := fun q => q.cellAt hb1 (by have := hcx 4 _ (by omega) rfl; simpa only [Nat.add_zero, ← Nat.add_assoc] using this)
      have Tx5 : ∀ q : BW wr.heap.size wr, q.1.cell? ⟨b1, o1 + i * 12 + 5, none⟩ = some (.int .i64 xe) := fun q => q.cellAt hb1 (by have := hcx 5 _ (by omega) rfl; simpa only [Nat.add_zero, ← Nat.add_assoc] using this)
      have Tx6 : ∀ q : BW wr.heap.size wr, q.1.cell? ⟨b1, o1 + i * 12 + 6, none⟩ = some (.int .i64 xt1) := fun q => q.cellAt hb1 (by have := hcx 6 _ (by omega) rfl; simpa only [Nat.add_zero, ← Nat.add_assoc] using this)
      have Tx7 : ∀ q : BW wr.heap.size wr, q.1.cell? ⟨b1, o1 + i * 12 + 7, none⟩ = some (.int .i64 xt2) := fun q => q.cellAt hb1 (by have := hcx 7 _ (by omega) rfl; simpa only [Nat.add_zero, ← Nat.add_assoc] using this)
      have Tx8 : ∀ q : BW wr.heap.size wr, q.1.cell? ⟨b1, o1 + i * 12 + 8, none⟩ = some (.int .i64 xt3) := fun q => q.cellAt hb1 (by have := hcx 8 _ (by omega) rfl; simpa only [Nat.add_zero, ← Nat.add_assoc] using this)
      have Tx9 : ∀ q : BW wr.heap.size wr, q.1.cell? ⟨b1, o1 + i * 12 + 9, none⟩ = some (.int .i64 xt4) := fun q => q.cellAt hb1 (by have := hcx 9 _ (by omega) rfl; simpa only [Nat.add_zero, ← Nat.add_assoc] using this)
      have Tx10 : ∀ q : BW wr.heap.size wr, q.1.cell? ⟨b1, o1 + i * 12 + 10, none⟩ = some (.int .i64 xt5) := fun q => q.cellAt hb1 (by have := hcx 10 _ (by omega) rfl; simpa only [Nat.add_zero, ← Nat.add_assoc] using this)
      have Tx11 : ∀ q : BW wr.heap.size wr, q.1.cell? ⟨b1, o1 + i * 12 + 11, none⟩ = some (.int .i64 xt6) := fun q => q.cellAt hb1 (by have := hcx 11 _ (by omega) rfl; simpa only [Nat.add_zero, ← Nat.add_assoc] using this)
      have Ty0 : ∀ q : BW wr.heap.size wr, q.1.cell? ⟨b2, o2 + i * 12, none⟩ = some (.int .i64 ykind) := fun q => q.cellAt hb2 (by have := hcy 0 _ (by omega) rfl; simpa only [Nat.add_zero, ← Nat.add_assoc] using this)
      have Ty1 : ∀ q : BW wr.heap.size wr, q.1.cell? ⟨b2, o2 + i * 12 + 1, none⟩ = some (.int .i64 yid) := fun q => q.cellAt hb2 (by have := hcy 1 _ (by omega) rfl; simpa only [Nat.add_zero, ← Nat.add_assoc] using this)
      have Ty2 : ∀ q : BW wr.heap.size wr, q.1.cell? ⟨b2, o2 + i * 12 + 2, none⟩ = some (.int .i64 yn) := fun q => q.cellAt hb2 (by have := hcy 2 _ (by omega) rfl; simpa only [Nat.add_zero, ← Nat.add_assoc] using this)
      have Ty3 : ∀ q : BW wr.heap.size wr, q.1.cell? ⟨b2, o2 + i * 12 + 3, none⟩ = some (.int .i64 ytick) := fun q => q.cellAt hb2 (by have := hcy 3 _ (by omega) rfl; simpa only [Nat.add_zero, ← Nat.add_assoc] using this)
      have Ty4 : ∀ q : BW wr.heap.size wr, q.1.cell? ⟨b2, o2 + i * 12 + 4, none⟩ = some (.string yb) := fun q => q.cellAt hb2 (by have := hcy 4 _ (by omega) rfl; simpa only [Nat.add_zero, ← Nat.add_assoc] using this)
      have Ty5 : ∀ q : BW wr.heap.size wr, q.1.cell? ⟨b2, o2 + i * 12 + 5, none⟩ = some (.int .i64 ye) := fun q => q.cellAt hb2 (by have := hcy 5 _ (by omega) rfl; simpa only [Nat.add_zero, ← Nat.add_assoc] using this)
      have Ty6 : ∀ q : BW wr.heap.size wr, q.1.cell? ⟨b2, o2 + i * 12 + 6, none⟩ = some (.int .i64 yt1) := fun q => q.cellAt hb2 (by have := hcy 6 _ (by omega) rfl; simpa only [Nat.add_zero, ← Nat.add_assoc] using this)
      have Ty7 : ∀ q : BW wr.heap.size wr, q.1.cell? ⟨b2, o2 + i * 12 + 7, none⟩ = some (.int .i64 yt2) := fun q => q.cellAt hb2 (by have := hcy 7 _ (by omega) rfl; simpa only [Nat.add_zero, ← Nat.add_assoc] using this)
      have Ty8 : ∀ q : BW wr.heap.size wr, q.1.cell? ⟨b2, o2 + i * 12 + 8, none⟩ = some (.int .i64 yt3) := fun q => q.cellAt hb2 (by have := hcy 8 _ (by omega) rfl; simpa only [Nat.add_zero, ← Nat.add_assoc] using this)
      have Ty9 : ∀ q : BW wr.heap.size wr, q.1.cell? ⟨b2, o2 + i * 12 + 9, none⟩ = some (.int .i64 yt4) := fun q => q.cellAt hb2 (by have := hcy 9 _ (by omega) rfl; simpa only [Nat.add_zero, ← Nat.add_assoc] using this)
      have Ty10 : ∀ q : BW wr.heap.size wr, q.1.cell? ⟨b2, o2 + i * 12 + 10, none⟩ = some (.int .i64 yt5) := fun q => q.cellAt hb2 (by have := hcy 10 _ (by omega) rfl; simpa only [Nat.add_zero, ← Nat.add_assoc] using this)
      have Ty11 : ∀ q : BW wr.heap.size wr, q.1.cell? ⟨b2, o2 + i * 12 + 11, none⟩ = some (.int .i64 yt6) := fun q => q.cellAt hb2 (by have := hcy 11 _ (by omega) rfl; simpa only [Nat.add_zero, ← Nat.add_assoc] using this)
      clear hcx hcy
      have hi2 : (i : Int) < (n : Int) := by omega
      have hm2 : (i : Int) < (m : Int) := by omega
      have hd1 : decide (n ≤ i) = false := decide_eq_false (by omega)
      have hd2 : decide (m ≤ i) = false := decide_eq_false (by omega)
      go_upto_region 4 with fail
      refine wp_region_below wr.heap.size (by kernel_rfl) (by kernel_rfl) ?_
      repeat (go_big_quiet_step (fail))
      refine wpQuiet_nil ?_
      intro wu hqu
      have HBU : Hid (Below wr.heap.size wr wu) := by obtain ⟨q, rfl⟩ := hqu; exact q.2
      clear hqu
      clear Tx0 Ty0 Tx1 Ty1 Tx2 Ty2 Tx3 Ty3 Tx4 Ty4 Tx5 Ty5 Tx6 Ty6 Tx7 Ty7 Tx8 Ty8 Tx9 Ty9 Tx10 Ty10 Tx11 Ty11 hb1 hb2
      cases D
      · have hp := part_at HS.out HGA.out HGB.out (HNX.out rfl)
        go_wp2_with fail
        go_ret
        exact ⟨⟨i, hp.1, (i : Int), (if_neg hp.2).symm, rfl⟩, HB.out.trans (HBU.out.mono HB.out.size)⟩
      · have hp := same_step HS.out HGA.out HGB.out (HXY.out rfl)
        have HP := hid hp
        clear hp
        go_wp2_with fail
        go_roundw
        case rel => exact ⟨i + 1, by omega, by omega, by go_num, HP.out, HB.out.trans (HBU.out.mono HB.out.size)⟩
        case measure => simp [intOf]; omega
    · have HE : Hid (i = n ∨ i = m) := by rw [Hid]; omega
      have HP : Hid (Part a b i) := part_end HS.out (by rw [HLA.out]; exact hi) (by rw [HLB.out]; exact hj) (by rw [HLA.out, HLB.out]; exact HE.out)
      clear hlt
      by_cases h1 : i < n
      · have HAB : Hid (a ≠ b) := fun e => by have h2 := HE.out; have h3 : n = m := by rw [← HLA.out, ← HLB.out, e]
                                              omega
        have hi2 : (i : Int) < (n : Int) := by omega
        have hd1 : decide (n ≤ i) = false := decide_eq_false (by omega)
        have hd2 : decide (m ≤ i) = true := decide_eq_true (by have := HE.out; omega)
        clear h1
        go_upto_region 4 with fail
        go_quiet (fail)
        go_wp2_with fail
        go_ret
        exact ⟨⟨i, HP.out, (i : Int), (if_neg HAB.out).symm, rfl⟩, HB.out.trans ((drewN_below _ _).mono HB.out.size)⟩
      · have hi2 : ¬ (i : Int) < (n : Int) := by omega
        by_cases h2 : i < m
        · have HAB : Hid (a ≠ b) := fun e => by have h3 : n = m := by rw [← HLA.out, ← HLB.out, e]
                                                omega
          have hm2 : (i : Int) < (m : Int) := by omega
          have hd1 : decide (n ≤ i) = true := decide_eq_true (by omega)
          clear h1 h2
          go_upto_region 4 with fail
          go_quiet (fail)
          go_wp2_with fail
          go_ret
          exact ⟨⟨i, HP.out, (i : Int), (if_neg HAB.out).symm, rfl⟩, HB.out.trans ((drewN_below _ _).mono HB.out.size)⟩
        · have HAB : Hid (a = b) := same_end HS.out (by rw [HLA.out]; omega) (by rw [HLB.out]; omega)
          have hm2 : ¬ (i : Int) < (m : Int) := by omega
          clear h1 h2
          go_wp2_with fail
          go_ret
          exact ⟨⟨i, HP.out, -1, (if_pos HAB.out).symm, rfl⟩, HB.out⟩
end Go.Proofs.Ytpkkfdmhbbipoaa
