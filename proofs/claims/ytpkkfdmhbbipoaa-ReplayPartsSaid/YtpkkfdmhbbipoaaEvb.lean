/- Where two lists of events part; whether they are one. -/
import Derived.Test.YtpkkfdmhbbipoaaEv
import Derived.Test.YtpkkfdmhbbipoaaTyp
namespace Go.Proofs.Ytpkkfdmhbbipoaa
open Go.RowKit

deriving instance DecidableEq for EvV
theorem strE_ne {a b : ByteArray} (h : a ≠ b) : a.toList ≠ b.toList := fun e => h (by rw [ByteArray.toList_eq, ByteArray.toList_eq] at e; exact ByteArray.ext (Array.toList_inj.1 e))
theorem Try.eqStepE (a1 a2 a3 a4 a5 a6 b1 b2 b3 b4 b5 b6 : Int) (W : World) : (Op.equalIn 9999 70 (.agg #[.int .i64 a1, .int .i64 a2, .int .i64 a3, .int .i64 a4, .int .i64 a5, .int .i64 a6]) (.agg #[.int .i64 b1, .int .i64 b2, .int .i64 b3, .int .i64 b4, .int .i64 b5, .int .i64 b6])).run Try.prog W = .ok (a1 == b1 && (a2 == b2 && (a3 == b3 && (a4 == b4 && (a5 == b5 && a6 == b6))))) W := by
  have u3 := Try.underlying3
  have a3' := Try.isAgg3
  have z3' := Try.sizeOf3
  have u2 := Try.underlying2
  have a2' := Try.isAgg2
  have z2' := Try.sizeOf2
  have hS : Try.prog.underlying 70 = some (.struct (Try.prog.fieldsOf 70)) := by kernel_rfl
  have hp : Try.prog.stoodInHeld 70 = false := by kernel_rfl
  rw [show (9999 : Nat) = 9998 + 1 from rfl, run_equalIn_agg W 9998 70 _ _ hS hp]
  simp only [Program.fieldsOf, Try.underlying70]
  go_simp
  rcases Decidable.em (a1 = b1) with rfl | h
  case inr => simp [h]
  rcases Decidable.em (a2 = b2) with rfl | h
  case inr => simp [h]
  rcases Decidable.em (a3 = b3) with rfl | h
  case inr => simp [h]
  rcases Decidable.em (a4 = b4) with rfl | h
  case inr => simp [h]
  rcases Decidable.em (a5 = b5) with rfl | h
  case inr => simp [h]
  rcases Decidable.em (a6 = b6) with rfl | h
  case inr => simp [h]
  simp
theorem Try.eqEv (x y : EvV) (W : World) : (Op.equalIn 10000 72 (.agg #[.int .i64 x.kind, .int .i64 x.id, .int .i64 x.n, .int .i64 x.tick, .string x.b, .int .i64 x.e, .int .i64 x.t1, .int .i64 x.t2, .int .i64 x.t3, .int .i64 x.t4, .int .i64 x.t5, .int .i64 x.t6]) (.agg #[.int .i64 y.kind, .int .i64 y.id, .int .i64 y.n, .int .i64 y.tick, .string y.b, .int .i64 y.e, .int .i64 y.t1, .int .i64 y.t2, .int .i64 y.t3, .int .i64 y.t4, .int .i64 y.t5, .int .i64 y.t6])).run Try.prog W = .ok (decide (x = y)) W := by
  have u3 := Try.underlying3
  have a3 := Try.isAgg3
  have z3 := Try.sizeOf3
  have u2 := Try.underlying2
  have a2 := Try.isAgg2
  have z2 := Try.sizeOf2
  have u9 := Try.underlying9
  have a9 := Try.isAgg9
  have z9 := Try.sizeOf9
  have u5 := Try.underlying53
  have a5 := Try.isAgg53
  have z5 := Try.sizeOf53
  have u7 := Try.underlying70
  have a7 := Try.isAgg70
  have z7 := Try.sizeOf70
  have e7 := Try.eqStepE x.t1 x.t2 x.t3 x.t4 x.t5 x.t6 y.t1 y.t2 y.t3 y.t4 y.t5 y.t6
  have hS : Try.prog.underlying 72 = some (.struct (Try.prog.fieldsOf 72)) := by kernel_rfl
  have hp : Try.prog.stoodInHeld 72 = false := by kernel_rfl
  obtain ⟨xkind, xid, xn, xtick, xb, xe, xt1, xt2, xt3, xt4, xt5, xt6⟩ := x
  obtain ⟨ykind, yid, yn, ytick, yb, ye, yt1, yt2, yt3, yt4, yt5, yt6⟩ := y
  simp only at e7
  rw [show (10000 : Nat) = 9999 + 1 from rfl, run_equalIn_agg W 9999 72 _ _ hS hp]
  simp only [Program.fieldsOf, Try.underlying72]
  go_simp
  rcases Decidable.em (xkind = ykind) with rfl | h
  case inr => simp [h]
  rcases Decidable.em (xid = yid) with rfl | h
  case inr => simp [h]
  rcases Decidable.em (xn = yn) with rfl | h
  case inr => simp [h]
  rcases Decidable.em (xtick = ytick) with rfl | h
  case inr => simp [h]
  rcases Decidable.em (xb = yb) with rfl | h
  case inr => have h2 := strE_ne h; simp [h, h2]
  rcases Decidable.em (xe = ye) with rfl | h
  case inr => simp [h]
  rcases Decidable.em (xt1 = yt1) with rfl | h
  case inr => simp [h]
  rcases Decidable.em (xt2 = yt2) with rfl | h
  case inr => simp [h]
  rcases Decidable.em (xt3 = yt3) with rfl | h
  case inr => simp [h]
  rcases Decidable.em (xt4 = yt4) with rfl | h
  case inr => simp [h]
  rcases Decidable.em (xt5 = yt5) with rfl | h
  case inr => simp [h]
  rcases Decidable.em (xt6 = yt6) with rfl | h
  case inr => simp [h]
  simp
/-- Where two lists part: so many first elements are alike, and then one ends or they differ. -/
structure Part (a b : List EvV) (k : Nat) : Prop where
  la : k ≤ a.length
  lb : k ≤ b.length
  same : a.take k = b.take k
  diff : k < a.length → k < b.length → a[k]? ≠ b[k]?

def ApQ (a b : List EvV) (e : Ending) : Prop := ∃ k, Part a b k ∧ ∃ r : Nat × Bool, r = (if a = b then (0, false) else (k, true)) ∧ e = .returned (.tuple #[.int .i64 (r.1 : Int), .bool r.2])
theorem same_step {a b : List EvV} {i : Nat} {x y : EvV} (hs : a.take i = b.take i) (ha : a[i]? = some x) (hb : b[i]? = some y) (h : x = y) : a.take (i + 1) = b.take (i + 1) := by
  rw [List.take_add_one, List.take_add_one, hs, ha, hb, h]
theorem part_at {a b : List EvV} {i : Nat} {x y : EvV} (hs : a.take i = b.take i) (ha : a[i]? = some x) (hb : b[i]? = some y) (h : x ≠ y) : Part a b i ∧ a ≠ b := by
  have h1 := (List.getElem?_eq_some_iff.1 ha).1
  have h2 := (List.getElem?_eq_some_iff.1 hb).1
  refine ⟨⟨by omega, by omega, hs, fun _ _ e => h ?_⟩, fun e => h ?_⟩
  · rw [ha, hb] at e; exact Option.some.inj e
  · rw [e, hb] at ha; exact (Option.some.inj ha).symm
theorem part_end {a b : List EvV} {i : Nat} (hs : a.take i = b.take i) (ha : i ≤ a.length) (hb : i ≤ b.length) (he : i = a.length ∨ i = b.length) : Part a b i := ⟨ha, hb, hs, fun h1 h2 => by omega⟩
theorem same_end {a b : List EvV} {i : Nat} (hs : a.take i = b.take i) (ha : i = a.length) (hb : i = b.length) : a = b := by
  rw [List.take_of_length_le (by omega), List.take_of_length_le (by omega)] at hs
  exact hs
theorem Part.one {a b : List EvV} {k m : Nat} (h : Part a b k) (h2 : Part a b m) : k = m := by
  have key : ∀ {k m : Nat}, Part a b k → Part a b m → ¬ k < m := by
    intro k m h h2 hlt
    refine h.diff (by have := h2.la; omega) (by have := h2.lb; omega) ?_
    have e : (a.take m)[k]? = (b.take m)[k]? := by rw [h2.same]
    rw [List.getElem?_take_of_lt hlt, List.getElem?_take_of_lt hlt] at e
    exact e
  have := key h h2; have := key h2 h; omega
set_option maxRecDepth 20000 in
set_option maxHeartbeats 4000000 in
theorem apart_any (A B : Option Addr) (n c m d : Nat) (a b : List EvV) (w : World) (ha : a.length = n) (hb : b.length = m) (hn : n ≤ 1000) (hm : m ≤ 1000) (hra : Rd w A (evCells a)) (hrb : Rd w B (evCells b)) :
    Calls Try.prog 7 #[.slice A n c, .slice B m d] w fun e w' => ApQ a b e ∧ Below w.heap.size w w' := by
  have HLA := hid ha; have HLB := hid hb
  have HA : Hid (∀ W, Below w.heap.size w W → Rd W A (evCells a)) := fun W h => hra.below h
  have HB2 : Hid (∀ W, Below w.heap.size w W → Rd W B (evCells b)) := fun W h => hrb.below h
  clear ha hb hra hrb
  have HN2 : Hid (n ≤ 1000 ∧ m ≤ 1000) := ⟨hn, hm⟩
  rcases Decidable.em ((m : Int) < (n : Int)) with hmn | hmn
  · go_enter Try.func7, Try.ntmps7
    go_wp2_with fail
    go_loopw [12] (fun iv wr => ∃ i : Nat, i ≤ n ∧ i ≤ m ∧ iv = .int .i64 (i : Int) ∧ a.take i = b.take i ∧ Below w.heap.size w wr) (fun iv _ => n - (intOf iv).toNat)
    case atStart => exact ⟨0, by omega, by omega, rfl, rfl, Below.refl _ _⟩
    case round =>
      obtain ⟨i, hi, hj, rfl, hs, hb⟩ := hrel
      have HB := hid hb; have HS := hid hs
      clear hb hs
      by_cases hlt : i < n ∧ i < m
      · obtain ⟨hlt, hlm⟩ := hlt
        have hli : i < a.length := by rw [HLA.out]; omega
        have hlj : i < b.length := by rw [HLB.out]; omega
        have hga : a[i]? = some (a[i]'hli) := List.getElem?_eq_getElem hli
        have hgb : b[i]? = some (b[i]'hlj) := List.getElem?_eq_getElem hlj
        have HSA : Hid (a.take (i + 1) = a.take i ++ [a[i]'hli]) := List.take_succ_eq_append_getElem hli
        have HSB : Hid (b.take (i + 1) = b.take i ++ [b[i]'hlj]) := List.take_succ_eq_append_getElem hlj
        obtain ⟨ex, hex⟩ : ∃ y, a[i]'hli = y := ⟨_, rfl⟩
        obtain ⟨ey, hey⟩ : ∃ y, b[i]'hlj = y := ⟨_, rfl⟩
        rw [hex] at hga HSA
        rw [hey] at hgb HSB
        obtain ⟨b1, o1, rfl, hb1, hc1⟩ := (HA.out wr HB.out).at (by rw [evCells_length]; omega)
        obtain ⟨b2, o2, rfl, hb2, hc2⟩ := (HB2.out wr HB.out).at (by rw [evCells_length]; omega)
        have hcx : ∀ j u, j < 12 → ex.cells[j]? = some u → wr.cell? ⟨b1, o1 + (i * 12 + j), none⟩ = some u := fun j u hj hu => hc1 _ u ((ev_at a i ex hga j hj).trans hu)
        have hcy : ∀ j u, j < 12 → ey.cells[j]? = some u → wr.cell? ⟨b2, o2 + (i * 12 + j), none⟩ = some u := fun j u hj hu => hc2 _ u ((ev_at b i ey hgb j hj).trans hu)
        clear hc1 hc2 hex hey
        have HGA := hid hga
        have HGB := hid hgb
        clear hga hgb hli hlj
        have HEQ := Try.eqEv ex ey
        have HXY : Hid (decide (ex = ey) = true → ex = ey) := fun h => of_decide_eq_true h
        have HNX : Hid (decide (ex = ey) = false → ex ≠ ey) := fun h => of_decide_eq_false h
        obtain ⟨D, hD⟩ : ∃ y, decide (ex = ey) = y := ⟨_, rfl⟩
        rw [hD] at HXY HNX HEQ
        clear hD
        obtain ⟨xkind, xid, xn, xtick, xb, xe, xt1, xt2, xt3, xt4, xt5, xt6⟩ := ex
        obtain ⟨ykind, yid, yn, ytick, yb, ye, yt1, yt2, yt3, yt4, yt5, yt6⟩ := ey
        simp only at HEQ
        have Tx0 : ∀ q : BW wr.heap.size wr, q.1.cell? ⟨b1, o1 + i * 12, none⟩ = some (.int .i64 xkind) := fun q => q.cellAt hb1 (by have := hcx 0 _ (by omega) rfl; simpa only [Nat.add_zero, ← Nat.add_assoc] using this)
        have Tx1 : ∀ q : BW wr.heap.size wr, q.1.cell? ⟨b1, o1 + i * 12 + 1, none⟩ = some (.int .i64 xid) := fun q => q.cellAt hb1 (by have := hcx 1 _ (by omega) rfl; simpa only [Nat.add_zero, ← Nat.add_assoc] using this)
        have Tx2 : ∀ q : BW wr.heap.size wr, q.1.cell? ⟨b1, o1 + i * 12 + 2, none⟩ = some (.int .i64 xn) := fun q => q.cellAt hb1 (by have := hcx 2 _ (by omega) rfl; simpa only [Nat.add_zero, ← Nat.add_assoc] using this)
        have Tx3 : ∀ q : BW wr.heap.size wr, q.1.cell? ⟨b1, o1 + i * 12 + 3, none⟩ = some (.int .i64 xtick) := fun q => q.cellAt hb1 (by have := hcx 3 _ (by omega) rfl; simpa only [Nat.add_zero, ← Nat.add_assoc] using this)
        have Tx4 : ∀ q : BW wr.heap.size wr, q.1.cell? ⟨b1, o1 + i * 12 + 4, none⟩ = some (.string xb) := fun q => q.cellAt hb1 (by have := hcx 4 _ (by omega) rfl; simpa only [Nat.add_zero, ← Nat.add_assoc] using this)
        have Tx5 : ∀ q : BW wr.heap.size wr, q.1.cell? ⟨b1, o1 + i * 12 + 5, none⟩ = some (.int .i64 xe) := fun q => q.cellAt hb1 (by have := hcx 5 _ (by omega) rfl; simpa only [Nat.add_zero, ← Nat.add_assoc] using this)
        have Tx6 : ∀ q : BW wr.heap.size wr, q.1.cell? ⟨b1, o1 + i * 12 + 6, none⟩ = some (.int .i64 xt1) := fun q => q.cellAt hb1 (by have := hcx 6 _ (by omega) rfl; simpa only [Nat.add_zero, ← Nat.add_assoc] using this)
        have Tx7 : ∀ q : BW wr.heap.size wr, q.1.cell? ⟨b1, o1 + i * 12 + 7, none⟩ = some (.int .i64 xt2) := fun q => q.cellAt hb1 (by have := hcx 7 _ (by omega) rfl; simpa only [Nat.add_zero, ← Nat.add_assoc] using this)
        have Tx8 : ∀ q : BW wr.heap.size wr, q.1.cell? ⟨b1, o1 + i * 12 + 8, none⟩ = some (.int .i64 xt3) := fun q => q.cellAt hb1 (by have := hcx 8 _ (by omega) rfl; simpa only [Nat.add_zero, ← Nat.add_assoc] using this)
        have Tx9 : ∀ q : BW wr.heap.size wr, q.1.cell? ⟨b1, o1 + i * 12 + 9, none⟩ = some (.int .i64 xt4) := fun q => q.cellAt hb1 (by have := hcx 9 _ (by omega) rfl; simpa only [Nat.add_zero, ← Nat.add_assoc] using this)
        have Tx10 : ∀ q : BW wr.heap.size wr, q.1.cell? ⟨b1, o1 + i * 12 + 10, none⟩ = some (.int .i64 xt5) := fun q => q.cellAt hb1 (by have := hcx 10 _ (by omega) rfl; simpa only [Nat.add_zero, ← Nat.add_assoc] using this)
        have Tx11 : ∀ q : BW wr.heap.size wr, q.1.cell? ⟨b1, o1 + i * 12 + 11, none⟩ = some (.int .i64 xt6) := fun q => q.cellAt hb1 (by have := hcx 11 _ (by omega) rfl; simpa only [Nat.add_zero, ← Nat.add_assoc] using this)
        have Ty0 : ∀ q : BW wr.heap.size wr, q.1.cell? ⟨b2, o2 + i * 12, none⟩ = some (.int .i64 ykind) := fun q => q.cellAt hb2 (by have := hcy 0 _ (by omega) rfl; simpa only [Nat.add_zero, ← Nat.add_assoc] using this)
        have Ty1 : ∀ q : BW wr.heap.size wr, q.1.cell? ⟨b2, o2 + i * 12 + 1, none⟩ = some (.int .i64 yid) := fun q => q.cellAt hb2 (by have := hcy 1 _ (by omega) rfl; simpa only [Nat.add_zero, ← Nat.add_assoc] using this)
        have Ty2 : ∀ q : BW wr.heap.size wr, q.1.cell? ⟨b2, o2 + i * 12 + 2, none⟩ = some (.int .i64 yn) := fun q => q.cellAt hb2 (by have := hcy 2 _ (by omega) rfl; simpa only [Nat.add_zero, ← Nat.add_assoc] using this)
        have Ty3 : ∀ q : BW wr.heap.size wr, q.1.cell? ⟨b2, o2 + i * 12 + 3, none⟩ = some (.int .i64 ytick) := fun q => q.cellAt hb2 (by have := hcy 3 _ (by omega) rfl; simpa only [Nat.add_zero, ← Nat.add_assoc] using this)
        have Ty4 : ∀ q : BW wr.heap.size wr, q.1.cell? ⟨b2, o2 + i * 12 + 4, none⟩ = some (.string yb) := fun q => q.cellAt hb2 (by have := hcy 4 _ (by omega) rfl; simpa only [Nat.add_zero, ← Nat.add_assoc] using this)
        have Ty5 : ∀ q : BW wr.heap.size wr, q.1.cell? ⟨b2, o2 + i * 12 + 5, none⟩ = some (.int .i64 ye) := fun q => q.cellAt hb2 (by have := hcy 5 _ (by omega) rfl; simpa only [Nat.add_zero, ← Nat.add_assoc] using this)
        have Ty6 : ∀ q : BW wr.heap.size wr, q.1.cell? ⟨b2, o2 + i * 12 + 6, none⟩ = some (.int .i64 yt1) := fun q => q.cellAt hb2 (by have := hcy 6 _ (by omega) rfl; simpa only [Nat.add_zero, ← Nat.add_assoc] using this)
        have Ty7 : ∀ q : BW wr.heap.size wr, q.1.cell? ⟨b2, o2 + i * 12 + 7, none⟩ = some (.int .i64 yt2) := fun q => q.cellAt hb2 (by have := hcy 7 _ (by omega) rfl; simpa only [Nat.add_zero, ← Nat.add_assoc] using this)
        have Ty8 : ∀ q : BW wr.heap.size wr, q.1.cell? ⟨b2, o2 + i * 12 + 8, none⟩ = some (.int .i64 yt3) := fun q => q.cellAt hb2 (by have := hcy 8 _ (by omega) rfl; simpa only [Nat.add_zero, ← Nat.add_assoc] using this)
        have Ty9 : ∀ q : BW wr.heap.size wr, q.1.cell? ⟨b2, o2 + i * 12 + 9, none⟩ = some (.int .i64 yt4) := fun q => q.cellAt hb2 (by have := hcy 9 _ (by omega) rfl; simpa only [Nat.add_zero, ← Nat.add_assoc] using this)
        have Ty10 : ∀ q : BW wr.heap.size wr, q.1.cell? ⟨b2, o2 + i * 12 + 10, none⟩ = some (.int .i64 yt5) := fun q => q.cellAt hb2 (by have := hcy 10 _ (by omega) rfl; simpa only [Nat.add_zero, ← Nat.add_assoc] using this)
        have Ty11 : ∀ q : BW wr.heap.size wr, q.1.cell? ⟨b2, o2 + i * 12 + 11, none⟩ = some (.int .i64 yt6) := fun q => q.cellAt hb2 (by have := hcy 11 _ (by omega) rfl; simpa only [Nat.add_zero, ← Nat.add_assoc] using this)
        clear hcx hcy
        have hi2 : (i : Int) < (n : Int) := by omega
        have hm2 : (i : Int) < (m : Int) := by omega
        go_upto_region 4 with fail
        refine wp_region_below wr.heap.size (by kernel_rfl) (by kernel_rfl) ?_
        repeat (go_big_quiet_step (fail))
        refine wpQuiet_nil ?_
        intro wu hqu
        have HBU : Hid (Below wr.heap.size wr wu) := by obtain ⟨q, rfl⟩ := hqu; exact q.2
        clear hqu
        clear Tx0 Ty0 Tx1 Ty1 Tx2 Ty2 Tx3 Ty3 Tx4 Ty4 Tx5 Ty5 Tx6 Ty6 Tx7 Ty7 Tx8 Ty8 Tx9 Ty9 Tx10 Ty10 Tx11 Ty11 hb1 hb2
        cases D
        · have hp := part_at HS.out HGA.out HGB.out (HNX.out rfl)
          go_wp2_with fail
          go_ret2
          exact ⟨⟨i, hp.1, (i, true), (if_neg hp.2).symm, rfl⟩, HB.out.trans (HBU.out.mono HB.out.size)⟩
        · have hp := same_step HS.out HGA.out HGB.out (HXY.out rfl)
          have HP := hid hp
          clear hp
          go_wp2_with fail
          go_roundw
          case rel => exact ⟨i + 1, by omega, by omega, by go_num, HP.out, HB.out.trans (HBU.out.mono HB.out.size)⟩
          case measure => simp [intOf]; omega
      · have HE : Hid (i = n ∨ i = m) := by rw [Hid]; omega
        have HP : Hid (Part a b i) := part_end HS.out (by rw [HLA.out]; exact hi) (by rw [HLB.out]; exact hj) (by rw [HLA.out, HLB.out]; exact HE.out)
        by_cases hnm : n = m
        · have HAB : Hid (a = b) := same_end HS.out (by have := HE.out; rw [HLA.out]; omega) (by have := HE.out; rw [HLB.out]; omega)
          have hb1 : ((n : Int) == (m : Int)) = true := by rw [beq_iff_eq]; omega
          have hx : ¬ (i : Int) < (n : Int) := by have := HE.out; omega
          have hy : ¬ (i : Int) < (m : Int) := by have := HE.out; omega
          clear hlt
          go_wp2_with fail
          go_ret2
          exact ⟨⟨i, HP.out, (0, false), (if_pos HAB.out).symm, rfl⟩, HB.out⟩
        · have HAB : Hid (a ≠ b) := fun e => hnm (by rw [← HLA.out, ← HLB.out, e])
          have hb1 : ((n : Int) == (m : Int)) = false := by rw [beq_eq_false_iff_ne]; omega
          have HMN := hid hmn
          have hx : ¬ (i : Int) < (m : Int) := by have := HE.out; omega
          have HIE : Hid (i = m) := by have := HE.out; rw [Hid]; omega
          clear hnm hlt
          go_wp2_with fail
          go_ret2
          exact ⟨⟨m, by rw [← HIE.out]; exact HP.out, (m, true), (if_neg HAB.out).symm, rfl⟩, HB.out⟩
  · go_enter Try.func7, Try.ntmps7
    go_wp2_with fail
    go_loopw [12] (fun iv wr => ∃ i : Nat, i ≤ n ∧ i ≤ m ∧ iv = .int .i64 (i : Int) ∧ a.take i = b.take i ∧ Below w.heap.size w wr) (fun iv _ => n - (intOf iv).toNat)
    case atStart => exact ⟨0, by omega, by omega, rfl, rfl, Below.refl _ _⟩
    case round =>
      obtain ⟨i, hi, hj, rfl, hs, hb⟩ := hrel
      have HB := hid hb; have HS := hid hs
      clear hb hs
      by_cases hlt : i < n ∧ i < m
      · obtain ⟨hlt, hlm⟩ := hlt
        have hli : i < a.length := by rw [HLA.out]; omega
        have hlj : i < b.length := by rw [HLB.out]; omega
        have hga : a[i]? = some (a[i]'hli) := List.getElem?_eq_getElem hli
        have hgb : b[i]? = some (b[i]'hlj) := List.getElem?_eq_getElem hlj
        have HSA : Hid (a.take (i + 1) = a.take i ++ [a[i]'hli]) := List.take_succ_eq_append_getElem hli
        have HSB : Hid (b.take (i + 1) = b.take i ++ [b[i]'hlj]) := List.take_succ_eq_append_getElem hlj
        obtain ⟨ex, hex⟩ : ∃ y, a[i]'hli = y := ⟨_, rfl⟩
        obtain ⟨ey, hey⟩ : ∃ y, b[i]'hlj = y := ⟨_, rfl⟩
        rw [hex] at hga HSA
        rw [hey] at hgb HSB
        obtain ⟨b1, o1, rfl, hb1, hc1⟩ := (HA.out wr HB.out).at (by rw [evCells_length]; omega)
        obtain ⟨b2, o2, rfl, hb2, hc2⟩ := (HB2.out wr HB.out).at (by rw [evCells_length]; omega)
        have hcx : ∀ j u, j < 12 → ex.cells[j]? = some u → wr.cell? ⟨b1, o1 + (i * 12 + j), none⟩ = some u := fun j u hj hu => hc1 _ u ((ev_at a i ex hga j hj).trans hu)
        have hcy : ∀ j u, j < 12 → ey.cells[j]? = some u → wr.cell? ⟨b2, o2 + (i * 12 + j), none⟩ = some u := fun j u hj hu => hc2 _ u ((ev_at b i ey hgb j hj).trans hu)
        clear hc1 hc2 hex hey
        have HGA := hid hga
        have HGB := hid hgb
        clear hga hgb hli hlj
        have HEQ := Try.eqEv ex ey
        have HXY : Hid (decide (ex = ey) = true → ex = ey) := fun h => of_decide_eq_true h
        have HNX : Hid (decide (ex = ey) = false → ex ≠ ey) := fun h => of_decide_eq_false h
        obtain ⟨D, hD⟩ : ∃ y, decide (ex = ey) = y := ⟨_, rfl⟩
        rw [hD] at HXY HNX HEQ
        clear hD
        obtain ⟨xkind, xid, xn, xtick, xb, xe, xt1, xt2, xt3, xt4, xt5, xt6⟩ := ex
        obtain ⟨ykind, yid, yn, ytick, yb, ye, yt1, yt2, yt3, yt4, yt5, yt6⟩ := ey
        simp only at HEQ
        have Tx0 : ∀ q : BW wr.heap.size wr, q.1.cell? ⟨b1, o1 + i * 12, none⟩ = some (.int .i64 xkind) := fun q => q.cellAt hb1 (by have := hcx 0 _ (by omega) rfl; simpa only [Nat.add_zero, ← Nat.add_assoc] using this)
        have Tx1 : ∀ q : BW wr.heap.size wr, q.1.cell? ⟨b1, o1 + i * 12 + 1, none⟩ = some (.int .i64 xid) := fun q => q.cellAt hb1 (by have := hcx 1 _ (by omega) rfl; simpa only [Nat.add_zero, ← Nat.add_assoc] using this)
        have Tx2 : ∀ q : BW wr.heap.size wr, q.1.cell? ⟨b1, o1 + i * 12 + 2, none⟩ = some (.int .i64 xn) := fun q => q.cellAt hb1 (by have := hcx 2 _ (by omega) rfl; simpa only [Nat.add_zero, ← Nat.add_assoc] using this)
        have Tx3 : ∀ q : BW wr.heap.size wr, q.1.cell? ⟨b1, o1 + i * 12 + 3, none⟩ = some (.int .i64 xtick) := fun q => q.cellAt hb1 (by have := hcx 3 _ (by omega) rfl; simpa only [Nat.add_zero, ← Nat.add_assoc] using this)
        have Tx4 : ∀ q : BW wr.heap.size wr, q.1.cell? ⟨b1, o1 + i * 12 + 4, none⟩ = some (.string xb) := fun q => q.cellAt hb1 (by have := hcx 4 _ (by omega) rfl; simpa only [Nat.add_zero, ← Nat.add_assoc] using this)
        have Tx5 : ∀ q : BW wr.heap.size wr, q.1.cell? ⟨b1, o1 + i * 12 + 5, none⟩ = some (.int .i64 xe) := fun q => q.cellAt hb1 (by have := hcx 5 _ (by omega) rfl; simpa only [Nat.add_zero, ← Nat.add_assoc] using this)
        have Tx6 : ∀ q : BW wr.heap.size wr, q.1.cell? ⟨b1, o1 + i * 12 + 6, none⟩ = some (.int .i64 xt1) := fun q => q.cellAt hb1 (by have := hcx 6 _ (by omega) rfl; simpa only [Nat.add_zero, ← Nat.add_assoc] using this)
        have Tx7 : ∀ q : BW wr.heap.size wr, q.1.cell? ⟨b1, o1 + i * 12 + 7, none⟩ = some (.int .i64 xt2) := fun q => q.cellAt hb1 (by have := hcx 7 _ (by omega) rfl; simpa only [Nat.add_zero, ← Nat.add_assoc] using this)
        have Tx8 : ∀ q : BW wr.heap.size wr, q.1.cell? ⟨b1, o1 + i * 12 + 8, none⟩ = some (.int .i64 xt3) := fun q => q.cellAt hb1 (by have := hcx 8 _ (by omega) rfl; simpa only [Nat.add_zero, ← Nat.add_assoc] using this)
        have Tx9 : ∀ q : BW wr.heap.size wr, q.1.cell? ⟨b1, o1 + i * 12 + 9, none⟩ = some (.int .i64 xt4) := fun q => q.cellAt hb1 (by have := hcx 9 _ (by omega) rfl; simpa only [Nat.add_zero, ← Nat.add_assoc] using this)
        have Tx10 : ∀ q : BW wr.heap.size wr, q.1.cell? ⟨b1, o1 + i * 12 + 10, none⟩ = some (.int .i64 xt5) := fun q => q.cellAt hb1 (by have := hcx 10 _ (by omega) rfl; simpa only [Nat.add_zero, ← Nat.add_assoc] using this)
        have Tx11 : ∀ q : BW wr.heap.size wr, q.1.cell? ⟨b1, o1 + i * 12 + 11, none⟩ = some (.int .i64 xt6) := fun q => q.cellAt hb1 (by have := hcx 11 _ (by omega) rfl; simpa only [Nat.add_zero, ← Nat.add_assoc] using this)
        have Ty0 : ∀ q : BW wr.heap.size wr, q.1.cell? ⟨b2, o2 + i * 12, none⟩ = some (.int .i64 ykind) := fun q => q.cellAt hb2 (by have := hcy 0 _ (by omega) rfl; simpa only [Nat.add_zero, ← Nat.add_assoc] using this)
        have Ty1 : ∀ q : BW wr.heap.size wr, q.1.cell? ⟨b2, o2 + i * 12 + 1, none⟩ = some (.int .i64 yid) := fun q => q.cellAt hb2 (by have := hcy 1 _ (by omega) rfl; simpa only [Nat.add_zero, ← Nat.add_assoc] using this)
        have Ty2 : ∀ q : BW wr.heap.size wr, q.1.cell? ⟨b2, o2 + i * 12 + 2, none⟩ = some (.int .i64 yn) := fun q => q.cellAt hb2 (by have := hcy 2 _ (by omega) rfl; simpa only [Nat.add_zero, ← Nat.add_assoc] using this)
        have Ty3 : ∀ q : BW wr.heap.size wr, q.1.cell? ⟨b2, o2 + i * 12 + 3, none⟩ = some (.int .i64 ytick) := fun q => q.cellAt hb2 (by have := hcy 3 _ (by omega) rfl; simpa only [Nat.add_zero, ← Nat.add_assoc] using this)
        have Ty4 : ∀ q : BW wr.heap.size wr, q.1.cell? ⟨b2, o2 + i * 12 + 4, none⟩ = some (.string yb) := fun q => q.cellAt hb2 (by have := hcy 4 _ (by omega) rfl; simpa only [Nat.add_zero, ← Nat.add_assoc] using this)
        have Ty5 : ∀ q : BW wr.heap.size wr, q.1.cell? ⟨b2, o2 + i * 12 + 5, none⟩ = some (.int .i64 ye) := fun q => q.cellAt hb2 (by have := hcy 5 _ (by omega) rfl; simpa only [Nat.add_zero, ← Nat.add_assoc] using this)
        have Ty6 : ∀ q : BW wr.heap.size wr, q.1.cell? ⟨b2, o2 + i * 12 + 6, none⟩ = some (.int .i64 yt1) := fun q => q.cellAt hb2 (by have := hcy 6 _ (by omega) rfl; simpa only [Nat.add_zero, ← Nat.add_assoc] using this)
        have Ty7 : ∀ q : BW wr.heap.size wr, q.1.cell? ⟨b2, o2 + i * 12 + 7, none⟩ = some (.int .i64 yt2) := fun q => q.cellAt hb2 (by have := hcy 7 _ (by omega) rfl; simpa only [Nat.add_zero, ← Nat.add_assoc] using this)
        have Ty8 : ∀ q : BW wr.heap.size wr, q.1.cell? ⟨b2, o2 + i * 12 + 8, none⟩ = some (.int .i64 yt3) := fun q => q.cellAt hb2 (by have := hcy 8 _ (by omega) rfl; simpa only [Nat.add_zero, ← Nat.add_assoc] using this)
        have Ty9 : ∀ q : BW wr.heap.size wr, q.1.cell? ⟨b2, o2 + i * 12 + 9, none⟩ = some (.int .i64 yt4) := fun q => q.cellAt hb2 (by have := hcy 9 _ (by omega) rfl; simpa only [Nat.add_zero, ← Nat.add_assoc] using this)
        have Ty10 : ∀ q : BW wr.heap.size wr, q.1.cell? ⟨b2, o2 + i * 12 + 10, none⟩ = some (.int .i64 yt5) := fun q => q.cellAt hb2 (by have := hcy 10 _ (by omega) rfl; simpa only [Nat.add_zero, ← Nat.add_assoc] using this)
        have Ty11 : ∀ q : BW wr.heap.size wr, q.1.cell? ⟨b2, o2 + i * 12 + 11, none⟩ = some (.int .i64 yt6) := fun q => q.cellAt hb2 (by have := hcy 11 _ (by omega) rfl; simpa only [Nat.add_zero, ← Nat.add_assoc] using this)
        clear hcx hcy
        have hi2 : (i : Int) < (n : Int) := by omega
        have hm2 : (i : Int) < (m : Int) := by omega
        go_upto_region 4 with fail
        refine wp_region_below wr.heap.size (by kernel_rfl) (by kernel_rfl) ?_
        repeat (go_big_quiet_step (fail))
        refine wpQuiet_nil ?_
        intro wu hqu
        have HBU : Hid (Below wr.heap.size wr wu) := by obtain ⟨q, rfl⟩ := hqu; exact q.2
        clear hqu
        clear Tx0 Ty0 Tx1 Ty1 Tx2 Ty2 Tx3 Ty3 Tx4 Ty4 Tx5 Ty5 Tx6 Ty6 Tx7 Ty7 Tx8 Ty8 Tx9 Ty9 Tx10 Ty10 Tx11 Ty11 hb1 hb2
        cases D
        · have hp := part_at HS.out HGA.out HGB.out (HNX.out rfl)
          go_wp2_with fail
          go_ret2
          exact ⟨⟨i, hp.1, (i, true), (if_neg hp.2).symm, rfl⟩, HB.out.trans (HBU.out.mono HB.out.size)⟩
        · have hp := same_step HS.out HGA.out HGB.out (HXY.out rfl)
          have HP := hid hp
          clear hp
          go_wp2_with fail
          go_roundw
          case rel => exact ⟨i + 1, by omega, by omega, by go_num, HP.out, HB.out.trans (HBU.out.mono HB.out.size)⟩
          case measure => simp [intOf]; omega
      · have HE : Hid (i = n ∨ i = m) := by rw [Hid]; omega
        have HP : Hid (Part a b i) := part_end HS.out (by rw [HLA.out]; exact hi) (by rw [HLB.out]; exact hj) (by rw [HLA.out, HLB.out]; exact HE.out)
        by_cases hnm : n = m
        · have HAB : Hid (a = b) := same_end HS.out (by have := HE.out; rw [HLA.out]; omega) (by have := HE.out; rw [HLB.out]; omega)
          have hb1 : ((n : Int) == (m : Int)) = true := by rw [beq_iff_eq]; omega
          have hx : ¬ (i : Int) < (n : Int) := by have := HE.out; omega
          have hy : ¬ (i : Int) < (m : Int) := by have := HE.out; omega
          clear hlt
          go_wp2_with fail
          go_ret2
          exact ⟨⟨i, HP.out, (0, false), (if_pos HAB.out).symm, rfl⟩, HB.out⟩
        · have HAB : Hid (a ≠ b) := fun e => hnm (by rw [← HLA.out, ← HLB.out, e])
          have hb1 : ((n : Int) == (m : Int)) = false := by rw [beq_eq_false_iff_ne]; omega
          have HMN := hid hmn
          have hx : ¬ (i : Int) < (n : Int) := by have := HE.out; omega
          have HIE : Hid (i = n) := by have := HE.out; rw [Hid]; omega
          clear hnm hlt
          go_wp2_with fail
          go_ret2
          exact ⟨⟨n, by rw [← HIE.out]; exact HP.out, (n, true), (if_neg HAB.out).symm, rfl⟩, HB.out⟩
end Go.Proofs.Ytpkkfdmhbbipoaa
