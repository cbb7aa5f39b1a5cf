/- SoloSums: for all inputs the law answers true. No condition. -/
import Derived.Test.YtemhdkmijfngnaaGreatEf
import Derived.Test.YtemhdkmijfngnaaGreatMi
import Derived.Test.YtemhdkmijfngnaaGreatEb
namespace Go.Proofs.YtemhdkmijfngnaaGreat
open Go.RowKit PopT

def cutO8 (o : OutV) : OutV := ⟨o.n, cutM 8 o.b, o.t, o.loc, o.what, o.arm, o.m, o.st, o.did⟩
theorem own_Rd2 {w : World} {base n c size : Nat} {e : TypeId} {A : Option Addr} {xs : List Value} (h : w.ownsRow base e size (.slice A n c) n xs) : Rd w A xs := Rd_of_own h
theorem blk_cells {w : World} {g : Nat} {t : TypeId} {cs : Array Value} (h : Blk w g t cs) (j : Nat) (u : Value) (hu : cs.toList[j]? = some u) : w.cell? ⟨g, j, none⟩ = some u := by
  rw [h.cell j]; simpa using hu
theorem in_add (g j : Nat) : (⟨g, 0, none⟩ : Addr).add j = ⟨g, j, none⟩ := by unfold Addr.add; split <;> simp_all
theorem outV_one (o : OutV) : o.cells.all Value.oneCell' = true := rfl
/-- What the law's loop knows behind i rounds. -/
structure SumsAt (gb : Nat) (w wr : World) (l : List OutV) (i k : Nat) (A3 : Option Addr) (c3 : Nat) (A4 : Option Addr) (c4 : Nat) (sb : ByteArray) (z came : Int) : Prop where
  own : wr.ownsRow gb 72 9 (.slice A3 i c3) i (outVCells ((l.take i).map cutO8))
  steps : wr.ownsRow gb 51 6 (.slice A4 k c4) k (stVCells (stepsM ((l.take i).map cutO8)))
  k : k = (stepsM ((l.take i).map cutO8)).length
  sb : sb.data.toList = takenM ((l.take i).map cutO8)
  z : z = statusM ((l.take i).map cutO8)
  came : came = camM ((l.take i).map cutO8)
  below : Below w.heap.size w wr
theorem ba_eq {a b : ByteArray} (h : a.data.toList = b.data.toList) : a = b := by
  cases a; cases b
  simp only at h
  congr 1
  exact Array.toList_inj.1 h

set_option maxRecDepth 20000 in
set_option maxHeartbeats 16000000 in
theorem soloSums_any (A : Option Addr) (n c : Nat) (l : List OutV) (w : World) (hl : l.length = n) (_hn : n ≤ 9223372036854775807) (hr : Rd w A (outVCells l)) (ho : ∀ o ∈ l, o.ok) :
    Calls Tryz.prog 10 #[.slice A n c] w fun e w' => e = .returned (.bool true) ∧ Below w.heap.size w w' := by
  have HL := hid hl; have HO := hid ho
  have HRB : Hid (∀ W, Below w.heap.size w W → Rd W A (outVCells l)) := fun W hb => hr.below hb
  clear hl hr ho _hn
  obtain ⟨w1, hw1⟩ : ∃ W, (w.alloc (.cells #[] 72)).alloc (.cells #[] 51) = W := ⟨_, rfl⟩
  have HB1 : Hid (Below w.heap.size w w1) := by rw [← hw1]; exact below2' _ _ _
  have HO1 : Hid (w1.ownsRow w.heap.size 72 9 (.slice (some ⟨w.heap.size, 0, none⟩) 0 0) 0 []) := by
    rw [Hid, ← hw1]
    have := World.ownsRow_made (base := w.heap.size) (e := 72) (size := 9) w #[] 0 (Nat.le_refl _) (by simp [maxLen]) (by simp)
    exact own_below this ((Below.refl _ _).alloc (Nat.le_refl _) _)
  have HS1 : Hid (w1.ownsRow w.heap.size 51 6 (.slice (some ⟨w.heap.size + 1, 0, none⟩) 0 0) 0 []) := by
    rw [Hid, ← hw1]
    have := World.ownsRow_made (base := w.heap.size) (e := 51) (size := 6) (w.alloc (.cells #[] 72)) #[] 0 (by simp) (by simp [maxLen]) (by simp)
    simpa using this
  have HWA := hid hw1
  clear hw1
  obtain ⟨gb, hgb⟩ : ∃ y, w.heap.size = y := ⟨_, rfl⟩
  have HGB := hid hgb
  rw [hgb] at HO1 HS1
  clear hgb
  go_enter Tryz.func10, Tryz.ntmps10
  go_upto_region 2 with fail
  rw [HWA.out, HGB.out]
  clear HWA
  go_wp2_with fail
  go_loopw [8, 3, 4, 5, 6, 7] (fun iv v3 v4 v5 v6 v7 wr => ∃ (i k : Nat) (A3 : Option Addr) (c3 : Nat) (A4 : Option Addr) (c4 : Nat) (sb : ByteArray) (z came : Int), i ≤ n ∧ i ≤ 12 ∧ iv = .int .i64 (i : Int) ∧ v3 = .slice A3 i c3 ∧ v4 = .slice A4 k c4 ∧ v5 = .string sb ∧ v6 = .int .i64 z ∧ v7 = .int .u64 came ∧
      SumsAt gb w wr l i k A3 c3 A4 c4 sb z came) (fun iv _ _ _ _ _ _ => n - (intOf iv).toNat)
  case atStart => exact ⟨0, 0, _, 0, _, 0, ⟨#[]⟩, 0, 0, by omega, by omega, rfl, rfl, rfl, rfl, rfl, rfl, HO1.out, HS1.out, rfl, rfl, rfl, rfl, HB1.out⟩
  case round =>
    obtain ⟨i, k, A3, c3, A4, c4, sb, z, came, hi, hi12, rfl, rfl, rfl, rfl, rfl, rfl, hs⟩ := hrel
    have HS := hid hs
    have hgs : gb ≤ wr.heap.size := by have := hs.below.size; have := HGB.out; omega
    have HGS := hid hgs
    clear hs HO1 HS1 HB1 hgs
    rcases Nat.lt_or_ge i (min n 12) with hlt | hge
    · have hln : i < n := by omega
      have hl12 : i < 12 := by omega
      have HB := hid HS.out.below
      have hli : i < l.length := by rw [HL.out]; exact hln
      have hget : l[i]? = some (l[i]'hli) := List.getElem?_eq_getElem hli
      obtain ⟨ov, hov⟩ : ∃ y, l[i]'hli = y := ⟨_, rfl⟩
      rw [hov] at hget
      have HTK : Hid ((l.take (i + 1)).map cutO8 = (l.take i).map cutO8 ++ [cutO8 ov]) := by rw [Hid, List.take_succ_eq_append_getElem hli, hov, List.map_append]; rfl
      have HOV := hid (HO.out ov (List.mem_of_getElem? hget))
      obtain ⟨bl, off, rfl, hbl, hcc⟩ := (HRB.out wr HB.out).at (by rw [outVCells_length]; omega)
      have hc : ∀ j u, j < 9 → ov.cells[j]? = some u → wr.cell? ⟨bl, off + (i * 9 + j), none⟩ = some u := fun j u hj hu => hcc _ u ((outV_at l i ov hget j hj).trans hu)
      obtain ⟨on, ob, ot, ol, ow, oa, om, os, od⟩ := ov
      have c0 := hc 0 _ (by omega) rfl
      have c1 := hc 1 _ (by omega) rfl
      have c2 := hc 2 _ (by omega) rfl
      have c3 := hc 3 _ (by omega) rfl
      have c4 := hc 4 _ (by omega) rfl
      have c5 := hc 5 _ (by omega) rfl
      have c6 := hc 6 _ (by omega) rfl
      have c7 := hc 7 _ (by omega) rfl
      have c8 := hc 8 _ (by omega) rfl
      simp only [Nat.add_zero, ← Nat.add_assoc] at c0 c1 c2 c3 c4 c5 c6 c7 c8
      have hi2 : (i : Int) < (n : Int) := by omega
      have hi3 : (i : Int) < 12 := by omega
      have CC : Hid (∀ W, Calls Tryz.prog 32 #[.string ob, .int .i64 8] W fun e w' => e = .returned (.string (cutM 8 ob)) ∧ W = w') := fun W => cut_any ob 8 W HOV.out.2 (by omega)
      have HC8 : Hid (cutO8 ⟨on, ob, ot, ol, ow, oa, om, os, od⟩ = ⟨on, cutM 8 ob, ot, ol, ow, oa, om, os, od⟩) := rfl
      rw [HC8.out] at HTK
      have HCS : Hid ((cutM 8 ob).size ≤ 8) := cutM_size 8 ob
      obtain ⟨cb, hcb⟩ : ∃ y, cutM 8 ob = y := ⟨_, rfl⟩
      rw [hcb] at CC HTK HCS
      obtain ⟨LL, hLL⟩ : ∃ y, (l.take i).map cutO8 = y := ⟨_, rfl⟩
      obtain ⟨L2, hL2⟩ : ∃ y, (l.take (i + 1)).map cutO8 = y := ⟨_, rfl⟩
      have HLL := hid hLL
      have HL2 := hid hL2
      rw [hLL, hL2] at HTK
      have HON : Hid (on ≤ 9223372036854775807) := HOV.out.1.2
      have HS3 := hid HS.out.own; have HS4 := hid HS.out.steps; have HSK := hid HS.out.k; have HSB := hid HS.out.sb; have HSZ := hid HS.out.z; have HSC := hid HS.out.came
      rw [hLL] at HS3 HS4 HSK HSB HSZ HSC
      clear hget hov hc hcc hli hcb hLL hL2 HC8 HOV HS hlt hi hi12
      go_upto_region 6 with fail
      obtain ⟨w2, hw2⟩ : ∃ W, wr.alloc (.cells #[.int .i64 on, .string ob, .int .i64 ot, .int .i64 ol, .int .i64 ow, .int .i64 oa, .int .i64 om, .int .i64 os, .bool od] 72) = W := ⟨_, rfl⟩
      have HI2 : Hid (Blk w2 wr.heap.size 72 #[.int .i64 on, .string ob, .int .i64 ot, .int .i64 ol, .int .i64 ow, .int .i64 oa, .int .i64 om, .int .i64 os, .bool od]) := by rw [← hw2]; exact Blk.new _ _ _
      have HB2 : Hid (Below wr.heap.size wr w2) := by rw [← hw2]; exact (Below.refl _ _).alloc (Nat.le_refl _) _
      rw [hw2]
      clear hw2 c0 c1 c2 c3 c4 c5 c6 c7 c8 hbl
      have HO2 := hid (own_below HS3.out HB2.out)
      have HT2 := hid (own_below HS4.out HB2.out)
      have HB3 := hid (HB.out.trans (HB2.out.mono HB.out.size))
      have HNE : Hid ((∀ q, (Value.slice A3 i c3).ownBlock = some q → q ≠ wr.heap.size) ∧ (∀ q, (Value.slice A4 k c4).ownBlock = some q → q ≠ wr.heap.size)) := ⟨fun q hq e => by have := (HS3.out.lt q hq).2; omega, fun q hq e => by have := (HS4.out.lt q hq).2; omega⟩
      have HGI : Hid (gb ≤ wr.heap.size) := HGS.out
      obtain ⟨gi, hgi⟩ : ∃ y, wr.heap.size = y := ⟨_, rfl⟩
      rw [hgi] at HI2 HNE HGI ⊢
      obtain ⟨i0, i1, i2, i3, i4, i5, i6, i7, i8⟩ := fact9 HI2.out
      have y1 := HI2.out.frozen 1
      have hlI := HI2.out.lt
      clear hgi HB HS3 HS4 HB2 HGS
      go_wp2_with fail
      refine (CC.out _).mono ?_
      rintro en w2' ⟨rfl, rfl⟩
      go_upto_region 7 with fail
      obtain ⟨w3, hw3, hb3, hk3⟩ := Blk.put HI2.out 1 (.string cb)
      rw [hw3]
      have HI3 : Hid (Blk w3 gi 72 #[.int .i64 on, .string cb, .int .i64 ot, .int .i64 ol, .int .i64 ow, .int .i64 oa, .int .i64 om, .int .i64 os, .bool od]) := hb3
      have HO3 : Hid (w3.ownsRow gb 72 9 (.slice A3 i c3) i (outVCells LL)) := hk3.out.own HO2.out (fun q hv e => HNE.out.1 q hv e)
      have HT3 : Hid (w3.ownsRow gb 51 6 (.slice A4 k c4) k (stVCells (stepsM LL))) := hk3.out.own HT2.out (fun q hv e => HNE.out.2 q hv e)
      have HB4 : Hid (Below w.heap.size w w3) := HB3.out.trans (hk3.out.below HB3.out.size (fun q (e : q = gi) => by rw [e, HGB.out]; exact HGI.out))
      have hs3 : gb ≤ w3.heap.size := by have := HB4.out.size; have := HGB.out; omega
      clear hw3 hb3 hk3 i0 i1 i2 i3 i4 i5 i6 i7 i8 y1 hlI HI2 HO2 HT2 HB3 CC
      obtain ⟨i0, i1, i2, i3, i4, i5, i6, i7, i8⟩ := fact9 HI3.out
      have hlI := HI3.out.lt
      have hi13 : i ≤ 1000 := by omega
      go_wp2_with (at_builtin; refine wpList_append1K _ rfl _ _ 63 rfl gb 72 _ 9 80 Tryz.underlying63 Tryz.infoOut rfl (by decide) _ _ _ rfl HO3.out 1 [.int .i64 on, .string cb, .int .i64 ot, .int .i64 ol, .int .i64 ow, .int .i64 oa, .int .i64 om, .int .i64 os, .bool od] rfl rfl rfl ?_ (by decide) hs3 ?_)
      · omega
      intro g5 c5 w5 hown5 hk5 hf5
      have HO5 : Hid (w5.ownsRow gb 72 9 (.slice (some ⟨g5, 0, none⟩) (i + 1) c5) (i + 1) (outVCells L2)) := by
        rw [Hid, HTK.out, outVCells_append]; exact hown5
      have HT5 : Hid (w5.ownsRow gb 51 6 (.slice A4 k c4) k (stVCells (stepsM LL))) := hk5.own HT3.out (fun q hv hv2 => by
        rcases own_ne HO3.out HT3.out (by decide) with h | h
        · rw [h] at hv2; cases hv2
        · exact h (hv2.trans hv.symm))
      have HI5 : Hid (Blk w5 gi 72 #[.int .i64 on, .string cb, .int .i64 ot, .int .i64 ol, .int .i64 ow, .int .i64 oa, .int .i64 om, .int .i64 os, .bool od]) := hk5.blk HI3.out (fun h => HNE.out.1 _ h rfl)
      have HB5 : Hid (Below w.heap.size w w5) := HB4.out.trans (hk5.below HB4.out.size (fun q hq => by have := (HO3.out.lt q hq).1; have := HGB.out; omega))
      have HN5 : Hid (∀ q, (Value.slice A4 k c4).ownBlock = some q → q ≠ gi) := fun q hq => HNE.out.2 q hq
      have hs5 : gb ≤ w5.heap.size := Nat.le_trans hs3 hk5.size
      have HS5 := hid hs5
      clear hown5 hk5 hf5 HO3 HT3 HB4 hs3 hs5 HI3 i0 i1 i2 i3 i4 i5 i6 i7 i8 hlI HNE HGI hi13
      obtain ⟨i0, i1, i2, i3, i4, i5, i6, i7, i8⟩ := fact9 HI5.out
      have hlI := HI5.out.lt
      obtain ⟨i1', hi1'⟩ : ∃ y, i + 1 = y := ⟨_, rfl⟩
      rw [hi1'] at HO5 ⊢
      have HSL : Hid (sb.size ≤ 12000) := by
        have h1 := takenM_len LL (fun o ho => by rw [← HLL.out] at ho; obtain ⟨q, _, rfl⟩ := List.mem_map.1 ho; have := cutM_size 8 q.b; show (cutM 8 q.b).size ≤ 1000; omega)
        have h2 : LL.length ≤ i := by rw [← HLL.out, List.length_map, List.length_take]; omega
        have h3 : sb.data.toList.length = sb.size := by rw [Array.length_toList]; rfl
        rw [HSB.out] at h3
        rw [Hid]; omega
      have hadd := fun (W : World) => run_string_add (P := Tryz.prog) W sb cb (by have := HSL.out; omega) (by have := HCS.out; omega)
      go_upto_region 9 with fail
      obtain ⟨sb2, hsb2⟩ : ∃ y, sb ++ cb = y := ⟨_, rfl⟩
      rw [hsb2]
      have HSB2 : Hid (sb2.data.toList = takenM L2) := by rw [Hid, ← hsb2, HTK.out, takenM_snoc, ← HSB.out, ByteArray.data_append, Array.toList_append]
      have HST : Hid (stepsM L2 = if ow ≠ 0 then stepsM LL ++ [⟨on, cb, ot, ol, ow, oa, om, os, od⟩] else stepsM LL) := by rw [Hid, HTK.out, stepsM_snoc]
      have HZS : Hid (statusM L2 = if ow ≠ 0 then os else statusM LL) := by rw [Hid, HTK.out, statusM_snoc]; rfl
      have HCM : Hid (camM L2 = camS came on) := by rw [Hid, HTK.out, camM_snoc, HSC.out]
      have hcb0 := camM_bd LL
      rw [← HSC.out] at hcb0
      have HCB0 := hid hcb0
      have HKI : Hid (k ≤ 12) := by
        have h2 : LL.length ≤ i := by rw [← HLL.out, List.length_map, List.length_take]; omega
        have := stepsM_le LL
        rw [Hid, HSK.out]; omega
      clear hsb2 hadd hcb0 HSB HCS HSL HSC HTK
      rcases Decidable.em (ow = 0) with h0 | h0
      case' inl =>
        have h0f : (ow == 0) = true := by rw [beq_iff_eq]; exact h0
        have HT6 : Hid (w5.ownsRow gb 51 6 (.slice A4 k c4) k (stVCells (stepsM L2))) := by rw [Hid, HST.out, if_neg (by omega)]; exact HT5.out
        have HK6 : Hid (k = (stepsM L2).length) := by rw [Hid, HST.out, if_neg (by omega)]; exact HSK.out
        have HZ6 : Hid (z = statusM L2) := by rw [Hid, HZS.out, if_neg (by omega)]; exact HSZ.out
        clear HT5 HSK HSZ HST HZS h0 HN5 HKI
        go_upto_region 11 with fail
        obtain ⟨w6, A6, c6, k6, z6, e1, e2, e3, e4, e5⟩ : ∃ w6 A6 c6 k6 z6, w5 = w6 ∧ A4 = A6 ∧ c4 = c6 ∧ k = k6 ∧ z = z6 := ⟨_, _, _, _, _, rfl, rfl, rfl, rfl, rfl⟩
        rw [e1, e2, e3, e4, e5]
        rw [e1, e2, e3, e4] at HT6
        rw [e4] at HK6
        rw [e5] at HZ6
        rw [e1] at HO5 HI5 HB5 HS5
        have HO6 := HO5; have HI6 := HI5; have HB6 := HB5
        clear e1 e2 e3 e4 e5 HO5 HI5 HB5 HS5 h0f i0 i1 i2 i3 i4 i5 i6 i7 i8 hlI
      case' inr =>
        have h0f : (ow == 0) = false := by rw [beq_eq_false_iff_ne]; exact h0
        have HST2 := hid (HST.out.trans (if_pos h0))
        have HZ6 : Hid (os = statusM L2) := (HZS.out.trans (if_pos h0)).symm
        clear HST HZS h0
        go_upto_region 10 with fail
        clear i0 i1 i2 i3 i4 i5 i6 i7 i8 hlI
        have T2 : ∀ q : KW (fun k1 => (Value.slice A4 k c4).ownBlock = some k1) w5, q.1.cell? ⟨gi, 2, none⟩ = some (.int .i64 ot) := fun q => q.cellAt HI5.out.lt (fun h => HN5.out _ h rfl) (HI5.out.cell 2)
        have T3 : ∀ q : KW (fun k1 => (Value.slice A4 k c4).ownBlock = some k1) w5, q.1.cell? ⟨gi, 3, none⟩ = some (.int .i64 ol) := fun q => q.cellAt HI5.out.lt (fun h => HN5.out _ h rfl) (HI5.out.cell 3)
        have T4 : ∀ q : KW (fun k1 => (Value.slice A4 k c4).ownBlock = some k1) w5, q.1.cell? ⟨gi, 4, none⟩ = some (.int .i64 ow) := fun q => q.cellAt HI5.out.lt (fun h => HN5.out _ h rfl) (HI5.out.cell 4)
        have T5 : ∀ q : KW (fun k1 => (Value.slice A4 k c4).ownBlock = some k1) w5, q.1.cell? ⟨gi, 5, none⟩ = some (.int .i64 oa) := fun q => q.cellAt HI5.out.lt (fun h => HN5.out _ h rfl) (HI5.out.cell 5)
        have T6 : ∀ q : KW (fun k1 => (Value.slice A4 k c4).ownBlock = some k1) w5, q.1.cell? ⟨gi, 6, none⟩ = some (.int .i64 om) := fun q => q.cellAt HI5.out.lt (fun h => HN5.out _ h rfl) (HI5.out.cell 6)
        have T7 : ∀ q : KW (fun k1 => (Value.slice A4 k c4).ownBlock = some k1) w5, q.1.cell? ⟨gi, 7, none⟩ = some (.int .i64 os) := fun q => q.cellAt HI5.out.lt (fun h => HN5.out _ h rfl) (HI5.out.cell 7)
        refine wp_region_ordK (fun k1 => (Value.slice A4 k c4).ownBlock = some k1) [] (.val 0 (.val 1 (.val 2 (.val 5 (.val 6 (.val 7 (.op 3 (.op 4 (.val 8 (.val 9 (.nil))))))))))) (by kernel_rfl) (by kernel_rfl) ?_
        obtain ⟨wc, hwc⟩ : ∃ W, w5.drewN 1 = W := ⟨_, rfl⟩
        have HBC : Hid (Below w5.heap.size w5 wc) := by rw [← hwc]; exact drewN_below w5 1
        rw [hwc]
        clear hwc
        have HKW : Hid (Keep (fun k1 => (Value.slice A4 k c4).ownBlock = some k1) w5 wc) := Keep.of_below HBC.out
        refine wpOrdT_val rfl rfl ?_
        go_big_quiet_step (fail)
        refine wpQuiet_nil ?_
        refine wpOrdT_val rfl rfl ?_
        go_big_quiet_step (fail)
        refine wpQuiet_nil ?_
        refine wpOrdT_load rfl rfl (inKW HKW.out) ?_
        go_big_quiet_step (fail)
        refine wpQuiet_nil ?_
        refine wpOrdT_val rfl rfl ?_
        go_big_quiet_step (fail)
        refine wpQuiet_nil ?_
        refine wpOrdT_val rfl rfl ?_
        go_big_quiet_step (fail)
        refine wpQuiet_nil ?_
        refine wpOrdT_load rfl rfl (inKW HKW.out) ?_
        go_big_quiet_step (fail)
        refine wpQuiet_nil ?_
        refine wpOrdT_op rfl ?_
        go_wp2_with fail
        obtain ⟨wd, hwd⟩ : ∃ W, wc.alloc (.cells #[.int .i64 ot, .int .i64 ol, .int .i64 ow, .int .i64 oa, .int .i64 om, .int .i64 os] 51) = W := ⟨_, rfl⟩
        have HBN : Hid (Below wc.heap.size wc wd) := by rw [← hwd]; exact (Below.refl _ _).alloc (Nat.le_refl _) _
        have HM : Hid (Blk wd wc.heap.size 51 #[.int .i64 ot, .int .i64 ol, .int .i64 ow, .int .i64 oa, .int .i64 om, .int .i64 os]) := by rw [← hwd]; exact Blk.new _ _ _
        rw [hwd]
        clear hwd
        obtain ⟨gM, hgM⟩ : ∃ y, wc.heap.size = y := ⟨_, rfl⟩
        have HBD : Hid (Below w5.heap.size w5 wd) := HBC.out.trans (HBN.out.mono HBC.out.size)
        have HKW : Hid (Keep (fun k1 => (Value.slice A4 k c4).ownBlock = some k1) w5 wd) := Keep.of_below HBD.out
        rw [hgM] at HM ⊢
        clear hgM HBN
        refine KT.keep (inKW HKW.out) ?_
        refine wpOrdT_op rfl ?_
        have HTD := hid (own_below HT5.out HBD.out)
        have hbw : gb ≤ wd.heap.size := Nat.le_trans HS5.out HBD.out.size
        have hk12 := HKI.out
        have hone : ([.int .i64 ot, .int .i64 ol, .int .i64 ow, .int .i64 oa, .int .i64 om, .int .i64 os] : List Value).all Value.oneCell' = true := rfl
        go_wp2_with (at_builtin; refine wpList_appendK _ rfl _ _ 80 rfl gb 51 _ 6 48 Tryz.underlying80 Tryz.infoStep rfl (by decide) _ k _ rfl HTD.out ⟨gM, 0, none⟩ 1 _ [.int .i64 ot, .int .i64 ol, .int .i64 ow, .int .i64 oa, .int .i64 om, .int .i64 os] rfl rfl (fun j u hu => by rw [in_add]; exact blk_cells HM.out j u hu) (List.all_eq_true.1 hone) ?_ (by decide) hbw ?_)
        · omega
        intro A6 c6 w6 hown hkk hff
        have HT6 : Hid (w6.ownsRow gb 51 6 (.slice A6 (k + 1) c6) (k + 1) (stVCells (stepsM L2))) := by rw [Hid, HST2.out, stVCells_append]; exact hown
        have HKE : Hid (Keep (fun k1 => (Value.slice A4 k c4).ownBlock = some k1) w5 w6) := HKW.out.trans hkk (fun _ h => .inl h)
        clear hown hkk hff hbw hk12 hone
        have HKW := HKE
        go_wp2_with fail
        refine KT.keep (inKW HKW.out) ?_
        refine wpOrdT_val rfl rfl ?_
        go_big_quiet_step (fail)
        refine wpQuiet_nil ?_
        refine wpOrdT_val rfl rfl ?_
        go_big_quiet_step (fail)
        refine wpQuiet_nil ?_
        refine wpOrdT_nil ?_
        clear T2 T3 T4 T5 T6 T7 HM HBD HBC HTD
        have HO6 : Hid (w6.ownsRow gb 72 9 (.slice (some ⟨g5, 0, none⟩) i1' c5) i1' (outVCells L2)) := HKE.out.own HO5.out (fun q hv hv2 => by
          rcases own_ne HT5.out HO5.out (by decide) with h | h
          · rw [h] at hv2; cases hv2
          · exact h (hv2.trans hv.symm))
        have HI6 : Hid (Blk w6 gi 72 #[.int .i64 on, .string cb, .int .i64 ot, .int .i64 ol, .int .i64 ow, .int .i64 oa, .int .i64 om, .int .i64 os, .bool od]) := HKE.out.blk HI5.out (fun h => HN5.out _ h rfl)
        have HB6 : Hid (Below w.heap.size w w6) := HB5.out.trans (HKE.out.below HB5.out.size (fun q hq => by have := (HT5.out.lt q hq).1; have := HGB.out; omega))
        obtain ⟨k6, hk6⟩ : ∃ y, k + 1 = y := ⟨_, rfl⟩
        rw [hk6] at HT6
        have HK6 : Hid (k6 = (stepsM L2).length) := by rw [Hid, HST2.out, List.length_append, ← HSK.out, ← hk6]; rfl
        go_upto_region 11 with fail
        obtain ⟨z6, hz6⟩ : ∃ y, os = y := ⟨_, rfl⟩
        rw [hk6, hz6]
        rw [hz6] at HZ6
        clear hk6 hz6 HKE HKW HT5 HO5 HI5 HB5 HS5 HN5 HKI HSK HSZ HST2 h0f
        skip
      all_goals
        obtain ⟨i0, i1, i2, i3, i4, i5, i6, i7, i8⟩ := fact9 HI6.out
        have hlI := HI6.out.lt
        have HMK : Hid (∀ cm : Int, cm = camM L2 → SumsAt gb w w6 l i1' k6 (some ⟨g5, 0, none⟩) c5 A6 c6 sb2 z6 cm) := fun cm hcm => by
          subst hi1'
          exact ⟨by rw [HL2.out]; exact HO6.out, by rw [HL2.out]; exact HT6.out, by rw [HL2.out]; exact HK6.out, by rw [HL2.out]; exact HSB2.out, by rw [HL2.out]; exact HZ6.out, by rw [HL2.out]; exact hcm, HB6.out⟩
        have hc0 := HCB0.out.1
        have hc1 := HCB0.out.2
        have hon := HON.out
        have HI1 := hid hi1'
        clear HO6 HT6 HK6 HSB2 HZ6 HL2 HCB0 HON hi1' HLL
        by_cases hp : 0 < on
        · have hmx : max on 0 = on := by omega
          have HCM2 : Hid (camM L2 = if 9223372036854775807 - on < came then 9223372036854775807 else came + on) := by rw [HCM.out]; unfold camS; rw [hmx]; rfl
          clear hmx HCM
          by_cases hov : 9223372036854775807 - on < came
          · have HC6 := hid (HCM2.out.trans (if_pos hov))
            have hov2 : 9223372036854775807 < came + on := by omega
            clear HCM2 hov
            go_wp2_with fail
            go_roundw
            case rel => exact ⟨i1', k6, _, c5, A6, c6, sb2, z6, 9223372036854775807, by have := HI1.out; omega, by have := HI1.out; omega, by rw [← HI1.out]; go_num, rfl, rfl, rfl, rfl, rfl, HMK.out _ HC6.out.symm⟩
            case measure => simp [intOf]; omega
          · have HC6 := hid (HCM2.out.trans (if_neg hov))
            have hov2 : ¬ 9223372036854775807 < came + on := by omega
            clear HCM2 hov
            go_wp2_with fail
            go_roundw
            case rel => exact ⟨i1', k6, _, c5, A6, c6, sb2, z6, came + on, by have := HI1.out; omega, by have := HI1.out; omega, by rw [← HI1.out]; go_num, rfl, rfl, rfl, rfl, rfl, HMK.out _ HC6.out.symm⟩
            case measure => simp [intOf]; omega
        · have HC6 : Hid (camM L2 = came) := by
            have hmx : max on 0 = 0 := by omega
            rw [Hid, HCM.out]; unfold camS; rw [hmx, if_neg (by omega)]; omega
          have hov2 : ¬ 9223372036854775807 < came := by omega
          clear HCM
          go_wp2_with fail
          go_roundw
          case rel => exact ⟨i1', k6, _, c5, A6, c6, sb2, z6, came, by have := HI1.out; omega, by have := HI1.out; omega, by rw [← HI1.out]; go_num, rfl, rfl, rfl, rfl, rfl, HMK.out _ HC6.out.symm⟩
          case measure => simp [intOf]; omega
    · have hm : i = min n 12 := by omega
      obtain ⟨LL, hLL⟩ : ∃ y, (l.take i).map cutO8 = y := ⟨_, rfl⟩
      have HS3 := hid HS.out.own; have HS4 := hid HS.out.steps; have HSK := hid HS.out.k; have HSB := hid HS.out.sb; have HSZ := hid HS.out.z; have HSC := hid HS.out.came; have HB := hid HS.out.below
      rw [hLL] at HS3 HS4 HSK HSB HSZ HSC
      have HLN : Hid (LL.length = i) := by rw [Hid, ← hLL, List.length_map, List.length_take, HL.out]; omega
      have HL8 : Hid (∀ o ∈ LL, o.b.size ≤ 1000) := fun o ho => by rw [← hLL] at ho; obtain ⟨q, _, rfl⟩ := List.mem_map.1 ho; have := cutM_size 8 q.b; show (cutM 8 q.b).size ≤ 1000; omega
      have HLM : Hid (∀ o ∈ LL, o.n ≤ 9223372036854775807) := fun o ho => by rw [← hLL] at ho; obtain ⟨q, hq, rfl⟩ := List.mem_map.1 ho; exact (HO.out q (List.mem_of_mem_take hq)).1.2
      have hk12 : k ≤ 12 := by have := stepsM_le LL; have := HLN.out; have := HSK.out; omega
      have HSTR : Hid ((⟨(takenM LL).toArray⟩ : ByteArray) = sb) := ba_eq (by rw [HSB.out])
      have CST := steps_any A3 i c3 LL wr HLN.out (by omega) (own_Rd2 HS3.out)
      rw [← HSK.out] at CST
      have CST := hid CST
      have hcb0 := camM_bd LL
      rw [← HSC.out] at hcb0
      have hc0 := hcb0.1
      have hc1 := hcb0.2
      have hi12 : i ≤ 12 := hi12
      have HI12 := hid hi12
      clear hLL HS hcb0 hge HO
      rcases Nat.lt_or_ge i n with hA | hA
      case' inl =>
        have h1 : (i : Int) < (n : Int) := by omega
        have h2 : ¬ (i : Int) < 12 := by omega
        clear hm hA
        go_upto_region 15 with fail
        clear h1 h2
      case' inr =>
        have h1 : ¬ (i : Int) < (n : Int) := by omega
        clear hm hA
        go_upto_region 15 with fail
        clear h1
      all_goals
        go_wp2_with fail
        refine CST.out.mono ?_
        rintro en wA ⟨A6, c6, rfl, hown, hb⟩
        have HB2 := hid (HB.out.trans (hb.mono HB.out.size))
        have HR3 := hid ((own_Rd2 HS3.out).below hb)
        have CSS := hid (sameSteps_any A6 k c6 A4 k c4 (stepsM LL) wA HSK.out.symm rfl (by omega) (own_Rd2 hown) ((own_Rd2 HS4.out).below hb))
        clear hown hb CST HS3 HS4 HB
        go_wp2_with fail
        refine CSS.out.mono ?_
        rintro en wB ⟨rfl, hb⟩
        have HB3 := hid (HB2.out.trans (hb.mono HB2.out.size))
        have HR4 := hid (HR3.out.below hb)
        have CT := taken_any A3 i c3 LL wB HLN.out (by have := HI12.out; omega) HR4.out HL8.out
        rw [HSTR.out] at CT
        have CT := hid CT
        clear hb CSS HR3 HB2 HSTR
        go_wp2_with fail
        refine CT.out.mono ?_
        rintro en wC ⟨rfl, hb⟩
        have HB4 := hid (HB3.out.trans (hb.mono HB3.out.size))
        have HR5 := hid (HR4.out.below hb)
        have CU := status_any A3 i c3 LL wC HLN.out (by have := HI12.out; omega) HR5.out
        rw [← HSZ.out] at CU
        have CU := hid CU
        clear hb CT HR4 HB3
        go_wp2_with fail
        refine CU.out.mono ?_
        rintro en wE ⟨rfl, hb⟩
        have HB5 := hid (HB4.out.trans (hb.mono HB4.out.size))
        have CV := came_any A3 i c3 LL wE HLN.out (by have := HI12.out; omega) (HR5.out.below hb) HLM.out
        rw [← HSC.out] at CV
        have CV := hid CV
        clear hb CU HR5 HB4
        go_wp2_with fail
        refine CV.out.mono ?_
        rintro en wF ⟨rfl, hb⟩
        have HB6 := hid (HB5.out.trans (hb.mono HB5.out.size))
        clear hb CV HB5
        go_wp2_with fail
        refine (lives23_any _).mono ?_
        rintro en wG ⟨rfl, hb⟩
        have HB7 := hid (HB6.out.trans (hb.mono HB6.out.size))
        clear hb
        go_wp2_with fail
        go_ret
        exact ⟨rfl, HB7.out⟩
end Go.Proofs.YtemhdkmijfngnaaGreat
namespace Go.Proofs.YtemhdkmijfngnaaGreat
open Go.ChangeShapes Go.WideShapes Go.ChangeAt Go.RowKit Go.WideElems Go.Deep
open Go.ChangeMaps (open_string shut_string)

set_option maxRecDepth 100000 in
theorem soloSums_lifted (os : Os) (started : os.Started) (H : Type) (enc : TypeId × Value → H) :
    ReturnsInHanded {} Tryz.checked os 10 .any (Rows.soloSumsSpec.pre6 enc Tryz.prog Tryz.f10 [] false) (Rows.soloSumsSpec.post enc Tryz.prog Tryz.f10 false true false false) := by
  refine law_lifted 10 Tryz.f10 Rows.soloSumsSpec os started H enc Tryz.func10 (by kernel_rfl) (by kernel_rfl) (by kernel_rfl) rfl (fun ds h => ?_)
    (ChangeSpec.witness6 (enc := enc) (C := Tryz.checked) false ⟨#[], #[.slice none 0 0], []⟩ 8 (by kernel_rfl) (by kernel_rfl) (by kernel_rfl) (by kernel_rfl)) ?_
  · have hn : ds.length = 1 := h
    match ds, hn with
    | [d0], _ => rfl
  · intro W args ds p base hval hA _ _
    rw [show Tryz.f10.params.toList = [63] from by rw [Tryz.params10]] at hval hA
    obtain ⟨v0, _, d0, _, p0, _, rfl, rfl, rfl, h0, hA⟩ := all_cons hA
    obtain rfl := all_nil hA
    obtain ⟨A0, n0, c0, l0, rfl, hl0, hn0, hr0, hi0⟩ := open_outs (hval 0 _ v0 rfl rfl) h0
    exact soloSums_any A0 n0 c0 l0 W hl0 hn0 hr0 hi0

theorem soloSums_holds : Rows.SoloSumsSaid :=
  OpenClaim.holds_of_wide 10 Tryz.f10 rfl rfl rfl rfl rfl rfl rfl ⟨rfl, rfl, rfl, rfl, rfl⟩ rfl rfl rfl rfl rfl (by kernel_rfl) Tryz.func10 (by kernel_rfl)
    (of_decide_eq_true (by kernel_rfl)) (by unfold Func.isWrapper; first | (rw [if_pos (by decide +kernel)]; kernel_rfl) | (rw [if_neg (by decide +kernel)]; exact ⟨rfl, rfl⟩))
    (fun os started H enc _ => soloSums_lifted os started H enc)
#print axioms soloSums_holds
end Go.Proofs.YtemhdkmijfngnaaGreat
