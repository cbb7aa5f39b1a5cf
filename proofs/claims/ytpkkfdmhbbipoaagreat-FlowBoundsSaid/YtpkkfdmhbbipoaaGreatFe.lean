/- Zp: the reference's Add (layer 13). Zp: the reference's Next (layer 24). -/
import Derived.Test.YtpkkfdmhbbipoaaGreatFb
import Derived.Test.YtpkkfdmhbbipoaaGreatFc
import Derived.Test.YtpkkfdmhbbipoaaGreatMh
import Derived.Test.YtpkkfdmhbbipoaaGreatRc
namespace Go.Proofs.YtpkkfdmhbbipoaaGreat
set_option maxRecDepth 20000
set_option maxHeartbeats 8000000
open Go.RowKit PopT
theorem Zfi {P : Prop} (h : P := by
 go_wp2_with fail
 try go_ret
 refine HQQ.out _ _ ?_ (Below.refl _ _);rw [HF.out];have h1 := HV0.out;rw [HM.out] at h1; exact h1) : P := h
theorem Zca {P : Prop} (h : P := by
 go_upto_region 6 with fail;refine Zy w.heap.size [] (.val 1 (.val 2 (.val 3 (.val 5 (.val 8 (.val 9 (.val 10 (.two 0 (.two 4 (.op 6 (.op 7 (.op 11 (.val 12 (.nil))))) 6 (.op 4 (.op 7 (.op 11 (.val 12 (.nil)))))) 6 (.op 0 (.op 4 (.op 7 (.op 11 (.val 12 (.nil)))))))))))))) ab ab ?_;obtain ⟨wc, hwc, HBW⟩ := dw w;rw [hwc];clear hwc;have HL1 : Hid ((Zg (l.take k)).length = k * 1) := by rw [Hid, Yt, List.length_take, HM.out] <;> omega
 have HL2 : Hid (([.int .i64 n] : List Value).length = 1 * 1) := rfl;have HL3 : Hid ((Zg (l.drop k)).length = (m - k) * 1) := by rw [Hid, Yt, List.length_drop, HM.out] <;> omega
 have HP1 : Hid (∀ u ∈ Zg (l.take k), u.oneCell' = true) := fun u hu => cj
 have HP2 : Hid (∀ u ∈ ([.int .i64 n] : List Value), u.oneCell' = true) := fun u hu => by rw [List.mem_singleton] at hu; subst hu; rfl
 have HP3 : Hid (∀ u ∈ Zg (l.drop k), u.oneCell' = true) := fun u hu => cj
 have HA2 : ∀ g : Nat, Hid (some (⟨g, 0, none⟩ : Addr) = none → 1 = 0 ∧ 1 = 0) := fun g h => ck
 have HLL : Hid (k + 1 + (m - k) = (l.take k ++ n :: l.drop k).length) := ed
 iterate 7 (refine Zf rfl rfl ?_; go_big_quiet_step (fail); refine wpQuiet_nil ?_)
 refine Wv rfl rfl ?_ ?_
 ·go_wp2_with fail
  obtain ⟨v1, hw⟩ := nE (wc.alloc (.cells #[] 3));have HS := ba hw;have HE1 : Hid (IO w.heap.size (wc.alloc (.cells #[] 3)) (.slice (some ⟨wc.heap.size, 0, none⟩) 0 0) []) := Uq w.heap.size wc [] HBW.size ae;rw [hw] at HE1 ⊢;obtain ⟨g0, hg⟩ := nE (wc.heap.size);rw [hg] at HE1 ⊢;have HB1 := bt HBW HS;have HO1 : Hid (v1.ownsRow w.heap.size 3 1 (.slice (some ⟨g0, 0, none⟩) 0 0) 0 []) := HE1;clear hw hg HS;refine KT.keep (Yy HB1.out) ?_
  focus
   refine Wv rfl rfl ?_ ?_
   focus
    have HX := hid (HLA.below HB1.out);have hs := HB1.size;have hbi : (0 + k) * 8 ≤ 140737488355328 := aa
    go_wp2_with (at_builtin; refine Ym _ rfl _ _ 68 rfl w.heap.size 3 _ 1 8 Tryz.underlying68 Yo rfl ac _ _ _ rfl HO1.out _ _ _ (Zg (l.take k)) rfl HL1.out HX.out HA1.out HP1.out hbi ac hs ?_);intro A4 c4 v2 hown hkp hfr;have HB2 : Hid (Below w.heap.size w v2) := HB1.trans (hkp.below hs (fun j e => (HO1.lt j e).1));have HO2 := hid hown;clear hown hkp hfr hs hbi HX;go_wp2_with fail;refine KT.keep (Yy HB2.out) ?_;refine Zc rfl ?_;go_wp2_with fail;obtain ⟨v3, hw⟩ := nE (v2.alloc (.cells #[n] 3));have HS := ba hw;have HN3 : Hid (IO w.heap.size (v2.alloc (.cells #[n] 3)) (.slice (some ⟨v2.heap.size, 0, none⟩) 1 1) [n]) := Uq w.heap.size v2 [n] HB2.size ae;rw [hw] at HN3 ⊢;obtain ⟨g6, hg⟩ := nE (v2.heap.size);rw [hg] at HN3 ⊢;have HB3 := bt HB2 HS;have HR3 : Hid (Rd v3 (some ⟨g6, 0, none⟩) [n]) := Xb HN3.out;have HO3 := hid (Zt HO2.out HS.out);clear hw hg HS
   rotate_left 1
   focus
    go_wp2_with fail;obtain ⟨v2, hw⟩ := nE (v1.alloc (.cells #[n] 3));have HS := ba hw;have HN2 : Hid (IO w.heap.size (v1.alloc (.cells #[n] 3)) (.slice (some ⟨v1.heap.size, 0, none⟩) 1 1) [n]) := Uq w.heap.size v1 [n] HB1.size ae;rw [hw] at HN2 ⊢;obtain ⟨g6, hg⟩ := nE (v1.heap.size);have HNE : Hid (g6 ≠ g0) := by have := (HO1.lt g0 rfl).2; rw [Hid]; omega
    rw [hg] at HN2 ⊢;have HB2 := bt HB1 HS;have HR2 : Hid (Rd v2 (some ⟨g6, 0, none⟩) [n]) := Xb HN2.out;have HO2 := hid (Zt HO1.out HS.out);clear hw hg HS;refine KT.keep (Yy HB2.out) ?_;refine Zc rfl ?_;have HX := hid (HLA.below HB2.out);have hs := HB2.size;have hbi : (0 + k) * 8 ≤ 140737488355328 := aa
    go_wp2_with (at_builtin; refine Ym _ rfl _ _ 68 rfl w.heap.size 3 _ 1 8 Tryz.underlying68 Yo rfl ac _ _ _ rfl HO2.out _ _ _ (Zg (l.take k)) rfl HL1.out HX.out HA1.out HP1.out hbi ac hs ?_);intro A4 c4 v3 hown hkp hfr;have HB3 : Hid (Below w.heap.size w v3) := HB2.trans (hkp.below hs (fun j e => (HO2.lt j e).1));have HR3 : Hid (Rd v3 (some ⟨g6, 0, none⟩) [n]) := hkp.rd HR2.out (fun a e e2 => bc);have HO3 := hid hown;clear hown hkp hfr hs hbi HX;go_wp2_with fail
   all_goals
    refine KT.keep (Yy HB3.out) ?_;refine Zc rfl ?_;have hs := HB3.size;have hbi : (k + 1) * 8 ≤ 140737488355328 := aa
    go_wp2_with (at_builtin; refine Ym _ rfl _ _ 68 rfl w.heap.size 3 _ 1 8 Tryz.underlying68 Yo rfl ac _ _ _ rfl HO3.out (some ⟨g6, 0, none⟩) 1 _ [n] rfl HL2.out HR3.out (HA2 g6).out HP2.out hbi ac hs ?_);intro A7 c7 v4 hown hkp hfr;have HB4 : Hid (Below w.heap.size w v4) := HB3.trans (hkp.below hs (fun j e => (HO3.lt j e).1));have HO4 := hid hown;clear hown hkp hfr hs hbi;go_wp2_with fail;refine KT.keep (Yy HB4.out) ?_;refine Zc rfl ?_;have HX := hid (HLB.below HB4.out);have hs := HB4.size;have hbi : (k + 1 + (m - k)) * 8 ≤ 140737488355328 := aa
    go_wp2_with (at_builtin; refine Ym _ rfl _ _ 68 rfl w.heap.size 3 _ 1 8 Tryz.underlying68 Yo rfl ac _ _ _ rfl HO4.out _ _ _ (Zg (l.drop k)) rfl HL3.out HX.out HA3.out HP3.out hbi ac hs ?_);intro A11 c11 v5 hown hkp hfr;have HB5 : Hid (Below w.heap.size w v5) := HB4.trans (hkp.below hs (fun j e => (HO4.lt j e).1));have HO5 := hid hown;clear hown hkp hfr hs hbi HX;go_wp2_with fail;refine KT.keep (Yy HB5.out) ?_;refine Zf rfl rfl ?_
    go_big_quiet_step (fail)
    refine wpQuiet_nil ?_;refine Zw ?_;have HV : Hid (IO w.heap.size v5 (.slice A11 (k + 1 + (m - k)) c11) (l.take k ++ n :: l.drop k)) := IO.of HO5.out HLL.out fy;go_wp2_with fail
    try go_ret
    refine HQQ.out _ _ ?_ HB5.out;rw [HF.out]; exact Wg HV.out hbase
 ·go_wp2_with fail
  obtain ⟨v1, hw⟩ := nE (wc.alloc (.cells #[n] 3));have HS := ba hw;have HN1 : Hid (IO w.heap.size (wc.alloc (.cells #[n] 3)) (.slice (some ⟨wc.heap.size, 0, none⟩) 1 1) [n]) := Uq w.heap.size wc [n] HBW.size ae;rw [hw] at HN1 ⊢;obtain ⟨g6, hg⟩ := nE (wc.heap.size);rw [hg] at HN1 ⊢;have HB1 := bt HBW HS;have HR1 : Hid (Rd v1 (some ⟨g6, 0, none⟩) [n]) := Xb HN1.out;clear hw hg HS;refine KT.keep (Yy HB1.out) ?_;refine Zc rfl ?_;go_wp2_with fail;obtain ⟨v2, hw⟩ := nE (v1.alloc (.cells #[] 3));have HS := ba hw;have HE2 : Hid (IO w.heap.size (v1.alloc (.cells #[] 3)) (.slice (some ⟨v1.heap.size, 0, none⟩) 0 0) []) := Uq w.heap.size v1 [] HB1.size ae;rw [hw] at HE2 ⊢;obtain ⟨g0, hg⟩ := nE (v1.heap.size);have HNE : Hid (g6 ≠ g0) := by have := (HN1.lt g6 rfl).2; rw [Hid]; omega
  rw [hg] at HE2 ⊢;have HB2 := bt HB1 HS;have HO2 : Hid (v2.ownsRow w.heap.size 3 1 (.slice (some ⟨g0, 0, none⟩) 0 0) 0 []) := HE2;have HR2 := hid (HR1.below HS.out);clear hw hg HS;refine KT.keep (Yy HB2.out) ?_;refine Zc rfl ?_;have HX := hid (HLA.below HB2.out);have hs := HB2.size;have hbi : (0 + k) * 8 ≤ 140737488355328 := aa
  go_wp2_with (at_builtin; refine Ym _ rfl _ _ 68 rfl w.heap.size 3 _ 1 8 Tryz.underlying68 Yo rfl ac _ _ _ rfl HO2.out _ _ _ (Zg (l.take k)) rfl HL1.out HX.out HA1.out HP1.out hbi ac hs ?_);intro A4 c4 v3 hown hkp hfr;have HB3 : Hid (Below w.heap.size w v3) := HB2.trans (hkp.below hs (fun j e => (HO2.lt j e).1));have HR3 : Hid (Rd v3 (some ⟨g6, 0, none⟩) [n]) := hkp.rd HR2.out (fun a e e2 => bc);have HO3 := hid hown;clear hown hkp hfr hs hbi HX;go_wp2_with fail;refine KT.keep (Yy HB3.out) ?_;refine Zc rfl ?_;have hs := HB3.size;have hbi : (k + 1) * 8 ≤ 140737488355328 := aa
  go_wp2_with (at_builtin; refine Ym _ rfl _ _ 68 rfl w.heap.size 3 _ 1 8 Tryz.underlying68 Yo rfl ac _ _ _ rfl HO3.out (some ⟨g6, 0, none⟩) 1 _ [n] rfl HL2.out HR3.out (HA2 g6).out HP2.out hbi ac hs ?_);intro A7 c7 v4 hown hkp hfr;have HB4 : Hid (Below w.heap.size w v4) := HB3.trans (hkp.below hs (fun j e => (HO3.lt j e).1));have HO4 := hid hown;clear hown hkp hfr hs hbi;go_wp2_with fail;refine KT.keep (Yy HB4.out) ?_;refine Zc rfl ?_;have HX := hid (HLB.below HB4.out);have hs := HB4.size;have hbi : (k + 1 + (m - k)) * 8 ≤ 140737488355328 := aa
  go_wp2_with (at_builtin; refine Ym _ rfl _ _ 68 rfl w.heap.size 3 _ 1 8 Tryz.underlying68 Yo rfl ac _ _ _ rfl HO4.out _ _ _ (Zg (l.drop k)) rfl HL3.out HX.out HA3.out HP3.out hbi ac hs ?_);intro A11 c11 v5 hown hkp hfr;have HB5 : Hid (Below w.heap.size w v5) := HB4.trans (hkp.below hs (fun j e => (HO4.lt j e).1));have HO5 := hid hown;clear hown hkp hfr hs hbi HX;go_wp2_with fail;refine KT.keep (Yy HB5.out) ?_;refine Zf rfl rfl ?_
  go_big_quiet_step (fail)
  refine wpQuiet_nil ?_;refine Zw ?_;have HV : Hid (IO w.heap.size v5 (.slice A11 (k + 1 + (m - k)) c11) (l.take k ++ n :: l.drop k)) := IO.of HO5.out HLL.out fy;go_wp2_with fail
  try go_ret
  refine HQQ.out _ _ ?_ HB5.out;rw [HF.out]; exact Wg HV.out hbase) : P := h
theorem Zom {P : Prop} (h : P := by
 go_upto_region 6 with fail;refine Zy w.heap.size [] (.val 1 (.val 2 (.val 3 (.val 5 (.val 8 (.val 9 (.val 10 (.two 0 (.two 4 (.op 6 (.op 7 (.op 11 (.val 12 (.nil))))) 6 (.op 4 (.op 7 (.op 11 (.val 12 (.nil)))))) 6 (.op 0 (.op 4 (.op 7 (.op 11 (.val 12 (.nil)))))))))))))) ab ab ?_;obtain ⟨wc, hwc, HBW⟩ := dw w;rw [hwc];clear hwc;have HL1 : Hid ((Zg (l.take 0)).length = 0 * 1) := by rw [Hid, Yt, List.length_take, HM.out] <;> omega
 have HL2 : Hid (([.int .i64 n] : List Value).length = 1 * 1) := rfl;have HL3 : Hid ((Zg (l.drop 0)).length = (0 - 0) * 1) := by rw [Hid, Yt, List.length_drop, HM.out] <;> omega
 have HP1 : Hid (∀ u ∈ Zg (l.take 0), u.oneCell' = true) := fun u hu => cj
 have HP2 : Hid (∀ u ∈ ([.int .i64 n] : List Value), u.oneCell' = true) := fun u hu => by rw [List.mem_singleton] at hu; subst hu; rfl
 have HP3 : Hid (∀ u ∈ Zg (l.drop 0), u.oneCell' = true) := fun u hu => cj
 have HA2 : ∀ g : Nat, Hid (some (⟨g, 0, none⟩ : Addr) = none → 1 = 0 ∧ 1 = 0) := fun g h => ck
 have HLL : Hid (0 + 1 + (0 - 0) = (l.take 0 ++ n :: l.drop 0).length) := ed
 iterate 7 (refine Zf rfl rfl ?_; go_big_quiet_step (fail); refine wpQuiet_nil ?_)
 refine Wv rfl rfl ?_ ?_
 ·go_wp2_with fail
  obtain ⟨v1, hw⟩ := nE (wc.alloc (.cells #[] 3));have HS := ba hw;have HE1 : Hid (IO w.heap.size (wc.alloc (.cells #[] 3)) (.slice (some ⟨wc.heap.size, 0, none⟩) 0 0) []) := Uq w.heap.size wc [] HBW.size ae;rw [hw] at HE1 ⊢;obtain ⟨g0, hg⟩ := nE (wc.heap.size);rw [hg] at HE1 ⊢;have HB1 := bt HBW HS;have HO1 : Hid (v1.ownsRow w.heap.size 3 1 (.slice (some ⟨g0, 0, none⟩) 0 0) 0 []) := HE1;clear hw hg HS;refine KT.keep (Yy HB1.out) ?_
  focus
   refine Wv rfl rfl ?_ ?_
   focus
    have HX := hid (HLA.below HB1.out);have hs := HB1.size;have hbi : (0 + 0) * 8 ≤ 140737488355328 := aa
    go_wp2_with (at_builtin; refine Ym _ rfl _ _ 68 rfl w.heap.size 3 _ 1 8 Tryz.underlying68 Yo rfl ac _ _ _ rfl HO1.out _ _ _ (Zg (l.take 0)) rfl HL1.out HX.out (fun _ => ⟨rfl, rfl⟩) HP1.out hbi ac hs ?_);intro A4 c4 v2 hown hkp hfr;have HB2 : Hid (Below w.heap.size w v2) := HB1.trans (hkp.below hs (fun j e => (HO1.lt j e).1));have HO2 := hid hown;clear hown hkp hfr hs hbi HX;go_wp2_with fail;refine KT.keep (Yy HB2.out) ?_;refine Zc rfl ?_;go_wp2_with fail;obtain ⟨v3, hw⟩ := nE (v2.alloc (.cells #[n] 3));have HS := ba hw;have HN3 : Hid (IO w.heap.size (v2.alloc (.cells #[n] 3)) (.slice (some ⟨v2.heap.size, 0, none⟩) 1 1) [n]) := Uq w.heap.size v2 [n] HB2.size ae;rw [hw] at HN3 ⊢;obtain ⟨g6, hg⟩ := nE (v2.heap.size);rw [hg] at HN3 ⊢;have HB3 := bt HB2 HS;have HR3 : Hid (Rd v3 (some ⟨g6, 0, none⟩) [n]) := Xb HN3.out;have HO3 := hid (Zt HO2.out HS.out);clear hw hg HS
   rotate_left 1
   focus
    go_wp2_with fail;obtain ⟨v2, hw⟩ := nE (v1.alloc (.cells #[n] 3));have HS := ba hw;have HN2 : Hid (IO w.heap.size (v1.alloc (.cells #[n] 3)) (.slice (some ⟨v1.heap.size, 0, none⟩) 1 1) [n]) := Uq w.heap.size v1 [n] HB1.size ae;rw [hw] at HN2 ⊢;obtain ⟨g6, hg⟩ := nE (v1.heap.size);have HNE : Hid (g6 ≠ g0) := by have := (HO1.lt g0 rfl).2; rw [Hid]; omega
    rw [hg] at HN2 ⊢;have HB2 := bt HB1 HS;have HR2 : Hid (Rd v2 (some ⟨g6, 0, none⟩) [n]) := Xb HN2.out;have HO2 := hid (Zt HO1.out HS.out);clear hw hg HS;refine KT.keep (Yy HB2.out) ?_;refine Zc rfl ?_;have HX := hid (HLA.below HB2.out);have hs := HB2.size;have hbi : (0 + 0) * 8 ≤ 140737488355328 := aa
    go_wp2_with (at_builtin; refine Ym _ rfl _ _ 68 rfl w.heap.size 3 _ 1 8 Tryz.underlying68 Yo rfl ac _ _ _ rfl HO2.out _ _ _ (Zg (l.take 0)) rfl HL1.out HX.out (fun _ => ⟨rfl, rfl⟩) HP1.out hbi ac hs ?_);intro A4 c4 v3 hown hkp hfr;have HB3 : Hid (Below w.heap.size w v3) := HB2.trans (hkp.below hs (fun j e => (HO2.lt j e).1));have HR3 : Hid (Rd v3 (some ⟨g6, 0, none⟩) [n]) := hkp.rd HR2.out (fun a e e2 => bc);have HO3 := hid hown;clear hown hkp hfr hs hbi HX;go_wp2_with fail
   all_goals
    refine KT.keep (Yy HB3.out) ?_;refine Zc rfl ?_;have hs := HB3.size;have hbi : (0 + 1) * 8 ≤ 140737488355328 := aa
    go_wp2_with (at_builtin; refine Ym _ rfl _ _ 68 rfl w.heap.size 3 _ 1 8 Tryz.underlying68 Yo rfl ac _ _ _ rfl HO3.out (some ⟨g6, 0, none⟩) 1 _ [n] rfl HL2.out HR3.out (HA2 g6).out HP2.out hbi ac hs ?_);intro A7 c7 v4 hown hkp hfr;have HB4 : Hid (Below w.heap.size w v4) := HB3.trans (hkp.below hs (fun j e => (HO3.lt j e).1));have HO4 := hid hown;clear hown hkp hfr hs hbi;go_wp2_with fail;refine KT.keep (Yy HB4.out) ?_;refine Zc rfl ?_;have HX := hid (HLB.below HB4.out);have hs := HB4.size;have hbi : (0 + 1 + (0 - 0)) * 8 ≤ 140737488355328 := aa
    go_wp2_with (at_builtin; refine Ym _ rfl _ _ 68 rfl w.heap.size 3 _ 1 8 Tryz.underlying68 Yo rfl ac _ _ _ rfl HO4.out _ _ _ (Zg (l.drop 0)) rfl HL3.out HX.out (fun _ => ⟨rfl, rfl⟩) HP3.out hbi ac hs ?_);intro A11 c11 v5 hown hkp hfr;have HB5 : Hid (Below w.heap.size w v5) := HB4.trans (hkp.below hs (fun j e => (HO4.lt j e).1));have HO5 := hid hown;clear hown hkp hfr hs hbi HX;go_wp2_with fail;refine KT.keep (Yy HB5.out) ?_;refine Zf rfl rfl ?_
    go_big_quiet_step (fail)
    refine wpQuiet_nil ?_;refine Zw ?_;have HV : Hid (IO w.heap.size v5 (.slice A11 (0 + 1 + (0 - 0)) c11) (l.take 0 ++ n :: l.drop 0)) := IO.of HO5.out HLL.out fy;go_wp2_with fail
    try go_ret
    refine HQQ.out _ _ ?_ HB5.out;rw [HF.out]; exact Wg HV.out hbase
 ·go_wp2_with fail
  obtain ⟨v1, hw⟩ := nE (wc.alloc (.cells #[n] 3));have HS := ba hw;have HN1 : Hid (IO w.heap.size (wc.alloc (.cells #[n] 3)) (.slice (some ⟨wc.heap.size, 0, none⟩) 1 1) [n]) := Uq w.heap.size wc [n] HBW.size ae;rw [hw] at HN1 ⊢;obtain ⟨g6, hg⟩ := nE (wc.heap.size);rw [hg] at HN1 ⊢;have HB1 := bt HBW HS;have HR1 : Hid (Rd v1 (some ⟨g6, 0, none⟩) [n]) := Xb HN1.out;clear hw hg HS;refine KT.keep (Yy HB1.out) ?_;refine Zc rfl ?_;go_wp2_with fail;obtain ⟨v2, hw⟩ := nE (v1.alloc (.cells #[] 3));have HS := ba hw;have HE2 : Hid (IO w.heap.size (v1.alloc (.cells #[] 3)) (.slice (some ⟨v1.heap.size, 0, none⟩) 0 0) []) := Uq w.heap.size v1 [] HB1.size ae;rw [hw] at HE2 ⊢;obtain ⟨g0, hg⟩ := nE (v1.heap.size);have HNE : Hid (g6 ≠ g0) := by have := (HN1.lt g6 rfl).2; rw [Hid]; omega
  rw [hg] at HE2 ⊢;have HB2 := bt HB1 HS;have HO2 : Hid (v2.ownsRow w.heap.size 3 1 (.slice (some ⟨g0, 0, none⟩) 0 0) 0 []) := HE2;have HR2 := hid (HR1.below HS.out);clear hw hg HS;refine KT.keep (Yy HB2.out) ?_;refine Zc rfl ?_;have HX := hid (HLA.below HB2.out);have hs := HB2.size;have hbi : (0 + 0) * 8 ≤ 140737488355328 := aa
  go_wp2_with (at_builtin; refine Ym _ rfl _ _ 68 rfl w.heap.size 3 _ 1 8 Tryz.underlying68 Yo rfl ac _ _ _ rfl HO2.out _ _ _ (Zg (l.take 0)) rfl HL1.out HX.out (fun _ => ⟨rfl, rfl⟩) HP1.out hbi ac hs ?_);intro A4 c4 v3 hown hkp hfr;have HB3 : Hid (Below w.heap.size w v3) := HB2.trans (hkp.below hs (fun j e => (HO2.lt j e).1));have HR3 : Hid (Rd v3 (some ⟨g6, 0, none⟩) [n]) := hkp.rd HR2.out (fun a e e2 => bc);have HO3 := hid hown;clear hown hkp hfr hs hbi HX;go_wp2_with fail;refine KT.keep (Yy HB3.out) ?_;refine Zc rfl ?_;have hs := HB3.size;have hbi : (0 + 1) * 8 ≤ 140737488355328 := aa
  go_wp2_with (at_builtin; refine Ym _ rfl _ _ 68 rfl w.heap.size 3 _ 1 8 Tryz.underlying68 Yo rfl ac _ _ _ rfl HO3.out (some ⟨g6, 0, none⟩) 1 _ [n] rfl HL2.out HR3.out (HA2 g6).out HP2.out hbi ac hs ?_);intro A7 c7 v4 hown hkp hfr;have HB4 : Hid (Below w.heap.size w v4) := HB3.trans (hkp.below hs (fun j e => (HO3.lt j e).1));have HO4 := hid hown;clear hown hkp hfr hs hbi;go_wp2_with fail;refine KT.keep (Yy HB4.out) ?_;refine Zc rfl ?_;have HX := hid (HLB.below HB4.out);have hs := HB4.size;have hbi : (0 + 1 + (0 - 0)) * 8 ≤ 140737488355328 := aa
  go_wp2_with (at_builtin; refine Ym _ rfl _ _ 68 rfl w.heap.size 3 _ 1 8 Tryz.underlying68 Yo rfl ac _ _ _ rfl HO4.out _ _ _ (Zg (l.drop 0)) rfl HL3.out HX.out (fun _ => ⟨rfl, rfl⟩) HP3.out hbi ac hs ?_);intro A11 c11 v5 hown hkp hfr;have HB5 : Hid (Below w.heap.size w v5) := HB4.trans (hkp.below hs (fun j e => (HO4.lt j e).1));have HO5 := hid hown;clear hown hkp hfr hs hbi HX;go_wp2_with fail;refine KT.keep (Yy HB5.out) ?_;refine Zf rfl rfl ?_
  go_big_quiet_step (fail)
  refine wpQuiet_nil ?_;refine Zw ?_;have HV : Hid (IO w.heap.size v5 (.slice A11 (0 + 1 + (0 - 0)) c11) (l.take 0 ++ n :: l.drop 0)) := IO.of HO5.out HLL.out fy;go_wp2_with fail
  try go_ret
  refine HQQ.out _ _ ?_ HB5.out;rw [HF.out]; exact Wg HV.out hbase) : P := h
theorem Zlt {w : World} {A : Option Addr} {l : List Int} (h : Rd w A (Zg l)) (k : Nat) : Rd w A (Zg (l.take k)) := by
 rcases h with h | ⟨b, off, hA, hlt, hc⟩
 ·left; rw [Zg, List.map_take, show l.map (Value.int .i64) = [] from h]; simp
 ·refine .inr ⟨b, off, hA, hlt, fun j u hj => hc j u ?_⟩
  rw [Zg, List.map_take] at hj;by_cases hjk : j < k
  ·rwa [List.getElem?_take_of_lt hjk] at hj
  ·rw [List.getElem?_take_eq_none aa] at hj; cases hj
theorem Zqc {w : World} {b off : Nat} {l : List Int} (h : Rd w (some ⟨b, off, none⟩) (Zg l)) (k : Nat) : Rd w (some ⟨b, off + k, none⟩) (Zg (l.drop k)) := by
 rcases h with h | ⟨b', off', hA, hlt, hc⟩
 ·left; rw [Zg, List.map_drop, show l.map (Value.int .i64) = [] from h]; simp
 ·injection hA with hA
  injection hA with h1 h2
  subst h1; subst h2;refine .inr ⟨b, off + k, rfl, hlt, fun j u hj => ?_⟩;rw [Zg, List.map_drop, List.getElem?_drop] at hj;rw [Nat.add_assoc]; exact hc (k + j) u hj
theorem J82{P:Prop}(h:P:=by
 have hd0 : decide (n < 0) = true := decide_eq_true hn0;have HF : Hid (Xg l n = l) := by rw [Hid, Xg, if_pos hn0]
 exact Zfi):P:=h
theorem Zec {base : Nat} {w : World} {v : Value} {l : List Int} (n : Int) (hv : IO base w v l) (hl : l.length ≤ 1000) (hbase : base ≤ w.heap.size) :
  Calls Tryz.prog 76 #[v, n] w fun e w' => ∃ v', e = .returned v' ∧ IO base w' v' (Xg l n) ∧ Below w.heap.size w w' := by
 have HV0 := hid hv;obtain ⟨A, c, rfl, hrd⟩ := Wk hv;have HRD := hid hrd
 have HNA : Hid (A = none → l.length = 0 ∧ c = 0) := fun h => by
  rcases hv.2 with ⟨e, h0⟩ | ⟨g, cap, cur, e, _⟩
  ·injection e with _ _ e; exact ⟨h0, e⟩
  ·injection e with e; rw [h] at e; cases e
 have HCAP : Hid (l.length ≤ c) := by
  rcases hv.2 with ⟨e, h0⟩ | ⟨g, cap, cur, e, _, _, h1, _⟩
  ·show l.length ≤ c; omega
  ·injection e with _ _ e; subst e; exact h1
 obtain ⟨m, hm⟩ := nE (l.length);have HM := hid hm;rw [hm] at HNA hl HCAP;have HQ0 : Hid (∀ v' W, IO base W v' (Xg l n) → Below w.heap.size w W → (∃ v'', (Ending.returned v') = .returned v'' ∧ IO base W v'' (Xg l n) ∧ Below w.heap.size w W)) := fun v' W h1 h2 => ⟨v', rfl, h1, h2⟩;obtain ⟨Q, hQ⟩ : ∃ Q : Ending → World → Prop, (fun e w' => ∃ v', e = .returned v' ∧ IO base w' v' (Xg l n) ∧ Below w.heap.size w w') = Q := ⟨_, rfl⟩;have HQQ : Hid (∀ v' W, IO base W v' (Xg l n) → Below w.heap.size w W → Q (.returned v') W) := fun v' W h1 h2 => by rw [← hQ]; exact ⟨v', rfl, h1, h2⟩
 rw [hQ, hm];clear hQ hm hv hrd HQ0;have hcap : m ≤ c := HCAP.out;go_enter Tryz.func76, Tryz.ntmps76;go_wp2_with fail
 go_loopw [5] (fun iv wr => ∃ k : Nat, k ≤ m ∧ iv = .int .i64 (k : Int) ∧ (∀ j, (h : j < l.length) → j < k → l[j] < n) ∧ w = wr) (fun iv _ => m - (intOf iv).toNat)
 case atStart => exact ⟨0, aa, rfl, fun j _ h => aa, rfl⟩
 case round =>
  obtain ⟨k, hk, rfl, hlo, rfl⟩ := hrel;have HLO := hid hlo;clear hlo;have hk64 : k ≤ 1000 := aa
  by_cases hlt : k < m
  ·have HI : Hid (k < l.length) := by rw [Hid, HM.out]; exact hlt
   obtain ⟨b, off, rfl, hbl, hc⟩ := HRD.at (by rw [Yt, HM.out]; omega);have hck : w.cell? ⟨b, off + k, none⟩ = some (.int .i64 (l[k]'HI.out)) := hc k _ (Uj l k HI.out);have HAD := hid (fun h => Zl6 l n k (by rw [HM.out]; exact hk) HLO.out h);have HGK : Hid (l[k]? = some (l[k]'HI.out)) := List.getElem?_eq_getElem HI.out
   have HS : Hid (∀ j, (h : j < l.length) → j < k + 1 → l[k]'HI.out < n → l[j] < n) := fun j h hj hx => by
    by_cases e : j = k
    ·subst e; exact hx
    ·exact HLO.out j h aa
   obtain ⟨x, hx⟩ := nE (l[k]'HI.out);rw [hx] at hck HGK HS;have HX := hid hx;clear hc hx;by_cases hxn : x < n
   ·have hd : decide (x < n) = true := decide_eq_true hxn
    have HS1 := hid (fun j h hj => HS.out j h hj hxn);go_wp2_with fail;go_roundw
    case rel => exact ⟨k + 1, aa, al, HS1.out, trivial⟩
    case measure => simp [intOf]; omega
   have hd : decide (x < n) = false := decide_eq_false hxn;have HAD : Hid (Zad l n = if l[k]? = some n then l else l.take k ++ n :: l.drop k) := HAD.out (fun h => by rw [HX.out]; exact hxn);rw [HGK.out] at HAD;by_cases hn0 : n < 0
   ·exact J82
   have hd0 : decide (n < 0) = false := decide_eq_false hn0;by_cases hxe : x = n
   ·have hxe2 := bT hxe
    have HF : Hid (Xg l n = l) := by rw [Hid, Xg, if_neg hn0, HAD.out, if_pos (by rw [hxe])]
    clear hxe;exact Zfi
   have hxe2 := bF hxe;have HF : Hid (Xg l n = l.take k ++ n :: l.drop k) := by rw [Hid, Xg, if_neg hn0, HAD.out, if_neg (fun h => hxe (by injection h))]
   have HLA : Hid (Rd w (some ⟨b, off, none⟩) (Zg (l.take k))) := Zlt HRD.out k;have HLB : Hid (Rd w (some ⟨b, off + k, none⟩) (Zg (l.drop k))) := Zqc HRD.out k;have HA1 : Hid (some (⟨b, off, none⟩ : Addr) = none → k = 0 ∧ c = 0) := fun h => ck
   have HA3 : Hid (some (⟨b, off + k, none⟩ : Addr) = none → m - k = 0 ∧ c - k = 0) := fun h => ck
   clear hxe HNA HGK HS HAD HX hbl;exact Zca
  ·have HKM : Hid (k = m) := by rw [Hid]; omega
   have HAD := hid (Zl6 l n k (by rw [HM.out]; exact hk) HLO.out (fun h => by have := HM.out; omega));have hnone : l[k]? = none := List.getElem?_eq_none du;rw [hnone] at HAD;by_cases hn0 : n < 0
   ·exact J82
   have hd0 : decide (n < 0) = false := decide_eq_false hn0;have HF : Hid (Xg l n = l.take k ++ n :: l.drop k) := by rw [Hid, Xg, if_neg hn0, HAD.out, if_neg (fun h => ck)]
   have HDR : Hid (Zg (l.drop k) = []) := by rw [Hid, List.drop_of_length_le du]; rfl
   rcases HV0.2 with ⟨e, h0⟩ | ⟨g, cap, cur, e, _⟩
   ·injection e with e1 e2 e3
    have hm0 : m = 0 := by rw [← HM.out]; exact h0
    have hk0 : k = 0 := aa
    subst e1; subst e3; subst hk0; subst hm0;have HLA : Hid (Rd w none (Zg (l.take 0))) := .inl rfl;have HLB : Hid (Rd w none (Zg (l.drop 0))) := .inl HDR.out;have HA1 : Hid ((none : Option Addr) = none → 0 = 0 ∧ 0 = 0) := fun _ => ⟨rfl, rfl⟩;have HA3 : Hid ((none : Option Addr) = none → 0 - 0 = 0 ∧ 0 - 0 = 0) := fun _ => ⟨rfl, rfl⟩;clear HNA HAD hnone hn0 HDR h0 HLO HKM;exact Zom
   ·injection e with e1 _ e3
    subst e1; subst e3;have HLA : Hid (Rd w (some ⟨g, 0, none⟩) (Zg (l.take k))) := Zlt HRD.out k;have HA1 : Hid (some (⟨g, 0, none⟩ : Addr) = none → k = 0 ∧ c = 0) := fun h => ck
    by_cases hkc : k < c
    ·have HLB : Hid (Rd w (some ⟨g, k, none⟩) (Zg (l.drop k))) := .inl HDR.out
     have HA3 : Hid (some (⟨g, k, none⟩ : Addr) = none → m - k = 0 ∧ c - k = 0) := fun h => ck
     clear HNA HAD hnone hn0 HDR HLO HKM;exact Zca
    ·have HLB : Hid (Rd w (some ⟨g, 0, none⟩) (Zg (l.drop k))) := .inl HDR.out
     have HA3 : Hid (some (⟨g, 0, none⟩ : Addr) = none → m - k = 0 ∧ c - k = 0) := fun h => ck
     clear HNA HAD hnone hn0 HDR HLO HKM;exact Zca
theorem Zo2 (l : List Int) (n : Int) : (Zad l n).length ≤ l.length + 1 := by
 induction l with
 | nil => simp [Zad]
 | cons x l ih =>
  unfold Zad;split
  ·simp; omega
  ·split <;> simp
theorem Gh (l : List Int) (n : Int) : (Xg l n).length ≤ l.length + 1 := by
 unfold Xg; split
 ·omega
 ·exact Zo2 l n
theorem Zo3 (l : List Int) : ∀ a : List Int, (l.foldl Xg a).length ≤ a.length + l.length := by
 induction l with
 | nil => intro a; simp
 | cons x l ih => intro a; have := ih (Xg a x); have := Gh a x; simp only [List.foldl_cons, List.length_cons]; omega
structure Zbd (p : Zv) (A : Option Addr) (w : World) : Prop where
 ops : Vj w A p.ops
 ok : Uz p
 pat : ∀ o ∈ p.ops, ∀ a ∈ o.arms, a.pat.size ≤ 1000000
 few : ∀ o ∈ p.ops, o.arms.length ≤ 900
 n : p.ops.length ≤ 900
section
variable {p : Zv} {A : Option Addr} {c : Nat} {w : World}
theorem Zbd.below {w' : World} (h : Zbd p A w) (hb : Below w.heap.size w w') : Zbd p A w' := ⟨h.ops.below hb, h.ok, h.pat, h.few, h.n⟩
theorem Zbd.good (h : Zbd p A w) : Calls Tryz.prog 72 #[p.val (.slice A p.ops.length c)] w fun e w' => e = .returned (.bool (Wl p)) ∧ Below w.heap.size w w' := Zmr p A c w h.ops h.ok h.pat
theorem Zm3 (p : Zv) (k : Nat) (hk : k < p.ops.length) (hg : Wl p = true) : Nq p k = (Zf2 k p.ops[k]).foldl Xg [] := by
 have h1 := Zri (Yr.1 hg) (k : Int) aa (by rw [Int.toNat_natCast]; exact hk);simp only [Int.toNat_natCast] at h1;rw [Nq, if_pos hg, h1]
theorem Zq6 {P : Prop} (h : P := by
 go_wp2_with fail
 try go_ret
 rw [HF.out]; exact ⟨_, rfl, HV2.out, HB2.out⟩) : P := h
theorem Zie (a : Int) (h : Zbd p A w) :
  Calls Tryz.prog 34 #[p.val (.slice A p.ops.length c), a] w fun e w' => ∃ v, e = .returned v ∧ IO w.heap.size w' v (Nq p a) ∧ Below w.heap.size w w' := by
 have CG : Hid (∀ W, Below w.heap.size w W → Calls Tryz.prog 72 #[p.val (.slice A p.ops.length c)] W fun e w' => e = .returned (.bool (Wl p)) ∧ Below W.heap.size W w') := fun W hb => (h.below hb).good;have CA : Hid (∀ (W : World) (v : Value) (l : List Int) (n : Int), IO w.heap.size W v l → l.length ≤ 1000 → w.heap.size ≤ W.heap.size → Calls Tryz.prog 76 #[v, n] W fun e w' => ∃ v', e = .returned v' ∧ IO w.heap.size w' v' (Xg l n) ∧ Below W.heap.size W w') := fun W v l n h1 h2 h3 => Zec n h1 h2 h3;have H0 : Hid (Wl p = false → Nq p a = []) := fun h => by unfold Nq; rw [h]; rfl
 have H1 : Hid (a < 0 ∨ (p.ops.length : Int) ≤ a → Nq p a = []) := fun h => by
  unfold Nq; split
  ·exact Zn4 p.ops a h
  ·rfl
 have H2 : Hid (Wl p = true → ∀ k : Nat, a = (k : Int) → (hk : k < p.ops.length) → Nq p a = (Zf2 k p.ops[k]).foldl Xg []) := fun hg k e hk => by rw [e]; exact Zm3 p k hk hg
 have HIN := hid h;have hn9 := h.n;obtain ⟨R, hR⟩ := nE (Nq p a);obtain ⟨g, hg⟩ := nE (Wl p);rw [hR, hg] at H0 H2;rw [hR] at H1 ⊢;rw [hg] at CG;clear hR hg h;obtain ⟨nm, dl, jp, ops⟩ := p;unfold Zv.val at CG ⊢;simp only at CG H1 H2 hn9 ⊢;obtain ⟨n, hn⟩ := nE (ops.length);have HN := hid hn;rw [hn] at CG H1 hn9 ⊢;clear hn;go_enter Tryz.func34, Tryz.ntmps34;go_upto_region 2 with fail;have hv0 := Uq w.heap.size (w.alloc (.cells #[nm, dl, jp, .slice A n c] 26)) [] ae ae;obtain ⟨w0, hw0⟩ := nE ((w.alloc (.cells #[nm, dl, jp, .slice A n c] 26)).alloc (.cells #[] 3));have HB : Hid (Below w.heap.size w w0) := hw0 ▸ Va _ _ _;have HP : Hid (Blk w0 w.heap.size 26 #[nm, dl, jp, .slice A n c]) := hw0 ▸ (Blk.new _ _ _).alloc _
 have HV : Hid (IO w.heap.size w0 (.slice (some ⟨w.heap.size + 1, 0, none⟩) 0 0) []) := by
  rw [Hid, ← hw0];have e : (w.alloc (.cells #[nm, dl, jp, .slice A n c] 26)).heap.size = w.heap.size + 1 := ae
  rw [e] at hv0; exact hv0
 rw [hw0];obtain ⟨gp, hgp⟩ := nE (w.heap.size);have HGP := hid hgp;obtain ⟨g1, hg1⟩ := nE (gp + 1);rw [hgp] at HP;have HV : Hid (IO w.heap.size w0 (.slice (some ⟨g1, 0, none⟩) 0 0) []) := by rw [← hg1, ← hgp]; exact HV.out
 rw [hgp, hg1];clear hw0 hgp hg1 hv0;have C1 := hid (CG.out w0 HB.out);obtain ⟨q0, q1, q2, q3⟩ := Xw HP.out;have ql := HP.lt;go_wp2_with fail;refine C1.mono ?_;rintro en w2 ⟨rfl, hb⟩;have HB2 := bt HB hb;have HP2 := bb HP hb;have HV2 := hid (Zt HV.out hb);clear hb C1 q0 q1 q2 q3 ql HP HB CG HV;cases g
 ·have HF : Hid (R = []) := H0.out bq
  clear H0 H1 H2;exact Zq6
 by_cases h0 : a < 0
 ·have HF : Hid (R = []) := H1.out (.inl h0)
  clear H0 H1 H2;exact Zq6
 obtain ⟨q0, q1, q2, q3⟩ := Xw HP2.out;have ql := HP2.lt;by_cases h1 : (n : Int) ≤ a
 ·have HF : Hid (R = []) := H1.out (.inr h1)
  clear H0 H1 H2;exact Zq6
 obtain ⟨k, rfl⟩ : ∃ k : Nat, a = (k : Int) := ⟨a.toNat, aa⟩;have hk : k < n := aa
 have HK : Hid (k < ops.length) := by rw [HN.out]; exact hk
 have HE : Hid (R = (Zf2 k (ops[k]'HK.out)).foldl Xg []) := H2.out bq k rfl HK.out;have HAL := hid (HIN.few _ (List.getElem_mem HK.out));obtain ⟨b, off, v, rfl, hbl, hv, d0, d1, d2, d3, d4, d5, d6⟩ := (HIN.below HB2.out).ops.at k HK.out;obtain ⟨o, ho⟩ := nE (ops[k]'HK.out);rw [ho] at d0 d1 d2 d3 d5 d6 hv HE HAL;obtain ⟨ok, ot, on, ott, oar, oT, oE⟩ := o;obtain ⟨A1, c1, rfl, hrd⟩ := hv;simp only at d0 d1 d2 d3 d4 d5 d6 hrd HAL;obtain ⟨m, hm⟩ := nE (oar.length);have HM := hid hm; have HRD := hid hrd;rw [hm] at d4 HAL;have hml : m ≤ 900 := HAL.out;have HTL : Hid ((oar.map Xu.tt).length = m) := by rw [Hid, List.length_map]; exact hm
 clear H0 H1 H2 HAL ho hm hrd h0;have hdk : decide (n ≤ k) = false := decide_eq_false aa;have hdk2 : decide ((k : Int) < 0) = false := decide_eq_false aa;go_upto_region 5 with fail;obtain ⟨w3, hw3⟩ := nE (w2.alloc (.cells #[ok, ot, on, ott, .slice A1 m c1, oT, oE] 56));have HB23 := ba hw3;have HO := bn hw3;have HB3 := bt HB2 HB23;have HV3 := hid (Zt HV2.out HB23.out);have HRD3 := hid (HRD.below HB23.out);rw [hw3];obtain ⟨go, hgo⟩ := nE (w2.heap.size);rw [hgo] at HO ⊢;clear hw3 hgo d0 d1 d2 d3 d4 d5 d6 q0 q1 q2 q3 ql hbl HRD;obtain ⟨o0, o1, o2, o3, o4, o5, o6⟩ := Vf HO.out;have hol := HO.lt;have hi1 : (k : Int) + 1 ≤ 1000 := aa
 have hs3 := HB3.size;rcases (show ok = 1 ∨ ok = 4 ∨ ok = 3 ∨ ok = 2 ∨ (ok ≠ 1 ∧ ok ≠ 4 ∧ ok ≠ 3 ∧ ok ≠ 2) by omega) with rfl | rfl | rfl | rfl | ⟨k1, k4, k3, k2⟩
 case' inl | inr.inl =>
  have HEE : Hid (R = (oar.map Xu.tt).foldl Xg (Xg [] ((k : Int) + 1))) := by rw [Hid, HE.out]; simp [Zf2]
  have HLL : Hid ((Xg [] ((k : Int) + 1)).length ≤ 2) := Nat.le_trans (Gh _ _) ae;have CQ := hid (CA.out w3 _ [] ((k : Int) + 1) HV3.out ae hs3);go_wp2_with fail;refine CQ.mono ?_;rintro en w4 ⟨v4, rfl, hv4, hb4⟩;have HV4 := hid hv4; have HB34 := hid hb4;obtain ⟨L0, hL0⟩ := nE (Xg [] ((k : Int) + 1));rw [hL0] at HEE HLL HV4;clear hv4 hb4 CQ hL0 o0 o1 o2 o3 o4 o5 o6 hol HE HV3;have HO4 := bb HO HB34;obtain ⟨o0, o1, o2, o3, o4, o5, o6⟩ := Vf HO4.out;have hol := HO4.lt;go_wp2_with fail
 case' inr.inr.inl =>
  have HEE : Hid (R = (oar.map Xu.tt).foldl Xg (Xg [] ott)) := by rw [Hid, HE.out]; simp [Zf2]
  have HLL : Hid ((Xg [] ott).length ≤ 2) := Nat.le_trans (Gh _ _) ae;have CQ := hid (CA.out w3 _ [] ott HV3.out ae hs3);go_wp2_with fail;refine CQ.mono ?_;rintro en w4 ⟨v4, rfl, hv4, hb4⟩;have HV4 := hid hv4; have HB34 := hid hb4;obtain ⟨L0, hL0⟩ := nE (Xg [] ott);rw [hL0] at HEE HLL HV4;clear hv4 hb4 CQ hL0 o0 o1 o2 o3 o4 o5 o6 hol HE HV3;have HO4 := bb HO HB34;obtain ⟨o0, o1, o2, o3, o4, o5, o6⟩ := Vf HO4.out;have hol := HO4.lt;go_wp2_with fail
 case' inr.inr.inr.inl =>
  have HEE : Hid (R = (oar.map Xu.tt).foldl Xg (Xg (Xg [] oT) oE)) := by rw [Hid, HE.out]; simp [Zf2]
  have HLL : Hid ((Xg (Xg [] oT) oE).length ≤ 2) := Nat.le_trans (Gh _ _) (by have := Gh [] oT; simp at this; omega);have HL1 : Hid ((Xg [] oT).length ≤ 1000) := Nat.le_trans (Gh _ _) ae;have T5 : ∀ q : BW w3.heap.size w3, q.1.cell? ⟨go, 5, none⟩ = some (.int .i64 oT) := fun q => q.cellAt hol (HO.cell 5);have T6 : ∀ q : BW w3.heap.size w3, q.1.cell? ⟨go, 6, none⟩ = some (.int .i64 oE) := fun q => q.cellAt hol (HO.cell 6);go_upto_region 10 with fail;refine Zy w3.heap.size [] (.val 0 (.val 1 (.val 2 (.val 4 (.val 5 (.op 3 (.op 6 (.val 7 (.nil))))))))) ab ab ?_;obtain ⟨wc, hwc, HBW⟩ := dw w3;rw [hwc];clear hwc
  iterate 5 ((first | refine Zf rfl rfl ?_ | refine Yf rfl rfl (Yy HBW.out) ?_); go_big_quiet_step (fail); refine wpQuiet_nil ?_)
  clear T5 T6;have CQ := hid (CA.out wc _ [] oT (Zt HV3.out HBW.out) ae (Nat.le_trans hs3 HBW.size));refine Zc rfl ?_;go_wp2_with fail;refine CQ.mono ?_;rintro en we ⟨ve, rfl, hve, hbe⟩;have HBE : Hid (Below w3.heap.size w3 we) := HBW.trans (hbe.mono HBW.size);have CQ2 := hid (CA.out we _ (Xg [] oT) oE hve HL1.out (Nat.le_trans hs3 HBE.size));clear hve hbe CQ;go_wp2_with fail;refine KT.keep (Yy HBE.out) ?_;refine Zc rfl ?_;go_wp2_with fail;refine CQ2.mono ?_;rintro en w4 ⟨v4, rfl, hv4, hb4⟩;have HV4 := hid hv4;have HB34 : Hid (Below w3.heap.size w3 w4) := HBE.trans (hb4.mono HBE.size);clear hv4 hb4 CQ2;go_wp2_with fail;refine KT.keep (Yy HB34.out) ?_;refine Zf rfl rfl ?_
  go_big_quiet_step (fail)
  refine wpQuiet_nil ?_;refine Zw ?_;obtain ⟨L0, hL0⟩ := nE (Xg (Xg [] oT) oE);rw [hL0] at HEE HLL HV4;clear hL0 o0 o1 o2 o3 o4 o5 o6 hol HE HV3;have HO4 := bb HO HB34;obtain ⟨o0, o1, o2, o3, o4, o5, o6⟩ := Vf HO4.out;have hol := HO4.lt;go_wp2_with fail
 case' inr.inr.inr.inr =>
  have HEE : Hid (R = (oar.map Xu.tt).foldl Xg []) := by rw [Hid, HE.out]; simp [Zf2, k1, k2, k3, k4]
  have HLL : Hid (([] : List Int).length ≤ 2) := by simp [Hid]
  have e1 : ((ok : Int) == 1) = false := gw
  have e4 : ((ok : Int) == 4) = false := gt
  have e3 : ((ok : Int) == 3) = false := gu
  have e2 : ((ok : Int) == 2) = false := gv
  have HV4 := HV3;have HB34 : Hid (Below w3.heap.size w3 w3) := Below.refl _ _;have HO4 := HO;obtain ⟨L0, hL0⟩ : ∃ L : List Int, [] = L := ⟨_, rfl⟩;have HV4 : Hid (IO w.heap.size w3 (.slice (some ⟨g1, 0, none⟩) 0 0) L0) := hL0 ▸ HV3.out;rw [hL0] at HEE HLL;clear k1 k2 k3 k4 HE HV3 hL0;go_wp2_with fail
 all_goals
  have HB4 := bt HB3 HB34;have HRD4 := hid (HRD3.below HB34.out)
  go_loopw [7, 5] (fun iv ov wr => ∃ (i : Nat) (z : Int), i ≤ m ∧ iv = .int .i64 (i : Int) ∧ IO w.heap.size wr ov (((oar.map Xu.tt).take i).foldl Xg L0) ∧ Rd wr A1 (Zu oar) ∧ Below w.heap.size w wr ∧ Blk wr go 56 #[z, ot, on, ott, .slice A1 m c1, oT, oE]) (fun iv _ _ => m - (intOf iv).toNat)
  case atStart => exact ⟨0, _, aa, rfl, HV4.out, HRD4.out, HB4.out, HO4.out⟩
  case round =>
   obtain ⟨i, z, hi, rfl, hv, hrd, hb, ho⟩ := hrel;clear o0 o1 o2 o3 o4 o5 o6 hol;have HV5 := hid hv; have HRD5 := hid hrd; have HB5 := hid hb; have HO5 := hid ho;have hs5 := hb.size;obtain ⟨l, hl⟩ := nE (((oar.map Xu.tt).take i).foldl Xg L0);have HL5 := hid hl
   have HLE : Hid (l.length ≤ 1000) := by
    have h1 := Zo3 ((oar.map Xu.tt).take i) L0;have h2 := HLL.out;rw [hl, List.length_take, HTL.out] at h1;rw [Hid]; omega
   rw [hl] at HV5;clear hv hrd hb ho hl HV4 HRD4 HB4 HO4 HB34 HB3 HRD3 HO;obtain ⟨o0, o1, o2, o3, o4, o5, o6⟩ := Vf HO5.out;have hol := HO5.lt;by_cases hlt : i < m
   ·have HI : Hid (i < oar.length) := by rw [Hid, HM.out]; exact hlt
    obtain ⟨b1, f1, rfl, hbl1, hc1⟩ := HRD5.at fk;obtain ⟨p0, p1⟩ := Nt hc1 i HI.out
    have HTK : Hid (((oar.map Xu.tt).take (i + 1)).foldl Xg L0 = Xg l (oar[i]'HI.out).tt) := by
     rw [Hid, List.take_succ_eq_append_getElem (by rw [HTL.out]; exact hlt), List.foldl_append, HL5.out, List.getElem_map]; rfl
    obtain ⟨⟨pa, ta⟩, hxa⟩ : ∃ x, oar[i]'HI.out = x := ⟨_, rfl⟩;rw [hxa] at p0 p1 HTK;simp only at p0 p1 HTK;clear hxa hc1;have CQ := hid (CA.out wr _ l ta HV5.out HLE.out hs5);go_wp2_with fail;refine CQ.mono ?_;rintro en w6 ⟨v6, rfl, hv6, hb6⟩;have HV6 := hid hv6;have HB6 : Hid (Below w.heap.size w w6) := HB5.trans (hb6.mono hs5);have HO6 := bb HO5 hb6;have HRD6 := hid (HRD5.below hb6);clear hv6 hb6 CQ;go_wp2_with fail;go_roundw
    case rel => exact ⟨i + 1, z, aa, al, by rw [HTK.out]; exact HV6.out, HRD6.out, HB6.out, HO6.out⟩
    case measure => simp [intOf]; omega
   ·have HF : Hid (R = l) := by rw [Hid, HEE.out, ← HL5.out, List.take_of_length_le (by rw [HTL.out]; omega)]
    go_wp2_with fail
    try go_ret
    rw [HF.out]; exact ⟨_, rfl, HV5.out, HB5.out⟩
end
end Go.Proofs.YtpkkfdmhbbipoaaGreat
