/- Walks: package flow: Next, Reach, Loops. Walks: package flow: Loops. -/
import Derived.Test.YtpkkfdmhbbipoaaGreatFb
import Derived.Test.YtpkkfdmhbbipoaaGreatMh
namespace Go.Proofs.YtpkkfdmhbbipoaaGreat
open Go.RowKit PopT
def goodB (p : ProgV) : Bool := decide ((wrongM p).2 = 0)
theorem goodB_iff {p : ProgV} : goodB p = true ↔ Goodp p := decide_eq_true_iff
def nextL (p : ProgV) (a : Int) : List Int := if goodB p = true then nxM p.ops a else []
def fromL (p : ProgV) (S : List Int) : List Int := fromM (nxM p.ops) (p.ops.length + 1) S
def reachL (p : ProgV) : List Int := if goodB p = true then fromL p [0] else []
def loopsB (p : ProgV) : Bool := (reachL p).any fun x => (fromL p (nxM p.ops x)).contains x
theorem fromL_iff {p : ProgV} (h : Goodp p) (S : List Int) (hS : Asc S) (hi : ∀ x ∈ S, 0 ≤ x ∧ x ≤ p.ops.length) : Asc (fromL p S) ∧ ∀ x, x ∈ fromL p S ↔ FlowTo (nxM p.ops) S x := fromM_iff (nx_in h) S hS hi
theorem trues_from {p : ProgV} (h : Goodp p) {S : List Int} {s : List Bool} (hS : Asc S) (hi : ∀ x ∈ S, 0 ≤ x ∧ x ≤ p.ops.length) (hs : ∀ x, at_ s x ↔ FlowTo (nxM p.ops) S x) : trues s = fromL p S := by
 have hf := fromL_iff h S hS hi
 exact asc_ext (asc_trues s) hf.1 fun x => by rw [mem_trues, hs, hf.2]
def truesTo (s : List Bool) (i : Nat) : List Int := ((List.range i).filter fun k => s.getD k false).map fun (k : Nat) => (k : Int)
theorem truesTo_succ (s : List Bool) (i : Nat) (h : i < s.length) : truesTo s (i + 1) = truesTo s i ++ if s[i] = true then [(i : Int)] else [] := by
 unfold truesTo
 rw [List.range_succ, List.filter_append, List.map_append]
 congr 1
 have e : s.getD i false = s[i] := by rw [List.getD_eq_getElem?_getD, List.getElem?_eq_getElem h]; rfl
 simp only [List.filter_cons, e, List.filter_nil]
 split <;> simp
theorem truesTo_length (s : List Bool) (i : Nat) : (truesTo s i).length ≤ i := by
 unfold truesTo
 rw [List.length_map]
 exact Nat.le_trans (List.length_filter_le _ _) (by simp)
theorem io_new (base : Nat) (w : World) (l : List Int) (hb : base ≤ w.heap.size) (hl : l.length ≤ 1000) : IO base (w.alloc (.cells (intCells l).toArray 3)) (.slice (some ⟨w.heap.size, 0, none⟩) l.length l.length) l :=
 ⟨by rw [intCells_length, Nat.mul_one], .inr ⟨w.heap.size, l.length, (intCells l).toArray, rfl, hb, heap_alloc_new w _, Nat.le_refl _, by unfold maxLen; omega, by simp [intCells], by rw [Nat.mul_one, List.take_of_length_le (by simp [intCells])]⟩⟩
section
variable (p : ProgV) (A : Option Addr) (c : Nat) (w : World)
structure ScriptIn : Prop where
 ops : OpsIn w A p.ops
 n : p.ops.length ≤ 9223372036854775807
 nm : p.name.size ≤ 9223372036854775807
 arms : ∀ o ∈ p.ops, o.arms.length ≤ 9223372036854775807
variable {p A c w}
theorem ScriptIn.below {w' : World} (h : ScriptIn p A w) (hb : Below w.heap.size w w') : ScriptIn p A w' := ⟨h.ops.below hb, h.n, h.nm, h.arms⟩
theorem ScriptIn.good (h : ScriptIn p A w) : Calls Tryz.prog 74 #[p.val (.slice A p.ops.length c)] w fun e w' => e = .returned (.bool (goodB p)) ∧ Below w.heap.size w w' := progGood_any p A c w h.ops h.n h.nm h.arms
set_option maxRecDepth 20000 in
set_option maxHeartbeats 4000000 in
theorem fReach_any (h : ScriptIn p A w) :
  Calls Tryz.prog 35 #[p.val (.slice A p.ops.length c)] w fun e w' => ∃ v, e = .returned v ∧ IO w.heap.size w' v (reachL p) ∧ Below w.heap.size w w' := by
 have CG : Hid (∀ W, Below w.heap.size w W → Calls Tryz.prog 74 #[p.val (.slice A p.ops.length c)] W fun e w' => e = .returned (.bool (goodB p)) ∧ Below W.heap.size W w') := fun W hb => (h.below hb).good
 have CW : Hid (goodB p = true → ∀ W v, Below w.heap.size w W → IO w.heap.size W v [0] → Calls Tryz.prog 77 #[p.val (.slice A p.ops.length c), v] W fun e w' => ∃ (s : List Bool) (g c : Nat), e = .returned (.slice (some ⟨g, 0, none⟩) (p.ops.length + 1) c) ∧ w'.ownsRow w.heap.size 4 1 (.slice (some ⟨g, 0, none⟩) (p.ops.length + 1) c) (p.ops.length + 1) (boolCells s) ∧ s.length = p.ops.length + 1 ∧ truesTo s (p.ops.length + 1) = reachL p ∧ Below w.heap.size w w') := fun hg W v hb hv =>
  (fwalk_any p A c [0] v w.heap.size W (fun W' hW => h.ops.below (hb.trans hW)) (goodB_iff.1 hg) hv (fun x hx => by rw [List.mem_singleton] at hx; omega) (by simp) hb.size).mono fun e w' ⟨s, g, c', h1, h2, h3, h4, h5⟩ =>
   ⟨s, g, c', h1, own_base h2 hb.size, h3, by rw [← h3, show truesTo s s.length = trues s from rfl, reachL, if_pos hg]; exact trues_from (goodB_iff.1 hg) (by simp [Asc]) (fun x hx => by rw [List.mem_singleton] at hx; omega) h4, hb.trans h5⟩
 have HN2 : Hid (goodB p = true → p.ops.length ≤ 200) := fun hg => (good_ops (goodB_iff.1 hg)).2.1
 have HE : Hid (goodB p = false → reachL p = []) := fun h => by rw [reachL, h]; rfl
 obtain ⟨R, hR⟩ : ∃ R, reachL p = R := ⟨_, rfl⟩
 obtain ⟨g, hg⟩ : ∃ R, goodB p = R := ⟨_, rfl⟩
 rw [hR, hg] at HE
 rw [hg] at CG CW HN2
 rw [hR] at CW ⊢
 clear hR hg h
 obtain ⟨nm, dl, jp, ops⟩ := p
 unfold ProgV.val at CW CG ⊢
 simp only at CW CG HN2 ⊢
 obtain ⟨n, hn⟩ : ∃ n, ops.length = n := ⟨_, rfl⟩
 rw [hn] at CW CG HN2 ⊢
 clear hn
 go_enter Tryz.func35, Tryz.ntmps35
 go_upto_region 1 with fail
 obtain ⟨w0, hw0⟩ : ∃ W, w.alloc (.cells #[.string nm, .int .i64 dl, .int .i64 jp, .slice A n c] 26) = W := ⟨_, rfl⟩
 have HP : Hid (Blk w0 w.heap.size 26 #[.string nm, .int .i64 dl, .int .i64 jp, .slice A n c]) := by rw [← hw0]; exact Blk.new _ _ _
 have HB : Hid (Below w.heap.size w w0) := by rw [← hw0]; exact (Below.refl _ _).alloc (Nat.le_refl _) _
 rw [hw0]
 clear hw0
 have C1 := hid (CG.out w0 HB.out)
 obtain ⟨q0, q1, q2, q3⟩ := fact4 HP.out
 have ql := HP.out.lt
 go_wp2_with fail
 refine C1.out.mono ?_
 rintro en w1 ⟨rfl, hb⟩
 have HB1 : Hid (Below w.heap.size w w1) := HB.out.trans (hb.mono HB.out.size)
 have HP1 := hid (HP.out.below hb HP.out.lt)
 clear hb C1 q0 q1 q2 q3 ql HP HB CG
 cases g
 ·have HF : Hid (R = []) := HE.out rfl
  clear HE CW HN2
  go_wp2_with fail
  go_ret
  rw [HF.out]; exact ⟨_, rfl, ⟨rfl, .inl ⟨rfl, rfl⟩⟩, HB1.out⟩
 have hn2 : n ≤ 200 := HN2.out rfl
 have C2 := hid (CW.out rfl)
 clear HE CW HN2
 obtain ⟨q0, q1, q2, q3⟩ := fact4 HP1.out
 have ql := HP1.out.lt
 go_wp2_with fail
 have hv0 : IO w.heap.size (w1.alloc (.cells #[.int .i64 0] 3)) (.slice (some ⟨w1.heap.size, 0, none⟩) 1 1) [0] := io_new w.heap.size w1 [0] HB1.out.size (by simp)
 refine (C2.out _ _ (HB1.out.alloc HB1.out.size _) hv0).mono ?_
 rintro en w2 ⟨s, gs, cs, rfl, hown, hsl, htr, hb⟩
 have HS := hid hown; have HSL := hid hsl; have HTR := hid htr; have HB2 := hid hb
 have hs2 := hb.size
 clear hown hsl htr hb hv0 C2 q0 q1 q2 q3 ql HP1 HB1
 go_wp2_with fail
 go_loopw [13, 3] (fun iv ov wr => ∃ i : Nat, i ≤ n + 1 ∧ iv = .int .i64 (i : Int) ∧ IO w.heap.size wr ov (truesTo s i) ∧ wr.ownsRow w.heap.size 4 1 (.slice (some ⟨gs, 0, none⟩) (n + 1) cs) (n + 1) (boolCells s) ∧ Below w.heap.size w wr) (fun iv _ _ => n + 1 - (intOf iv).toNat)
 case atStart => exact ⟨0, by omega, rfl, ⟨rfl, .inl ⟨rfl, rfl⟩⟩, HS.out, HB2.out⟩
 case round =>
  obtain ⟨i, hi, rfl, hv, hs, hb⟩ := hrel
  have HV := hid hv; have HS3 := hid hs; have HB3 := hid hb
  have hs3 := hb.size
  clear hv hs hb HS HB2
  obtain ⟨l, hl⟩ : ∃ l, truesTo s i = l := ⟨_, rfl⟩
  have HL := hid hl
  rw [hl] at HV
  obtain ⟨A2, c2, rfl, -⟩ := own_shape HV.out
  obtain ⟨m, hm⟩ : ∃ m, l.length = m := ⟨_, rfl⟩
  have HM := hid hm
  have hmi : m ≤ i := by rw [← hm, ← hl]; exact truesTo_length s i
  have HV1 : Hid (wr.ownsRow w.heap.size 3 1 (.slice A2 l.length c2) l.length (intCells l)) := HV.out
  rw [hm] at HV1 ⊢
  clear HV hl hm
  by_cases hlt : i < n + 1
  ·have HI : Hid (i < s.length) := by rw [Hid, HSL.out]; exact hlt
   have hcs : wr.cell? ⟨gs, i, none⟩ = some (.bool (s[i]'HI.out)) := by rw [HS3.out.cellAt i (by omega)]; simp [boolCells, HI.out]
   have hgl := (HS3.out.lt gs rfl).2
   have HTS : Hid (truesTo s (i + 1) = l ++ if s[i]'HI.out = true then [(i : Int)] else []) := by rw [Hid, truesTo_succ s i HI.out, HL.out]
   obtain ⟨b, hb⟩ : ∃ b, s[i]'HI.out = b := ⟨_, rfl⟩
   rw [hb] at hcs HTS
   clear hb
   cases b
   case true =>
    have HTS : Hid (truesTo s (i + 1) = l ++ [(i : Int)]) := HTS.out.trans (by simp)
    have hbi : (m + 1) * 8 ≤ 140737488355328 := by omega
    go_wp2_with (at_builtin; refine wpList_append1K _ rfl _ _ 68 rfl w.heap.size 3 _ 1 8 Tryz.underlying68 Tryz.infoIF rfl (by decide) _ _ _ rfl HV1.out 1 [.int .i64 (i : Int)] rfl rfl rfl hbi (by decide) hs3 ?_)
    intro g c' w3 hown hkp hfr
    have HV3 : Hid (IO w.heap.size w3 (.slice (some ⟨g, 0, none⟩) (m + 1) c') (truesTo s (i + 1))) := IO.of hown (by rw [HTS.out, List.length_append, HM.out]; rfl) (by rw [HTS.out]; simp [intCells])
    have HB4 : Hid (Below w.heap.size w w3) := HB3.out.trans (hkp.below hs3 (fun k e => (HV1.out.lt k e).1))
    have HS4 := hid (hkp.own HS3.out (fun j e e2 => (own_ne HV1.out HS3.out (by decide)).elim (fun h => by rw [h] at e2; cases e2) (fun h => h (e2.trans e.symm))))
    clear hown hkp hfr HV1 HB3 HS3
    go_wp2_with fail
    go_roundw
    case rel => exact ⟨i + 1, by omega, by go_num, HV3.out, HS4.out, HB4.out⟩
    case measure => simp [intOf]; omega
   case false =>
    have HTS : Hid (truesTo s (i + 1) = l) := HTS.out.trans (by simp)
    have HV3 : Hid (IO w.heap.size wr (.slice A2 m c2) (truesTo s (i + 1))) := IO.of HV1.out (by rw [HTS.out, HM.out]) (by rw [HTS.out])
    clear HV1
    go_wp2_with fail
    go_roundw
    case rel => exact ⟨i + 1, by omega, by go_num, HV3.out, HS3.out, HB3.out⟩
    case measure => simp [intOf]; omega
  ·have hin : i = n + 1 := by omega
   subst hin
   have HV3 : Hid (IO w.heap.size wr (.slice A2 m c2) R) := IO.of HV1.out (by rw [← HTR.out, HL.out, HM.out]) (by rw [← HTR.out, HL.out])
   clear HV1
   go_wp2_with fail
   try go_ret
   exact ⟨_, rfl, HV3.out, HB3.out⟩
end
theorem truesTo_any (s : List Bool) (i : Nat) (h : i < s.length) (f : Int → Bool) : (truesTo s (i + 1)).any f = ((truesTo s i).any f || (s[i] && f i)) := by
 rw [truesTo_succ s i h, List.any_append]
 cases s[i] <;> simp
def WalkL (n : Nat) (L : List Int) (B : Nat) (w : World) (e : Ending) (w' : World) : Prop :=
 ∃ (s : List Bool) (g c : Nat), e = .returned (.slice (some ⟨g, 0, none⟩) (n + 1) c) ∧ w'.ownsRow w.heap.size 4 1 (.slice (some ⟨g, 0, none⟩) (n + 1) c) (n + 1) (boolCells s) ∧ s.length = n + 1 ∧ (∀ x, at_ s x ↔ x ∈ L) ∧ Below B w w'
theorem ScriptIn.walk {p : ProgV} {A : Option Addr} {c : Nat} {w : World} (h : ScriptIn p A w) (hg : goodB p = true) (S : List Int) (W1 W2 : World) (v : Value) (hS : Asc S) (hi : ∀ x ∈ S, 0 ≤ x ∧ x ≤ p.ops.length) (hb1 : Below w.heap.size w W1) (hb2 : Below W1.heap.size W1 W2) (hv : IO W1.heap.size W2 v S) :
  Calls Tryz.prog 77 #[p.val (.slice A p.ops.length c), v] W2 (WalkL p.ops.length (fromL p S) W1.heap.size W2) := by
 have hl := asc_most p.ops.length S 0 hS (fun x hx => hi x hx) (by omega)
 have hn := (good_ops (goodB_iff.1 hg)).2.1
 refine (fwalk_any p A c S v W1.heap.size W2 (fun W' hW => h.ops.below (hb1.trans ((hb2.trans hW).mono hb1.size))) (goodB_iff.1 hg) hv hi (by omega) hb2.size).mono fun e w' h => ?_
 obtain ⟨s, g, c', h1, h2, h3, h4, h5⟩ := h
 exact ⟨s, g, c', h1, h2, h3, fun x => by rw [h4, (fromL_iff (goodB_iff.1 hg) S hS hi).2], h5⟩
theorem at_nat (s : List Bool) (i : Nat) (h : i < s.length) : at_ s (i : Int) ↔ s[i] = true := by
 unfold at_
 rw [Int.toNat_natCast, List.getElem?_eq_getElem h]
 simp
set_option maxRecDepth 20000 in
set_option maxHeartbeats 4000000 in
theorem fLoops_any {p : ProgV} {A : Option Addr} {c : Nat} {w : World} (h : ScriptIn p A w) :
  Calls Tryz.prog 37 #[p.val (.slice A p.ops.length c)] w fun e w' => e = .returned (.bool (loopsB p)) ∧ Below w.heap.size w w' := by
 have CG : Hid (∀ W, Below w.heap.size w W → Calls Tryz.prog 74 #[p.val (.slice A p.ops.length c)] W fun e w' => e = .returned (.bool (goodB p)) ∧ Below W.heap.size W w') := fun W hb => (h.below hb).good
 have CW : Hid (goodB p = true → ∀ S W1 W2 v, Asc S → (∀ x ∈ S, 0 ≤ x ∧ x ≤ p.ops.length) → Below w.heap.size w W1 → Below W1.heap.size W1 W2 → IO W1.heap.size W2 v S →
  Calls Tryz.prog 77 #[p.val (.slice A p.ops.length c), v] W2 (WalkL p.ops.length (fromL p S) W1.heap.size W2)) := fun hg S W1 W2 v h1 h2 h3 h4 h5 => h.walk hg S W1 W2 v h1 h2 h3 h4 h5
 have CN : Hid (goodB p = true → ∀ (a : Int) W, Below w.heap.size w W → Calls Tryz.prog 75 #[p.val (.slice A p.ops.length c), .int .i64 a] W fun e w' => ∃ v, e = .returned v ∧ IO W.heap.size w' v (nxM p.ops a) ∧ Below W.heap.size W w') := fun hg a W hb =>
  fnext_any p A c a W (h.ops.below hb) (by have := (good_ops (goodB_iff.1 hg)).2.1; omega) (good_armsF (goodB_iff.1 hg))
 have HNX : Hid (goodB p = true → ∀ a, Asc (nxM p.ops a) ∧ ∀ x ∈ nxM p.ops a, 0 ≤ x ∧ x ≤ p.ops.length) := fun hg a => ⟨nx_asc _ _, nx_in (goodB_iff.1 hg) a⟩
 have HN2 : Hid (goodB p = true → p.ops.length ≤ 200) := fun hg => (good_ops (goodB_iff.1 hg)).2.1
 have HE : Hid (goodB p = true → Asc (fromL p [0]) ∧ loopsB p = (fromL p [0]).any fun x => (fromL p (nxM p.ops x)).contains x) := fun hg => by
  refine ⟨(fromL_iff (goodB_iff.1 hg) [0] (by simp [Asc]) (fun x hx => by rw [List.mem_singleton] at hx; omega)).1, ?_⟩
  unfold loopsB reachL; rw [if_pos hg]
 have HE0 : Hid (goodB p = false → loopsB p = false) := fun h => by unfold loopsB reachL; rw [h]; rfl
 obtain ⟨fr, hfr⟩ : ∃ f, fromL p = f := ⟨_, rfl⟩
 obtain ⟨B, hB⟩ : ∃ R, loopsB p = R := ⟨_, rfl⟩
 obtain ⟨g, hg⟩ : ∃ R, goodB p = R := ⟨_, rfl⟩
 obtain ⟨nx, hnx⟩ : ∃ f, nxM p.ops = f := ⟨_, rfl⟩
 rw [hfr, hB, hg, hnx] at HE
 rw [hg, hB] at HE0
 rw [hg] at CG HN2
 rw [hg, hnx] at CN HNX
 rw [hg, hfr] at CW
 rw [hB]
 clear hg h hB hfr hnx
 obtain ⟨nm, dl, jp, ops⟩ := p
 unfold ProgV.val at CW CG CN ⊢
 simp only at CW CG HN2 CN HNX ⊢
 obtain ⟨n, hn⟩ : ∃ n, ops.length = n := ⟨_, rfl⟩
 rw [hn] at CW CG HN2 CN HNX ⊢
 clear hn
 go_enter Tryz.func37, Tryz.ntmps37
 go_upto_region 1 with fail
 obtain ⟨w0, hw0⟩ : ∃ W, w.alloc (.cells #[.string nm, .int .i64 dl, .int .i64 jp, .slice A n c] 26) = W := ⟨_, rfl⟩
 have HP : Hid (Blk w0 w.heap.size 26 #[.string nm, .int .i64 dl, .int .i64 jp, .slice A n c]) := by rw [← hw0]; exact Blk.new _ _ _
 have HB : Hid (Below w.heap.size w w0) := by rw [← hw0]; exact (Below.refl _ _).alloc (Nat.le_refl _) _
 rw [hw0]
 obtain ⟨gp, hgp⟩ : ∃ y, w.heap.size = y := ⟨_, rfl⟩
 have HGE := hid hgp
 rw [hgp] at HP ⊢
 clear hw0 hgp
 have C1 := hid (CG.out w0 HB.out)
 obtain ⟨q0, q1, q2, q3⟩ := fact4 HP.out
 have ql := HP.out.lt
 go_wp2_with fail
 refine C1.out.mono ?_
 rintro en w1 ⟨rfl, hb⟩
 have HB1 : Hid (Below w.heap.size w w1) := HB.out.trans (hb.mono HB.out.size)
 have HP1 := hid (HP.out.below hb HP.out.lt)
 clear hb C1 q0 q1 q2 q3 ql HP HB CG
 cases g
 ·have HF : Hid (B = false) := HE0.out rfl
  clear HE CW HN2
  go_wp2_with fail
  try go_ret
  rw [HF.out]; exact ⟨rfl, HB1.out⟩
 have hn2 : n ≤ 200 := HN2.out rfl
 have C2 := hid (CW.out rfl)
 have HCN := hid (CN.out rfl)
 have HNI := hid (HNX.out rfl)
 have HEE := hid (HE.out rfl)
 clear CW HN2 CN HNX HE0 HE
 obtain ⟨q0, q1, q2, q3⟩ := fact4 HP1.out
 have ql := HP1.out.lt
 go_wp2_with fail
 have hv0 : IO w1.heap.size (w1.alloc (.cells #[.int .i64 0] 3)) (.slice (some ⟨w1.heap.size, 0, none⟩) 1 1) [0] := io_new w1.heap.size w1 [0] (Nat.le_refl _) (by simp)
 have hba : Below w1.heap.size w1 (w1.alloc (.cells #[.int .i64 0] 3)) := (Below.refl _ _).alloc (Nat.le_refl _) _
 refine (C2.out [0] w1 _ _ (by simp [Asc]) (fun x hx => by rw [List.mem_singleton] at hx; omega) HB1.out hba hv0).mono ?_
 rintro en w2 ⟨s, gs, cs, rfl, hown, hsl, htr, hb⟩
 have HB12 : Hid (Below w1.heap.size w1 w2) := hba.trans hb
 have HS : Hid (w2.ownsRow w1.heap.size 4 1 (.slice (some ⟨gs, 0, none⟩) (n + 1) cs) (n + 1) (boolCells s)) := own_base hown (by simp)
 have HSL := hid hsl
 have HTR : Hid (truesTo s (n + 1) = fr [0]) := by
  rw [Hid, ← hsl]
  exact asc_ext (asc_trues s) HEE.out.1 fun x => by rw [← htr]; exact mem_trues s x
 have HP2 := hid (HP1.out.below HB12.out HP1.out.lt)
 have HB2 : Hid (Below w.heap.size w w2) := HB1.out.trans (HB12.out.mono HB1.out.size)
 have HGS : Hid (gp < w1.heap.size) := HP1.out.lt
 clear hv0 hba hown hsl htr hb q0 q1 q2 q3 ql HP1 HB12
 obtain ⟨f, hf⟩ : ∃ f : Int → Bool, (fun x => (fr (nx x)).contains x) = f := ⟨_, rfl⟩
 have HFX : Hid (∀ x, f x = (fr (nx x)).contains x) := fun x => by rw [← hf]
 have HEB : Hid (B = (truesTo s (n + 1)).any f) := by rw [Hid, HTR.out, HEE.out.2, hf]
 clear hf HEE HTR
 go_wp2_with fail
 go_loopw [12] (fun iv wr => ∃ i : Nat, i ≤ n + 1 ∧ iv = .int .i64 (i : Int) ∧ (truesTo s i).any f = false ∧ Below w2.heap.size w2 wr) (fun iv _ => n + 1 - (intOf iv).toNat)
 case atStart => exact ⟨0, by omega, rfl, rfl, Below.refl _ _⟩
 case round =>
  obtain ⟨i, hi, rfl, ha, hb⟩ := hrel
  have HA := hid ha; have HBR := hid hb
  have HS3 := hid (own_below HS.out hb)
  have HP3 := hid (HP2.out.below hb HP2.out.lt)
  have HB3 : Hid (Below w.heap.size w wr) := HB2.out.trans (hb.mono HB2.out.size)
  clear ha hb
  by_cases hlt : i < n + 1
  ·have HI : Hid (i < s.length) := by rw [Hid, HSL.out]; exact hlt
   have hcs : wr.cell? ⟨gs, i, none⟩ = some (.bool (s[i]'HI.out)) := by rw [HS3.out.cellAt i (by omega)]; simp [boolCells, HI.out]
   have hgl := (HS3.out.lt gs rfl).2
   have HTS := hid (truesTo_any s i HI.out f)
   rw [HA.out] at HTS
   obtain ⟨b, hb⟩ : ∃ b, s[i]'HI.out = b := ⟨_, rfl⟩
   rw [hb] at hcs HTS
   clear hb
   cases b
   case false =>
    have HTS : Hid ((truesTo s (i + 1)).any f = false) := HTS.out.trans (by simp)
    go_wp2_with fail
    go_quiet (fail)
    have HB4 : Hid (Below w2.heap.size w2 (wr.drewN nq)) := HBR.out.trans ((drewN_below wr nq).mono HBR.out.size)
    go_wp2_with fail
    go_roundw
    case rel => exact ⟨i + 1, by omega, by go_num, HTS.out, HB4.out⟩
    case measure => simp [intOf]; omega
   case true =>
    have HTS : Hid ((truesTo s (i + 1)).any f = f i) := HTS.out.trans (by simp)
    have hpl := HP3.out.lt
    have T0 : ∀ q : BW wr.heap.size wr, q.1.cell? ⟨gp, 0, none⟩ = some (.string nm) := fun q => q.cellAt hpl (HP3.out.cell 0)
    have T1 : ∀ q : BW wr.heap.size wr, q.1.cell? ⟨gp, 1, none⟩ = some (.int .i64 dl) := fun q => q.cellAt hpl (HP3.out.cell 1)
    have T2 : ∀ q : BW wr.heap.size wr, q.1.cell? ⟨gp, 2, none⟩ = some (.int .i64 jp) := fun q => q.cellAt hpl (HP3.out.cell 2)
    have T3 : ∀ q : BW wr.heap.size wr, q.1.cell? ⟨gp, 3, none⟩ = some (.slice A n c) := fun q => q.cellAt hpl (HP3.out.cell 3)
    go_upto_region 6 with fail
    refine wp_region_ordT wr.heap.size [] (.val 0 (.val 1 (.val 2 (.val 3 (.val 4 (.val 7 (.op 5 (.op 6 (.val 8 (.op 9 (.val 10 (.nil)))))))))))) (by kernel_rfl) (by kernel_rfl) ?_
    obtain ⟨wc, hwc⟩ : ∃ W, wr.drewN 1 = W := ⟨_, rfl⟩
    have HBW : Hid (Below wr.heap.size wr wc) := by rw [← hwc]; exact drewN_below wr 1
    rw [hwc]
    clear hwc
    iterate 6 ((first | refine wpOrdT_val rfl rfl ?_ | refine wpOrdT_load rfl rfl (inBW HBW.out) ?_); go_big_quiet_step (fail); refine wpQuiet_nil ?_)
    clear T0 T1 T2 T3
    have HBC : Hid (Below w.heap.size w wc) := HB3.out.trans (HBW.out.mono HB3.out.size)
    have CQ := hid (HCN.out (i : Int) wc HBC.out)
    refine wpOrdT_op rfl ?_
    go_wp2_with fail
    refine CQ.out.mono ?_
    rintro en w4 ⟨v, rfl, hv, hb4⟩
    have HB4 : Hid (Below wr.heap.size wr w4) := HBW.out.trans (hb4.mono HBW.out.size)
    have CQ2 := hid (C2.out (nx i) wc w4 v (HNI.out i).1 (HNI.out i).2 HBC.out hb4 hv)
    clear hv hb4 CQ
    go_wp2_with fail
    refine KT.keep (inBW HB4.out) ?_
    refine wpOrdT_op rfl ?_
    go_wp2_with fail
    refine CQ2.out.mono ?_
    rintro en w5 ⟨s2, g2, c2, rfl, hown2, hsl2, htr2, hb5⟩
    have HB5 : Hid (Below wr.heap.size wr w5) := HB4.out.trans (hb5.mono HBW.out.size)
    have hi2 : i < s2.length := by rw [hsl2]; exact hlt
    have HFI : Hid (f i = s2[i]) := by
     have e1 := htr2 (i : Int)
     rw [at_nat s2 i hi2] at e1
     rw [Hid, HFX.out]
     cases hs : s2[i]
     ·rw [← Bool.not_eq_true, List.contains_iff_mem, ← e1, hs]; simp
     ·rw [List.contains_iff_mem, ← e1, hs]
    have hc2 : w5.cell? ⟨g2, i, none⟩ = some (.bool s2[i]) := by rw [hown2.cellAt i (by omega)]; simp [boolCells, hi2]
    have hgl2 := (hown2.lt g2 rfl).2
    obtain ⟨b2, hb2⟩ : ∃ b, s2[i] = b := ⟨_, rfl⟩
    rw [hb2] at hc2 HFI
    clear hown2 hsl2 htr2 hb5 hi2 hb2 CQ2 hcs hgl hpl
    go_wp2_with fail
    refine KT.keep (inBW HB5.out) ?_
    refine wpOrdT_val rfl rfl ?_
    go_big_quiet_step (fail)
    refine wpQuiet_nil ?_
    refine wpOrdT_op rfl ?_
    go_wp2_with fail
    refine KT.keep (inBW HB5.out) ?_
    refine wpOrdT_val rfl rfl ?_
    go_big_quiet_step (fail)
    refine wpQuiet_nil ?_
    refine wpOrdT_nil ?_
    rw [HFI.out] at HTS
    have HB6 : Hid (Below w.heap.size w w5) := HB3.out.trans (HB5.out.mono HB3.out.size)
    have HB7 : Hid (Below w2.heap.size w2 w5) := HBR.out.trans (HB5.out.mono HBR.out.size)
    cases b2
    case true =>
     have HF : Hid (B = true) := by
      rw [Hid, HEB.out]
      have h1 := HTS.out
      rw [List.any_eq_true] at h1 ⊢
      obtain ⟨x, hx, hfx⟩ := h1
      refine ⟨x, ?_, hfx⟩
      unfold truesTo at hx ⊢
      obtain ⟨k, hk, rfl⟩ := List.mem_map.1 hx
      rw [List.mem_filter, List.mem_range] at hk
      exact List.mem_map.2 ⟨k, List.mem_filter.2 ⟨List.mem_range.2 (by omega), hk.2⟩, rfl⟩
     go_wp2_with fail
     try go_ret
     rw [HF.out]; exact ⟨rfl, HB6.out⟩
    case false =>
     go_wp2_with fail
     go_roundw
     case rel => exact ⟨i + 1, by omega, by go_num, HTS.out, HB7.out⟩
     case measure => simp [intOf]; omega
  ·have hin : i = n + 1 := by omega
   subst hin
   have HF : Hid (B = false) := HEB.out.trans HA.out
   go_wp2_with fail
   try go_ret
   rw [HF.out]; exact ⟨rfl, HB3.out⟩
end Go.Proofs.YtpkkfdmhbbipoaaGreat
