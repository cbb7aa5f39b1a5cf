/- Zp: package flow: Next, Reach, Loops. Zp: package flow: Loops. -/
import Derived.Test.YtpkkfdmhbbipoaaGreatFb
import Derived.Test.YtpkkfdmhbbipoaaGreatMh
namespace Go.Proofs.YtpkkfdmhbbipoaaGreat
set_option maxRecDepth 20000
set_option maxHeartbeats 4000000
open Go.RowKit PopT
def Wl (p : Zv) : Bool := decide ((Wd p).2 = 0)
theorem Yr {p : Zv} : Wl p = true ↔ Kc p := decide_eq_true_iff
def Nq (p : Zv) (a : Int) : List Int := if Wl p = true then nxM p.ops a else []
def Jz (p : Zv) (S : List Int) : List Int := Qe (nxM p.ops) (p.ops.length + 1) S
def Wz (p : Zv) : List Int := if Wl p = true then Jz p [0] else []
def Zax (p : Zv) : Bool := (Wz p).any fun x => (Jz p (nxM p.ops x)).contains x
theorem Gq {p : Zv} (h : Kc p) (S : List Int) (hS : Asc S) (hi : ∀ x ∈ S, 0 ≤ x ∧ x ≤ p.ops.length) : Asc (Jz p S) ∧ ∀ x, x ∈ Jz p S ↔ Uf (nxM p.ops) S x := Znl (Ze8 h) S hS hi
theorem Zjm {p : Zv} (h : Kc p) {S : List Int} {s : List Bool} (hS : Asc S) (hi : ∀ x ∈ S, 0 ≤ x ∧ x ≤ p.ops.length) (hs : ∀ x, at_ s x ↔ Uf (nxM p.ops) S x) : Ze7 s = Jz p S := by
 have hf := Gq h S hS hi;exact Zdp (Zf1 s) hf.1 fun x => by rw [Zfp, hs, hf.2]
def Wf (s : List Bool) (i : Nat) : List Int := ((List.range i).filter fun k => s.getD k false).map fun (k : Nat) => (k : Int)
theorem Zbt (s : List Bool) (i : Nat) (h : i < s.length) : Wf s (i + 1) = Wf s i ++ if s[i] = true then [(i : Int)] else [] := by
 unfold Wf;rw [List.range_succ, List.filter_append, List.map_append]
 congr 1
 have e : s.getD i false = s[i] := by rw [List.getD_eq_getElem?_getD, List.getElem?_eq_getElem h]; rfl
 simp only [List.filter_cons, e, List.filter_nil];split <;> simp
theorem Zeo (s : List Bool) (i : Nat) : (Wf s i).length ≤ i := by
 unfold Wf;rw [List.length_map];exact Nat.le_trans (List.length_filter_le _ _) ae
theorem Uq (base : Nat) (w : World) (l : List Int) (hb : base ≤ w.heap.size) (hl : l.length ≤ 1000) : IO base (w.alloc (.cells (Zg l).toArray 3)) (.slice (some ⟨w.heap.size, 0, none⟩) l.length l.length) l :=
 ⟨by rw [Yt, Nat.mul_one], .inr ⟨w.heap.size, l.length, (Zg l).toArray, rfl, hb, heap_alloc_new w _, Nat.le_refl _, bp, fy, by rw [Nat.mul_one, List.take_of_length_le fy]⟩⟩
section
variable (p : Zv) (A : Option Addr) (c : Nat) (w : World)
structure Vg : Prop where
 ops : Vj w A p.ops
 n : p.ops.length ≤ 9223372036854775807
 nm : p.name.size ≤ 9223372036854775807
 arms : ∀ o ∈ p.ops, o.arms.length ≤ 9223372036854775807
variable {p A c w}
theorem Vg.below {w' : World} (h : Vg p A w) (hb : Below w.heap.size w w') : Vg p A w' := ⟨h.ops.below hb, h.n, h.nm, h.arms⟩
theorem Vg.good (h : Vg p A w) : Calls Tryz.prog 74 #[p.val (.slice A p.ops.length c)] w fun e w' => e = .returned (.bool (Wl p)) ∧ Below w.heap.size w w' := Zbw p A c w h.ops h.n h.nm h.arms
theorem Zkx (h : Vg p A w) :
  Calls Tryz.prog 35 #[p.val (.slice A p.ops.length c)] w fun e w' => ∃ v, e = .returned v ∧ IO w.heap.size w' v (Wz p) ∧ Below w.heap.size w w' := by
 have CG : Hid (∀ W, Below w.heap.size w W → Calls Tryz.prog 74 #[p.val (.slice A p.ops.length c)] W fun e w' => e = .returned (.bool (Wl p)) ∧ Below W.heap.size W w') := fun W hb => (h.below hb).good
 have CW : Hid (Wl p = true → ∀ W v, Below w.heap.size w W → IO w.heap.size W v [0] → Calls Tryz.prog 77 #[p.val (.slice A p.ops.length c), v] W fun e w' => ∃ (s : List Bool) (g c : Nat), e = .returned (.slice (some ⟨g, 0, none⟩) (p.ops.length + 1) c) ∧ w'.ownsRow w.heap.size 4 1 (.slice (some ⟨g, 0, none⟩) (p.ops.length + 1) c) (p.ops.length + 1) (Zk s) ∧ s.length = p.ops.length + 1 ∧ Wf s (p.ops.length + 1) = Wz p ∧ Below w.heap.size w w') := fun hg W v hb hv =>
  (Zfs p A c [0] v w.heap.size W (fun W' hW => h.ops.below (hb.trans hW)) (Yr.1 hg) hv (fun x hx => ay) ae hb.size).mono fun e w' ⟨s, g, c', h1, h2, h3, h4, h5⟩ =>
   ⟨s, g, c', h1, Wg h2 hb.size, h3, by rw [← h3, show Wf s s.length = Ze7 s from rfl, Wz, if_pos hg]; exact Zjm (Yr.1 hg) dz (fun x hx => ay) h4, hb.trans h5⟩
 have HN2 : Hid (Wl p = true → p.ops.length ≤ 200) := fun hg => (Wc (Yr.1 hg)).2.1;have HE : Hid (Wl p = false → Wz p = []) := fun h => by rw [Wz, h]; rfl
 obtain ⟨R, hR⟩ := nE (Wz p);obtain ⟨g, hg⟩ := nE (Wl p);rw [hR, hg] at HE;rw [hg] at CG CW HN2;rw [hR] at CW ⊢;clear hR hg h;obtain ⟨nm, dl, jp, ops⟩ := p;unfold Zv.val at CW CG ⊢;simp only at CW CG HN2 ⊢;obtain ⟨n, hn⟩ := nE (ops.length);rw [hn] at CW CG HN2 ⊢;clear hn;go_enter Tryz.func35, Tryz.ntmps35;go_upto_region 1 with fail;obtain ⟨w0, hw0⟩ := nE (w.alloc (.cells #[nm, dl, jp, .slice A n c] 26));have HP := bn hw0;have HB := ba hw0;rw [hw0];clear hw0;have C1 := hid (CG.out w0 HB.out);obtain ⟨q0, q1, q2, q3⟩ := Xw HP.out;have ql := HP.lt;go_wp2_with fail;refine C1.mono ?_;rintro en w1 ⟨rfl, hb⟩;have HB1 := bt HB hb;have HP1 := bb HP hb;clear hb C1 q0 q1 q2 q3 ql HP HB CG;cases g
 ·have HF : Hid (R = []) := HE.out rfl
  clear HE CW HN2;go_wp2_with fail;go_ret;rw [HF.out]; exact ⟨_, rfl, ⟨rfl, .inl ⟨rfl, rfl⟩⟩, HB1.out⟩
 have hn2 : n ≤ 200 := HN2.out rfl;have C2 := hid (CW.out rfl);clear HE CW HN2;obtain ⟨q0, q1, q2, q3⟩ := Xw HP1.out;have ql := HP1.lt;go_wp2_with fail;have hv0 : IO w.heap.size (w1.alloc (.cells #[.int .i64 0] 3)) (.slice (some ⟨w1.heap.size, 0, none⟩) 1 1) [0] := Uq w.heap.size w1 [0] HB1.size ae;refine (C2.out _ _ (HB1.alloc HB1.size _) hv0).mono ?_;rintro en w2 ⟨s, gs, cs, rfl, hown, hsl, htr, hb⟩;have HS := hid hown; have HSL := hid hsl; have HTR := hid htr; have HB2 := hid hb;have hs2 := hb.size;clear hown hsl htr hb hv0 C2 q0 q1 q2 q3 ql HP1 HB1;go_wp2_with fail
 go_loopw [13, 3] (fun iv ov wr => ∃ i : Nat, i ≤ n + 1 ∧ iv = .int .i64 (i : Int) ∧ IO w.heap.size wr ov (Wf s i) ∧ wr.ownsRow w.heap.size 4 1 (.slice (some ⟨gs, 0, none⟩) (n + 1) cs) (n + 1) (Zk s) ∧ Below w.heap.size w wr) (fun iv _ _ => n + 1 - (intOf iv).toNat)
 case atStart => exact ⟨0, aa, rfl, ⟨rfl, .inl ⟨rfl, rfl⟩⟩, HS.out, HB2.out⟩
 case round =>
  obtain ⟨i, hi, rfl, hv, hs, hb⟩ := hrel;have HV := hid hv; have HS3 := hid hs; have HB3 := hid hb;have hs3 := hb.size;clear hv hs hb HS HB2;obtain ⟨l, hl⟩ := nE (Wf s i);have HL := hid hl;rw [hl] at HV;obtain ⟨A2, c2, rfl, -⟩ := Wk HV.out;obtain ⟨m, hm⟩ := nE (l.length);have HM := hid hm;have hmi : m ≤ i := by rw [← hm, ← hl]; exact Zeo s i
  have HV1 : Hid (wr.ownsRow w.heap.size 3 1 (.slice A2 l.length c2) l.length (Zg l)) := HV.out;rw [hm] at HV1 ⊢;clear HV hl hm;by_cases hlt : i < n + 1
  ·have HI : Hid (i < s.length) := by rw [Hid, HSL.out]; exact hlt
   have hcs : wr.cell? ⟨gs, i, none⟩ = some (.bool (s[i]'HI.out)) := by rw [HS3.cellAt i aa]; simp [Zk, HI.out]
   have hgl := (HS3.lt gs rfl).2;have HTS : Hid (Wf s (i + 1) = l ++ if s[i]'HI.out = true then [(i : Int)] else []) := by rw [Hid, Zbt s i HI.out, HL.out]
   obtain ⟨b, hb⟩ := nE (s[i]'HI.out);rw [hb] at hcs HTS;clear hb;cases b
   case true =>
    have HTS : Hid (Wf s (i + 1) = l ++ [(i : Int)]) := HTS.trans ae;have hbi : (m + 1) * 8 ≤ 140737488355328 := aa
    go_wp2_with (at_builtin; refine Xf _ rfl _ _ 68 rfl w.heap.size 3 _ 1 8 Tryz.underlying68 Yo rfl ac _ _ _ rfl HV1.out 1 [(i : Int)] rfl rfl rfl hbi ac hs3 ?_);intro g c' w3 hown hkp hfr;have HV3 : Hid (IO w.heap.size w3 (.slice (some ⟨g, 0, none⟩) (m + 1) c') (Wf s (i + 1))) := IO.of hown (by rw [HTS.out, List.length_append, HM.out]; rfl) (by rw [HTS.out]; simp [Zg]);have HB4 : Hid (Below w.heap.size w w3) := HB3.trans (hkp.below hs3 (fun k e => (HV1.lt k e).1));have HS4 := hid (hkp.own HS3.out (fun j e e2 => (Zaw HV1.out HS3.out ac).elim (fun h => by rw [h] at e2; cases e2) (fun h => h (e2.trans e.symm))));clear hown hkp hfr HV1 HB3 HS3;go_wp2_with fail;go_roundw
    case rel => exact ⟨i + 1, aa, al, HV3.out, HS4.out, HB4.out⟩
    case measure => simp [intOf]; omega
   case false =>
    have HTS : Hid (Wf s (i + 1) = l) := HTS.trans ae;have HV3 : Hid (IO w.heap.size wr (.slice A2 m c2) (Wf s (i + 1))) := IO.of HV1.out (by rw [HTS.out, HM.out]) (by rw [HTS.out]);clear HV1;go_wp2_with fail;go_roundw
    case rel => exact ⟨i + 1, aa, al, HV3.out, HS3.out, HB3.out⟩
    case measure => simp [intOf]; omega
  ·have hin : i = n + 1 := by omega
   subst hin;have HV3 : Hid (IO w.heap.size wr (.slice A2 m c2) R) := IO.of HV1.out (by rw [← HTR.out, HL.out, HM.out]) (by rw [← HTR.out, HL.out]);clear HV1;go_wp2_with fail
   try go_ret
   exact ⟨_, rfl, HV3.out, HB3.out⟩
end
theorem Zh4 (s : List Bool) (i : Nat) (h : i < s.length) (f : Int → Bool) : (Wf s (i + 1)).any f = ((Wf s i).any f || (s[i] && f i)) := by
 rw [Zbt s i h, List.any_append];cases s[i] <;> simp
def Zq5 (n : Nat) (L : List Int) (B : Nat) (w : World) (e : Ending) (w' : World) : Prop :=
 ∃ (s : List Bool) (g c : Nat), e = .returned (.slice (some ⟨g, 0, none⟩) (n + 1) c) ∧ w'.ownsRow w.heap.size 4 1 (.slice (some ⟨g, 0, none⟩) (n + 1) c) (n + 1) (Zk s) ∧ s.length = n + 1 ∧ (∀ x, at_ s x ↔ x ∈ L) ∧ Below B w w'
theorem Vg.walk {p : Zv} {A : Option Addr} {c : Nat} {w : World} (h : Vg p A w) (hg : Wl p = true) (S : List Int) (W1 W2 : World) (v : Value) (hS : Asc S) (hi : ∀ x ∈ S, 0 ≤ x ∧ x ≤ p.ops.length) (hb1 : Below w.heap.size w W1) (hb2 : Below W1.heap.size W1 W2) (hv : IO W1.heap.size W2 v S) :
  Calls Tryz.prog 77 #[p.val (.slice A p.ops.length c), v] W2 (Zq5 p.ops.length (Jz p S) W1.heap.size W2) := by
 have hl := Zbr p.ops.length S 0 hS (fun x hx => hi x hx) aa;have hn := (Wc (Yr.1 hg)).2.1;refine (Zfs p A c S v W1.heap.size W2 (fun W' hW => h.ops.below (hb1.trans ((hb2.trans hW).mono hb1.size))) (Yr.1 hg) hv hi aa hb2.size).mono fun e w' h => ?_;obtain ⟨s, g, c', h1, h2, h3, h4, h5⟩ := h;exact ⟨s, g, c', h1, h2, h3, fun x => by rw [h4, (Gq (Yr.1 hg) S hS hi).2], h5⟩
theorem Zrp (s : List Bool) (i : Nat) (h : i < s.length) : at_ s (i : Int) ↔ s[i] = true := by
 unfold at_;rw [Int.toNat_natCast, List.getElem?_eq_getElem h];simp
theorem Zky {p : Zv} {A : Option Addr} {c : Nat} {w : World} (h : Vg p A w) :
  Calls Tryz.prog 37 #[p.val (.slice A p.ops.length c)] w fun e w' => e = .returned (.bool (Zax p)) ∧ Below w.heap.size w w' := by
 have CG : Hid (∀ W, Below w.heap.size w W → Calls Tryz.prog 74 #[p.val (.slice A p.ops.length c)] W fun e w' => e = .returned (.bool (Wl p)) ∧ Below W.heap.size W w') := fun W hb => (h.below hb).good
 have CW : Hid (Wl p = true → ∀ S W1 W2 v, Asc S → (∀ x ∈ S, 0 ≤ x ∧ x ≤ p.ops.length) → Below w.heap.size w W1 → Below W1.heap.size W1 W2 → IO W1.heap.size W2 v S →
  Calls Tryz.prog 77 #[p.val (.slice A p.ops.length c), v] W2 (Zq5 p.ops.length (Jz p S) W1.heap.size W2)) := fun hg S W1 W2 v h1 h2 h3 h4 h5 => h.walk hg S W1 W2 v h1 h2 h3 h4 h5
 have CN : Hid (Wl p = true → ∀ (a : Int) W, Below w.heap.size w W → Calls Tryz.prog 75 #[p.val (.slice A p.ops.length c), a] W fun e w' => ∃ v, e = .returned v ∧ IO W.heap.size w' v (nxM p.ops a) ∧ Below W.heap.size W w') := fun hg a W hb =>
  Zft p A c a W (h.ops.below hb) (by have := (Wc (Yr.1 hg)).2.1; omega) (Zeh (Yr.1 hg))
 have HNX : Hid (Wl p = true → ∀ a, Asc (nxM p.ops a) ∧ ∀ x ∈ nxM p.ops a, 0 ≤ x ∧ x ≤ p.ops.length) := fun hg a => ⟨Zje _ _, Ze8 (Yr.1 hg) a⟩;have HN2 : Hid (Wl p = true → p.ops.length ≤ 200) := fun hg => (Wc (Yr.1 hg)).2.1
 have HE : Hid (Wl p = true → Asc (Jz p [0]) ∧ Zax p = (Jz p [0]).any fun x => (Jz p (nxM p.ops x)).contains x) := fun hg => by
  refine ⟨(Gq (Yr.1 hg) [0] dz (fun x hx => ay)).1, ?_⟩;unfold Zax Wz; rw [if_pos hg]
 have HE0 : Hid (Wl p = false → Zax p = false) := fun h => by unfold Zax Wz; rw [h]; rfl
 obtain ⟨fr, hfr⟩ := nE (Jz p);obtain ⟨B, hB⟩ := nE (Zax p);obtain ⟨g, hg⟩ := nE (Wl p);obtain ⟨nx, hnx⟩ := nE (nxM p.ops);rw [hfr, hB, hg, hnx] at HE;rw [hg, hB] at HE0;rw [hg] at CG HN2;rw [hg, hnx] at CN HNX;rw [hg, hfr] at CW;rw [hB];clear hg h hB hfr hnx;obtain ⟨nm, dl, jp, ops⟩ := p;unfold Zv.val at CW CG CN ⊢;simp only at CW CG HN2 CN HNX ⊢;obtain ⟨n, hn⟩ := nE (ops.length);rw [hn] at CW CG HN2 CN HNX ⊢;clear hn;go_enter Tryz.func37, Tryz.ntmps37;go_upto_region 1 with fail;obtain ⟨w0, hw0⟩ := nE (w.alloc (.cells #[nm, dl, jp, .slice A n c] 26));have HP := bn hw0;have HB := ba hw0;rw [hw0];obtain ⟨gp, hgp⟩ := nE (w.heap.size);have HGE := hid hgp;rw [hgp] at HP ⊢;clear hw0 hgp;have C1 := hid (CG.out w0 HB.out);obtain ⟨q0, q1, q2, q3⟩ := Xw HP.out;have ql := HP.lt;go_wp2_with fail;refine C1.mono ?_;rintro en w1 ⟨rfl, hb⟩;have HB1 := bt HB hb;have HP1 := bb HP hb;clear hb C1 q0 q1 q2 q3 ql HP HB CG;cases g
 ·have HF : Hid (B = false) := HE0.out rfl
  clear HE CW HN2;go_wp2_with fail
  try go_ret
  rw [HF.out]; exact ⟨rfl, HB1.out⟩
 have hn2 : n ≤ 200 := HN2.out rfl;have C2 := hid (CW.out rfl);have HCN := hid (CN.out rfl);have HNI := hid (HNX.out rfl);have HEE := hid (HE.out rfl);clear CW HN2 CN HNX HE0 HE;obtain ⟨q0, q1, q2, q3⟩ := Xw HP1.out;have ql := HP1.lt;go_wp2_with fail;have hv0 : IO w1.heap.size (w1.alloc (.cells #[.int .i64 0] 3)) (.slice (some ⟨w1.heap.size, 0, none⟩) 1 1) [0] := Uq w1.heap.size w1 [0] (Nat.le_refl _) ae;have hba : Below w1.heap.size w1 (w1.alloc (.cells #[.int .i64 0] 3)) := (Below.refl _ _).alloc (Nat.le_refl _) _;refine (C2.out [0] w1 _ _ dz (fun x hx => ay) HB1.out hba hv0).mono ?_;rintro en w2 ⟨s, gs, cs, rfl, hown, hsl, htr, hb⟩;have HB12 : Hid (Below w1.heap.size w1 w2) := hba.trans hb;have HS : Hid (w2.ownsRow w1.heap.size 4 1 (.slice (some ⟨gs, 0, none⟩) (n + 1) cs) (n + 1) (Zk s)) := Wg hown ae;have HSL := hid hsl
 have HTR : Hid (Wf s (n + 1) = fr [0]) := by
  rw [Hid, ← hsl];exact Zdp (Zf1 s) HEE.1 fun x => by rw [← htr]; exact Zfp s x
 have HP2 := bb HP1 HB12;have HB2 := bt HB1 HB12;have HGS : Hid (gp < w1.heap.size) := HP1.lt;clear hv0 hba hown hsl htr hb q0 q1 q2 q3 ql HP1 HB12;obtain ⟨f, hf⟩ : ∃ f : Int → Bool, (fun x => (fr (nx x)).contains x) = f := ⟨_, rfl⟩;have HFX : Hid (∀ x, f x = (fr (nx x)).contains x) := fun x => by rw [← hf]
 have HEB : Hid (B = (Wf s (n + 1)).any f) := by rw [Hid, HTR.out, HEE.2, hf]
 clear hf HEE HTR;go_wp2_with fail
 go_loopw [12] (fun iv wr => ∃ i : Nat, i ≤ n + 1 ∧ iv = .int .i64 (i : Int) ∧ (Wf s i).any f = false ∧ Below w2.heap.size w2 wr) (fun iv _ => n + 1 - (intOf iv).toNat)
 case atStart => exact ⟨0, aa, rfl, rfl, Below.refl _ _⟩
 case round =>
  obtain ⟨i, hi, rfl, ha, hb⟩ := hrel;have HA := hid ha; have HBR := hid hb;have HS3 := hid (Zt HS.out hb);have HP3 := bb HP2 hb;have HB3 := bt HB2 hb;clear ha hb;by_cases hlt : i < n + 1
  ·have HI : Hid (i < s.length) := by rw [Hid, HSL.out]; exact hlt
   have hcs : wr.cell? ⟨gs, i, none⟩ = some (.bool (s[i]'HI.out)) := by rw [HS3.cellAt i aa]; simp [Zk, HI.out]
   have hgl := (HS3.lt gs rfl).2;have HTS := hid (Zh4 s i HI.out f);rw [HA.out] at HTS;obtain ⟨b, hb⟩ := nE (s[i]'HI.out);rw [hb] at hcs HTS;clear hb;cases b
   case false =>
    have HTS : Hid ((Wf s (i + 1)).any f = false) := HTS.trans ae;go_wp2_with fail
    go_quiet (fail)
    have HB4 : Hid (Below w2.heap.size w2 (wr.drewN nq)) := HBR.trans ((Zs wr nq).mono HBR.size);go_wp2_with fail;go_roundw
    case rel => exact ⟨i + 1, aa, al, HTS.out, HB4.out⟩
    case measure => simp [intOf]; omega
   case true =>
    have HTS : Hid ((Wf s (i + 1)).any f = f i) := HTS.trans ae;have hpl := HP3.lt;have T0 : ∀ q : BW wr.heap.size wr, q.1.cell? ⟨gp, 0, none⟩ = some (.string nm) := fun q => q.cellAt hpl (HP3.cell 0);have T1 : ∀ q : BW wr.heap.size wr, q.1.cell? ⟨gp, 1, none⟩ = some (.int .i64 dl) := fun q => q.cellAt hpl (HP3.cell 1);have T2 : ∀ q : BW wr.heap.size wr, q.1.cell? ⟨gp, 2, none⟩ = some (.int .i64 jp) := fun q => q.cellAt hpl (HP3.cell 2);have T3 : ∀ q : BW wr.heap.size wr, q.1.cell? ⟨gp, 3, none⟩ = some (.slice A n c) := fun q => q.cellAt hpl (HP3.cell 3);go_upto_region 6 with fail;refine Zy wr.heap.size [] (.val 0 (.val 1 (.val 2 (.val 3 (.val 4 (.val 7 (.op 5 (.op 6 (.val 8 (.op 9 (.val 10 (.nil)))))))))))) ab ab ?_;obtain ⟨wc, hwc, HBW⟩ := dw wr;rw [hwc];clear hwc
    iterate 6 ((first | refine Zf rfl rfl ?_ | refine Yf rfl rfl (Yy HBW.out) ?_); go_big_quiet_step (fail); refine wpQuiet_nil ?_)
    clear T0 T1 T2 T3;have HBC := bt HB3 HBW;have CQ := hid (HCN.out (i : Int) wc HBC.out);refine Zc rfl ?_;go_wp2_with fail;refine CQ.mono ?_;rintro en w4 ⟨v, rfl, hv, hb4⟩;have HB4 : Hid (Below wr.heap.size wr w4) := HBW.trans (hb4.mono HBW.size);have CQ2 := hid (C2.out (nx i) wc w4 v (HNI.out i).1 (HNI.out i).2 HBC.out hb4 hv);clear hv hb4 CQ;go_wp2_with fail;refine KT.keep (Yy HB4.out) ?_;refine Zc rfl ?_;go_wp2_with fail;refine CQ2.mono ?_;rintro en w5 ⟨s2, g2, c2, rfl, hown2, hsl2, htr2, hb5⟩;have HB5 : Hid (Below wr.heap.size wr w5) := HB4.trans (hb5.mono HBW.size);have hi2 : i < s2.length := by rw [hsl2]; exact hlt
    have HFI : Hid (f i = s2[i]) := by
     have e1 := htr2 (i : Int);rw [Zrp s2 i hi2] at e1;rw [Hid, HFX.out];cases hs : s2[i]
     ·rw [← Bool.not_eq_true, List.contains_iff_mem, ← e1, hs]; simp
     ·rw [List.contains_iff_mem, ← e1, hs]
    have hc2 : w5.cell? ⟨g2, i, none⟩ = some (.bool s2[i]) := by rw [hown2.cellAt i aa]; simp [Zk, hi2]
    have hgl2 := (hown2.lt g2 rfl).2;obtain ⟨b2, hb2⟩ := nE (s2[i]);rw [hb2] at hc2 HFI;clear hown2 hsl2 htr2 hb5 hi2 hb2 CQ2 hcs hgl hpl;go_wp2_with fail;refine KT.keep (Yy HB5.out) ?_;refine Zf rfl rfl ?_
    go_big_quiet_step (fail)
    refine wpQuiet_nil ?_;refine Zc rfl ?_;go_wp2_with fail;refine KT.keep (Yy HB5.out) ?_;refine Zf rfl rfl ?_
    go_big_quiet_step (fail)
    refine wpQuiet_nil ?_;refine Zw ?_;rw [HFI.out] at HTS;have HB6 := bt HB3 HB5;have HB7 : Hid (Below w2.heap.size w2 w5) := HBR.trans (HB5.mono HBR.size);cases b2
    case true =>
     have HF : Hid (B = true) := by
      rw [Hid, HEB.out];have h1 := HTS.out;rw [List.any_eq_true] at h1 ⊢;obtain ⟨x, hx, hfx⟩ := h1;refine ⟨x, ?_, hfx⟩;unfold Wf at hx ⊢;obtain ⟨k, hk, rfl⟩ := List.mem_map.1 hx;rw [List.mem_filter, List.mem_range] at hk;exact List.mem_map.2 ⟨k, List.mem_filter.2 ⟨List.mem_range.2 aa, hk.2⟩, rfl⟩
     go_wp2_with fail
     try go_ret
     rw [HF.out]; exact ⟨rfl, HB6.out⟩
    case false =>
     go_wp2_with fail;go_roundw
     case rel => exact ⟨i + 1, aa, al, HTS.out, HB7.out⟩
     case measure => simp [intOf]; omega
  ·have hin : i = n + 1 := by omega
   subst hin;have HF : Hid (B = false) := HEB.trans HA.out;go_wp2_with fail
   try go_ret
   rw [HF.out]; exact ⟨rfl, HB3.out⟩
end Go.Proofs.YtpkkfdmhbbipoaaGreat
