/- Plain functions of layer 13: what is wrong of a script. No program in sight. The arguments of a law, opened: a row of elements of several cells; ops with their arms; a script. Walks: layer 12's Name; layer 13: which op comes, the bare op, arms. Walks: layer 13's bare, sameOp. Walks: layer 13: what is wrong of an arm, of an op that expects. Walks: layer 13: what is wrong of an op that expects. -/
import Derived.Test.YtpkkfdmhbbipoaaGreatMm
import Derived.Test.YtpkkfdmhbbipoaaGreatMi
namespace Go.Proofs.YtpkkfdmhbbipoaaGreat
set_option maxRecDepth 100000
set_option maxHeartbeats 4000000
open Go.RowKit PopT
structure Vd where
 pat : ByteArray
 tt : Int
 deriving DecidableEq
structure OpV where
 kind : Int
 text : ByteArray
 n : Int
 tt : Int
 arms : List Vd
 onT : Int
 onE : Int
 deriving DecidableEq
structure Xl where
 name : ByteArray
 deadline : Int
 jumps : Int
 ops : List OpV
 deriving DecidableEq
def Vd.cells (m : Vd) : List Value := [m.pat, m.tt]
def Zz (l : List Vd) : List Value := l.flatMap Vd.cells
theorem Xs (l : List Vd) : (Zz l).length = l.length * 2 := by
 induction l with
 | nil => rfl
 | cons x l ih => simp only [Zz, List.flatMap_cons, List.length_append, List.length_cons] at *; rw [ih]; simp [Vd.cells]; omega
theorem Zdg (a b : List Vd) : Zz (a ++ b) = Zz a ++ Zz b := by simp [Zz]
def OpV.cells (o : OpV) (v : Value) : List Value := [o.kind, o.text, o.n, o.tt, v, o.onT, o.onE]
def Ym (l : List (OpV × Value)) : List Value := l.flatMap fun x => x.1.cells x.2
theorem Zee (l : List (OpV × Value)) : (Ym l).length = l.length * 7 := by
 induction l with
 | nil => rfl
 | cons x l ih => simp only [Ym, List.flatMap_cons, List.length_append, List.length_cons] at *; rw [ih]; simp [OpV.cells]; omega
theorem Zef (a b : List (OpV × Value)) : Ym (a ++ b) = Ym a ++ Ym b := by simp [Ym]
theorem Zbu {w : World} {b off : Nat} {l : List Vd} (hc : ∀ j u, (Zz l)[j]? = some u → w.cell? ⟨b, off + j, none⟩ = some u) (k : Nat) (h : k < l.length) :
  w.cell? ⟨b, off + k * 2, none⟩ = some (.string (l[k]).pat) ∧ w.cell? ⟨b, off + k * 2 + 1, none⟩ = some (.int .i64 (l[k]).tt) := by
 have H := fun j hj u (hu : ((l[k]).cells)[j]? = some u) => hc (k * 2 + j) u ((Gw Vd.cells 2 l (fun _ _ => rfl) k h j hj).trans hu);exact ⟨H 0 aa _ rfl, H 1 aa _ rfl⟩
theorem Zsd {w : World} {b off : Nat} {l : List (OpV × Value)} (hc : ∀ j u, (Ym l)[j]? = some u → w.cell? ⟨b, off + j, none⟩ = some u) (k : Nat) (h : k < l.length) :
  w.cell? ⟨b, off + k * 7, none⟩ = some (.int .i64 (l[k]).1.kind) ∧ w.cell? ⟨b, off + k * 7 + 1, none⟩ = some (.string (l[k]).1.text) ∧ w.cell? ⟨b, off + k * 7 + 2, none⟩ = some (.int .i64 (l[k]).1.n) ∧
  w.cell? ⟨b, off + k * 7 + 3, none⟩ = some (.int .i64 (l[k]).1.tt) ∧ w.cell? ⟨b, off + k * 7 + 4, none⟩ = some (l[k]).2 ∧ w.cell? ⟨b, off + k * 7 + 5, none⟩ = some (.int .i64 (l[k]).1.onT) ∧ w.cell? ⟨b, off + k * 7 + 6, none⟩ = some (.int .i64 (l[k]).1.onE) := by
 have H := fun j hj u (hu : ((l[k]).1.cells (l[k]).2)[j]? = some u) => hc (k * 7 + j) u ((Gw (fun x : OpV × Value => x.1.cells x.2) 7 l (fun _ _ => rfl) k h j hj).trans hu);exact ⟨H 0 aa _ rfl, H 1 aa _ rfl, H 2 aa _ rfl, H 3 aa _ rfl, H 4 aa _ rfl, H 5 aa _ rfl, H 6 aa _ rfl⟩
def Xj (w : World) (o : OpV) (v : Value) : Prop := ∃ A c, v = .slice A o.arms.length c ∧ Rd w A (Zz o.arms)
theorem Xj.below {w w' : World} {o : OpV} {v : Value} (h : Xj w o v) (hb : Below w.heap.size w w') : Xj w' o v := by
 obtain ⟨A, c, h1, h2⟩ := h;exact ⟨A, c, h1, h2.below hb⟩
def Ug (w : World) (A : Option Addr) (l : List OpV) : Prop := ∃ xs : List (OpV × Value), xs.map Prod.fst = l ∧ Rd w A (Ym xs) ∧ ∀ x ∈ xs, Xj w x.1 x.2
theorem Ug.below {w w' : World} {A : Option Addr} {l : List OpV} (h : Ug w A l) (hb : Below w.heap.size w w') : Ug w' A l := by
 obtain ⟨xs, h1, h2, h3⟩ := h;exact ⟨xs, h1, h2.below hb, fun x hx => (h3 x hx).below hb⟩
theorem Ug.at {w : World} {A : Option Addr} {l : List OpV} (h : Ug w A l) (k : Nat) (hk : k < l.length) : ∃ b off v, A = some ⟨b, off, none⟩ ∧ b < w.heap.size ∧ Xj w l[k] v ∧
  w.cell? ⟨b, off + k * 7, none⟩ = some (.int .i64 (l[k]).kind) ∧ w.cell? ⟨b, off + k * 7 + 1, none⟩ = some (.string (l[k]).text) ∧ w.cell? ⟨b, off + k * 7 + 2, none⟩ = some (.int .i64 (l[k]).n) ∧
  w.cell? ⟨b, off + k * 7 + 3, none⟩ = some (.int .i64 (l[k]).tt) ∧ w.cell? ⟨b, off + k * 7 + 4, none⟩ = some v ∧ w.cell? ⟨b, off + k * 7 + 5, none⟩ = some (.int .i64 (l[k]).onT) ∧ w.cell? ⟨b, off + k * 7 + 6, none⟩ = some (.int .i64 (l[k]).onE) := by
 obtain ⟨xs, rfl, h2, h3⟩ := h;rw [List.length_map] at hk;obtain ⟨b, off, hA, hlt, hc⟩ := h2.at (by rw [Zee]; omega);have := Zsd hc k hk;refine ⟨b, off, xs[k].2, hA, hlt, ?_, ?_⟩
 ·rw [List.getElem_map]; exact h3 _ (List.getElem_mem _)
 ·rw [List.getElem_map]; exact this
/-! ### What is wrong -/
def Vj : Int := 9223372036854775807
def Yh (n : Nat) (t : Int) : Bool := decide (0 ≤ t) && decide (t ≤ n)
def Zbe (n : Nat) (m : Vd) : Nat := if 64 < m.pat.size then 4 else if (Xi m.pat).2.2 ≠ 0 then (Xi m.pat).2.2 else if Yh n m.tt = false then 13 else 0
def Wd (n : Nat) : List Vd → Nat
 | [] => 0
 | m :: r => if Zbe n m ≠ 0 then Zbe n m else Wd n r
def Uj (n : Nat) (t : Int) : Bool := decide (t ≠ -1) && !Yh n t
def Wp (t : Int) : Bool := decide (0 ≤ t) && decide (t ≤ 1000000000000)
def Vp (n : Nat) (o : OpV) : Nat := if o.n ≠ Vj ∧ Wp o.n = false then 12 else if 8 < o.arms.length then 4 else if Wd n o.arms ≠ 0 then Wd n o.arms else if Uj n o.onT = true ∨ Uj n o.onE = true then 13 else 0
def Mk (o : OpV) : Bool := (decide (o.kind = 1) || decide (o.text.size = 0)) && (decide (o.kind = 2) || decide (o.kind = 4) || decide (o.n = 0)) && (decide (o.kind = 3) || decide (o.tt = 0)) && (decide (o.kind = 2) || (decide (o.arms.length = 0) && decide (o.onT = 0) && decide (o.onE = 0)))
def opE (n : Nat) (o : OpV) : Nat :=
 if o.kind < 1 ∨ 6 < o.kind then 11 else if Mk o = false then 2 else
 if o.kind = 1 then (if o.text.size = 0 then 9 else if 256 < o.text.size then 4 else 0) else
 if o.kind = 2 then Vp n o else
 if o.kind = 3 then (if Yh n o.tt = true then 0 else 13) else
 if o.kind = 4 then (if Wp o.n = true then 0 else 12) else 0
def Uq (n : Nat) : List OpV → Nat → Nat × Nat
 | [], _ => (0, 0)
 | o :: r, i => if opE n o ≠ 0 then (i, opE n o) else Uq n r (i + 1)
def Mi (s : ByteArray) : Bool := decide (0 < s.size) && decide (s.size ≤ 16) && decide (97 ≤ (s.data.toList.headD 0).toNat) && s.data.toList.all fun b => (decide (97 ≤ b.toNat) && decide (b.toNat ≤ 122)) || (decide (48 ≤ b.toNat) && decide (b.toNat ≤ 57))
def Xf (p : Xl) : Int × Nat :=
 if Mi p.name = false then (-1, 10) else
 if (p.deadline ≠ Vj ∧ ¬ (1 ≤ p.deadline ∧ p.deadline ≤ 1000000000000)) ∨ ¬ (0 ≤ p.jumps ∧ p.jumps ≤ 1000) then (-1, 12) else
 if 200 < p.ops.length then (-1, 4) else ((Uq p.ops.length p.ops 0).1, (Uq p.ops.length p.ops 0).2)
open Go.ChangeShapes Go.WideShapes Go.ChangeAt Go.WideElems Go.Deep
section
variable {H : Type} {enc : TypeId × Value → H}
def Zod (m : Vd) : Prop := m.pat.size ≤ 9223372036854775807 ∧ I64 m.tt
def Zib (o : OpV) : Prop := I64 o.kind ∧ o.text.size ≤ 9223372036854775807 ∧ I64 o.n ∧ I64 o.tt ∧ o.arms.length ≤ 9223372036854775807 ∧ (∀ m ∈ o.arms, Zod m) ∧ I64 o.onT ∧ I64 o.onE
def Jb (p : Xl) : Prop := p.name.size ≤ 9223372036854775807 ∧ I64 p.deadline ∧ I64 p.jumps ∧ p.ops.length ≤ 9223372036854775807 ∧ ∀ o ∈ p.ops, Zib o
theorem Zau : Tryz.prog.cellsOf 99 = 2 := by kernel_rfl
theorem Zbp : Tryz.prog.cellsOf 56 = 7 := by kernel_rfl
theorem Mo : Tryz.prog.cellsOf 26 = 4 := by kernel_rfl
theorem Zek : Tryz.prog.cellsOf 54 = 1 := by kernel_rfl
theorem Zfv : Tryz.prog.cellsOf 24 = 1 := by kernel_rfl
theorem Znc {W : World} {fuel : Nat} {cs : List Value} {x : DataW H × List MemPlace} (h : DataW.trod enc Tryz.prog W 0 (fun _ => true) true fuel 99 cs = some x) : ∃ m : Vd, m.cells = cs ∧ Zod m := by
 obtain ⟨y0, y1, n, _, hl, h0, h1⟩ := trod_struct2 Tryz.underlying99 h;rw [Zau] at hl
 match cs, hl with
 | [c0, c1], _ =>
  simp only [Jl, Qg] at h0 h1;obtain ⟨s, hs, _, hsz⟩ := DataW.trod_string Tryz.underlying9 h0;obtain ⟨z, hz, _, hw⟩ := DataW.trod_int Tryz.underlying3 h1;simp at hs hz;unfold maxLen at hsz;exact ⟨⟨s, z⟩, by rw [hs, hz]; rfl, by simpa using hsz, Kl hw⟩
theorem Zo5 {W : World} {fuel : Nat} {cs : List Value} {x : DataW H × List MemPlace} (h : DataW.trod enc Tryz.prog W 0 (fun _ => true) true fuel 56 cs = some x) : ∃ b : OpV × Value, b.1.cells b.2 = cs ∧ Xj W b.1 b.2 ∧ Zib b.1 := by
 obtain ⟨xs, n, _, _, hl, _, hf⟩ := DataW.trod_struct Tryz.underlying56 h;rw [Zbp] at hl;have hlen : xs.length = 7 := ie
 match xs, hlen with
 | [y0, y1, y2, y3, y4, y5, y6], _ =>
 match cs, hl with
 | [c0, c1, c2, c3, c4, c5, c6], _ =>
  have h0 := hf 0 _ rfl;have h1 := hf 1 _ rfl;have h2 := hf 2 _ rfl;have h3 := hf 3 _ rfl;have h4 := hf 4 _ rfl;have h5 := hf 5 _ rfl;have h6 := hf 6 _ rfl;simp [Jl, Qg, Jm, Zek] at h0 h1 h2 h3 h4 h5 h6;obtain ⟨z0, e0, _, w0⟩ := DataW.trod_int Tryz.underlying3 h0;obtain ⟨z1, e1, _, w1⟩ := DataW.trod_string Tryz.underlying9 h1;obtain ⟨z2, e2, _, w2⟩ := DataW.trod_int Tryz.underlying2 h2;obtain ⟨z3, e3, _, w3⟩ := DataW.trod_int Tryz.underlying3 h3;obtain ⟨A, k, c, css, e4, hk, hk2, hq, hr⟩ := Zc8 Tryz.underlying54 Zau aa h4;obtain ⟨z5, e5, _, w5⟩ := DataW.trod_int Tryz.underlying3 h5;obtain ⟨z6, e6, _, w6⟩ := DataW.trod_int Tryz.underlying3 h6;simp at e0 e1 e2 e3 e4 e5 e6;unfold maxLen at w1;obtain ⟨ms, hms, hmok⟩ := Zam Vd.cells Zod css (fun q hq' => by obtain ⟨_, m, y, ht⟩ := hq q hq'; exact Znc ht);have hmk : ms.length = k := by rw [← hk, ← hms, List.length_map]
  refine ⟨(⟨z0, z1, z2, z3, ms, z5, z6⟩, c4), ?_, ⟨A, c, ?_, ?_⟩, Kl w0, by simpa using w1, Kl w2, Kl w3, ?_, hmok, Kl w5, Kl w6⟩
  ·rw [e0, e1, e2, e3, e5, e6]; rfl
  ·show c4 = _; rw [e4, hmk]
  ·rw [Zz, List.flatMap_def, hms]; exact hr
  ·show ms.length ≤ _; omega
theorem Zo4 {W : World} {A : Option Addr} {k : Nat} {css : List (List Value)} (hk : css.length = k) (hq : ∀ q ∈ css, q.length = 7 ∧ ∃ m y, DataW.trod enc Tryz.prog W 0 (fun _ => true) true m 56 q = some y) (hr : Rd W A css.flatten) :
  ∃ l : List OpV, l.length = k ∧ Ug W A l ∧ ∀ o ∈ l, Zib o := by
 obtain ⟨xs, hxs, hok⟩ := Zam (fun b : OpV × Value => b.1.cells b.2) (fun b => Xj W b.1 b.2 ∧ Zib b.1) css (fun q hq' => by obtain ⟨_, m, y, ht⟩ := hq q hq'; exact Zo5 ht);refine ⟨xs.map Prod.fst, by rw [List.length_map, ← hk, ← hxs, List.length_map], ⟨xs, rfl, ?_, fun x hx => (hok x hx).1⟩, fun o ho => ?_⟩
 ·rw [Ym, List.flatMap_def, hxs]; exact hr
 ·obtain ⟨x, hx, rfl⟩ := List.mem_map.1 ho; exact (hok x hx).2
def OpV.val (o : OpV) (v : Value) : Value := .agg #[o.kind, o.text, o.n, o.tt, v, o.onT, o.onE]
def Xl.val (p : Xl) (v : Value) : Value := .agg #[p.name, p.deadline, p.jumps, v]
end
theorem Nz (s : ByteArray) : s.data.toList.length = s.size := by simp
theorem Jg {a b : ByteArray} (h : a ≠ b) : a.toList ≠ b.toList := by
 intro h';rw [ByteArray.toList_eq, ByteArray.toList_eq] at h';exact h (Go.WideShapes.bytes_inj h')
def Ut (b : UInt8) : Bool := (decide (97 ≤ b.toNat) && decide (b.toNat ≤ 122)) || (decide (48 ≤ b.toNat) && decide (b.toNat ≤ 57))
theorem Ze3 (s : ByteArray) : Mi s = (decide (0 < s.size) && decide (s.size ≤ 16) && decide (97 ≤ (s.data.toList.headD 0).toNat) && s.data.toList.all Ut) := rfl
theorem N91{P:Prop}(h:P:=by
 clear HR HN HGO;go_wp2_with fail;go_ret;rw [HF.out]; exact ⟨rfl, rfl⟩):P:=h
theorem N84{P:Prop}(h:P:=by
 clear HR HN HGO;go_wp2_with fail;go_roundw
 case rel => exact ⟨k + 1, aa, aw, HG.out, trivial⟩
 case measure => simp [intOf]; omega):P:=h
theorem N81{P:Prop}(h:P:=by
 go_enter Tryz.func156, Tryz.ntmps156;go_wp2_with fail;go_ret;rw [HE.out]; exact ⟨rfl, rfl⟩):P:=h
theorem Zjl (s : ByteArray) (w : World) (hs : s.size ≤ 9223372036854775807) : Calls Tryz.prog 156 #[s] w fun e w' => e = .returned (.bool (Mi s)) ∧ w = w' := by
 have HSZ := hid (Nz s);have HB := hid (Ze3 s);obtain ⟨R, hR⟩ := nE (Mi s);rw [hR] at HB ⊢;clear hR;by_cases h0 : s.size = 0
 ·have HE : Hid (R = false) := by rw [Hid, HB.out, h0]; rfl
  have HS : s = ⟨#[]⟩ := by
   have h1 := HSZ.out;rw [h0] at h1;have h2 := List.eq_nil_of_length_eq_zero h1;rcases s with ⟨⟨l⟩⟩
   simp only at h2;rw [h2]
  subst HS;clear HB HSZ;exact N81
 have hpos : 0 < s.size := aa
 have hne : (s.toList == []) = false := by
  rw [beq_eq_false_iff_ne];intro h;have : s.data.toList = [] := by rw [← ByteArray.toList_eq]; exact h
  rw [← HSZ.out, this] at h0;exact h0 rfl
 have hne2 : ¬ s.toList = [] := by simpa using hne
 by_cases h16 : 16 < s.size
 ·have HE : Hid (R = false) := by rw [Hid, HB.out, show decide (s.size ≤ 16) = false from decide_eq_false aa]; simp
  clear HB HSZ h0;exact N81
 have hlt16 : s.size ≤ 16 := aa
 have HK0 : Hid (0 < s.data.toList.length) := by rw [Hid, HSZ.out]; exact hpos
 have HB0 : Hid (R = (decide (97 ≤ (s[0]'hpos).toNat) && s.data.toList.all Ut)) := by
  rw [Hid, HB.out, decide_eq_true hpos, decide_eq_true hlt16]
  have : s.data.toList.headD 0 = s[0]'hpos := by
   rw [List.headD_eq_head?_getD, List.head?_eq_getElem?, List.getElem?_eq_getElem HK0.out]; rfl
  rw [this]; simp
 clear HB;by_cases ha : (s[0]'hpos).toNat < 97
 ·have HE : Hid (R = false) := by rw [Hid, HB0.out, show decide (97 ≤ (s[0]'hpos).toNat) = false from decide_eq_false aa]; simp
  have ha' : ((s[0]'hpos).toNat : Int) < 97 := aa
  clear HB0 HSZ h0;exact N81
 have ha' : ¬ ((s[0]'hpos).toNat : Int) < 97 := aa
 have HE : Hid (R = s.data.toList.all Ut) := by rw [Hid, HB0.out, decide_eq_true aa]; simp
 clear HB0 h0 h16 ha;go_enter Tryz.func156, Tryz.ntmps156;go_wp2_with fail
 go_loopw [18] (fun iv wr => ∃ k : Nat, k ≤ s.size ∧ iv = .int .i64 (k : Int) ∧ R = (s.data.toList.drop k).all Ut ∧ w = wr) (fun iv _ => s.size - (intOf iv).toNat)
 case atStart => exact ⟨0, aa, rfl, HE.out, rfl⟩
 case round =>
  obtain ⟨k, hk, rfl, hgo, rfl⟩ := hrel;have HGO := hid hgo;clear hgo HE;by_cases hlt : k < s.size
  ·have HK : Hid (k < s.data.toList.length) := by rw [Hid, HSZ.out]; exact hlt
   have HR : Hid (R = (Ut (s[k]'hlt) && (s.data.toList.drop (k + 1)).all Ut)) := by
    rw [Hid, HGO.out, List.drop_eq_getElem_cons HK.out, List.all_cons]; rfl
   have hb := (s[k]'hlt).toNat_lt;have HN : Hid (Ut (s[k]'hlt) = ((decide (97 ≤ (s[k]'hlt).toNat) && decide ((s[k]'hlt).toNat ≤ 122)) || (decide (48 ≤ (s[k]'hlt).toNat) && decide ((s[k]'hlt).toNat ≤ 57)))) := rfl;rcases (show (97 ≤ (s[k]'hlt).toNat ∧ (s[k]'hlt).toNat ≤ 122) ∨ ((s[k]'hlt).toNat < 97 ∧ 48 ≤ (s[k]'hlt).toNat ∧ (s[k]'hlt).toNat ≤ 57) ∨ ((s[k]'hlt).toNat < 97 ∧ (s[k]'hlt).toNat < 48) ∨ ((s[k]'hlt).toNat < 97 ∧ 57 < (s[k]'hlt).toNat) ∨ (122 < (s[k]'hlt).toNat) from aa) with ⟨h1, h2⟩ | ⟨h1, h2, h3⟩ | ⟨h1, h2⟩ | ⟨h1, h2⟩ | h1
   ·have f0 : ¬ ((s[k]'hlt).toNat : Int) < 97 := by omega
    have f1 : ¬ (122 : Int) < ((s[k]'hlt).toNat : Int) := aa
    have HG : Hid (R = (s.data.toList.drop (k + 1)).all Ut) := by
     rw [Hid, HR.out, HN.out];rw [decide_eq_true (show 97 ≤ (s[k]'hlt).toNat from aa), decide_eq_true (show (s[k]'hlt).toNat ≤ 122 from aa)]; simp
    exact N84
   ·have f0 : ((s[k]'hlt).toNat : Int) < 97 := by omega
    have f1 : ¬ ((s[k]'hlt).toNat : Int) < 48 := aa
    have f2 : ¬ (57 : Int) < ((s[k]'hlt).toNat : Int) := aa
    have HG : Hid (R = (s.data.toList.drop (k + 1)).all Ut) := by
     rw [Hid, HR.out, HN.out];rw [decide_eq_false (show ¬ 97 ≤ (s[k]'hlt).toNat from aa), decide_eq_true (show 48 ≤ (s[k]'hlt).toNat from aa), decide_eq_true (show (s[k]'hlt).toNat ≤ 57 from aa)]; simp
    exact N84
   ·have f0 : ((s[k]'hlt).toNat : Int) < 97 := by omega
    have f1 : ((s[k]'hlt).toNat : Int) < 48 := aa
    have HF : Hid (R = false) := by
     rw [Hid, HR.out, HN.out];rw [decide_eq_false (show ¬ 97 ≤ (s[k]'hlt).toNat from aa), decide_eq_false (show ¬ 48 ≤ (s[k]'hlt).toNat from aa)]; simp
    exact N91
   ·have f0 : ((s[k]'hlt).toNat : Int) < 97 := by omega
    have f1 : ¬ ((s[k]'hlt).toNat : Int) < 48 := aa
    have f2 : (57 : Int) < ((s[k]'hlt).toNat : Int) := aa
    have HF : Hid (R = false) := by
     rw [Hid, HR.out, HN.out];rw [decide_eq_false (show ¬ 97 ≤ (s[k]'hlt).toNat from aa), decide_eq_false (show ¬ (s[k]'hlt).toNat ≤ 57 from aa)]; simp
    exact N91
   ·have f0 : ¬ ((s[k]'hlt).toNat : Int) < 97 := by omega
    have f1 : (122 : Int) < ((s[k]'hlt).toNat : Int) := aa
    have f2 : ¬ ((s[k]'hlt).toNat : Int) < 48 := aa
    have f3 : (57 : Int) < ((s[k]'hlt).toNat : Int) := aa
    have HF : Hid (R = false) := by
     rw [Hid, HR.out, HN.out];rw [decide_eq_false (show ¬ (s[k]'hlt).toNat ≤ 122 from aa), decide_eq_false (show ¬ (s[k]'hlt).toNat ≤ 57 from aa)]; simp
    exact N91
  ·have HF : Hid (R = true) := by
    rw [Hid, HGO.out, List.drop_of_length_le (by rw [HSZ.out]; omega)]; rfl
   clear HGO;go_wp2_with fail;go_ret;rw [HF.out]; exact ⟨rfl, rfl⟩
theorem N55{P:Prop}(h:P:=by
 go_enter Tryz.func179, Tryz.ntmps179;go_wp2_with fail;go_ret;rw [HE.out]; exact ⟨rfl, (Below.refl _ _).alloc (Nat.le_refl _) _⟩):P:=h
theorem Zde (p : Xl) (A : Option Addr) (c : Nat) (t : Int) (w : World) : Calls Tryz.prog 179 #[p.val (.slice A p.ops.length c), t] w fun e w' => e = .returned (.bool (Yh p.ops.length t)) ∧ Below w.heap.size w w' := by
 obtain ⟨nm, dl, jp, ops⟩ := p;show Calls Tryz.prog 179 #[.agg #[nm, dl, jp, .slice A ops.length c], t] w fun e w' => e = .returned (.bool (Yh ops.length t)) ∧ Below w.heap.size w w';obtain ⟨n, hn⟩ := nE (ops.length);rw [hn];by_cases h1 : t < 0
 ·have HE : Hid (Yh n t = false) := by rw [Hid, Yh, show decide (0 ≤ t) = false from decide_eq_false aa]; rfl
  have h1' : ¬ 0 ≤ t := aa
  exact N55
 by_cases h2 : t ≤ (n : Int)
 ·have HE : Hid (Yh n t = true) := by rw [Hid, Yh, decide_eq_true (show 0 ≤ t by omega), decide_eq_true h2]; rfl
  have h1' : 0 ≤ t := aa
  exact N55
 ·have HE : Hid (Yh n t = false) := by rw [Hid, Yh, decide_eq_true (show 0 ≤ t by omega), decide_eq_false h2]; rfl
  have h1' : 0 ≤ t := aa
  exact N55
theorem N86{P:Prop}(h:P:=by
 go_enter Tryz.func157, Tryz.ntmps157;go_wp2_with fail;go_ret;exact ⟨rfl, rfl⟩):P:=h
theorem Ze4 (n a b : Int) (w : World) : Calls Tryz.prog 157 #[n, a, b] w fun e w' => e = .returned (.bool (decide (a ≤ n) && decide (n ≤ b))) ∧ w = w' := by
 by_cases h1 : a ≤ n
 ·by_cases h2 : n ≤ b
  ·rw [decide_eq_true h1, decide_eq_true h2]
   exact N86
  ·rw [decide_eq_true h1, decide_eq_false h2]
   exact N86
 ·rw [decide_eq_false h1]
  exact N86
theorem N87{P:Prop}(h:P:=by
 go_enter Tryz.func158, Tryz.ntmps158;go_wp2_with fail;go_ret;exact ⟨rfl, rfl⟩):P:=h
theorem Znm (n a b : Int) (w : World) : Calls Tryz.prog 158 #[n, a, b] w fun e w' => e = .returned (.bool (decide (a ≤ n) && decide (n ≤ b))) ∧ w = w' := by
 by_cases h1 : a ≤ n
 ·by_cases h2 : n ≤ b
  ·rw [decide_eq_true h1, decide_eq_true h2]
   exact N87
  ·rw [decide_eq_true h1, decide_eq_false h2]
   exact N87
 ·rw [decide_eq_false h1]
  exact N87
theorem N69{P:Prop}(h:P:=by
 go_wp2_with fail
 go_quiet (fail)
 have HB3 := hid (HBL.trans ((Zq wr nq).mono HBL.size));go_wp2_with fail;go_ret;rw [HS2.out]; exact ⟨rfl, HB3.out⟩):P:=h
theorem Zlm (A B : Option Addr) (n m c d : Nat) (l k : List Vd) (w : World) (hl : l.length = n) (hk : k.length = m) (hnb : n ≤ 9223372036854775807) (ha : Rd w A (Zz l)) (hb : Rd w B (Zz k)) :
  Calls Tryz.prog 199 #[.slice A n c, .slice B m d] w fun e w' => e = .returned (.bool (decide (l = k))) ∧ Below w.heap.size w w' := by
 by_cases hnm : n = m
 ·subst hnm
  have HL := hid hl; have HK := hid hk; have HA := hid ha; have HB := hid hb;have hne : ((n : Int) != (n : Int)) = false := ah
  obtain ⟨R, hR⟩ := nE (decide (l = k));have HR : Hid (R = decide (l.drop 0 = k.drop 0)) := by rw [Hid, ← hR]; rfl
  rw [hR];clear hl hk ha hb hR;go_enter Tryz.func199, Tryz.ntmps199;go_wp2_with fail
  go_loopw [13] (fun iv wr => ∃ i : Nat, i ≤ n ∧ iv = .int .i64 (i : Int) ∧ R = decide (l.drop i = k.drop i) ∧ Below w.heap.size w wr) (fun iv _ => n - (intOf iv).toNat)
  case atStart => exact ⟨0, aa, rfl, HR.out, Below.refl _ _⟩
  case round =>
   obtain ⟨i, hi, rfl, hr, hbl⟩ := hrel;have HRR := hid hr; have HBL := hid hbl;clear hr hbl HR;by_cases hlt : i < n
   ·have h1 : i < l.length := by rw [HL.out]; exact hlt
    have h2 : i < k.length := by rw [HK.out]; exact hlt
    obtain ⟨b1, o1, rfl, hbl1, hc1⟩ := (HA.below HBL.out).at (by rw [Xs, HL.out]; omega);obtain ⟨b2, o2, rfl, hbl2, hc2⟩ := (HB.below HBL.out).at (by rw [Xs, HK.out]; omega);obtain ⟨p0, p1⟩ := Zbu hc1 i h1;obtain ⟨q0, q1⟩ := Zbu hc2 i h2
    have HS : Hid (R = decide (l[i] = k[i] ∧ l.drop (i + 1) = k.drop (i + 1))) := by
     rw [Hid, HRR.out, List.drop_eq_getElem_cons h1, List.drop_eq_getElem_cons h2, decide_eq_decide, List.cons.injEq]
    obtain ⟨⟨sa, ta⟩, hxa⟩ : ∃ x, l[i]'h1 = x := ⟨_, rfl⟩;obtain ⟨⟨sb, tb⟩, hxb⟩ : ∃ x, k[i]'h2 = x := ⟨_, rfl⟩;rw [hxa] at p0 p1 HS;rw [hxb] at q0 q1 HS;simp only at p0 p1 q0 q1;clear hxa hxb hc1 hc2 h1 h2 HRR;by_cases hs : sa = sb
    ·subst hs
     by_cases ht : ta = tb
     ·subst ht
      have HS2 : Hid (R = decide (l.drop (i + 1) = k.drop (i + 1))) := by rw [Hid, HS.out]; simp
      clear HS;go_wp2_with fail
      go_quiet (fail)
      have HB3 := hid (HBL.trans ((Zq wr nq).mono HBL.size));go_wp2_with fail;go_roundw
      case rel => exact ⟨i + 1, aa, aw, HS2.out, HB3.out⟩
      case measure => simp [intOf]; omega
     ·have HS2 : Hid (R = false) := by rw [Hid, HS.out]; simp [ht]
      have ht0 : ((ta : Int) == tb) = false := by simp [ht]
      clear HS ht;exact N69
    ·have HS2 : Hid (R = false) := by rw [Hid, HS.out]; simp [hs]
     have hs0 : (sa.toList == sb.toList) = false := by
      rw [beq_eq_false_iff_ne]; exact Jg hs
     have hs1 : ¬ sa.toList = sb.toList := Jg hs;clear HS hs;exact N69
   ·have HS2 : Hid (R = true) := by
     rw [Hid, HRR.out, List.drop_of_length_le bj, List.drop_of_length_le (by rw [HK.out]; omega)]; rfl
    clear HRR;go_wp2_with fail;go_ret;rw [HS2.out]; exact ⟨rfl, HBL.out⟩
 ·have HE : Hid (decide (l = k) = false) := decide_eq_false (fun h => hnm (by rw [← hl, ← hk, h]))
  have hne : ((n : Int) != (m : Int)) = true := af
  have hne2 : ((n : Int) == (m : Int)) = false := af
  clear hl hk ha hb;go_enter Tryz.func199, Tryz.ntmps199;go_wp2_with fail;go_ret;rw [HE.out]; exact ⟨rfl, Below.refl _ _⟩
theorem Uu (w : World) (a b : Obj) : Below w.heap.size w ((w.alloc a).alloc b) := ((Below.refl _ _).alloc (Nat.le_refl _) _).alloc ah _
theorem Qq (w : World) (a b c : Obj) : Below w.heap.size w (((w.alloc a).alloc b).alloc c) := (Uu w a b).alloc af _
theorem Zrb (w : World) (a b c : Obj) : Below w.heap.size w (((w.alloc a).alloc b).alloc c).drew := (Qq w a b c).trans ((Zq _ 1).mono (Qq w a b c).size)
def Ni (o : OpV) : OpV :=
 if o.kind = 1 then ⟨1, o.text, 0, 0, [], 0, 0⟩ else if o.kind = 2 then ⟨2, ⟨#[]⟩, o.n, 0, o.arms, o.onT, o.onE⟩ else if o.kind = 3 then ⟨3, ⟨#[]⟩, 0, o.tt, [], 0, 0⟩ else
 if o.kind = 4 then ⟨4, ⟨#[]⟩, o.n, 0, [], 0, 0⟩ else ⟨o.kind, ⟨#[]⟩, 0, 0, [], 0, 0⟩
def Zbj (o : OpV) (v : Value) : Value := if o.kind = 2 then v else .slice none 0 0
theorem Zqc {w : World} {o : OpV} {v : Value} (h : Xj w o v) : Xj w (Ni o) (Zbj o v) := by
 by_cases h2 : o.kind = 2
 ·have e1 : Ni o = ⟨2, ⟨#[]⟩, o.n, 0, o.arms, o.onT, o.onE⟩ := by simp [Ni, h2]
  have e2 : Zbj o v = v := by simp [Zbj, h2]
  rw [e1, e2]; exact h
 ·have e2 : Zbj o v = .slice none 0 0 := by simp [Zbj, h2]
  have e1 : (Ni o).arms = [] := by
   unfold Ni;split
   ·rfl
   ·first | (rw [if_neg h2]; split <;> (try split) <;> rfl) | (split <;> (try split) <;> (try split) <;> simp_all)
  rw [e2];exact ⟨none, 0, by rw [e1]; rfl, .inl (by rw [e1]; rfl)⟩
theorem Zqb (o : OpV) (v : Value) (hv : ∃ A n c, v = .slice A n c) (w : World) : Calls Tryz.prog 177 #[o.val v] w fun e w' => e = .returned ((Ni o).val (Zbj o v)) ∧ Below w.heap.size w w' := by
 obtain ⟨A, n, c, rfl⟩ := hv;obtain ⟨k, tx, nn, tt, arms, oT, oE⟩ := o;by_cases h1 : k = 1
 ·subst h1
  show Calls Tryz.prog 177 #[.agg #[.int .i64 1, tx, nn, tt, .slice A n c, oT, oE]] w fun e w' => e = .returned (.agg #[.int .i64 1, tx, .int .i64 0, .int .i64 0, .slice none 0 0, .int .i64 0, .int .i64 0]) ∧ Below w.heap.size w w';go_enter Tryz.func177, Tryz.ntmps177;go_wp2_with fail;exact bodyPost_ret (v := .agg #[.int .i64 1, tx, .int .i64 0, .int .i64 0, .slice none 0 0, .int .i64 0, .int .i64 0]) cz rfl ⟨rfl, Qq _ _ _ _⟩
 by_cases h2 : k = 2
 ·subst h2
  show Calls Tryz.prog 177 #[.agg #[.int .i64 2, tx, nn, tt, .slice A n c, oT, oE]] w fun e w' => e = .returned (.agg #[.int .i64 2, .string ⟨#[]⟩, nn, .int .i64 0, .slice A n c, oT, oE]) ∧ Below w.heap.size w w';go_enter Tryz.func177, Tryz.ntmps177;go_wp2_with fail
  go_region
  go_wp2_with fail;exact bodyPost_ret (v := .agg #[.int .i64 2, .string ⟨#[]⟩, nn, .int .i64 0, .slice A n c, oT, oE]) cz rfl ⟨rfl, Zrb _ _ _ _⟩
 by_cases h3 : k = 3
 ·subst h3
  show Calls Tryz.prog 177 #[.agg #[.int .i64 3, tx, nn, tt, .slice A n c, oT, oE]] w fun e w' => e = .returned (.agg #[.int .i64 3, .string ⟨#[]⟩, .int .i64 0, tt, .slice none 0 0, .int .i64 0, .int .i64 0]) ∧ Below w.heap.size w w';go_enter Tryz.func177, Tryz.ntmps177;go_wp2_with fail;exact bodyPost_ret (v := .agg #[.int .i64 3, .string ⟨#[]⟩, .int .i64 0, tt, .slice none 0 0, .int .i64 0, .int .i64 0]) cz rfl ⟨rfl, Qq _ _ _ _⟩
 by_cases h4 : k = 4
 ·subst h4
  show Calls Tryz.prog 177 #[.agg #[.int .i64 4, tx, nn, tt, .slice A n c, oT, oE]] w fun e w' => e = .returned (.agg #[.int .i64 4, .string ⟨#[]⟩, nn, .int .i64 0, .slice none 0 0, .int .i64 0, .int .i64 0]) ∧ Below w.heap.size w w';go_enter Tryz.func177, Tryz.ntmps177;go_wp2_with fail;exact bodyPost_ret (v := .agg #[.int .i64 4, .string ⟨#[]⟩, nn, .int .i64 0, .slice none 0 0, .int .i64 0, .int .i64 0]) cz rfl ⟨rfl, Qq _ _ _ _⟩
 have e1 : Ni ⟨k, tx, nn, tt, arms, oT, oE⟩ = ⟨k, ⟨#[]⟩, 0, 0, [], 0, 0⟩ := by simp [Ni, h1, h2, h3, h4]
 have e2 : Zbj ⟨k, tx, nn, tt, arms, oT, oE⟩ (.slice A n c) = .slice none 0 0 := by simp [Zbj, h2]
 rw [e1, e2];show Calls Tryz.prog 177 #[.agg #[k, tx, nn, tt, .slice A n c, oT, oE]] w fun e w' => e = .returned (.agg #[k, .string ⟨#[]⟩, .int .i64 0, .int .i64 0, .slice none 0 0, .int .i64 0, .int .i64 0]) ∧ Below w.heap.size w w';have g1 : ((k : Int) == 1) = false := by simp [h1]
 have g2 : ((k : Int) == 2) = false := by simp [h2]
 have g3 : ((k : Int) == 3) = false := by simp [h3]
 have g4 : ((k : Int) == 4) = false := by simp [h4]
 clear e1 e2 h1 h2 h3 h4;go_enter Tryz.func177, Tryz.ntmps177;go_wp2_with fail;exact bodyPost_ret (v := .agg #[k, .string ⟨#[]⟩, .int .i64 0, .int .i64 0, .slice none 0 0, .int .i64 0, .int .i64 0]) cz rfl ⟨rfl, Qq _ _ _ _⟩
def Zet (a b : OpV) : Bool := decide (a = b)
theorem N142{P:Prop}(h:P:=by
 go_wp2_with fail;go_ret;rw [HF.out]; exact ⟨rfl, Uu _ _ _⟩):P:=h
theorem N37{P:Prop}(h:P:=by
 go_enter Tryz.func176, Tryz.ntmps176;exact N142):P:=h
theorem Zkm (a b : OpV) (va vb : Value) (w : World) (ha : Xj w a va) (hb : Xj w b vb) (hn : a.arms.length ≤ 9223372036854775807) : Calls Tryz.prog 176 #[a.val va, b.val vb] w fun e w' => e = .returned (.bool (Zet a b)) ∧ Below w.heap.size w w' := by
 obtain ⟨A, c, rfl, ha⟩ := ha;obtain ⟨B, d, rfl, hb⟩ := hb;obtain ⟨ka, ta, na, oa, la, ua, ea⟩ := a;obtain ⟨kb, tb, nb, ob, lb, ub, eb⟩ := b;simp only at ha hb hn;obtain ⟨n, hln⟩ := nE (la.length);obtain ⟨m, hlm⟩ := nE (lb.length);rw [hln] at hn;have C := hid (fun W h => Zlm A B n m c d la lb W hln hlm hn (ha.below h) (hb.below h));show Calls Tryz.prog 176 #[.agg #[ka, ta, na, oa, .slice A la.length c, ua, ea], .agg #[kb, tb, nb, ob, .slice B lb.length d, ub, eb]] w fun e w' => e = .returned (.bool (Zet ⟨ka, ta, na, oa, la, ua, ea⟩ ⟨kb, tb, nb, ob, lb, ub, eb⟩)) ∧ Below w.heap.size w w';obtain ⟨R, hR⟩ := nE (Zet ⟨ka, ta, na, oa, la, ua, ea⟩ ⟨kb, tb, nb, ob, lb, ub, eb⟩);have HR : Hid (R = decide (ka = kb ∧ ta = tb ∧ na = nb ∧ oa = ob ∧ la = lb ∧ ua = ub ∧ ea = eb)) := by rw [Hid, ← hR, Zet, decide_eq_decide]; simp
 rw [hR, hln, hlm];clear hR hln hlm ha hb hn;by_cases c0 : ka = kb;rotate_left
 ·have HF : Hid (R = false) := by rw [Hid, HR.out]; simp [c0]
  have g0 : ((ka : Int) == kb) = false := by simp [c0]
  clear HR C c0;exact N37
 subst c0;by_cases c1 : ta = tb;rotate_left
 ·have HF : Hid (R = false) := by rw [Hid, HR.out]; simp [c1]
  have g1 : (ta.toList == tb.toList) = false := by rw [beq_eq_false_iff_ne]; exact Jg c1
  have k1 : ¬ ta.toList = tb.toList := Jg c1;clear HR C c1;exact N37
 subst c1;by_cases c2 : na = nb;rotate_left
 ·have HF : Hid (R = false) := by rw [Hid, HR.out]; simp [c2]
  have g2 : ((na : Int) == nb) = false := by simp [c2]
  clear HR C c2;exact N37
 subst c2;by_cases c3 : oa = ob;rotate_left
 ·have HF : Hid (R = false) := by rw [Hid, HR.out]; simp [c3]
  have g3 : ((oa : Int) == ob) = false := by simp [c3]
  clear HR C c3;exact N37
 subst c3;by_cases c4 : ua = ub;rotate_left
 ·have HF : Hid (R = false) := by rw [Hid, HR.out]; simp [c4]
  have g4 : ((ua : Int) == ub) = false := by simp [c4]
  clear HR C c4;exact N37
 subst c4;by_cases c5 : ea = eb;rotate_left
 ·have HF : Hid (R = false) := by rw [Hid, HR.out]; simp [c5]
  have g5 : ((ea : Int) == eb) = false := by simp [c5]
  clear HR C c5;exact N37
 subst c5;have HF : Hid (R = decide (la = lb)) := by rw [Hid, HR.out, decide_eq_decide]; simp
 clear HR;go_enter Tryz.func176, Tryz.ntmps176;go_wp2_with fail;refine (C.out _ (Uu _ _ _)).mono ?_;rintro en w1 ⟨rfl, hb1⟩;have HB := hid ((Uu _ _ _).trans (hb1.mono (Uu _ _ _).size));clear hb1 C;obtain ⟨q, hq⟩ := nE (decide (la = lb));rw [hq] at HF ⊢;clear hq;cases q <;>
 ·go_wp2_with fail
  go_ret;rw [HF.out]; exact ⟨rfl, HB.out⟩
theorem Zl4 {w : World} {g : Nat} {t : TypeId} {a b : Value} (h : Blk w g t #[a, b]) : w.cell? ⟨g, 0, none⟩ = some a ∧ w.cell? ⟨g, 1, none⟩ = some b := ⟨h.cell 0, h.cell 1⟩
theorem Wc {w : World} {g : Nat} {t : TypeId} {a b c d : Value} (h : Blk w g t #[a, b, c, d]) : w.cell? ⟨g, 0, none⟩ = some a ∧ w.cell? ⟨g, 1, none⟩ = some b ∧ w.cell? ⟨g, 2, none⟩ = some c ∧ w.cell? ⟨g, 3, none⟩ = some d :=
 ⟨h.cell 0, h.cell 1, h.cell 2, h.cell 3⟩
theorem Qo {w : World} {g : Nat} {t : TypeId} {a b c d e f i : Value} (h : Blk w g t #[a, b, c, d, e, f, i]) : w.cell? ⟨g, 0, none⟩ = some a ∧ w.cell? ⟨g, 1, none⟩ = some b ∧ w.cell? ⟨g, 2, none⟩ = some c ∧ w.cell? ⟨g, 3, none⟩ = some d ∧
  w.cell? ⟨g, 4, none⟩ = some e ∧ w.cell? ⟨g, 5, none⟩ = some f ∧ w.cell? ⟨g, 6, none⟩ = some i :=
 ⟨h.cell 0, h.cell 1, h.cell 2, h.cell 3, h.cell 4, h.cell 5, h.cell 6⟩
theorem Gz (w : World) (o : Obj) (t : TypeId) (cs : Array Value) : Blk ((w.alloc o).alloc (.cells cs t)) (w.heap.size + 1) t cs := by
 have := Blk.new (w.alloc o) t cs;simpa using this
theorem Zn6 (p : Xl) (A : Option Addr) (c : Nat) (m : Vd) (w : World) : Calls Tryz.prog 200 #[p.val (.slice A p.ops.length c), .agg #[m.pat, m.tt]] w fun e w' => e = .returned ((Zbe p.ops.length m : Nat) : Int) ∧ Below w.heap.size w w' := by
 obtain ⟨nm, dl, jp, ops⟩ := p;obtain ⟨pat, t⟩ := m;have C2 := hid (fun W => Zde ⟨nm, dl, jp, ops⟩ A c t W);have HE : Hid (Zbe ops.length ⟨pat, t⟩ = if 64 < pat.size then 4 else if (Xi pat).2.2 ≠ 0 then (Xi pat).2.2 else if Yh ops.length t = false then 13 else 0) := rfl;have C2' : Hid (∀ W, Calls Tryz.prog 179 #[.agg #[nm, dl, jp, .slice A ops.length c], t] W fun e w' => e = .returned (.bool (Yh ops.length t)) ∧ Below W.heap.size W w') := C2.out;clear C2;show Calls Tryz.prog 200 #[.agg #[nm, dl, jp, .slice A ops.length c], .agg #[pat, t]] w fun e w' => e = .returned ((Zbe ops.length ⟨pat, t⟩ : Nat) : Int) ∧ Below w.heap.size w w';obtain ⟨n, hn⟩ := nE (ops.length);rw [hn] at C2' HE ⊢;obtain ⟨R, hR⟩ := nE (Zbe n ⟨pat, t⟩);rw [hR] at HE ⊢;clear hn hR;by_cases h64 : 64 < pat.size
 ·have HF : Hid (R = 4) := by rw [Hid, HE.out, if_pos h64]
  have h64' : (64 : Int) < (pat.size : Int) := aa
  clear HE C2';go_enter Tryz.func200, Tryz.ntmps200;exact N142
 have h64' : ¬ (64 : Int) < (pat.size : Int) := aa
 have C1 := hid (fun W => Zjy pat aa W);have HE2 : Hid (R = if (Xi pat).2.2 ≠ 0 then (Xi pat).2.2 else if Yh n t = false then 13 else 0) := by rw [Hid, HE.out, if_neg h64]
 obtain ⟨⟨l, a, e⟩, hck⟩ : ∃ q, Xi pat = q := ⟨_, rfl⟩;rw [hck] at C1 HE2;simp only at C1 HE2;clear HE hck h64;have HBX : Hid (Blk ((w.alloc (.cells #[nm, dl, jp, .slice A n c] 26)).alloc (.cells #[pat, t] 99)) w.heap.size 26 #[nm, dl, jp, .slice A n c]) := (Blk.new w _ _).alloc _;have HMX : Hid (Blk ((w.alloc (.cells #[nm, dl, jp, .slice A n c] 26)).alloc (.cells #[pat, t] 99)) (w.heap.size + 1) 99 #[pat, t]) := Gz _ _ _ _;have HB0 : Hid (Below w.heap.size w ((w.alloc (.cells #[nm, dl, jp, .slice A n c] 26)).alloc (.cells #[pat, t] 99))) := Uu _ _ _;go_enter Tryz.func200, Tryz.ntmps200;go_wp2_with fail;refine (C1.out _).mono ?_;rintro en w1 ⟨rfl, hb1⟩;have HB1 := bt HB0 hb1;obtain ⟨p0, p1, p2, p3⟩ := Wc (HBX.below hb1 HBX.lt);obtain ⟨m0, m1⟩ := Zl4 (HMX.below hb1 HMX.lt);have hl1 : w.heap.size < w1.heap.size := Nat.lt_of_lt_of_le HBX.lt hb1.size;have hl2 : w.heap.size + 1 < w1.heap.size := Nat.lt_of_lt_of_le HMX.lt hb1.size;clear C1 hb1 HB0 HBX HMX;by_cases he : e = 0
 ·subst he
  have HE3 : Hid (R = if Yh n t = false then 13 else 0) := by rw [Hid, HE2.out, if_neg ah]
  clear HE2;go_wp2_with fail;refine (C2'.out _).mono ?_;rintro en w2 ⟨rfl, hb2⟩;have HB2 := bt HB1 hb2;clear C2' hb2 HB1;obtain ⟨q, hq⟩ := nE (Yh n t);rw [hq] at HE3 ⊢;clear hq;cases q
  ·go_wp2_with fail
   go_ret;rw [HE3.out]; exact ⟨rfl, HB2.out⟩
  ·go_wp2_with fail
   go_ret;rw [HE3.out]; exact ⟨rfl, HB2.out⟩
 ·have he0 : ((e : Int) == 0) = false := bF aa
  have he1 : ((e : Int) != 0) = true := ft
  have HF : Hid (R = e) := by rw [Hid, HE2.out, if_pos he]
  clear he HE2 C2';go_wp2_with fail;go_ret;rw [HF.out]; exact ⟨rfl, HB1.out⟩
theorem N141{P:Prop}(h:P:=by
 clear HF;go_wp2_with fail;go_ret;rw [HZ.out]; exact ⟨rfl, HB0.trans (HBQ2.mono HB0.size)⟩):P:=h
theorem N139{P:Prop}(h:P:=by
 clear HAS;go_wp2_with fail;go_roundw
 case rel => exact ⟨i + 1, aa, aw, HAS2.out, HB2.out⟩
 case measure => simp [intOf]; omega):P:=h
theorem N138{P:Prop}(h:P:=by
 go_wp2_with fail;go_roundw
 case rel => exact ⟨1, aa, aw, fun _ => HLL.out, fun h => aa, HBW2.out⟩
 case measure => simp [intOf]):P:=h
theorem N136{P:Prop}(h:P:=by
 go_wp2_with fail;go_roundw
 case rel => exact ⟨2, aa, aw, fun _ => HL1.out aa, fun _ => HLL.out, HBW2.out⟩
 case measure => simp [intOf]):P:=h
theorem N2{P:Prop}(h:P:=by
 by_cases h8 : 8 < m
 ·have HF : Hid (R = 4) := by rw [Hid, HE1.out, if_pos h8]
  have h8' : (8 : Int) < (m : Int) := aa
  clear HE1 C2' C3';go_wp2_with fail;go_ret;rw [HF.out]; exact ⟨rfl, HB0.out⟩
 have h8' : ¬ (8 : Int) < (m : Int) := aa
 have HE2 : Hid (R = if Wd n arms ≠ 0 then Wd n arms else if Uj n oT = true ∨ Uj n oE = true then 13 else 0) := by rw [Hid, HE1.out, if_neg h8]
 clear HE1;go_wp2_with fail
 go_loopw [28] (fun iv wr => ∃ i : Nat, i ≤ m ∧ iv = .int .i64 (i : Int) ∧ Wd n (arms.drop i) = Wd n arms ∧ Below wb.heap.size wb wr) (fun iv _ => m - (intOf iv).toNat)
 case atStart => exact ⟨0, aa, rfl, rfl, Below.refl _ _⟩
 case round =>
  obtain ⟨i, hi, rfl, hae, hb⟩ := hrel;have HAE := hid hae; have HB := hid hb;clear hae hb o0 o1 o2 o3 o4 o5 o6 hol;have hsz := HB.size;have hfa := HFACT.out wr HB.out;obtain ⟨p0, p1, p2, p3⟩ := Wc hfa.1;obtain ⟨o0, o1, o2, o3, o4, o5, o6⟩ := Qo hfa.2;have hpl := hfa.1.lt;have hol := hfa.2.lt;clear hfa;by_cases hlt : i < m
  ·have HK : Hid (i < arms.length) := by rw [Hid, HM.out]; exact hlt
   obtain ⟨b1, off1, rfl, hbl, hc⟩ := (HRB.below HB.out).at (by rw [Xs, HM.out]; omega);obtain ⟨d0, d1⟩ := Zbu hc i HK.out
   have HAS : Hid (Wd n arms = if Zbe n (arms[i]'HK.out) ≠ 0 then Zbe n (arms[i]'HK.out) else Wd n (arms.drop (i + 1))) := by
    rw [Hid, ← HAE.out, List.drop_eq_getElem_cons HK.out, Wd]
   have CA := hid (C3'.out (arms[i]'HK.out));obtain ⟨⟨pa, ta⟩, hx⟩ : ∃ x, arms[i]'HK.out = x := ⟨_, rfl⟩;rw [hx] at d0 d1 HAS CA;simp only at d0 d1 CA;obtain ⟨e, he⟩ := nE (Zbe n ⟨pa, ta⟩);rw [he] at HAS CA;clear hx he hc HAE;go_upto_region 8 with fail;obtain ⟨wx, hwx⟩ := nE (wr.alloc (.cells #[pa, ta] 99));have HBX : Hid (Below wb.heap.size wb wx) := hwx ▸ HB.alloc HB.size _;have HAX := bn hwx;rw [hwx];clear hwx p0 p1 p2 p3 o0 o1 o2 o3 o4 o5 o6 hol hpl d0 d1;obtain ⟨ga, hga⟩ := nE (wr.heap.size);rw [hga] at HAX ⊢;clear hga;have hfa := HFACT.out wx HBX.out;obtain ⟨p0, p1, p2, p3⟩ := Wc hfa.1;have hpl := hfa.1.lt;obtain ⟨a0, a1⟩ := Zl4 HAX.out;have hal := HAX.lt;clear hfa;go_wp2_with fail;refine (CA.out _).mono ?_;rintro en w2 ⟨rfl, hb2⟩;have HB2 := bt HBX hb2;clear hb2 CA HBX HAX p0 p1 p2 p3 a0 a1 hpl hal hsz;by_cases he : e = 0
   ·subst he
    have HAS2 : Hid (Wd n (arms.drop (i + 1)) = Wd n arms) := by rw [Hid, HAS.out, if_neg ah]
    exact N139
   ·have he0 : ((e : Int) == 0) = false := bF aa
    have he1 : ((e : Int) != 0) = true := ft
    have HF : Hid (R = e) := by
     have h1 : Wd n arms = e := by rw [HAS.out, if_pos he]
     rw [Hid, HE2.out, h1, if_pos he]
    clear he HAS HE2;go_wp2_with fail;go_ret;rw [HF.out]; exact ⟨rfl, HB0.trans (HB2.mono HB0.size)⟩
  ·have HF : Hid (R = if Uj n oT = true ∨ Uj n oE = true then 13 else 0) := by
    have h1 : Wd n arms = 0 := kh
    rw [Hid, HE2.out, h1, if_neg ah]
   clear HAE HE2 C3' HRB;have HB1 := hid (HB0.trans (HB.mono HB0.size))
   -- the two ops that come then
   go_upto_region 13 with fail;obtain ⟨ws, hws⟩ := nE (wr.alloc (.cells #[oT, oE] 3));have HBS : Hid (Below wb.heap.size wb ws) := hws ▸ HB.alloc HB.size _;have HSX := bn hws;rw [hws];clear hws p0 p1 p2 p3 o0 o1 o2 o3 o4 o5 o6 hol hpl;obtain ⟨gs, hgs⟩ := nE (wr.heap.size);rw [hgs] at HSX ⊢;clear hgs HB1 HB;go_wp2_with fail
   go_loopw [45] (fun iv wr => ∃ i : Nat, i ≤ 2 ∧ iv = .int .i64 (i : Int) ∧ (1 ≤ i → Uj n oT = false) ∧ (2 ≤ i → Uj n oE = false) ∧ Below ws.heap.size ws wr) (fun iv _ => 2 - (intOf iv).toNat)
   case atStart => exact ⟨0, aa, rfl, fun h => aa, fun h => aa, Below.refl _ _⟩
   case round =>
    obtain ⟨i, hi2, rfl, hl1, hl2, hb⟩ := hrel;have HL1 := hid hl1; have HL2 := hid hl2;have HBQ : Hid (Below wb.heap.size wb wr) := HBS.trans (hb.mono HBS.size);have HBW := hid hb;have hfa := HFACT.out wr HBQ.out;obtain ⟨p0, p1, p2, p3⟩ := Wc hfa.1;have hpl := hfa.1.lt;have hsb := HSX.below hb HSX.lt;obtain ⟨s0, s1⟩ := Zl4 hsb;have hsl := hsb.lt;clear hfa hsb hl1 hl2 hb;rcases (show i = 0 ∨ i = 1 ∨ i = 2 by omega) with rfl | rfl | rfl
    ·have HLE : Hid (Uj n oT = (decide (oT ≠ -1) && !Yh n oT)) := rfl
     by_cases hm1 : oT = -1
     ·have HLL : Hid (Uj n oT = false) := by rw [Hid, HLE.out, decide_eq_false (fun h => h hm1)]; rfl
      have hm2 : (oT != -1) = false := iz
      have hm3 : (oT == -1) = true := iz
      have HBW2 := HBW;clear HLE hm1 HF C2';exact N138
     ·have HLL : Hid (Uj n oT = !Yh n oT) := by rw [Hid, HLE.out, decide_eq_true hm1]; rfl
      have hm2 : (oT != -1) = true := iz
      have hm3 : (oT == -1) = false := iz
      have CC := hid (C2'.out oT);obtain ⟨q, hq⟩ := nE (Yh n oT);rw [hq] at HLL CC;clear HLE hm1 hq;go_wp2_with fail;refine (CC.out _).mono ?_;rintro en w5 ⟨rfl, hb5⟩;have HBW2 := bt HBW hb5;have HBQ2 := bt HBQ hb5;clear hb5 CC HBW HBQ p0 p1 p2 p3 s0 s1 hsl hpl;cases q
      ·have HZ : Hid (R = 13) := by rw [Hid, HF.out, if_pos]; exact .inl HLL.out
       exact N141
      ·clear HF
       exact N138
    ·have HLE : Hid (Uj n oE = (decide (oE ≠ -1) && !Yh n oE)) := rfl
     by_cases hm1 : oE = -1
     ·have HLL : Hid (Uj n oE = false) := by rw [Hid, HLE.out, decide_eq_false (fun h => h hm1)]; rfl
      have hm2 : (oE != -1) = false := iz
      have hm3 : (oE == -1) = true := iz
      have HBW2 := HBW;clear HLE hm1 HF C2';exact N136
     ·have HLL : Hid (Uj n oE = !Yh n oE) := by rw [Hid, HLE.out, decide_eq_true hm1]; rfl
      have hm2 : (oE != -1) = true := iz
      have hm3 : (oE == -1) = false := iz
      have CC := hid (C2'.out oE);obtain ⟨q, hq⟩ := nE (Yh n oE);rw [hq] at HLL CC;clear HLE hm1 hq;go_wp2_with fail;refine (CC.out _).mono ?_;rintro en w5 ⟨rfl, hb5⟩;have HBW2 := bt HBW hb5;have HBQ2 := bt HBQ hb5;clear hb5 CC HBW HBQ p0 p1 p2 p3 s0 s1 hsl hpl;cases q
      ·have HZ : Hid (R = 13) := by rw [Hid, HF.out, if_pos]; exact .inr HLL.out
       exact N141
      ·clear HF
       exact N136
    ·have HZ : Hid (R = 0) := by rw [Hid, HF.out, if_neg]; rintro (h | h); rw [HL1.out aa] at h; cases h; rw [HL2.out aa] at h; cases h
     clear HF;go_wp2_with fail;go_ret;rw [HZ.out]; exact ⟨rfl, HB0.trans (HBQ.mono HB0.size)⟩):P:=h
theorem Zll (p : Xl) (A : Option Addr) (c : Nat) (o : OpV) (v : Value) (w : World) (hv : Xj w o v) : Calls Tryz.prog 178 #[p.val (.slice A p.ops.length c), o.val v] w fun e w' => e = .returned ((Vp p.ops.length o : Nat) : Int) ∧ Below w.heap.size w w' := by
 obtain ⟨nm, dl, jp, ops⟩ := p;obtain ⟨B, d, rfl, hr⟩ := hv;obtain ⟨k, tx, nn, tt, arms, oT, oE⟩ := o;have C2 := hid (fun t W => Zde ⟨nm, dl, jp, ops⟩ A c t W);have C3 := hid (fun m W => Zn6 ⟨nm, dl, jp, ops⟩ A c m W);have C2' : Hid (∀ (t : Int) W, Calls Tryz.prog 179 #[.agg #[nm, dl, jp, .slice A ops.length c], t] W fun e w' => e = .returned (.bool (Yh ops.length t)) ∧ Below W.heap.size W w') := C2.out;have C3' : Hid (∀ (m : Vd) W, Calls Tryz.prog 200 #[.agg #[nm, dl, jp, .slice A ops.length c], .agg #[m.pat, m.tt]] W fun e w' => e = .returned ((Zbe ops.length m : Nat) : Int) ∧ Below W.heap.size W w') := C3.out;clear C2 C3;have HE : Hid (Vp ops.length ⟨k, tx, nn, tt, arms, oT, oE⟩ = if nn ≠ Vj ∧ Wp nn = false then 12 else if 8 < arms.length then 4 else if Wd ops.length arms ≠ 0 then Wd ops.length arms else if Uj ops.length oT = true ∨ Uj ops.length oE = true then 13 else 0) := rfl;show Calls Tryz.prog 178 #[.agg #[nm, dl, jp, .slice A ops.length c], .agg #[k, tx, nn, tt, .slice B arms.length d, oT, oE]] w fun e w' => e = .returned ((Vp ops.length ⟨k, tx, nn, tt, arms, oT, oE⟩ : Nat) : Int) ∧ Below w.heap.size w w';have HR := hid hr;simp only at HR;obtain ⟨n, hn⟩ := nE (ops.length);rw [hn] at C2' C3' HE ⊢;obtain ⟨R, hRR⟩ := nE (Vp n ⟨k, tx, nn, tt, arms, oT, oE⟩);rw [hRR] at HE ⊢;obtain ⟨m, hm⟩ := nE (arms.length);have HM := hid hm;rw [hm] at HE ⊢;clear hn hRR hr hm
 -- the number of ticks
 obtain ⟨rg, hrg⟩ := nE (Wp nn)
 have HG : Hid (∀ W, Calls Tryz.prog 157 #[nn, .int .i64 0, .int .i64 1000000000000] W fun e w' => e = .returned rg ∧ W = w') := fun W => by
  have := Ze4 nn 0 1000000000000 W;rwa [show (decide (0 ≤ nn) && decide (nn ≤ 1000000000000)) = rg from hrg] at this
 rw [hrg] at HE;clear hrg
 have key : ∀ nv : Bool, ((nn != 9223372036854775807) = nv) → (nv = true → nn ≠ Vj) → (nv = false → nn = Vj) → Calls Tryz.prog 178 #[.agg #[nm, dl, jp, .slice A n c], .agg #[k, tx, nn, tt, .slice B m d, oT, oE]] w fun e w' => e = .returned ((R : Nat) : Int) ∧ Below w.heap.size w w' := by
  intro nv hnv hnv1 hnv2;have HNV1 := hid hnv1; have HNV2 := hid hnv2;have hnv3 : (nn == 9223372036854775807) = !nv := by rw [← hnv]; simp [bne]
  clear hnv1 hnv2;go_enter Tryz.func178, Tryz.ntmps178;go_upto_region 1 with fail;obtain ⟨wb, hwb⟩ := nE ((w.alloc (.cells #[nm, dl, jp, .slice A n c] 26)).alloc (.cells #[k, tx, nn, tt, .slice B m d, oT, oE] 56));have HB0 : Hid (Below w.heap.size w wb) := hwb ▸ Uu _ _ _;have HP0 : Hid (Blk wb w.heap.size 26 #[nm, dl, jp, .slice A n c]) := hwb ▸ (Blk.new w _ _).alloc _;have HO0 : Hid (Blk wb (w.heap.size + 1) 56 #[k, tx, nn, tt, .slice B m d, oT, oE]) := hwb ▸ Gz _ _ _ _;rw [hwb];clear hwb;obtain ⟨gp, hgp⟩ := nE (w.heap.size);have HGP := hid hgp;rw [hgp] at HP0 HO0 ⊢;obtain ⟨go, hgo⟩ := nE (gp + 1);rw [hgo] at HO0 ⊢;clear hgp hgo;have HRB := hid (HR.below HB0.out);clear HR
  have fact : ∀ W, Below wb.heap.size wb W → Blk W gp 26 #[nm, dl, jp, .slice A n c] ∧ Blk W go 56 #[k, tx, nn, tt, .slice B m d, oT, oE] :=
   fun W h => ⟨HP0.below h HP0.lt, HO0.below h HO0.lt⟩
  have HFACT := hid fact;have HPL := hid HP0.lt; have HOL := hid HO0.lt;obtain ⟨o0, o1, o2, o3, o4, o5, o6⟩ := Qo HO0.out;have hol := HO0.lt;clear fact HP0 HO0;cases nv
  ·have HE1 : Hid (R = if 8 < m then 4 else if Wd n arms ≠ 0 then Wd n arms else if Uj n oT = true ∨ Uj n oE = true then 13 else 0) := by
    rw [Hid, HE.out, if_neg]; intro h; exact h.1 (HNV2.out rfl)
   clear HE HNV1 HNV2 HG;exact N2
  ·cases rg
   ·have HE1 : Hid (R = 12) := by rw [Hid, HE.out, if_pos ⟨HNV1.out rfl, rfl⟩]
    clear HE HNV1 HNV2 C2' C3';go_wp2_with fail;refine (HG.out _).mono ?_;rintro en w1 ⟨rfl, rfl⟩;go_wp2_with fail;go_ret;rw [HE1.out, HGP.out]; exact ⟨rfl, by have := HB0.out; rwa [HGP.out] at this⟩
   ·have HE1 : Hid (R = if 8 < m then 4 else if Wd n arms ≠ 0 then Wd n arms else if Uj n oT = true ∨ Uj n oE = true then 13 else 0) := by
     rw [Hid, HE.out, if_neg]; intro h; cases h.2
    clear HE HNV1 HNV2;go_wp2_with fail;refine (HG.out _).mono ?_;rintro en w1 ⟨rfl, rfl⟩;clear HG;exact N2
 by_cases h : nn = Vj
 ·exact key false (by simp [h, Vj]) (fun h => kx) (fun _ => h)
 ·exact key true (by have : nn ≠ 9223372036854775807 := h; simp [this]) (fun _ => h) (fun h => kx)
end Go.Proofs.YtpkkfdmhbbipoaaGreat
