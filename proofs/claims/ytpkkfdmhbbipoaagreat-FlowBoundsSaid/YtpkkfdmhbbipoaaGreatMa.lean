/- Small facts on worlds, rows of cells and slices that all walks of this claim use; no program in sight. Facts on this program's types: rows of its table, equality of sets and items. The plain functions that the walks compute: sets of bytes, patterns. No program in sight. A region that draws its order: its first n operations only read (or call what turns nothing), the others stand in one forced order. No program in sight. Objects in memory and their blocks: what a call may turn is a set of blocks; whatever lies in others Zhb. No program in sight. Plain laws of patterns: what 'ends' computes is what patterns mean. No program in sight. Plain laws: how many bits of a number are set, by halves. No program in sight. Regions that draw their order, walked in ONE order: operations that look at no memory are taken first; all others stand in a forced chain. No program in sight. Regions that draw their order, walked along a tree of orders: operations that look at no memory first, then whatever may come up, one branch for each. No program in sight. -/
import Derived.WalkKit
import Derived.WalkSpells
import Derived.WalkLawsBesides
import Derived.Test.YtpkkfdmhbbipoaaGreatRows
import Derived.ChangeKeysEq
import Derived.StillTailTactics
import Derived.BigQuiet
import Derived.Deep.QuietTactic
import Derived.Deep.RegionHeld3
namespace Go.Proofs.YtpkkfdmhbbipoaaGreat
open Go.RowKit
theorem bT {α : Type} [BEq α] [LawfulBEq α] {a b : α} (h : a = b) : (a == b) = true := beq_iff_eq.2 h
theorem bF {α : Type} [BEq α] [LawfulBEq α] {a b : α} (h : ¬ a = b) : (a == b) = false := beq_eq_false_iff_ne.2 h
theorem nE {α : Sort _} (a : α) : ∃ y, a = y := ⟨a, rfl⟩
theorem mE {α : Sort _} (a : α) : ∃ y, y = a := ⟨a, rfl⟩
theorem ba {w W : World} {o : Obj} (h : w.alloc o = W) : Hid (Below w.heap.size w W) := h ▸ (Below.refl _ _).alloc (Nat.le_refl _) _
theorem bt {w W W' : World} (h : Hid (Below w.heap.size w W)) (hb : Below W.heap.size W W') : Hid (Below w.heap.size w W') := h.out.trans (hb.mono h.out.size)
structure ZDt where
def zd : ZDt := ⟨⟩
instance : Coe ZDt (Array Value) := ⟨fun _ => #[.int .i64 0, .int .i64 0, .int .i64 0, .int .i64 0, .int .i64 0, .int .i64 0, .string ⟨#[]⟩, .int .i64 0, .int .i64 0, .slice none 0 0, .int .i64 0, .int .i64 0, .int .i64 0, .int .i64 0, .int .i64 0, .int .i64 0, .string ⟨#[]⟩, .int .i64 0, .string ⟨#[]⟩, .int .i64 0, .slice none 0 0, .string ⟨#[]⟩, .string ⟨#[]⟩, .string ⟨#[]⟩, .int .i64 0, .int .i64 0, .bool false, .int .i64 0]⟩
instance : Coe ZDt (List Value) := ⟨fun _ => [.int .i64 0, .int .i64 0, .int .i64 0, .int .i64 0, .int .i64 0, .int .i64 0, .string ⟨#[]⟩, .int .i64 0, .int .i64 0, .slice none 0 0, .int .i64 0, .int .i64 0, .int .i64 0, .int .i64 0, .int .i64 0, .int .i64 0, .string ⟨#[]⟩, .int .i64 0, .string ⟨#[]⟩, .int .i64 0, .slice none 0 0, .string ⟨#[]⟩, .string ⟨#[]⟩, .string ⟨#[]⟩, .int .i64 0, .int .i64 0, .bool false, .int .i64 0]⟩
structure ZSt where
def zs : ZSt := ⟨⟩
instance : Coe ZSt (Array Value) := ⟨fun _ => #[.int .i64 0, .int .i64 0, .int .i64 0, .int .i64 0, .int .i64 0, .int .i64 0]⟩
instance : Coe ZSt (List Value) := ⟨fun _ => [.int .i64 0, .int .i64 0, .int .i64 0, .int .i64 0, .int .i64 0, .int .i64 0]⟩
structure ZFt where
def zf : ZFt := ⟨⟩
instance : Coe ZFt (Array Value) := ⟨fun _ => #[.int .u64 0, .int .u64 0, .int .u64 0, .int .u64 0]⟩
instance : Coe ZFt (List Value) := ⟨fun _ => [.int .u64 0, .int .u64 0, .int .u64 0, .int .u64 0]⟩
theorem aa{P:Prop}(h:P:=by omega):P:=h
theorem ab{P:Prop}(h:P:=by kernel_rfl):P:=h
theorem ac{P:Prop}(h:P:=by decide):P:=h
theorem ae{P:Prop}(h:P:=by simp):P:=h
theorem af{P:Prop}(h:P:=by simp; omega):P:=h
theorem ag{P:Prop}(h:P:=by have := HG.out; omega):P:=h
theorem ah{P:Prop}(h:P:=by have := HGR.out; have := HGS.out; omega):P:=h
theorem ai{P:Prop}(h:P:=by obtain ⟨q, rfl⟩ := hqu; exact q.2):P:=h
theorem aj{P:Prop}(h:P:=by simp [results, Tryz.results67, go_sem, t0, t1, t2, t3, t4, t5]):P:=h
theorem ak{P:Prop}(h:P:=by rw [e]; exact ⟨by have := HG.out; omega, HSV.out, HNF.2⟩):P:=h
theorem al{P:Prop}(h:P:=by go_num):P:=h
theorem am{P:Prop}(h:P:=by simp [results, Tryz.results224, go_sem, z0, z1, z2, z3]):P:=h
theorem ao{P:Prop}(h:P:=by rw [← e]; exact hk):P:=h
theorem ap{P:Prop}(h:P:=by have := HF.out _ hf; have := HKV.size; have := HBW.size; have := HGS.out; omega):P:=h
theorem aq{P:Prop}(h:P:=by simpa using h):P:=h
theorem au{P:Prop}(h:P:=by rw [e]; have := HG.out; have := HB.out; omega):P:=h
theorem av{P:Prop}(h:P:=by rw [HE.out]; rfl):P:=h
theorem aw{P:Prop}(h:P:=by rw [e]; exact ⟨by have := HG.out; omega, HSV.out, fun h => HNX.2.2.1 _ h rfl⟩):P:=h
theorem ax{P:Prop}(h:P:=by rw [HN.out]; omega):P:=h
theorem ay{P:Prop}(h:P:=by rw [List.mem_singleton] at hx; omega):P:=h
theorem az{P:Prop}(h:P:=by rw [Yv]; omega):P:=h
theorem bc{P:Prop}(h:P:=by injection e with e; subst e; injection e2 with e2; exact HNE.out e2.symm):P:=h
theorem bg{P:Prop}(h:P:=by rw [e, HG.1]; exact Nat.le_refl _):P:=h
theorem bh{P:Prop}(h:P:=by rw [e]; exact Nat.le_trans HB.out HWG.out):P:=h
theorem bi{P:Prop}(h:P:=by simp [results, Tryz.results152, go_sem, Ky, r0, r1, r2, r3, r4]):P:=h
theorem bj{P:Prop}(h:P:=by simp [results, Tryz.results114, go_sem, t0, t1, t2, t3, t4, t5]):P:=h
theorem bk{P:Prop}(h:P:=by split at ha <;> split at hp <;> omega):P:=h
theorem bm{P:Prop}(h:P:=by rw [HE.out]):P:=h
theorem bo{P:Prop}(h:P:=by rw [Hid, ← HGS.out]; exact HBW.size):P:=h
theorem bp{P:Prop}(h:P:=by unfold maxLen; omega):P:=h
theorem bq{P:Prop}(h:P:=by trivial):P:=h
theorem br{P:Prop}(h:P:=by simp [results, Tryz.results241, go_sem, z0, z1, z2, z3]):P:=h
theorem bu{P:Prop}(h:P:=by rw [← ho, Uy]; simp):P:=h
theorem bw{P:Prop}(h:P:=by have := HFX.out _ hf; have := HG.out; omega):P:=h
theorem bx{P:Prop}(h:P:=by simp [results, Tryz.results177, go_sem]):P:=h
theorem bz{P:Prop}(h:P:=by rw [List.isEmpty_eq_false_iff]; exact z0):P:=h
theorem cd{P:Prop}(h:P:=by have := h.2.2; omega):P:=h
theorem cf{P:Prop}(h:P:=by rw [e]; have := HG.out; omega):P:=h
theorem cg{P:Prop}(h:P:=by have := HBQ.out; omega):P:=h
theorem cj{P:Prop}(h:P:=by obtain ⟨y, _, rfl⟩ := List.mem_map.1 hu; rfl):P:=h
theorem ck{P:Prop}(h:P:=by cases h):P:=h
theorem cq{P:Prop}(h:P:=by rw [Hid, ← HEZ.out]; exact decide_eq_true htx):P:=h
theorem cr{P:Prop}(h:P:=by simp <;> omega):P:=h
theorem cu{P:Prop}(h:P:=by show (-9223372036854775808 : Int) ≤ 9223372036854775807; decide):P:=h
theorem cw{P:Prop}(h:P:=by rw [← HY.2]; exact HDN.cell 10):P:=h
theorem cx{P:Prop}(h:P:=by rw [← HY.1]; exact HDN.cell 20):P:=h
theorem cy{P:Prop}(h:P:=by rw [hr] at h0; cases h0):P:=h
theorem cz{P:Prop}(h:P:=by show (9223372036854775807 : Int) ≤ 9223372036854775807; decide):P:=h
theorem da{P:Prop}(h:P:=by simp [results, Tryz.results245, go_sem]):P:=h
theorem dc{P:Prop}(h:P:=by rw [Hid]; omega):P:=h
theorem de{P:Prop}(h:P:=by simp [results, Tryz.results219, go_sem, z0, z1, z2, z3, z4]):P:=h
theorem df{P:Prop}(h:P:=by rw [bne, q1]; rfl):P:=h
theorem dg{P:Prop}(h:P:=by rw [HL.out]; omega):P:=h
theorem dh{P:Prop}(h:P:=by simp [Xh.cells]; omega):P:=h
theorem di{P:Prop}(h:P:=by rw [← hz]; rfl):P:=h
theorem dj{P:Prop}(h:P:=by have := HGO.out; have := HG.out; omega):P:=h
theorem dm{P:Prop}(h:P:=by have := HB6.out; rwa [HGP.out] at this):P:=h
theorem dn{P:Prop}(h:P:=by rw [e, HGS.out]; exact Nat.le_refl _):P:=h
theorem dp{P:Prop}(h:P:=by rw [← HRR.out, List.take_of_length_le (by rw [HN.out]; omega), List.take_of_length_le (by rw [HN.out]; omega)]):P:=h
theorem dq{P:Prop}(h:P:=by rw [e]; exact HVG.out):P:=h
theorem dr{P:Prop}(h:P:=by unfold Addr.add; split <;> simp_all):P:=h
theorem du{P:Prop}(h:P:=by rw [HM.out]; omega):P:=h
theorem dv{P:Prop}(h:P:=by simpa using hl):P:=h
theorem dx{P:Prop}(h:P:=by obtain ⟨q, rfl⟩ := hqu; exact HKD.trans (Za.of_below (F := fun k => k = g) q.2) (fun _ h => .inl h)):P:=h
theorem dy{P:Prop}(h:P:=by have := Zav (b := ⟨#[]⟩) (fun h => hs ((Zah tx).1 h)); rwa [ByteArray.toList_eq ⟨#[]⟩] at this):P:=h
theorem dz{P:Prop}(h:P:=by simp [Asc]):P:=h
theorem ed{P:Prop}(h:P:=by rw [Hid, List.length_append, List.length_cons, List.length_take, List.length_drop, HM.out] <;> omega):P:=h
theorem ee{P:Prop}(h:P:=by rw [e]; exact HBX.1):P:=h
theorem eh{P:Prop}(h:P:=by have := HNL.out; rw [Hid]; omega):P:=h
theorem ei{P:Prop}(h:P:=by have := HLL.out; rw [Hid]; omega):P:=h
theorem ej{P:Prop}(h:P:=by simp [maxLen]):P:=h
theorem ek{P:Prop}(h:P:=by have := HBL.size; simp; omega):P:=h
theorem el{P:Prop}(h:P:=by rw [HL.out]; rfl):P:=h
theorem eo{P:Prop}(h:P:=by rw [bne, he0]; rfl):P:=h
theorem et{P:Prop}(h:P:=by rw [e]; exact HD.fd.1):P:=h
theorem eu{P:Prop}(h:P:=by simp [Value.ownBlock, hg5]):P:=h
theorem ev{P:Prop}(h:P:=by simp [results, Tryz.results219, go_sem]):P:=h
theorem ew{P:Prop}(h:P:=by rw [← hwz, ← E.1, ← E.2.1, ← E.2.2]; exact ((HKQ.set 13 _).set 14 _).set 15 _):P:=h
theorem ey{P:Prop}(h:P:=by have := HF.out _ hf; have := HG.out; omega):P:=h
theorem fa{P:Prop}(h:P:=by rw [Hid, ← hbuf2, Qj _ _ _ (by rw [List.length_take, HTL.out]; omega)]; exact hlen):P:=h
theorem fc{P:Prop}(h:P:=by rw [HF.out]; rfl):P:=h
theorem fe{P:Prop}(h:P:=by assumption):P:=h
theorem ff{P:Prop}(h:P:=by rw [Hid, List.length_append, HK.out]; rfl):P:=h
theorem fg{P:Prop}(h:P:=by rw [(e : k = gr)]; exact ⟨hgz, hlz⟩):P:=h
theorem fh{P:Prop}(h:P:=by rw [e, ← HGS.out]; exact Nat.le_trans HB.out (Nat.le_trans HKV.size HS1.out)):P:=h
theorem fi{P:Prop}(h:P:=by rintro ⟨h', -⟩; exact Wj _ _ h'):P:=h
theorem fj{P:Prop}(h:P:=by simp [hm1]):P:=h
theorem fk{P:Prop}(h:P:=by rw [Xi, HM.out]; omega):P:=h
theorem fm{P:Prop}(h:P:=by rw [e, HG.out]; exact Nat.le_refl _):P:=h
theorem fo{P:Prop}(h:P:=by rw [List.length_append, HAL.out]; rfl):P:=h
theorem fp{P:Prop}(h:P:=by rw [HKQ.cell 15]; show some (Value.int .i64 y.due.cut) = _; rw [HXY.2.2.1]):P:=h
theorem fq{P:Prop}(h:P:=by rw [HKQ.cell 14]; show some (Value.int .i64 y.due.lim) = _; rw [HXY.2.2.1]):P:=h
theorem fs{P:Prop}(h:P:=by rw [HKQ.cell 13]; show some (Value.int .i64 y.due.til) = _; rw [HXY.2.2.1]):P:=h
theorem ft{P:Prop}(h:P:=by rw [hb.1]; simp):P:=h
theorem fu{P:Prop}(h:P:=by rw [e2]; unfold Ux; rw [List.length_map, List.length_take, HL.out]; omega):P:=h
theorem fw{P:Prop}(h:P:=by rw [← HPP.out, HE.out]; simp only [if_true]; rw [HJ.out]; exact HQ.out):P:=h
theorem fx{P:Prop}(h:P:=by rw [e]; exact ⟨by rw [HG.out]; exact Nat.le_refl _, HRX.lt, HNF.out⟩):P:=h
theorem fy{P:Prop}(h:P:=by simp [Zg]):P:=h
theorem fz{P:Prop}(h:P:=by rw [e]; rfl):P:=h
theorem gc{P:Prop}(h:P:=by rw [Nat.mul_one] at ht; exact ht):P:=h
theorem gd{P:Prop}(h:P:=by simp [results, Tryz.results82, go_sem, t0, t1, t2, t3, t4, t5, t6]):P:=h
theorem gg{P:Prop}(h:P:=by rw [← HAE.out, List.drop_of_length_le (by rw [HM.out]; omega)]; rfl):P:=h
theorem gj{P:Prop}(h:P:=by rw [e]; exact HGF.out):P:=h
theorem gt{P:Prop}(h:P:=by rw [beq_eq_false_iff_ne]; exact k4):P:=h
theorem gu{P:Prop}(h:P:=by rw [beq_eq_false_iff_ne]; exact k3):P:=h
theorem gv{P:Prop}(h:P:=by rw [beq_eq_false_iff_ne]; exact k2):P:=h
theorem gw{P:Prop}(h:P:=by rw [beq_eq_false_iff_ne]; exact k1):P:=h
theorem gy{P:Prop}(h:P:=by rw [Hid, ← HBD.out, decide_eq_true]; exact .inr (fun h => by omega)):P:=h
theorem ia{P:Prop}(h:P:=by rw [← ho2, Uy]; simp):P:=h
theorem ic{P:Prop}(h:P:=by have := HGR.out; omega):P:=h
theorem ie{P:Prop}(h:P:=by simp only; omega):P:=h
theorem ig{P:Prop}(h:P:=by simp [results, Tryz.results115, go_sem, t0, t1, t2, t3, t4, t5]):P:=h
theorem ii{P:Prop}(h:P:=by simp [results, Tryz.results113, go_sem, t0, t1, t2, t3, t4, t5]):P:=h
theorem ij{P:Prop}(h:P:=by have := HLL2.out; rw [Hid]; omega):P:=h
theorem il{P:Prop}(h:P:=by simp [results, Tryz.results20, go_sem, t0, t1, t2, t3, t4, t5]):P:=h
theorem im{P:Prop}(h:P:=by rintro (e | e); exact HGN.2.1 e.symm; exact HGN.2.2.2.1 e.symm):P:=h
theorem io{P:Prop}(h:P:=by rw [HG.out]; exact Nat.le_refl _):P:=h
theorem ip{P:Prop}(h:P:=by rw [show (x.come tt).op = (x.goes tt).op from My _]; exact hp.1):P:=h
theorem iq{P:Prop}(h:P:=by rintro (e | e); exact HGN.1 e.symm; exact HGN.2.2.1 e.symm):P:=h
theorem ir{P:Prop}(h:P:=by show (2 : Nat) ≠ 0; omega):P:=h
theorem iu{P:Prop}(h:P:=by obtain ⟨q, rfl⟩ := hqu; exact HB.trans (q.2.mono HB.size)):P:=h
theorem iw{P:Prop}(h:P:=by simp [results, Tryz.results248, go_sem, z0, z1, z2, z3]):P:=h
theorem ix{P:Prop}(h:P:=by simp [results, Tryz.results229, go_sem, z0, z1, z2, z3]):P:=h
theorem iy{P:Prop}(h:P:=by rw [h37]; decide):P:=h
instance : Coe Int Value := ⟨.int .i64⟩
instance : Coe ByteArray Value := ⟨.string⟩
instance : Coe Bool Value := ⟨.bool⟩
instance : Coe Nat Value := ⟨fun n => .int .i64 (n : Int)⟩
theorem hid {p : Prop} (h : p) : Hid p := h
def Rd (w : World) (A : Option Addr) (xs : List Value) : Prop :=
 xs = [] ∨ ∃ b off, A = some ⟨b, off, none⟩ ∧ b < w.heap.size ∧ ∀ j u, xs[j]? = some u → w.cell? ⟨b, off + j, none⟩ = some u
theorem Rd.below {w w' : World} {A : Option Addr} {xs : List Value} (h : Rd w A xs) (hb : Below w.heap.size w w') : Rd w' A xs := by
 rcases h with h | ⟨b, off, hA, hlt, hc⟩
 ·exact .inl h
 ·exact .inr ⟨b, off, hA, Nat.lt_of_lt_of_le hlt hb.size, fun j u hj => (hb.cell (p := ⟨b, off + j, none⟩) hlt).trans (hc j u hj)⟩
theorem Rd.at {w : World} {A : Option Addr} {xs : List Value} (h : Rd w A xs) (hne : 0 < xs.length) :
  ∃ b off, A = some ⟨b, off, none⟩ ∧ b < w.heap.size ∧ ∀ j u, xs[j]? = some u → w.cell? ⟨b, off + j, none⟩ = some u := by
 rcases h with h | h
 ·rw [h] at hne; simp at hne
 ·exact h
theorem Kn {w : World} {b o b' o' : Nat} {u : Value} (h : b' ≠ b) : (w.setCell ⟨b, o, none⟩ u).cell? ⟨b', o', none⟩ = w.cell? ⟨b', o', none⟩ :=
 World.cell?_setCell_other w ⟨b, o, none⟩ ⟨b', o', none⟩ u (fun e => h (by injection e with e1; exact e1.symm))
theorem Uu {w : World} {b o : Nat} {u x : Value} (h : w.cell? ⟨b, o, none⟩ = some x) : (w.setCell ⟨b, o, none⟩ u).cell? ⟨b, o, none⟩ = some u := by
 unfold World.cell? World.setCell at *;simp only [Array.getElem?_modify, if_true] at *;split at h
 ·rename_i c e f hh
  rw [hh];simp only [Option.isSome_none, Bool.false_eq_true, if_false, Option.map_some] at h ⊢;have := (Array.getElem?_eq_some_iff.1 h).1;simp [this]
 ·cases h
structure Zi where
 w0 : BitVec 64
 w1 : BitVec 64
 w2 : BitVec 64
 w3 : BitVec 64
 deriving DecidableEq, Inhabited
abbrev w64 (x : BitVec 64) : Value := .int .u64 (x.toNat : Int)
def Zi.cells (s : Zi) : List Value := [w64 s.w0, w64 s.w1, w64 s.w2, w64 s.w3]
def Zi.val (s : Zi) : Value := .agg #[w64 s.w0, w64 s.w1, w64 s.w2, w64 s.w3]
def Zi.zero : Zi := ⟨0, 0, 0, 0⟩
structure Zl where
 run : Bool
 set : Zi
 deriving DecidableEq, Inhabited
def Zl.cells (x : Zl) : List Value := .bool x.run :: x.set.cells
def Zl.val (x : Zl) : Value := .agg #[x.run, w64 x.set.w0, w64 x.set.w1, w64 x.set.w2, w64 x.set.w3]
def Yd (l : List Zl) : List Value := l.flatMap Zl.cells
theorem Zl.cells_length (x : Zl) : x.cells.length = 5 := rfl
theorem Qy (l : List Zl) : (Yd l).length = l.length * 5 := by
 induction l with
 | nil => rfl
 | cons x l ih => simp only [Yd, List.flatMap_cons, List.length_append, List.length_cons] at ih ⊢; rw [ih, Zl.cells_length]; omega
theorem Qz (a b : List Zl) : Yd (a ++ b) = Yd a ++ Yd b := by simp [Yd]
theorem Ze1 (l : List Zl) (k : Nat) (h : k < l.length) (j : Nat) (hj : j < 5) : (Yd l)[k * 5 + j]? = (l[k]).cells[j]? := by
 induction l generalizing k with
 | nil => simp at h
 | cons x l ih =>
  rw [show Yd (x :: l) = x.cells ++ Yd l from rfl];cases k with
  | zero => rw [List.getElem?_append_left (by rw [Zl.cells_length]; omega)]; simp
  | succ k =>
   rw [List.getElem?_append_right (by rw [Zl.cells_length]; omega), Zl.cells_length, show (k + 1) * 5 + j - 5 = k * 5 + j from aa];exact ih k aq
theorem Zga {w : World} {b off : Nat} {l : List Zl} (hc : ∀ j u, (Yd l)[j]? = some u → w.cell? ⟨b, off + j, none⟩ = some u) (k : Nat) (h : k < l.length) :
  w.cell? ⟨b, off + k * 5, none⟩ = some (.bool (l[k]).run) ∧ w.cell? ⟨b, off + k * 5 + 1, none⟩ = some (w64 (l[k]).set.w0) ∧ w.cell? ⟨b, off + k * 5 + 2, none⟩ = some (w64 (l[k]).set.w1) ∧
  w.cell? ⟨b, off + k * 5 + 3, none⟩ = some (w64 (l[k]).set.w2) ∧ w.cell? ⟨b, off + k * 5 + 4, none⟩ = some (w64 (l[k]).set.w3) := by
 have H := fun j hj u (hu : (l[k]).cells[j]? = some u) => hc (k * 5 + j) u ((Ze1 l k h j hj).trans hu);refine ⟨?_, ?_, ?_, ?_, ?_⟩
 ·exact H 0 aa _ rfl
 ·have := H 1 aa _ rfl; rwa [← Nat.add_assoc] at this
 ·have := H 2 aa _ rfl; rwa [← Nat.add_assoc] at this
 ·have := H 3 aa _ rfl; rwa [← Nat.add_assoc] at this
 ·have := H 4 aa _ rfl; rwa [← Nat.add_assoc] at this
/-! ### Rows of the call's own -/
theorem Wk {w : World} {base : Nat} {e : TypeId} {size : Nat} {v : Value} {n : Nat} {xs : List Value} (h : w.ownsRow base e size v n xs) :
  ∃ A c, v = .slice A n c ∧ Rd w A xs := by
 rcases h.2 with ⟨rfl, h0⟩ | ⟨g, cap, cur, rfl, hb, hg, hn, hc, hcs, ht⟩
 ·subst h0
  refine ⟨none, 0, rfl, .inl (List.eq_nil_of_length_eq_zero (by rw [h.1]; simp))⟩
 ·refine ⟨_, _, rfl, .inr ⟨g, 0, rfl, (Array.getElem?_eq_some_iff.1 hg).1, fun j u hu => ?_⟩⟩
  have := h.cells (g := g) rfl j u hu;rw [show ((⟨g, 0, none⟩ : Addr).add j) = ⟨g, 0 + j, none⟩ from dr] at this;exact this
theorem Qd {B : Nat} {w0 w w' : World} {base : Nat} {e : TypeId} {size : Nat} {v : Value} {n : Nat} {xs : List Value} (h : Below B w0 w) (hown : w.ownsRow base e size v n xs)
  (hg : w.grownBy w' v.ownBlock) (hB : B ≤ base) (hs : B ≤ w.heap.size) : Below B w0 w' :=
 h.grown hg hs (fun k hk => Nat.le_trans hB (hown.lt k hk).1)
theorem Zt {w w' : World} {base B : Nat} {e : TypeId} {size : Nat} {v : Value} {n : Nat} {xs : List Value} (h : w.ownsRow base e size v n xs) (hb : Below B w w') (hB : w.heap.size ≤ B := by exact Nat.le_refl _) :
  w'.ownsRow base e size v n xs :=
 h.kept (row := none) ⟨hb.os, hb.tape, hb.output, hb.size, fun q hq _ => hb.block q (Nat.lt_of_lt_of_le hq hB)⟩ (by cases hv : v.ownBlock <;> simp)
theorem Wg {w : World} {base B : Nat} {e : TypeId} {size : Nat} {v : Value} {n : Nat} {xs : List Value} (h : w.ownsRow base e size v n xs) (hB : B ≤ base) : w.ownsRow B e size v n xs := by
 obtain ⟨h1, h2⟩ := h;refine ⟨h1, ?_⟩;rcases h2 with h2 | ⟨g, cap, cur, hv, hb, r⟩
 ·exact .inl h2
 ·exact .inr ⟨g, cap, cur, hv, aa, r⟩
theorem Zaw {w : World} {b1 b2 : Nat} {e1 e2 : TypeId} {s1 s2 : Nat} {v1 v2 : Value} {n1 n2 : Nat} {xs ys : List Value} (h1 : w.ownsRow b1 e1 s1 v1 n1 xs) (h2 : w.ownsRow b2 e2 s2 v2 n2 ys) (hne : e1 ≠ e2) :
  v1.ownBlock = none ∨ v1.ownBlock ≠ v2.ownBlock := by
 rcases h1.2 with ⟨rfl, _⟩ | ⟨g, cap, cur, rfl, _, hg, _⟩
 ·exact .inl rfl
 ·right
  rcases h2.2 with ⟨rfl, _⟩ | ⟨g', cap', cur', rfl, _, hg', _⟩
  ·simp [Value.ownBlock]
  ·intro e
   simp only [Value.ownBlock, Option.some.injEq] at e;subst e;rw [hg] at hg';injection hg' with hg'
   injection hg' with _ ht
   exact hne ht
theorem Gr {w : World} {e : TypeId} {cs : List Value} : ∀ j u, cs[j]? = some u → (w.alloc (.cells cs.toArray e)).cell? ((⟨w.heap.size, 0, none⟩ : Addr).add j) = some u := by
 intro j u hj;rw [show ((⟨w.heap.size, 0, none⟩ : Addr).add j) = ⟨w.heap.size, j, none⟩ from dr];rw [cell_of_row _ w.heap.size j cs.toArray e (0, 0) (heap_alloc_new w _)];simpa using hj
theorem Mk {P : Program} (w : World) {ops : Array Oper} {rest : List Oper} {o : Oper} {a : Act} {Q : Exit → Act → World → Prop} (hgd : o.guard = none) (s x : Operand) (t : TypeId)
  (ho : o.op = .call { callee := .builtin .append, args := #[s, x], argTypes := #[t, t] })
  (base : Nat) (e : TypeId) (z : Value) (size bytes : Nat) (ht : P.underlying t = some (.slice e)) (hi : (P.info? e).map (fun i => (i.zero, i.size, i.bytes)) = some (some z, size, bytes))
  (hzs : z.cells.size = size) (hsz : 0 < size)
  (v : Value) (n : Nat) (xs : List Value) (hs : a.eval s = v) (hown : w.ownsRow base e size v n xs)
  (c : Nat) (cs : List Value) (hx : a.eval x = .slice (some ⟨w.heap.size, 0, none⟩) 1 c) (hl : cs.length = size) (h1 : cs.all Value.oneCell' = true)
  (hbytes : (n + 1) * bytes ≤ 140737488355328) (hby : 1 ≤ bytes) (hbase : base ≤ w.heap.size)
  (h : ∀ A c' w', w'.ownsRow base e size (.slice A (n + 1) c') (n + 1) (xs ++ cs) → w.grownBy w' v.ownBlock → wpList P ops Q rest (a.put o.dst (.slice A (n + 1) c')) w') :
  wpList P ops Q (o :: rest) a (w.alloc (.cells cs.toArray e)) := by
 obtain ⟨i, hi, hz, hz1, hz2⟩ := info_parts hi;have hn : n + 1 ≤ 140737488355328 := Nat.le_trans (Nat.le_mul_of_pos_right _ hby) hbytes
 refine wpList_append_own _ hgd s x t ho base e i z size bytes ht hi hz hz1 hz2 hzs hsz v n xs hs (hown.alloc _) ⟨w.heap.size, 0, none⟩ 1 c cs hx dv Gr
  (fun u hu => List.all_eq_true.1 h1 u hu) bp hbytes af ?_
 intro v' w' hown' hg _;obtain ⟨A, c', rfl, _⟩ := Wk hown';exact h A c' w' hown' ((World.grownBy_alloc w _ _).trans hg)
theorem Uw {P : Program} (w : World) {ops : Array Oper} {rest : List Oper} {o : Oper} {a : Act} {Q : Exit → Act → World → Prop} (hgd : o.guard = none) (s x : Operand) (t : TypeId)
  (ho : o.op = .call { callee := .builtin .append, args := #[s, x], argTypes := #[t, t] })
  (base : Nat) (e : TypeId) (z : Value) (size bytes : Nat) (ht : P.underlying t = some (.slice e)) (hi : (P.info? e).map (fun i => (i.zero, i.size, i.bytes)) = some (some z, size, bytes))
  (hzs : z.cells.size = size) (hsz : 0 < size)
  (v : Value) (n : Nat) (xs : List Value) (hs : a.eval s = v) (hown : w.ownsRow base e size v n xs)
  (c : Nat) (cs : List Value) (hx : a.eval x = .slice (some ⟨w.heap.size, 0, none⟩) 1 c) (hl : cs.length = size) (h1 : cs.all Value.oneCell' = true)
  (hbytes : (n + 1) * bytes ≤ 140737488355328) (hby : 1 ≤ bytes) (hbase : base ≤ w.heap.size)
  (h : ∀ g c' w', w'.ownsRow base e size (.slice (some ⟨g, 0, none⟩) (n + 1) c') (n + 1) (xs ++ cs) → w.grownBy w' v.ownBlock → wpList P ops Q rest (a.put o.dst (.slice (some ⟨g, 0, none⟩) (n + 1) c')) w') :
  wpList P ops Q (o :: rest) a (w.alloc (.cells cs.toArray e)) := by
 obtain ⟨i, hi, hz, hz1, hz2⟩ := info_parts hi;have hn : n + 1 ≤ 140737488355328 := Nat.le_trans (Nat.le_mul_of_pos_right _ hby) hbytes
 refine wpList_append_own _ hgd s x t ho base e i z size bytes ht hi hz hz1 hz2 hzs hsz v n xs hs (hown.alloc _) ⟨w.heap.size, 0, none⟩ 1 c cs hx dv Gr
  (fun u hu => List.all_eq_true.1 h1 u hu) bp hbytes af ?_
 intro v' w' hown' hg _
 obtain ⟨g, c', rfl⟩ : ∃ g c', v' = .slice (some ⟨g, 0, none⟩) (n + 1) c' := by
  rcases hown'.2 with ⟨_, h0⟩ | ⟨g, cap, cur, hv, _⟩
  ·omega
  ·exact ⟨g, cap, hv⟩
 exact h g c' w' hown' ((World.grownBy_alloc w _ _).trans hg)
/-! ### A block that is known whole -/
def Blk (w : World) (g : Nat) (t : TypeId) (cs : Array Value) : Prop := w.heap[g]? = some (.cells cs t (0, 0))
theorem Blk.cell {w : World} {g : Nat} {t : TypeId} {cs : Array Value} (h : Blk w g t cs) (i : Nat) : w.cell? ⟨g, i, none⟩ = cs[i]? := cell_of_row w g i cs t (0, 0) h
theorem Blk.frozen {w : World} {g : Nat} {t : TypeId} {cs : Array Value} (h : Blk w g t cs) (i : Nat) : w.frozen? ⟨g, i, none⟩ = false := frozen_of_row w g i cs t h
theorem Blk.new (w : World) (t : TypeId) (cs : Array Value) : Blk (w.alloc (.cells cs t)) w.heap.size t cs := heap_alloc_new w _
theorem Blk.lt {w : World} {g : Nat} {t : TypeId} {cs : Array Value} (h : Blk w g t cs) : g < w.heap.size := (Array.getElem?_eq_some_iff.1 h).1
theorem Blk.alloc {w : World} {g : Nat} {t : TypeId} {cs : Array Value} (h : Blk w g t cs) (o : Obj) : Blk (w.alloc o) g t cs := (Below.heap_alloc w o g h.lt).trans h
theorem Blk.below {B : Nat} {w w' : World} {g : Nat} {t : TypeId} {cs : Array Value} (h : Blk w g t cs) (hb : Below B w w') (hg : g < B) : Blk w' g t cs := (hb.block g hg).trans h
theorem Blk.set {w : World} {g : Nat} {t : TypeId} {cs : Array Value} (h : Blk w g t cs) (i : Nat) (u : Value) : Blk (w.setCell ⟨g, i, none⟩ u) g t (cs.setIfInBounds i u) := heap_setCell_same w g i cs t u h
theorem Blk.set_far {w : World} {g g' i : Nat} {t : TypeId} {cs : Array Value} {u : Value} (h : Blk w g t cs) (hne : g ≠ g') : Blk (w.setCell ⟨g', i, none⟩ u) g t cs := (Below.heap_setCell w ⟨g', i, none⟩ u g hne).trans h
/-! ### Bits, and rows that are filled from the left -/
theorem Zoa (x : BitVec 64) (k : Nat) : (bits .and .u64 ((x.toNat : Int) / 2 ^ k) 1 == 1) = x.getLsbD k := by
 have hx := x.isLt;have hd : x.toNat / 2 ^ k ≤ x.toNat := Nat.div_le_self _ _;have e : ((x.toNat : Int) / 2 ^ k) = ((x.toNat / 2 ^ k : Nat) : Int) := by push_cast; rfl
 rw [e, BitVec.getLsbD, Nat.testBit_eq_decide_div_mod_eq];generalize x.toNat / 2 ^ k = q at *;rw [and_one_u64 _ aa aa, Bool.eq_iff_iff]; simp; omega
theorem Zoc (w : World) (t : TypeId) (cs : Array Value) : Rd (w.alloc (.cells cs t)) (some ⟨w.heap.size, 0, none⟩) cs.toList := by
 refine .inr ⟨w.heap.size, 0, rfl, ae, fun j u hj => ?_⟩;rw [Nat.zero_add, cell_of_row _ w.heap.size j _ _ (0, 0) (heap_alloc_new w _)];simpa using hj
theorem Xb {w : World} {base : Nat} {e : TypeId} {size : Nat} {A : Option Addr} {n c : Nat} {xs : List Value} (h : w.ownsRow base e size (.slice A n c) n xs) : Rd w A xs := by
 obtain ⟨A', c', hv, hr⟩ := Wk h;injection hv with h1 h2 h3
 rw [h1]; exact hr
theorem Jp {P : Program} (w : World) {ops : Array Oper} {rest : List Oper} {o : Oper} {a : Act} {Q : Exit → Act → World → Prop}
  (hg : o.guard = none) (l c : Operand) (t : TypeId) (hop : o.op = Op.makeSlice t l c)
  (base : Nat) (e : TypeId) (z : Value) (bytes : Nat) (h1 : P.underlying t = some (.slice e)) (h2 : (P.info? e).map (fun i => (i.zero, i.size, i.bytes)) = some (some z, 1, bytes)) (hz : z.cells = #[z])
  (kl kc : IntKind) (L C : Int) (n : Nat) (hl : a.eval l = .int kl L) (hc : a.eval c = .int kc C) (hL : L = (n : Int)) (hC : C = (n : Int)) (b2 : bytes * n ≤ 281474976710656) (b3 : n ≤ 9223372036854775807) (b4 : base ≤ w.heap.size)
  (hK : ∀ w', w'.ownsRow base e 1 (.slice (some ⟨w.heap.size, 0, none⟩) n n) n (List.replicate n z) → w.grownBy w' none → wpList P ops Q rest (a.put o.dst (.slice (some ⟨w.heap.size, 0, none⟩) n n)) w') :
  wpList P ops Q (o :: rest) a w := by
 obtain ⟨i, hi, hz0, hz1, hz2⟩ := info_parts h2;refine wpList_make_full w hg l c t hop base e i z 1 h1 hi hz0 hz1 kl kc L C n hl hc hL hC (by rw [hz2]; exact b2) bp b4 ?_;intro w' ho hgr;rw [hz, toList_madeCells_one, Nat.mul_one] at ho;exact hK w' ho hgr
theorem Ku {α : Type} (f : α → List Value) (s : Nat) (l : List α) (hf : ∀ x ∈ l, (f x).length = s) (k : Nat) (h : k < l.length) (j : Nat) (hj : j < s) : (l.flatMap f)[k * s + j]? = (f l[k])[j]? := by
 induction l generalizing k with
 | nil => simp at h
 | cons x l ih =>
  have hx := hf x List.mem_cons_self;rw [List.flatMap_cons];cases k with
  | zero =>
   rw [List.getElem?_append_left (by rw [hx]; omega)];simp
  | succ k =>
   rw [List.getElem?_append_right (by rw [hx, Nat.add_mul]; omega), hx];have e : (k + 1) * s + j - s = k * s + j := by rw [Nat.add_mul]; omega
   rw [e, ih (fun y hy => hf y (List.mem_cons_of_mem _ hy)) k aq];simp
open Go.WideElems
theorem Zao : (Tryz.prog.info? 4).map (fun i => (i.zero, i.size, i.bytes)) = some (some (.bool false), 1, 1) := by kernel_rfl
theorem Zg5 : (Tryz.prog.info? 212).map (fun i => (i.zero, i.size, i.bytes)) = some (some (.int .u64 0), 1, 8) := by kernel_rfl
theorem Jc : (Tryz.prog.info? 251).map (fun i => (i.zero, i.size, i.bytes)) = some (some (.agg #[.bool false, .int .u64 0, .int .u64 0, .int .u64 0, .int .u64 0]), 5, 40) := by kernel_rfl
theorem Ze6 : Tryz.prog.cellsOf 212 = 1 := by kernel_rfl
theorem Zrb (x y : BitVec 64) : ((x.toNat : Int) == (y.toNat : Int)) = decide (x = y) := by
 by_cases h : x = y
 ·subst h; simp
 ·have : x.toNat ≠ y.toNat := fun e => h (BitVec.eq_of_toNat_eq e)
  simp [h]; omega
theorem Zll (x y : Zi) (W : World) : (Op.equalIn 10000 249 (.agg #[w64 x.w0, w64 x.w1, w64 x.w2, w64 x.w3]) (.agg #[w64 y.w0, w64 y.w1, w64 y.w2, w64 y.w3])).run Tryz.prog W = .ok (x == y) W := by
 obtain ⟨i0, hi, hz0, hz1, hz2⟩ := info_parts Zg5;obtain ⟨x0, x1, x2, x3⟩ := x;obtain ⟨y0, y1, y2, y3⟩ := y
 have hp : ∀ (cs : Array Value) (k : Nat) (v : Value), cs[k]? = some v → (part 212 cs k).run Tryz.prog W = .ok v W := by
  intro cs k v h;simp [part, h]
 have he : ∀ a b : BitVec 64, (Op.equalIn 9999 212 (w64 a) (w64 b)).run Tryz.prog W = .ok (decide (a = b)) W := by
  intro a b;rw [← Zrb];exact run_equalIn_int W 9998 212 .u64 .u64 _ _ Tryz.underlying212
 rw [run_equalIn_array W 9999 _ _ Tryz.underlying249 hi];have a0 := hp #[w64 x0, w64 x1, w64 x2, w64 x3] (0 * 1) (w64 x0) rfl;have a1 := hp #[w64 x0, w64 x1, w64 x2, w64 x3] (1 * 1) (w64 x1) rfl;have a2 := hp #[w64 x0, w64 x1, w64 x2, w64 x3] (2 * 1) (w64 x2) rfl;have a3 := hp #[w64 x0, w64 x1, w64 x2, w64 x3] (3 * 1) (w64 x3) rfl;have b0 := hp #[w64 y0, w64 y1, w64 y2, w64 y3] (0 * 1) (w64 y0) rfl;have b1 := hp #[w64 y0, w64 y1, w64 y2, w64 y3] (1 * 1) (w64 y1) rfl;have b2 := hp #[w64 y0, w64 y1, w64 y2, w64 y3] (2 * 1) (w64 y2) rfl;have b3 := hp #[w64 y0, w64 y1, w64 y2, w64 y3] (3 * 1) (w64 y3) rfl
 have hd : ((⟨x0, x1, x2, x3⟩ : Zi) == ⟨y0, y1, y2, y3⟩) = (decide (x0 = y0) && (decide (x1 = y1) && (decide (x2 = y2) && decide (x3 = y3)))) := by
  rw [Bool.eq_iff_iff]; simp
 rw [hd];have e0 := he x0 y0;have e1 := he x1 y1;have e2 := he x2 y2;have e3 := he x3 y3;clear hp he hd;generalize decide (x0 = y0) = p0 at *;generalize decide (x1 = y1) = p1 at *;generalize decide (x2 = y2) = p2 at *;generalize decide (x3 = y3) = p3 at *;simp only [show List.range 4 = [0, 1, 2, 3] from rfl, Op.eqItems, Sem.run_bind, Ze6, a0, b0, e0, Result.andThen_ok];cases p0
 ·rfl
 simp only [Bool.not_true, Bool.false_eq_true, if_false, Bool.true_and, Sem.run_bind, a1, b1, e1, Result.andThen_ok];cases p1
 ·rfl
 simp only [Bool.not_true, Bool.false_eq_true, if_false, Bool.true_and, Sem.run_bind, a2, b2, e2, Result.andThen_ok];cases p2
 ·rfl
 simp only [Bool.not_true, Bool.false_eq_true, if_false, Bool.true_and, Sem.run_bind, a3, b3, e3, Result.andThen_ok];cases p3 <;> rfl
def Zi.word (s : Zi) (i : Nat) : BitVec 64 := match i with | 0 => s.w0 | 1 => s.w1 | 2 => s.w2 | _ => s.w3
def Zi.has (s : Zi) (b : Nat) : Bool := (s.word (b / 64)).getLsbD (b % 64)
def Uv : Bool → List Bool → List Bool
 | _, [] => []
 | p, a :: r => (a || p) :: Uv (a || p) r
def Zf6 (x : Zi) (s : List UInt8) (at_ : List Bool) : List Bool := false :: List.zipWith (fun a c => a && x.has c.toNat) at_ s
def Jy (x : Zl) (s : List UInt8) (at_ : List Bool) : List Bool := if x.run then Uv false at_ else Zf6 x.set s at_
def Zaj (l : List Zl) (s : List UInt8) (at_ : List Bool) : List Bool := l.foldl (fun a x => Jy x s a) at_
theorem Zep (p : Bool) (l : List Bool) : (Uv p l).length = l.length := by
 induction l generalizing p with
 | nil => rfl
 | cons a r ih => simp [Uv, ih]
theorem Zbv (x : Zl) (s : List UInt8) (l : List Bool) (h : l.length = s.length + 1) : (Jy x s l).length = s.length + 1 := by
 unfold Jy; split
 ·rw [Zep, h]
 ·simp [Zf6, h]
theorem Zgs (l : List Zl) (s : List UInt8) (a : List Bool) (h : a.length = s.length + 1) : (Zaj l s a).length = s.length + 1 := by
 induction l generalizing a with
 | nil => exact h
 | cons x l ih => exact ih _ (Zbv x s a h)
theorem Zh6 (p : Bool) (l : List Bool) (i : Nat) (h : i < l.length) : (Uv p l)[i]? = some (l[i] || (if i = 0 then p else (Uv p l).getD (i - 1) false)) := by
 induction l generalizing p i with
 | nil => simp at h
 | cons a r ih =>
  cases i with
  | zero => simp [Uv]
  | succ i =>
   have := ih (a || p) i aq;simp only [Uv, List.getElem?_cons_succ, this];cases i <;> simp [List.getD]
theorem Zme (x : Zl) (s : List UInt8) (l : List Bool) (hx : x.run = true) (i : Nat) (h : i < l.length) :
  (Jy x s l)[i]? = some (l[i] || (decide (0 < i) && (Jy x s l).getD (i - 1) false)) := by
 unfold Jy; rw [if_pos hx, Zh6 false l i h];cases i <;> simp
theorem Zd6 (x : Zl) (s : List UInt8) (l : List Bool) (hx : x.run = false) : (Jy x s l)[0]? = some false := by
 unfold Jy; rw [if_neg (by simp [hx])]; rfl
theorem Zb8 (x : Zl) (s : List UInt8) (l : List Bool) (hx : x.run = false) (i : Nat) (h : i < s.length) (hl : l.length = s.length + 1) :
  (Jy x s l)[i + 1]? = some (l[i] && x.set.has (s[i]).toNat) := by
 unfold Jy; rw [if_neg (by simp [hx])];simp [Zf6, List.getElem?_zipWith, List.getElem?_eq_getElem h, List.getElem?_eq_getElem (show i < l.length by omega)]
theorem Zk2 (l : List Zl) (s : List UInt8) (a : List Bool) (k : Nat) (h : k < l.length) : Zaj (l.take (k + 1)) s a = Jy l[k] s (Zaj (l.take k) s a) := by
 unfold Zaj;rw [List.take_succ_eq_append_getElem h, List.foldl_append]; rfl
def Gv (n : Nat) (one : Int) (all : Bool) : List Bool := (List.range n).map fun (i : Nat) => all || ((i : Int) == one)
def Zk (l : List Bool) : List Value := l.map Value.bool
def Zg (l : List Int) : List Value := l.map (Value.int .i64)
theorem Um (l : List Bool) : (Zk l).length = l.length := by simp [Zk]
theorem Zam (l : List Bool) (k : Nat) (h : k < l.length) : (Zk l)[k]? = some (.bool l[k]) := by simp [Zk, h]
theorem Uj (l : List Int) (k : Nat) (h : k < l.length) : (Zg l)[k]? = some (.int .i64 l[k]) := by simp [Zg, h]
theorem Yt (l : List Int) : (Zg l).length = l.length := by simp [Zg]
def Jl (l : List Zl) : Bool := l.all (fun x => !(x.run && x.set != Zi.zero)) && decide (l.length < 61)
/-! ### Bytes of sets -/
def Zh (l : List UInt8) : List Value := l.map fun b => .int .u8 (b.toNat : Int)
theorem Ul (l : List UInt8) : (Zh l).length = l.length := by simp [Zh]
def Kd (l : List Zl) : Nat := (l.filter fun x => !x.run).length
/-! ### Sets out of flags, as the reference makes them -/
def b2n (b : Bool) : Nat := if b then 1 else 0
def Jd (fl : List Bool) (i : Nat) : Nat → Nat
 | 0 => 0
 | m + 1 => 2 * Jd fl i m + b2n (fl.getD (64 * i + (63 - m)) false)
theorem Mr (fl : List Bool) (i m : Nat) : Jd fl i m < 2 ^ m := by
 induction m with
 | zero => simp [Jd]
 | succ m ih =>
  have : b2n (fl.getD (64 * i + (63 - m)) false) ≤ 1 := by unfold b2n; split <;> omega
  simp only [Jd, Nat.pow_succ]; omega
theorem Zh2 (fl : List Bool) (i m k : Nat) (hk : k < m) (hm : m ≤ 64) : (Jd fl i m).testBit k = fl.getD (64 * i + (64 - m) + k) false := by
 induction m generalizing k with
 | zero => omega
 | succ m ih =>
  have hb : (b2n (fl.getD (64 * i + (63 - m)) false)) < 2 := by unfold b2n; split <;> omega
  cases k with
  | zero =>
   simp only [Jd, Nat.testBit_zero, Nat.add_zero];rw [show 64 * i + (64 - (m + 1)) = 64 * i + (63 - m) from aa];unfold b2n;cases fl.getD (64 * i + (63 - m)) false <;> simp <;> omega
  | succ k =>
   rw [Nat.testBit_succ, show Jd fl i (m + 1) / 2 = Jd fl i m from by simp only [Jd]; omega, ih k aa aa]
   congr 1; omega
def Zcq (fl : List Bool) : Zi := ⟨BitVec.ofNat 64 (Jd fl 0 64), BitVec.ofNat 64 (Jd fl 1 64), BitVec.ofNat 64 (Jd fl 2 64), BitVec.ofNat 64 (Jd fl 3 64)⟩
theorem Vv (n : Nat) (h : n < 2 ^ 64) : (BitVec.ofNat 64 n).toNat = n := by rw [BitVec.toNat_ofNat]; exact Nat.mod_eq_of_lt h
theorem Kk (fl : List Bool) (i : Nat) (h : i < 4) : ((Zcq fl).word i).toNat = Jd fl i 64 := by
 match i, h with
 | 0, _ => exact Vv _ (Mr fl 0 64)
 | 1, _ => exact Vv _ (Mr fl 1 64)
 | 2, _ => exact Vv _ (Mr fl 2 64)
 | 3, _ => exact Vv _ (Mr fl 3 64)
theorem Zcg (fl : List Bool) (b : Nat) (h : b < 256) : (Zcq fl).has b = fl.getD b false := by
 unfold Zi.has;rw [BitVec.getLsbD, Kk fl _ aa, Zh2 fl _ _ _ (Nat.mod_lt _ aa) (Nat.le_refl _), show 64 * (b / 64) + (64 - 64) + b % 64 = b from aa]
def Xc (x : Zi) : List Bool := (List.range 256).map x.has
theorem Xt (x : Zi) : (Xc x).length = 256 := by simp [Xc]
theorem Zku (x : Zi) (b : Nat) (h : b < 256) : (Xc x).getD b false = x.has b := by simp [Xc, List.getD, h]
theorem Zi.ext_has {x y : Zi} (h : ∀ b, b < 256 → x.has b = y.has b) : x = y := by
 have hw : ∀ i, i < 4 → x.word i = y.word i := by
  intro i hi;refine BitVec.eq_of_getLsbD_eq fun k hk => ?_;have := h (64 * i + k) aa;unfold Zi.has at this;rwa [show (64 * i + k) / 64 = i from aa, show (64 * i + k) % 64 = k from aa] at this
 obtain ⟨x0, x1, x2, x3⟩ := x;obtain ⟨y0, y1, y2, y3⟩ := y;have h0 := hw 0 aa; have h1 := hw 1 aa; have h2 := hw 2 aa; have h3 := hw 3 aa;simp only [Zi.word] at h0 h1 h2 h3;rw [h0, h1, h2, h3]
theorem Mh : Xc Zi.zero = List.replicate 256 false := by
 refine List.ext_getElem (by rw [Xt, List.length_replicate]) fun i h1 h2 => ?_;simp only [Xc, List.getElem_map, List.getElem_range, List.getElem_replicate];unfold Zi.has Zi.zero Zi.word;split <;> simp
theorem Qk {P : Program} {id : Nat} {Q : Exit → Act → World → Prop} {a : Act} {w : World} {l : List Oper} (n : Nat) (hm : P.follows .mixedOrders = true) (hB : Region.lexTailB .any l.toArray n = true)
  (h : wpStill P l.toArray (w.drewN 1) (fun a' => wpList P l.toArray Q (l.drop n) a' (w.drewN 1)) (l.take n) a) : (Code.region id l.toArray true).wp P Q a w :=
 wp_region_still_tail n hm hB h
theorem Zs (w : World) (n : Nat) : Below w.heap.size w (w.drewN n) := ⟨rfl, rfl, rfl, Nat.le_refl _, fun _ _ => rfl⟩
theorem Zc1 {w w' : World} {n : Nat} (h : Below (w.drewN n).heap.size (w.drewN n) w') : Below w.heap.size w w' := (Zs w n).trans h
structure Za (F : Nat → Prop) (w w' : World) : Prop where
 os : w'.os = w.os
 tape : w'.tape = w.tape
 output : w'.output = w.output
 size : w.heap.size ≤ w'.heap.size
 block : ∀ k, k < w.heap.size → ¬ F k → w'.heap[k]? = w.heap[k]?
theorem Za.refl (F : Nat → Prop) (w : World) : Za F w w := ⟨rfl, rfl, rfl, Nat.le_refl _, fun _ _ _ => rfl⟩
theorem Za.mono {F G : Nat → Prop} {w w' : World} (h : Za F w w') (hfg : ∀ k, k < w.heap.size → F k → G k) : Za G w w' :=
 ⟨h.os, h.tape, h.output, h.size, fun k hk hg => h.block k hk (fun hf => hg (hfg k hk hf))⟩
theorem Za.trans {F G : Nat → Prop} {w w1 w2 : World} (h : Za F w w1) (h2 : Za G w1 w2) (hg : ∀ k, G k → F k ∨ w.heap.size ≤ k) : Za F w w2 :=
 ⟨h2.os.trans h.os, h2.tape.trans h.tape, h2.output.trans h.output, Nat.le_trans h.size h2.size, fun k hk hf =>
  (h2.block k (Nat.lt_of_lt_of_le hk h.size) (fun hgk => (hg k hgk).elim hf (fun hle => aa))).trans (h.block k hk hf)⟩
theorem Za.of_below {F : Nat → Prop} {w w' : World} (h : Below w.heap.size w w') : Za F w w' := ⟨h.os, h.tape, h.output, h.size, fun k hk _ => h.block k hk⟩
theorem Za.below {F : Nat → Prop} {w w' : World} {B : Nat} (h : Za F w w') (hB : B ≤ w.heap.size) (hf : ∀ k, F k → B ≤ k) : Below B w w' :=
 ⟨h.os, h.tape, h.output, h.size, fun k hk => h.block k aa (fun hfk => by have := hf k hfk; omega)⟩
theorem Za.setCell (F : Nat → Prop) (w : World) (a : Addr) (u : Value) (h : F a.block) : Za F w (w.setCell a u) :=
 ⟨rfl, rfl, rfl, ae, fun k _ hf => Below.heap_setCell w a u k (fun e => hf (by rw [e]; exact h))⟩
theorem Za.alloc (F : Nat → Prop) (w : World) (o : Obj) : Za F w (w.alloc o) := ⟨rfl, rfl, rfl, ae, fun k hk _ => Below.heap_alloc w o k hk⟩
theorem Za.drewN (F : Nat → Prop) (w : World) (n : Nat) : Za F w (w.drewN n) := ⟨rfl, rfl, rfl, Nat.le_refl _, fun _ _ _ => rfl⟩
theorem Za.grown {F : Nat → Prop} {w w' : World} {row : Option Nat} (h : w.grownBy w' row) (hr : ∀ k, row = some k → F k) : Za F w w' :=
 ⟨h.os, h.tape, h.output, h.size, fun k hk hf => h.block k hk (fun e => hf (hr k e.symm))⟩
theorem Za.cell {F : Nat → Prop} {w w' : World} (h : Za F w w') {b o : Nat} (hb : b < w.heap.size) (hf : ¬ F b) : w'.cell? ⟨b, o, none⟩ = w.cell? ⟨b, o, none⟩ := World.cell?_of_block (h.block b hb hf)
theorem Za.blk {F : Nat → Prop} {w w' : World} {g : Nat} {t : TypeId} {cs : Array Value} (h : Za F w w') (hb : Blk w g t cs) (hf : ¬ F g) : Blk w' g t cs := (h.block g hb.lt hf).trans hb
theorem Za.rd {F : Nat → Prop} {w w' : World} {A : Option Addr} {xs : List Value} (h : Za F w w') (hr : Rd w A xs) (hf : ∀ a, A = some a → ¬ F a.block) : Rd w' A xs := by
 rcases hr with hr | ⟨b, off, rfl, hlt, hc⟩
 ·exact .inl hr
 ·exact .inr ⟨b, off, rfl, Nat.lt_of_lt_of_le hlt h.size, fun j u hj => (h.cell hlt (hf _ rfl)).trans (hc j u hj)⟩
theorem Za.own {F : Nat → Prop} {w w' : World} {base : Nat} {e : TypeId} {size : Nat} {v : Value} {n : Nat} {xs : List Value} (h : Za F w w') (ho : w.ownsRow base e size v n xs) (hf : ∀ k, v.ownBlock = some k → ¬ F k) : w'.ownsRow base e size v n xs := by
 have hl := ho.lt;refine ⟨ho.1, ?_⟩;rcases ho.2 with hn | ⟨g, cap, cur, rfl, hb, hgg, rest⟩
 ·exact .inl hn
 ·exact .inr ⟨g, cap, cur, rfl, hb, (h.block g (hl g rfl).2 (hf g rfl)).trans hgg, rest⟩
theorem Wq {w : World} {base g : Nat} {t e : TypeId} {cs : Array Value} {size : Nat} {v : Value} {n : Nat} {xs : List Value} (hb : Blk w g t cs) (h : w.ownsRow base e size v n xs) (hne : e ≠ t) : v.ownBlock ≠ some g := by
 intro hv;rcases h.2 with ⟨rfl, _⟩ | ⟨g', cap, cur, rfl, _, hg, _⟩
 ·simp [Value.ownBlock] at hv
 ·simp only [Value.ownBlock, Option.some.injEq] at hv
  subst hv;unfold Blk at hb;rw [hb] at hg;injection hg with hg
  injection hg with _ ht
  exact hne ht.symm
theorem Yg {w : World} {base : Nat} {e : TypeId} {size : Nat} {v : Value} {n : Nat} {xs : List Value} (h : w.ownsRow base e size v n xs) (a : Addr) (u : Value) (hne : v.ownBlock ≠ some a.block) : (w.setCell a u).ownsRow base e size v n xs :=
 h.kept (row := some a.block) ⟨rfl, rfl, rfl, ae, fun q _ hq => Below.heap_setCell w a u q (fun e => hq (by rw [e]))⟩ (.inr hne)
theorem Zly {w : World} {base : Nat} {e : TypeId} {size : Nat} {A : Option Addr} {n c : Nat} {xs : List Value} (h : w.ownsRow base e size (.slice A n c) n xs) (k : Nat) (hk : k ≤ n) (h0 : 0 < n) : w.ownsRow base e size (.slice A k c) k (xs.take (k * size)) := by
 have hks : k * size ≤ n * size := Nat.mul_le_mul_right _ hk;refine ⟨by rw [List.length_take, h.1]; omega, ?_⟩;rcases h.2 with ⟨hv, hn⟩ | ⟨g, cap, cur, hv, hb, hg, hn, hc, hs, ht⟩
 ·omega
 ·injection hv with h1 h2 h3
  subst h1; subst h3;exact .inr ⟨g, c, cur, rfl, hb, hg, aa, hc, hs, by rw [← ht, List.take_take]; congr 1; omega⟩
theorem J90{P:Prop}(h:P:=by
 rw [hr] at hrun;injection hrun with e1 e2
 subst e1;intro k hk; simp [Value.ownBlock] at hk; right; omega):P:=h
theorem Qx {P : Program} (w : World) (base : Nat) (t ty e : TypeId) (i : TypeInfo) (z : Value) (size bytes : Nat) (ht : P.underlying t = some (.slice e)) (hi : P.info? e = some i) (hz : i.zero = some z)
  (hsize : i.size = size) (hby : i.bytes = bytes) (hzs : z.cells.size = size) (hsz : 0 < size)
  (v : Value) (n : Nat) (xs : List Value) (hown : w.ownsRow base e size v n xs)
  (a : Addr) (m c : Nat) (news : List Value) (hl : news.length = m * size) (hnews : ∀ j u, news[j]? = some u → w.cell? (a.add j) = some u) (h1 : ∀ u ∈ news, u.oneCell' = true)
  (h63 : n + m ≤ maxLen) (hbytes : (n + m) * bytes ≤ 140737488355328) {v' : Value} {w' : World} (hrun : (Builtin.append_ #[t, t] ty #[v, .slice (some a) m c]).run P w = .ok v' w') :
  ∀ k, v'.ownBlock = some k → v.ownBlock = some k ∨ w.heap.size ≤ k := by
 subst hsize;subst hby;have hsmall : n + m ≤ 9223372036854775807 := by simp only [maxLen] at h63; omega
 rcases hown.2 with ⟨rfl, rfl⟩ | ⟨g, cap, cur, rfl, hbg, hg, hnc, hcm, hcs, htake⟩
 ·by_cases hm : m = 0
  ·subst hm
   have hn : news = [] := List.eq_nil_of_length_eq_zero dv;subst hn
   have : (Builtin.append_ #[t, t] ty #[.slice none 0 0, .slice (some a) 0 c]).run P w = .ok (.slice none 0 0) w := by
    simp [Builtin.append_, run_underlying ht, sizeOf, typeInfo, hi, Builtin.lenOf, Builtin.firstCells, loadCells, loadCellsFrom]
   rw [this] at hrun;injection hrun with e1 e2
   subst e1;intro k hk; simp [Value.ownBlock] at hk
  ·have hr := run_append_nil (P := P) w t ty e i z ht hi hz a m c news hl hnews aa aa (by have hb := hbytes; simp only [Nat.zero_add] at hb; omega)
   exact J90
 ·by_cases hroom : n + m ≤ cap
  ·have hfit : n * i.size + news.length ≤ cur.size := by rw [hl, hcs, ← Nat.add_mul]; exact Nat.mul_le_mul_right _ hroom
   have hr := run_append_room (P := P) w t ty e i ht hi g n cap cur hg a m c news hl hnews h1 hroom hfit;rw [hr] at hrun;injection hrun with e1 e2
   subst e1;intro k hk; left; simpa [Value.ownBlock] using hk
  ·have holds : ∀ j u, xs[j]? = some u → w.cell? ((⟨g, 0, none⟩ : Addr).add j) = some u := hown.cells (g := g) rfl
   have hr := run_append_grow (P := P) w t ty e i z ht hi hz ⟨g, 0, none⟩ n cap xs hown.1 holds a m c news hl hnews aa aa (growslice_fits aa hbytes);exact J90
theorem Ql {P : Program} (w : World) {ops : Array Oper} {rest : List Oper} {o : Oper} {a : Act} {Q : Exit → Act → World → Prop} (hgd : o.guard = none) (s x : Operand) (t : TypeId)
  (ho : o.op = .call { callee := .builtin .append, args := #[s, x], argTypes := #[t, t] })
  (base : Nat) (e : TypeId) (z : Value) (size bytes : Nat) (ht : P.underlying t = some (.slice e)) (hi : (P.info? e).map (fun i => (i.zero, i.size, i.bytes)) = some (some z, size, bytes))
  (hzs : z.cells.size = size) (hsz : 0 < size)
  (v : Value) (n : Nat) (xs : List Value) (hs : a.eval s = v) (hown : w.ownsRow base e size v n xs)
  (ad : Addr) (m c : Nat) (news : List Value) (hx : a.eval x = .slice (some ad) m c) (hl : news.length = m * size) (hnews : ∀ j u, news[j]? = some u → w.cell? (ad.add j) = some u) (h1 : ∀ u ∈ news, u.oneCell' = true)
  (hbytes : (n + m) * bytes ≤ 140737488355328) (hby : 1 ≤ bytes) (hbase : base ≤ w.heap.size)
  (h : ∀ A c' w', w'.ownsRow base e size (.slice A (n + m) c') (n + m) (xs ++ news) → Za (fun k => v.ownBlock = some k) w w' → (∀ k, (Value.slice A (n + m) c').ownBlock = some k → v.ownBlock = some k ∨ w.heap.size ≤ k) → wpList P ops Q rest (a.put o.dst (.slice A (n + m) c')) w') :
  wpList P ops Q (o :: rest) a w := by
 obtain ⟨i, hi, hz, hz1, hz2⟩ := info_parts hi;have hn : n + m ≤ 140737488355328 := Nat.le_trans (Nat.le_mul_of_pos_right _ hby) hbytes;have h63 : n + m ≤ maxLen := bp
 obtain ⟨v', w', hr, h2, h3, h4⟩ := run_append_own (P := P) w base t o.type e i z size bytes ht hi hz hz1 hz2 hzs hsz v n xs hown ad m c news hl hnews h1 h63 hbytes hbase;have hfr := Qx w base t o.type e i z size bytes ht hi hz hz1 hz2 hzs hsz v n xs hown ad m c news hl hnews h1 h63 hbytes hr;refine wpList_plain hgd fun _ hK => ?_;unfold Oper.wp execOp;simp only [ho, resolve, invoke, builtin, Sem.run_bind, Sem.run_pure, Result.andThen_ok, List.map_toArray, List.map_cons, List.map_nil, hs, hx, hr];obtain ⟨A, c', rfl, _⟩ := Wk h2;exact hK _ _ (h A c' w' h2 (Za.grown h3 (fun k hk => hk)) hfr)
theorem Xf {P : Program} (w : World) {ops : Array Oper} {rest : List Oper} {o : Oper} {a : Act} {Q : Exit → Act → World → Prop} (hgd : o.guard = none) (s x : Operand) (t : TypeId)
  (ho : o.op = .call { callee := .builtin .append, args := #[s, x], argTypes := #[t, t] })
  (base : Nat) (e : TypeId) (z : Value) (size bytes : Nat) (ht : P.underlying t = some (.slice e)) (hi : (P.info? e).map (fun i => (i.zero, i.size, i.bytes)) = some (some z, size, bytes))
  (hzs : z.cells.size = size) (hsz : 0 < size)
  (v : Value) (n : Nat) (xs : List Value) (hs : a.eval s = v) (hown : w.ownsRow base e size v n xs)
  (c : Nat) (cs : List Value) (hx : a.eval x = .slice (some ⟨w.heap.size, 0, none⟩) 1 c) (hl : cs.length = size) (h1 : cs.all Value.oneCell' = true)
  (hbytes : (n + 1) * bytes ≤ 140737488355328) (hby : 1 ≤ bytes) (hbase : base ≤ w.heap.size)
  (h : ∀ g c' w', w'.ownsRow base e size (.slice (some ⟨g, 0, none⟩) (n + 1) c') (n + 1) (xs ++ cs) → Za (fun k => v.ownBlock = some k) w w' → (v.ownBlock = some g ∨ w.heap.size ≤ g) → wpList P ops Q rest (a.put o.dst (.slice (some ⟨g, 0, none⟩) (n + 1) c')) w') :
  wpList P ops Q (o :: rest) a (w.alloc (.cells cs.toArray e)) := by
 refine Ql _ hgd s x t ho base e z size bytes ht hi hzs hsz v n xs hs (hown.alloc _) ⟨w.heap.size, 0, none⟩ 1 c cs hx dv Gr
  (fun u hu => List.all_eq_true.1 h1 u hu) hbytes hby af ?_
 intro A c' w' hown' hk hf
 obtain ⟨g, rfl⟩ : ∃ g, A = some ⟨g, 0, none⟩ := by
  rcases hown'.2 with ⟨hv, h0⟩ | ⟨g, cap, cur, hv, _⟩
  ·omega
  ·injection hv with h1 _ _; exact ⟨g, h1⟩
 refine h g c' w' hown' ((Za.alloc (fun k => v.ownBlock = some k) w _).trans hk (fun _ => .inl)) ?_;rcases hf g rfl with h | h
 ·exact .inl h
 ·right; simp at h; omega
def Qr : List Zl → List UInt8 → Bool
 | [], s => s.isEmpty
 | x :: l, s => if x.run then (List.range (s.length + 1)).any (fun i => Qr l (s.drop i)) else
   match s with
   | [] => false
   | c :: r => x.set.has c.toNat && Qr l r
def sub (s : List UInt8) (i j : Nat) : List UInt8 := (s.drop i).take (j - i)
theorem Zgi (p : Bool) (L : List Bool) (i : Nat) : (Uv p L).getD i false = true ↔ i < L.length ∧ (p = true ∨ ∃ k, k ≤ i ∧ L.getD k false = true) := by
 induction L generalizing p i with
 | nil => simp [Uv]
 | cons a r ih =>
  cases i with
  | zero =>
   simp only [Uv, List.getD_cons_zero, Bool.or_eq_true, List.length_cons];constructor
   ·rintro (h | h)
    ·exact ⟨aa, .inr ⟨0, aa, aq⟩⟩
    ·exact ⟨aa, .inl h⟩
   ·rintro ⟨_, h | ⟨k, hk, h⟩⟩
    ·exact .inr h
    ·obtain rfl : k = 0 := by omega
     exact .inl aq
  | succ i =>
   simp only [Uv, List.getD_cons_succ, ih, List.length_cons, Bool.or_eq_true];constructor
   ·rintro ⟨h1, (h | h) | ⟨k, hk, h⟩⟩
    ·exact ⟨aa, .inr ⟨0, aa, aq⟩⟩
    ·exact ⟨aa, .inl h⟩
    ·exact ⟨aa, .inr ⟨k + 1, aa, aq⟩⟩
   ·rintro ⟨h1, h | ⟨k, hk, h⟩⟩
    ·exact ⟨aa, .inl (.inr h)⟩
    ·cases k with
     | zero => exact ⟨aa, .inl (.inl aq)⟩
     | succ k => exact ⟨aa, .inr ⟨k, aa, aq⟩⟩
theorem Zhf (s : List UInt8) (j : Nat) : sub s j j = [] := by simp [sub]
theorem Zaz (s : List UInt8) (i j : Nat) (h : j ≤ s.length) : (sub s i j).length = j - i := by simp [sub]; omega
theorem Zhg (s : List UInt8) (i j k : Nat) : (sub s i j).drop k = sub s (i + k) j := by
 unfold sub;rw [List.drop_take, List.drop_drop]; congr 1; omega
theorem Zhh (s : List UInt8) (i j : Nat) (h : i < j) (hj : j ≤ s.length) : sub s i j = s[i] :: sub s (i + 1) j := by
 unfold sub;rw [List.drop_eq_getElem_cons aa, show j - i = (j - (i + 1)) + 1 from aa, List.take_succ_cons]
theorem Znq (l : List Zl) (s : List UInt8) (a : List Bool) (ha : a.length = s.length + 1) (j : Nat) (hj : j ≤ s.length) :
  (Zaj l s a).getD j false = true ↔ ∃ i, i ≤ j ∧ a.getD i false = true ∧ Qr l (sub s i j) = true := by
 induction l generalizing a with
 | nil =>
  simp only [Zaj, List.foldl_nil, Qr, List.isEmpty_iff];constructor
  ·intro h; exact ⟨j, Nat.le_refl _, h, Zhf s j⟩
  ·rintro ⟨i, hi, h, e⟩
   have := Zaz s i j hj;rw [e] at this; simp at this;obtain rfl : i = j := aa
   exact h
 | cons x l ih =>
  have hl := Zbv x s a ha;rw [show Zaj (x :: l) s a = Zaj l s (Jy x s a) from rfl, ih _ hl];cases hr : x.run
  ·constructor
   ·rintro ⟨i, hi, h, hm⟩
    cases i with
    | zero => rw [List.getD, Zd6 x s a hr] at h; simp at h
    | succ i =>
     rw [List.getD, Zb8 x s a hr i aa ha] at h;simp only [Option.getD_some, Bool.and_eq_true] at h;refine ⟨i, aa, ?_, ?_⟩
     ·rw [List.getD, List.getElem?_eq_getElem aa]; exact h.1
     ·rw [Zhh s i j aa hj]
      simp [Qr, hr, h.2, hm]
   ·rintro ⟨i, hi, h, hm⟩
    by_cases hij : i < j
    ·rw [Zhh s i j hij hj] at hm
     simp only [Qr, hr, Bool.false_eq_true, if_false, Bool.and_eq_true] at hm;refine ⟨i + 1, aa, ?_, hm.2⟩;rw [List.getD, Zb8 x s a hr i aa ha];rw [List.getD, List.getElem?_eq_getElem aa] at h;simp only [Option.getD_some] at h ⊢;rw [h, hm.1]; rfl
    ·obtain rfl : i = j := by omega
     rw [Zhf] at hm;simp [Qr, hr] at hm
  ·have hst : ∀ i, (Jy x s a).getD i false = true ↔ i < a.length ∧ ∃ k, k ≤ i ∧ a.getD k false = true := by
    intro i;rw [Jy, if_pos hr, Zgi]; simp
   constructor
   ·rintro ⟨i, hi, h, hm⟩
    obtain ⟨_, k, hk, hak⟩ := (hst i).1 h;refine ⟨k, aa, hak, ?_⟩;simp only [Qr, hr, if_true, List.any_eq_true, List.mem_range];exact ⟨i - k, by rw [Zaz s k j hj]; omega, by rw [Zhg, show k + (i - k) = i from aa]; exact hm⟩
   ·rintro ⟨k, hk, hak, hm⟩
    simp only [Qr, hr, if_true, List.any_eq_true, List.mem_range] at hm;obtain ⟨d, hd, hm⟩ := hm;rw [Zaz s k j hj] at hd;rw [Zhg] at hm;exact ⟨k + d, aa, (hst _).2 ⟨aa, k, aa, hak⟩, hm⟩
theorem Me (n : Nat) (one : Int) (all : Bool) (i : Nat) : (Gv n one all).getD i false = true ↔ i < n ∧ (all = true ∨ (i : Int) = one) := by
 unfold Gv;by_cases h : i < n
 ·simp [List.getD, h]
 ·simp [List.getD, h]
def Vm (l : List Zl) (s : List UInt8) : Bool := (Zaj l s (Gv (s.length + 1) 0 false)).getD s.length false
theorem Zfq (l : List Zl) (s : List UInt8) : Vm l s = Qr l s := by
 rw [Bool.eq_iff_iff];unfold Vm;rw [Znq l s _ (by simp [Gv]) s.length (Nat.le_refl _)];constructor
 ·rintro ⟨i, _, h, hm⟩
  rw [Me] at h;obtain ⟨_, h | h⟩ := h
  ·cases h
  ·obtain rfl : i = 0 := by omega
   simpa [sub] using hm
 ·intro h
  exact ⟨0, aa, (Me _ _ _ _).2 ⟨aa, .inr rfl⟩, by simpa [sub] using h⟩
def Qi (l : List Zl) (w : List UInt8) : List Bool := Zaj l w (Gv (w.length + 1) 0 true)
theorem Ml (l : List Zl) (w : List UInt8) : (Qi l w).length = w.length + 1 := Zgs l w _ (by simp [Gv])
/-! ### Where a pattern occurs first does not hang on what comes later -/
/-! ### A pattern that may match matches a text as short as it says -/
namespace PopT
def Zrz (c k : Nat) : Nat → Nat
 | 0 => 0
 | n + 1 => c + 2 ^ k * Zrz c k n
def p1 (x : Nat) : Nat := (x / 2 &&& 6148914691236517205) + (x &&& 6148914691236517205)
def p2 (y : Nat) : Nat := (y / 4 &&& 3689348814741910323) + (y &&& 3689348814741910323)
def p3 (z : Nat) : Nat := (z / 16 + z) &&& 1085102592571150095
end PopT
def Mo : Op → Bool
 | .move _ | .assign _ | .pick .. | .build .. | .binOp .. | .unOp .. | .convert .. | .slice .. | .fieldAddr .. | .field .. | .indexAddr .. | .index .. | .extract .. | .makeInterface .. => true
 | .call c => match c.callee with
  | .builtin .len | .builtin .cap | .builtin .min | .builtin .max => true
  | _ => false
 | _ => false
section
variable {P : Program} {w w' : World} {n : Next}
theorem Vc {s : Sem Value} (h : ((do pure (Next.value (← s)) : Sem Next)).run P w = .ok n w') : ∃ u, n = .value u := by
 rw [Sem.run_bind] at h;cases hs : s.run P w with
 | ok a w1 => rw [hs] at h; simp at h; exact ⟨a, h.1.symm⟩
 | halt x w1 => rw [hs] at h; simp [Result.andThen] at h
theorem Zgg {ρ : Operand → Value} {o : Oper} (ho : Mo o.op = true) (h : (execOp ρ o).run P w = .ok n w') : ∃ u, n = .value u := by
 obtain ⟨dst, op, ty, pos, aft, grd⟩ := o;cases op
 case move => exact Vc (s := pure _) h
 case assign => exact Vc (s := pure _) h
 case pick c a b =>
  simp only [execOp] at h;rw [Sem.run_bind] at h;cases hs : (asBool (ρ c)).run P w with
  | ok a w1 => rw [hs] at h; simp at h; exact ⟨_, h.1.symm⟩
  | halt x w1 => rw [hs] at h; simp [Result.andThen] at h
 case build => exact Vc h
 case binOp => exact Vc h
 case unOp => exact Vc h
 case convert => exact Vc h
 case slice => exact Vc h
 case fieldAddr => exact Vc h
 case field => exact Vc h
 case indexAddr => exact Vc h
 case index => exact Vc h
 case extract => exact Vc h
 case makeInterface => exact Vc h
 case call c =>
  obtain ⟨callee, args, ats⟩ := c;cases callee
  case builtin b =>
   cases b <;> simp only [Mo, Bool.false_eq_true] at ho
   all_goals
    rw [BigFrame.execOp_builtin] at h
    first
     | (rw [BigFrame.builtin_len] at h; exact Vc h)
     | (rw [BigFrame.builtin_cap] at h; exact Vc h)
     | (rw [BigFrame.builtin_min] at h; exact Vc h)
     | (rw [BigFrame.builtin_max] at h; exact Vc h)
  all_goals (simp [Mo] at ho)
 all_goals (simp [Mo] at ho)
end
section
variable {P : Program} {ops : Array Oper} {Q : Exit → Act → World → Prop}
theorem Zqa {o : Oper} {a : Act} {w : World} {K next : Act → World → Prop} (h : o.wp P a w K (Exit.then next Q)) : o.wp P a w K Q := by
 unfold Oper.wp at *;generalize (execOp a.eval o).run P w = r at *;cases r with
 | ok n w' => cases n <;> first | exact h | exact Calls.mono h (fun e w'' he => by cases e <;> exact he)
 | halt x w' => cases x <;> exact h
def Kh (Q : Exit → Act → World → Prop) : Exit → Act → World → Prop
 | .panic _, _, _ => False
 | e, a, w => Q e a w
def nth : List Oper → Nat → Option Oper
 | [], _ => none
 | o :: _, 0 => some o
 | _ :: l, i + 1 => nth l i
theorem Uy (l : List Oper) (i : Nat) : nth l i = l[i]? := by
 induction l generalizing i with
 | nil => rfl
 | cons o l ih => cases i with
  | zero => rfl
  | succ i => simp only [nth, List.getElem?_cons_succ]; exact ih i
end
inductive Ord where
 | nil : Ord
 | val : Nat → Ord → Ord
 | op : Nat → Ord → Ord
 | two : Nat → Ord → Nat → Ord → Ord
 | three : Nat → Ord → Nat → Ord → Nat → Ord → Ord
def Us : Op → Bool
 | .nilCheck _ => true
 | o => Mo o
section
variable {P : Program} {w w' : World} {n : Next}
theorem Mc {α : Type} {s : Sem α} {f : α → Sem Next} (hf : ∀ a w1 w2 n, (f a).run P w1 = .ok n w2 → ∃ u, n = .value u) (h : (s >>= f).run P w = .ok n w') : ∃ u, n = .value u := by
 rw [Sem.run_bind] at h;cases hs : s.run P w with
 | ok a w1 => rw [hs] at h; exact hf a w1 _ _ h
 | halt x w1 => rw [hs] at h; simp [Result.andThen] at h
theorem Kq {u : Value} (h : (pure (Next.value u) : Sem Next).run P w = .ok n w') : ∃ u, n = .value u := by
 rw [Sem.run_pure] at h; injection h with h1 _; exact ⟨u, h1.symm⟩
theorem Zal {ρ : Operand → Value} {o : Oper} (ho : Us o.op = true) (h : (execOp ρ o).run P w = .ok n w') : ∃ u, n = .value u := by
 obtain ⟨dst, op, ty, pos, aft, grd⟩ := o;cases op
 case nilCheck =>
  simp only [execOp] at h;split at h
  ·simp [runtimePanic] at h
  ·simp [runtimePanic] at h
  ·simp [runtimePanic] at h
  ·split at h
   ·simp [runtimePanic] at h
   ·refine Mc ?_ h
    intro a w1 w2 n h;refine Mc ?_ h;intro a w1 w2 n h;split at h
    ·refine Mc ?_ h
     intro a w1 w2 n h;exact Kq h
    ·exact Kq h
   ·exact Kq h
  ·exact Kq h
 all_goals first | exact Zgg (o := ⟨dst, _, ty, pos, aft, grd⟩) (by simpa only [Us] using ho) h | (simp [Us, Mo] at ho)
end
def Za9 (md : Region.Mode) (ops : Array Oper) : Ord → Array Bool → Bool
 | .nil, listed => (Region.ready md ops listed).isEmpty
 | .val i r, listed => (Region.ready md ops listed).contains i && Region.free md ops listed i && (match ops[i]? with | some o => Us o.op | none => false) && Za9 md ops r (listed.setIfInBounds i true)
 | .op i r, listed => Region.ready md ops listed == [i] && Za9 md ops r (listed.setIfInBounds i true)
 | .two i r j s, listed => Region.ready md ops listed == [i, j] && Za9 md ops r (listed.setIfInBounds i true) && Za9 md ops s (listed.setIfInBounds j true)
 | .three i r j s k t, listed => Region.ready md ops listed == [i, j, k] && Za9 md ops r (listed.setIfInBounds i true) && Za9 md ops s (listed.setIfInBounds j true) && Za9 md ops t (listed.setIfInBounds k true)
section
variable {P : Program} {ops : Array Oper} {Q : Exit → Act → World → Prop}
def Un (P : Program) (ops : Array Oper) (Q : Exit → Act → World → Prop) : Ord → Act → World → Prop
 | .nil, a, w => Q .normal a w
 | .val i r, a, w => ∃ o, ops[i]? = some o ∧ wpQuiet P ops (fun _ => True) (fun a' => Un P ops Q r a' w) [o] a
 | .op i r, a, w => ∃ o, ops[i]? = some o ∧ wpList P ops (Exit.then (Un P ops Q r) Q) [o] a w
 | .two i r j s, a, w => (∃ o, ops[i]? = some o ∧ wpList P ops (Exit.then (Un P ops Q r) Q) [o] a w) ∧ (∃ o, ops[j]? = some o ∧ wpList P ops (Exit.then (Un P ops Q s) Q) [o] a w)
 | .three i r j s k t, a, w => (∃ o, ops[i]? = some o ∧ wpList P ops (Exit.then (Un P ops Q r) Q) [o] a w) ∧ (∃ o, ops[j]? = some o ∧ wpList P ops (Exit.then (Un P ops Q s) Q) [o] a w) ∧
   (∃ o, ops[k]? = some o ∧ wpList P ops (Exit.then (Un P ops Q t) Q) [o] a w)
def Ord.depth : Ord → Nat
 | .nil => 0
 | .val _ r => r.depth + 1
 | .op _ r => r.depth + 1
 | .two _ r _ _ => r.depth + 1
 | .three _ r _ _ _ _ => r.depth + 1
def Ord.even : Ord → Bool
 | .nil => true
 | .val _ r => r.even
 | .op _ r => r.even
 | .two _ r _ s => r.even && s.even && r.depth == s.depth
 | .three _ r _ s _ t => r.even && s.even && t.even && r.depth == s.depth && r.depth == t.depth
theorem Qv {i : Nat} {o : Oper} {next : Act → World → Prop} {K : Act → World → Prop} {a : Act} {w : World} (ho : ops[i]? = some o) (h : wpList P ops (Exit.then next Q) [o] a w) (hn : ∀ a w, next a w → K a w) : wpOp P ops Q i K a w := by
 unfold wpOp;simp only [ho];simp only [wpList] at h;by_cases hw : Region.wanted o (yielded ops a.tmps) = true
 ·rw [if_pos hw] at h ⊢
  rcases h with h | ⟨h1, a2, w2, h2⟩
  ·refine .inl ?_
   have h3 := Oper.wp_mono (K' := K) (fun a' w' hk => hn a' w' hk) h;exact Zqa h3
  ·exact .inr ⟨h1, a2, w2, h2⟩
 ·rw [if_neg hw] at h ⊢
  exact hn _ _ h
theorem J92{P:Prop}(h:P:=by
 exact Qv ho2 h2 (fun a' w' hk => by have := Uh hsel hQ s _ a' w' hB2 hE2 hk; rwa [← hd] at this)):P:=h
theorem Uh {md : Region.Mode} (hsel : Region.noSelect ops = true) (hQ : ∀ c a w, ¬ Q (.panic c) a w) : ∀ (π : Ord) (listed : Array Bool) (a : Act) (w : World), Za9 md ops π listed = true → π.even = true →
  Un P ops Q π a w → wpAny P md ops Q π.depth listed a w
 | .nil, listed, a, w, hB, _, h => ⟨by simpa [Za9] using hB, h⟩
 | .val i r, listed, a, w, hB, hE, ⟨o, ho, h⟩ => by
  simp only [Za9, Bool.and_eq_true, ho] at hB;obtain ⟨⟨⟨hr, hf⟩, hv⟩, hB'⟩ := hB;simp only [wpQuiet] at h
  have key : ∃ v, Yields P ops o v a ∧ Un P ops Q r (a.put o.dst v) w := by
   by_cases hw : Region.wanted o (yielded ops a.tmps) = true
   ·rw [if_pos hw] at h
    obtain ⟨v, h1, h2⟩ := h;refine ⟨v, .inl ⟨hw, fun w' => ?_⟩, h2⟩;have h3 := h1 w' trivial;unfold Oper.quietAt at h3;cases hrun : (execOp a.eval o).run P w' with
    | ok n w1 =>
     obtain ⟨u, rfl⟩ := Zal hv hrun;rw [hrun] at h3;simp only [Oper.quietUpon] at h3;rw [h3.1, h3.2]
    | halt x w1 => rw [hrun] at h3; simp only [Oper.quietUpon] at h3
   ·rw [if_neg hw] at h
    exact ⟨undef, .inr ⟨by simpa using hw, rfl⟩, h⟩
  obtain ⟨v, hy, hn⟩ := key
  exact wpAny_first ho (fun j o cs b => Region.noSelect_spec hsel j o cs b) (fun c a w hq => absurd hq (hQ c _ _)) r.depth listed a w
   (fun j oj hj hne hun hno => Region.free_spec ho hf j oj hj hne hun hno) (by simpa using hr) hy (Uh hsel hQ r _ _ _ hB' hE hn)
 | .op i r, listed, a, w, hB, hE, ⟨o, ho, h⟩ => by
  simp only [Za9, Bool.and_eq_true, beq_iff_eq] at hB;obtain ⟨hr, hB'⟩ := hB;refine ⟨fun h0 => cy, fun j hj => ?_⟩;rw [hr] at hj;obtain rfl : j = i := by simpa using hj
  exact Qv ho h (fun a' w' hk => Uh hsel hQ r _ a' w' hB' hE hk)
 | .two i r k s, listed, a, w, hB, hE, ⟨⟨o, ho, h⟩, ⟨o2, ho2, h2⟩⟩ => by
  simp only [Za9, Bool.and_eq_true, beq_iff_eq] at hB;simp only [Ord.even, Bool.and_eq_true, beq_iff_eq] at hE;obtain ⟨⟨hr, hB'⟩, hB2⟩ := hB;obtain ⟨⟨hE1, hE2⟩, hd⟩ := hE;refine ⟨fun h0 => cy, fun j hj => ?_⟩;rw [hr] at hj;rcases (by simpa using hj : j = i ∨ j = k) with rfl | rfl
  ·exact Qv ho h (fun a' w' hk => Uh hsel hQ r _ a' w' hB' hE1 hk)
  ·exact J92
 | .three i r k s l t, listed, a, w, hB, hE, ⟨⟨o, ho, h⟩, ⟨o2, ho2, h2⟩, ⟨o3, ho3, h3⟩⟩ => by
  simp only [Za9, Bool.and_eq_true, beq_iff_eq] at hB;simp only [Ord.even, Bool.and_eq_true, beq_iff_eq] at hE;obtain ⟨⟨⟨hr, hB'⟩, hB2⟩, hB3⟩ := hB;obtain ⟨⟨⟨⟨hE1, hE2⟩, hE3⟩, hd⟩, hd2⟩ := hE;refine ⟨fun h0 => cy, fun j hj => ?_⟩;rw [hr] at hj;rcases (by simpa using hj : j = i ∨ j = k ∨ j = l) with rfl | rfl | rfl
  ·exact Qv ho h (fun a' w' hk => Uh hsel hQ r _ a' w' hB' hE1 hk)
  ·exact J92
  ·exact Qv ho3 h3 (fun a' w' hk => by have := Uh hsel hQ t _ a' w' hB3 hE3 hk; rwa [← hd2] at this)
theorem Yl {id : Nat} {a : Act} {w : World} {l : List Oper} (π : Ord) (hm : P.follows .mixedOrders = true)
  (hB : (Region.noSelect l.toArray && (π.depth == l.length && (π.even && Za9 .any l.toArray π (Array.replicate l.length false)))) = true)
  (h : Un P l.toArray (Kh Q) π a (w.drewN 1)) : (Code.region id l.toArray true).wp P Q a w := by
 simp only [Bool.and_eq_true, beq_iff_eq] at hB;obtain ⟨h1, h2, hE, h3⟩ := hB;refine Code.wp_mono (Q := Kh Q) (fun e a w q => by cases e <;> first | exact q | exact q.elim) (wp_region_any hm ?_);have := Uh (md := .any) h1 (fun c a w hq => hq) π (Array.replicate l.length false) a w.drew h3 hE h;rw [h2] at this;simpa using this
theorem Xa {a : Act} {w : World} (h : Q .normal a w) : Un P ops (Kh Q) .nil a w := h
theorem Zd {l : List Oper} {i : Nat} {r : Ord} {a : Act} {w : World} {o : Oper} (ho : nth l i = some o)
  (h : wpQuiet P l.toArray (fun _ => True) (fun a' => Un P l.toArray Q r a' w) [o] a) : Un P l.toArray Q (.val i r) a w := ⟨o, bu, h⟩
theorem Ze {l : List Oper} {i : Nat} {r : Ord} {a : Act} {w : World} {o : Oper} (ho : nth l i = some o)
  (h : wpList P l.toArray (Exit.then (Un P l.toArray Q r) Q) [o] a w) : Un P l.toArray Q (.op i r) a w := ⟨o, bu, h⟩
theorem Zr {l : List Oper} {i j : Nat} {r s : Ord} {a : Act} {w : World} {o o2 : Oper} (ho : nth l i = some o) (ho2 : nth l j = some o2)
  (h : wpList P l.toArray (Exit.then (Un P l.toArray Q r) Q) [o] a w) (h2 : wpList P l.toArray (Exit.then (Un P l.toArray Q s) Q) [o2] a w) : Un P l.toArray Q (.two i r j s) a w :=
 ⟨⟨o, bu, h⟩, ⟨o2, ia, h2⟩⟩
theorem Qc {l : List Oper} {i j k : Nat} {r s t : Ord} {a : Act} {w : World} {o o2 o3 : Oper} (ho : nth l i = some o) (ho2 : nth l j = some o2) (ho3 : nth l k = some o3)
  (h : wpList P l.toArray (Exit.then (Un P l.toArray Q r) Q) [o] a w) (h2 : wpList P l.toArray (Exit.then (Un P l.toArray Q s) Q) [o2] a w) (h3 : wpList P l.toArray (Exit.then (Un P l.toArray Q t) Q) [o3] a w) : Un P l.toArray Q (.three i r j s k t) a w :=
 ⟨⟨o, bu, h⟩, ⟨o2, ia, h2⟩, ⟨o3, by rw [← ho3, Uy]; simp, h3⟩⟩
end
theorem bb {W W' : World} {g : Nat} {t : TypeId} {cs : Array Value} (h : Hid (Blk W g t cs)) (hb : Below W.heap.size W W') : Hid (Blk W' g t cs) := h.out.below hb h.out.lt
theorem bn {w W : World} {t : TypeId} {cs : Array Value} (h : w.alloc (.cells cs t) = W) : Hid (Blk W w.heap.size t cs) := h ▸ Blk.new w _ _
theorem db {w W : World} {n : Nat} (h : w.drewN n = W) : Hid (Below w.heap.size w W) := h ▸ Zs w n
theorem cA {W : World} {g : Nat} {t : TypeId} {cs : Array Value} (h : Blk W g t cs) (i : Nat) (v : Value) (e : cs[i]? = some v) : W.cell? ⟨g, i, none⟩ = some v := (h.cell i).trans e
end Go.Proofs.YtpkkfdmhbbipoaaGreat
