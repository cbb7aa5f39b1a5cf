/- Small facts on worlds, rows of cells and slices that all walks of this claim use; no program in sight. Facts on this program's types: rows of its table, equality of sets and items. The plain functions that the walks compute: sets of bytes, patterns. No program in sight. A region that draws its order: its first n operations only read (or call what turns nothing), the others stand in one forced order. No program in sight. Objects in memory and their blocks: what a call may turn is a set of blocks; whatever lies in others stays. No program in sight. Plain laws of patterns: what 'ends' computes is what patterns mean. No program in sight. Plain laws: how many bits of a number are set, by halves. No program in sight. Regions that draw their order, walked in ONE order: operations that look at no memory are taken first; all others stand in a forced chain. No program in sight. Regions that draw their order, walked along a tree of orders: operations that look at no memory first, then whatever may come up, one branch for each. No program in sight. -/
import Derived.WalkKit
import Derived.WalkSpells
import Derived.WalkLawsBesides
import Derived.Test.YtpkkfdmhbbipoaaGreatRows
import Derived.ChangeKeysEq
import Derived.StillTailTactics
import Derived.BigQuiet
import Derived.Deep.QuietTactic
import Derived.Deep.RegionHeld3
namespace Go.Proofs.YtpkkfdmhbbipoaaGreat
open Go.RowKit
theorem bT {α : Type} [BEq α] [LawfulBEq α] {a b : α} (h : a = b) : (a == b) = true := beq_iff_eq.2 h
theorem bF {α : Type} [BEq α] [LawfulBEq α] {a b : α} (h : ¬ a = b) : (a == b) = false := beq_eq_false_iff_ne.2 h
theorem nE {α : Sort _} (a : α) : ∃ y, a = y := ⟨a, rfl⟩
theorem mE {α : Sort _} (a : α) : ∃ y, y = a := ⟨a, rfl⟩
theorem ba {w W : World} {o : Obj} (h : w.alloc o = W) : Hid (Below w.heap.size w W) := h ▸ (Below.refl _ _).alloc (Nat.le_refl _) _
theorem bt {w W W' : World} (h : Hid (Below w.heap.size w W)) (hb : Below W.heap.size W W') : Hid (Below w.heap.size w W') := h.out.trans (hb.mono h.out.size)
structure ZDt where
def zd : ZDt := ⟨⟩
instance : Coe ZDt (Array Value) := ⟨fun _ => #[.int .i64 0, .int .i64 0, .int .i64 0, .int .i64 0, .int .i64 0, .int .i64 0, .string ⟨#[]⟩, .int .i64 0, .int .i64 0, .slice none 0 0, .int .i64 0, .int .i64 0, .int .i64 0, .int .i64 0, .int .i64 0, .int .i64 0, .string ⟨#[]⟩, .int .i64 0, .string ⟨#[]⟩, .int .i64 0, .slice none 0 0, .string ⟨#[]⟩, .string ⟨#[]⟩, .string ⟨#[]⟩, .int .i64 0, .int .i64 0, .bool false, .int .i64 0]⟩
instance : Coe ZDt (List Value) := ⟨fun _ => [.int .i64 0, .int .i64 0, .int .i64 0, .int .i64 0, .int .i64 0, .int .i64 0, .string ⟨#[]⟩, .int .i64 0, .int .i64 0, .slice none 0 0, .int .i64 0, .int .i64 0, .int .i64 0, .int .i64 0, .int .i64 0, .int .i64 0, .string ⟨#[]⟩, .int .i64 0, .string ⟨#[]⟩, .int .i64 0, .slice none 0 0, .string ⟨#[]⟩, .string ⟨#[]⟩, .string ⟨#[]⟩, .int .i64 0, .int .i64 0, .bool false, .int .i64 0]⟩
structure ZSt where
def zs : ZSt := ⟨⟩
instance : Coe ZSt (Array Value) := ⟨fun _ => #[.int .i64 0, .int .i64 0, .int .i64 0, .int .i64 0, .int .i64 0, .int .i64 0]⟩
instance : Coe ZSt (List Value) := ⟨fun _ => [.int .i64 0, .int .i64 0, .int .i64 0, .int .i64 0, .int .i64 0, .int .i64 0]⟩
structure ZFt where
def zf : ZFt := ⟨⟩
instance : Coe ZFt (Array Value) := ⟨fun _ => #[.int .u64 0, .int .u64 0, .int .u64 0, .int .u64 0]⟩
instance : Coe ZFt (List Value) := ⟨fun _ => [.int .u64 0, .int .u64 0, .int .u64 0, .int .u64 0]⟩
theorem aa{P:Prop}(h:P:=by omega):P:=h
theorem ab{P:Prop}(h:P:=by kernel_rfl):P:=h
theorem ac{P:Prop}(h:P:=by decide):P:=h
theorem ae{P:Prop}(h:P:=by rw [hwj]; exact ⟨HJ0.bel.size, (HJ0.low 2 rfl).2, (HJ0.low 3 rfl).2, (HJ0.rng HB0W.out 2 rfl).1, (HJ0.rng HB0W.out 3 rfl).1⟩):P:=h
theorem af{P:Prop}(h:P:=by simp; omega):P:=h
theorem ah{P:Prop}(h:P:=by simp):P:=h
theorem ai{P:Prop}(h:P:=by have := HG.out; omega):P:=h
theorem aj{P:Prop}(h:P:=by rw [Hid, ← hds, ← hys]; exact ⟨rfl, (by kernel_rfl), rfl, by kernel_rfl⟩):P:=h
theorem ak{P:Prop}(h:P:=by obtain ⟨q, rfl⟩ := hqu; exact q.2):P:=h
theorem al{P:Prop}(h:P:=by have := HF.out _ hf; have := HG.out; omega):P:=h
theorem am{P:Prop}(h:P:=by have := HGR.out; have := HGS.out; omega):P:=h
theorem ao{P:Prop}(h:P:=by rcases h with h | h; rw [h]; exact (HE.low 2 rfl).1; rw [h]; exact (HE.low 3 rfl).1):P:=h
theorem ap{P:Prop}(h:P:=by obtain ⟨cs, rfl, hl, ha⟩ := hru.now.agg; exact ⟨cs, he, hl, ha, hru, hb⟩):P:=h
theorem aq{P:Prop}(h:P:=by simp [results, Tryz.results67, go_sem, t0, t1, t2, t3, t4, t5]):P:=h
theorem au{P:Prop}(h:P:=by rw [e]; exact ⟨by have := HG.out; omega, HSV.out, HNF.2⟩):P:=h
theorem aw{P:Prop}(h:P:=by go_num):P:=h
theorem ax{P:Prop}(h:P:=by simp [results, Tryz.results224, go_sem, z0, z1, z2, z3]):P:=h
theorem ay{P:Prop}(h:P:=by rw [← e]; exact hk):P:=h
theorem az{P:Prop}(h:P:=by have := HF.out _ hf; have := HKV.size; have := HBW.size; have := HGS.out; omega):P:=h
theorem bc{P:Prop}(h:P:=by simp [results, Tryz.results80, go_sem, t0, t1, t2, t3, t4, t5, t6, t7, t8]):P:=h
theorem bg{P:Prop}(h:P:=by rw [e]; have := HG.out; have := HB.out; omega):P:=h
theorem bh{P:Prop}(h:P:=by rw [HE.out]; rfl):P:=h
theorem bi{P:Prop}(h:P:=by rw [Hid, hwj, hwl, ← hds, HF.out]; exact (fun W' hW => HX0.out W' ((Uv HB0W.out H1.bel).trans hW (fun _ h => h.imp_right And.left)))):P:=h
theorem bj{P:Prop}(h:P:=by rw [HL.out]; omega):P:=h
theorem bk{P:Prop}(h:P:=by rw [e]; exact ⟨by have := HG.out; omega, HSV.out, fun h => HNX.2.2.1 _ h rfl⟩):P:=h
theorem bm{P:Prop}(h:P:=by simp [results, Tryz.results164, go_sem, k0, k1, k2, k3, l0, l1, l2, l3, l4]):P:=h
theorem bo{P:Prop}(h:P:=by rw [Xd]; omega):P:=h
theorem bp{P:Prop}(h:P:=by rw [← ho, Us]; simp):P:=h
theorem bq{P:Prop}(h:P:=by rw [e]; exact HNE.2.1):P:=h
theorem bu{P:Prop}(h:P:=by rw [e, HG.1]; exact Nat.le_refl _):P:=h
theorem bw{P:Prop}(h:P:=by simpa using h):P:=h
theorem bz{P:Prop}(h:P:=by rw [HN.out]; omega):P:=h
theorem cd{P:Prop}(h:P:=by simp [maxLen]):P:=h
theorem cf{P:Prop}(h:P:=by rw [e]; exact Nat.le_trans HB.out HWG.out):P:=h
theorem cg{P:Prop}(h:P:=by simp [results, Tryz.results152, go_sem, Jp, r0, r1, r2, r3, r4]):P:=h
theorem cj{P:Prop}(h:P:=by simp [results, Tryz.results114, go_sem, t0, t1, t2, t3, t4, t5]):P:=h
theorem ck{P:Prop}(h:P:=by split at ha <;> split at hp <;> omega):P:=h
theorem cn{P:Prop}(h:P:=by rw [HE.out]):P:=h
theorem cq{P:Prop}(h:P:=by rw [Hid, ← HGS.out]; exact HBW.size):P:=h
theorem cr{P:Prop}(h:P:=by rw [ByteArray.size_extract]; omega):P:=h
theorem cu{P:Prop}(h:P:=by simp [results, Tryz.results241, go_sem, z0, z1, z2, z3]):P:=h
theorem cx{P:Prop}(h:P:=by have := HFX.out _ hf; have := HG.out; omega):P:=h
theorem cy{P:Prop}(h:P:=by rw [beq_eq_false_iff_ne]; exact q1):P:=h
theorem cz{P:Prop}(h:P:=by simp [results, Tryz.results177, go_sem]):P:=h
theorem da{P:Prop}(h:P:=by rw [Hid, hwj, hwl, ← hds, HF.out]; exact (fun W' hW => HXE.out W' ((Uv HB0W.out (H1.putA 0 rfl 26 [.bool true] rfl).bel).trans hW (fun _ h => h.imp_right And.left)))):P:=h
theorem dc{P:Prop}(h:P:=by rw [List.isEmpty_eq_false_iff]; exact z0):P:=h
theorem de{P:Prop}(h:P:=by have := h.2.2; omega):P:=h
theorem df{P:Prop}(h:P:=by rw [e]; have := HG.out; omega):P:=h
theorem dg{P:Prop}(h:P:=by rw [hr] at h0; cases h0):P:=h
theorem dh{P:Prop}(h:P:=by unfold maxLen; omega):P:=h
theorem di{P:Prop}(h:P:=by rw [Hid, ← hys, HF.out]):P:=h
theorem dj{P:Prop}(h:P:=by rw [Hid, hwl, ← hds, ← hys]; exact (H1.putA 0 rfl 26 [.bool true] rfl)):P:=h
theorem dk{P:Prop}(h:P:=by have := HBQ.out; omega):P:=h
theorem dm{P:Prop}(h:P:=by rw [Hid, ← HEZ.out]; exact decide_eq_true htx):P:=h
theorem dp{P:Prop}(h:P:=by obtain ⟨q, rfl⟩ := hq6; exact HR5.below q.2):P:=h
theorem dq{P:Prop}(h:P:=by simp <;> omega):P:=h
theorem dr{P:Prop}(h:P:=by simp only [List.map_toArray, List.map_cons, List.map_nil, h1]; rfl):P:=h
theorem dv{P:Prop}(h:P:=by show w.heap.size ≤ gf; omega):P:=h
theorem dx{P:Prop}(h:P:=by show (-9223372036854775808 : Int) ≤ 9223372036854775807; decide):P:=h
theorem dy{P:Prop}(h:P:=by rw [← hwd, ← hgq]; exact Blk.new wc _ _):P:=h
theorem dz{P:Prop}(h:P:=by rw [← HY.2]; exact HDN.cell 10):P:=h
theorem ed{P:Prop}(h:P:=by rw [← HY.1]; exact HDN.cell 20):P:=h
theorem ee{P:Prop}(h:P:=by show (9223372036854775807 : Int) ≤ 9223372036854775807; decide):P:=h
theorem eh{P:Prop}(h:P:=by simp [results, Tryz.results245, go_sem]):P:=h
theorem ei{P:Prop}(h:P:=by rw [Hid]; omega):P:=h
theorem ej{P:Prop}(h:P:=by simp [results, Tryz.results219, go_sem, z0, z1, z2, z3, z4]):P:=h
theorem ek{P:Prop}(h:P:=by rw [bne, q1]; rfl):P:=h
theorem eo{P:Prop}(h:P:=by simp [Xq.cells]; omega):P:=h
theorem et{P:Prop}(h:P:=by rw [← hz]; rfl):P:=h
theorem eu{P:Prop}(h:P:=by have := HGO.out; have := HG.out; omega):P:=h
theorem ev{P:Prop}(h:P:=by have := HB6.out; rwa [HGP.out] at this):P:=h
theorem ew{P:Prop}(h:P:=by rw [e, HGS.out]; exact Nat.le_refl _):P:=h
theorem ey{P:Prop}(h:P:=by have := HLO.2; rw [show ((x.loc : Int) + 1) = ((x.loc + 1 : Nat) : Int) by omega]; apply IntWalk.i64_in <;> omega):P:=h
theorem fa{P:Prop}(h:P:=by rw [← HRR.out, List.take_of_length_le (by rw [HN.out]; omega), List.take_of_length_le (by rw [HN.out]; omega)]):P:=h
theorem fc{P:Prop}(h:P:=by rw [e]; exact HVG.out):P:=h
theorem fe{P:Prop}(h:P:=by unfold Addr.add; split <;> simp_all):P:=h
theorem fg{P:Prop}(h:P:=by simpa using hl):P:=h
theorem fh{P:Prop}(h:P:=by obtain ⟨q, rfl⟩ := hqu; exact HKD.trans (Za.of_below (F := fun k => k = g) q.2) (fun _ h => .inl h)):P:=h
theorem fi{P:Prop}(h:P:=by simp only [List.map_toArray, List.map_cons, List.map_nil, h1]; rw [h2 20 (by decide) (by decide)]; rfl):P:=h
theorem fj{P:Prop}(h:P:=by rw [HCS.out]; rfl):P:=h
theorem fk{P:Prop}(h:P:=by have := Jg (b := ⟨#[]⟩) (fun h => hs ((Gc tx).1 h)); rwa [ByteArray.toList_eq ⟨#[]⟩] at this):P:=h
theorem fm{P:Prop}(h:P:=by have := Jg (b := ⟨#[]⟩) (fun h => h0 ((Gc ot).1 h)); rwa [ByteArray.toList_eq ⟨#[]⟩] at this):P:=h
theorem fo{P:Prop}(h:P:=by rw [e]; exact HBX.1):P:=h
theorem fp{P:Prop}(h:P:=by have := HBL.size; simp; omega):P:=h
theorem fq{P:Prop}(h:P:=by trivial):P:=h
theorem fs{P:Prop}(h:P:=by rw [beq_eq_false_iff_ne]; have := HSTE.1; omega):P:=h
theorem ft{P:Prop}(h:P:=by rw [bne, he0]; rfl):P:=h
theorem fu{P:Prop}(h:P:=by rw [List.take_succ_eq_append_getElem hli, hov]):P:=h
theorem fw{P:Prop}(h:P:=by rw [Hid, ← hys, HF.out]; rfl):P:=h
theorem fx{P:Prop}(h:P:=by rw [Hid, HGOX.out, if_pos rfl]):P:=h
theorem gc{P:Prop}(h:P:=by rw [e]; exact HD.fd.1):P:=h
theorem gg{P:Prop}(h:P:=by rw [Hid, hwl, ← hds, ← hys]; exact H1.out):P:=h
theorem gj{P:Prop}(h:P:=by simp [Value.ownBlock, hg5]):P:=h
theorem gt{P:Prop}(h:P:=by simp [results, Tryz.results219, go_sem]):P:=h
theorem gu{P:Prop}(h:P:=by rw [← hwz, ← E.1, ← E.2.1, ← E.2.2]; exact ((HKQ.set 13 _).set 14 _).set 15 _):P:=h
theorem gw{P:Prop}(h:P:=by cases e <;> first | exact q | exact q.elim):P:=h
theorem ia{P:Prop}(h:P:=by rw [Hid, ← hbuf2, Ji _ _ _ (by rw [List.length_take, HTL.out]; omega)]; exact hlen):P:=h
theorem ic{P:Prop}(h:P:=by rw [HF.out]; rfl):P:=h
theorem ie{P:Prop}(h:P:=by assumption):P:=h
theorem ig{P:Prop}(h:P:=by rw [← htm, ← HTZ.out]; exact Nl S' s1):P:=h
theorem ii{P:Prop}(h:P:=by rw [← htm, ← HTN.out]; exact Nl SN s1):P:=h
theorem ij{P:Prop}(h:P:=by rw [Hid, List.length_append, HK.out]; rfl):P:=h
theorem io{P:Prop}(h:P:=by rcases h with h | h; rw [h]; exact (HG.low 2 rfl).1; rw [h]; exact (HG.low 3 rfl).1):P:=h
theorem ip{P:Prop}(h:P:=by rw [Hid, Zk, List.size_toArray, HCS.out]):P:=h
theorem iq{P:Prop}(h:P:=by rw [(e : k = gr)]; exact ⟨hgz, hlz⟩):P:=h
theorem ir{P:Prop}(h:P:=by obtain ⟨qq, rfl⟩ := hq6; exact qq.2):P:=h
theorem iu{P:Prop}(h:P:=by obtain ⟨qq, rfl⟩ := hq5; exact qq.2):P:=h
theorem iw{P:Prop}(h:P:=by rw [e, ← HGS.out]; exact Nat.le_trans HB.out (Nat.le_trans HKV.size HS1.out)):P:=h
theorem ix{P:Prop}(h:P:=by rw [beq_iff_eq]; have := HSTE.1; omega):P:=h
theorem iy{P:Prop}(h:P:=by rintro ⟨h', -⟩; exact Wu _ _ h'):P:=h
theorem iz{P:Prop}(h:P:=by simp [hm1]):P:=h
theorem jh{P:Prop}(h:P:=by rw [Qk, HL.out]; omega):P:=h
theorem ji{P:Prop}(h:P:=by rw [Hid, ← hds, ← hys]; exact ⟨HCS.out, HCA.out, rfl, by kernel_rfl⟩):P:=h
theorem jj{P:Prop}(h:P:=by have := Jg (b := ⟨#[]⟩) hne; rwa [ByteArray.toList_eq ⟨#[]⟩] at this):P:=h
theorem jk{P:Prop}(h:P:=by rw [e, HG.out]; exact Nat.le_refl _):P:=h
theorem jl{P:Prop}(h:P:=by rw [We, if_neg c1, if_pos (by omega)]):P:=h
theorem jn{P:Prop}(h:P:=by rw [List.length_append, HAL.out]; rfl):P:=h
theorem jo{P:Prop}(h:P:=by rw [Hid, hk]; exact Nat.le_trans (Zc4 _) (by rw [List.length_take]; omega)):P:=h
theorem jq{P:Prop}(h:P:=by rw [HKQ.cell 15]; show some (Value.int .i64 y.due.cut) = _; rw [HXY.2.2.1]):P:=h
theorem jr{P:Prop}(h:P:=by rw [HKQ.cell 14]; show some (Value.int .i64 y.due.lim) = _; rw [HXY.2.2.1]):P:=h
theorem js{P:Prop}(h:P:=by rw [HKQ.cell 13]; show some (Value.int .i64 y.due.til) = _; rw [HXY.2.2.1]):P:=h
theorem jt{P:Prop}(h:P:=by have := HJB.out; omega):P:=h
theorem jw{P:Prop}(h:P:=by rw [hk]; decide):P:=h
theorem jx{P:Prop}(h:P:=by rw [e2]; unfold Uy; rw [List.length_map, List.length_take, HL.out]; omega):P:=h
theorem jy{P:Prop}(h:P:=by rw [← HPP.out, HE.out]; simp only [if_true]; rw [HJ.out]; exact HQ.out):P:=h
theorem jz{P:Prop}(h:P:=by rw [e]; exact ⟨by rw [HG.out]; exact Nat.le_refl _, HRX.lt, HNF.out⟩):P:=h
theorem kd{P:Prop}(h:P:=by rw [Hid, ← hwb]; simp):P:=h
theorem ke{P:Prop}(h:P:=by rw [Hid, Zk, List.size_toArray, hl]):P:=h
theorem kf{P:Prop}(h:P:=by simp [results, Tryz.results82, go_sem, t0, t1, t2, t3, t4, t5, t6]):P:=h
theorem kg{P:Prop}(h:P:=by simpa using hi):P:=h
theorem kh{P:Prop}(h:P:=by rw [← HAE.out, List.drop_of_length_le (by rw [HM.out]; omega)]; rfl):P:=h
theorem ki{P:Prop}(h:P:=by rw [e]; exact HGF.out):P:=h
theorem kn{P:Prop}(h:P:=by rw [Ud]; omega):P:=h
theorem kp{P:Prop}(h:P:=by rw [Hid, ← HBD.out, decide_eq_true]; exact .inr (fun h => by omega)):P:=h
theorem kq{P:Prop}(h:P:=by rw [← ho2, Us]; simp):P:=h
theorem kt{P:Prop}(h:P:=by have := HGR.out; omega):P:=h
theorem ku{P:Prop}(h:P:=by simp only; omega):P:=h
theorem kv{P:Prop}(h:P:=by simp [results, Tryz.results115, go_sem, t0, t1, t2, t3, t4, t5]):P:=h
theorem kw{P:Prop}(h:P:=by simp [results, Tryz.results113, go_sem, t0, t1, t2, t3, t4, t5]):P:=h
theorem kx{P:Prop}(h:P:=by cases h):P:=h
theorem ky{P:Prop}(h:P:=by simp [results, Tryz.results20, go_sem, t0, t1, t2, t3, t4, t5]):P:=h
theorem kz{P:Prop}(h:P:=by rintro (e | e); exact HGN.2.1 e.symm; exact HGN.2.2.2.1 e.symm):P:=h
theorem lc{P:Prop}(h:P:=by show (t.extract s l).size = _; rw [ByteArray.size_extract]; omega):P:=h
theorem ld{P:Prop}(h:P:=by rw [HG.out]; exact Nat.le_refl _):P:=h
theorem lg{P:Prop}(h:P:=by have := HN.out; omega):P:=h
theorem lh{P:Prop}(h:P:=by rw [Hid]; kernel_rfl):P:=h
theorem lj{P:Prop}(h:P:=by rintro (e | e); exact HGN.1 e.symm; exact HGN.2.2.1 e.symm):P:=h
theorem lk{P:Prop}(h:P:=by simpa using hj):P:=h
theorem ll{P:Prop}(h:P:=by rw [List.length_take]; omega):P:=h
theorem lm{P:Prop}(h:P:=by obtain ⟨q, rfl⟩ := hqu; exact HB.trans (q.2.mono HB.size)):P:=h
theorem lp{P:Prop}(h:P:=by simp [results, Tryz.results248, go_sem, z0, z1, z2, z3]):P:=h
theorem lq{P:Prop}(h:P:=by simp [results, Tryz.results229, go_sem, z0, z1, z2, z3]):P:=h
theorem lr{P:Prop}(h:P:=by simp [results, Tryz.results147, go_sem, r0, r1, r2, r3]):P:=h
theorem lu{P:Prop}(h:P:=by rw [h37]; decide):P:=h
instance : Coe Int Value := ⟨.int .i64⟩
instance : Coe ByteArray Value := ⟨.string⟩
instance : Coe Bool Value := ⟨.bool⟩
instance : Coe Nat Value := ⟨fun n => .int .i64 (n : Int)⟩
theorem hid {p : Prop} (h : p) : Hid p := h
def Rd (w : World) (A : Option Addr) (xs : List Value) : Prop :=
 xs = [] ∨ ∃ b off, A = some ⟨b, off, none⟩ ∧ b < w.heap.size ∧ ∀ j u, xs[j]? = some u → w.cell? ⟨b, off + j, none⟩ = some u
theorem Rd.below {w w' : World} {A : Option Addr} {xs : List Value} (h : Rd w A xs) (hb : Below w.heap.size w w') : Rd w' A xs := by
 rcases h with h | ⟨b, off, hA, hlt, hc⟩
 ·exact .inl h
 ·exact .inr ⟨b, off, hA, Nat.lt_of_lt_of_le hlt hb.size, fun j u hj => (hb.cell (p := ⟨b, off + j, none⟩) hlt).trans (hc j u hj)⟩
theorem Rd.at {w : World} {A : Option Addr} {xs : List Value} (h : Rd w A xs) (hne : 0 < xs.length) :
  ∃ b off, A = some ⟨b, off, none⟩ ∧ b < w.heap.size ∧ ∀ j u, xs[j]? = some u → w.cell? ⟨b, off + j, none⟩ = some u := by
 rcases h with h | h
 ·rw [h] at hne; simp at hne
 ·exact h
theorem Gn {w : World} {b o b' o' : Nat} {u : Value} (h : b' ≠ b) : (w.setCell ⟨b, o, none⟩ u).cell? ⟨b', o', none⟩ = w.cell? ⟨b', o', none⟩ :=
 World.cell?_setCell_other w ⟨b, o, none⟩ ⟨b', o', none⟩ u (fun e => h (by injection e with e1; exact e1.symm))
theorem Qw {w : World} {b o : Nat} {u x : Value} (h : w.cell? ⟨b, o, none⟩ = some x) : (w.setCell ⟨b, o, none⟩ u).cell? ⟨b, o, none⟩ = some u := by
 unfold World.cell? World.setCell at *;simp only [Array.getElem?_modify, if_true] at *;split at h
 ·rename_i c e f hh
  rw [hh];simp only [Option.isSome_none, Bool.false_eq_true, if_false, Option.map_some] at h ⊢;have := (Array.getElem?_eq_some_iff.1 h).1;simp [this]
 ·cases h
structure Zp where
 w0 : BitVec 64
 w1 : BitVec 64
 w2 : BitVec 64
 w3 : BitVec 64
 deriving DecidableEq, Inhabited
abbrev w64 (x : BitVec 64) : Value := .int .u64 (x.toNat : Int)
def Zp.cells (s : Zp) : List Value := [w64 s.w0, w64 s.w1, w64 s.w2, w64 s.w3]
def Zp.val (s : Zp) : Value := .agg #[w64 s.w0, w64 s.w1, w64 s.w2, w64 s.w3]
def Zp.zero : Zp := ⟨0, 0, 0, 0⟩
structure Zm where
 run : Bool
 set : Zp
 deriving DecidableEq, Inhabited
def Zm.cells (x : Zm) : List Value := .bool x.run :: x.set.cells
def Zm.val (x : Zm) : Value := .agg #[x.run, w64 x.set.w0, w64 x.set.w1, w64 x.set.w2, w64 x.set.w3]
def Yb (l : List Zm) : List Value := l.flatMap Zm.cells
theorem Zm.cells_length (x : Zm) : x.cells.length = 5 := rfl
theorem Qk (l : List Zm) : (Yb l).length = l.length * 5 := by
 induction l with
 | nil => rfl
 | cons x l ih => simp only [Yb, List.flatMap_cons, List.length_append, List.length_cons] at ih ⊢; rw [ih, Zm.cells_length]; omega
theorem Jx (a b : List Zm) : Yb (a ++ b) = Yb a ++ Yb b := by simp [Yb]
theorem Zf4 (l : List Zm) (k : Nat) (h : k < l.length) (j : Nat) (hj : j < 5) : (Yb l)[k * 5 + j]? = (l[k]).cells[j]? := by
 induction l generalizing k with
 | nil => simp at h
 | cons x l ih =>
  rw [show Yb (x :: l) = x.cells ++ Yb l from rfl];cases k with
  | zero => rw [List.getElem?_append_left (by rw [Zm.cells_length]; omega)]; simp
  | succ k =>
   rw [List.getElem?_append_right (by rw [Zm.cells_length]; omega), Zm.cells_length, show (k + 1) * 5 + j - 5 = k * 5 + j from aa];exact ih k bw
theorem Zem {w : World} {b off : Nat} {l : List Zm} (hc : ∀ j u, (Yb l)[j]? = some u → w.cell? ⟨b, off + j, none⟩ = some u) (k : Nat) (h : k < l.length) :
  w.cell? ⟨b, off + k * 5, none⟩ = some (.bool (l[k]).run) ∧ w.cell? ⟨b, off + k * 5 + 1, none⟩ = some (w64 (l[k]).set.w0) ∧ w.cell? ⟨b, off + k * 5 + 2, none⟩ = some (w64 (l[k]).set.w1) ∧
  w.cell? ⟨b, off + k * 5 + 3, none⟩ = some (w64 (l[k]).set.w2) ∧ w.cell? ⟨b, off + k * 5 + 4, none⟩ = some (w64 (l[k]).set.w3) := by
 have H := fun j hj u (hu : (l[k]).cells[j]? = some u) => hc (k * 5 + j) u ((Zf4 l k h j hj).trans hu);refine ⟨?_, ?_, ?_, ?_, ?_⟩
 ·exact H 0 aa _ rfl
 ·have := H 1 aa _ rfl; rwa [← Nat.add_assoc] at this
 ·have := H 2 aa _ rfl; rwa [← Nat.add_assoc] at this
 ·have := H 3 aa _ rfl; rwa [← Nat.add_assoc] at this
 ·have := H 4 aa _ rfl; rwa [← Nat.add_assoc] at this
/-! ### Rows of the call's own -/
theorem Za5 {w : World} {base : Nat} {e : TypeId} {size : Nat} {v : Value} {n : Nat} {xs : List Value} (h : w.ownsRow base e size v n xs) :
  ∃ A c, v = .slice A n c ∧ Rd w A xs := by
 rcases h.2 with ⟨rfl, h0⟩ | ⟨g, cap, cur, rfl, hb, hg, hn, hc, hcs, ht⟩
 ·subst h0
  refine ⟨none, 0, rfl, .inl (List.eq_nil_of_length_eq_zero (by rw [h.1]; simp))⟩
 ·refine ⟨_, _, rfl, .inr ⟨g, 0, rfl, (Array.getElem?_eq_some_iff.1 hg).1, fun j u hu => ?_⟩⟩
  have := h.cells (g := g) rfl j u hu;rw [show ((⟨g, 0, none⟩ : Addr).add j) = ⟨g, 0 + j, none⟩ from fe] at this;exact this
theorem Wo {B : Nat} {w0 w w' : World} {base : Nat} {e : TypeId} {size : Nat} {v : Value} {n : Nat} {xs : List Value} (h : Below B w0 w) (hown : w.ownsRow base e size v n xs)
  (hg : w.grownBy w' v.ownBlock) (hB : B ≤ base) (hs : B ≤ w.heap.size) : Below B w0 w' :=
 h.grown hg hs (fun k hk => Nat.le_trans hB (hown.lt k hk).1)
theorem Yc {w w' : World} {base B : Nat} {e : TypeId} {size : Nat} {v : Value} {n : Nat} {xs : List Value} (h : w.ownsRow base e size v n xs) (hb : Below B w w') (hB : w.heap.size ≤ B := by exact Nat.le_refl _) :
  w'.ownsRow base e size v n xs :=
 h.kept (row := none) ⟨hb.os, hb.tape, hb.output, hb.size, fun q hq _ => hb.block q (Nat.lt_of_lt_of_le hq hB)⟩ (by cases hv : v.ownBlock <;> simp)
theorem Vi {w : World} {base B : Nat} {e : TypeId} {size : Nat} {v : Value} {n : Nat} {xs : List Value} (h : w.ownsRow base e size v n xs) (hB : B ≤ base) : w.ownsRow B e size v n xs := by
 obtain ⟨h1, h2⟩ := h;refine ⟨h1, ?_⟩;rcases h2 with h2 | ⟨g, cap, cur, hv, hb, r⟩
 ·exact .inl h2
 ·exact .inr ⟨g, cap, cur, hv, aa, r⟩
theorem Zc2 {w : World} {b1 b2 : Nat} {e1 e2 : TypeId} {s1 s2 : Nat} {v1 v2 : Value} {n1 n2 : Nat} {xs ys : List Value} (h1 : w.ownsRow b1 e1 s1 v1 n1 xs) (h2 : w.ownsRow b2 e2 s2 v2 n2 ys) (hne : e1 ≠ e2) :
  v1.ownBlock = none ∨ v1.ownBlock ≠ v2.ownBlock := by
 rcases h1.2 with ⟨rfl, _⟩ | ⟨g, cap, cur, rfl, _, hg, _⟩
 ·exact .inl rfl
 ·right
  rcases h2.2 with ⟨rfl, _⟩ | ⟨g', cap', cur', rfl, _, hg', _⟩
  ·simp [Value.ownBlock]
  ·intro e
   simp only [Value.ownBlock, Option.some.injEq] at e;subst e;rw [hg] at hg';injection hg' with hg'
   injection hg' with _ ht
   exact hne ht
theorem Zbb {w : World} {e : TypeId} {cs : List Value} : ∀ j u, cs[j]? = some u → (w.alloc (.cells cs.toArray e)).cell? ((⟨w.heap.size, 0, none⟩ : Addr).add j) = some u := by
 intro j u hj;rw [show ((⟨w.heap.size, 0, none⟩ : Addr).add j) = ⟨w.heap.size, j, none⟩ from fe];rw [cell_of_row _ w.heap.size j cs.toArray e (0, 0) (heap_alloc_new w _)];simpa using hj
theorem Wn {P : Program} (w : World) {ops : Array Oper} {rest : List Oper} {o : Oper} {a : Act} {Q : Exit → Act → World → Prop} (hgd : o.guard = none) (s x : Operand) (t : TypeId)
  (ho : o.op = .call { callee := .builtin .append, args := #[s, x], argTypes := #[t, t] })
  (base : Nat) (e : TypeId) (z : Value) (size bytes : Nat) (ht : P.underlying t = some (.slice e)) (hi : (P.info? e).map (fun i => (i.zero, i.size, i.bytes)) = some (some z, size, bytes))
  (hzs : z.cells.size = size) (hsz : 0 < size)
  (v : Value) (n : Nat) (xs : List Value) (hs : a.eval s = v) (hown : w.ownsRow base e size v n xs)
  (c : Nat) (cs : List Value) (hx : a.eval x = .slice (some ⟨w.heap.size, 0, none⟩) 1 c) (hl : cs.length = size) (h1 : cs.all Value.oneCell' = true)
  (hbytes : (n + 1) * bytes ≤ 140737488355328) (hby : 1 ≤ bytes) (hbase : base ≤ w.heap.size)
  (h : ∀ A c' w', w'.ownsRow base e size (.slice A (n + 1) c') (n + 1) (xs ++ cs) → w.grownBy w' v.ownBlock → wpList P ops Q rest (a.put o.dst (.slice A (n + 1) c')) w') :
  wpList P ops Q (o :: rest) a (w.alloc (.cells cs.toArray e)) := by
 obtain ⟨i, hi, hz, hz1, hz2⟩ := info_parts hi;have hn : n + 1 ≤ 140737488355328 := Nat.le_trans (Nat.le_mul_of_pos_right _ hby) hbytes
 refine wpList_append_own _ hgd s x t ho base e i z size bytes ht hi hz hz1 hz2 hzs hsz v n xs hs (hown.alloc _) ⟨w.heap.size, 0, none⟩ 1 c cs hx fg Zbb
  (fun u hu => List.all_eq_true.1 h1 u hu) dh hbytes af ?_
 intro v' w' hown' hg _;obtain ⟨A, c', rfl, _⟩ := Za5 hown';exact h A c' w' hown' ((World.grownBy_alloc w _ _).trans hg)
theorem Qz {P : Program} (w : World) {ops : Array Oper} {rest : List Oper} {o : Oper} {a : Act} {Q : Exit → Act → World → Prop} (hgd : o.guard = none) (s x : Operand) (t : TypeId)
  (ho : o.op = .call { callee := .builtin .append, args := #[s, x], argTypes := #[t, t] })
  (base : Nat) (e : TypeId) (z : Value) (size bytes : Nat) (ht : P.underlying t = some (.slice e)) (hi : (P.info? e).map (fun i => (i.zero, i.size, i.bytes)) = some (some z, size, bytes))
  (hzs : z.cells.size = size) (hsz : 0 < size)
  (v : Value) (n : Nat) (xs : List Value) (hs : a.eval s = v) (hown : w.ownsRow base e size v n xs)
  (c : Nat) (cs : List Value) (hx : a.eval x = .slice (some ⟨w.heap.size, 0, none⟩) 1 c) (hl : cs.length = size) (h1 : cs.all Value.oneCell' = true)
  (hbytes : (n + 1) * bytes ≤ 140737488355328) (hby : 1 ≤ bytes) (hbase : base ≤ w.heap.size)
  (h : ∀ g c' w', w'.ownsRow base e size (.slice (some ⟨g, 0, none⟩) (n + 1) c') (n + 1) (xs ++ cs) → w.grownBy w' v.ownBlock → wpList P ops Q rest (a.put o.dst (.slice (some ⟨g, 0, none⟩) (n + 1) c')) w') :
  wpList P ops Q (o :: rest) a (w.alloc (.cells cs.toArray e)) := by
 obtain ⟨i, hi, hz, hz1, hz2⟩ := info_parts hi;have hn : n + 1 ≤ 140737488355328 := Nat.le_trans (Nat.le_mul_of_pos_right _ hby) hbytes
 refine wpList_append_own _ hgd s x t ho base e i z size bytes ht hi hz hz1 hz2 hzs hsz v n xs hs (hown.alloc _) ⟨w.heap.size, 0, none⟩ 1 c cs hx fg Zbb
  (fun u hu => List.all_eq_true.1 h1 u hu) dh hbytes af ?_
 intro v' w' hown' hg _
 obtain ⟨g, c', rfl⟩ : ∃ g c', v' = .slice (some ⟨g, 0, none⟩) (n + 1) c' := by
  rcases hown'.2 with ⟨_, h0⟩ | ⟨g, cap, cur, hv, _⟩
  ·omega
  ·exact ⟨g, cap, hv⟩
 exact h g c' w' hown' ((World.grownBy_alloc w _ _).trans hg)
/-! ### A block that is known whole -/
def Blk (w : World) (g : Nat) (t : TypeId) (cs : Array Value) : Prop := w.heap[g]? = some (.cells cs t (0, 0))
theorem Blk.cell {w : World} {g : Nat} {t : TypeId} {cs : Array Value} (h : Blk w g t cs) (i : Nat) : w.cell? ⟨g, i, none⟩ = cs[i]? := cell_of_row w g i cs t (0, 0) h
theorem Blk.frozen {w : World} {g : Nat} {t : TypeId} {cs : Array Value} (h : Blk w g t cs) (i : Nat) : w.frozen? ⟨g, i, none⟩ = false := frozen_of_row w g i cs t h
theorem Blk.new (w : World) (t : TypeId) (cs : Array Value) : Blk (w.alloc (.cells cs t)) w.heap.size t cs := heap_alloc_new w _
theorem Blk.lt {w : World} {g : Nat} {t : TypeId} {cs : Array Value} (h : Blk w g t cs) : g < w.heap.size := (Array.getElem?_eq_some_iff.1 h).1
theorem Blk.alloc {w : World} {g : Nat} {t : TypeId} {cs : Array Value} (h : Blk w g t cs) (o : Obj) : Blk (w.alloc o) g t cs := (Below.heap_alloc w o g h.lt).trans h
theorem Blk.below {B : Nat} {w w' : World} {g : Nat} {t : TypeId} {cs : Array Value} (h : Blk w g t cs) (hb : Below B w w') (hg : g < B) : Blk w' g t cs := (hb.block g hg).trans h
theorem Blk.set {w : World} {g : Nat} {t : TypeId} {cs : Array Value} (h : Blk w g t cs) (i : Nat) (u : Value) : Blk (w.setCell ⟨g, i, none⟩ u) g t (cs.setIfInBounds i u) := heap_setCell_same w g i cs t u h
theorem Blk.set_far {w : World} {g g' i : Nat} {t : TypeId} {cs : Array Value} {u : Value} (h : Blk w g t cs) (hne : g ≠ g') : Blk (w.setCell ⟨g', i, none⟩ u) g t cs := (Below.heap_setCell w ⟨g', i, none⟩ u g hne).trans h
/-! ### Bits, and rows that are filled from the left -/
theorem Zoj (x : BitVec 64) (k : Nat) : (bits .and .u64 ((x.toNat : Int) / 2 ^ k) 1 == 1) = x.getLsbD k := by
 have hx := x.isLt;have hd : x.toNat / 2 ^ k ≤ x.toNat := Nat.div_le_self _ _;have e : ((x.toNat : Int) / 2 ^ k) = ((x.toNat / 2 ^ k : Nat) : Int) := by push_cast; rfl
 rw [e, BitVec.getLsbD, Nat.testBit_eq_decide_div_mod_eq];generalize x.toNat / 2 ^ k = q at *;rw [and_one_u64 _ aa aa, Bool.eq_iff_iff]; simp; omega
theorem Zol (w : World) (t : TypeId) (cs : Array Value) : Rd (w.alloc (.cells cs t)) (some ⟨w.heap.size, 0, none⟩) cs.toList := by
 refine .inr ⟨w.heap.size, 0, rfl, ah, fun j u hj => ?_⟩;rw [Nat.zero_add, cell_of_row _ w.heap.size j _ _ (0, 0) (heap_alloc_new w _)];simpa using hj
theorem Xw {w : World} {base : Nat} {e : TypeId} {size : Nat} {A : Option Addr} {n c : Nat} {xs : List Value} (h : w.ownsRow base e size (.slice A n c) n xs) : Rd w A xs := by
 obtain ⟨A', c', hv, hr⟩ := Za5 h;injection hv with h1 h2 h3
 rw [h1]; exact hr
theorem Mc {P : Program} (w : World) {ops : Array Oper} {rest : List Oper} {o : Oper} {a : Act} {Q : Exit → Act → World → Prop}
  (hg : o.guard = none) (l c : Operand) (t : TypeId) (hop : o.op = Op.makeSlice t l c)
  (base : Nat) (e : TypeId) (z : Value) (bytes : Nat) (h1 : P.underlying t = some (.slice e)) (h2 : (P.info? e).map (fun i => (i.zero, i.size, i.bytes)) = some (some z, 1, bytes)) (hz : z.cells = #[z])
  (kl kc : IntKind) (L C : Int) (n : Nat) (hl : a.eval l = .int kl L) (hc : a.eval c = .int kc C) (hL : L = (n : Int)) (hC : C = (n : Int)) (b2 : bytes * n ≤ 281474976710656) (b3 : n ≤ 9223372036854775807) (b4 : base ≤ w.heap.size)
  (hK : ∀ w', w'.ownsRow base e 1 (.slice (some ⟨w.heap.size, 0, none⟩) n n) n (List.replicate n z) → w.grownBy w' none → wpList P ops Q rest (a.put o.dst (.slice (some ⟨w.heap.size, 0, none⟩) n n)) w') :
  wpList P ops Q (o :: rest) a w := by
 obtain ⟨i, hi, hz0, hz1, hz2⟩ := info_parts h2;refine wpList_make_full w hg l c t hop base e i z 1 h1 hi hz0 hz1 kl kc L C n hl hc hL hC (by rw [hz2]; exact b2) dh b4 ?_;intro w' ho hgr;rw [hz, toList_madeCells_one, Nat.mul_one] at ho;exact hK w' ho hgr
theorem Gw {α : Type} (f : α → List Value) (s : Nat) (l : List α) (hf : ∀ x ∈ l, (f x).length = s) (k : Nat) (h : k < l.length) (j : Nat) (hj : j < s) : (l.flatMap f)[k * s + j]? = (f l[k])[j]? := by
 induction l generalizing k with
 | nil => simp at h
 | cons x l ih =>
  have hx := hf x List.mem_cons_self;rw [List.flatMap_cons];cases k with
  | zero =>
   rw [List.getElem?_append_left (by rw [hx]; omega)];simp
  | succ k =>
   rw [List.getElem?_append_right (by rw [hx, Nat.add_mul]; omega), hx];have e : (k + 1) * s + j - s = k * s + j := by rw [Nat.add_mul]; omega
   rw [e, ih (fun y hy => hf y (List.mem_cons_of_mem _ hy)) k bw];simp
open Go.WideElems
theorem Qx : (Tryz.prog.info? 4).map (fun i => (i.zero, i.size, i.bytes)) = some (some (.bool false), 1, 1) := by kernel_rfl
theorem Zh7 : (Tryz.prog.info? 3).map (fun i => (i.zero, i.size, i.bytes)) = some (some (.int .i64 0), 1, 8) := by kernel_rfl
theorem Zh5 : (Tryz.prog.info? 212).map (fun i => (i.zero, i.size, i.bytes)) = some (some (.int .u64 0), 1, 8) := by kernel_rfl
theorem Kb : (Tryz.prog.info? 251).map (fun i => (i.zero, i.size, i.bytes)) = some (some (.agg #[.bool false, .int .u64 0, .int .u64 0, .int .u64 0, .int .u64 0]), 5, 40) := by kernel_rfl
theorem Zgb : Tryz.prog.cellsOf 212 = 1 := by kernel_rfl
theorem Zrq (x y : BitVec 64) : ((x.toNat : Int) == (y.toNat : Int)) = decide (x = y) := by
 by_cases h : x = y
 ·subst h; simp
 ·have : x.toNat ≠ y.toNat := fun e => h (BitVec.eq_of_toNat_eq e)
  simp [h]; omega
theorem Zl0 (x y : Zp) (W : World) : (Op.equalIn 10000 249 (.agg #[w64 x.w0, w64 x.w1, w64 x.w2, w64 x.w3]) (.agg #[w64 y.w0, w64 y.w1, w64 y.w2, w64 y.w3])).run Tryz.prog W = .ok (x == y) W := by
 obtain ⟨i0, hi, hz0, hz1, hz2⟩ := info_parts Zh5;obtain ⟨x0, x1, x2, x3⟩ := x;obtain ⟨y0, y1, y2, y3⟩ := y
 have hp : ∀ (cs : Array Value) (k : Nat) (v : Value), cs[k]? = some v → (part 212 cs k).run Tryz.prog W = .ok v W := by
  intro cs k v h;simp [part, h]
 have he : ∀ a b : BitVec 64, (Op.equalIn 9999 212 (w64 a) (w64 b)).run Tryz.prog W = .ok (decide (a = b)) W := by
  intro a b;rw [← Zrq];exact run_equalIn_int W 9998 212 .u64 .u64 _ _ Tryz.underlying212
 rw [run_equalIn_array W 9999 _ _ Tryz.underlying249 hi];have a0 := hp #[w64 x0, w64 x1, w64 x2, w64 x3] (0 * 1) (w64 x0) rfl;have a1 := hp #[w64 x0, w64 x1, w64 x2, w64 x3] (1 * 1) (w64 x1) rfl;have a2 := hp #[w64 x0, w64 x1, w64 x2, w64 x3] (2 * 1) (w64 x2) rfl;have a3 := hp #[w64 x0, w64 x1, w64 x2, w64 x3] (3 * 1) (w64 x3) rfl;have b0 := hp #[w64 y0, w64 y1, w64 y2, w64 y3] (0 * 1) (w64 y0) rfl;have b1 := hp #[w64 y0, w64 y1, w64 y2, w64 y3] (1 * 1) (w64 y1) rfl;have b2 := hp #[w64 y0, w64 y1, w64 y2, w64 y3] (2 * 1) (w64 y2) rfl;have b3 := hp #[w64 y0, w64 y1, w64 y2, w64 y3] (3 * 1) (w64 y3) rfl
 have hd : ((⟨x0, x1, x2, x3⟩ : Zp) == ⟨y0, y1, y2, y3⟩) = (decide (x0 = y0) && (decide (x1 = y1) && (decide (x2 = y2) && decide (x3 = y3)))) := by
  rw [Bool.eq_iff_iff]; simp
 rw [hd];have e0 := he x0 y0;have e1 := he x1 y1;have e2 := he x2 y2;have e3 := he x3 y3;clear hp he hd;generalize decide (x0 = y0) = p0 at *;generalize decide (x1 = y1) = p1 at *;generalize decide (x2 = y2) = p2 at *;generalize decide (x3 = y3) = p3 at *;simp only [show List.range 4 = [0, 1, 2, 3] from rfl, Op.eqItems, Sem.run_bind, Zgb, a0, b0, e0, Result.andThen_ok];cases p0
 ·rfl
 simp only [Bool.not_true, Bool.false_eq_true, if_false, Bool.true_and, Sem.run_bind, a1, b1, e1, Result.andThen_ok];cases p1
 ·rfl
 simp only [Bool.not_true, Bool.false_eq_true, if_false, Bool.true_and, Sem.run_bind, a2, b2, e2, Result.andThen_ok];cases p2
 ·rfl
 simp only [Bool.not_true, Bool.false_eq_true, if_false, Bool.true_and, Sem.run_bind, a3, b3, e3, Result.andThen_ok];cases p3 <;> rfl
def Zp.word (s : Zp) (i : Nat) : BitVec 64 := match i with | 0 => s.w0 | 1 => s.w1 | 2 => s.w2 | _ => s.w3
def Zp.has (s : Zp) (b : Nat) : Bool := (s.word (b / 64)).getLsbD (b % 64)
def Qi : Bool → List Bool → List Bool
 | _, [] => []
 | p, a :: r => (a || p) :: Qi (a || p) r
def Zg5 (x : Zp) (s : List UInt8) (at_ : List Bool) : List Bool := false :: List.zipWith (fun a c => a && x.has c.toNat) at_ s
def Uc (x : Zm) (s : List UInt8) (at_ : List Bool) : List Bool := if x.run then Qi false at_ else Zg5 x.set s at_
def Kh (l : List Zm) (s : List UInt8) (at_ : List Bool) : List Bool := l.foldl (fun a x => Uc x s a) at_
theorem Zfq (p : Bool) (l : List Bool) : (Qi p l).length = l.length := by
 induction l generalizing p with
 | nil => rfl
 | cons a r ih => simp [Qi, ih]
theorem Md (x : Zm) (s : List UInt8) (l : List Bool) (h : l.length = s.length + 1) : (Uc x s l).length = s.length + 1 := by
 unfold Uc; split
 ·rw [Zfq, h]
 ·simp [Zg5, h]
theorem Zct (l : List Zm) (s : List UInt8) (a : List Bool) (h : a.length = s.length + 1) : (Kh l s a).length = s.length + 1 := by
 induction l generalizing a with
 | nil => exact h
 | cons x l ih => exact ih _ (Md x s a h)
theorem Zi5 (p : Bool) (l : List Bool) (i : Nat) (h : i < l.length) : (Qi p l)[i]? = some (l[i] || (if i = 0 then p else (Qi p l).getD (i - 1) false)) := by
 induction l generalizing p i with
 | nil => simp at h
 | cons a r ih =>
  cases i with
  | zero => simp [Qi]
  | succ i =>
   have := ih (a || p) i bw;simp only [Qi, List.getElem?_cons_succ, this];cases i <;> simp [List.getD]
theorem Zmr (x : Zm) (s : List UInt8) (l : List Bool) (hx : x.run = true) (i : Nat) (h : i < l.length) :
  (Uc x s l)[i]? = some (l[i] || (decide (0 < i) && (Uc x s l).getD (i - 1) false)) := by
 unfold Uc; rw [if_pos hx, Zi5 false l i h];cases i <;> simp
theorem Zbx (x : Zm) (s : List UInt8) (l : List Bool) (hx : x.run = false) : (Uc x s l)[0]? = some false := by
 unfold Uc; rw [if_neg (by simp [hx])]; rfl
theorem Za3 (x : Zm) (s : List UInt8) (l : List Bool) (hx : x.run = false) (i : Nat) (h : i < s.length) (hl : l.length = s.length + 1) :
  (Uc x s l)[i + 1]? = some (l[i] && x.set.has (s[i]).toNat) := by
 unfold Uc; rw [if_neg (by simp [hx])];simp [Zg5, List.getElem?_zipWith, List.getElem?_eq_getElem h, List.getElem?_eq_getElem (show i < l.length by omega)]
theorem Zfk (l : List Zm) (s : List UInt8) (a : List Bool) (k : Nat) (h : k < l.length) : Kh (l.take (k + 1)) s a = Uc l[k] s (Kh (l.take k) s a) := by
 unfold Kh;rw [List.take_succ_eq_append_getElem h, List.foldl_append]; rfl
def Wq (n : Nat) (one : Int) (all : Bool) : List Bool := (List.range n).map fun (i : Nat) => all || ((i : Int) == one)
def Zs (l : List Bool) : List Value := l.map Value.bool
def Vn (l : List Int) : List Value := l.map (Value.int .i64)
theorem Ue (l : List Bool) : (Zs l).length = l.length := by simp [Zs]
theorem Nf (l : List Bool) (k : Nat) (h : k < l.length) : (Zs l)[k]? = some (.bool l[k]) := by simp [Zs, h]
theorem Zhr (l : List Int) (k : Nat) (h : k < l.length) : (Vn l)[k]? = some (.int .i64 l[k]) := by simp [Vn, h]
theorem Zeg (l : List Int) : (Vn l).length = l.length := by simp [Vn]
def Kp (l : List Zm) : Bool := l.all (fun x => !(x.run && x.set != Zp.zero)) && decide (l.length < 61)
/-! ### Bytes of sets -/
def Zo (l : List UInt8) : List Value := l.map fun b => .int .u8 (b.toNat : Int)
theorem Ql (l : List UInt8) : (Zo l).length = l.length := by simp [Zo]
def Gd (l : List Zm) : Nat := (l.filter fun x => !x.run).length
/-! ### Sets out of flags, as the reference makes them -/
def b2n (b : Bool) : Nat := if b then 1 else 0
def Kf (fl : List Bool) (i : Nat) : Nat → Nat
 | 0 => 0
 | m + 1 => 2 * Kf fl i m + b2n (fl.getD (64 * i + (63 - m)) false)
theorem Zay (fl : List Bool) (i m : Nat) : Kf fl i m < 2 ^ m := by
 induction m with
 | zero => simp [Kf]
 | succ m ih =>
  have : b2n (fl.getD (64 * i + (63 - m)) false) ≤ 1 := by unfold b2n; split <;> omega
  simp only [Kf, Nat.pow_succ]; omega
theorem Zi2 (fl : List Bool) (i m k : Nat) (hk : k < m) (hm : m ≤ 64) : (Kf fl i m).testBit k = fl.getD (64 * i + (64 - m) + k) false := by
 induction m generalizing k with
 | zero => omega
 | succ m ih =>
  have hb : (b2n (fl.getD (64 * i + (63 - m)) false)) < 2 := by unfold b2n; split <;> omega
  cases k with
  | zero =>
   simp only [Kf, Nat.testBit_zero, Nat.add_zero];rw [show 64 * i + (64 - (m + 1)) = 64 * i + (63 - m) from aa];unfold b2n;cases fl.getD (64 * i + (63 - m)) false <;> simp <;> omega
  | succ k =>
   rw [Nat.testBit_succ, show Kf fl i (m + 1) / 2 = Kf fl i m from by simp only [Kf]; omega, ih k aa aa]
   congr 1; omega
def Zdk (fl : List Bool) : Zp := ⟨BitVec.ofNat 64 (Kf fl 0 64), BitVec.ofNat 64 (Kf fl 1 64), BitVec.ofNat 64 (Kf fl 2 64), BitVec.ofNat 64 (Kf fl 3 64)⟩
theorem Up (n : Nat) (h : n < 2 ^ 64) : (BitVec.ofNat 64 n).toNat = n := by rw [BitVec.toNat_ofNat]; exact Nat.mod_eq_of_lt h
theorem Gl (fl : List Bool) (i : Nat) (h : i < 4) : ((Zdk fl).word i).toNat = Kf fl i 64 := by
 match i, h with
 | 0, _ => exact Up _ (Zay fl 0 64)
 | 1, _ => exact Up _ (Zay fl 1 64)
 | 2, _ => exact Up _ (Zay fl 2 64)
 | 3, _ => exact Up _ (Zay fl 3 64)
theorem Zdd (fl : List Bool) (b : Nat) (h : b < 256) : (Zdk fl).has b = fl.getD b false := by
 unfold Zp.has;rw [BitVec.getLsbD, Gl fl _ aa, Zi2 fl _ _ _ (Nat.mod_lt _ aa) (Nat.le_refl _), show 64 * (b / 64) + (64 - 64) + b % 64 = b from aa]
def Xm (x : Zp) : List Bool := (List.range 256).map x.has
theorem Xz (x : Zp) : (Xm x).length = 256 := by simp [Xm]
theorem Zlj (x : Zp) (b : Nat) (h : b < 256) : (Xm x).getD b false = x.has b := by simp [Xm, List.getD, h]
theorem Zp.ext_has {x y : Zp} (h : ∀ b, b < 256 → x.has b = y.has b) : x = y := by
 have hw : ∀ i, i < 4 → x.word i = y.word i := by
  intro i hi;refine BitVec.eq_of_getLsbD_eq fun k hk => ?_;have := h (64 * i + k) aa;unfold Zp.has at this;rwa [show (64 * i + k) / 64 = i from aa, show (64 * i + k) % 64 = k from aa] at this
 obtain ⟨x0, x1, x2, x3⟩ := x;obtain ⟨y0, y1, y2, y3⟩ := y;have h0 := hw 0 aa; have h1 := hw 1 aa; have h2 := hw 2 aa; have h3 := hw 3 aa;simp only [Zp.word] at h0 h1 h2 h3;rw [h0, h1, h2, h3]
theorem Zan : Xm Zp.zero = List.replicate 256 false := by
 refine List.ext_getElem (by rw [Xz, List.length_replicate]) fun i h1 h2 => ?_;simp only [Xm, List.getElem_map, List.getElem_range, List.getElem_replicate];unfold Zp.has Zp.zero Zp.word;split <;> simp
theorem Jj {P : Program} {id : Nat} {Q : Exit → Act → World → Prop} {a : Act} {w : World} {l : List Oper} (n : Nat) (hm : P.follows .mixedOrders = true) (hB : Region.lexTailB .any l.toArray n = true)
  (h : wpStill P l.toArray (w.drewN 1) (fun a' => wpList P l.toArray Q (l.drop n) a' (w.drewN 1)) (l.take n) a) : (Code.region id l.toArray true).wp P Q a w :=
 wp_region_still_tail n hm hB h
theorem Zq (w : World) (n : Nat) : Below w.heap.size w (w.drewN n) := ⟨rfl, rfl, rfl, Nat.le_refl _, fun _ _ => rfl⟩
theorem Zd6 {w w' : World} {n : Nat} (h : Below (w.drewN n).heap.size (w.drewN n) w') : Below w.heap.size w w' := (Zq w n).trans h
structure Za (F : Nat → Prop) (w w' : World) : Prop where
 os : w'.os = w.os
 tape : w'.tape = w.tape
 output : w'.output = w.output
 size : w.heap.size ≤ w'.heap.size
 block : ∀ k, k < w.heap.size → ¬ F k → w'.heap[k]? = w.heap[k]?
theorem Za.refl (F : Nat → Prop) (w : World) : Za F w w := ⟨rfl, rfl, rfl, Nat.le_refl _, fun _ _ _ => rfl⟩
theorem Za.mono {F G : Nat → Prop} {w w' : World} (h : Za F w w') (hfg : ∀ k, k < w.heap.size → F k → G k) : Za G w w' :=
 ⟨h.os, h.tape, h.output, h.size, fun k hk hg => h.block k hk (fun hf => hg (hfg k hk hf))⟩
theorem Za.trans {F G : Nat → Prop} {w w1 w2 : World} (h : Za F w w1) (h2 : Za G w1 w2) (hg : ∀ k, G k → F k ∨ w.heap.size ≤ k) : Za F w w2 :=
 ⟨h2.os.trans h.os, h2.tape.trans h.tape, h2.output.trans h.output, Nat.le_trans h.size h2.size, fun k hk hf =>
  (h2.block k (Nat.lt_of_lt_of_le hk h.size) (fun hgk => (hg k hgk).elim hf (fun hle => aa))).trans (h.block k hk hf)⟩
theorem Za.of_below {F : Nat → Prop} {w w' : World} (h : Below w.heap.size w w') : Za F w w' := ⟨h.os, h.tape, h.output, h.size, fun k hk _ => h.block k hk⟩
theorem Za.below {F : Nat → Prop} {w w' : World} {B : Nat} (h : Za F w w') (hB : B ≤ w.heap.size) (hf : ∀ k, F k → B ≤ k) : Below B w w' :=
 ⟨h.os, h.tape, h.output, h.size, fun k hk => h.block k aa (fun hfk => by have := hf k hfk; omega)⟩
theorem Za.setCell (F : Nat → Prop) (w : World) (a : Addr) (u : Value) (h : F a.block) : Za F w (w.setCell a u) :=
 ⟨rfl, rfl, rfl, ah, fun k _ hf => Below.heap_setCell w a u k (fun e => hf (by rw [e]; exact h))⟩
theorem Za.alloc (F : Nat → Prop) (w : World) (o : Obj) : Za F w (w.alloc o) := ⟨rfl, rfl, rfl, ah, fun k hk _ => Below.heap_alloc w o k hk⟩
theorem Za.drewN (F : Nat → Prop) (w : World) (n : Nat) : Za F w (w.drewN n) := ⟨rfl, rfl, rfl, Nat.le_refl _, fun _ _ _ => rfl⟩
theorem Za.grown {F : Nat → Prop} {w w' : World} {row : Option Nat} (h : w.grownBy w' row) (hr : ∀ k, row = some k → F k) : Za F w w' :=
 ⟨h.os, h.tape, h.output, h.size, fun k hk hf => h.block k hk (fun e => hf (hr k e.symm))⟩
theorem Za.cell {F : Nat → Prop} {w w' : World} (h : Za F w w') {b o : Nat} (hb : b < w.heap.size) (hf : ¬ F b) : w'.cell? ⟨b, o, none⟩ = w.cell? ⟨b, o, none⟩ := World.cell?_of_block (h.block b hb hf)
theorem Za.blk {F : Nat → Prop} {w w' : World} {g : Nat} {t : TypeId} {cs : Array Value} (h : Za F w w') (hb : Blk w g t cs) (hf : ¬ F g) : Blk w' g t cs := (h.block g hb.lt hf).trans hb
theorem Za.own {F : Nat → Prop} {w w' : World} {base : Nat} {e : TypeId} {size : Nat} {v : Value} {n : Nat} {xs : List Value} (h : Za F w w') (ho : w.ownsRow base e size v n xs) (hf : ∀ k, v.ownBlock = some k → ¬ F k) : w'.ownsRow base e size v n xs := by
 have hl := ho.lt;refine ⟨ho.1, ?_⟩;rcases ho.2 with hn | ⟨g, cap, cur, rfl, hb, hgg, rest⟩
 ·exact .inl hn
 ·exact .inr ⟨g, cap, cur, rfl, hb, (h.block g (hl g rfl).2 (hf g rfl)).trans hgg, rest⟩
theorem Vl {w : World} {base g : Nat} {t e : TypeId} {cs : Array Value} {size : Nat} {v : Value} {n : Nat} {xs : List Value} (hb : Blk w g t cs) (h : w.ownsRow base e size v n xs) (hne : e ≠ t) : v.ownBlock ≠ some g := by
 intro hv;rcases h.2 with ⟨rfl, _⟩ | ⟨g', cap, cur, rfl, _, hg, _⟩
 ·simp [Value.ownBlock] at hv
 ·simp only [Value.ownBlock, Option.some.injEq] at hv
  subst hv;unfold Blk at hb;rw [hb] at hg;injection hg with hg
  injection hg with _ ht
  exact hne ht.symm
theorem Yo {w : World} {base : Nat} {e : TypeId} {size : Nat} {v : Value} {n : Nat} {xs : List Value} (h : w.ownsRow base e size v n xs) (a : Addr) (u : Value) (hne : v.ownBlock ≠ some a.block) : (w.setCell a u).ownsRow base e size v n xs :=
 h.kept (row := some a.block) ⟨rfl, rfl, rfl, ah, fun q _ hq => Below.heap_setCell w a u q (fun e => hq (by rw [e]))⟩ (.inr hne)
theorem N109{P:Prop}(h:P:=by
 rw [hr] at hrun;injection hrun with e1 e2
 subst e1;intro k hk; simp [Value.ownBlock] at hk; right; omega):P:=h
theorem Jw {P : Program} (w : World) (base : Nat) (t ty e : TypeId) (i : TypeInfo) (z : Value) (size bytes : Nat) (ht : P.underlying t = some (.slice e)) (hi : P.info? e = some i) (hz : i.zero = some z)
  (hsize : i.size = size) (hby : i.bytes = bytes) (hzs : z.cells.size = size) (hsz : 0 < size)
  (v : Value) (n : Nat) (xs : List Value) (hown : w.ownsRow base e size v n xs)
  (a : Addr) (m c : Nat) (news : List Value) (hl : news.length = m * size) (hnews : ∀ j u, news[j]? = some u → w.cell? (a.add j) = some u) (h1 : ∀ u ∈ news, u.oneCell' = true)
  (h63 : n + m ≤ maxLen) (hbytes : (n + m) * bytes ≤ 140737488355328) {v' : Value} {w' : World} (hrun : (Builtin.append_ #[t, t] ty #[v, .slice (some a) m c]).run P w = .ok v' w') :
  ∀ k, v'.ownBlock = some k → v.ownBlock = some k ∨ w.heap.size ≤ k := by
 subst hsize;subst hby;have hsmall : n + m ≤ 9223372036854775807 := by simp only [maxLen] at h63; omega
 rcases hown.2 with ⟨rfl, rfl⟩ | ⟨g, cap, cur, rfl, hbg, hg, hnc, hcm, hcs, htake⟩
 ·by_cases hm : m = 0
  ·subst hm
   have hn : news = [] := List.eq_nil_of_length_eq_zero fg;subst hn
   have : (Builtin.append_ #[t, t] ty #[.slice none 0 0, .slice (some a) 0 c]).run P w = .ok (.slice none 0 0) w := by
    simp [Builtin.append_, run_underlying ht, sizeOf, typeInfo, hi, Builtin.lenOf, Builtin.firstCells, loadCells, loadCellsFrom]
   rw [this] at hrun;injection hrun with e1 e2
   subst e1;intro k hk; simp [Value.ownBlock] at hk
  ·have hr := run_append_nil (P := P) w t ty e i z ht hi hz a m c news hl hnews aa aa (by have hb := hbytes; simp only [Nat.zero_add] at hb; omega)
   exact N109
 ·by_cases hroom : n + m ≤ cap
  ·have hfit : n * i.size + news.length ≤ cur.size := by rw [hl, hcs, ← Nat.add_mul]; exact Nat.mul_le_mul_right _ hroom
   have hr := run_append_room (P := P) w t ty e i ht hi g n cap cur hg a m c news hl hnews h1 hroom hfit;rw [hr] at hrun;injection hrun with e1 e2
   subst e1;intro k hk; left; simpa [Value.ownBlock] using hk
  ·have holds : ∀ j u, xs[j]? = some u → w.cell? ((⟨g, 0, none⟩ : Addr).add j) = some u := hown.cells (g := g) rfl
   have hr := run_append_grow (P := P) w t ty e i z ht hi hz ⟨g, 0, none⟩ n cap xs hown.1 holds a m c news hl hnews aa aa (growslice_fits aa hbytes);exact N109
theorem Zaq {P : Program} (w : World) {ops : Array Oper} {rest : List Oper} {o : Oper} {a : Act} {Q : Exit → Act → World → Prop} (hgd : o.guard = none) (s x : Operand) (t : TypeId)
  (ho : o.op = .call { callee := .builtin .append, args := #[s, x], argTypes := #[t, t] })
  (base : Nat) (e : TypeId) (z : Value) (size bytes : Nat) (ht : P.underlying t = some (.slice e)) (hi : (P.info? e).map (fun i => (i.zero, i.size, i.bytes)) = some (some z, size, bytes))
  (hzs : z.cells.size = size) (hsz : 0 < size)
  (v : Value) (n : Nat) (xs : List Value) (hs : a.eval s = v) (hown : w.ownsRow base e size v n xs)
  (ad : Addr) (m c : Nat) (news : List Value) (hx : a.eval x = .slice (some ad) m c) (hl : news.length = m * size) (hnews : ∀ j u, news[j]? = some u → w.cell? (ad.add j) = some u) (h1 : ∀ u ∈ news, u.oneCell' = true)
  (hbytes : (n + m) * bytes ≤ 140737488355328) (hby : 1 ≤ bytes) (hbase : base ≤ w.heap.size)
  (h : ∀ A c' w', w'.ownsRow base e size (.slice A (n + m) c') (n + m) (xs ++ news) → Za (fun k => v.ownBlock = some k) w w' → (∀ k, (Value.slice A (n + m) c').ownBlock = some k → v.ownBlock = some k ∨ w.heap.size ≤ k) → wpList P ops Q rest (a.put o.dst (.slice A (n + m) c')) w') :
  wpList P ops Q (o :: rest) a w := by
 obtain ⟨i, hi, hz, hz1, hz2⟩ := info_parts hi;have hn : n + m ≤ 140737488355328 := Nat.le_trans (Nat.le_mul_of_pos_right _ hby) hbytes;have h63 : n + m ≤ maxLen := dh
 obtain ⟨v', w', hr, h2, h3, h4⟩ := run_append_own (P := P) w base t o.type e i z size bytes ht hi hz hz1 hz2 hzs hsz v n xs hown ad m c news hl hnews h1 h63 hbytes hbase;have hfr := Jw w base t o.type e i z size bytes ht hi hz hz1 hz2 hzs hsz v n xs hown ad m c news hl hnews h1 h63 hbytes hr;refine wpList_plain hgd fun _ hK => ?_;unfold Oper.wp execOp;simp only [ho, resolve, invoke, builtin, Sem.run_bind, Sem.run_pure, Result.andThen_ok, List.map_toArray, List.map_cons, List.map_nil, hs, hx, hr];obtain ⟨A, c', rfl, _⟩ := Za5 h2;exact hK _ _ (h A c' w' h2 (Za.grown h3 (fun k hk => hk)) hfr)
theorem Wb {P : Program} (w : World) {ops : Array Oper} {rest : List Oper} {o : Oper} {a : Act} {Q : Exit → Act → World → Prop} (hgd : o.guard = none) (s x : Operand) (t : TypeId)
  (ho : o.op = .call { callee := .builtin .append, args := #[s, x], argTypes := #[t, t] })
  (base : Nat) (e : TypeId) (z : Value) (size bytes : Nat) (ht : P.underlying t = some (.slice e)) (hi : (P.info? e).map (fun i => (i.zero, i.size, i.bytes)) = some (some z, size, bytes))
  (hzs : z.cells.size = size) (hsz : 0 < size)
  (v : Value) (n : Nat) (xs : List Value) (hs : a.eval s = v) (hown : w.ownsRow base e size v n xs)
  (c : Nat) (cs : List Value) (hx : a.eval x = .slice (some ⟨w.heap.size, 0, none⟩) 1 c) (hl : cs.length = size) (h1 : cs.all Value.oneCell' = true)
  (hbytes : (n + 1) * bytes ≤ 140737488355328) (hby : 1 ≤ bytes) (hbase : base ≤ w.heap.size)
  (h : ∀ g c' w', w'.ownsRow base e size (.slice (some ⟨g, 0, none⟩) (n + 1) c') (n + 1) (xs ++ cs) → Za (fun k => v.ownBlock = some k) w w' → (v.ownBlock = some g ∨ w.heap.size ≤ g) → wpList P ops Q rest (a.put o.dst (.slice (some ⟨g, 0, none⟩) (n + 1) c')) w') :
  wpList P ops Q (o :: rest) a (w.alloc (.cells cs.toArray e)) := by
 refine Zaq _ hgd s x t ho base e z size bytes ht hi hzs hsz v n xs hs (hown.alloc _) ⟨w.heap.size, 0, none⟩ 1 c cs hx fg Zbb
  (fun u hu => List.all_eq_true.1 h1 u hu) hbytes hby af ?_
 intro A c' w' hown' hk hf
 obtain ⟨g, rfl⟩ : ∃ g, A = some ⟨g, 0, none⟩ := by
  rcases hown'.2 with ⟨hv, h0⟩ | ⟨g, cap, cur, hv, _⟩
  ·omega
  ·injection hv with h1 _ _; exact ⟨g, h1⟩
 refine h g c' w' hown' ((Za.alloc (fun k => v.ownBlock = some k) w _).trans hk (fun _ => .inl)) ?_;rcases hf g rfl with h | h
 ·exact .inl h
 ·right; simp at h; omega
def Ja : List Zm → List UInt8 → Bool
 | [], s => s.isEmpty
 | x :: l, s => if x.run then (List.range (s.length + 1)).any (fun i => Ja l (s.drop i)) else
   match s with
   | [] => false
   | c :: r => x.set.has c.toNat && Ja l r
def sub (s : List UInt8) (i j : Nat) : List UInt8 := (s.drop i).take (j - i)
theorem Zcr (p : Bool) (L : List Bool) (i : Nat) : (Qi p L).getD i false = true ↔ i < L.length ∧ (p = true ∨ ∃ k, k ≤ i ∧ L.getD k false = true) := by
 induction L generalizing p i with
 | nil => simp [Qi]
 | cons a r ih =>
  cases i with
  | zero =>
   simp only [Qi, List.getD_cons_zero, Bool.or_eq_true, List.length_cons];constructor
   ·rintro (h | h)
    ·exact ⟨aa, .inr ⟨0, aa, bw⟩⟩
    ·exact ⟨aa, .inl h⟩
   ·rintro ⟨_, h | ⟨k, hk, h⟩⟩
    ·exact .inr h
    ·obtain rfl : k = 0 := by omega
     exact .inl bw
  | succ i =>
   simp only [Qi, List.getD_cons_succ, ih, List.length_cons, Bool.or_eq_true];constructor
   ·rintro ⟨h1, (h | h) | ⟨k, hk, h⟩⟩
    ·exact ⟨aa, .inr ⟨0, aa, bw⟩⟩
    ·exact ⟨aa, .inl h⟩
    ·exact ⟨aa, .inr ⟨k + 1, aa, bw⟩⟩
   ·rintro ⟨h1, h | ⟨k, hk, h⟩⟩
    ·exact ⟨aa, .inl (.inr h)⟩
    ·cases k with
     | zero => exact ⟨aa, .inl (.inl bw)⟩
     | succ k => exact ⟨aa, .inr ⟨k, aa, bw⟩⟩
theorem Zig (s : List UInt8) (j : Nat) : sub s j j = [] := by simp [sub]
theorem Zbw (s : List UInt8) (i j : Nat) (h : j ≤ s.length) : (sub s i j).length = j - i := by simp [sub]; omega
theorem Zih (s : List UInt8) (i j k : Nat) : (sub s i j).drop k = sub s (i + k) j := by
 unfold sub;rw [List.drop_take, List.drop_drop]; congr 1; omega
theorem Zii (s : List UInt8) (i j : Nat) (h : i < j) (hj : j ≤ s.length) : sub s i j = s[i] :: sub s (i + 1) j := by
 unfold sub;rw [List.drop_eq_getElem_cons aa, show j - i = (j - (i + 1)) + 1 from aa, List.take_succ_cons]
theorem Zgv (l : List Zm) (s : List UInt8) (a : List Bool) (ha : a.length = s.length + 1) (j : Nat) (hj : j ≤ s.length) :
  (Kh l s a).getD j false = true ↔ ∃ i, i ≤ j ∧ a.getD i false = true ∧ Ja l (sub s i j) = true := by
 induction l generalizing a with
 | nil =>
  simp only [Kh, List.foldl_nil, Ja, List.isEmpty_iff];constructor
  ·intro h; exact ⟨j, Nat.le_refl _, h, Zig s j⟩
  ·rintro ⟨i, hi, h, e⟩
   have := Zbw s i j hj;rw [e] at this; simp at this;obtain rfl : i = j := aa
   exact h
 | cons x l ih =>
  have hl := Md x s a ha;rw [show Kh (x :: l) s a = Kh l s (Uc x s a) from rfl, ih _ hl];cases hr : x.run
  ·constructor
   ·rintro ⟨i, hi, h, hm⟩
    cases i with
    | zero => rw [List.getD, Zbx x s a hr] at h; simp at h
    | succ i =>
     rw [List.getD, Za3 x s a hr i aa ha] at h;simp only [Option.getD_some, Bool.and_eq_true] at h;refine ⟨i, aa, ?_, ?_⟩
     ·rw [List.getD, List.getElem?_eq_getElem aa]; exact h.1
     ·rw [Zii s i j aa hj]
      simp [Ja, hr, h.2, hm]
   ·rintro ⟨i, hi, h, hm⟩
    by_cases hij : i < j
    ·rw [Zii s i j hij hj] at hm
     simp only [Ja, hr, Bool.false_eq_true, if_false, Bool.and_eq_true] at hm;refine ⟨i + 1, aa, ?_, hm.2⟩;rw [List.getD, Za3 x s a hr i aa ha];rw [List.getD, List.getElem?_eq_getElem aa] at h;simp only [Option.getD_some] at h ⊢;rw [h, hm.1]; rfl
    ·obtain rfl : i = j := by omega
     rw [Zig] at hm;simp [Ja, hr] at hm
  ·have hst : ∀ i, (Uc x s a).getD i false = true ↔ i < a.length ∧ ∃ k, k ≤ i ∧ a.getD k false = true := by
    intro i;rw [Uc, if_pos hr, Zcr]; simp
   constructor
   ·rintro ⟨i, hi, h, hm⟩
    obtain ⟨_, k, hk, hak⟩ := (hst i).1 h;refine ⟨k, aa, hak, ?_⟩;simp only [Ja, hr, if_true, List.any_eq_true, List.mem_range];exact ⟨i - k, by rw [Zbw s k j hj]; omega, by rw [Zih, show k + (i - k) = i from aa]; exact hm⟩
   ·rintro ⟨k, hk, hak, hm⟩
    simp only [Ja, hr, if_true, List.any_eq_true, List.mem_range] at hm;obtain ⟨d, hd, hm⟩ := hm;rw [Zbw s k j hj] at hd;rw [Zih] at hm;exact ⟨k + d, aa, (hst _).2 ⟨aa, k, aa, hak⟩, hm⟩
theorem Gt (n : Nat) (one : Int) (all : Bool) (i : Nat) : (Wq n one all).getD i false = true ↔ i < n ∧ (all = true ∨ (i : Int) = one) := by
 unfold Wq;by_cases h : i < n
 ·simp [List.getD, h]
 ·simp [List.getD, h]
def Wz (l : List Zm) (s : List UInt8) : Bool := (Kh l s (Wq (s.length + 1) 0 false)).getD s.length false
theorem Zda (l : List Zm) (s : List UInt8) : Wz l s = Ja l s := by
 rw [Bool.eq_iff_iff];unfold Wz;rw [Zgv l s _ (by simp [Wq]) s.length (Nat.le_refl _)];constructor
 ·rintro ⟨i, _, h, hm⟩
  rw [Gt] at h;obtain ⟨_, h | h⟩ := h
  ·cases h
  ·obtain rfl : i = 0 := by omega
   simpa [sub] using hm
 ·intro h
  exact ⟨0, aa, (Gt _ _ _ _).2 ⟨aa, .inr rfl⟩, by simpa [sub] using h⟩
def Vw (l : List Zm) (w : List UInt8) (to k : Nat) : List Nat := (List.range k).filter fun i => Wz l (sub w i to)
def Qy (l : List Zm) (w : List UInt8) (to : Nat) : List Nat := Vw l w to (to + 1)
theorem Zf1 (l : List Zm) (w : List UInt8) (to k : Nat) : Vw l w to (k + 1) = Vw l w to k ++ if Wz l (sub w k to) then [k] else [] := by
 unfold Vw; rw [List.range_succ, List.filter_append]; simp [List.filter_cons]
theorem Zec (l : List Zm) (w : List UInt8) (to k : Nat) : (Vw l w to k).length ≤ k := Nat.le_trans (List.length_filter_le _ _) ah
def Vq (l : List Zm) (w : List UInt8) : List Bool := Kh l w (Wq (w.length + 1) 0 true)
theorem Zas (l : List Zm) (w : List UInt8) : (Vq l w).length = w.length + 1 := Zct l w _ (by simp [Wq])
theorem Mf (l : List Zm) (w : List UInt8) (j : Nat) (hj : j ≤ w.length) : (Vq l w).getD j false = true ↔ ∃ i, i ≤ j ∧ Ja l (sub w i j) = true := by
 unfold Vq;rw [Zgv l w _ (by simp [Wq]) j hj];constructor
 ·rintro ⟨i, h1, _, h3⟩; exact ⟨i, h1, h3⟩
 ·rintro ⟨i, h1, h3⟩; exact ⟨i, h1, (Gt _ _ _ _).2 ⟨aa, .inl rfl⟩, h3⟩
theorem Zdw (l : List Zm) (w : List UInt8) (to i : Nat) : i ∈ Qy l w to ↔ i ≤ to ∧ Ja l (sub w i to) = true := by
 simp [Qy, Vw, Zda]; omega
/-! ### Where a pattern occurs first does not hang on what comes later -/
theorem Zl8 (w m : List UInt8) (i j : Nat) (h : j ≤ w.length) : sub (w ++ m) i j = sub w i j := by
 unfold sub;by_cases hi : i ≤ j
 ·rw [List.drop_append_of_le_length aa, List.take_append_of_le_length af]
 ·rw [show j - i = 0 from aa]; simp
/-! ### A pattern that may match matches a text as short as it says -/
namespace PopT
def Zsg (c k : Nat) : Nat → Nat
 | 0 => 0
 | n + 1 => c + 2 ^ k * Zsg c k n
def p1 (x : Nat) : Nat := (x / 2 &&& 6148914691236517205) + (x &&& 6148914691236517205)
def p2 (y : Nat) : Nat := (y / 4 &&& 3689348814741910323) + (y &&& 3689348814741910323)
def p3 (z : Nat) : Nat := (z / 16 + z) &&& 1085102592571150095
end PopT
def Nw : Op → Bool
 | .move _ | .assign _ | .pick .. | .build .. | .binOp .. | .unOp .. | .convert .. | .slice .. | .fieldAddr .. | .field .. | .indexAddr .. | .index .. | .extract .. | .makeInterface .. => true
 | .call c => match c.callee with
  | .builtin .len | .builtin .cap | .builtin .min | .builtin .max => true
  | _ => false
 | _ => false
section
variable {P : Program} {w w' : World} {n : Next}
theorem Vo {s : Sem Value} (h : ((do pure (Next.value (← s)) : Sem Next)).run P w = .ok n w') : ∃ u, n = .value u := by
 rw [Sem.run_bind] at h;cases hs : s.run P w with
 | ok a w1 => rw [hs] at h; simp at h; exact ⟨a, h.1.symm⟩
 | halt x w1 => rw [hs] at h; simp [Result.andThen] at h
theorem Zcp {ρ : Operand → Value} {o : Oper} (ho : Nw o.op = true) (h : (execOp ρ o).run P w = .ok n w') : ∃ u, n = .value u := by
 obtain ⟨dst, op, ty, pos, aft, grd⟩ := o;cases op
 case move => exact Vo (s := pure _) h
 case assign => exact Vo (s := pure _) h
 case pick c a b =>
  simp only [execOp] at h;rw [Sem.run_bind] at h;cases hs : (asBool (ρ c)).run P w with
  | ok a w1 => rw [hs] at h; simp at h; exact ⟨_, h.1.symm⟩
  | halt x w1 => rw [hs] at h; simp [Result.andThen] at h
 case build => exact Vo h
 case binOp => exact Vo h
 case unOp => exact Vo h
 case convert => exact Vo h
 case slice => exact Vo h
 case fieldAddr => exact Vo h
 case field => exact Vo h
 case indexAddr => exact Vo h
 case index => exact Vo h
 case extract => exact Vo h
 case makeInterface => exact Vo h
 case call c =>
  obtain ⟨callee, args, ats⟩ := c;cases callee
  case builtin b =>
   cases b <;> simp only [Nw, Bool.false_eq_true] at ho
   all_goals
    rw [BigFrame.execOp_builtin] at h
    first
     | (rw [BigFrame.builtin_len] at h; exact Vo h)
     | (rw [BigFrame.builtin_cap] at h; exact Vo h)
     | (rw [BigFrame.builtin_min] at h; exact Vo h)
     | (rw [BigFrame.builtin_max] at h; exact Vo h)
  all_goals (simp [Nw] at ho)
 all_goals (simp [Nw] at ho)
end
def Zj5 (md : Region.Mode) (ops : Array Oper) : List (Nat × Bool) → Array Bool → Bool
 | [], listed => (Region.ready md ops listed).isEmpty
 | (i, true) :: r, listed => (Region.ready md ops listed).contains i && Region.free md ops listed i && (match ops[i]? with | some o => Nw o.op | none => false) && Zj5 md ops r (listed.setIfInBounds i true)
 | (i, false) :: r, listed => Region.ready md ops listed == [i] && Zj5 md ops r (listed.setIfInBounds i true)
section
variable {P : Program} {ops : Array Oper} {Q : Exit → Act → World → Prop}
def Zbg (P : Program) (ops : Array Oper) (Q : Exit → Act → World → Prop) : List (Nat × Bool) → Act → World → Prop
 | [], a, w => Q .normal a w
 | (i, true) :: r, a, w => ∃ o, ops[i]? = some o ∧ wpQuiet P ops (fun _ => True) (fun a' => Zbg P ops Q r a' w) [o] a
 | (i, false) :: r, a, w => ∃ o, ops[i]? = some o ∧ wpList P ops (Exit.then (Zbg P ops Q r) Q) [o] a w
theorem Zl7 {o : Oper} {a : Act} {w : World} {K next : Act → World → Prop} (h : o.wp P a w K (Exit.then next Q)) : o.wp P a w K Q := by
 unfold Oper.wp at *;generalize (execOp a.eval o).run P w = r at *;cases r with
 | ok n w' => cases n <;> first | exact h | exact Calls.mono h (fun e w'' he => by cases e <;> exact he)
 | halt x w' => cases x <;> exact h
theorem N102{P:Prop}(h:P:=by
 rw [if_neg hw] at h;exact ⟨undef, .inr ⟨by simpa using hw, rfl⟩, h⟩):P:=h
theorem N98{P:Prop}(h:P:=by
 rw [hrun] at h3;simp only [Oper.quietUpon] at h3;rw [h3.1, h3.2]):P:=h
theorem Zag {md : Region.Mode} (hsel : Region.noSelect ops = true) (hQ : ∀ c a w, ¬ Q (.panic c) a w) : ∀ (π : List (Nat × Bool)) (listed : Array Bool) (a : Act) (w : World), Zj5 md ops π listed = true →
  Zbg P ops Q π a w → wpAny P md ops Q π.length listed a w
 | [], listed, a, w, hB, h => ⟨by simpa [Zj5] using hB, h⟩
 | (i, true) :: r, listed, a, w, hB, ⟨o, ho, h⟩ => by
  simp only [Zj5, Bool.and_eq_true, ho] at hB;obtain ⟨⟨⟨hr, hf⟩, hv⟩, hB'⟩ := hB;simp only [wpQuiet] at h
  have key : ∃ v, Yields P ops o v a ∧ Zbg P ops Q r (a.put o.dst v) w := by
   by_cases hw : Region.wanted o (yielded ops a.tmps) = true
   ·rw [if_pos hw] at h
    obtain ⟨v, h1, h2⟩ := h;refine ⟨v, .inl ⟨hw, fun w' => ?_⟩, h2⟩;have h3 := h1 w' trivial;unfold Oper.quietAt at h3;cases hrun : (execOp a.eval o).run P w' with
    | ok n w1 =>
     obtain ⟨u, rfl⟩ := Zcp hv hrun;exact N98
    | halt x w1 => rw [hrun] at h3; simp only [Oper.quietUpon] at h3
   ·exact N102
  obtain ⟨v, hy, hn⟩ := key
  exact wpAny_first ho (fun j o cs b => Region.noSelect_spec hsel j o cs b) (fun c a w hq => absurd hq (hQ c _ _)) r.length listed a w
   (fun j oj hj hne hun hno => Region.free_spec ho hf j oj hj hne hun hno) (by simpa using hr) hy (Zag hsel hQ r _ _ _ hB' hn)
 | (i, false) :: r, listed, a, w, hB, ⟨o, ho, h⟩ => by
  simp only [Zj5, Bool.and_eq_true, beq_iff_eq] at hB;obtain ⟨hr, hB'⟩ := hB;refine ⟨fun h0 => dg, fun j hj => ?_⟩;rw [hr] at hj;obtain rfl : j = i := lk
  have ih := fun a' w' => Zag hsel hQ r (listed.setIfInBounds j true) a' w' hB';unfold wpOp;simp only [ho];simp only [wpList] at h;by_cases hw : Region.wanted o (yielded ops a.tmps) = true
  ·rw [if_pos hw] at h ⊢
   rcases h with h | ⟨h1, a2, w2, h2⟩
   ·refine .inl ?_
    have h3 := Oper.wp_mono (K' := wpAny P md ops Q r.length (listed.setIfInBounds j true)) (fun a' w' hk => ih a' w' hk) h;exact Zl7 h3
   ·exact .inr ⟨h1, a2, w2, h2⟩
  ·rw [if_neg hw] at h ⊢
   exact ih _ _ h
def Qu (Q : Exit → Act → World → Prop) : Exit → Act → World → Prop
 | .panic _, _, _ => False
 | e, a, w => Q e a w
theorem Zfz {id : Nat} {a : Act} {w : World} {l : List Oper} (π : List (Nat × Bool)) (hm : P.follows .mixedOrders = true)
  (hB : (Region.noSelect l.toArray && (π.length == l.length && Zj5 .any l.toArray π (Array.replicate l.length false))) = true)
  (h : Zbg P l.toArray (Qu Q) π a w.drew) : (Code.region id l.toArray true).wp P Q a w := by
 simp only [Bool.and_eq_true, beq_iff_eq] at hB;obtain ⟨h1, h2, h3⟩ := hB;refine Code.wp_mono (Q := Qu Q) (fun e a w q => gw) (wp_region_any hm ?_);have := Zag (md := .any) h1 (fun c a w hq => hq) π (Array.replicate l.length false) a w.drew h3 h;rw [h2] at this;simpa using this
def nth : List Oper → Nat → Option Oper
 | [], _ => none
 | o :: _, 0 => some o
 | _ :: l, i + 1 => nth l i
theorem Us (l : List Oper) (i : Nat) : nth l i = l[i]? := by
 induction l generalizing i with
 | nil => rfl
 | cons o l ih => cases i with
  | zero => rfl
  | succ i => simp only [nth, List.getElem?_cons_succ]; exact ih i
theorem Zml {a : Act} {w : World} (h : Q .normal a w) : Zbg P ops (Qu Q) [] a w := h
theorem Zc3 {l : List Oper} {i : Nat} {r : List (Nat × Bool)} {a : Act} {w : World} {o : Oper} (ho : nth l i = some o)
  (h : wpQuiet P l.toArray (fun _ => True) (fun a' => Zbg P l.toArray Q r a' w) [o] a) : Zbg P l.toArray Q ((i, true) :: r) a w := ⟨o, bp, h⟩
theorem Zew {l : List Oper} {i : Nat} {r : List (Nat × Bool)} {a : Act} {w : World} {o : Oper} (ho : nth l i = some o)
  (h : wpList P l.toArray (Exit.then (Zbg P l.toArray Q r) Q) [o] a w) : Zbg P l.toArray Q ((i, false) :: r) a w := ⟨o, bp, h⟩
end
inductive Ord where
 | nil : Ord
 | val : Nat → Ord → Ord
 | op : Nat → Ord → Ord
 | two : Nat → Ord → Nat → Ord → Ord
 | three : Nat → Ord → Nat → Ord → Nat → Ord → Ord
def Qs : Op → Bool
 | .nilCheck _ => true
 | o => Nw o
section
variable {P : Program} {w w' : World} {n : Next}
theorem Zah {α : Type} {s : Sem α} {f : α → Sem Next} (hf : ∀ a w1 w2 n, (f a).run P w1 = .ok n w2 → ∃ u, n = .value u) (h : (s >>= f).run P w = .ok n w') : ∃ u, n = .value u := by
 rw [Sem.run_bind] at h;cases hs : s.run P w with
 | ok a w1 => rw [hs] at h; exact hf a w1 _ _ h
 | halt x w1 => rw [hs] at h; simp [Result.andThen] at h
theorem Gr {u : Value} (h : (pure (Next.value u) : Sem Next).run P w = .ok n w') : ∃ u, n = .value u := by
 rw [Sem.run_pure] at h; injection h with h1 _; exact ⟨u, h1.symm⟩
theorem Zbk {ρ : Operand → Value} {o : Oper} (ho : Qs o.op = true) (h : (execOp ρ o).run P w = .ok n w') : ∃ u, n = .value u := by
 obtain ⟨dst, op, ty, pos, aft, grd⟩ := o;cases op
 case nilCheck =>
  simp only [execOp] at h;split at h
  ·simp [runtimePanic] at h
  ·simp [runtimePanic] at h
  ·simp [runtimePanic] at h
  ·split at h
   ·simp [runtimePanic] at h
   ·refine Zah ?_ h
    intro a w1 w2 n h;refine Zah ?_ h;intro a w1 w2 n h;split at h
    ·refine Zah ?_ h
     intro a w1 w2 n h;exact Gr h
    ·exact Gr h
   ·exact Gr h
  ·exact Gr h
 all_goals first | exact Zcp (o := ⟨dst, _, ty, pos, aft, grd⟩) (by simpa only [Qs] using ho) h | (simp [Qs, Nw] at ho)
end
def Zb5 (md : Region.Mode) (ops : Array Oper) : Ord → Array Bool → Bool
 | .nil, listed => (Region.ready md ops listed).isEmpty
 | .val i r, listed => (Region.ready md ops listed).contains i && Region.free md ops listed i && (match ops[i]? with | some o => Qs o.op | none => false) && Zb5 md ops r (listed.setIfInBounds i true)
 | .op i r, listed => Region.ready md ops listed == [i] && Zb5 md ops r (listed.setIfInBounds i true)
 | .two i r j s, listed => Region.ready md ops listed == [i, j] && Zb5 md ops r (listed.setIfInBounds i true) && Zb5 md ops s (listed.setIfInBounds j true)
 | .three i r j s k t, listed => Region.ready md ops listed == [i, j, k] && Zb5 md ops r (listed.setIfInBounds i true) && Zb5 md ops s (listed.setIfInBounds j true) && Zb5 md ops t (listed.setIfInBounds k true)
section
variable {P : Program} {ops : Array Oper} {Q : Exit → Act → World → Prop}
def Qm (P : Program) (ops : Array Oper) (Q : Exit → Act → World → Prop) : Ord → Act → World → Prop
 | .nil, a, w => Q .normal a w
 | .val i r, a, w => ∃ o, ops[i]? = some o ∧ wpQuiet P ops (fun _ => True) (fun a' => Qm P ops Q r a' w) [o] a
 | .op i r, a, w => ∃ o, ops[i]? = some o ∧ wpList P ops (Exit.then (Qm P ops Q r) Q) [o] a w
 | .two i r j s, a, w => (∃ o, ops[i]? = some o ∧ wpList P ops (Exit.then (Qm P ops Q r) Q) [o] a w) ∧ (∃ o, ops[j]? = some o ∧ wpList P ops (Exit.then (Qm P ops Q s) Q) [o] a w)
 | .three i r j s k t, a, w => (∃ o, ops[i]? = some o ∧ wpList P ops (Exit.then (Qm P ops Q r) Q) [o] a w) ∧ (∃ o, ops[j]? = some o ∧ wpList P ops (Exit.then (Qm P ops Q s) Q) [o] a w) ∧
   (∃ o, ops[k]? = some o ∧ wpList P ops (Exit.then (Qm P ops Q t) Q) [o] a w)
def Ord.depth : Ord → Nat
 | .nil => 0
 | .val _ r => r.depth + 1
 | .op _ r => r.depth + 1
 | .two _ r _ _ => r.depth + 1
 | .three _ r _ _ _ _ => r.depth + 1
def Ord.even : Ord → Bool
 | .nil => true
 | .val _ r => r.even
 | .op _ r => r.even
 | .two _ r _ s => r.even && s.even && r.depth == s.depth
 | .three _ r _ s _ t => r.even && s.even && t.even && r.depth == s.depth && r.depth == t.depth
theorem Ju {i : Nat} {o : Oper} {next : Act → World → Prop} {K : Act → World → Prop} {a : Act} {w : World} (ho : ops[i]? = some o) (h : wpList P ops (Exit.then next Q) [o] a w) (hn : ∀ a w, next a w → K a w) : wpOp P ops Q i K a w := by
 unfold wpOp;simp only [ho];simp only [wpList] at h;by_cases hw : Region.wanted o (yielded ops a.tmps) = true
 ·rw [if_pos hw] at h ⊢
  rcases h with h | ⟨h1, a2, w2, h2⟩
  ·refine .inl ?_
   have h3 := Oper.wp_mono (K' := K) (fun a' w' hk => hn a' w' hk) h;exact Zl7 h3
  ·exact .inr ⟨h1, a2, w2, h2⟩
 ·rw [if_neg hw] at h ⊢
  exact hn _ _ h
theorem N111{P:Prop}(h:P:=by
 exact Ju ho2 h2 (fun a' w' hk => by have := Qf hsel hQ s _ a' w' hB2 hE2 hk; rwa [← hd] at this)):P:=h
theorem Qf {md : Region.Mode} (hsel : Region.noSelect ops = true) (hQ : ∀ c a w, ¬ Q (.panic c) a w) : ∀ (π : Ord) (listed : Array Bool) (a : Act) (w : World), Zb5 md ops π listed = true → π.even = true →
  Qm P ops Q π a w → wpAny P md ops Q π.depth listed a w
 | .nil, listed, a, w, hB, _, h => ⟨by simpa [Zb5] using hB, h⟩
 | .val i r, listed, a, w, hB, hE, ⟨o, ho, h⟩ => by
  simp only [Zb5, Bool.and_eq_true, ho] at hB;obtain ⟨⟨⟨hr, hf⟩, hv⟩, hB'⟩ := hB;simp only [wpQuiet] at h
  have key : ∃ v, Yields P ops o v a ∧ Qm P ops Q r (a.put o.dst v) w := by
   by_cases hw : Region.wanted o (yielded ops a.tmps) = true
   ·rw [if_pos hw] at h
    obtain ⟨v, h1, h2⟩ := h;refine ⟨v, .inl ⟨hw, fun w' => ?_⟩, h2⟩;have h3 := h1 w' trivial;unfold Oper.quietAt at h3;cases hrun : (execOp a.eval o).run P w' with
    | ok n w1 =>
     obtain ⟨u, rfl⟩ := Zbk hv hrun;exact N98
    | halt x w1 => rw [hrun] at h3; simp only [Oper.quietUpon] at h3
   ·exact N102
  obtain ⟨v, hy, hn⟩ := key
  exact wpAny_first ho (fun j o cs b => Region.noSelect_spec hsel j o cs b) (fun c a w hq => absurd hq (hQ c _ _)) r.depth listed a w
   (fun j oj hj hne hun hno => Region.free_spec ho hf j oj hj hne hun hno) (by simpa using hr) hy (Qf hsel hQ r _ _ _ hB' hE hn)
 | .op i r, listed, a, w, hB, hE, ⟨o, ho, h⟩ => by
  simp only [Zb5, Bool.and_eq_true, beq_iff_eq] at hB;obtain ⟨hr, hB'⟩ := hB;refine ⟨fun h0 => dg, fun j hj => ?_⟩;rw [hr] at hj;obtain rfl : j = i := lk
  exact Ju ho h (fun a' w' hk => Qf hsel hQ r _ a' w' hB' hE hk)
 | .two i r k s, listed, a, w, hB, hE, ⟨⟨o, ho, h⟩, ⟨o2, ho2, h2⟩⟩ => by
  simp only [Zb5, Bool.and_eq_true, beq_iff_eq] at hB;simp only [Ord.even, Bool.and_eq_true, beq_iff_eq] at hE;obtain ⟨⟨hr, hB'⟩, hB2⟩ := hB;obtain ⟨⟨hE1, hE2⟩, hd⟩ := hE;refine ⟨fun h0 => dg, fun j hj => ?_⟩;rw [hr] at hj;rcases (by simpa using hj : j = i ∨ j = k) with rfl | rfl
  ·exact Ju ho h (fun a' w' hk => Qf hsel hQ r _ a' w' hB' hE1 hk)
  ·exact N111
 | .three i r k s l t, listed, a, w, hB, hE, ⟨⟨o, ho, h⟩, ⟨o2, ho2, h2⟩, ⟨o3, ho3, h3⟩⟩ => by
  simp only [Zb5, Bool.and_eq_true, beq_iff_eq] at hB;simp only [Ord.even, Bool.and_eq_true, beq_iff_eq] at hE;obtain ⟨⟨⟨hr, hB'⟩, hB2⟩, hB3⟩ := hB;obtain ⟨⟨⟨⟨hE1, hE2⟩, hE3⟩, hd⟩, hd2⟩ := hE;refine ⟨fun h0 => dg, fun j hj => ?_⟩;rw [hr] at hj;rcases (by simpa using hj : j = i ∨ j = k ∨ j = l) with rfl | rfl | rfl
  ·exact Ju ho h (fun a' w' hk => Qf hsel hQ r _ a' w' hB' hE1 hk)
  ·exact N111
  ·exact Ju ho3 h3 (fun a' w' hk => by have := Qf hsel hQ t _ a' w' hB3 hE3 hk; rwa [← hd2] at this)
theorem Zx {id : Nat} {a : Act} {w : World} {l : List Oper} (π : Ord) (hm : P.follows .mixedOrders = true)
  (hB : (Region.noSelect l.toArray && (π.depth == l.length && (π.even && Zb5 .any l.toArray π (Array.replicate l.length false)))) = true)
  (h : Qm P l.toArray (Qu Q) π a (w.drewN 1)) : (Code.region id l.toArray true).wp P Q a w := by
 simp only [Bool.and_eq_true, beq_iff_eq] at hB;obtain ⟨h1, h2, hE, h3⟩ := hB;refine Code.wp_mono (Q := Qu Q) (fun e a w q => gw) (wp_region_any hm ?_);have := Qf (md := .any) h1 (fun c a w hq => hq) π (Array.replicate l.length false) a w.drew h3 hE h;rw [h2] at this;simpa using this
theorem Yi {a : Act} {w : World} (h : Q .normal a w) : Qm P ops (Qu Q) .nil a w := h
theorem Zb {l : List Oper} {i : Nat} {r : Ord} {a : Act} {w : World} {o : Oper} (ho : nth l i = some o)
  (h : wpQuiet P l.toArray (fun _ => True) (fun a' => Qm P l.toArray Q r a' w) [o] a) : Qm P l.toArray Q (.val i r) a w := ⟨o, bp, h⟩
theorem Zc {l : List Oper} {i : Nat} {r : Ord} {a : Act} {w : World} {o : Oper} (ho : nth l i = some o)
  (h : wpList P l.toArray (Exit.then (Qm P l.toArray Q r) Q) [o] a w) : Qm P l.toArray Q (.op i r) a w := ⟨o, bp, h⟩
theorem Zj {l : List Oper} {i j : Nat} {r s : Ord} {a : Act} {w : World} {o o2 : Oper} (ho : nth l i = some o) (ho2 : nth l j = some o2)
  (h : wpList P l.toArray (Exit.then (Qm P l.toArray Q r) Q) [o] a w) (h2 : wpList P l.toArray (Exit.then (Qm P l.toArray Q s) Q) [o2] a w) : Qm P l.toArray Q (.two i r j s) a w :=
 ⟨⟨o, bp, h⟩, ⟨o2, kq, h2⟩⟩
theorem Jd {l : List Oper} {i j k : Nat} {r s t : Ord} {a : Act} {w : World} {o o2 o3 : Oper} (ho : nth l i = some o) (ho2 : nth l j = some o2) (ho3 : nth l k = some o3)
  (h : wpList P l.toArray (Exit.then (Qm P l.toArray Q r) Q) [o] a w) (h2 : wpList P l.toArray (Exit.then (Qm P l.toArray Q s) Q) [o2] a w) (h3 : wpList P l.toArray (Exit.then (Qm P l.toArray Q t) Q) [o3] a w) : Qm P l.toArray Q (.three i r j s k t) a w :=
 ⟨⟨o, bp, h⟩, ⟨o2, kq, h2⟩, ⟨o3, by rw [← ho3, Us]; simp, h3⟩⟩
end
theorem bb {W W' : World} {g : Nat} {t : TypeId} {cs : Array Value} (h : Hid (Blk W g t cs)) (hb : Below W.heap.size W W') : Hid (Blk W' g t cs) := h.out.below hb h.out.lt
theorem bn {w W : World} {t : TypeId} {cs : Array Value} (h : w.alloc (.cells cs t) = W) : Hid (Blk W w.heap.size t cs) := h ▸ Blk.new w _ _
theorem db {w W : World} {n : Nat} (h : w.drewN n = W) : Hid (Below w.heap.size w W) := h ▸ Zq w n
theorem cA {W : World} {g : Nat} {t : TypeId} {cs : Array Value} (h : Blk W g t cs) (i : Nat) (v : Value) (e : cs[i]? = some v) : W.cell? ⟨g, i, none⟩ = some v := (h.cell i).trans e
end Go.Proofs.YtpkkfdmhbbipoaaGreat
