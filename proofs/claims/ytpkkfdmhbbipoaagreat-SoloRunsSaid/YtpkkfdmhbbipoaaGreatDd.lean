/- A dialogue: its plain model, and it in memory. Walks: package dial: runs, op, stop. Walks: package dial: stop. -/
import Derived.Test.YtpkkfdmhbbipoaaGreatDb
import Derived.Test.YtpkkfdmhbbipoaaGreatDc
import Derived.Test.YtpkkfdmhbbipoaaGreatPj
import Derived.Test.YtpkkfdmhbbipoaaGreatPk
namespace Go.Proofs.YtpkkfdmhbbipoaaGreat
set_option maxRecDepth 20000
set_option maxHeartbeats 1600000
open Go.RowKit PopT
def Mx : OpV := ⟨0, ⟨#[]⟩, 0, 0, [], 0, 0⟩
structure Zf where
 s : Uk
 p : Xl
 loc : Nat
 st : Nat
 jumps : Nat
 due : Vs
 R : List UInt8
 S : List UInt8
 seen : Nat
 P : List (List Zm)
 pd : Yy
 eof : Bool
 now : Int
structure Qa where
 tick : Int
 loc : Nat
 what : Nat
 arm : Nat
 n : Nat
 st : Nat
def Qa.val (x : Qa) : Value := .agg #[x.tick, (x.loc : Int), (x.what : Int), (x.arm : Int), (x.n : Int), (x.st : Int)]
def Zf.op (x : Zf) : OpV := x.p.ops.getD x.loc Mx
def Zf.stop (x : Zf) (n : Nat) : Zf := ⟨x.s, x.p, x.loc, n, x.jumps, x.due, [], [], 0, [], Yy.new x.s.out.toNat, x.eof, x.now⟩
def Zf.goes (x : Zf) (tt : Nat) : Zf := ⟨x.s, x.p, tt, x.st, x.jumps, x.due.rest, x.R, x.S, x.seen, x.P, x.pd, x.eof, x.now⟩
def Zf.waits (x : Zf) : Zf := ⟨x.s, x.p, x.loc, x.st, x.jumps, x.due.wait x.now x.op.n, x.R, x.S, x.seen, x.P, x.pd, x.eof, x.now⟩
def Zf.writes (x : Zf) : Zf := ⟨x.s, x.p, x.loc, x.st, x.jumps, x.due, x.R, x.S, x.seen, x.P, x.pd.begin x.op.text, x.eof, x.now⟩
def Zf.hears (x : Zf) : Zf := ⟨x.s, x.p, x.loc, x.st, x.jumps, x.due, x.R, x.S, 0, (Uz (x.op.arms.map Vd.pat)).1, x.pd, x.eof, x.now⟩
def Zf.enters (x : Zf) : Zf := if x.op.kind = 1 then x.writes else if x.op.kind = 2 then x.hears.waits else if x.op.kind = 4 then x.waits else x
def Zf.come (x : Zf) (tt : Nat) : Zf := (x.goes tt).enters
def Zf.hop (x : Zf) : Zf := ⟨x.s, x.p, x.loc, x.st, x.jumps + 1, x.due, x.R, x.S, x.seen, x.P, x.pd, x.eof, x.now⟩
def Zf.jump (x : Zf) (what : Nat) (tt : Int) : Zf × Nat := if tt < 0 then (x.stop 2, what) else if x.p.jumps ≤ (x.jumps : Int) then (x.stop 2, 11) else (x.hop.come tt.toNat, what)
def Zf.put (x : Zf) (b : ByteArray) : Zf × Nat :=
 if x.st ≠ 0 ∨ x.eof = true then (x, 0) else
  (⟨x.s, x.p, x.loc, x.st, x.jumps, x.due, x.R ++ b.data.toList.take (x.s.ring.toNat - x.R.length), x.S, x.seen, x.P, x.pd, x.eof, x.now⟩, min b.size (x.s.ring.toNat - x.R.length))
def Zf.ends (x : Zf) : Zf := if x.st ≠ 0 then x else ⟨x.s, x.p, x.loc, x.st, x.jumps, x.due, x.R, x.S, x.seen, x.P, x.pd, true, x.now⟩
def Zf.take (x : Zf) (z : Int) : Zf := if x.st ≠ 0 then x else ⟨x.s, x.p, x.loc, x.st, x.jumps, x.due, x.R, x.S, x.seen, x.P, x.pd.take z, x.eof, x.now⟩
def Zf.took (x : Zf) (z : Int) : ByteArray := if x.st ≠ 0 then ⟨#[]⟩ else x.pd.took z
def Zf.cuts (x : Zf) (t : Int) : Zf := if x.st ≠ 0 then x else ⟨x.s, x.p, x.loc, x.st, x.jumps, x.due.cuts t, x.R, x.S, x.seen, x.P, x.pd, x.eof, x.now⟩
def Zf.readyM (x : Zf) (now : Int) : Bool :=
 if x.due.over now ≠ 0 then true else if x.op.kind = 1 then decide (x.pd.laid = x.pd.sent) else
 if x.op.kind = 2 then decide (x.seen < x.S.length) || !x.R.isEmpty || x.eof || Ww x.due.til now else if x.op.kind = 4 then Ww x.due.til now else true
def Zf.ready (x : Zf) (now : Int) : Bool := decide (x.st = 0) && x.readyM (max now x.now)
def Zf.looked (x : Zf) (L : Zic) : Zf := ⟨x.s, x.p, x.loc, x.st, x.jumps, x.due, L.R, L.S, L.seen, x.P, x.pd, x.eof, x.now⟩
def Zf.look (x : Zf) : Zf × Nat × Nat × Nat :=
 let L := Vu x.s.win.toNat x.P x.S x.seen x.R
 if L.mtch = true then (((x.looked L).jump 2 (x.op.arms.getD L.arm ⟨⟨#[]⟩, 0⟩).tt).1, ((x.looked L).jump 2 (x.op.arms.getD L.arm ⟨⟨#[]⟩, 0⟩).tt).2, L.arm, L.gone)
 else if L.full = true then ((x.looked L).stop 4, 13, 0, L.read)
 else if x.eof = true then (((x.looked L).jump 4 x.op.onE).1, ((x.looked L).jump 4 x.op.onE).2, 0, L.read)
 else if Ww x.due.til x.now = true then (((x.looked L).jump 3 x.op.onT).1, ((x.looked L).jump 3 x.op.onT).2, 0, L.read)
 else (x.looked L, 1, 0, L.read)
def Zf.lays (x : Zf) : Zf := ⟨x.s, x.p, x.loc, x.st, x.jumps, x.due, x.R, x.S, x.seen, x.P, x.pd.load, x.eof, x.now⟩
def Zf.send (x : Zf) : Zf × Nat × Nat × Nat := if x.pd.laid < x.pd.text.size then (x.lays, 5, 0, x.pd.loadN) else (x.come (x.loc + 1), 6, 0, x.op.text.size)
def Zf.does (x : Zf) : Zf × Nat × Nat × Nat :=
 if x.due.over x.now ≠ 0 then (x.stop (x.due.over x.now), (if x.due.over x.now = 3 then 12 else 14), 0, 0)
 else if x.op.kind = 1 then x.send
 else if x.op.kind = 2 then x.look
 else if x.op.kind = 3 then ((x.jump 7 x.op.tt).1, (x.jump 7 x.op.tt).2, 0, 0)
 else if x.op.kind = 4 then (x.come (x.loc + 1), 8, 0, 0)
 else if x.op.kind = 6 then (x.stop 2, 10, 0, 0)
 else (x.stop 1, 9, 0, 0)
def Zf.clock (x : Zf) (now : Int) : Zf := ⟨x.s, x.p, x.loc, x.st, x.jumps, x.due, x.R, x.S, x.seen, x.P, x.pd, x.eof, max x.now now⟩
def Zf.step (x : Zf) (now : Int) : Zf × Qa × Bool :=
 if x.ready now = false then (x, ⟨0, 0, 0, 0, 0, 0⟩, false) else
  let y := x.clock now
  (y.does.1, ⟨y.now, y.loc, y.does.2.1, y.does.2.2.1, y.does.2.2.2, y.does.1.st⟩, true)
structure Ys (x : Zf) : Prop where
 good : Wf x.s = true
 pgood : (Xf x.p).2 = 0
 pok : Jb x.p
 loc : x.loc ≤ x.p.ops.length
 st : x.st ≤ 100
 jumps : x.jumps ≤ 2000
 til : I6 x.due.til
 lim : I6 x.due.lim
 cut : I6 x.due.cut
 now : 0 ≤ x.now ∧ x.now ≤ 9223372036854775807
def Zf.cells (x : Zf) (A : Option Addr) (c gi gh gp : Nat) : Array Value := #[x.s.live, x.s.ring, x.s.win, x.s.out, x.s.quan, x.s.vis, x.p.name, x.p.deadline, x.p.jumps, .slice A x.p.ops.length c,
 .int .i64 (x.loc : Int), .int .i64 (x.st : Int), .int .i64 (x.jumps : Int), .int .i64 x.due.til, .int .i64 x.due.lim, .int .i64 x.due.cut, .pointer (some ⟨gi, 0, none⟩), .pointer (some ⟨gh, 0, none⟩), .pointer (some ⟨gp, 0, none⟩), .bool x.eof, .int .i64 x.now]
structure Zr (B : Nat) (F : Nat → Prop) (w0 w : World) (d gi gb gh gp : Nat) (F2 : Nat → Prop) (A : Option Addr) (c : Nat) (x : Zf) : Prop where
 blk : Blk w d 107 (x.cells A c gi gh gp)
 ring : Rg w gi gb x.s.ring.toNat x.R
 hold : ∃ bs ps P, bs ≤ w.heap.size ∧ Yq bs F2 w gh x.s.win.toNat x.S x.seen ps P ∧ P.getD [] = x.P
 pend : Vt w gp x.pd
 ops : Ug w0 A x.p.ops
 w0w : Below w0.heap.size w0 w
 base : w0.heap.size ≤ B ∧ B ≤ w.heap.size
 fd : F d ∧ F gi ∧ F gb ∧ F gp ∧ ∀ k, F2 k → F k
 ne : d ≠ gi ∧ d ≠ gb ∧ d ≠ gp ∧ gi ≠ gp ∧ gb ≠ gp ∧ gi ≠ gb ∧ ¬ F2 d ∧ ¬ F2 gi ∧ ¬ F2 gb ∧ ¬ F2 gp
 fin : ∀ k, F k → B ≤ k ∧ k < w.heap.size
 out : x.pd.out = x.s.out.toNat
 ok : Ys x
def Zl (B : Nat) (F : Nat → Prop) (w0 w : World) (d : Nat) (x : Zf) : Prop := ∃ gi gb gh gp F2 A c, Zr B F w0 w d gi gb gh gp F2 A c x
section
variable {B d gi gb gh gp c : Nat} {F F2 : Nat → Prop} {w0 w w' : World} {A : Option Addr} {x : Zf}
theorem Zr.keep {G : Nat → Prop} (h : Zr B F w0 w d gi gb gh gp F2 A c x) (hk : Za G w w') (hd : ∀ k, F k → ¬ G k) (hG : ∀ k, G k → B ≤ k) : Zr B F w0 w' d gi gb gh gp F2 A c x := by
 obtain ⟨h1, h2, ⟨bs, ps, P, hbs, h3, h3'⟩, h4, h5, h6, h7, h8, h9, h10, h11, h12⟩ := h;refine ⟨hk.blk h1 (hd _ h8.1), h2.keep hk (hd _ h8.2.1) (hd _ h8.2.2.1), ⟨bs, ps, P, Nat.le_trans hbs hk.size, h3.keep hk (fun k hf => hd k (h8.2.2.2.2 k hf)), h3'⟩, h4.keep hk (hd _ h8.2.2.2.1), h5, ?_, ⟨h7.1, Nat.le_trans h7.2 hk.size⟩, h8, h9, fun k hf => ⟨(h10 k hf).1, Nat.lt_of_lt_of_le (h10 k hf).2 hk.size⟩, h11, h12⟩;exact h6.trans (hk.below h6.size (fun k hg => Nat.le_trans h7.1 (hG k hg)))
theorem Zr.below (h : Zr B F w0 w d gi gb gh gp F2 A c x) (hb : Below w.heap.size w w') : Zr B F w0 w' d gi gb gh gp F2 A c x :=
 h.keep (G := fun _ => False) (Za.of_below hb) (fun _ _ h => h) (fun _ h => h.elim)
theorem Zr.lt (h : Zr B F w0 w d gi gb gh gp F2 A c x) : d < w.heap.size := h.blk.lt
theorem Zl.below (h : Zl B F w0 w d x) (hb : Below w.heap.size w w') : Zl B F w0 w' d x := by
 obtain ⟨gi, gb, gh, gp, F2, A, c, h⟩ := h;exact ⟨gi, gb, gh, gp, F2, A, c, h.below hb⟩
theorem Zl.keep {G : Nat → Prop} (h : Zl B F w0 w d x) (hk : Za G w w') (hd : ∀ k, F k → ¬ G k) (hG : ∀ k, G k → B ≤ k) : Zl B F w0 w' d x := by
 obtain ⟨gi, gb, gh, gp, F2, A, c, h⟩ := h;exact ⟨gi, gb, gh, gp, F2, A, c, h.keep hk hd hG⟩
theorem Zr.mono {G : Nat → Prop} (h : Zr B F w0 w d gi gb gh gp F2 A c x) (hg : ∀ k, F k → G k) (hG : ∀ k, G k → B ≤ k ∧ k < w.heap.size) : Zr B G w0 w d gi gb gh gp F2 A c x := by
 obtain ⟨h1, h2, h3, h4, h5, h6, h7, h8, h9, h10, h11, h12⟩ := h;exact ⟨h1, h2, h3, h4, h5, h6, h7, ⟨hg _ h8.1, hg _ h8.2.1, hg _ h8.2.2.1, hg _ h8.2.2.2.1, fun k hf => hg k (h8.2.2.2.2 k hf)⟩, h9, hG, h11, h12⟩
theorem Zr.cell (h : Zr B F w0 w d gi gb gh gp F2 A c x) (i : Nat) : w.cell? ⟨d, i, none⟩ = (x.cells A c gi gh gp)[i]? := h.blk.cell i
end
section
variable {B d gi gb gh gp c : Nat} {F F2 : Nat → Prop} {w0 w w' : World} {A : Option Addr} {x : Zf}
theorem Zil (h : Zr B F w0 w d gi gb gh gp F2 A c x) : Calls Tryz.prog 63 #[.pointer (some ⟨d, 0, none⟩)] w fun e w' => e = .returned (.bool (decide (x.st = 0))) ∧ w = w' := by
 have c11 : w.cell? ⟨d, 11, none⟩ = some (.int .i64 (x.st : Int)) := h.cell 11;clear h;by_cases hs : x.st = 0
 ·rw [decide_eq_true hs]
  rw [hs] at c11;clear hs;go_enter Tryz.func63, Tryz.ntmps63;go_wp2_with fail;go_ret;exact ⟨rfl, rfl⟩
 ·rw [decide_eq_false hs]
  obtain ⟨s, hss⟩ := nE (x.st);rw [hss] at c11 hs;have hs2 : ((s : Int) == 0) = false := bF aa;clear hss hs;go_enter Tryz.func63, Tryz.ntmps63;go_wp2_with fail;go_ret;exact ⟨rfl, rfl⟩
theorem Zl3 (x : Zf) (h : x.p.ops.length ≤ x.loc) : x.op = Mx := by
 unfold Zf.op; rw [List.getD_eq_getElem?_getD, List.getElem?_eq_none h]; rfl
theorem Zr7 (x : Zf) (h : x.loc < x.p.ops.length) : x.op = x.p.ops[x.loc] := by
 unfold Zf.op; rw [List.getD_eq_getElem?_getD, List.getElem?_eq_getElem h]; rfl
theorem Zmd (h : Zr B F w0 w d gi gb gh gp F2 A c x) : Calls Tryz.prog 82 #[.pointer (some ⟨d, 0, none⟩)] w fun e w' => ∃ v, e = .returned (x.op.val v) ∧ Xj w0 x.op v ∧ Below w.heap.size w w' := by
 have c9 : w.cell? ⟨d, 9, none⟩ = some (.slice A x.p.ops.length c) := h.cell 9;have c10 : w.cell? ⟨d, 10, none⟩ = some (.int .i64 (x.loc : Int)) := h.cell 10;have hl := h.lt;have HOPS := hid (h.ops.below h.w0w);have HOP0 := hid h.ops;have HW0 := hid h.w0w;have hle := h.ok.loc;have hn := h.ok.pok.2.2.2.1;clear h;have HEND := hid (Zl3 x);have HAT := hid (Zr7 x);obtain ⟨n, hnn⟩ := nE (x.p.ops.length);rw [hnn] at c9 hle hn;obtain ⟨lo, hlo⟩ := nE (x.loc);rw [hlo] at c10 hle;have T9 : ∀ q : BW w.heap.size w, q.1.cell? ⟨d, 9, none⟩ = some (.slice A n c) := fun q => q.cellAt hl c9;have T10 : ∀ q : BW w.heap.size w, q.1.cell? ⟨d, 10, none⟩ = some (.int .i64 (lo : Int)) := fun q => q.cellAt hl c10
 obtain ⟨w1, g1, hw1, hg1, hb1, hk1, h11, h12⟩ : ∃ w' g, w.alloc (.cells #[.int .i64 0, .string ⟨#[]⟩, .int .i64 0, .int .i64 0, .slice none 0 0, .int .i64 0, .int .i64 0] 56) = w' ∧ w.heap.size = g ∧ Below w.heap.size w w' ∧ Blk w' g 56 #[.int .i64 0, .string ⟨#[]⟩, .int .i64 0, .int .i64 0, .slice none 0 0, .int .i64 0, .int .i64 0] ∧ w.heap.size ≤ g ∧ g < w'.heap.size :=
  ⟨_, _, rfl, rfl, (Below.refl _ _).alloc (Nat.le_refl _) _, Blk.new w _ _, Nat.le_refl _, (Blk.new w _ _).lt⟩
 have HW := hid (And.intro hw1 hg1);have HB1 := hid hb1;have HK1 := hid hk1;have HN := hid (And.intro hnn hlo);have T9' : ∀ q : BW w1.heap.size w1, q.1.cell? ⟨d, 9, none⟩ = some (.slice A n c) := fun q => q.cellAt (Nat.lt_of_lt_of_le hl hb1.size) (T9 ⟨w1, hb1⟩);have T10' : ∀ q : BW w1.heap.size w1, q.1.cell? ⟨d, 10, none⟩ = some (.int .i64 (lo : Int)) := fun q => q.cellAt (Nat.lt_of_lt_of_le hl hb1.size) (T10 ⟨w1, hb1⟩);clear c9 c10 hw1 hg1 hb1 hk1 hnn hlo T9 T10;by_cases hc : lo < n
 ·have hc2 : (lo : Int) < (n : Int) := by omega
  go_enter Tryz.func82, Tryz.ntmps82;go_upto_region 1 with fail;rw [HW.1, HW.2];refine Zh w1.heap.size ab ab ?_
  repeat (go_big_quiet_step (fail))
  refine wpQuiet_nil ?_;intro wu hqu;have HBU : Hid (Below w1.heap.size w1 wu) := ak
  clear hqu;have hlt' : x.loc < x.p.ops.length := by rw [HN.1, HN.2]; exact hc
  obtain ⟨b, off, v, hA, hbl, harm, e0, e1, e2, e3, e4, e5, e6⟩ := (HOPS.below (HB1.trans (HBU.mono HB1.size))).at x.loc hlt';rw [← HAT.out hlt'] at e0 e1 e2 e3 e5 e6 harm;rw [HN.2] at e0 e1 e2 e3 e4 e5 e6;subst hA;have HARM := hid harm;have hopw := HOP0.at x.loc hlt';obtain ⟨b', off', v', hA', -, harm', -, -, -, -, e4', -, -⟩ := hopw;rw [← HAT.out hlt'] at harm'
  have HOPSA : Hid (Xj w0 x.op v) := by
   injection hA' with hA'
   injection hA' with hb' ho' _
   subst hb' ho';have := (World.cell?_of_block ((HW0.trans ((HB1.trans (HBU.mono HB1.size)).mono HW0.size)).block b (World.block_lt_of_cell? w0 _ e4'))).trans e4';rw [HN.2] at this;rw [e4] at this;injection this with this
   rw [this]; exact harm'
  obtain ⟨o, ho⟩ := nE (x.op);have HO := hid ho;rw [ho] at e0 e1 e2 e3 e5 e6;obtain ⟨k, tx, nn, tt, arms, oT, oE⟩ := o;simp only at e0 e1 e2 e3 e5 e6;obtain ⟨Av, cv, hv, -⟩ := harm;rw [ho] at hv;simp only at hv;subst hv;clear ho;have T0 : ∀ q : BW wu.heap.size wu, q.1.cell? ⟨b, off + lo * 7, none⟩ = some (.int .i64 k) := fun q => q.cellAt hbl e0;have T1 : ∀ q : BW wu.heap.size wu, q.1.cell? ⟨b, off + lo * 7 + 1, none⟩ = some (.string tx) := fun q => q.cellAt hbl e1;have T2 : ∀ q : BW wu.heap.size wu, q.1.cell? ⟨b, off + lo * 7 + 2, none⟩ = some (.int .i64 nn) := fun q => q.cellAt hbl e2;have T3 : ∀ q : BW wu.heap.size wu, q.1.cell? ⟨b, off + lo * 7 + 3, none⟩ = some (.int .i64 tt) := fun q => q.cellAt hbl e3;have T4 : ∀ q : BW wu.heap.size wu, q.1.cell? ⟨b, off + lo * 7 + 4, none⟩ = some (.slice Av arms.length cv) := fun q => q.cellAt hbl e4;have T5 : ∀ q : BW wu.heap.size wu, q.1.cell? ⟨b, off + lo * 7 + 5, none⟩ = some (.int .i64 oT) := fun q => q.cellAt hbl e5;have T6 : ∀ q : BW wu.heap.size wu, q.1.cell? ⟨b, off + lo * 7 + 6, none⟩ = some (.int .i64 oE) := fun q => q.cellAt hbl e6;have T9 : ∀ q : BW wu.heap.size wu, q.1.cell? ⟨d, 9, none⟩ = some (.slice (some ⟨b, off, none⟩) n c) := fun q => T9' ⟨q.1, HBU.trans (q.2.mono HBU.size)⟩;have T10 : ∀ q : BW wu.heap.size wu, q.1.cell? ⟨d, 10, none⟩ = some (.int .i64 (lo : Int)) := fun q => T10' ⟨q.1, HBU.trans (q.2.mono HBU.size)⟩;clear e0 e1 e2 e3 e4 e5 e6 hbl T9' T10' hlt' hA' harm' e4';obtain ⟨na, hna⟩ := nE (arms.length);have HNA := hid hna;rw [hna] at T4;clear hna;go_upto_region 3 with fail;refine Zg wu.heap.size [11] (.val 0 (.val 1 (.val 2 (.val 3 (.val 4 (.val 5 (.val 6 (.val 7 (.val 8 (.val 9 (.val 10 (.op 11 (.nil))))))))))))) ab ab ?_;obtain ⟨wc, hwc, HBW⟩ := dw wu;rw [hwc];clear hwc
  iterate 11 ((first | refine Zd rfl rfl ?_ | refine Zw rfl rfl (Xp HBW.out) ?_); go_big_quiet_step (fail); refine wpQuiet_nil ?_)
  refine Ze rfl ?_;have HKU := hid ((HK1.below HBU.out h12).below HBW.out (HK1.below HBU.out h12).lt);obtain ⟨q0, q1, q2, q3, q4, q5, q6⟩ := Qo HKU.out;have y0 := HKU.frozen 0; have y1 := HKU.frozen 1; have y2 := HKU.frozen 2; have y3 := HKU.frozen 3; have y4 := HKU.frozen 4; have y5 := HKU.frozen 5; have y6 := HKU.frozen 6;have hlu := HKU.lt;go_wp2_with fail;refine KT.past rfl ?_;refine Zi ?_;clear T0 T1 T2 T3 T4 T5 T6 T9 T10 q0 q1 q2 q3 q4 q5 q6 y0 y1 y2 y3 y4 y5 y6;have Z3 : Hid (Below w.heap.size w (Zfx wc g1 (.int .i64 k) (.string tx) (.int .i64 nn) (.int .i64 tt) (.slice Av na cv) (.int .i64 oT) (.int .i64 oE))) := hid (Zby ((HB1.trans (HBU.mono HB1.size)).trans (HBW.mono (Nat.le_trans HB1.size HBU.size))) h11 _ _ _ _ _ _ _)
  have Z2 : Hid (Xj w0 x.op (.slice Av arms.length cv)) := by
   have := HOPSA.out;rwa [HO.out] at this ⊢
  obtain ⟨w9, hw9⟩ := nE (Zfx wc g1 (.int .i64 k) (.string tx) (.int .i64 nn) (.int .i64 tt) (.slice Av na cv) (.int .i64 oT) (.int .i64 oE));have Z1 : Blk w9 g1 56 #[k, tx, nn, tt, .slice Av na cv, oT, oE] := hw9 ▸ Zey HKU.out _ _ _ _ _ _ _;rw [hw9] at Z3;unfold Zfx at hw9;rw [hw9];go_wp2_with fail;obtain ⟨t0, t1, t2, t3, t4, t5, t6⟩ := Qo Z1;refine bodyPost_ret (v := .agg #[k, tx, nn, tt, .slice Av na cv, oT, oE]) kf rfl ⟨.slice Av na cv, ?_, ?_, Z3.out⟩
  ·rw [HO.out]; rfl
  ·rw [← HNA.out]; exact Z2.out
 ·have hc2 : (n : Int) ≤ (lo : Int) := by omega
  go_enter Tryz.func82, Tryz.ntmps82;go_upto_region 1 with fail;rw [HW.1, HW.2];refine Zh w1.heap.size ab ab ?_
  repeat (go_big_quiet_step (fail))
  refine wpQuiet_nil ?_;intro wu hqu;have HBU : Hid (Below w1.heap.size w1 wu) := ak
  clear hqu T9' T10';have HKU := hid (HK1.below HBU.out h12);obtain ⟨q0, q1, q2, q3, q4, q5, q6⟩ := Qo HKU.out;have y0 := HKU.frozen 0; have y1 := HKU.frozen 1; have y2 := HKU.frozen 2; have y3 := HKU.frozen 3; have y4 := HKU.frozen 4; have y5 := HKU.frozen 5; have y6 := HKU.frozen 6;have hlu := HKU.lt;go_wp2_with fail;obtain ⟨w9, hw9⟩ := nE (Zfx wu g1 (.int .i64 0) (.string ⟨#[]⟩) (.int .i64 0) (.int .i64 0) (.slice none 0 0) (.int .i64 0) (.int .i64 0));have Z1 : Blk w9 g1 56 #[.int .i64 0, .string ⟨#[]⟩, .int .i64 0, .int .i64 0, .slice none 0 0, .int .i64 0, .int .i64 0] := hw9 ▸ Zey HKU.out _ _ _ _ _ _ _;have Z3 : Below w.heap.size w w9 := hw9 ▸ Zby (HB1.trans (HBU.mono HB1.size)) h11 _ _ _ _ _ _ _;unfold Zfx at hw9;rw [hw9];obtain ⟨t0, t1, t2, t3, t4, t5, t6⟩ := Qo Z1;refine bodyPost_ret (v := .agg #[.int .i64 0, .string ⟨#[]⟩, .int .i64 0, .int .i64 0, .slice none 0 0, .int .i64 0, .int .i64 0]) kf rfl ⟨.slice none 0 0, ?_, ?_, Z3⟩
  ·rw [HEND.out (by rw [HN.1, HN.2]; omega)]; rfl
  ·rw [HEND.out (by rw [HN.1, HN.2]; omega)]; exact ⟨none, 0, rfl, .inl rfl⟩
theorem Zme (h : Zr B F w0 w d gi gb gh gp F2 A c x) : Calls Tryz.prog 82 #[.pointer (some ⟨d, 0, none⟩)] w fun e w' => ∃ v, e = .returned (x.op.val v) ∧ Xj w' x.op v ∧ Below w.heap.size w w' :=
 (Zmd h).mono (fun _ _ ⟨v, h1, h2, h3⟩ => ⟨v, h1, h2.below (h.w0w.trans (h3.mono h.w0w.size)), h3⟩)
end
theorem Zy (w : World) (g i : Nat) (a : Value) : Za (fun k => k = g) w (w.setCell ⟨g, i, none⟩ a) := Za.setCell (fun k => k = g) w ⟨g, i, none⟩ a rfl
def Zn8 (w : World) (g : Nat) (a b c : Value) : World := ((w.setCell ⟨g, 16, none⟩ a).setCell ⟨g, 17, none⟩ b).setCell ⟨g, 18, none⟩ c
theorem Zkk (w : World) (g : Nat) (a b c : Value) : Za (fun k => k = g) w (Zn8 w g a b c) :=
 (Zy w g 16 a).trans ((Zy _ g 17 b).trans (Zy _ g 18 c) (fun _ h => .inl h)) (fun _ h => .inl h)
theorem Zba (x : Int) (m : Nat) (h1 : 1 ≤ x) (h2 : x ≤ (m : Int)) : We x m = x.toNat := by
 unfold We; rw [if_neg aa, if_neg aa]
section
variable {B d gi gb gh gp c : Nat} {F F2 : Nat → Prop} {w0 w w' : World} {A : Option Addr} {x : Zf}
theorem Rg.ne {g gb m : Nat} {R : List UInt8} (h : Rg w g gb m R) : g ≠ gb := by
 obtain ⟨first, buf, h, -⟩ := h;exact Gy h.1 h.2.1 ac
theorem Zge {w1 wp wz : World} (h : Zr B F w0 w d gi gb gh gp F2 A c x) (hk1 : Za (fun k => k = d) w w1) (hb : Below w1.heap.size w1 wp) (hk2 : Za (fun k => k = d) wp wz) : Za F w wz := by
 have e : ∀ k, k = d → F k := fun k hk => by rw [hk]; exact h.fd.1
 refine ((hk1.mono (fun k _ hk => e k hk)).trans (Za.of_below (F := F) hb) (fun _ h => .inl h)).trans ((hk2.mono (fun k _ hk => e k hk)) : Za F wp wz) (fun _ h => .inl h)
theorem Zop {w1 wp wz : World} {g1 g2 g3 g4 n : Nat} (h : Zr B F w0 w d gi gb gh gp F2 A c x) (hk1 : Za (fun k => k = d) w w1) (hb : Below w1.heap.size w1 wp) (hk2 : Za (fun k => k = d) wp wz)
  (hz : Blk wz d 107 ((x.stop n).cells A c g1 g3 g4)) (hr : Rg wp g1 g2 x.s.ring.toNat []) (hh : Yq g3 (fun k => k = g3) wp g3 x.s.win.toNat [] 0 [] none) (hp : Vt wp g4 (Yy.new x.s.out.toNat))
  (hlt : w1.heap.size ≤ g1 ∧ w1.heap.size ≤ g2 ∧ g1 < g3 ∧ g2 < g3 ∧ g3 < g4 ∧ g4 < wp.heap.size ∧ d < w1.heap.size) (hn : n ≤ 100) : Zl B (Fup F w wz) w0 wz d (x.stop n) := by
 have hk := Zge h hk1 hb hk2;obtain ⟨q1, q2, q3, q4, q5, q6, q7⟩ := hlt;have s1 := hk1.size;have s2 := hb.size;have s3 := hk2.size;have hdl := h.lt;have hne := hr.ne;have hB := h.base.2;refine ⟨g1, g2, g3, g4, (fun k => k = g3), A, c, hz, hr.keep hk2 aa aa, ⟨g3, [], none, aa, hh.keep hk2 (fun k (e : k = g3) (e2 : k = d) => aa), rfl⟩, hp.keep hk2 aa, h.ops, ?_, ⟨h.base.1, aa⟩, ⟨.inl h.fd.1, .inr ⟨aa, aa⟩, .inr ⟨aa, aa⟩, .inr ⟨aa, aa⟩, fun k (e : k = g3) => .inr ⟨aa, aa⟩⟩, ?_, ?_, rfl, ?_⟩
 ·exact h.w0w.trans (hk.below h.w0w.size (fun k hf => Nat.le_trans h.base.1 (h.fin k hf).1))
 ·exact ⟨aa, aa, aa, aa, aa, hne, fun (e : d = g3) => aa, fun (e : g1 = g3) => aa, fun (e : g2 = g3) => aa, fun (e : g4 = g3) => aa⟩
 ·rintro k (hf | hf)
  ·have hf' := h.fin k hf
   have hs' := hk.size;exact ⟨hf'.1, aa⟩
  ·exact ⟨aa, hf.2⟩
 ·obtain ⟨o1, o2, o3, o4, o5, o6, o7, o8, o9, o10⟩ := h.ok
  exact ⟨o1, o2, o3, o4, hn, o6, o7, o8, o9, o10⟩
theorem Jt (h : Zr B F w0 w d gi gb gh gp F2 A c x) (n : Nat) (hn : n ≤ 100) : Calls Tryz.prog 112 #[.pointer (some ⟨d, 0, none⟩), (n : Int)] w fun e w' => e = .returned (.tuple #[]) ∧ Zl B (Fup F w w') w0 w' d (x.stop n) ∧ Za F w w' := by
 have HD := hid h;have hg := Qt h.ok.good;have c1 : w.cell? ⟨d, 1, none⟩ = some (.int .i64 x.s.ring) := h.cell 1;have c2 : w.cell? ⟨d, 2, none⟩ = some (.int .i64 x.s.win) := h.cell 2;have c3 : w.cell? ⟨d, 3, none⟩ = some (.int .i64 x.s.out) := h.cell 3;have c11 : w.cell? ⟨d, 11, none⟩ = some (.int .i64 (x.st : Int)) := h.cell 11;have y11 := h.blk.frozen 11;have hl := h.lt;have CR := hid (fun W => Zgi x.s.ring W aa aa);have CH := hid (fun W => Zgt x.s.win W aa aa);obtain ⟨ou, hou⟩ : ∃ y : Nat, x.s.out = (y : Int) := ⟨x.s.out.toNat, aa⟩;have CP := hid (fun W => Zgo ou aa aa W);rw [Zba x.s.ring 4096 aa aa] at CR;rw [Zba x.s.win 4096 aa aa] at CH;have HOU := hid hou;rw [hou] at c3;obtain ⟨r, hr⟩ := nE (x.s.ring);obtain ⟨wn, hwn⟩ := nE (x.s.win);have HRW := hid (And.intro hr hwn);rw [hr] at CR c1;rw [hwn] at CH c2;obtain ⟨w1, hw1⟩ := nE (w.setCell ⟨d, 11, none⟩ (.int .i64 (n : Int)));have HB1 : Hid (Blk w1 d 107 ((x.cells A c gi gh gp).setIfInBounds 11 (.int .i64 (n : Int)))) := hw1 ▸ h.blk.set 11 _;have HK1 : Hid (Za (fun k => k = d) w w1) := hw1 ▸ Zy _ _ _ _;have HW := hid hw1;have k1 : w1.cell? ⟨d, 1, none⟩ = some (.int .i64 r) := hr ▸ HB1.cell 1;have k2 : w1.cell? ⟨d, 2, none⟩ = some (.int .i64 wn) := hwn ▸ HB1.cell 2;have k3 : w1.cell? ⟨d, 3, none⟩ = some (.int .i64 (ou : Int)) := hou ▸ HB1.cell 3;have hl1 := HB1.lt;have T1 : ∀ q : BW w1.heap.size w1, q.1.cell? ⟨d, 1, none⟩ = some (.int .i64 r) := fun q => q.cellAt hl1 k1;have T2 : ∀ q : BW w1.heap.size w1, q.1.cell? ⟨d, 2, none⟩ = some (.int .i64 wn) := fun q => q.cellAt hl1 k2;have T3 : ∀ q : BW w1.heap.size w1, q.1.cell? ⟨d, 3, none⟩ = some (.int .i64 (ou : Int)) := fun q => q.cellAt hl1 k3;clear h hg hou hr hwn hw1 c1 c2 c3 k1 k2 k3;go_enter Tryz.func112, Tryz.ntmps112;go_upto_region 1 with fail;rw [HW.out];clear c11 y11;refine Zg w1.heap.size [23, 26, 29] (.val 0 (.val 1 (.val 2 (.val 3 (.val 4 (.val 5 (.val 6 (.val 7 (.val 9 (.val 10 (.val 11 (.val 12 (.val 13 (.val 15 (.val 16 (.val 17 (.val 18 (.val 19 (.op 8 (.op 14 (.op 20 (.val 21 (.val 22 (.op 23 (.val 24 (.val 25 (.op 26 (.val 27 (.val 28 (.op 29 (.nil))))))))))))))))))))))))))))))) ab ab ?_;obtain ⟨wc, hwc, HBW⟩ := dw w1;rw [hwc];clear hwc
 iterate 18 ((first | refine Zd rfl rfl ?_ | refine Zw rfl rfl (Xp HBW.out) ?_); go_big_quiet_step (fail); refine wpQuiet_nil ?_)
 refine Ze rfl ?_;go_wp2_with fail;refine (CR.out _).mono ?_;rintro en wc ⟨g1, g2, rfl, hr1, hg1, hg2, hb⟩;have s8 := HBW.size;have HRG := hid hr1;replace HBW := hid (HBW.trans (hb.mono HBW.size));have lt8 := hr1.lt;clear hr1 hb CR;go_wp2_with fail;refine KT.keep (Xp HBW.out) ?_;refine Ze rfl ?_;go_wp2_with fail;refine (CH.out _).mono ?_;obtain ⟨g3, hg3⟩ := nE (wc.heap.size);rw [hg3];rintro en wh ⟨rfl, hh1, hb⟩;rw [← hg3] at hb;have hs14 := hb.size;replace HRG := hid (HRG.below hb);replace HBW := hid (HBW.trans (hb.mono HBW.size));have HHO := hid hh1;have lt14 := hh1.lt;clear hh1 hb CH;go_wp2_with fail;refine KT.keep (Xp HBW.out) ?_;refine Ze rfl ?_;go_wp2_with fail;refine (CP.out _).mono ?_;obtain ⟨g4, hg4⟩ := nE (wh.heap.size);rw [hg4];rintro en wp ⟨rfl, hp1, hb⟩;rw [← hg4] at hb;have hs20 := hb.size;replace HRG := hid (HRG.below hb);replace HHO := hid (HHO.below hb);replace HBW := hid (HBW.trans (hb.mono HBW.size));have HPN := hid hp1;have lt20 := hp1.lt;have HBD := hid (HB1.below HBW.out hl1);have z16 : wp.cell? ⟨d, 16, none⟩ = some (.pointer (some ⟨gi, 0, none⟩)) := HBD.cell 16;have z17 : wp.cell? ⟨d, 17, none⟩ = some (.pointer (some ⟨gh, 0, none⟩)) := HBD.cell 17;have z18 : wp.cell? ⟨d, 18, none⟩ = some (.pointer (some ⟨gp, 0, none⟩)) := HBD.cell 18;have y16 := HBD.frozen 16; have y17 := HBD.frozen 17; have y18 := HBD.frozen 18;have hlp := HBD.lt;clear hp1 hb CP T1 T2 T3;go_wp2_with fail;refine KT.keep (Xp HBW.out) ?_
 iterate 2 (refine Zd rfl rfl ?_; go_big_quiet_step (fail); refine wpQuiet_nil ?_)
 refine Ze rfl ?_;go_wp2_with fail;refine KT.past rfl ?_
 iterate 2 (refine Zd rfl rfl ?_; go_big_quiet_step (fail); refine wpQuiet_nil ?_)
 refine Ze rfl ?_;go_wp2_with fail;refine KT.past rfl ?_
 iterate 2 (refine Zd rfl rfl ?_; go_big_quiet_step (fail); refine wpQuiet_nil ?_)
 refine Ze rfl ?_;go_wp2_with fail;refine KT.past rfl ?_;refine Zi ?_;go_wp2_with fail;obtain ⟨wz, hwz⟩ := nE (Zn8 wp d (.pointer (some ⟨g1, 0, none⟩)) (.pointer (some ⟨g3, 0, none⟩)) (.pointer (some ⟨g4, 0, none⟩)));have KZ : Za (fun k => k = d) wp wz := hwz ▸ Zkk _ _ _ _ _;have BZ : Blk wz d 107 ((x.stop n).cells A c g1 g3 g4) := hwz ▸ ((HBD.set 16 _).set 17 _).set 18 _;unfold Zn8 at hwz;rw [hwz]
 try go_end0
 refine ⟨rfl, Zop (g1 := g1) (g2 := g2) (g3 := g3) (g4 := g4) HD.out HK1.out HBW.out KZ BZ ?_ ?_ ?_ ⟨aa, aa, aa, aa, aa, aa, aa⟩ hn, ?_⟩
 ·rw [HRW.1]; exact HRG.out
 ·rw [HRW.2]; exact HHO.out
 ·rw [HOU.out, Int.toNat_natCast]; exact HPN.out
 ·exact Zge HD.out HK1.out HBW.out KZ
end
end Go.Proofs.YtpkkfdmhbbipoaaGreat
