/- A dialogue: its plain model, and it in memory. Walks: package dial: runs, op, stop. Walks: package dial: stop. -/
import Derived.Test.YtpkkfdmhbbipoaaGreatDb
import Derived.Test.YtpkkfdmhbbipoaaGreatDc
import Derived.Test.YtpkkfdmhbbipoaaGreatPj
import Derived.Test.YtpkkfdmhbbipoaaGreatPk
namespace Go.Proofs.YtpkkfdmhbbipoaaGreat
open Go.RowKit PopT
def dNone : OpV := ⟨0, ⟨#[]⟩, 0, 0, [], 0, 0⟩
structure DialV where
 s : SetV
 p : ProgV
 loc : Nat
 st : Nat
 jumps : Nat
 due : DueV
 R : List UInt8
 S : List UInt8
 seen : Nat
 P : List (List Item)
 pd : PendV
 eof : Bool
 now : Int
structure StepV where
 tick : Int
 loc : Nat
 what : Nat
 arm : Nat
 n : Nat
 st : Nat
def StepV.val (x : StepV) : Value := .agg #[.int .i64 x.tick, .int .i64 (x.loc : Int), .int .i64 (x.what : Int), .int .i64 (x.arm : Int), .int .i64 (x.n : Int), .int .i64 (x.st : Int)]
def DialV.op (x : DialV) : OpV := x.p.ops.getD x.loc dNone
def DialV.stop (x : DialV) (n : Nat) : DialV := ⟨x.s, x.p, x.loc, n, x.jumps, x.due, [], [], 0, [], PendV.new x.s.out.toNat, x.eof, x.now⟩
def DialV.goes (x : DialV) (tt : Nat) : DialV := ⟨x.s, x.p, tt, x.st, x.jumps, x.due.rest, x.R, x.S, x.seen, x.P, x.pd, x.eof, x.now⟩
def DialV.waits (x : DialV) : DialV := ⟨x.s, x.p, x.loc, x.st, x.jumps, x.due.wait x.now x.op.n, x.R, x.S, x.seen, x.P, x.pd, x.eof, x.now⟩
def DialV.writes (x : DialV) : DialV := ⟨x.s, x.p, x.loc, x.st, x.jumps, x.due, x.R, x.S, x.seen, x.P, x.pd.begin x.op.text, x.eof, x.now⟩
def DialV.hears (x : DialV) : DialV := ⟨x.s, x.p, x.loc, x.st, x.jumps, x.due, x.R, x.S, 0, (newM (x.op.arms.map ArmV.pat)).1, x.pd, x.eof, x.now⟩
def DialV.enters (x : DialV) : DialV := if x.op.kind = 1 then x.writes else if x.op.kind = 2 then x.hears.waits else if x.op.kind = 4 then x.waits else x
def DialV.come (x : DialV) (tt : Nat) : DialV := (x.goes tt).enters
def DialV.hop (x : DialV) : DialV := ⟨x.s, x.p, x.loc, x.st, x.jumps + 1, x.due, x.R, x.S, x.seen, x.P, x.pd, x.eof, x.now⟩
def DialV.jump (x : DialV) (what : Nat) (tt : Int) : DialV × Nat := if tt < 0 then (x.stop 2, what) else if x.p.jumps ≤ (x.jumps : Int) then (x.stop 2, 11) else (x.hop.come tt.toNat, what)
def DialV.put (x : DialV) (b : ByteArray) : DialV × Nat :=
 if x.st ≠ 0 ∨ x.eof = true then (x, 0) else
  (⟨x.s, x.p, x.loc, x.st, x.jumps, x.due, x.R ++ b.data.toList.take (x.s.ring.toNat - x.R.length), x.S, x.seen, x.P, x.pd, x.eof, x.now⟩, min b.size (x.s.ring.toNat - x.R.length))
def DialV.ends (x : DialV) : DialV := if x.st ≠ 0 then x else ⟨x.s, x.p, x.loc, x.st, x.jumps, x.due, x.R, x.S, x.seen, x.P, x.pd, true, x.now⟩
def DialV.take (x : DialV) (z : Int) : DialV := if x.st ≠ 0 then x else ⟨x.s, x.p, x.loc, x.st, x.jumps, x.due, x.R, x.S, x.seen, x.P, x.pd.take z, x.eof, x.now⟩
def DialV.took (x : DialV) (z : Int) : ByteArray := if x.st ≠ 0 then ⟨#[]⟩ else x.pd.took z
def DialV.cuts (x : DialV) (t : Int) : DialV := if x.st ≠ 0 then x else ⟨x.s, x.p, x.loc, x.st, x.jumps, x.due.cuts t, x.R, x.S, x.seen, x.P, x.pd, x.eof, x.now⟩
def DialV.readyM (x : DialV) (now : Int) : Bool :=
 if x.due.over now ≠ 0 then true else if x.op.kind = 1 then decide (x.pd.laid = x.pd.sent) else
 if x.op.kind = 2 then decide (x.seen < x.S.length) || !x.R.isEmpty || x.eof || dueT x.due.til now else if x.op.kind = 4 then dueT x.due.til now else true
def DialV.ready (x : DialV) (now : Int) : Bool := decide (x.st = 0) && x.readyM (max now x.now)
def DialV.looked (x : DialV) (L : LookR) : DialV := ⟨x.s, x.p, x.loc, x.st, x.jumps, x.due, L.R, L.S, L.seen, x.P, x.pd, x.eof, x.now⟩
def DialV.look (x : DialV) : DialV × Nat × Nat × Nat :=
 let L := lookM x.s.win.toNat x.P x.S x.seen x.R
 if L.mtch = true then (((x.looked L).jump 2 (x.op.arms.getD L.arm ⟨⟨#[]⟩, 0⟩).tt).1, ((x.looked L).jump 2 (x.op.arms.getD L.arm ⟨⟨#[]⟩, 0⟩).tt).2, L.arm, L.gone)
 else if L.full = true then ((x.looked L).stop 4, 13, 0, L.read)
 else if x.eof = true then (((x.looked L).jump 4 x.op.onE).1, ((x.looked L).jump 4 x.op.onE).2, 0, L.read)
 else if dueT x.due.til x.now = true then (((x.looked L).jump 3 x.op.onT).1, ((x.looked L).jump 3 x.op.onT).2, 0, L.read)
 else (x.looked L, 1, 0, L.read)
def DialV.lays (x : DialV) : DialV := ⟨x.s, x.p, x.loc, x.st, x.jumps, x.due, x.R, x.S, x.seen, x.P, x.pd.load, x.eof, x.now⟩
def DialV.send (x : DialV) : DialV × Nat × Nat × Nat := if x.pd.laid < x.pd.text.size then (x.lays, 5, 0, x.pd.loadN) else (x.come (x.loc + 1), 6, 0, x.op.text.size)
def DialV.does (x : DialV) : DialV × Nat × Nat × Nat :=
 if x.due.over x.now ≠ 0 then (x.stop (x.due.over x.now), (if x.due.over x.now = 3 then 12 else 14), 0, 0)
 else if x.op.kind = 1 then x.send
 else if x.op.kind = 2 then x.look
 else if x.op.kind = 3 then ((x.jump 7 x.op.tt).1, (x.jump 7 x.op.tt).2, 0, 0)
 else if x.op.kind = 4 then (x.come (x.loc + 1), 8, 0, 0)
 else if x.op.kind = 6 then (x.stop 2, 10, 0, 0)
 else (x.stop 1, 9, 0, 0)
def DialV.clock (x : DialV) (now : Int) : DialV := ⟨x.s, x.p, x.loc, x.st, x.jumps, x.due, x.R, x.S, x.seen, x.P, x.pd, x.eof, max x.now now⟩
def DialV.step (x : DialV) (now : Int) : DialV × StepV × Bool :=
 if x.ready now = false then (x, ⟨0, 0, 0, 0, 0, 0⟩, false) else
  let y := x.clock now
  (y.does.1, ⟨y.now, y.loc, y.does.2.1, y.does.2.2.1, y.does.2.2.2, y.does.1.st⟩, true)
structure DialOk (x : DialV) : Prop where
 good : goodS x.s = true
 pgood : (wrongM x.p).2 = 0
 pok : ProgOk x.p
 loc : x.loc ≤ x.p.ops.length
 st : x.st ≤ 100
 jumps : x.jumps ≤ 2000
 til : I6 x.due.til
 lim : I6 x.due.lim
 cut : I6 x.due.cut
 now : 0 ≤ x.now ∧ x.now ≤ 9223372036854775807
def DialV.cells (x : DialV) (A : Option Addr) (c gi gh gp : Nat) : Array Value := #[.int .i64 x.s.live, .int .i64 x.s.ring, .int .i64 x.s.win, .int .i64 x.s.out, .int .i64 x.s.quan, .int .i64 x.s.vis, .string x.p.name, .int .i64 x.p.deadline, .int .i64 x.p.jumps, .slice A x.p.ops.length c,
 .int .i64 (x.loc : Int), .int .i64 (x.st : Int), .int .i64 (x.jumps : Int), .int .i64 x.due.til, .int .i64 x.due.lim, .int .i64 x.due.cut, .pointer (some ⟨gi, 0, none⟩), .pointer (some ⟨gh, 0, none⟩), .pointer (some ⟨gp, 0, none⟩), .bool x.eof, .int .i64 x.now]
structure DialIn (B : Nat) (F : Nat → Prop) (w0 w : World) (d gi gb gh gp : Nat) (F2 : Nat → Prop) (A : Option Addr) (c : Nat) (x : DialV) : Prop where
 blk : Blk w d 107 (x.cells A c gi gh gp)
 ring : Rg w gi gb x.s.ring.toNat x.R
 hold : ∃ bs ps P, bs ≤ w.heap.size ∧ HoldAt bs F2 w gh x.s.win.toNat x.S x.seen ps P ∧ P.getD [] = x.P
 pend : PendAt w gp x.pd
 ops : OpsIn w0 A x.p.ops
 w0w : Below w0.heap.size w0 w
 base : w0.heap.size ≤ B ∧ B ≤ w.heap.size
 fd : F d ∧ F gi ∧ F gb ∧ F gp ∧ ∀ k, F2 k → F k
 ne : d ≠ gi ∧ d ≠ gb ∧ d ≠ gp ∧ gi ≠ gp ∧ gb ≠ gp ∧ gi ≠ gb ∧ ¬ F2 d ∧ ¬ F2 gi ∧ ¬ F2 gb ∧ ¬ F2 gp
 fin : ∀ k, F k → B ≤ k ∧ k < w.heap.size
 out : x.pd.out = x.s.out.toNat
 ok : DialOk x
def DialAt (B : Nat) (F : Nat → Prop) (w0 w : World) (d : Nat) (x : DialV) : Prop := ∃ gi gb gh gp F2 A c, DialIn B F w0 w d gi gb gh gp F2 A c x
section
variable {B d gi gb gh gp c : Nat} {F F2 : Nat → Prop} {w0 w w' : World} {A : Option Addr} {x : DialV}
end
section
variable {B d gi gb gh gp c : Nat} {F F2 : Nat → Prop} {w0 w w' : World} {A : Option Addr} {x : DialV}
end
theorem set1_keep (w : World) (g i : Nat) (a : Value) : Keep (fun k => k = g) w (w.setCell ⟨g, i, none⟩ a) := Keep.setCell (fun k => k = g) w ⟨g, i, none⟩ a rfl
section
variable {B d gi gb gh gp c : Nat} {F F2 : Nat → Prop} {w0 w w' : World} {A : Option Addr} {x : DialV}
end
end Go.Proofs.YtpkkfdmhbbipoaaGreat
