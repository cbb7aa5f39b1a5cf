/- Plain: a window, through which is looked. No program in sight. Rows of the call's own within a footprint, or of no element at all; appends to these. No program in sight. A window in memory. Walks: a window's text, the next byte, other patterns. Walks: a window: other patterns; what is left behind a match. Walks: a window: what is left behind a match. -/
import Derived.Test.YtpkkfdmhbbipoaaGreatMo
import Derived.Test.YtpkkfdmhbbipoaaGreatMa
import Derived.Test.YtpkkfdmhbbipoaaGreatPr
import Derived.Test.YtpkkfdmhbbipoaaGreatMm
namespace Go.Proofs.YtpkkfdmhbbipoaaGreat
open Go.RowKit
structure LookR where
 S : List UInt8
 seen : Nat
 R : List UInt8
 mtch : Bool
 full : Bool
 arm : Nat
 gone : Nat
 read : Nat
 deriving DecidableEq
def lookGo (win : Nat) (ls : List (List Item)) : Nat → List UInt8 → Nat → List UInt8 → Nat → LookR
 | 0, S, seen, R, rd => ⟨S, seen, R, false, false, 0, 0, rd⟩
 | n + 1, S, seen, R, rd =>
  if seen = S.length ∧ R = [] then ⟨S, seen, R, false, false, 0, 0, rd⟩ else
  if seen = S.length ∧ S.length = win then ⟨S, seen, R, false, true, 0, 0, rd⟩ else
  if (dsM ls (if seen = S.length then S ++ R.take 1 else S) (seen + 1)).any id = true then
   ⟨(if seen = S.length then S ++ R.take 1 else S).drop (seen + 1), 0, (if seen = S.length then R.drop 1 else R), true, false, toldA (dsM ls (if seen = S.length then S ++ R.take 1 else S) (seen + 1)), seen + 1, if seen = S.length then rd + 1 else rd⟩
  else lookGo win ls n (if seen = S.length then S ++ R.take 1 else S) (seen + 1) (if seen = S.length then R.drop 1 else R) (if seen = S.length then rd + 1 else rd)
def lookN (S : List UInt8) (seen : Nat) (R : List UInt8) : Nat := R.length + (S.length - seen) + 1
def lookM (win : Nat) (ls : List (List Item)) (S : List UInt8) (seen : Nat) (R : List UInt8) : LookR := lookGo win ls (lookN S seen R) S seen R 0
def OwnF (F : Nat → Prop) (w : World) (base : Nat) (e : TypeId) (size : Nat) (v : Value) (n : Nat) (xs : List Value) : Prop :=
 (n = 0 ∧ xs = [] ∧ ∃ A, v = .slice A 0 0) ∨ (w.ownsRow base e size v n xs ∧ ∀ k, v.ownBlock = some k → F k)
def Fup (F : Nat → Prop) (w w' : World) (k : Nat) : Prop := F k ∨ (w.heap.size ≤ k ∧ k < w'.heap.size)
open PopT
def ArmIn (base : Nat) (F : Nat → Prop) (w : World) (va : Value) (P : Option (List (List Item))) (S : List UInt8) (seen : Nat) : Prop :=
 (P = none ∧ va = .pointer none) ∨ ∃ ls b ar, P = some ls ∧ va = .pointer (some ⟨b, 0, none⟩) ∧ ArmsAt base w b (armsTo ar S seen) (seen : Int) ∧ ar.map ArmS.l = ls ∧ (∀ a ∈ ar, GoodP a.l) ∧ ar.length ≤ 8 ∧ (∀ k, AF w b k → F k) ∧ ∀ a ∈ ar, F a.g
def HoldAt (base : Nat) (F : Nat → Prop) (w : World) (h win : Nat) (S : List UInt8) (seen : Nat) (ps : List ByteArray) (P : Option (List (List Item))) : Prop :=
 base ≤ h ∧ F h ∧ 1 ≤ win ∧ win ≤ 4096 ∧ seen ≤ S.length ∧ S.length ≤ win ∧ ∃ vb vp va, Blk w h 161 #[.int .i64 (win : Int), vb, .int .i64 (seen : Int), vp, va] ∧
  OwnF F w base 5 1 vb S.length (byteCells S) ∧ OwnF F w base 9 1 vp ps.length (textCells ps) ∧ ArmIn base F w va P S seen
/-! ### The short ones; no window -/
end Go.Proofs.YtpkkfdmhbbipoaaGreat
