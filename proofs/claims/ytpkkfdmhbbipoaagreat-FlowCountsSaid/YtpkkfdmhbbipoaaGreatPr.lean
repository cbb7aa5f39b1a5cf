/- Plain laws of a ring: room that goes round. No program in sight. The walks of package ring. The walks of package ring: Put, Peek; no ring. -/
import Derived.Test.YtpkkfdmhbbipoaaGreatMa
import Derived.Test.YtpkkfdmhbbipoaaGreatMb
import Derived.Laws.CopyRow
namespace Go.Proofs.YtpkkfdmhbbipoaaGreat
open Go.RowKit
def RgM (buf : List UInt8) (first n : Nat) : List UInt8 := (List.range n).map fun i => buf.getD ((first + i) % buf.length) 0
/-! ### 'copy' from a text -/
/-! ### A ring in memory -/
def RgAt (w : World) (g gb m first n : Nat) (buf : List UInt8) : Prop :=
 Blk w g 138 #[.slice (some ⟨gb, 0, none⟩) m m, .int .i64 (first : Int), .int .i64 (n : Int)] ∧ Blk w gb 5 (byteCells buf).toArray ∧ buf.length = m ∧ 1 ≤ m ∧ m ≤ 4096 ∧ first < m ∧ n ≤ m
def Rg (w : World) (g gb m : Nat) (S : List UInt8) : Prop := ∃ first buf, RgAt w g gb m first S.length buf ∧ RgM buf first S.length = S
def RgF (g gb : Nat) (k : Nat) : Prop := k = g ∨ k = gb
def rgT (l : List UInt8) : ByteArray := ⟨l.toArray⟩
def clampT (x : Int) (m : Nat) : Nat := if x < 0 then 0 else if (m : Int) < x then m else x.toNat
end Go.Proofs.YtpkkfdmhbbipoaaGreat
