/- The walk of a window's look. -/
import Derived.Test.YtpkkfdmhbbipoaaGreatPh
namespace Go.Proofs.YtpkkfdmhbbipoaaGreat
open Go.RowKit PopT
def foundV (mt fl : Bool) (arm gone rd : Nat) : Value := .agg #[.bool mt, .bool fl, .int .i64 (arm : Int), .int .i64 (gone : Int), .int .i64 (rd : Int)]
def set5 (w : World) (g : Nat) (a b c d e : Value) : World := ((((w.setCell ⟨g, 0, none⟩ a).setCell ⟨g, 1, none⟩ b).setCell ⟨g, 2, none⟩ c).setCell ⟨g, 3, none⟩ d).setCell ⟨g, 4, none⟩ e
def lookMeas (w : World) (h g : Nat) : Nat :=
 (match w.cell? ⟨g, 2, none⟩ with | some (.int _ n) => n.toNat | _ => 0) + ((match w.cell? ⟨h, 1, none⟩ with | some (.slice _ n _) => n | _ => 0) - (match w.cell? ⟨h, 2, none⟩ with | some (.int _ s) => s.toNat | _ => 0))
end Go.Proofs.YtpkkfdmhbbipoaaGreat
