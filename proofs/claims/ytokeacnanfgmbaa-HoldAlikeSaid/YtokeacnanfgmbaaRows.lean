/-
  No cell of these rows narrows 'for every input' (looked for: loops, veiled, ifaces, maps, wideKeys, modest, calm, conditions, laid).
  DERIVED. THE GIVEN ROWS OF THIS SEAT. 8 by the template 'for every input the law returns true; each argument reads behind the call as it read before'; 0 by the template 'total and deterministic' (their statements: YtokeacnanfgmbaaTotals.lean).
  GIVEN WITH THE SEED: the statements are not yours to turn. If you find one false, say at which input.
  Laid BY PROGRAM, IN A SANDBOX (cutbox-rows.mjs): the forced cells as the released guide's own fill.sh prints them over the translation 8011527d2c6c14fe… (all of the seat's roots in one cut). By AI agents, Wed Nov 11 2026. No macro, syntax, notation, axiom, sorry.
-/
import Derived.Test.YtokeacnanfgmbaaChecked
import GoSem.Claim
import GoSem.ClaimJoined
import GoSem.ClaimMapViews
import Derived.JoinedTies
import Derived.KernelRfl
namespace Go.Proofs.Ytokeacnanfgmbaa
/- THE CELL 'sum', in the pinned program and in every row, IS THE sha256 OF THE DUMP (.gsa) THAT YtokeacnanfgmbaaProg.lean LOADS. Nothing in Lean hashes anything: it is a label: what it is worth is what the hold of that sum in a sandbox is worth. -/
noncomputable def Try.pinned : Pinned := { name := "ytokeacnanfgmbaa", sum := "8011527d2c6c14fe8c5d2b7b5795804281268ebabb47ea069915482ac00a6040", checked := Try.checked }
namespace Rows
def none {H : Type} : Left H := { results := [], args := [] }

/-- 'reparteelaw13.ProgLong': WHATEVER THE INPUT: true; the input reads as it did. -/
def progLongSpec : ChangeSpec := { name := "progLong", fn := fun _ => fun
  | [d] => { results := [.lit (.bool true)], args := [d] }
  | _ => none }
def progLongRow : OpenClaim := { program := "ytokeacnanfgmbaa", sum := "8011527d2c6c14fe8c5d2b7b5795804281268ebabb47ea069915482ac00a6040", func := "repartee/reparteelaw13.ProgLong", spec := "progLong", unfollowed := true, recurses := true, apart := false }
def ProgLongSaid : Prop := progLongRow.holds Try.pinned (OpenSpec.ofChange progLongSpec)

/-- ITS FALSE NEIGHBOUR: 'it returns false'. Refute it at one input. -/
def progLongWrong : ChangeSpec := { name := "progLong", fn := fun _ => fun
  | [d] => { results := [.lit (.bool false)], args := [d] }
  | _ => none }
def ProgLongWrongFalsely : Prop := progLongRow.holds Try.pinned (OpenSpec.ofChange progLongWrong)

/-- 'reparteelaw13.ProgFirst': WHATEVER THE INPUT: true; the input reads as it did. -/
def progFirstSpec : ChangeSpec := { name := "progFirst", fn := fun _ => fun
  | [d1, d2] => { results := [.lit (.bool true)], args := [d1, d2] }
  | _ => none }
def progFirstRow : OpenClaim := { program := "ytokeacnanfgmbaa", sum := "8011527d2c6c14fe8c5d2b7b5795804281268ebabb47ea069915482ac00a6040", func := "repartee/reparteelaw13.ProgFirst", spec := "progFirst", unfollowed := true, recurses := true, apart := false }
def ProgFirstSaid : Prop := progFirstRow.holds Try.pinned (OpenSpec.ofChange progFirstSpec)

/-- ITS FALSE NEIGHBOUR: 'it returns false'. Refute it at one input. -/
def progFirstWrong : ChangeSpec := { name := "progFirst", fn := fun _ => fun
  | [d1, d2] => { results := [.lit (.bool false)], args := [d1, d2] }
  | _ => none }
def ProgFirstWrongFalsely : Prop := progFirstRow.holds Try.pinned (OpenSpec.ofChange progFirstWrong)

/-- 'reparteelaw13.ProgSame': WHATEVER THE INPUT: true; the input reads as it did. -/
def progSameSpec : ChangeSpec := { name := "progSame", fn := fun _ => fun
  | [d1, d2, d3] => { results := [.lit (.bool true)], args := [d1, d2, d3] }
  | _ => none }
def progSameRow : OpenClaim := { program := "ytokeacnanfgmbaa", sum := "8011527d2c6c14fe8c5d2b7b5795804281268ebabb47ea069915482ac00a6040", func := "repartee/reparteelaw13.ProgSame", spec := "progSame", unfollowed := true, recurses := true, apart := false }
def ProgSameSaid : Prop := progSameRow.holds Try.pinned (OpenSpec.ofChange progSameSpec)

/-- ITS FALSE NEIGHBOUR: 'it returns false'. Refute it at one input. -/
def progSameWrong : ChangeSpec := { name := "progSame", fn := fun _ => fun
  | [d1, d2, d3] => { results := [.lit (.bool false)], args := [d1, d2, d3] }
  | _ => none }
def ProgSameWrongFalsely : Prop := progSameRow.holds Try.pinned (OpenSpec.ofChange progSameWrong)

/-- 'reparteelaw19.HoldAlike': WHATEVER THE INPUT: true; the input reads as it did. -/
def holdAlikeSpec : ChangeSpec := { name := "holdAlike", fn := fun _ => fun
  | [d1, d2, d3] => { results := [.lit (.bool true)], args := [d1, d2, d3] }
  | _ => none }
def holdAlikeRow : OpenClaim := { program := "ytokeacnanfgmbaa", sum := "8011527d2c6c14fe8c5d2b7b5795804281268ebabb47ea069915482ac00a6040", func := "repartee/reparteelaw19.HoldAlike", spec := "holdAlike", unfollowed := true, recurses := true, apart := false }
def HoldAlikeSaid : Prop := holdAlikeRow.holds Try.pinned (OpenSpec.ofChange holdAlikeSpec)

/-- ITS FALSE NEIGHBOUR: 'it returns false'. Refute it at one input. -/
def holdAlikeWrong : ChangeSpec := { name := "holdAlike", fn := fun _ => fun
  | [d1, d2, d3] => { results := [.lit (.bool false)], args := [d1, d2, d3] }
  | _ => none }
def HoldAlikeWrongFalsely : Prop := holdAlikeRow.holds Try.pinned (OpenSpec.ofChange holdAlikeWrong)

/-- 'reparteelaw19.HoldFinds': WHATEVER THE INPUT: true; the input reads as it did. -/
def holdFindsSpec : ChangeSpec := { name := "holdFinds", fn := fun _ => fun
  | [d1, d2, d3] => { results := [.lit (.bool true)], args := [d1, d2, d3] }
  | _ => none }
def holdFindsRow : OpenClaim := { program := "ytokeacnanfgmbaa", sum := "8011527d2c6c14fe8c5d2b7b5795804281268ebabb47ea069915482ac00a6040", func := "repartee/reparteelaw19.HoldFinds", spec := "holdFinds", unfollowed := true, recurses := true, apart := false }
def HoldFindsSaid : Prop := holdFindsRow.holds Try.pinned (OpenSpec.ofChange holdFindsSpec)

/-- ITS FALSE NEIGHBOUR: 'it returns false'. Refute it at one input. -/
def holdFindsWrong : ChangeSpec := { name := "holdFinds", fn := fun _ => fun
  | [d1, d2, d3] => { results := [.lit (.bool false)], args := [d1, d2, d3] }
  | _ => none }
def HoldFindsWrongFalsely : Prop := holdFindsRow.holds Try.pinned (OpenSpec.ofChange holdFindsWrong)

/-- 'reparteelaw19.HoldPlays': WHATEVER THE INPUT: true; the input reads as it did. -/
def holdPlaysSpec : ChangeSpec := { name := "holdPlays", fn := fun _ => fun
  | [d] => { results := [.lit (.bool true)], args := [d] }
  | _ => none }
def holdPlaysRow : OpenClaim := { program := "ytokeacnanfgmbaa", sum := "8011527d2c6c14fe8c5d2b7b5795804281268ebabb47ea069915482ac00a6040", func := "repartee/reparteelaw19.HoldPlays", spec := "holdPlays", unfollowed := true, recurses := true, apart := false }
def HoldPlaysSaid : Prop := holdPlaysRow.holds Try.pinned (OpenSpec.ofChange holdPlaysSpec)

/-- ITS FALSE NEIGHBOUR: 'it returns false'. Refute it at one input. -/
def holdPlaysWrong : ChangeSpec := { name := "holdPlays", fn := fun _ => fun
  | [d] => { results := [.lit (.bool false)], args := [d] }
  | _ => none }
def HoldPlaysWrongFalsely : Prop := holdPlaysRow.holds Try.pinned (OpenSpec.ofChange holdPlaysWrong)

/-- 'reparteelaw19.HoldCopies': WHATEVER THE INPUT: true; the input reads as it did. -/
def holdCopiesSpec : ChangeSpec := { name := "holdCopies", fn := fun _ => fun
  | [d1, d2, d3] => { results := [.lit (.bool true)], args := [d1, d2, d3] }
  | _ => none }
def holdCopiesRow : OpenClaim := { program := "ytokeacnanfgmbaa", sum := "8011527d2c6c14fe8c5d2b7b5795804281268ebabb47ea069915482ac00a6040", func := "repartee/reparteelaw19.HoldCopies", spec := "holdCopies", unfollowed := true, recurses := true, apart := false }
def HoldCopiesSaid : Prop := holdCopiesRow.holds Try.pinned (OpenSpec.ofChange holdCopiesSpec)

/-- ITS FALSE NEIGHBOUR: 'it returns false'. Refute it at one input. -/
def holdCopiesWrong : ChangeSpec := { name := "holdCopies", fn := fun _ => fun
  | [d1, d2, d3] => { results := [.lit (.bool false)], args := [d1, d2, d3] }
  | _ => none }
def HoldCopiesWrongFalsely : Prop := holdCopiesRow.holds Try.pinned (OpenSpec.ofChange holdCopiesWrong)

/-- 'reparteelaw19.HoldNil': WHATEVER THE INPUT: true; the input reads as it did. -/
def holdNilSpec : ChangeSpec := { name := "holdNil", fn := fun _ => fun
  | [d1, d2] => { results := [.lit (.bool true)], args := [d1, d2] }
  | _ => none }
def holdNilRow : OpenClaim := { program := "ytokeacnanfgmbaa", sum := "8011527d2c6c14fe8c5d2b7b5795804281268ebabb47ea069915482ac00a6040", func := "repartee/reparteelaw19.HoldNil", spec := "holdNil", unfollowed := true, recurses := true, apart := false }
def HoldNilSaid : Prop := holdNilRow.holds Try.pinned (OpenSpec.ofChange holdNilSpec)

/-- ITS FALSE NEIGHBOUR: 'it returns false'. Refute it at one input. -/
def holdNilWrong : ChangeSpec := { name := "holdNil", fn := fun _ => fun
  | [d1, d2] => { results := [.lit (.bool false)], args := [d1, d2] }
  | _ => none }
def HoldNilWrongFalsely : Prop := holdNilRow.holds Try.pinned (OpenSpec.ofChange holdNilWrong)

/- THE SECOND FORM. 'bulk': how many values and letters a reading holds, each counted each time it is reached (what is shared counts as often as it is met; a slice's spare places count too). A statement '..UptoSaid' is the law's where the arguments, and the package variables that the reading takes, are together of bulk at most 1048576: NARROWER than '..Said'. Prove '..Said' where nothing that the law and all that it calls make is longer than what came in: it says more and counts as full. Else prove '..UptoSaid'. A law counts once. -/
mutual
def uptoBulk {H : Type} : DataW H → Nat
  | .lit (.string bytes) => bytes.length + 1
  | .lit _ => 1
  | .nil => 1
  | .ptr d => uptoBulk d + 1
  | .slice elems spare => uptoBulkAll elems + uptoBulkAll spare + 1
  | .agg parts => uptoBulkAll parts + 1
  | .iface _ d => uptoBulk d + 1
  | .map entries => uptoBulkEntries entries + 1
  | .held _ => 1
def uptoBulkAll {H : Type} : List (DataW H) → Nat
  | [] => 0
  | d :: r => uptoBulk d + uptoBulkAll r
def uptoBulkEntries {H : Type} : List (Lit × DataW H) → Nat
  | [] => 0
  | x :: r => uptoBulkEntry x + uptoBulkEntries r
def uptoBulkEntry {H : Type} : Lit × DataW H → Nat
  | (.string bytes, d) => bytes.length + uptoBulk d + 1
  | (_, d) => uptoBulk d + 1
 end
def uptoSmall : (H : Type) → List (DataW H) → Bool := fun _ ds => decide (uptoBulkAll ds ≤ 1048576)
def OpenSpec.upto (s : _root_.Go.ChangeSpec) : _root_.Go.OpenSpec := { _root_.Go.OpenSpec.ofChange s with cond := some uptoSmall }

/-- 'reparteelaw13.ProgLong', WHERE WHAT IT READS IS OF BULK AT MOST 1048576: true; the input reads as it did. -/
def progLongUptoRow : OpenClaim := { program := "ytokeacnanfgmbaa", sum := "8011527d2c6c14fe8c5d2b7b5795804281268ebabb47ea069915482ac00a6040", func := "repartee/reparteelaw13.ProgLong", spec := "progLong", unfollowed := true, recurses := true, apart := false, narrowed := true }
def ProgLongUptoSaid : Prop := progLongUptoRow.holds Try.pinned (OpenSpec.upto progLongSpec)

/-- 'reparteelaw13.ProgFirst', WHERE WHAT IT READS IS OF BULK AT MOST 1048576: true; the input reads as it did. -/
def progFirstUptoRow : OpenClaim := { program := "ytokeacnanfgmbaa", sum := "8011527d2c6c14fe8c5d2b7b5795804281268ebabb47ea069915482ac00a6040", func := "repartee/reparteelaw13.ProgFirst", spec := "progFirst", unfollowed := true, recurses := true, apart := false, narrowed := true }
def ProgFirstUptoSaid : Prop := progFirstUptoRow.holds Try.pinned (OpenSpec.upto progFirstSpec)

/-- 'reparteelaw13.ProgSame', WHERE WHAT IT READS IS OF BULK AT MOST 1048576: true; the input reads as it did. -/
def progSameUptoRow : OpenClaim := { program := "ytokeacnanfgmbaa", sum := "8011527d2c6c14fe8c5d2b7b5795804281268ebabb47ea069915482ac00a6040", func := "repartee/reparteelaw13.ProgSame", spec := "progSame", unfollowed := true, recurses := true, apart := false, narrowed := true }
def ProgSameUptoSaid : Prop := progSameUptoRow.holds Try.pinned (OpenSpec.upto progSameSpec)

/-- 'reparteelaw19.HoldAlike', WHERE WHAT IT READS IS OF BULK AT MOST 1048576: true; the input reads as it did. -/
def holdAlikeUptoRow : OpenClaim := { program := "ytokeacnanfgmbaa", sum := "8011527d2c6c14fe8c5d2b7b5795804281268ebabb47ea069915482ac00a6040", func := "repartee/reparteelaw19.HoldAlike", spec := "holdAlike", unfollowed := true, recurses := true, apart := false, narrowed := true }
def HoldAlikeUptoSaid : Prop := holdAlikeUptoRow.holds Try.pinned (OpenSpec.upto holdAlikeSpec)

/-- 'reparteelaw19.HoldFinds', WHERE WHAT IT READS IS OF BULK AT MOST 1048576: true; the input reads as it did. -/
def holdFindsUptoRow : OpenClaim := { program := "ytokeacnanfgmbaa", sum := "8011527d2c6c14fe8c5d2b7b5795804281268ebabb47ea069915482ac00a6040", func := "repartee/reparteelaw19.HoldFinds", spec := "holdFinds", unfollowed := true, recurses := true, apart := false, narrowed := true }
def HoldFindsUptoSaid : Prop := holdFindsUptoRow.holds Try.pinned (OpenSpec.upto holdFindsSpec)

/-- 'reparteelaw19.HoldPlays', WHERE WHAT IT READS IS OF BULK AT MOST 1048576: true; the input reads as it did. -/
def holdPlaysUptoRow : OpenClaim := { program := "ytokeacnanfgmbaa", sum := "8011527d2c6c14fe8c5d2b7b5795804281268ebabb47ea069915482ac00a6040", func := "repartee/reparteelaw19.HoldPlays", spec := "holdPlays", unfollowed := true, recurses := true, apart := false, narrowed := true }
def HoldPlaysUptoSaid : Prop := holdPlaysUptoRow.holds Try.pinned (OpenSpec.upto holdPlaysSpec)

/-- 'reparteelaw19.HoldCopies', WHERE WHAT IT READS IS OF BULK AT MOST 1048576: true; the input reads as it did. -/
def holdCopiesUptoRow : OpenClaim := { program := "ytokeacnanfgmbaa", sum := "8011527d2c6c14fe8c5d2b7b5795804281268ebabb47ea069915482ac00a6040", func := "repartee/reparteelaw19.HoldCopies", spec := "holdCopies", unfollowed := true, recurses := true, apart := false, narrowed := true }
def HoldCopiesUptoSaid : Prop := holdCopiesUptoRow.holds Try.pinned (OpenSpec.upto holdCopiesSpec)

/-- 'reparteelaw19.HoldNil', WHERE WHAT IT READS IS OF BULK AT MOST 1048576: true; the input reads as it did. -/
def holdNilUptoRow : OpenClaim := { program := "ytokeacnanfgmbaa", sum := "8011527d2c6c14fe8c5d2b7b5795804281268ebabb47ea069915482ac00a6040", func := "repartee/reparteelaw19.HoldNil", spec := "holdNil", unfollowed := true, recurses := true, apart := false, narrowed := true }
def HoldNilUptoSaid : Prop := holdNilUptoRow.holds Try.pinned (OpenSpec.upto holdNilSpec)

end Rows
end Go.Proofs.Ytokeacnanfgmbaa
