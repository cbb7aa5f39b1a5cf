/-
  No cell of these rows narrows 'for every input' (looked for: loops, veiled, ifaces, maps, wideKeys, modest, calm, conditions, laid).
  DERIVED. THE GIVEN ROWS OF THIS SEAT. 10 by the template 'for every input the law returns true; each argument reads behind the call as it read before'; 0 by the template 'total and deterministic' (their statements: YtgiffdgicmdmgaaTotals.lean).
  GIVEN WITH THE SEED: the statements are not yours to turn. If you find one false, say at which input.
  Laid BY PROGRAM, IN A SANDBOX (cutbox-rows.mjs): the forced cells as the released guide's own fill.sh prints them over the translation 5dbf3930ab300fa5… (all of the seat's roots in one cut). By AI agents, Wed Nov 11 2026. No macro, syntax, notation, axiom, sorry.
-/
import Derived.Test.YtgiffdgicmdmgaaChecked
import GoSem.Claim
import GoSem.ClaimJoined
import GoSem.ClaimMapViews
import Derived.JoinedTies
import Derived.KernelRfl
namespace Go.Proofs.Ytgiffdgicmdmgaa
/- THE CELL 'sum', in the pinned program and in every row, IS THE sha256 OF THE DUMP (.gsa) THAT YtgiffdgicmdmgaaProg.lean LOADS. Nothing in Lean hashes anything: it is a label: what it is worth is what the hold of that sum in a sandbox is worth. -/
noncomputable def Try.pinned : Pinned := { name := "ytgiffdgicmdmgaa", sum := "5dbf3930ab300fa50e1406c4f48b0786d20ba5904d545e58fdfb8758b176256a", checked := Try.checked }
namespace Rows
def none {H : Type} : Left H := { results := [], args := [] }

/-- 'reparteelaw10.ArmsMakes': WHATEVER THE INPUT: true; the input reads as it did. -/
def armsMakesSpec : ChangeSpec := { name := "armsMakes", fn := fun _ => fun
  | [d] => { results := [.lit (.bool true)], args := [d] }
  | _ => none }
def armsMakesRow : OpenClaim := { program := "ytgiffdgicmdmgaa", sum := "5dbf3930ab300fa50e1406c4f48b0786d20ba5904d545e58fdfb8758b176256a", func := "repartee/reparteelaw10.ArmsMakes", spec := "armsMakes", unfollowed := true, recurses := true, apart := false }
def ArmsMakesSaid : Prop := armsMakesRow.holds Try.pinned (OpenSpec.ofChange armsMakesSpec)

/-- ITS FALSE NEIGHBOUR: 'it returns false'. Refute it at one input. -/
def armsMakesWrong : ChangeSpec := { name := "armsMakes", fn := fun _ => fun
  | [d] => { results := [.lit (.bool false)], args := [d] }
  | _ => none }
def ArmsMakesWrongFalsely : Prop := armsMakesRow.holds Try.pinned (OpenSpec.ofChange armsMakesWrong)

/-- 'reparteelaw11.SpanTexts': WHATEVER THE INPUT: true; the input reads as it did. -/
def spanTextsSpec : ChangeSpec := { name := "spanTexts", fn := fun _ => fun
  | [d1, d2] => { results := [.lit (.bool true)], args := [d1, d2] }
  | _ => none }
def spanTextsRow : OpenClaim := { program := "ytgiffdgicmdmgaa", sum := "5dbf3930ab300fa50e1406c4f48b0786d20ba5904d545e58fdfb8758b176256a", func := "repartee/reparteelaw11.SpanTexts", spec := "spanTexts", unfollowed := true, recurses := true, apart := false }
def SpanTextsSaid : Prop := spanTextsRow.holds Try.pinned (OpenSpec.ofChange spanTextsSpec)

/-- ITS FALSE NEIGHBOUR: 'it returns false'. Refute it at one input. -/
def spanTextsWrong : ChangeSpec := { name := "spanTexts", fn := fun _ => fun
  | [d1, d2] => { results := [.lit (.bool false)], args := [d1, d2] }
  | _ => none }
def SpanTextsWrongFalsely : Prop := spanTextsRow.holds Try.pinned (OpenSpec.ofChange spanTextsWrong)

/-- 'reparteelaw11.SpanBack': WHATEVER THE INPUT: true; the input reads as it did. -/
def spanBackSpec : ChangeSpec := { name := "spanBack", fn := fun _ => fun
  | [d1, d2] => { results := [.lit (.bool true)], args := [d1, d2] }
  | _ => none }
def spanBackRow : OpenClaim := { program := "ytgiffdgicmdmgaa", sum := "5dbf3930ab300fa50e1406c4f48b0786d20ba5904d545e58fdfb8758b176256a", func := "repartee/reparteelaw11.SpanBack", spec := "spanBack", unfollowed := true, recurses := true, apart := false }
def SpanBackSaid : Prop := spanBackRow.holds Try.pinned (OpenSpec.ofChange spanBackSpec)

/-- ITS FALSE NEIGHBOUR: 'it returns false'. Refute it at one input. -/
def spanBackWrong : ChangeSpec := { name := "spanBack", fn := fun _ => fun
  | [d1, d2] => { results := [.lit (.bool false)], args := [d1, d2] }
  | _ => none }
def SpanBackWrongFalsely : Prop := spanBackRow.holds Try.pinned (OpenSpec.ofChange spanBackWrong)

/-- 'reparteelaw10.ArmsFinds': WHATEVER THE INPUT: true; the input reads as it did. -/
def armsFindsSpec : ChangeSpec := { name := "armsFinds", fn := fun _ => fun
  | [d1, d2, d3] => { results := [.lit (.bool true)], args := [d1, d2, d3] }
  | _ => none }
def armsFindsRow : OpenClaim := { program := "ytgiffdgicmdmgaa", sum := "5dbf3930ab300fa50e1406c4f48b0786d20ba5904d545e58fdfb8758b176256a", func := "repartee/reparteelaw10.ArmsFinds", spec := "armsFinds", unfollowed := true, recurses := true, apart := false }
def ArmsFindsSaid : Prop := armsFindsRow.holds Try.pinned (OpenSpec.ofChange armsFindsSpec)

/-- ITS FALSE NEIGHBOUR: 'it returns false'. Refute it at one input. -/
def armsFindsWrong : ChangeSpec := { name := "armsFinds", fn := fun _ => fun
  | [d1, d2, d3] => { results := [.lit (.bool false)], args := [d1, d2, d3] }
  | _ => none }
def ArmsFindsWrongFalsely : Prop := armsFindsRow.holds Try.pinned (OpenSpec.ofChange armsFindsWrong)

/-- 'reparteelaw11.SpanFinds': WHATEVER THE INPUT: true; the input reads as it did. -/
def spanFindsSpec : ChangeSpec := { name := "spanFinds", fn := fun _ => fun
  | [d1, d2, d3] => { results := [.lit (.bool true)], args := [d1, d2, d3] }
  | _ => none }
def spanFindsRow : OpenClaim := { program := "ytgiffdgicmdmgaa", sum := "5dbf3930ab300fa50e1406c4f48b0786d20ba5904d545e58fdfb8758b176256a", func := "repartee/reparteelaw11.SpanFinds", spec := "spanFinds", unfollowed := true, recurses := true, apart := false }
def SpanFindsSaid : Prop := spanFindsRow.holds Try.pinned (OpenSpec.ofChange spanFindsSpec)

/-- ITS FALSE NEIGHBOUR: 'it returns false'. Refute it at one input. -/
def spanFindsWrong : ChangeSpec := { name := "spanFinds", fn := fun _ => fun
  | [d1, d2, d3] => { results := [.lit (.bool false)], args := [d1, d2, d3] }
  | _ => none }
def SpanFindsWrongFalsely : Prop := spanFindsRow.holds Try.pinned (OpenSpec.ofChange spanFindsWrong)

/-- 'reparteelaw10.ArmsFeeds': WHATEVER THE INPUT: true; the input reads as it did. -/
def armsFeedsSpec : ChangeSpec := { name := "armsFeeds", fn := fun _ => fun
  | [d1, d2, d3] => { results := [.lit (.bool true)], args := [d1, d2, d3] }
  | _ => none }
def armsFeedsRow : OpenClaim := { program := "ytgiffdgicmdmgaa", sum := "5dbf3930ab300fa50e1406c4f48b0786d20ba5904d545e58fdfb8758b176256a", func := "repartee/reparteelaw10.ArmsFeeds", spec := "armsFeeds", unfollowed := true, recurses := true, apart := false }
def ArmsFeedsSaid : Prop := armsFeedsRow.holds Try.pinned (OpenSpec.ofChange armsFeedsSpec)

/-- ITS FALSE NEIGHBOUR: 'it returns false'. Refute it at one input. -/
def armsFeedsWrong : ChangeSpec := { name := "armsFeeds", fn := fun _ => fun
  | [d1, d2, d3] => { results := [.lit (.bool false)], args := [d1, d2, d3] }
  | _ => none }
def ArmsFeedsWrongFalsely : Prop := armsFeedsRow.holds Try.pinned (OpenSpec.ofChange armsFeedsWrong)

/-- 'reparteelaw10.ArmsNil': WHATEVER THE INPUT: true; the input reads as it did. -/
def armsNilSpec : ChangeSpec := { name := "armsNil", fn := fun _ => fun
  | [d1, d2] => { results := [.lit (.bool true)], args := [d1, d2] }
  | _ => none }
def armsNilRow : OpenClaim := { program := "ytgiffdgicmdmgaa", sum := "5dbf3930ab300fa50e1406c4f48b0786d20ba5904d545e58fdfb8758b176256a", func := "repartee/reparteelaw10.ArmsNil", spec := "armsNil", unfollowed := true, recurses := true, apart := false }
def ArmsNilSaid : Prop := armsNilRow.holds Try.pinned (OpenSpec.ofChange armsNilSpec)

/-- ITS FALSE NEIGHBOUR: 'it returns false'. Refute it at one input. -/
def armsNilWrong : ChangeSpec := { name := "armsNil", fn := fun _ => fun
  | [d1, d2] => { results := [.lit (.bool false)], args := [d1, d2] }
  | _ => none }
def ArmsNilWrongFalsely : Prop := armsNilRow.holds Try.pinned (OpenSpec.ofChange armsNilWrong)

/-- 'reparteelaw07.GlobParses': WHATEVER THE INPUT: true; the input reads as it did. -/
def globParsesSpec : ChangeSpec := { name := "globParses", fn := fun _ => fun
  | [d] => { results := [.lit (.bool true)], args := [d] }
  | _ => none }
def globParsesRow : OpenClaim := { program := "ytgiffdgicmdmgaa", sum := "5dbf3930ab300fa50e1406c4f48b0786d20ba5904d545e58fdfb8758b176256a", func := "repartee/reparteelaw07.GlobParses", spec := "globParses", inPlace := ["internal/abi.NoEscape"], unfollowed := true, recurses := true, apart := false }
def GlobParsesSaid : Prop := globParsesRow.holds Try.pinned (OpenSpec.ofChange globParsesSpec)

/-- ITS FALSE NEIGHBOUR: 'it returns false'. Refute it at one input. -/
def globParsesWrong : ChangeSpec := { name := "globParses", fn := fun _ => fun
  | [d] => { results := [.lit (.bool false)], args := [d] }
  | _ => none }
def GlobParsesWrongFalsely : Prop := globParsesRow.holds Try.pinned (OpenSpec.ofChange globParsesWrong)

/-- 'reparteelaw07.GlobPlain': WHATEVER THE INPUT: true; the input reads as it did. -/
def globPlainSpec : ChangeSpec := { name := "globPlain", fn := fun _ => fun
  | [d] => { results := [.lit (.bool true)], args := [d] }
  | _ => none }
def globPlainRow : OpenClaim := { program := "ytgiffdgicmdmgaa", sum := "5dbf3930ab300fa50e1406c4f48b0786d20ba5904d545e58fdfb8758b176256a", func := "repartee/reparteelaw07.GlobPlain", spec := "globPlain", inPlace := ["internal/abi.NoEscape"], unfollowed := true, recurses := true, apart := false }
def GlobPlainSaid : Prop := globPlainRow.holds Try.pinned (OpenSpec.ofChange globPlainSpec)

/-- ITS FALSE NEIGHBOUR: 'it returns false'. Refute it at one input. -/
def globPlainWrong : ChangeSpec := { name := "globPlain", fn := fun _ => fun
  | [d] => { results := [.lit (.bool false)], args := [d] }
  | _ => none }
def GlobPlainWrongFalsely : Prop := globPlainRow.holds Try.pinned (OpenSpec.ofChange globPlainWrong)

/-- 'reparteelaw07.GlobPrints': WHATEVER THE INPUT: true; the input reads as it did. -/
def globPrintsSpec : ChangeSpec := { name := "globPrints", fn := fun _ => fun
  | [d1, d2] => { results := [.lit (.bool true)], args := [d1, d2] }
  | _ => none }
def globPrintsRow : OpenClaim := { program := "ytgiffdgicmdmgaa", sum := "5dbf3930ab300fa50e1406c4f48b0786d20ba5904d545e58fdfb8758b176256a", func := "repartee/reparteelaw07.GlobPrints", spec := "globPrints", inPlace := ["internal/abi.NoEscape"], unfollowed := true, recurses := true, apart := false }
def GlobPrintsSaid : Prop := globPrintsRow.holds Try.pinned (OpenSpec.ofChange globPrintsSpec)

/-- ITS FALSE NEIGHBOUR: 'it returns false'. Refute it at one input. -/
def globPrintsWrong : ChangeSpec := { name := "globPrints", fn := fun _ => fun
  | [d1, d2] => { results := [.lit (.bool false)], args := [d1, d2] }
  | _ => none }
def GlobPrintsWrongFalsely : Prop := globPrintsRow.holds Try.pinned (OpenSpec.ofChange globPrintsWrong)

/- THE SECOND FORM. 'bulk': how many values and letters a reading holds, each counted each time it is reached (what is shared counts as often as it is met; a slice's spare places count too). A statement '..UptoSaid' is the law's where the arguments, and the package variables that the reading takes, are together of bulk at most 1048576: NARROWER than '..Said'. Prove '..Said' where nothing that the law and all that it calls make is longer than what came in: it says more and counts as full. Else prove '..UptoSaid'. A law counts once. -/
mutual
def uptoBulk {H : Type} : DataW H → Nat
  | .lit (.string bytes) => bytes.length + 1
  | .lit _ => 1
  | .nil => 1
  | .ptr d => uptoBulk d + 1
  | .slice elems spare => uptoBulkAll elems + uptoBulkAll spare + 1
  | .agg parts => uptoBulkAll parts + 1
  | .iface _ d => uptoBulk d + 1
  | .map entries => uptoBulkEntries entries + 1
  | .held _ => 1
def uptoBulkAll {H : Type} : List (DataW H) → Nat
  | [] => 0
  | d :: r => uptoBulk d + uptoBulkAll r
def uptoBulkEntries {H : Type} : List (Lit × DataW H) → Nat
  | [] => 0
  | x :: r => uptoBulkEntry x + uptoBulkEntries r
def uptoBulkEntry {H : Type} : Lit × DataW H → Nat
  | (.string bytes, d) => bytes.length + uptoBulk d + 1
  | (_, d) => uptoBulk d + 1
 end
def uptoSmall : (H : Type) → List (DataW H) → Bool := fun _ ds => decide (uptoBulkAll ds ≤ 1048576)
def OpenSpec.upto (s : _root_.Go.ChangeSpec) : _root_.Go.OpenSpec := { _root_.Go.OpenSpec.ofChange s with cond := some uptoSmall }

/-- 'reparteelaw10.ArmsMakes', WHERE WHAT IT READS IS OF BULK AT MOST 1048576: true; the input reads as it did. -/
def armsMakesUptoRow : OpenClaim := { program := "ytgiffdgicmdmgaa", sum := "5dbf3930ab300fa50e1406c4f48b0786d20ba5904d545e58fdfb8758b176256a", func := "repartee/reparteelaw10.ArmsMakes", spec := "armsMakes", unfollowed := true, recurses := true, apart := false, narrowed := true }
def ArmsMakesUptoSaid : Prop := armsMakesUptoRow.holds Try.pinned (OpenSpec.upto armsMakesSpec)

/-- 'reparteelaw11.SpanTexts', WHERE WHAT IT READS IS OF BULK AT MOST 1048576: true; the input reads as it did. -/
def spanTextsUptoRow : OpenClaim := { program := "ytgiffdgicmdmgaa", sum := "5dbf3930ab300fa50e1406c4f48b0786d20ba5904d545e58fdfb8758b176256a", func := "repartee/reparteelaw11.SpanTexts", spec := "spanTexts", unfollowed := true, recurses := true, apart := false, narrowed := true }
def SpanTextsUptoSaid : Prop := spanTextsUptoRow.holds Try.pinned (OpenSpec.upto spanTextsSpec)

/-- 'reparteelaw11.SpanBack', WHERE WHAT IT READS IS OF BULK AT MOST 1048576: true; the input reads as it did. -/
def spanBackUptoRow : OpenClaim := { program := "ytgiffdgicmdmgaa", sum := "5dbf3930ab300fa50e1406c4f48b0786d20ba5904d545e58fdfb8758b176256a", func := "repartee/reparteelaw11.SpanBack", spec := "spanBack", unfollowed := true, recurses := true, apart := false, narrowed := true }
def SpanBackUptoSaid : Prop := spanBackUptoRow.holds Try.pinned (OpenSpec.upto spanBackSpec)

/-- 'reparteelaw10.ArmsFinds', WHERE WHAT IT READS IS OF BULK AT MOST 1048576: true; the input reads as it did. -/
def armsFindsUptoRow : OpenClaim := { program := "ytgiffdgicmdmgaa", sum := "5dbf3930ab300fa50e1406c4f48b0786d20ba5904d545e58fdfb8758b176256a", func := "repartee/reparteelaw10.ArmsFinds", spec := "armsFinds", unfollowed := true, recurses := true, apart := false, narrowed := true }
def ArmsFindsUptoSaid : Prop := armsFindsUptoRow.holds Try.pinned (OpenSpec.upto armsFindsSpec)

/-- 'reparteelaw11.SpanFinds', WHERE WHAT IT READS IS OF BULK AT MOST 1048576: true; the input reads as it did. -/
def spanFindsUptoRow : OpenClaim := { program := "ytgiffdgicmdmgaa", sum := "5dbf3930ab300fa50e1406c4f48b0786d20ba5904d545e58fdfb8758b176256a", func := "repartee/reparteelaw11.SpanFinds", spec := "spanFinds", unfollowed := true, recurses := true, apart := false, narrowed := true }
def SpanFindsUptoSaid : Prop := spanFindsUptoRow.holds Try.pinned (OpenSpec.upto spanFindsSpec)

/-- 'reparteelaw10.ArmsFeeds', WHERE WHAT IT READS IS OF BULK AT MOST 1048576: true; the input reads as it did. -/
def armsFeedsUptoRow : OpenClaim := { program := "ytgiffdgicmdmgaa", sum := "5dbf3930ab300fa50e1406c4f48b0786d20ba5904d545e58fdfb8758b176256a", func := "repartee/reparteelaw10.ArmsFeeds", spec := "armsFeeds", unfollowed := true, recurses := true, apart := false, narrowed := true }
def ArmsFeedsUptoSaid : Prop := armsFeedsUptoRow.holds Try.pinned (OpenSpec.upto armsFeedsSpec)

/-- 'reparteelaw10.ArmsNil', WHERE WHAT IT READS IS OF BULK AT MOST 1048576: true; the input reads as it did. -/
def armsNilUptoRow : OpenClaim := { program := "ytgiffdgicmdmgaa", sum := "5dbf3930ab300fa50e1406c4f48b0786d20ba5904d545e58fdfb8758b176256a", func := "repartee/reparteelaw10.ArmsNil", spec := "armsNil", unfollowed := true, recurses := true, apart := false, narrowed := true }
def ArmsNilUptoSaid : Prop := armsNilUptoRow.holds Try.pinned (OpenSpec.upto armsNilSpec)

/-- 'reparteelaw07.GlobParses', WHERE WHAT IT READS IS OF BULK AT MOST 1048576: true; the input reads as it did. -/
def globParsesUptoRow : OpenClaim := { program := "ytgiffdgicmdmgaa", sum := "5dbf3930ab300fa50e1406c4f48b0786d20ba5904d545e58fdfb8758b176256a", func := "repartee/reparteelaw07.GlobParses", spec := "globParses", inPlace := ["internal/abi.NoEscape"], unfollowed := true, recurses := true, apart := false, narrowed := true }
def GlobParsesUptoSaid : Prop := globParsesUptoRow.holds Try.pinned (OpenSpec.upto globParsesSpec)

/-- 'reparteelaw07.GlobPlain', WHERE WHAT IT READS IS OF BULK AT MOST 1048576: true; the input reads as it did. -/
def globPlainUptoRow : OpenClaim := { program := "ytgiffdgicmdmgaa", sum := "5dbf3930ab300fa50e1406c4f48b0786d20ba5904d545e58fdfb8758b176256a", func := "repartee/reparteelaw07.GlobPlain", spec := "globPlain", inPlace := ["internal/abi.NoEscape"], unfollowed := true, recurses := true, apart := false, narrowed := true }
def GlobPlainUptoSaid : Prop := globPlainUptoRow.holds Try.pinned (OpenSpec.upto globPlainSpec)

/-- 'reparteelaw07.GlobPrints', WHERE WHAT IT READS IS OF BULK AT MOST 1048576: true; the input reads as it did. -/
def globPrintsUptoRow : OpenClaim := { program := "ytgiffdgicmdmgaa", sum := "5dbf3930ab300fa50e1406c4f48b0786d20ba5904d545e58fdfb8758b176256a", func := "repartee/reparteelaw07.GlobPrints", spec := "globPrints", inPlace := ["internal/abi.NoEscape"], unfollowed := true, recurses := true, apart := false, narrowed := true }
def GlobPrintsUptoSaid : Prop := globPrintsUptoRow.holds Try.pinned (OpenSpec.upto globPrintsSpec)

end Rows
end Go.Proofs.Ytgiffdgicmdmgaa
