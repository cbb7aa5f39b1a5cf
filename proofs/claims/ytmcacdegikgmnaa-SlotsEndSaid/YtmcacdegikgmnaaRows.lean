/-
  No cell of these rows narrows 'for every input' (looked for: loops, veiled, ifaces, maps, wideKeys, modest, calm, conditions, laid).
  DERIVED. THE GIVEN ROWS OF THIS SEAT. 9 by the template 'for every input the law returns true; each argument reads behind the call as it read before'; 0 by the template 'total and deterministic' (their statements: YtmcacdegikgmnaaTotals.lean).
  GIVEN WITH THE SEED: the statements are not yours to turn. If you find one false, say at which input.
  Laid BY PROGRAM, IN A SANDBOX (cutbox-rows.mjs): the forced cells as the released guide's own fill.sh prints them over the translation 84439d9cb81e6659… (all of the seat's roots in one cut). By AI agents, Wed Nov 11 2026. No macro, syntax, notation, axiom, sorry.
-/
import Derived.Test.YtmcacdegikgmnaaChecked
import GoSem.Claim
import GoSem.ClaimJoined
import GoSem.ClaimMapViews
import Derived.JoinedTies
import Derived.KernelRfl
namespace Go.Proofs.Ytmcacdegikgmnaa
/- THE CELL 'sum', in the pinned program and in every row, IS THE sha256 OF THE DUMP (.gsa) THAT YtmcacdegikgmnaaProg.lean LOADS. Nothing in Lean hashes anything: it is a label: what it is worth is what the hold of that sum in a sandbox is worth. -/
noncomputable def Try.pinned : Pinned := { name := "ytmcacdegikgmnaa", sum := "84439d9cb81e6659b62f86d91025edf0149c03d07d30091d24f62047979c28ea", checked := Try.checked }
namespace Rows
def none {H : Type} : Left H := { results := [], args := [] }

/-- 'reparteelaw08.LangJoins': WHATEVER THE INPUT: true; the input reads as it did. -/
def langJoinsSpec : ChangeSpec := { name := "langJoins", fn := fun _ => fun
  | [d1, d2, d3] => { results := [.lit (.bool true)], args := [d1, d2, d3] }
  | _ => none }
def langJoinsRow : OpenClaim := { program := "ytmcacdegikgmnaa", sum := "84439d9cb81e6659b62f86d91025edf0149c03d07d30091d24f62047979c28ea", func := "repartee/reparteelaw08.LangJoins", spec := "langJoins", apart := false }
def LangJoinsSaid : Prop := langJoinsRow.holds Try.pinned (OpenSpec.ofChange langJoinsSpec)

/-- ITS FALSE NEIGHBOUR: 'it returns false'. Refute it at one input. -/
def langJoinsWrong : ChangeSpec := { name := "langJoins", fn := fun _ => fun
  | [d1, d2, d3] => { results := [.lit (.bool false)], args := [d1, d2, d3] }
  | _ => none }
def LangJoinsWrongFalsely : Prop := langJoinsRow.holds Try.pinned (OpenSpec.ofChange langJoinsWrong)

/-- 'reparteelaw08.LangStays': WHATEVER THE INPUT: true; the input reads as it did. -/
def langStaysSpec : ChangeSpec := { name := "langStays", fn := fun _ => fun
  | [d1, d2, d3] => { results := [.lit (.bool true)], args := [d1, d2, d3] }
  | _ => none }
def langStaysRow : OpenClaim := { program := "ytmcacdegikgmnaa", sum := "84439d9cb81e6659b62f86d91025edf0149c03d07d30091d24f62047979c28ea", func := "repartee/reparteelaw08.LangStays", spec := "langStays", apart := false }
def LangStaysSaid : Prop := langStaysRow.holds Try.pinned (OpenSpec.ofChange langStaysSpec)

/-- ITS FALSE NEIGHBOUR: 'it returns false'. Refute it at one input. -/
def langStaysWrong : ChangeSpec := { name := "langStays", fn := fun _ => fun
  | [d1, d2, d3] => { results := [.lit (.bool false)], args := [d1, d2, d3] }
  | _ => none }
def LangStaysWrongFalsely : Prop := langStaysRow.holds Try.pinned (OpenSpec.ofChange langStaysWrong)

/-- 'reparteelaw28.SlotsEnd': WHATEVER THE INPUT: true; the input reads as it did. -/
def slotsEndSpec : ChangeSpec := { name := "slotsEnd", fn := fun _ => fun
  | [d] => { results := [.lit (.bool true)], args := [d] }
  | _ => none }
def slotsEndRow : OpenClaim := { program := "ytmcacdegikgmnaa", sum := "84439d9cb81e6659b62f86d91025edf0149c03d07d30091d24f62047979c28ea", func := "repartee/reparteelaw28.SlotsEnd", spec := "slotsEnd", apart := false }
def SlotsEndSaid : Prop := slotsEndRow.holds Try.pinned (OpenSpec.ofChange slotsEndSpec)

/-- ITS FALSE NEIGHBOUR: 'it returns false'. Refute it at one input. -/
def slotsEndWrong : ChangeSpec := { name := "slotsEnd", fn := fun _ => fun
  | [d] => { results := [.lit (.bool false)], args := [d] }
  | _ => none }
def SlotsEndWrongFalsely : Prop := slotsEndRow.holds Try.pinned (OpenSpec.ofChange slotsEndWrong)

/-- 'reparteelaw08.LangLeast': WHATEVER THE INPUT: true; the input reads as it did. -/
def langLeastSpec : ChangeSpec := { name := "langLeast", fn := fun _ => fun
  | [d1, d2] => { results := [.lit (.bool true)], args := [d1, d2] }
  | _ => none }
def langLeastRow : OpenClaim := { program := "ytmcacdegikgmnaa", sum := "84439d9cb81e6659b62f86d91025edf0149c03d07d30091d24f62047979c28ea", func := "repartee/reparteelaw08.LangLeast", spec := "langLeast", apart := false }
def LangLeastSaid : Prop := langLeastRow.holds Try.pinned (OpenSpec.ofChange langLeastSpec)

/-- ITS FALSE NEIGHBOUR: 'it returns false'. Refute it at one input. -/
def langLeastWrong : ChangeSpec := { name := "langLeast", fn := fun _ => fun
  | [d1, d2] => { results := [.lit (.bool false)], args := [d1, d2] }
  | _ => none }
def LangLeastWrongFalsely : Prop := langLeastRow.holds Try.pinned (OpenSpec.ofChange langLeastWrong)

/-- 'reparteelaw08.LangFinds': WHATEVER THE INPUT: true; the input reads as it did. -/
def langFindsSpec : ChangeSpec := { name := "langFinds", fn := fun _ => fun
  | [d1, d2, d3] => { results := [.lit (.bool true)], args := [d1, d2, d3] }
  | _ => none }
def langFindsRow : OpenClaim := { program := "ytmcacdegikgmnaa", sum := "84439d9cb81e6659b62f86d91025edf0149c03d07d30091d24f62047979c28ea", func := "repartee/reparteelaw08.LangFinds", spec := "langFinds", apart := false }
def LangFindsSaid : Prop := langFindsRow.holds Try.pinned (OpenSpec.ofChange langFindsSpec)

/-- ITS FALSE NEIGHBOUR: 'it returns false'. Refute it at one input. -/
def langFindsWrong : ChangeSpec := { name := "langFinds", fn := fun _ => fun
  | [d1, d2, d3] => { results := [.lit (.bool false)], args := [d1, d2, d3] }
  | _ => none }
def LangFindsWrongFalsely : Prop := langFindsRow.holds Try.pinned (OpenSpec.ofChange langFindsWrong)

/-- 'reparteelaw08.LangMatches': WHATEVER THE INPUT: true; the input reads as it did. -/
def langMatchesSpec : ChangeSpec := { name := "langMatches", fn := fun _ => fun
  | [d1, d2] => { results := [.lit (.bool true)], args := [d1, d2] }
  | _ => none }
def langMatchesRow : OpenClaim := { program := "ytmcacdegikgmnaa", sum := "84439d9cb81e6659b62f86d91025edf0149c03d07d30091d24f62047979c28ea", func := "repartee/reparteelaw08.LangMatches", spec := "langMatches", unfollowed := true, recurses := true, apart := false }
def LangMatchesSaid : Prop := langMatchesRow.holds Try.pinned (OpenSpec.ofChange langMatchesSpec)

/-- ITS FALSE NEIGHBOUR: 'it returns false'. Refute it at one input. -/
def langMatchesWrong : ChangeSpec := { name := "langMatches", fn := fun _ => fun
  | [d1, d2] => { results := [.lit (.bool false)], args := [d1, d2] }
  | _ => none }
def LangMatchesWrongFalsely : Prop := langMatchesRow.holds Try.pinned (OpenSpec.ofChange langMatchesWrong)

/-- 'reparteelaw09.TableSeeks': WHATEVER THE INPUT: true; the input reads as it did. -/
def tableSeeksSpec : ChangeSpec := { name := "tableSeeks", fn := fun _ => fun
  | [d1, d2] => { results := [.lit (.bool true)], args := [d1, d2] }
  | _ => none }
def tableSeeksRow : OpenClaim := { program := "ytmcacdegikgmnaa", sum := "84439d9cb81e6659b62f86d91025edf0149c03d07d30091d24f62047979c28ea", func := "repartee/reparteelaw09.TableSeeks", spec := "tableSeeks", unfollowed := true, recurses := true, apart := false }
def TableSeeksSaid : Prop := tableSeeksRow.holds Try.pinned (OpenSpec.ofChange tableSeeksSpec)

/-- ITS FALSE NEIGHBOUR: 'it returns false'. Refute it at one input. -/
def tableSeeksWrong : ChangeSpec := { name := "tableSeeks", fn := fun _ => fun
  | [d1, d2] => { results := [.lit (.bool false)], args := [d1, d2] }
  | _ => none }
def TableSeeksWrongFalsely : Prop := tableSeeksRow.holds Try.pinned (OpenSpec.ofChange tableSeeksWrong)

/-- 'reparteelaw09.TableMakes': WHATEVER THE INPUT: true; the input reads as it did. -/
def tableMakesSpec : ChangeSpec := { name := "tableMakes", fn := fun _ => fun
  | [d1, d2, d3] => { results := [.lit (.bool true)], args := [d1, d2, d3] }
  | _ => none }
def tableMakesRow : OpenClaim := { program := "ytmcacdegikgmnaa", sum := "84439d9cb81e6659b62f86d91025edf0149c03d07d30091d24f62047979c28ea", func := "repartee/reparteelaw09.TableMakes", spec := "tableMakes", unfollowed := true, recurses := true, apart := false }
def TableMakesSaid : Prop := tableMakesRow.holds Try.pinned (OpenSpec.ofChange tableMakesSpec)

/-- ITS FALSE NEIGHBOUR: 'it returns false'. Refute it at one input. -/
def tableMakesWrong : ChangeSpec := { name := "tableMakes", fn := fun _ => fun
  | [d1, d2, d3] => { results := [.lit (.bool false)], args := [d1, d2, d3] }
  | _ => none }
def TableMakesWrongFalsely : Prop := tableMakesRow.holds Try.pinned (OpenSpec.ofChange tableMakesWrong)

/-- 'reparteelaw09.TableNil': WHATEVER THE INPUT: true; the input reads as it did. -/
def tableNilSpec : ChangeSpec := { name := "tableNil", fn := fun _ => fun
  | [d1, d2] => { results := [.lit (.bool true)], args := [d1, d2] }
  | _ => none }
def tableNilRow : OpenClaim := { program := "ytmcacdegikgmnaa", sum := "84439d9cb81e6659b62f86d91025edf0149c03d07d30091d24f62047979c28ea", func := "repartee/reparteelaw09.TableNil", spec := "tableNil", unfollowed := true, recurses := true, apart := false }
def TableNilSaid : Prop := tableNilRow.holds Try.pinned (OpenSpec.ofChange tableNilSpec)

/-- ITS FALSE NEIGHBOUR: 'it returns false'. Refute it at one input. -/
def tableNilWrong : ChangeSpec := { name := "tableNil", fn := fun _ => fun
  | [d1, d2] => { results := [.lit (.bool false)], args := [d1, d2] }
  | _ => none }
def TableNilWrongFalsely : Prop := tableNilRow.holds Try.pinned (OpenSpec.ofChange tableNilWrong)

/- THE SECOND FORM. 'bulk': how many values and letters a reading holds, each counted each time it is reached (what is shared counts as often as it is met; a slice's spare places count too). A statement '..UptoSaid' is the law's where the arguments, and the package variables that the reading takes, are together of bulk at most 1048576: NARROWER than '..Said'. Prove '..Said' where nothing that the law and all that it calls make is longer than what came in: it says more and counts as full. Else prove '..UptoSaid'. A law counts once. -/
mutual
def uptoBulk {H : Type} : DataW H → Nat
  | .lit (.string bytes) => bytes.length + 1
  | .lit _ => 1
  | .nil => 1
  | .ptr d => uptoBulk d + 1
  | .slice elems spare => uptoBulkAll elems + uptoBulkAll spare + 1
  | .agg parts => uptoBulkAll parts + 1
  | .iface _ d => uptoBulk d + 1
  | .map entries => uptoBulkEntries entries + 1
  | .held _ => 1
def uptoBulkAll {H : Type} : List (DataW H) → Nat
  | [] => 0
  | d :: r => uptoBulk d + uptoBulkAll r
def uptoBulkEntries {H : Type} : List (Lit × DataW H) → Nat
  | [] => 0
  | x :: r => uptoBulkEntry x + uptoBulkEntries r
def uptoBulkEntry {H : Type} : Lit × DataW H → Nat
  | (.string bytes, d) => bytes.length + uptoBulk d + 1
  | (_, d) => uptoBulk d + 1
 end
def uptoSmall : (H : Type) → List (DataW H) → Bool := fun _ ds => decide (uptoBulkAll ds ≤ 1048576)
def OpenSpec.upto (s : _root_.Go.ChangeSpec) : _root_.Go.OpenSpec := { _root_.Go.OpenSpec.ofChange s with cond := some uptoSmall }

/-- 'reparteelaw08.LangJoins', WHERE WHAT IT READS IS OF BULK AT MOST 1048576: true; the input reads as it did. -/
def langJoinsUptoRow : OpenClaim := { program := "ytmcacdegikgmnaa", sum := "84439d9cb81e6659b62f86d91025edf0149c03d07d30091d24f62047979c28ea", func := "repartee/reparteelaw08.LangJoins", spec := "langJoins", apart := false, narrowed := true }
def LangJoinsUptoSaid : Prop := langJoinsUptoRow.holds Try.pinned (OpenSpec.upto langJoinsSpec)

/-- 'reparteelaw08.LangStays', WHERE WHAT IT READS IS OF BULK AT MOST 1048576: true; the input reads as it did. -/
def langStaysUptoRow : OpenClaim := { program := "ytmcacdegikgmnaa", sum := "84439d9cb81e6659b62f86d91025edf0149c03d07d30091d24f62047979c28ea", func := "repartee/reparteelaw08.LangStays", spec := "langStays", apart := false, narrowed := true }
def LangStaysUptoSaid : Prop := langStaysUptoRow.holds Try.pinned (OpenSpec.upto langStaysSpec)

/-- 'reparteelaw28.SlotsEnd', WHERE WHAT IT READS IS OF BULK AT MOST 1048576: true; the input reads as it did. -/
def slotsEndUptoRow : OpenClaim := { program := "ytmcacdegikgmnaa", sum := "84439d9cb81e6659b62f86d91025edf0149c03d07d30091d24f62047979c28ea", func := "repartee/reparteelaw28.SlotsEnd", spec := "slotsEnd", apart := false, narrowed := true }
def SlotsEndUptoSaid : Prop := slotsEndUptoRow.holds Try.pinned (OpenSpec.upto slotsEndSpec)

/-- 'reparteelaw08.LangLeast', WHERE WHAT IT READS IS OF BULK AT MOST 1048576: true; the input reads as it did. -/
def langLeastUptoRow : OpenClaim := { program := "ytmcacdegikgmnaa", sum := "84439d9cb81e6659b62f86d91025edf0149c03d07d30091d24f62047979c28ea", func := "repartee/reparteelaw08.LangLeast", spec := "langLeast", apart := false, narrowed := true }
def LangLeastUptoSaid : Prop := langLeastUptoRow.holds Try.pinned (OpenSpec.upto langLeastSpec)

/-- 'reparteelaw08.LangFinds', WHERE WHAT IT READS IS OF BULK AT MOST 1048576: true; the input reads as it did. -/
def langFindsUptoRow : OpenClaim := { program := "ytmcacdegikgmnaa", sum := "84439d9cb81e6659b62f86d91025edf0149c03d07d30091d24f62047979c28ea", func := "repartee/reparteelaw08.LangFinds", spec := "langFinds", apart := false, narrowed := true }
def LangFindsUptoSaid : Prop := langFindsUptoRow.holds Try.pinned (OpenSpec.upto langFindsSpec)

/-- 'reparteelaw08.LangMatches', WHERE WHAT IT READS IS OF BULK AT MOST 1048576: true; the input reads as it did. -/
def langMatchesUptoRow : OpenClaim := { program := "ytmcacdegikgmnaa", sum := "84439d9cb81e6659b62f86d91025edf0149c03d07d30091d24f62047979c28ea", func := "repartee/reparteelaw08.LangMatches", spec := "langMatches", unfollowed := true, recurses := true, apart := false, narrowed := true }
def LangMatchesUptoSaid : Prop := langMatchesUptoRow.holds Try.pinned (OpenSpec.upto langMatchesSpec)

/-- 'reparteelaw09.TableSeeks', WHERE WHAT IT READS IS OF BULK AT MOST 1048576: true; the input reads as it did. -/
def tableSeeksUptoRow : OpenClaim := { program := "ytmcacdegikgmnaa", sum := "84439d9cb81e6659b62f86d91025edf0149c03d07d30091d24f62047979c28ea", func := "repartee/reparteelaw09.TableSeeks", spec := "tableSeeks", unfollowed := true, recurses := true, apart := false, narrowed := true }
def TableSeeksUptoSaid : Prop := tableSeeksUptoRow.holds Try.pinned (OpenSpec.upto tableSeeksSpec)

/-- 'reparteelaw09.TableMakes', WHERE WHAT IT READS IS OF BULK AT MOST 1048576: true; the input reads as it did. -/
def tableMakesUptoRow : OpenClaim := { program := "ytmcacdegikgmnaa", sum := "84439d9cb81e6659b62f86d91025edf0149c03d07d30091d24f62047979c28ea", func := "repartee/reparteelaw09.TableMakes", spec := "tableMakes", unfollowed := true, recurses := true, apart := false, narrowed := true }
def TableMakesUptoSaid : Prop := tableMakesUptoRow.holds Try.pinned (OpenSpec.upto tableMakesSpec)

/-- 'reparteelaw09.TableNil', WHERE WHAT IT READS IS OF BULK AT MOST 1048576: true; the input reads as it did. -/
def tableNilUptoRow : OpenClaim := { program := "ytmcacdegikgmnaa", sum := "84439d9cb81e6659b62f86d91025edf0149c03d07d30091d24f62047979c28ea", func := "repartee/reparteelaw09.TableNil", spec := "tableNil", unfollowed := true, recurses := true, apart := false, narrowed := true }
def TableNilUptoSaid : Prop := tableNilUptoRow.holds Try.pinned (OpenSpec.upto tableNilSpec)

end Rows
end Go.Proofs.Ytmcacdegikgmnaa
