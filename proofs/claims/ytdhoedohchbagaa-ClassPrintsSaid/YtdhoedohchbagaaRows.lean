/-
  No cell of these rows narrows 'for every input' (looked for: loops, veiled, ifaces, maps, wideKeys, modest, calm, conditions, laid).
  DERIVED. THE GIVEN ROWS OF THIS SEAT. 11 by the template 'for every input the law returns true; each argument reads behind the call as it read before'; 0 by the template 'total and deterministic' (their statements: YtdhoedohchbagaaTotals.lean).
  GIVEN WITH THE SEED: the statements are not yours to turn. If you find one false, say at which input.
  Laid BY PROGRAM, IN A SANDBOX (cutbox-rows.mjs): the forced cells as the released guide's own fill.sh prints them over the translation 60eeae93f7af66ca… (all of the seat's roots in one cut). By AI agents, Wed Nov 11 2026. No macro, syntax, notation, axiom, sorry.
-/
import Derived.Test.YtdhoedohchbagaaChecked
import GoSem.Claim
import GoSem.ClaimJoined
import GoSem.ClaimMapViews
import Derived.JoinedTies
import Derived.KernelRfl
namespace Go.Proofs.Ytdhoedohchbagaa
/- THE CELL 'sum', in the pinned program and in every row, IS THE sha256 OF THE DUMP (.gsa) THAT YtdhoedohchbagaaProg.lean LOADS. Nothing in Lean hashes anything: it is a label: what it is worth is what the hold of that sum in a sandbox is worth. -/
noncomputable def Try.pinned : Pinned := { name := "ytdhoedohchbagaa", sum := "60eeae93f7af66cae23c2af2d26773874d0139e11d5773b4f6cf48d59632b751", checked := Try.checked }
namespace Rows
def none {H : Type} : Left H := { results := [], args := [] }

/-- 'reparteelaw40.ReplayParts': WHATEVER THE INPUT: true; the input reads as it did. -/
def replayPartsSpec : ChangeSpec := { name := "replayParts", fn := fun _ => fun
  | [d1, d2] => { results := [.lit (.bool true)], args := [d1, d2] }
  | _ => none }
def replayPartsRow : OpenClaim := { program := "ytdhoedohchbagaa", sum := "60eeae93f7af66cae23c2af2d26773874d0139e11d5773b4f6cf48d59632b751", func := "repartee/reparteelaw40.ReplayParts", spec := "replayParts", unfollowed := true, recurses := true, apart := false }
def ReplayPartsSaid : Prop := replayPartsRow.holds Try.pinned (OpenSpec.ofChange replayPartsSpec)

/-- ITS FALSE NEIGHBOUR: 'it returns false'. Refute it at one input. -/
def replayPartsWrong : ChangeSpec := { name := "replayParts", fn := fun _ => fun
  | [d1, d2] => { results := [.lit (.bool false)], args := [d1, d2] }
  | _ => none }
def ReplayPartsWrongFalsely : Prop := replayPartsRow.holds Try.pinned (OpenSpec.ofChange replayPartsWrong)

/-- 'reparteelaw05.HeapDues': WHATEVER THE INPUT: true; the input reads as it did. -/
def heapDuesSpec : ChangeSpec := { name := "heapDues", fn := fun _ => fun
  | [d1, d2] => { results := [.lit (.bool true)], args := [d1, d2] }
  | _ => none }
def heapDuesRow : OpenClaim := { program := "ytdhoedohchbagaa", sum := "60eeae93f7af66cae23c2af2d26773874d0139e11d5773b4f6cf48d59632b751", func := "repartee/reparteelaw05.HeapDues", spec := "heapDues", apart := false }
def HeapDuesSaid : Prop := heapDuesRow.holds Try.pinned (OpenSpec.ofChange heapDuesSpec)

/-- ITS FALSE NEIGHBOUR: 'it returns false'. Refute it at one input. -/
def heapDuesWrong : ChangeSpec := { name := "heapDues", fn := fun _ => fun
  | [d1, d2] => { results := [.lit (.bool false)], args := [d1, d2] }
  | _ => none }
def HeapDuesWrongFalsely : Prop := heapDuesRow.holds Try.pinned (OpenSpec.ofChange heapDuesWrong)

/-- 'reparteelaw05.HeapSorts': WHATEVER THE INPUT: true; the input reads as it did. -/
def heapSortsSpec : ChangeSpec := { name := "heapSorts", fn := fun _ => fun
  | [d] => { results := [.lit (.bool true)], args := [d] }
  | _ => none }
def heapSortsRow : OpenClaim := { program := "ytdhoedohchbagaa", sum := "60eeae93f7af66cae23c2af2d26773874d0139e11d5773b4f6cf48d59632b751", func := "repartee/reparteelaw05.HeapSorts", spec := "heapSorts", apart := false }
def HeapSortsSaid : Prop := heapSortsRow.holds Try.pinned (OpenSpec.ofChange heapSortsSpec)

/-- ITS FALSE NEIGHBOUR: 'it returns false'. Refute it at one input. -/
def heapSortsWrong : ChangeSpec := { name := "heapSorts", fn := fun _ => fun
  | [d] => { results := [.lit (.bool false)], args := [d] }
  | _ => none }
def HeapSortsWrongFalsely : Prop := heapSortsRow.holds Try.pinned (OpenSpec.ofChange heapSortsWrong)

/-- 'reparteelaw06.ClassPrints': WHATEVER THE INPUT: true; the input reads as it did. -/
def classPrintsSpec : ChangeSpec := { name := "classPrints", fn := fun _ => fun
  | [d1, d2] => { results := [.lit (.bool true)], args := [d1, d2] }
  | _ => none }
def classPrintsRow : OpenClaim := { program := "ytdhoedohchbagaa", sum := "60eeae93f7af66cae23c2af2d26773874d0139e11d5773b4f6cf48d59632b751", func := "repartee/reparteelaw06.ClassPrints", spec := "classPrints", inPlace := ["internal/abi.NoEscape"], apart := false }
def ClassPrintsSaid : Prop := classPrintsRow.holds Try.pinned (OpenSpec.ofChange classPrintsSpec)

/-- ITS FALSE NEIGHBOUR: 'it returns false'. Refute it at one input. -/
def classPrintsWrong : ChangeSpec := { name := "classPrints", fn := fun _ => fun
  | [d1, d2] => { results := [.lit (.bool false)], args := [d1, d2] }
  | _ => none }
def ClassPrintsWrongFalsely : Prop := classPrintsRow.holds Try.pinned (OpenSpec.ofChange classPrintsWrong)

/-- 'reparteelaw06.ClassMakes': WHATEVER THE INPUT: true; the input reads as it did. -/
def classMakesSpec : ChangeSpec := { name := "classMakes", fn := fun _ => fun
  | [d1, d2, d3] => { results := [.lit (.bool true)], args := [d1, d2, d3] }
  | _ => none }
def classMakesRow : OpenClaim := { program := "ytdhoedohchbagaa", sum := "60eeae93f7af66cae23c2af2d26773874d0139e11d5773b4f6cf48d59632b751", func := "repartee/reparteelaw06.ClassMakes", spec := "classMakes", inPlace := ["internal/abi.NoEscape"], apart := false }
def ClassMakesSaid : Prop := classMakesRow.holds Try.pinned (OpenSpec.ofChange classMakesSpec)

/-- ITS FALSE NEIGHBOUR: 'it returns false'. Refute it at one input. -/
def classMakesWrong : ChangeSpec := { name := "classMakes", fn := fun _ => fun
  | [d1, d2, d3] => { results := [.lit (.bool false)], args := [d1, d2, d3] }
  | _ => none }
def ClassMakesWrongFalsely : Prop := classMakesRow.holds Try.pinned (OpenSpec.ofChange classMakesWrong)

/-- 'reparteelaw06.ClassPairs': WHATEVER THE INPUT: true; the input reads as it did. -/
def classPairsSpec : ChangeSpec := { name := "classPairs", fn := fun _ => fun
  | [d1, d2, d3] => { results := [.lit (.bool true)], args := [d1, d2, d3] }
  | _ => none }
def classPairsRow : OpenClaim := { program := "ytdhoedohchbagaa", sum := "60eeae93f7af66cae23c2af2d26773874d0139e11d5773b4f6cf48d59632b751", func := "repartee/reparteelaw06.ClassPairs", spec := "classPairs", inPlace := ["internal/abi.NoEscape"], apart := false }
def ClassPairsSaid : Prop := classPairsRow.holds Try.pinned (OpenSpec.ofChange classPairsSpec)

/-- ITS FALSE NEIGHBOUR: 'it returns false'. Refute it at one input. -/
def classPairsWrong : ChangeSpec := { name := "classPairs", fn := fun _ => fun
  | [d1, d2, d3] => { results := [.lit (.bool false)], args := [d1, d2, d3] }
  | _ => none }
def ClassPairsWrongFalsely : Prop := classPairsRow.holds Try.pinned (OpenSpec.ofChange classPairsWrong)

/-- 'reparteelaw28.SlotsLeast': WHATEVER THE INPUT: true; the input reads as it did. -/
def slotsLeastSpec : ChangeSpec := { name := "slotsLeast", fn := fun _ => fun
  | [d1, d2] => { results := [.lit (.bool true)], args := [d1, d2] }
  | _ => none }
def slotsLeastRow : OpenClaim := { program := "ytdhoedohchbagaa", sum := "60eeae93f7af66cae23c2af2d26773874d0139e11d5773b4f6cf48d59632b751", func := "repartee/reparteelaw28.SlotsLeast", spec := "slotsLeast", unfollowed := true, recurses := true, apart := false }
def SlotsLeastSaid : Prop := slotsLeastRow.holds Try.pinned (OpenSpec.ofChange slotsLeastSpec)

/-- ITS FALSE NEIGHBOUR: 'it returns false'. Refute it at one input. -/
def slotsLeastWrong : ChangeSpec := { name := "slotsLeast", fn := fun _ => fun
  | [d1, d2] => { results := [.lit (.bool false)], args := [d1, d2] }
  | _ => none }
def SlotsLeastWrongFalsely : Prop := slotsLeastRow.holds Try.pinned (OpenSpec.ofChange slotsLeastWrong)

/-- 'reparteelaw28.SlotsPlay': WHATEVER THE INPUT: true; the input reads as it did. -/
def slotsPlaySpec : ChangeSpec := { name := "slotsPlay", fn := fun _ => fun
  | [d1, d2, d3] => { results := [.lit (.bool true)], args := [d1, d2, d3] }
  | _ => none }
def slotsPlayRow : OpenClaim := { program := "ytdhoedohchbagaa", sum := "60eeae93f7af66cae23c2af2d26773874d0139e11d5773b4f6cf48d59632b751", func := "repartee/reparteelaw28.SlotsPlay", spec := "slotsPlay", unfollowed := true, recurses := true, apart := false }
def SlotsPlaySaid : Prop := slotsPlayRow.holds Try.pinned (OpenSpec.ofChange slotsPlaySpec)

/-- ITS FALSE NEIGHBOUR: 'it returns false'. Refute it at one input. -/
def slotsPlayWrong : ChangeSpec := { name := "slotsPlay", fn := fun _ => fun
  | [d1, d2, d3] => { results := [.lit (.bool false)], args := [d1, d2, d3] }
  | _ => none }
def SlotsPlayWrongFalsely : Prop := slotsPlayRow.holds Try.pinned (OpenSpec.ofChange slotsPlayWrong)

/-- 'reparteelaw28.SlotsNil': WHATEVER THE INPUT: true; the input reads as it did. -/
def slotsNilSpec : ChangeSpec := { name := "slotsNil", fn := fun _ => fun
  | [d] => { results := [.lit (.bool true)], args := [d] }
  | _ => none }
def slotsNilRow : OpenClaim := { program := "ytdhoedohchbagaa", sum := "60eeae93f7af66cae23c2af2d26773874d0139e11d5773b4f6cf48d59632b751", func := "repartee/reparteelaw28.SlotsNil", spec := "slotsNil", unfollowed := true, recurses := true, apart := false }
def SlotsNilSaid : Prop := slotsNilRow.holds Try.pinned (OpenSpec.ofChange slotsNilSpec)

/-- ITS FALSE NEIGHBOUR: 'it returns false'. Refute it at one input. -/
def slotsNilWrong : ChangeSpec := { name := "slotsNil", fn := fun _ => fun
  | [d] => { results := [.lit (.bool false)], args := [d] }
  | _ => none }
def SlotsNilWrongFalsely : Prop := slotsNilRow.holds Try.pinned (OpenSpec.ofChange slotsNilWrong)

/-- 'reparteelaw05.HeapPlays': WHATEVER THE INPUT: true; the input reads as it did. -/
def heapPlaysSpec : ChangeSpec := { name := "heapPlays", fn := fun _ => fun
  | [d1, d2, d3] => { results := [.lit (.bool true)], args := [d1, d2, d3] }
  | _ => none }
def heapPlaysRow : OpenClaim := { program := "ytdhoedohchbagaa", sum := "60eeae93f7af66cae23c2af2d26773874d0139e11d5773b4f6cf48d59632b751", func := "repartee/reparteelaw05.HeapPlays", spec := "heapPlays", unfollowed := true, recurses := true, apart := false }
def HeapPlaysSaid : Prop := heapPlaysRow.holds Try.pinned (OpenSpec.ofChange heapPlaysSpec)

/-- ITS FALSE NEIGHBOUR: 'it returns false'. Refute it at one input. -/
def heapPlaysWrong : ChangeSpec := { name := "heapPlays", fn := fun _ => fun
  | [d1, d2, d3] => { results := [.lit (.bool false)], args := [d1, d2, d3] }
  | _ => none }
def HeapPlaysWrongFalsely : Prop := heapPlaysRow.holds Try.pinned (OpenSpec.ofChange heapPlaysWrong)

/-- 'reparteelaw05.HeapNil': WHATEVER THE INPUT: true; the input reads as it did. -/
def heapNilSpec : ChangeSpec := { name := "heapNil", fn := fun _ => fun
  | [d1, d2] => { results := [.lit (.bool true)], args := [d1, d2] }
  | _ => none }
def heapNilRow : OpenClaim := { program := "ytdhoedohchbagaa", sum := "60eeae93f7af66cae23c2af2d26773874d0139e11d5773b4f6cf48d59632b751", func := "repartee/reparteelaw05.HeapNil", spec := "heapNil", unfollowed := true, recurses := true, apart := false }
def HeapNilSaid : Prop := heapNilRow.holds Try.pinned (OpenSpec.ofChange heapNilSpec)

/-- ITS FALSE NEIGHBOUR: 'it returns false'. Refute it at one input. -/
def heapNilWrong : ChangeSpec := { name := "heapNil", fn := fun _ => fun
  | [d1, d2] => { results := [.lit (.bool false)], args := [d1, d2] }
  | _ => none }
def HeapNilWrongFalsely : Prop := heapNilRow.holds Try.pinned (OpenSpec.ofChange heapNilWrong)

/- THE SECOND FORM. 'bulk': how many values and letters a reading holds, each counted each time it is reached (what is shared counts as often as it is met; a slice's spare places count too). A statement '..UptoSaid' is the law's where the arguments, and the package variables that the reading takes, are together of bulk at most 1048576: NARROWER than '..Said'. Prove '..Said' where nothing that the law and all that it calls make is longer than what came in: it says more and counts as full. Else prove '..UptoSaid'. A law counts once. -/
mutual
def uptoBulk {H : Type} : DataW H → Nat
  | .lit (.string bytes) => bytes.length + 1
  | .lit _ => 1
  | .nil => 1
  | .ptr d => uptoBulk d + 1
  | .slice elems spare => uptoBulkAll elems + uptoBulkAll spare + 1
  | .agg parts => uptoBulkAll parts + 1
  | .iface _ d => uptoBulk d + 1
  | .map entries => uptoBulkEntries entries + 1
  | .held _ => 1
def uptoBulkAll {H : Type} : List (DataW H) → Nat
  | [] => 0
  | d :: r => uptoBulk d + uptoBulkAll r
def uptoBulkEntries {H : Type} : List (Lit × DataW H) → Nat
  | [] => 0
  | x :: r => uptoBulkEntry x + uptoBulkEntries r
def uptoBulkEntry {H : Type} : Lit × DataW H → Nat
  | (.string bytes, d) => bytes.length + uptoBulk d + 1
  | (_, d) => uptoBulk d + 1
 end
def uptoSmall : (H : Type) → List (DataW H) → Bool := fun _ ds => decide (uptoBulkAll ds ≤ 1048576)
def OpenSpec.upto (s : _root_.Go.ChangeSpec) : _root_.Go.OpenSpec := { _root_.Go.OpenSpec.ofChange s with cond := some uptoSmall }

/-- 'reparteelaw40.ReplayParts', WHERE WHAT IT READS IS OF BULK AT MOST 1048576: true; the input reads as it did. -/
def replayPartsUptoRow : OpenClaim := { program := "ytdhoedohchbagaa", sum := "60eeae93f7af66cae23c2af2d26773874d0139e11d5773b4f6cf48d59632b751", func := "repartee/reparteelaw40.ReplayParts", spec := "replayParts", unfollowed := true, recurses := true, apart := false, narrowed := true }
def ReplayPartsUptoSaid : Prop := replayPartsUptoRow.holds Try.pinned (OpenSpec.upto replayPartsSpec)

/-- 'reparteelaw05.HeapDues', WHERE WHAT IT READS IS OF BULK AT MOST 1048576: true; the input reads as it did. -/
def heapDuesUptoRow : OpenClaim := { program := "ytdhoedohchbagaa", sum := "60eeae93f7af66cae23c2af2d26773874d0139e11d5773b4f6cf48d59632b751", func := "repartee/reparteelaw05.HeapDues", spec := "heapDues", apart := false, narrowed := true }
def HeapDuesUptoSaid : Prop := heapDuesUptoRow.holds Try.pinned (OpenSpec.upto heapDuesSpec)

/-- 'reparteelaw05.HeapSorts', WHERE WHAT IT READS IS OF BULK AT MOST 1048576: true; the input reads as it did. -/
def heapSortsUptoRow : OpenClaim := { program := "ytdhoedohchbagaa", sum := "60eeae93f7af66cae23c2af2d26773874d0139e11d5773b4f6cf48d59632b751", func := "repartee/reparteelaw05.HeapSorts", spec := "heapSorts", apart := false, narrowed := true }
def HeapSortsUptoSaid : Prop := heapSortsUptoRow.holds Try.pinned (OpenSpec.upto heapSortsSpec)

/-- 'reparteelaw06.ClassPrints', WHERE WHAT IT READS IS OF BULK AT MOST 1048576: true; the input reads as it did. -/
def classPrintsUptoRow : OpenClaim := { program := "ytdhoedohchbagaa", sum := "60eeae93f7af66cae23c2af2d26773874d0139e11d5773b4f6cf48d59632b751", func := "repartee/reparteelaw06.ClassPrints", spec := "classPrints", inPlace := ["internal/abi.NoEscape"], apart := false, narrowed := true }
def ClassPrintsUptoSaid : Prop := classPrintsUptoRow.holds Try.pinned (OpenSpec.upto classPrintsSpec)

/-- 'reparteelaw06.ClassMakes', WHERE WHAT IT READS IS OF BULK AT MOST 1048576: true; the input reads as it did. -/
def classMakesUptoRow : OpenClaim := { program := "ytdhoedohchbagaa", sum := "60eeae93f7af66cae23c2af2d26773874d0139e11d5773b4f6cf48d59632b751", func := "repartee/reparteelaw06.ClassMakes", spec := "classMakes", inPlace := ["internal/abi.NoEscape"], apart := false, narrowed := true }
def ClassMakesUptoSaid : Prop := classMakesUptoRow.holds Try.pinned (OpenSpec.upto classMakesSpec)

/-- 'reparteelaw06.ClassPairs', WHERE WHAT IT READS IS OF BULK AT MOST 1048576: true; the input reads as it did. -/
def classPairsUptoRow : OpenClaim := { program := "ytdhoedohchbagaa", sum := "60eeae93f7af66cae23c2af2d26773874d0139e11d5773b4f6cf48d59632b751", func := "repartee/reparteelaw06.ClassPairs", spec := "classPairs", inPlace := ["internal/abi.NoEscape"], apart := false, narrowed := true }
def ClassPairsUptoSaid : Prop := classPairsUptoRow.holds Try.pinned (OpenSpec.upto classPairsSpec)

/-- 'reparteelaw28.SlotsLeast', WHERE WHAT IT READS IS OF BULK AT MOST 1048576: true; the input reads as it did. -/
def slotsLeastUptoRow : OpenClaim := { program := "ytdhoedohchbagaa", sum := "60eeae93f7af66cae23c2af2d26773874d0139e11d5773b4f6cf48d59632b751", func := "repartee/reparteelaw28.SlotsLeast", spec := "slotsLeast", unfollowed := true, recurses := true, apart := false, narrowed := true }
def SlotsLeastUptoSaid : Prop := slotsLeastUptoRow.holds Try.pinned (OpenSpec.upto slotsLeastSpec)

/-- 'reparteelaw28.SlotsPlay', WHERE WHAT IT READS IS OF BULK AT MOST 1048576: true; the input reads as it did. -/
def slotsPlayUptoRow : OpenClaim := { program := "ytdhoedohchbagaa", sum := "60eeae93f7af66cae23c2af2d26773874d0139e11d5773b4f6cf48d59632b751", func := "repartee/reparteelaw28.SlotsPlay", spec := "slotsPlay", unfollowed := true, recurses := true, apart := false, narrowed := true }
def SlotsPlayUptoSaid : Prop := slotsPlayUptoRow.holds Try.pinned (OpenSpec.upto slotsPlaySpec)

/-- 'reparteelaw28.SlotsNil', WHERE WHAT IT READS IS OF BULK AT MOST 1048576: true; the input reads as it did. -/
def slotsNilUptoRow : OpenClaim := { program := "ytdhoedohchbagaa", sum := "60eeae93f7af66cae23c2af2d26773874d0139e11d5773b4f6cf48d59632b751", func := "repartee/reparteelaw28.SlotsNil", spec := "slotsNil", unfollowed := true, recurses := true, apart := false, narrowed := true }
def SlotsNilUptoSaid : Prop := slotsNilUptoRow.holds Try.pinned (OpenSpec.upto slotsNilSpec)

/-- 'reparteelaw05.HeapPlays', WHERE WHAT IT READS IS OF BULK AT MOST 1048576: true; the input reads as it did. -/
def heapPlaysUptoRow : OpenClaim := { program := "ytdhoedohchbagaa", sum := "60eeae93f7af66cae23c2af2d26773874d0139e11d5773b4f6cf48d59632b751", func := "repartee/reparteelaw05.HeapPlays", spec := "heapPlays", unfollowed := true, recurses := true, apart := false, narrowed := true }
def HeapPlaysUptoSaid : Prop := heapPlaysUptoRow.holds Try.pinned (OpenSpec.upto heapPlaysSpec)

/-- 'reparteelaw05.HeapNil', WHERE WHAT IT READS IS OF BULK AT MOST 1048576: true; the input reads as it did. -/
def heapNilUptoRow : OpenClaim := { program := "ytdhoedohchbagaa", sum := "60eeae93f7af66cae23c2af2d26773874d0139e11d5773b4f6cf48d59632b751", func := "repartee/reparteelaw05.HeapNil", spec := "heapNil", unfollowed := true, recurses := true, apart := false, narrowed := true }
def HeapNilUptoSaid : Prop := heapNilUptoRow.holds Try.pinned (OpenSpec.upto heapNilSpec)

end Rows
end Go.Proofs.Ytdhoedohchbagaa
