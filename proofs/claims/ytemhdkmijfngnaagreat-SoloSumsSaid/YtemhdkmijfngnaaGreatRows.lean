/-
  No cell of these rows narrows 'for every input' (looked for: loops, veiled, ifaces, maps, wideKeys, modest, calm, conditions, laid).
  DERIVED. THE GIVEN ROWS OF THIS SEAT. 10 by the template 'for every input the law returns true; each argument reads behind the call as it read before'; 0 by the template 'total and deterministic' (their statements: YtemhdkmijfngnaaGreatTotals.lean).
  GIVEN WITH THE SEED: the statements are not yours to turn. If you find one false, say at which input.
  Laid BY PROGRAM, IN A SANDBOX (cutbox-rows.mjs): the forced cells as the released guide's own fill.sh prints them over the translation b79814a3c1d30502… (all of the seat's roots in one cut). By AI agents, Wed Nov 11 2026. No macro, syntax, notation, axiom, sorry.
-/
import Derived.Test.YtemhdkmijfngnaaGreatChecked
import GoSem.Claim
import GoSem.ClaimJoined
import GoSem.ClaimMapViews
import Derived.JoinedTies
import Derived.KernelRfl
namespace Go.Proofs.YtemhdkmijfngnaaGreat
/- THE CELL 'sum', in the pinned program and in every row, IS THE sha256 OF THE DUMP (.gsa) THAT YtemhdkmijfngnaaGreatProg.lean LOADS. Nothing in Lean hashes anything: it is a label: what it is worth is what the hold of that sum in a sandbox is worth. -/
noncomputable def Tryz.pinned : Pinned := { name := "ytemhdkmijfngnaagreat", sum := "b79814a3c1d30502f8e3ddfd98708d11243df254a6f33c7ab8f7f04dd0152798", checked := Tryz.checked }
namespace Rows
def none {H : Type} : Left H := { results := [], args := [] }

/-- 'reparteelaw22.DialSends': WHATEVER THE INPUT: true; the input reads as it did. -/
def dialSendsSpec : ChangeSpec := { name := "dialSends", fn := fun _ => fun
  | [d] => { results := [.lit (.bool true)], args := [d] }
  | _ => none }
def dialSendsRow : OpenClaim := { program := "ytemhdkmijfngnaagreat", sum := "b79814a3c1d30502f8e3ddfd98708d11243df254a6f33c7ab8f7f04dd0152798", func := "repartee/reparteelaw22.DialSends", spec := "dialSends", unfollowed := true, recurses := true, apart := false }
def DialSendsSaid : Prop := dialSendsRow.holds Tryz.pinned (OpenSpec.ofChange dialSendsSpec)

/-- ITS FALSE NEIGHBOUR: 'it returns false'. Refute it at one input. -/
def dialSendsWrong : ChangeSpec := { name := "dialSends", fn := fun _ => fun
  | [d] => { results := [.lit (.bool false)], args := [d] }
  | _ => none }
def DialSendsWrongFalsely : Prop := dialSendsRow.holds Tryz.pinned (OpenSpec.ofChange dialSendsWrong)

/-- 'reparteelaw22.DialWakes': WHATEVER THE INPUT: true; the input reads as it did. -/
def dialWakesSpec : ChangeSpec := { name := "dialWakes", fn := fun _ => fun
  | [d] => { results := [.lit (.bool true)], args := [d] }
  | _ => none }
def dialWakesRow : OpenClaim := { program := "ytemhdkmijfngnaagreat", sum := "b79814a3c1d30502f8e3ddfd98708d11243df254a6f33c7ab8f7f04dd0152798", func := "repartee/reparteelaw22.DialWakes", spec := "dialWakes", unfollowed := true, recurses := true, apart := false }
def DialWakesSaid : Prop := dialWakesRow.holds Tryz.pinned (OpenSpec.ofChange dialWakesSpec)

/-- ITS FALSE NEIGHBOUR: 'it returns false'. Refute it at one input. -/
def dialWakesWrong : ChangeSpec := { name := "dialWakes", fn := fun _ => fun
  | [d] => { results := [.lit (.bool false)], args := [d] }
  | _ => none }
def DialWakesWrongFalsely : Prop := dialWakesRow.holds Tryz.pinned (OpenSpec.ofChange dialWakesWrong)

/-- 'reparteelaw23.SoloFront': WHATEVER THE INPUT: true; the input reads as it did. -/
def soloFrontSpec : ChangeSpec := { name := "soloFront", fn := fun _ => fun
  | [d1, d2] => { results := [.lit (.bool true)], args := [d1, d2] }
  | _ => none }
def soloFrontRow : OpenClaim := { program := "ytemhdkmijfngnaagreat", sum := "b79814a3c1d30502f8e3ddfd98708d11243df254a6f33c7ab8f7f04dd0152798", func := "repartee/reparteelaw23.SoloFront", spec := "soloFront", unfollowed := true, recurses := true, apart := false }
def SoloFrontSaid : Prop := soloFrontRow.holds Tryz.pinned (OpenSpec.ofChange soloFrontSpec)

/-- ITS FALSE NEIGHBOUR: 'it returns false'. Refute it at one input. -/
def soloFrontWrong : ChangeSpec := { name := "soloFront", fn := fun _ => fun
  | [d1, d2] => { results := [.lit (.bool false)], args := [d1, d2] }
  | _ => none }
def SoloFrontWrongFalsely : Prop := soloFrontRow.holds Tryz.pinned (OpenSpec.ofChange soloFrontWrong)

/-- 'reparteelaw23.SoloPieces': WHATEVER THE INPUT: true; the input reads as it did. -/
def soloPiecesSpec : ChangeSpec := { name := "soloPieces", fn := fun _ => fun
  | [d1, d2, d3] => { results := [.lit (.bool true)], args := [d1, d2, d3] }
  | _ => none }
def soloPiecesRow : OpenClaim := { program := "ytemhdkmijfngnaagreat", sum := "b79814a3c1d30502f8e3ddfd98708d11243df254a6f33c7ab8f7f04dd0152798", func := "repartee/reparteelaw23.SoloPieces", spec := "soloPieces", unfollowed := true, recurses := true, apart := false }
def SoloPiecesSaid : Prop := soloPiecesRow.holds Tryz.pinned (OpenSpec.ofChange soloPiecesSpec)

/-- ITS FALSE NEIGHBOUR: 'it returns false'. Refute it at one input. -/
def soloPiecesWrong : ChangeSpec := { name := "soloPieces", fn := fun _ => fun
  | [d1, d2, d3] => { results := [.lit (.bool false)], args := [d1, d2, d3] }
  | _ => none }
def SoloPiecesWrongFalsely : Prop := soloPiecesRow.holds Tryz.pinned (OpenSpec.ofChange soloPiecesWrong)

/-- 'reparteelaw23.SoloSwaps': WHATEVER THE INPUT: true; the input reads as it did. -/
def soloSwapsSpec : ChangeSpec := { name := "soloSwaps", fn := fun _ => fun
  | [d1, d2, d3] => { results := [.lit (.bool true)], args := [d1, d2, d3] }
  | _ => none }
def soloSwapsRow : OpenClaim := { program := "ytemhdkmijfngnaagreat", sum := "b79814a3c1d30502f8e3ddfd98708d11243df254a6f33c7ab8f7f04dd0152798", func := "repartee/reparteelaw23.SoloSwaps", spec := "soloSwaps", unfollowed := true, recurses := true, apart := false }
def SoloSwapsSaid : Prop := soloSwapsRow.holds Tryz.pinned (OpenSpec.ofChange soloSwapsSpec)

/-- ITS FALSE NEIGHBOUR: 'it returns false'. Refute it at one input. -/
def soloSwapsWrong : ChangeSpec := { name := "soloSwaps", fn := fun _ => fun
  | [d1, d2, d3] => { results := [.lit (.bool false)], args := [d1, d2, d3] }
  | _ => none }
def SoloSwapsWrongFalsely : Prop := soloSwapsRow.holds Tryz.pinned (OpenSpec.ofChange soloSwapsWrong)

/-- 'reparteelaw23.SoloRuns': WHATEVER THE INPUT: true; the input reads as it did. -/
def soloRunsSpec : ChangeSpec := { name := "soloRuns", fn := fun _ => fun
  | [d] => { results := [.lit (.bool true)], args := [d] }
  | _ => none }
def soloRunsRow : OpenClaim := { program := "ytemhdkmijfngnaagreat", sum := "b79814a3c1d30502f8e3ddfd98708d11243df254a6f33c7ab8f7f04dd0152798", func := "repartee/reparteelaw23.SoloRuns", spec := "soloRuns", unfollowed := true, recurses := true, apart := false }
def SoloRunsSaid : Prop := soloRunsRow.holds Tryz.pinned (OpenSpec.ofChange soloRunsSpec)

/-- ITS FALSE NEIGHBOUR: 'it returns false'. Refute it at one input. -/
def soloRunsWrong : ChangeSpec := { name := "soloRuns", fn := fun _ => fun
  | [d] => { results := [.lit (.bool false)], args := [d] }
  | _ => none }
def SoloRunsWrongFalsely : Prop := soloRunsRow.holds Tryz.pinned (OpenSpec.ofChange soloRunsWrong)

/-- 'reparteelaw22.DialPrices': WHATEVER THE INPUT: true; the input reads as it did. -/
def dialPricesSpec : ChangeSpec := { name := "dialPrices", fn := fun _ => fun
  | [d] => { results := [.lit (.bool true)], args := [d] }
  | _ => none }
def dialPricesRow : OpenClaim := { program := "ytemhdkmijfngnaagreat", sum := "b79814a3c1d30502f8e3ddfd98708d11243df254a6f33c7ab8f7f04dd0152798", func := "repartee/reparteelaw22.DialPrices", spec := "dialPrices", unfollowed := true, recurses := true, apart := false }
def DialPricesSaid : Prop := dialPricesRow.holds Tryz.pinned (OpenSpec.ofChange dialPricesSpec)

/-- ITS FALSE NEIGHBOUR: 'it returns false'. Refute it at one input. -/
def dialPricesWrong : ChangeSpec := { name := "dialPrices", fn := fun _ => fun
  | [d] => { results := [.lit (.bool false)], args := [d] }
  | _ => none }
def DialPricesWrongFalsely : Prop := dialPricesRow.holds Tryz.pinned (OpenSpec.ofChange dialPricesWrong)

/-- 'reparteelaw23.SoloSums': WHATEVER THE INPUT: true; the input reads as it did. -/
def soloSumsSpec : ChangeSpec := { name := "soloSums", fn := fun _ => fun
  | [d] => { results := [.lit (.bool true)], args := [d] }
  | _ => none }
def soloSumsRow : OpenClaim := { program := "ytemhdkmijfngnaagreat", sum := "b79814a3c1d30502f8e3ddfd98708d11243df254a6f33c7ab8f7f04dd0152798", func := "repartee/reparteelaw23.SoloSums", spec := "soloSums", inPlace := ["internal/abi.NoEscape"], unfollowed := true, recurses := true, apart := false }
def SoloSumsSaid : Prop := soloSumsRow.holds Tryz.pinned (OpenSpec.ofChange soloSumsSpec)

/-- ITS FALSE NEIGHBOUR: 'it returns false'. Refute it at one input. -/
def soloSumsWrong : ChangeSpec := { name := "soloSums", fn := fun _ => fun
  | [d] => { results := [.lit (.bool false)], args := [d] }
  | _ => none }
def SoloSumsWrongFalsely : Prop := soloSumsRow.holds Tryz.pinned (OpenSpec.ofChange soloSumsWrong)

/-- 'reparteelaw22.DialPlays': WHATEVER THE INPUT: true; the input reads as it did. -/
def dialPlaysSpec : ChangeSpec := { name := "dialPlays", fn := fun _ => fun
  | [d] => { results := [.lit (.bool true)], args := [d] }
  | _ => none }
def dialPlaysRow : OpenClaim := { program := "ytemhdkmijfngnaagreat", sum := "b79814a3c1d30502f8e3ddfd98708d11243df254a6f33c7ab8f7f04dd0152798", func := "repartee/reparteelaw22.DialPlays", spec := "dialPlays", unfollowed := true, recurses := true, apart := false }
def DialPlaysSaid : Prop := dialPlaysRow.holds Tryz.pinned (OpenSpec.ofChange dialPlaysSpec)

/-- ITS FALSE NEIGHBOUR: 'it returns false'. Refute it at one input. -/
def dialPlaysWrong : ChangeSpec := { name := "dialPlays", fn := fun _ => fun
  | [d] => { results := [.lit (.bool false)], args := [d] }
  | _ => none }
def DialPlaysWrongFalsely : Prop := dialPlaysRow.holds Tryz.pinned (OpenSpec.ofChange dialPlaysWrong)

/-- 'reparteelaw22.DialNil': WHATEVER THE INPUT: true; the input reads as it did. -/
def dialNilSpec : ChangeSpec := { name := "dialNil", fn := fun _ => fun
  | [d1, d2, d3] => { results := [.lit (.bool true)], args := [d1, d2, d3] }
  | _ => none }
def dialNilRow : OpenClaim := { program := "ytemhdkmijfngnaagreat", sum := "b79814a3c1d30502f8e3ddfd98708d11243df254a6f33c7ab8f7f04dd0152798", func := "repartee/reparteelaw22.DialNil", spec := "dialNil", unfollowed := true, recurses := true, apart := false }
def DialNilSaid : Prop := dialNilRow.holds Tryz.pinned (OpenSpec.ofChange dialNilSpec)

/-- ITS FALSE NEIGHBOUR: 'it returns false'. Refute it at one input. -/
def dialNilWrong : ChangeSpec := { name := "dialNil", fn := fun _ => fun
  | [d1, d2, d3] => { results := [.lit (.bool false)], args := [d1, d2, d3] }
  | _ => none }
def DialNilWrongFalsely : Prop := dialNilRow.holds Tryz.pinned (OpenSpec.ofChange dialNilWrong)

/- THE SECOND FORM. 'bulk': how many values and letters a reading holds, each counted each time it is reached (what is shared counts as often as it is met; a slice's spare places count too). A statement '..UptoSaid' is the law's where the arguments, and the package variables that the reading takes, are together of bulk at most 1048576: NARROWER than '..Said'. Prove '..Said' where nothing that the law and all that it calls make is longer than what came in: it says more and counts as full. Else prove '..UptoSaid'. A law counts once. -/
mutual
def uptoBulk {H : Type} : DataW H → Nat
  | .lit (.string bytes) => bytes.length + 1
  | .lit _ => 1
  | .nil => 1
  | .ptr d => uptoBulk d + 1
  | .slice elems spare => uptoBulkAll elems + uptoBulkAll spare + 1
  | .agg parts => uptoBulkAll parts + 1
  | .iface _ d => uptoBulk d + 1
  | .map entries => uptoBulkEntries entries + 1
  | .held _ => 1
def uptoBulkAll {H : Type} : List (DataW H) → Nat
  | [] => 0
  | d :: r => uptoBulk d + uptoBulkAll r
def uptoBulkEntries {H : Type} : List (Lit × DataW H) → Nat
  | [] => 0
  | x :: r => uptoBulkEntry x + uptoBulkEntries r
def uptoBulkEntry {H : Type} : Lit × DataW H → Nat
  | (.string bytes, d) => bytes.length + uptoBulk d + 1
  | (_, d) => uptoBulk d + 1
 end
def uptoSmall : (H : Type) → List (DataW H) → Bool := fun _ ds => decide (uptoBulkAll ds ≤ 1048576)
def OpenSpec.upto (s : _root_.Go.ChangeSpec) : _root_.Go.OpenSpec := { _root_.Go.OpenSpec.ofChange s with cond := some uptoSmall }

/-- 'reparteelaw22.DialSends', WHERE WHAT IT READS IS OF BULK AT MOST 1048576: true; the input reads as it did. -/
def dialSendsUptoRow : OpenClaim := { program := "ytemhdkmijfngnaagreat", sum := "b79814a3c1d30502f8e3ddfd98708d11243df254a6f33c7ab8f7f04dd0152798", func := "repartee/reparteelaw22.DialSends", spec := "dialSends", unfollowed := true, recurses := true, apart := false, narrowed := true }
def DialSendsUptoSaid : Prop := dialSendsUptoRow.holds Tryz.pinned (OpenSpec.upto dialSendsSpec)

/-- 'reparteelaw22.DialWakes', WHERE WHAT IT READS IS OF BULK AT MOST 1048576: true; the input reads as it did. -/
def dialWakesUptoRow : OpenClaim := { program := "ytemhdkmijfngnaagreat", sum := "b79814a3c1d30502f8e3ddfd98708d11243df254a6f33c7ab8f7f04dd0152798", func := "repartee/reparteelaw22.DialWakes", spec := "dialWakes", unfollowed := true, recurses := true, apart := false, narrowed := true }
def DialWakesUptoSaid : Prop := dialWakesUptoRow.holds Tryz.pinned (OpenSpec.upto dialWakesSpec)

/-- 'reparteelaw23.SoloFront', WHERE WHAT IT READS IS OF BULK AT MOST 1048576: true; the input reads as it did. -/
def soloFrontUptoRow : OpenClaim := { program := "ytemhdkmijfngnaagreat", sum := "b79814a3c1d30502f8e3ddfd98708d11243df254a6f33c7ab8f7f04dd0152798", func := "repartee/reparteelaw23.SoloFront", spec := "soloFront", unfollowed := true, recurses := true, apart := false, narrowed := true }
def SoloFrontUptoSaid : Prop := soloFrontUptoRow.holds Tryz.pinned (OpenSpec.upto soloFrontSpec)

/-- 'reparteelaw23.SoloPieces', WHERE WHAT IT READS IS OF BULK AT MOST 1048576: true; the input reads as it did. -/
def soloPiecesUptoRow : OpenClaim := { program := "ytemhdkmijfngnaagreat", sum := "b79814a3c1d30502f8e3ddfd98708d11243df254a6f33c7ab8f7f04dd0152798", func := "repartee/reparteelaw23.SoloPieces", spec := "soloPieces", unfollowed := true, recurses := true, apart := false, narrowed := true }
def SoloPiecesUptoSaid : Prop := soloPiecesUptoRow.holds Tryz.pinned (OpenSpec.upto soloPiecesSpec)

/-- 'reparteelaw23.SoloSwaps', WHERE WHAT IT READS IS OF BULK AT MOST 1048576: true; the input reads as it did. -/
def soloSwapsUptoRow : OpenClaim := { program := "ytemhdkmijfngnaagreat", sum := "b79814a3c1d30502f8e3ddfd98708d11243df254a6f33c7ab8f7f04dd0152798", func := "repartee/reparteelaw23.SoloSwaps", spec := "soloSwaps", unfollowed := true, recurses := true, apart := false, narrowed := true }
def SoloSwapsUptoSaid : Prop := soloSwapsUptoRow.holds Tryz.pinned (OpenSpec.upto soloSwapsSpec)

/-- 'reparteelaw23.SoloRuns', WHERE WHAT IT READS IS OF BULK AT MOST 1048576: true; the input reads as it did. -/
def soloRunsUptoRow : OpenClaim := { program := "ytemhdkmijfngnaagreat", sum := "b79814a3c1d30502f8e3ddfd98708d11243df254a6f33c7ab8f7f04dd0152798", func := "repartee/reparteelaw23.SoloRuns", spec := "soloRuns", unfollowed := true, recurses := true, apart := false, narrowed := true }
def SoloRunsUptoSaid : Prop := soloRunsUptoRow.holds Tryz.pinned (OpenSpec.upto soloRunsSpec)

/-- 'reparteelaw22.DialPrices', WHERE WHAT IT READS IS OF BULK AT MOST 1048576: true; the input reads as it did. -/
def dialPricesUptoRow : OpenClaim := { program := "ytemhdkmijfngnaagreat", sum := "b79814a3c1d30502f8e3ddfd98708d11243df254a6f33c7ab8f7f04dd0152798", func := "repartee/reparteelaw22.DialPrices", spec := "dialPrices", unfollowed := true, recurses := true, apart := false, narrowed := true }
def DialPricesUptoSaid : Prop := dialPricesUptoRow.holds Tryz.pinned (OpenSpec.upto dialPricesSpec)

/-- 'reparteelaw23.SoloSums', WHERE WHAT IT READS IS OF BULK AT MOST 1048576: true; the input reads as it did. -/
def soloSumsUptoRow : OpenClaim := { program := "ytemhdkmijfngnaagreat", sum := "b79814a3c1d30502f8e3ddfd98708d11243df254a6f33c7ab8f7f04dd0152798", func := "repartee/reparteelaw23.SoloSums", spec := "soloSums", inPlace := ["internal/abi.NoEscape"], unfollowed := true, recurses := true, apart := false, narrowed := true }
def SoloSumsUptoSaid : Prop := soloSumsUptoRow.holds Tryz.pinned (OpenSpec.upto soloSumsSpec)

/-- 'reparteelaw22.DialPlays', WHERE WHAT IT READS IS OF BULK AT MOST 1048576: true; the input reads as it did. -/
def dialPlaysUptoRow : OpenClaim := { program := "ytemhdkmijfngnaagreat", sum := "b79814a3c1d30502f8e3ddfd98708d11243df254a6f33c7ab8f7f04dd0152798", func := "repartee/reparteelaw22.DialPlays", spec := "dialPlays", unfollowed := true, recurses := true, apart := false, narrowed := true }
def DialPlaysUptoSaid : Prop := dialPlaysUptoRow.holds Tryz.pinned (OpenSpec.upto dialPlaysSpec)

/-- 'reparteelaw22.DialNil', WHERE WHAT IT READS IS OF BULK AT MOST 1048576: true; the input reads as it did. -/
def dialNilUptoRow : OpenClaim := { program := "ytemhdkmijfngnaagreat", sum := "b79814a3c1d30502f8e3ddfd98708d11243df254a6f33c7ab8f7f04dd0152798", func := "repartee/reparteelaw22.DialNil", spec := "dialNil", unfollowed := true, recurses := true, apart := false, narrowed := true }
def DialNilUptoSaid : Prop := dialNilUptoRow.holds Tryz.pinned (OpenSpec.upto dialNilSpec)

end Rows
end Go.Proofs.YtemhdkmijfngnaaGreat
