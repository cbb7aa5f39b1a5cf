/-
  No cell of these rows narrows 'for every input' (looked for: loops, veiled, ifaces, maps, wideKeys, modest, calm, conditions, laid).
  DERIVED. THE GIVEN ROWS OF THIS SEAT. 9 by the template 'for every input the law returns true; each argument reads behind the call as it read before'; 0 by the template 'total and deterministic' (their statements: YtpkkfdmhbbipoaaGreatTotals.lean).
  GIVEN WITH THE SEED: the statements are not yours to turn. If you find one false, say at which input.
  Laid BY PROGRAM, IN A SANDBOX (cutbox-rows.mjs): the forced cells as the released guide's own fill.sh prints them over the translation 76b8df2956a545f1… (all of the seat's roots in one cut). By AI agents, Wed Nov 11 2026. No macro, syntax, notation, axiom, sorry.
-/
import Derived.Test.YtpkkfdmhbbipoaaGreatChecked
import GoSem.Claim
import GoSem.ClaimJoined
import GoSem.ClaimMapViews
import Derived.JoinedTies
import Derived.KernelRfl
namespace Go.Proofs.YtpkkfdmhbbipoaaGreat
/- THE CELL 'sum', in the pinned program and in every row, IS THE sha256 OF THE DUMP (.gsa) THAT YtpkkfdmhbbipoaaGreatProg.lean LOADS. Nothing in Lean hashes anything: it is a label: what it is worth is what the hold of that sum in a sandbox is worth. -/
noncomputable def Tryz.pinned : Pinned := { name := "ytpkkfdmhbbipoaagreat", sum := "76b8df2956a545f16d589bb0be7a429e0c80e218bd3ca7e90c4a69beeb0aba01", checked := Tryz.checked }
namespace Rows
def none {H : Type} : Left H := { results := [], args := [] }

/-- 'reparteelaw22.DialSends': WHATEVER THE INPUT: true; the input reads as it did. -/
def dialSendsSpec : ChangeSpec := { name := "dialSends", fn := fun _ => fun
  | [d] => { results := [.lit (.bool true)], args := [d] }
  | _ => none }
def dialSendsRow : OpenClaim := { program := "ytpkkfdmhbbipoaagreat", sum := "76b8df2956a545f16d589bb0be7a429e0c80e218bd3ca7e90c4a69beeb0aba01", func := "repartee/reparteelaw22.DialSends", spec := "dialSends", unfollowed := true, recurses := true, apart := false }
def DialSendsSaid : Prop := dialSendsRow.holds Tryz.pinned (OpenSpec.ofChange dialSendsSpec)

/-- ITS FALSE NEIGHBOUR: 'it returns false'. Refute it at one input. -/
def dialSendsWrong : ChangeSpec := { name := "dialSends", fn := fun _ => fun
  | [d] => { results := [.lit (.bool false)], args := [d] }
  | _ => none }
def DialSendsWrongFalsely : Prop := dialSendsRow.holds Tryz.pinned (OpenSpec.ofChange dialSendsWrong)

/-- 'reparteelaw22.DialWakes': WHATEVER THE INPUT: true; the input reads as it did. -/
def dialWakesSpec : ChangeSpec := { name := "dialWakes", fn := fun _ => fun
  | [d] => { results := [.lit (.bool true)], args := [d] }
  | _ => none }
def dialWakesRow : OpenClaim := { program := "ytpkkfdmhbbipoaagreat", sum := "76b8df2956a545f16d589bb0be7a429e0c80e218bd3ca7e90c4a69beeb0aba01", func := "repartee/reparteelaw22.DialWakes", spec := "dialWakes", unfollowed := true, recurses := true, apart := false }
def DialWakesSaid : Prop := dialWakesRow.holds Tryz.pinned (OpenSpec.ofChange dialWakesSpec)

/-- ITS FALSE NEIGHBOUR: 'it returns false'. Refute it at one input. -/
def dialWakesWrong : ChangeSpec := { name := "dialWakes", fn := fun _ => fun
  | [d] => { results := [.lit (.bool false)], args := [d] }
  | _ => none }
def DialWakesWrongFalsely : Prop := dialWakesRow.holds Tryz.pinned (OpenSpec.ofChange dialWakesWrong)

/-- 'reparteelaw24.FlowCounts': WHATEVER THE INPUT: true; the input reads as it did. -/
def flowCountsSpec : ChangeSpec := { name := "flowCounts", fn := fun _ => fun
  | [d1, d2] => { results := [.lit (.bool true)], args := [d1, d2] }
  | _ => none }
def flowCountsRow : OpenClaim := { program := "ytpkkfdmhbbipoaagreat", sum := "76b8df2956a545f16d589bb0be7a429e0c80e218bd3ca7e90c4a69beeb0aba01", func := "repartee/reparteelaw24.FlowCounts", spec := "flowCounts", unfollowed := true, recurses := true, apart := false }
def FlowCountsSaid : Prop := flowCountsRow.holds Tryz.pinned (OpenSpec.ofChange flowCountsSpec)

/-- ITS FALSE NEIGHBOUR: 'it returns false'. Refute it at one input. -/
def flowCountsWrong : ChangeSpec := { name := "flowCounts", fn := fun _ => fun
  | [d1, d2] => { results := [.lit (.bool false)], args := [d1, d2] }
  | _ => none }
def FlowCountsWrongFalsely : Prop := flowCountsRow.holds Tryz.pinned (OpenSpec.ofChange flowCountsWrong)

/-- 'reparteelaw24.FlowReaches': WHATEVER THE INPUT: true; the input reads as it did. -/
def flowReachesSpec : ChangeSpec := { name := "flowReaches", fn := fun _ => fun
  | [d1, d2] => { results := [.lit (.bool true)], args := [d1, d2] }
  | _ => none }
def flowReachesRow : OpenClaim := { program := "ytpkkfdmhbbipoaagreat", sum := "76b8df2956a545f16d589bb0be7a429e0c80e218bd3ca7e90c4a69beeb0aba01", func := "repartee/reparteelaw24.FlowReaches", spec := "flowReaches", unfollowed := true, recurses := true, apart := false }
def FlowReachesSaid : Prop := flowReachesRow.holds Tryz.pinned (OpenSpec.ofChange flowReachesSpec)

/-- ITS FALSE NEIGHBOUR: 'it returns false'. Refute it at one input. -/
def flowReachesWrong : ChangeSpec := { name := "flowReaches", fn := fun _ => fun
  | [d1, d2] => { results := [.lit (.bool false)], args := [d1, d2] }
  | _ => none }
def FlowReachesWrongFalsely : Prop := flowReachesRow.holds Tryz.pinned (OpenSpec.ofChange flowReachesWrong)

/-- 'reparteelaw23.SoloRuns': WHATEVER THE INPUT: true; the input reads as it did. -/
def soloRunsSpec : ChangeSpec := { name := "soloRuns", fn := fun _ => fun
  | [d] => { results := [.lit (.bool true)], args := [d] }
  | _ => none }
def soloRunsRow : OpenClaim := { program := "ytpkkfdmhbbipoaagreat", sum := "76b8df2956a545f16d589bb0be7a429e0c80e218bd3ca7e90c4a69beeb0aba01", func := "repartee/reparteelaw23.SoloRuns", spec := "soloRuns", unfollowed := true, recurses := true, apart := false }
def SoloRunsSaid : Prop := soloRunsRow.holds Tryz.pinned (OpenSpec.ofChange soloRunsSpec)

/-- ITS FALSE NEIGHBOUR: 'it returns false'. Refute it at one input. -/
def soloRunsWrong : ChangeSpec := { name := "soloRuns", fn := fun _ => fun
  | [d] => { results := [.lit (.bool false)], args := [d] }
  | _ => none }
def SoloRunsWrongFalsely : Prop := soloRunsRow.holds Tryz.pinned (OpenSpec.ofChange soloRunsWrong)

/-- 'reparteelaw22.DialPrices': WHATEVER THE INPUT: true; the input reads as it did. -/
def dialPricesSpec : ChangeSpec := { name := "dialPrices", fn := fun _ => fun
  | [d] => { results := [.lit (.bool true)], args := [d] }
  | _ => none }
def dialPricesRow : OpenClaim := { program := "ytpkkfdmhbbipoaagreat", sum := "76b8df2956a545f16d589bb0be7a429e0c80e218bd3ca7e90c4a69beeb0aba01", func := "repartee/reparteelaw22.DialPrices", spec := "dialPrices", unfollowed := true, recurses := true, apart := false }
def DialPricesSaid : Prop := dialPricesRow.holds Tryz.pinned (OpenSpec.ofChange dialPricesSpec)

/-- ITS FALSE NEIGHBOUR: 'it returns false'. Refute it at one input. -/
def dialPricesWrong : ChangeSpec := { name := "dialPrices", fn := fun _ => fun
  | [d] => { results := [.lit (.bool false)], args := [d] }
  | _ => none }
def DialPricesWrongFalsely : Prop := dialPricesRow.holds Tryz.pinned (OpenSpec.ofChange dialPricesWrong)

/-- 'reparteelaw22.DialPlays': WHATEVER THE INPUT: true; the input reads as it did. -/
def dialPlaysSpec : ChangeSpec := { name := "dialPlays", fn := fun _ => fun
  | [d] => { results := [.lit (.bool true)], args := [d] }
  | _ => none }
def dialPlaysRow : OpenClaim := { program := "ytpkkfdmhbbipoaagreat", sum := "76b8df2956a545f16d589bb0be7a429e0c80e218bd3ca7e90c4a69beeb0aba01", func := "repartee/reparteelaw22.DialPlays", spec := "dialPlays", unfollowed := true, recurses := true, apart := false }
def DialPlaysSaid : Prop := dialPlaysRow.holds Tryz.pinned (OpenSpec.ofChange dialPlaysSpec)

/-- ITS FALSE NEIGHBOUR: 'it returns false'. Refute it at one input. -/
def dialPlaysWrong : ChangeSpec := { name := "dialPlays", fn := fun _ => fun
  | [d] => { results := [.lit (.bool false)], args := [d] }
  | _ => none }
def DialPlaysWrongFalsely : Prop := dialPlaysRow.holds Tryz.pinned (OpenSpec.ofChange dialPlaysWrong)

/-- 'reparteelaw24.FlowBounds': WHATEVER THE INPUT: true; the input reads as it did. -/
def flowBoundsSpec : ChangeSpec := { name := "flowBounds", fn := fun _ => fun
  | [d] => { results := [.lit (.bool true)], args := [d] }
  | _ => none }
def flowBoundsRow : OpenClaim := { program := "ytpkkfdmhbbipoaagreat", sum := "76b8df2956a545f16d589bb0be7a429e0c80e218bd3ca7e90c4a69beeb0aba01", func := "repartee/reparteelaw24.FlowBounds", spec := "flowBounds", unfollowed := true, recurses := true, apart := false }
def FlowBoundsSaid : Prop := flowBoundsRow.holds Tryz.pinned (OpenSpec.ofChange flowBoundsSpec)

/-- ITS FALSE NEIGHBOUR: 'it returns false'. Refute it at one input. -/
def flowBoundsWrong : ChangeSpec := { name := "flowBounds", fn := fun _ => fun
  | [d] => { results := [.lit (.bool false)], args := [d] }
  | _ => none }
def FlowBoundsWrongFalsely : Prop := flowBoundsRow.holds Tryz.pinned (OpenSpec.ofChange flowBoundsWrong)

/-- 'reparteelaw24.FlowOnce': WHATEVER THE INPUT: true; the input reads as it did. -/
def flowOnceSpec : ChangeSpec := { name := "flowOnce", fn := fun _ => fun
  | [d] => { results := [.lit (.bool true)], args := [d] }
  | _ => none }
def flowOnceRow : OpenClaim := { program := "ytpkkfdmhbbipoaagreat", sum := "76b8df2956a545f16d589bb0be7a429e0c80e218bd3ca7e90c4a69beeb0aba01", func := "repartee/reparteelaw24.FlowOnce", spec := "flowOnce", unfollowed := true, recurses := true, apart := false }
def FlowOnceSaid : Prop := flowOnceRow.holds Tryz.pinned (OpenSpec.ofChange flowOnceSpec)

/-- ITS FALSE NEIGHBOUR: 'it returns false'. Refute it at one input. -/
def flowOnceWrong : ChangeSpec := { name := "flowOnce", fn := fun _ => fun
  | [d] => { results := [.lit (.bool false)], args := [d] }
  | _ => none }
def FlowOnceWrongFalsely : Prop := flowOnceRow.holds Tryz.pinned (OpenSpec.ofChange flowOnceWrong)

/- THE SECOND FORM. 'bulk': how many values and letters a reading holds, each counted each time it is reached (what is shared counts as often as it is met; a slice's spare places count too). A statement '..UptoSaid' is the law's where the arguments, and the package variables that the reading takes, are together of bulk at most 1048576: NARROWER than '..Said'. Prove '..Said' where nothing that the law and all that it calls make is longer than what came in: it says more and counts as full. Else prove '..UptoSaid'. A law counts once. -/
mutual
def uptoBulk {H : Type} : DataW H → Nat
  | .lit (.string bytes) => bytes.length + 1
  | .lit _ => 1
  | .nil => 1
  | .ptr d => uptoBulk d + 1
  | .slice elems spare => uptoBulkAll elems + uptoBulkAll spare + 1
  | .agg parts => uptoBulkAll parts + 1
  | .iface _ d => uptoBulk d + 1
  | .map entries => uptoBulkEntries entries + 1
  | .held _ => 1
def uptoBulkAll {H : Type} : List (DataW H) → Nat
  | [] => 0
  | d :: r => uptoBulk d + uptoBulkAll r
def uptoBulkEntries {H : Type} : List (Lit × DataW H) → Nat
  | [] => 0
  | x :: r => uptoBulkEntry x + uptoBulkEntries r
def uptoBulkEntry {H : Type} : Lit × DataW H → Nat
  | (.string bytes, d) => bytes.length + uptoBulk d + 1
  | (_, d) => uptoBulk d + 1
 end
def uptoSmall : (H : Type) → List (DataW H) → Bool := fun _ ds => decide (uptoBulkAll ds ≤ 1048576)
def OpenSpec.upto (s : _root_.Go.ChangeSpec) : _root_.Go.OpenSpec := { _root_.Go.OpenSpec.ofChange s with cond := some uptoSmall }

/-- 'reparteelaw22.DialSends', WHERE WHAT IT READS IS OF BULK AT MOST 1048576: true; the input reads as it did. -/
def dialSendsUptoRow : OpenClaim := { program := "ytpkkfdmhbbipoaagreat", sum := "76b8df2956a545f16d589bb0be7a429e0c80e218bd3ca7e90c4a69beeb0aba01", func := "repartee/reparteelaw22.DialSends", spec := "dialSends", unfollowed := true, recurses := true, apart := false, narrowed := true }
def DialSendsUptoSaid : Prop := dialSendsUptoRow.holds Tryz.pinned (OpenSpec.upto dialSendsSpec)

/-- 'reparteelaw22.DialWakes', WHERE WHAT IT READS IS OF BULK AT MOST 1048576: true; the input reads as it did. -/
def dialWakesUptoRow : OpenClaim := { program := "ytpkkfdmhbbipoaagreat", sum := "76b8df2956a545f16d589bb0be7a429e0c80e218bd3ca7e90c4a69beeb0aba01", func := "repartee/reparteelaw22.DialWakes", spec := "dialWakes", unfollowed := true, recurses := true, apart := false, narrowed := true }
def DialWakesUptoSaid : Prop := dialWakesUptoRow.holds Tryz.pinned (OpenSpec.upto dialWakesSpec)

/-- 'reparteelaw24.FlowCounts', WHERE WHAT IT READS IS OF BULK AT MOST 1048576: true; the input reads as it did. -/
def flowCountsUptoRow : OpenClaim := { program := "ytpkkfdmhbbipoaagreat", sum := "76b8df2956a545f16d589bb0be7a429e0c80e218bd3ca7e90c4a69beeb0aba01", func := "repartee/reparteelaw24.FlowCounts", spec := "flowCounts", unfollowed := true, recurses := true, apart := false, narrowed := true }
def FlowCountsUptoSaid : Prop := flowCountsUptoRow.holds Tryz.pinned (OpenSpec.upto flowCountsSpec)

/-- 'reparteelaw24.FlowReaches', WHERE WHAT IT READS IS OF BULK AT MOST 1048576: true; the input reads as it did. -/
def flowReachesUptoRow : OpenClaim := { program := "ytpkkfdmhbbipoaagreat", sum := "76b8df2956a545f16d589bb0be7a429e0c80e218bd3ca7e90c4a69beeb0aba01", func := "repartee/reparteelaw24.FlowReaches", spec := "flowReaches", unfollowed := true, recurses := true, apart := false, narrowed := true }
def FlowReachesUptoSaid : Prop := flowReachesUptoRow.holds Tryz.pinned (OpenSpec.upto flowReachesSpec)

/-- 'reparteelaw23.SoloRuns', WHERE WHAT IT READS IS OF BULK AT MOST 1048576: true; the input reads as it did. -/
def soloRunsUptoRow : OpenClaim := { program := "ytpkkfdmhbbipoaagreat", sum := "76b8df2956a545f16d589bb0be7a429e0c80e218bd3ca7e90c4a69beeb0aba01", func := "repartee/reparteelaw23.SoloRuns", spec := "soloRuns", unfollowed := true, recurses := true, apart := false, narrowed := true }
def SoloRunsUptoSaid : Prop := soloRunsUptoRow.holds Tryz.pinned (OpenSpec.upto soloRunsSpec)

/-- 'reparteelaw22.DialPrices', WHERE WHAT IT READS IS OF BULK AT MOST 1048576: true; the input reads as it did. -/
def dialPricesUptoRow : OpenClaim := { program := "ytpkkfdmhbbipoaagreat", sum := "76b8df2956a545f16d589bb0be7a429e0c80e218bd3ca7e90c4a69beeb0aba01", func := "repartee/reparteelaw22.DialPrices", spec := "dialPrices", unfollowed := true, recurses := true, apart := false, narrowed := true }
def DialPricesUptoSaid : Prop := dialPricesUptoRow.holds Tryz.pinned (OpenSpec.upto dialPricesSpec)

/-- 'reparteelaw22.DialPlays', WHERE WHAT IT READS IS OF BULK AT MOST 1048576: true; the input reads as it did. -/
def dialPlaysUptoRow : OpenClaim := { program := "ytpkkfdmhbbipoaagreat", sum := "76b8df2956a545f16d589bb0be7a429e0c80e218bd3ca7e90c4a69beeb0aba01", func := "repartee/reparteelaw22.DialPlays", spec := "dialPlays", unfollowed := true, recurses := true, apart := false, narrowed := true }
def DialPlaysUptoSaid : Prop := dialPlaysUptoRow.holds Tryz.pinned (OpenSpec.upto dialPlaysSpec)

/-- 'reparteelaw24.FlowBounds', WHERE WHAT IT READS IS OF BULK AT MOST 1048576: true; the input reads as it did. -/
def flowBoundsUptoRow : OpenClaim := { program := "ytpkkfdmhbbipoaagreat", sum := "76b8df2956a545f16d589bb0be7a429e0c80e218bd3ca7e90c4a69beeb0aba01", func := "repartee/reparteelaw24.FlowBounds", spec := "flowBounds", unfollowed := true, recurses := true, apart := false, narrowed := true }
def FlowBoundsUptoSaid : Prop := flowBoundsUptoRow.holds Tryz.pinned (OpenSpec.upto flowBoundsSpec)

/-- 'reparteelaw24.FlowOnce', WHERE WHAT IT READS IS OF BULK AT MOST 1048576: true; the input reads as it did. -/
def flowOnceUptoRow : OpenClaim := { program := "ytpkkfdmhbbipoaagreat", sum := "76b8df2956a545f16d589bb0be7a429e0c80e218bd3ca7e90c4a69beeb0aba01", func := "repartee/reparteelaw24.FlowOnce", spec := "flowOnce", unfollowed := true, recurses := true, apart := false, narrowed := true }
def FlowOnceUptoSaid : Prop := flowOnceUptoRow.holds Tryz.pinned (OpenSpec.upto flowOnceSpec)

end Rows
end Go.Proofs.YtpkkfdmhbbipoaaGreat
