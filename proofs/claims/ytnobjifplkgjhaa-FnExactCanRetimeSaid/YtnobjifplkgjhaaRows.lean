/-
  No cell of these rows narrows 'for every input' (looked for: loops, veiled, ifaces, maps, wideKeys, modest, calm, conditions, laid).
  DERIVED. THE GIVEN ROWS OF THIS SEAT. 12 by the template 'for every input the law returns true; each argument reads behind the call as it read before'; 0 by the template 'total and deterministic' (their statements: YtnobjifplkgjhaaTotals.lean).
  GIVEN WITH THE SEED: the statements are not yours to turn. If you find one false, say at which input.
  Laid BY PROGRAM, IN A SANDBOX (cutbox-rows.mjs): the forced cells as the released guide's own fill.sh prints them over the translation d48819df1ded4848… (all of the seat's roots in one cut). By AI agents, Wed Nov 11 2026. No macro, syntax, notation, axiom, sorry.
-/
import Derived.Test.YtnobjifplkgjhaaChecked
import GoSem.Claim
import GoSem.ClaimJoined
import GoSem.ClaimMapViews
import Derived.JoinedTies
import Derived.KernelRfl
namespace Go.Proofs.Ytnobjifplkgjhaa
/- THE CELL 'sum', in the pinned program and in every row, IS THE sha256 OF THE DUMP (.gsa) THAT YtnobjifplkgjhaaProg.lean LOADS. Nothing in Lean hashes anything: it is a label: what it is worth is what the hold of that sum in a sandbox is worth. -/
noncomputable def Try.pinned : Pinned := { name := "ytnobjifplkgjhaa", sum := "d48819df1ded4848a272dc7d1fc5195558af9b609472bd90714b0d9a69aa6cdf", checked := Try.checked }
namespace Rows
def none {H : Type} : Left H := { results := [], args := [] }

/-- 'laws.FnExactBddValid': WHATEVER THE INPUT: true; the input reads as it did. -/
def fnExactBddValidSpec : ChangeSpec := { name := "fnExactBddValid", fn := fun _ => fun
  | [d] => { results := [.lit (.bool true)], args := [d] }
  | _ => none }
def fnExactBddValidRow : OpenClaim := { program := "ytnobjifplkgjhaa", sum := "d48819df1ded4848a272dc7d1fc5195558af9b609472bd90714b0d9a69aa6cdf", func := "loop.example/fpgatoolchain/laws.FnExactBddValid", spec := "fnExactBddValid", plainKeys := false, apart := false }
def FnExactBddValidSaid : Prop := fnExactBddValidRow.holds Try.pinned (OpenSpec.ofChange fnExactBddValidSpec)

/-- ITS FALSE NEIGHBOUR: 'it returns false'. Refute it at one input. -/
def fnExactBddValidWrong : ChangeSpec := { name := "fnExactBddValid", fn := fun _ => fun
  | [d] => { results := [.lit (.bool false)], args := [d] }
  | _ => none }
def FnExactBddValidWrongFalsely : Prop := fnExactBddValidRow.holds Try.pinned (OpenSpec.ofChange fnExactBddValidWrong)

/-- 'laws.FnClausesValid': WHATEVER THE INPUT: true; the input reads as it did. -/
def fnClausesValidSpec : ChangeSpec := { name := "fnClausesValid", fn := fun _ => fun
  | [d] => { results := [.lit (.bool true)], args := [d] }
  | _ => none }
def fnClausesValidRow : OpenClaim := { program := "ytnobjifplkgjhaa", sum := "d48819df1ded4848a272dc7d1fc5195558af9b609472bd90714b0d9a69aa6cdf", func := "loop.example/fpgatoolchain/laws.FnClausesValid", spec := "fnClausesValid", plainKeys := false, apart := false }
def FnClausesValidSaid : Prop := fnClausesValidRow.holds Try.pinned (OpenSpec.ofChange fnClausesValidSpec)

/-- ITS FALSE NEIGHBOUR: 'it returns false'. Refute it at one input. -/
def fnClausesValidWrong : ChangeSpec := { name := "fnClausesValid", fn := fun _ => fun
  | [d] => { results := [.lit (.bool false)], args := [d] }
  | _ => none }
def FnClausesValidWrongFalsely : Prop := fnClausesValidRow.holds Try.pinned (OpenSpec.ofChange fnClausesValidWrong)

/-- 'laws.FnExactEvalBdd': WHATEVER THE INPUT: true; the input reads as it did. -/
def fnExactEvalBddSpec : ChangeSpec := { name := "fnExactEvalBdd", fn := fun _ => fun
  | [d1, d2] => { results := [.lit (.bool true)], args := [d1, d2] }
  | _ => none }
def fnExactEvalBddRow : OpenClaim := { program := "ytnobjifplkgjhaa", sum := "d48819df1ded4848a272dc7d1fc5195558af9b609472bd90714b0d9a69aa6cdf", func := "loop.example/fpgatoolchain/laws.FnExactEvalBdd", spec := "fnExactEvalBdd", plainKeys := false, apart := false }
def FnExactEvalBddSaid : Prop := fnExactEvalBddRow.holds Try.pinned (OpenSpec.ofChange fnExactEvalBddSpec)

/-- ITS FALSE NEIGHBOUR: 'it returns false'. Refute it at one input. -/
def fnExactEvalBddWrong : ChangeSpec := { name := "fnExactEvalBdd", fn := fun _ => fun
  | [d1, d2] => { results := [.lit (.bool false)], args := [d1, d2] }
  | _ => none }
def FnExactEvalBddWrongFalsely : Prop := fnExactEvalBddRow.holds Try.pinned (OpenSpec.ofChange fnExactEvalBddWrong)

/-- 'laws.FnCanRetime': WHATEVER THE INPUT: true; the input reads as it did. -/
def fnCanRetimeSpec : ChangeSpec := { name := "fnCanRetime", fn := fun _ => fun
  | [d] => { results := [.lit (.bool true)], args := [d] }
  | _ => none }
def fnCanRetimeRow : OpenClaim := { program := "ytnobjifplkgjhaa", sum := "d48819df1ded4848a272dc7d1fc5195558af9b609472bd90714b0d9a69aa6cdf", func := "loop.example/fpgatoolchain/laws.FnCanRetime", spec := "fnCanRetime", plainKeys := false, apart := false }
def FnCanRetimeSaid : Prop := fnCanRetimeRow.holds Try.pinned (OpenSpec.ofChange fnCanRetimeSpec)

/-- ITS FALSE NEIGHBOUR: 'it returns false'. Refute it at one input. -/
def fnCanRetimeWrong : ChangeSpec := { name := "fnCanRetime", fn := fun _ => fun
  | [d] => { results := [.lit (.bool false)], args := [d] }
  | _ => none }
def FnCanRetimeWrongFalsely : Prop := fnCanRetimeRow.holds Try.pinned (OpenSpec.ofChange fnCanRetimeWrong)

/-- 'laws.FnExactCanRetime': WHATEVER THE INPUT: true; the input reads as it did. -/
def fnExactCanRetimeSpec : ChangeSpec := { name := "fnExactCanRetime", fn := fun _ => fun
  | [d1, d2] => { results := [.lit (.bool true)], args := [d1, d2] }
  | _ => none }
def fnExactCanRetimeRow : OpenClaim := { program := "ytnobjifplkgjhaa", sum := "d48819df1ded4848a272dc7d1fc5195558af9b609472bd90714b0d9a69aa6cdf", func := "loop.example/fpgatoolchain/laws.FnExactCanRetime", spec := "fnExactCanRetime", plainKeys := false, apart := false }
def FnExactCanRetimeSaid : Prop := fnExactCanRetimeRow.holds Try.pinned (OpenSpec.ofChange fnExactCanRetimeSpec)

/-- ITS FALSE NEIGHBOUR: 'it returns false'. Refute it at one input. -/
def fnExactCanRetimeWrong : ChangeSpec := { name := "fnExactCanRetime", fn := fun _ => fun
  | [d1, d2] => { results := [.lit (.bool false)], args := [d1, d2] }
  | _ => none }
def FnExactCanRetimeWrongFalsely : Prop := fnExactCanRetimeRow.holds Try.pinned (OpenSpec.ofChange fnExactCanRetimeWrong)

/-- 'laws.FnExactCountBdd': WHATEVER THE INPUT: true; the input reads as it did. -/
def fnExactCountBddSpec : ChangeSpec := { name := "fnExactCountBdd", fn := fun _ => fun
  | [d1, d2] => { results := [.lit (.bool true)], args := [d1, d2] }
  | _ => none }
def fnExactCountBddRow : OpenClaim := { program := "ytnobjifplkgjhaa", sum := "d48819df1ded4848a272dc7d1fc5195558af9b609472bd90714b0d9a69aa6cdf", func := "loop.example/fpgatoolchain/laws.FnExactCountBdd", spec := "fnExactCountBdd", plainKeys := false, apart := false }
def FnExactCountBddSaid : Prop := fnExactCountBddRow.holds Try.pinned (OpenSpec.ofChange fnExactCountBddSpec)

/-- ITS FALSE NEIGHBOUR: 'it returns false'. Refute it at one input. -/
def fnExactCountBddWrong : ChangeSpec := { name := "fnExactCountBdd", fn := fun _ => fun
  | [d1, d2] => { results := [.lit (.bool false)], args := [d1, d2] }
  | _ => none }
def FnExactCountBddWrongFalsely : Prop := fnExactCountBddRow.holds Try.pinned (OpenSpec.ofChange fnExactCountBddWrong)

/-- 'laws.FnCanScan': WHATEVER THE INPUT: true; the input reads as it did. -/
def fnCanScanSpec : ChangeSpec := { name := "fnCanScan", fn := fun _ => fun
  | [d] => { results := [.lit (.bool true)], args := [d] }
  | _ => none }
def fnCanScanRow : OpenClaim := { program := "ytnobjifplkgjhaa", sum := "d48819df1ded4848a272dc7d1fc5195558af9b609472bd90714b0d9a69aa6cdf", func := "loop.example/fpgatoolchain/laws.FnCanScan", spec := "fnCanScan", unfollowed := true, recurses := true, plainKeys := false, apart := false }
def FnCanScanSaid : Prop := fnCanScanRow.holds Try.pinned (OpenSpec.ofChange fnCanScanSpec)

/-- ITS FALSE NEIGHBOUR: 'it returns false'. Refute it at one input. -/
def fnCanScanWrong : ChangeSpec := { name := "fnCanScan", fn := fun _ => fun
  | [d] => { results := [.lit (.bool false)], args := [d] }
  | _ => none }
def FnCanScanWrongFalsely : Prop := fnCanScanRow.holds Try.pinned (OpenSpec.ofChange fnCanScanWrong)

/-- 'laws.FnBddValid': WHATEVER THE INPUT: true; the input reads as it did. -/
def fnBddValidSpec : ChangeSpec := { name := "fnBddValid", fn := fun _ => fun
  | [d] => { results := [.lit (.bool true)], args := [d] }
  | _ => none }
def fnBddValidRow : OpenClaim := { program := "ytnobjifplkgjhaa", sum := "d48819df1ded4848a272dc7d1fc5195558af9b609472bd90714b0d9a69aa6cdf", func := "loop.example/fpgatoolchain/laws.FnBddValid", spec := "fnBddValid", recurses := true, plainKeys := false, apart := false }
def FnBddValidSaid : Prop := fnBddValidRow.holds Try.pinned (OpenSpec.ofChange fnBddValidSpec)

/-- ITS FALSE NEIGHBOUR: 'it returns false'. Refute it at one input. -/
def fnBddValidWrong : ChangeSpec := { name := "fnBddValid", fn := fun _ => fun
  | [d] => { results := [.lit (.bool false)], args := [d] }
  | _ => none }
def FnBddValidWrongFalsely : Prop := fnBddValidRow.holds Try.pinned (OpenSpec.ofChange fnBddValidWrong)

/-- 'laws.FnLeaves': WHATEVER THE INPUT: true; the input reads as it did. -/
def fnLeavesSpec : ChangeSpec := { name := "fnLeaves", fn := fun _ => fun
  | [d] => { results := [.lit (.bool true)], args := [d] }
  | _ => none }
def fnLeavesRow : OpenClaim := { program := "ytnobjifplkgjhaa", sum := "d48819df1ded4848a272dc7d1fc5195558af9b609472bd90714b0d9a69aa6cdf", func := "loop.example/fpgatoolchain/laws.FnLeaves", spec := "fnLeaves", recurses := true, plainKeys := false, apart := false }
def FnLeavesSaid : Prop := fnLeavesRow.holds Try.pinned (OpenSpec.ofChange fnLeavesSpec)

/-- ITS FALSE NEIGHBOUR: 'it returns false'. Refute it at one input. -/
def fnLeavesWrong : ChangeSpec := { name := "fnLeaves", fn := fun _ => fun
  | [d] => { results := [.lit (.bool false)], args := [d] }
  | _ => none }
def FnLeavesWrongFalsely : Prop := fnLeavesRow.holds Try.pinned (OpenSpec.ofChange fnLeavesWrong)

/-- 'laws.FnExactLeaves': WHATEVER THE INPUT: true; the input reads as it did. -/
def fnExactLeavesSpec : ChangeSpec := { name := "fnExactLeaves", fn := fun _ => fun
  | [d1, d2] => { results := [.lit (.bool true)], args := [d1, d2] }
  | _ => none }
def fnExactLeavesRow : OpenClaim := { program := "ytnobjifplkgjhaa", sum := "d48819df1ded4848a272dc7d1fc5195558af9b609472bd90714b0d9a69aa6cdf", func := "loop.example/fpgatoolchain/laws.FnExactLeaves", spec := "fnExactLeaves", recurses := true, plainKeys := false, apart := false }
def FnExactLeavesSaid : Prop := fnExactLeavesRow.holds Try.pinned (OpenSpec.ofChange fnExactLeavesSpec)

/-- ITS FALSE NEIGHBOUR: 'it returns false'. Refute it at one input. -/
def fnExactLeavesWrong : ChangeSpec := { name := "fnExactLeaves", fn := fun _ => fun
  | [d1, d2] => { results := [.lit (.bool false)], args := [d1, d2] }
  | _ => none }
def FnExactLeavesWrongFalsely : Prop := fnExactLeavesRow.holds Try.pinned (OpenSpec.ofChange fnExactLeavesWrong)

/-- 'laws.FnExactTseitin': WHATEVER THE INPUT: true; the input reads as it did. -/
def fnExactTseitinSpec : ChangeSpec := { name := "fnExactTseitin", fn := fun _ => fun
  | [d1, d2] => { results := [.lit (.bool true)], args := [d1, d2] }
  | _ => none }
def fnExactTseitinRow : OpenClaim := { program := "ytnobjifplkgjhaa", sum := "d48819df1ded4848a272dc7d1fc5195558af9b609472bd90714b0d9a69aa6cdf", func := "loop.example/fpgatoolchain/laws.FnExactTseitin", spec := "fnExactTseitin", plainKeys := false, apart := false }
def FnExactTseitinSaid : Prop := fnExactTseitinRow.holds Try.pinned (OpenSpec.ofChange fnExactTseitinSpec)

/-- ITS FALSE NEIGHBOUR: 'it returns false'. Refute it at one input. -/
def fnExactTseitinWrong : ChangeSpec := { name := "fnExactTseitin", fn := fun _ => fun
  | [d1, d2] => { results := [.lit (.bool false)], args := [d1, d2] }
  | _ => none }
def FnExactTseitinWrongFalsely : Prop := fnExactTseitinRow.holds Try.pinned (OpenSpec.ofChange fnExactTseitinWrong)

/-- 'laws.FnExactSameFunction': WHATEVER THE INPUT: true; the input reads as it did. -/
def fnExactSameFunctionSpec : ChangeSpec := { name := "fnExactSameFunction", fn := fun _ => fun
  | [d1, d2, d3] => { results := [.lit (.bool true)], args := [d1, d2, d3] }
  | _ => none }
def fnExactSameFunctionRow : OpenClaim := { program := "ytnobjifplkgjhaa", sum := "d48819df1ded4848a272dc7d1fc5195558af9b609472bd90714b0d9a69aa6cdf", func := "loop.example/fpgatoolchain/laws.FnExactSameFunction", spec := "fnExactSameFunction", plainKeys := false, apart := false }
def FnExactSameFunctionSaid : Prop := fnExactSameFunctionRow.holds Try.pinned (OpenSpec.ofChange fnExactSameFunctionSpec)

/-- ITS FALSE NEIGHBOUR: 'it returns false'. Refute it at one input. -/
def fnExactSameFunctionWrong : ChangeSpec := { name := "fnExactSameFunction", fn := fun _ => fun
  | [d1, d2, d3] => { results := [.lit (.bool false)], args := [d1, d2, d3] }
  | _ => none }
def FnExactSameFunctionWrongFalsely : Prop := fnExactSameFunctionRow.holds Try.pinned (OpenSpec.ofChange fnExactSameFunctionWrong)

/- THE SECOND FORM. 'bulk': how many values and letters a reading holds, each counted each time it is reached (what is shared counts as often as it is met; a slice's spare places count too). A statement '..UptoSaid' is the law's where the arguments, and the package variables that the reading takes, are together of bulk at most 1048576: NARROWER than '..Said'. Prove '..Said' where nothing that the law and all that it calls make is longer than what came in: it says more and counts as full. Else prove '..UptoSaid'. A law counts once. -/
mutual
def uptoBulk {H : Type} : DataW H → Nat
  | .lit (.string bytes) => bytes.length + 1
  | .lit _ => 1
  | .nil => 1
  | .ptr d => uptoBulk d + 1
  | .slice elems spare => uptoBulkAll elems + uptoBulkAll spare + 1
  | .agg parts => uptoBulkAll parts + 1
  | .iface _ d => uptoBulk d + 1
  | .map entries => uptoBulkEntries entries + 1
  | .held _ => 1
def uptoBulkAll {H : Type} : List (DataW H) → Nat
  | [] => 0
  | d :: r => uptoBulk d + uptoBulkAll r
def uptoBulkEntries {H : Type} : List (Lit × DataW H) → Nat
  | [] => 0
  | x :: r => uptoBulkEntry x + uptoBulkEntries r
def uptoBulkEntry {H : Type} : Lit × DataW H → Nat
  | (.string bytes, d) => bytes.length + uptoBulk d + 1
  | (_, d) => uptoBulk d + 1
 end
def uptoSmall : (H : Type) → List (DataW H) → Bool := fun _ ds => decide (uptoBulkAll ds ≤ 1048576)
def OpenSpec.upto (s : _root_.Go.ChangeSpec) : _root_.Go.OpenSpec := { _root_.Go.OpenSpec.ofChange s with cond := some uptoSmall }

/-- 'laws.FnExactBddValid', WHERE WHAT IT READS IS OF BULK AT MOST 1048576: true; the input reads as it did. -/
def fnExactBddValidUptoRow : OpenClaim := { program := "ytnobjifplkgjhaa", sum := "d48819df1ded4848a272dc7d1fc5195558af9b609472bd90714b0d9a69aa6cdf", func := "loop.example/fpgatoolchain/laws.FnExactBddValid", spec := "fnExactBddValid", plainKeys := false, apart := false, narrowed := true }
def FnExactBddValidUptoSaid : Prop := fnExactBddValidUptoRow.holds Try.pinned (OpenSpec.upto fnExactBddValidSpec)

/-- 'laws.FnClausesValid', WHERE WHAT IT READS IS OF BULK AT MOST 1048576: true; the input reads as it did. -/
def fnClausesValidUptoRow : OpenClaim := { program := "ytnobjifplkgjhaa", sum := "d48819df1ded4848a272dc7d1fc5195558af9b609472bd90714b0d9a69aa6cdf", func := "loop.example/fpgatoolchain/laws.FnClausesValid", spec := "fnClausesValid", plainKeys := false, apart := false, narrowed := true }
def FnClausesValidUptoSaid : Prop := fnClausesValidUptoRow.holds Try.pinned (OpenSpec.upto fnClausesValidSpec)

/-- 'laws.FnExactEvalBdd', WHERE WHAT IT READS IS OF BULK AT MOST 1048576: true; the input reads as it did. -/
def fnExactEvalBddUptoRow : OpenClaim := { program := "ytnobjifplkgjhaa", sum := "d48819df1ded4848a272dc7d1fc5195558af9b609472bd90714b0d9a69aa6cdf", func := "loop.example/fpgatoolchain/laws.FnExactEvalBdd", spec := "fnExactEvalBdd", plainKeys := false, apart := false, narrowed := true }
def FnExactEvalBddUptoSaid : Prop := fnExactEvalBddUptoRow.holds Try.pinned (OpenSpec.upto fnExactEvalBddSpec)

/-- 'laws.FnCanRetime', WHERE WHAT IT READS IS OF BULK AT MOST 1048576: true; the input reads as it did. -/
def fnCanRetimeUptoRow : OpenClaim := { program := "ytnobjifplkgjhaa", sum := "d48819df1ded4848a272dc7d1fc5195558af9b609472bd90714b0d9a69aa6cdf", func := "loop.example/fpgatoolchain/laws.FnCanRetime", spec := "fnCanRetime", plainKeys := false, apart := false, narrowed := true }
def FnCanRetimeUptoSaid : Prop := fnCanRetimeUptoRow.holds Try.pinned (OpenSpec.upto fnCanRetimeSpec)

/-- 'laws.FnExactCanRetime', WHERE WHAT IT READS IS OF BULK AT MOST 1048576: true; the input reads as it did. -/
def fnExactCanRetimeUptoRow : OpenClaim := { program := "ytnobjifplkgjhaa", sum := "d48819df1ded4848a272dc7d1fc5195558af9b609472bd90714b0d9a69aa6cdf", func := "loop.example/fpgatoolchain/laws.FnExactCanRetime", spec := "fnExactCanRetime", plainKeys := false, apart := false, narrowed := true }
def FnExactCanRetimeUptoSaid : Prop := fnExactCanRetimeUptoRow.holds Try.pinned (OpenSpec.upto fnExactCanRetimeSpec)

/-- 'laws.FnExactCountBdd', WHERE WHAT IT READS IS OF BULK AT MOST 1048576: true; the input reads as it did. -/
def fnExactCountBddUptoRow : OpenClaim := { program := "ytnobjifplkgjhaa", sum := "d48819df1ded4848a272dc7d1fc5195558af9b609472bd90714b0d9a69aa6cdf", func := "loop.example/fpgatoolchain/laws.FnExactCountBdd", spec := "fnExactCountBdd", plainKeys := false, apart := false, narrowed := true }
def FnExactCountBddUptoSaid : Prop := fnExactCountBddUptoRow.holds Try.pinned (OpenSpec.upto fnExactCountBddSpec)

/-- 'laws.FnCanScan', WHERE WHAT IT READS IS OF BULK AT MOST 1048576: true; the input reads as it did. -/
def fnCanScanUptoRow : OpenClaim := { program := "ytnobjifplkgjhaa", sum := "d48819df1ded4848a272dc7d1fc5195558af9b609472bd90714b0d9a69aa6cdf", func := "loop.example/fpgatoolchain/laws.FnCanScan", spec := "fnCanScan", unfollowed := true, recurses := true, plainKeys := false, apart := false, narrowed := true }
def FnCanScanUptoSaid : Prop := fnCanScanUptoRow.holds Try.pinned (OpenSpec.upto fnCanScanSpec)

/-- 'laws.FnBddValid', WHERE WHAT IT READS IS OF BULK AT MOST 1048576: true; the input reads as it did. -/
def fnBddValidUptoRow : OpenClaim := { program := "ytnobjifplkgjhaa", sum := "d48819df1ded4848a272dc7d1fc5195558af9b609472bd90714b0d9a69aa6cdf", func := "loop.example/fpgatoolchain/laws.FnBddValid", spec := "fnBddValid", recurses := true, plainKeys := false, apart := false, narrowed := true }
def FnBddValidUptoSaid : Prop := fnBddValidUptoRow.holds Try.pinned (OpenSpec.upto fnBddValidSpec)

/-- 'laws.FnLeaves', WHERE WHAT IT READS IS OF BULK AT MOST 1048576: true; the input reads as it did. -/
def fnLeavesUptoRow : OpenClaim := { program := "ytnobjifplkgjhaa", sum := "d48819df1ded4848a272dc7d1fc5195558af9b609472bd90714b0d9a69aa6cdf", func := "loop.example/fpgatoolchain/laws.FnLeaves", spec := "fnLeaves", recurses := true, plainKeys := false, apart := false, narrowed := true }
def FnLeavesUptoSaid : Prop := fnLeavesUptoRow.holds Try.pinned (OpenSpec.upto fnLeavesSpec)

/-- 'laws.FnExactLeaves', WHERE WHAT IT READS IS OF BULK AT MOST 1048576: true; the input reads as it did. -/
def fnExactLeavesUptoRow : OpenClaim := { program := "ytnobjifplkgjhaa", sum := "d48819df1ded4848a272dc7d1fc5195558af9b609472bd90714b0d9a69aa6cdf", func := "loop.example/fpgatoolchain/laws.FnExactLeaves", spec := "fnExactLeaves", recurses := true, plainKeys := false, apart := false, narrowed := true }
def FnExactLeavesUptoSaid : Prop := fnExactLeavesUptoRow.holds Try.pinned (OpenSpec.upto fnExactLeavesSpec)

/-- 'laws.FnExactTseitin', WHERE WHAT IT READS IS OF BULK AT MOST 1048576: true; the input reads as it did. -/
def fnExactTseitinUptoRow : OpenClaim := { program := "ytnobjifplkgjhaa", sum := "d48819df1ded4848a272dc7d1fc5195558af9b609472bd90714b0d9a69aa6cdf", func := "loop.example/fpgatoolchain/laws.FnExactTseitin", spec := "fnExactTseitin", plainKeys := false, apart := false, narrowed := true }
def FnExactTseitinUptoSaid : Prop := fnExactTseitinUptoRow.holds Try.pinned (OpenSpec.upto fnExactTseitinSpec)

/-- 'laws.FnExactSameFunction', WHERE WHAT IT READS IS OF BULK AT MOST 1048576: true; the input reads as it did. -/
def fnExactSameFunctionUptoRow : OpenClaim := { program := "ytnobjifplkgjhaa", sum := "d48819df1ded4848a272dc7d1fc5195558af9b609472bd90714b0d9a69aa6cdf", func := "loop.example/fpgatoolchain/laws.FnExactSameFunction", spec := "fnExactSameFunction", plainKeys := false, apart := false, narrowed := true }
def FnExactSameFunctionUptoSaid : Prop := fnExactSameFunctionUptoRow.holds Try.pinned (OpenSpec.upto fnExactSameFunctionSpec)

end Rows
end Go.Proofs.Ytnobjifplkgjhaa
