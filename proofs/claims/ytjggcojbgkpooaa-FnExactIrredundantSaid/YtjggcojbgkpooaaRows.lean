/-
  No cell of these rows narrows 'for every input' (looked for: loops, veiled, ifaces, maps, wideKeys, modest, calm, conditions, laid).
  DERIVED. THE GIVEN ROWS OF THIS SEAT. 8 by the template 'for every input the law returns true; each argument reads behind the call as it read before'; 0 by the template 'total and deterministic' (their statements: YtjggcojbgkpooaaTotals.lean).
  GIVEN WITH THE SEED: the statements are not yours to turn. If you find one false, say at which input.
  Laid BY PROGRAM, IN A SANDBOX (cutbox-rows.mjs): the forced cells as the released guide's own fill.sh prints them over the translation f38384a3da616511… (all of the seat's roots in one cut). By AI agents, Wed Nov 11 2026. No macro, syntax, notation, axiom, sorry.
-/
import Derived.Test.YtjggcojbgkpooaaChecked
import GoSem.Claim
import GoSem.ClaimJoined
import GoSem.ClaimMapViews
import Derived.JoinedTies
import Derived.KernelRfl
namespace Go.Proofs.Ytjggcojbgkpooaa
/- THE CELL 'sum', in the pinned program and in every row, IS THE sha256 OF THE DUMP (.gsa) THAT YtjggcojbgkpooaaProg.lean LOADS. Nothing in Lean hashes anything: it is a label: what it is worth is what the hold of that sum in a sandbox is worth. -/
noncomputable def Try.pinned : Pinned := { name := "ytjggcojbgkpooaa", sum := "f38384a3da6165110da89e936cb2b3fbd5c4e3d9c3b1c2a56da98a539e010ea9", checked := Try.checked }
namespace Rows
def none {H : Type} : Left H := { results := [], args := [] }

/-- 'laws.FnSameFunction': WHATEVER THE INPUT: true; the input reads as it did. -/
def fnSameFunctionSpec : ChangeSpec := { name := "fnSameFunction", fn := fun _ => fun
  | [d] => { results := [.lit (.bool true)], args := [d] }
  | _ => none }
def fnSameFunctionRow : OpenClaim := { program := "ytjggcojbgkpooaa", sum := "f38384a3da6165110da89e936cb2b3fbd5c4e3d9c3b1c2a56da98a539e010ea9", func := "loop.example/fpgatoolchain/laws.FnSameFunction", spec := "fnSameFunction", recurses := true, plainKeys := false, apart := false }
def FnSameFunctionSaid : Prop := fnSameFunctionRow.holds Try.pinned (OpenSpec.ofChange fnSameFunctionSpec)

/-- ITS FALSE NEIGHBOUR: 'it returns false'. Refute it at one input. -/
def fnSameFunctionWrong : ChangeSpec := { name := "fnSameFunction", fn := fun _ => fun
  | [d] => { results := [.lit (.bool false)], args := [d] }
  | _ => none }
def FnSameFunctionWrongFalsely : Prop := fnSameFunctionRow.holds Try.pinned (OpenSpec.ofChange fnSameFunctionWrong)

/-- 'laws.FnBddEquivalence': WHATEVER THE INPUT: true; the input reads as it did. -/
def fnBddEquivalenceSpec : ChangeSpec := { name := "fnBddEquivalence", fn := fun _ => fun
  | [d] => { results := [.lit (.bool true)], args := [d] }
  | _ => none }
def fnBddEquivalenceRow : OpenClaim := { program := "ytjggcojbgkpooaa", sum := "f38384a3da6165110da89e936cb2b3fbd5c4e3d9c3b1c2a56da98a539e010ea9", func := "loop.example/fpgatoolchain/laws.FnBddEquivalence", spec := "fnBddEquivalence", recurses := true, plainKeys := false, apart := false }
def FnBddEquivalenceSaid : Prop := fnBddEquivalenceRow.holds Try.pinned (OpenSpec.ofChange fnBddEquivalenceSpec)

/-- ITS FALSE NEIGHBOUR: 'it returns false'. Refute it at one input. -/
def fnBddEquivalenceWrong : ChangeSpec := { name := "fnBddEquivalence", fn := fun _ => fun
  | [d] => { results := [.lit (.bool false)], args := [d] }
  | _ => none }
def FnBddEquivalenceWrongFalsely : Prop := fnBddEquivalenceRow.holds Try.pinned (OpenSpec.ofChange fnBddEquivalenceWrong)

/-- 'laws.FnExactIrredundant': WHATEVER THE INPUT: true; the input reads as it did. -/
def fnExactIrredundantSpec : ChangeSpec := { name := "fnExactIrredundant", fn := fun _ => fun
  | [d] => { results := [.lit (.bool true)], args := [d] }
  | _ => none }
def fnExactIrredundantRow : OpenClaim := { program := "ytjggcojbgkpooaa", sum := "f38384a3da6165110da89e936cb2b3fbd5c4e3d9c3b1c2a56da98a539e010ea9", func := "loop.example/fpgatoolchain/laws.FnExactIrredundant", spec := "fnExactIrredundant", plainKeys := false, apart := false }
def FnExactIrredundantSaid : Prop := fnExactIrredundantRow.holds Try.pinned (OpenSpec.ofChange fnExactIrredundantSpec)

/-- ITS FALSE NEIGHBOUR: 'it returns false'. Refute it at one input. -/
def fnExactIrredundantWrong : ChangeSpec := { name := "fnExactIrredundant", fn := fun _ => fun
  | [d] => { results := [.lit (.bool false)], args := [d] }
  | _ => none }
def FnExactIrredundantWrongFalsely : Prop := fnExactIrredundantRow.holds Try.pinned (OpenSpec.ofChange fnExactIrredundantWrong)

/-- 'laws.FnConstantVars': WHATEVER THE INPUT: true; the input reads as it did. -/
def fnConstantVarsSpec : ChangeSpec := { name := "fnConstantVars", fn := fun _ => fun
  | [d] => { results := [.lit (.bool true)], args := [d] }
  | _ => none }
def fnConstantVarsRow : OpenClaim := { program := "ytjggcojbgkpooaa", sum := "f38384a3da6165110da89e936cb2b3fbd5c4e3d9c3b1c2a56da98a539e010ea9", func := "loop.example/fpgatoolchain/laws.FnConstantVars", spec := "fnConstantVars", unfollowed := true, recurses := true, plainKeys := false, apart := false }
def FnConstantVarsSaid : Prop := fnConstantVarsRow.holds Try.pinned (OpenSpec.ofChange fnConstantVarsSpec)

/-- ITS FALSE NEIGHBOUR: 'it returns false'. Refute it at one input. -/
def fnConstantVarsWrong : ChangeSpec := { name := "fnConstantVars", fn := fun _ => fun
  | [d] => { results := [.lit (.bool false)], args := [d] }
  | _ => none }
def FnConstantVarsWrongFalsely : Prop := fnConstantVarsRow.holds Try.pinned (OpenSpec.ofChange fnConstantVarsWrong)

/-- 'laws.FnExactSweep': WHATEVER THE INPUT: true; the input reads as it did. -/
def fnExactSweepSpec : ChangeSpec := { name := "fnExactSweep", fn := fun _ => fun
  | [d] => { results := [.lit (.bool true)], args := [d] }
  | _ => none }
def fnExactSweepRow : OpenClaim := { program := "ytjggcojbgkpooaa", sum := "f38384a3da6165110da89e936cb2b3fbd5c4e3d9c3b1c2a56da98a539e010ea9", func := "loop.example/fpgatoolchain/laws.FnExactSweep", spec := "fnExactSweep", unfollowed := true, recurses := true, plainKeys := false, apart := false }
def FnExactSweepSaid : Prop := fnExactSweepRow.holds Try.pinned (OpenSpec.ofChange fnExactSweepSpec)

/-- ITS FALSE NEIGHBOUR: 'it returns false'. Refute it at one input. -/
def fnExactSweepWrong : ChangeSpec := { name := "fnExactSweep", fn := fun _ => fun
  | [d] => { results := [.lit (.bool false)], args := [d] }
  | _ => none }
def FnExactSweepWrongFalsely : Prop := fnExactSweepRow.holds Try.pinned (OpenSpec.ofChange fnExactSweepWrong)

/-- 'laws.FnSweep': WHATEVER THE INPUT: true; the input reads as it did. -/
def fnSweepSpec : ChangeSpec := { name := "fnSweep", fn := fun _ => fun
  | [d] => { results := [.lit (.bool true)], args := [d] }
  | _ => none }
def fnSweepRow : OpenClaim := { program := "ytjggcojbgkpooaa", sum := "f38384a3da6165110da89e936cb2b3fbd5c4e3d9c3b1c2a56da98a539e010ea9", func := "loop.example/fpgatoolchain/laws.FnSweep", spec := "fnSweep", unfollowed := true, recurses := true, plainKeys := false, apart := false }
def FnSweepSaid : Prop := fnSweepRow.holds Try.pinned (OpenSpec.ofChange fnSweepSpec)

/-- ITS FALSE NEIGHBOUR: 'it returns false'. Refute it at one input. -/
def fnSweepWrong : ChangeSpec := { name := "fnSweep", fn := fun _ => fun
  | [d] => { results := [.lit (.bool false)], args := [d] }
  | _ => none }
def FnSweepWrongFalsely : Prop := fnSweepRow.holds Try.pinned (OpenSpec.ofChange fnSweepWrong)

/-- 'laws.FnRedundantExample': WHATEVER THE INPUT: true; the input reads as it did. -/
def fnRedundantExampleSpec : ChangeSpec := { name := "fnRedundantExample", fn := fun _ => fun
  | [d] => { results := [.lit (.bool true)], args := [d] }
  | _ => none }
def fnRedundantExampleRow : OpenClaim := { program := "ytjggcojbgkpooaa", sum := "f38384a3da6165110da89e936cb2b3fbd5c4e3d9c3b1c2a56da98a539e010ea9", func := "loop.example/fpgatoolchain/laws.FnRedundantExample", spec := "fnRedundantExample", unfollowed := true, recurses := true, plainKeys := false, apart := false }
def FnRedundantExampleSaid : Prop := fnRedundantExampleRow.holds Try.pinned (OpenSpec.ofChange fnRedundantExampleSpec)

/-- ITS FALSE NEIGHBOUR: 'it returns false'. Refute it at one input. -/
def fnRedundantExampleWrong : ChangeSpec := { name := "fnRedundantExample", fn := fun _ => fun
  | [d] => { results := [.lit (.bool false)], args := [d] }
  | _ => none }
def FnRedundantExampleWrongFalsely : Prop := fnRedundantExampleRow.holds Try.pinned (OpenSpec.ofChange fnRedundantExampleWrong)

/-- 'laws.FnExactRemoveRedundancy': WHATEVER THE INPUT: true; the input reads as it did. -/
def fnExactRemoveRedundancySpec : ChangeSpec := { name := "fnExactRemoveRedundancy", fn := fun _ => fun
  | [d] => { results := [.lit (.bool true)], args := [d] }
  | _ => none }
def fnExactRemoveRedundancyRow : OpenClaim := { program := "ytjggcojbgkpooaa", sum := "f38384a3da6165110da89e936cb2b3fbd5c4e3d9c3b1c2a56da98a539e010ea9", func := "loop.example/fpgatoolchain/laws.FnExactRemoveRedundancy", spec := "fnExactRemoveRedundancy", unfollowed := true, recurses := true, plainKeys := false, apart := false }
def FnExactRemoveRedundancySaid : Prop := fnExactRemoveRedundancyRow.holds Try.pinned (OpenSpec.ofChange fnExactRemoveRedundancySpec)

/-- ITS FALSE NEIGHBOUR: 'it returns false'. Refute it at one input. -/
def fnExactRemoveRedundancyWrong : ChangeSpec := { name := "fnExactRemoveRedundancy", fn := fun _ => fun
  | [d] => { results := [.lit (.bool false)], args := [d] }
  | _ => none }
def FnExactRemoveRedundancyWrongFalsely : Prop := fnExactRemoveRedundancyRow.holds Try.pinned (OpenSpec.ofChange fnExactRemoveRedundancyWrong)

/- THE SECOND FORM. 'bulk': how many values and letters a reading holds, each counted each time it is reached (what is shared counts as often as it is met; a slice's spare places count too). A statement '..UptoSaid' is the law's where the arguments, and the package variables that the reading takes, are together of bulk at most 1048576: NARROWER than '..Said'. Prove '..Said' where nothing that the law and all that it calls make is longer than what came in: it says more and counts as full. Else prove '..UptoSaid'. A law counts once. -/
mutual
def uptoBulk {H : Type} : DataW H → Nat
  | .lit (.string bytes) => bytes.length + 1
  | .lit _ => 1
  | .nil => 1
  | .ptr d => uptoBulk d + 1
  | .slice elems spare => uptoBulkAll elems + uptoBulkAll spare + 1
  | .agg parts => uptoBulkAll parts + 1
  | .iface _ d => uptoBulk d + 1
  | .map entries => uptoBulkEntries entries + 1
  | .held _ => 1
def uptoBulkAll {H : Type} : List (DataW H) → Nat
  | [] => 0
  | d :: r => uptoBulk d + uptoBulkAll r
def uptoBulkEntries {H : Type} : List (Lit × DataW H) → Nat
  | [] => 0
  | x :: r => uptoBulkEntry x + uptoBulkEntries r
def uptoBulkEntry {H : Type} : Lit × DataW H → Nat
  | (.string bytes, d) => bytes.length + uptoBulk d + 1
  | (_, d) => uptoBulk d + 1
 end
def uptoSmall : (H : Type) → List (DataW H) → Bool := fun _ ds => decide (uptoBulkAll ds ≤ 1048576)
def OpenSpec.upto (s : _root_.Go.ChangeSpec) : _root_.Go.OpenSpec := { _root_.Go.OpenSpec.ofChange s with cond := some uptoSmall }

/-- 'laws.FnSameFunction', WHERE WHAT IT READS IS OF BULK AT MOST 1048576: true; the input reads as it did. -/
def fnSameFunctionUptoRow : OpenClaim := { program := "ytjggcojbgkpooaa", sum := "f38384a3da6165110da89e936cb2b3fbd5c4e3d9c3b1c2a56da98a539e010ea9", func := "loop.example/fpgatoolchain/laws.FnSameFunction", spec := "fnSameFunction", recurses := true, plainKeys := false, apart := false, narrowed := true }
def FnSameFunctionUptoSaid : Prop := fnSameFunctionUptoRow.holds Try.pinned (OpenSpec.upto fnSameFunctionSpec)

/-- 'laws.FnBddEquivalence', WHERE WHAT IT READS IS OF BULK AT MOST 1048576: true; the input reads as it did. -/
def fnBddEquivalenceUptoRow : OpenClaim := { program := "ytjggcojbgkpooaa", sum := "f38384a3da6165110da89e936cb2b3fbd5c4e3d9c3b1c2a56da98a539e010ea9", func := "loop.example/fpgatoolchain/laws.FnBddEquivalence", spec := "fnBddEquivalence", recurses := true, plainKeys := false, apart := false, narrowed := true }
def FnBddEquivalenceUptoSaid : Prop := fnBddEquivalenceUptoRow.holds Try.pinned (OpenSpec.upto fnBddEquivalenceSpec)

/-- 'laws.FnExactIrredundant', WHERE WHAT IT READS IS OF BULK AT MOST 1048576: true; the input reads as it did. -/
def fnExactIrredundantUptoRow : OpenClaim := { program := "ytjggcojbgkpooaa", sum := "f38384a3da6165110da89e936cb2b3fbd5c4e3d9c3b1c2a56da98a539e010ea9", func := "loop.example/fpgatoolchain/laws.FnExactIrredundant", spec := "fnExactIrredundant", plainKeys := false, apart := false, narrowed := true }
def FnExactIrredundantUptoSaid : Prop := fnExactIrredundantUptoRow.holds Try.pinned (OpenSpec.upto fnExactIrredundantSpec)

/-- 'laws.FnConstantVars', WHERE WHAT IT READS IS OF BULK AT MOST 1048576: true; the input reads as it did. -/
def fnConstantVarsUptoRow : OpenClaim := { program := "ytjggcojbgkpooaa", sum := "f38384a3da6165110da89e936cb2b3fbd5c4e3d9c3b1c2a56da98a539e010ea9", func := "loop.example/fpgatoolchain/laws.FnConstantVars", spec := "fnConstantVars", unfollowed := true, recurses := true, plainKeys := false, apart := false, narrowed := true }
def FnConstantVarsUptoSaid : Prop := fnConstantVarsUptoRow.holds Try.pinned (OpenSpec.upto fnConstantVarsSpec)

/-- 'laws.FnExactSweep', WHERE WHAT IT READS IS OF BULK AT MOST 1048576: true; the input reads as it did. -/
def fnExactSweepUptoRow : OpenClaim := { program := "ytjggcojbgkpooaa", sum := "f38384a3da6165110da89e936cb2b3fbd5c4e3d9c3b1c2a56da98a539e010ea9", func := "loop.example/fpgatoolchain/laws.FnExactSweep", spec := "fnExactSweep", unfollowed := true, recurses := true, plainKeys := false, apart := false, narrowed := true }
def FnExactSweepUptoSaid : Prop := fnExactSweepUptoRow.holds Try.pinned (OpenSpec.upto fnExactSweepSpec)

/-- 'laws.FnSweep', WHERE WHAT IT READS IS OF BULK AT MOST 1048576: true; the input reads as it did. -/
def fnSweepUptoRow : OpenClaim := { program := "ytjggcojbgkpooaa", sum := "f38384a3da6165110da89e936cb2b3fbd5c4e3d9c3b1c2a56da98a539e010ea9", func := "loop.example/fpgatoolchain/laws.FnSweep", spec := "fnSweep", unfollowed := true, recurses := true, plainKeys := false, apart := false, narrowed := true }
def FnSweepUptoSaid : Prop := fnSweepUptoRow.holds Try.pinned (OpenSpec.upto fnSweepSpec)

/-- 'laws.FnRedundantExample', WHERE WHAT IT READS IS OF BULK AT MOST 1048576: true; the input reads as it did. -/
def fnRedundantExampleUptoRow : OpenClaim := { program := "ytjggcojbgkpooaa", sum := "f38384a3da6165110da89e936cb2b3fbd5c4e3d9c3b1c2a56da98a539e010ea9", func := "loop.example/fpgatoolchain/laws.FnRedundantExample", spec := "fnRedundantExample", unfollowed := true, recurses := true, plainKeys := false, apart := false, narrowed := true }
def FnRedundantExampleUptoSaid : Prop := fnRedundantExampleUptoRow.holds Try.pinned (OpenSpec.upto fnRedundantExampleSpec)

/-- 'laws.FnExactRemoveRedundancy', WHERE WHAT IT READS IS OF BULK AT MOST 1048576: true; the input reads as it did. -/
def fnExactRemoveRedundancyUptoRow : OpenClaim := { program := "ytjggcojbgkpooaa", sum := "f38384a3da6165110da89e936cb2b3fbd5c4e3d9c3b1c2a56da98a539e010ea9", func := "loop.example/fpgatoolchain/laws.FnExactRemoveRedundancy", spec := "fnExactRemoveRedundancy", unfollowed := true, recurses := true, plainKeys := false, apart := false, narrowed := true }
def FnExactRemoveRedundancyUptoSaid : Prop := fnExactRemoveRedundancyUptoRow.holds Try.pinned (OpenSpec.upto fnExactRemoveRedundancySpec)

end Rows
end Go.Proofs.Ytjggcojbgkpooaa
