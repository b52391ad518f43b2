/-
  No cell of these rows narrows 'for every input' (looked for: loops, veiled, ifaces, maps, wideKeys, modest, calm, conditions, laid).
  DERIVED. THE GIVEN ROWS OF THIS SEAT. 12 by the template 'for every input the law returns true; each argument reads behind the call as it read before'; 0 by the template 'total and deterministic' (their statements: YtindndcdpnpcmaaTotals.lean).
  GIVEN WITH THE SEED: the statements are not yours to turn. If you find one false, say at which input.
  Laid BY PROGRAM, IN A SANDBOX (cutbox-rows.mjs): the forced cells as the released guide's own fill.sh prints them over the translation 21e088f64b3c3184… (all of the seat's roots in one cut). By AI agents, Wed Nov 11 2026. No macro, syntax, notation, axiom, sorry.
-/
import Derived.Test.YtindndcdpnpcmaaChecked
import GoSem.Claim
import GoSem.ClaimJoined
import GoSem.ClaimMapViews
import Derived.JoinedTies
import Derived.KernelRfl
namespace Go.Proofs.Ytindndcdpnpcmaa
/- THE CELL 'sum', in the pinned program and in every row, IS THE sha256 OF THE DUMP (.gsa) THAT YtindndcdpnpcmaaProg.lean LOADS. Nothing in Lean hashes anything: it is a label: what it is worth is what the hold of that sum in a sandbox is worth. -/
noncomputable def Try.pinned : Pinned := { name := "ytindndcdpnpcmaa", sum := "21e088f64b3c318436bf14d503164f6d83aa8970b0acdea817c6f7ec3c64005a", checked := Try.checked }
namespace Rows
def none {H : Type} : Left H := { results := [], args := [] }

/-- 'laws.FnExactRemoveRedundancy': WHATEVER THE INPUT: true; the input reads as it did. -/
def fnExactRemoveRedundancySpec : ChangeSpec := { name := "fnExactRemoveRedundancy", fn := fun _ => fun
  | [d] => { results := [.lit (.bool true)], args := [d] }
  | _ => none }
def fnExactRemoveRedundancyRow : OpenClaim := { program := "ytindndcdpnpcmaa", sum := "21e088f64b3c318436bf14d503164f6d83aa8970b0acdea817c6f7ec3c64005a", func := "loop.example/fpgatoolchain/laws.FnExactRemoveRedundancy", spec := "fnExactRemoveRedundancy", unfollowed := true, recurses := true, plainKeys := false, apart := false }
def FnExactRemoveRedundancySaid : Prop := fnExactRemoveRedundancyRow.holds Try.pinned (OpenSpec.ofChange fnExactRemoveRedundancySpec)

/-- ITS FALSE NEIGHBOUR: 'it returns false'. Refute it at one input. -/
def fnExactRemoveRedundancyWrong : ChangeSpec := { name := "fnExactRemoveRedundancy", fn := fun _ => fun
  | [d] => { results := [.lit (.bool false)], args := [d] }
  | _ => none }
def FnExactRemoveRedundancyWrongFalsely : Prop := fnExactRemoveRedundancyRow.holds Try.pinned (OpenSpec.ofChange fnExactRemoveRedundancyWrong)

/-- 'laws.FnExactSweep': WHATEVER THE INPUT: true; the input reads as it did. -/
def fnExactSweepSpec : ChangeSpec := { name := "fnExactSweep", fn := fun _ => fun
  | [d] => { results := [.lit (.bool true)], args := [d] }
  | _ => none }
def fnExactSweepRow : OpenClaim := { program := "ytindndcdpnpcmaa", sum := "21e088f64b3c318436bf14d503164f6d83aa8970b0acdea817c6f7ec3c64005a", func := "loop.example/fpgatoolchain/laws.FnExactSweep", spec := "fnExactSweep", unfollowed := true, recurses := true, plainKeys := false, apart := false }
def FnExactSweepSaid : Prop := fnExactSweepRow.holds Try.pinned (OpenSpec.ofChange fnExactSweepSpec)

/-- ITS FALSE NEIGHBOUR: 'it returns false'. Refute it at one input. -/
def fnExactSweepWrong : ChangeSpec := { name := "fnExactSweep", fn := fun _ => fun
  | [d] => { results := [.lit (.bool false)], args := [d] }
  | _ => none }
def FnExactSweepWrongFalsely : Prop := fnExactSweepRow.holds Try.pinned (OpenSpec.ofChange fnExactSweepWrong)

/-- 'laws.FnSweep': WHATEVER THE INPUT: true; the input reads as it did. -/
def fnSweepSpec : ChangeSpec := { name := "fnSweep", fn := fun _ => fun
  | [d] => { results := [.lit (.bool true)], args := [d] }
  | _ => none }
def fnSweepRow : OpenClaim := { program := "ytindndcdpnpcmaa", sum := "21e088f64b3c318436bf14d503164f6d83aa8970b0acdea817c6f7ec3c64005a", func := "loop.example/fpgatoolchain/laws.FnSweep", spec := "fnSweep", unfollowed := true, recurses := true, plainKeys := false, apart := false }
def FnSweepSaid : Prop := fnSweepRow.holds Try.pinned (OpenSpec.ofChange fnSweepSpec)

/-- ITS FALSE NEIGHBOUR: 'it returns false'. Refute it at one input. -/
def fnSweepWrong : ChangeSpec := { name := "fnSweep", fn := fun _ => fun
  | [d] => { results := [.lit (.bool false)], args := [d] }
  | _ => none }
def FnSweepWrongFalsely : Prop := fnSweepRow.holds Try.pinned (OpenSpec.ofChange fnSweepWrong)

/-- 'laws.FnConstantVars': WHATEVER THE INPUT: true; the input reads as it did. -/
def fnConstantVarsSpec : ChangeSpec := { name := "fnConstantVars", fn := fun _ => fun
  | [d] => { results := [.lit (.bool true)], args := [d] }
  | _ => none }
def fnConstantVarsRow : OpenClaim := { program := "ytindndcdpnpcmaa", sum := "21e088f64b3c318436bf14d503164f6d83aa8970b0acdea817c6f7ec3c64005a", func := "loop.example/fpgatoolchain/laws.FnConstantVars", spec := "fnConstantVars", unfollowed := true, recurses := true, plainKeys := false, apart := false }
def FnConstantVarsSaid : Prop := fnConstantVarsRow.holds Try.pinned (OpenSpec.ofChange fnConstantVarsSpec)

/-- ITS FALSE NEIGHBOUR: 'it returns false'. Refute it at one input. -/
def fnConstantVarsWrong : ChangeSpec := { name := "fnConstantVars", fn := fun _ => fun
  | [d] => { results := [.lit (.bool false)], args := [d] }
  | _ => none }
def FnConstantVarsWrongFalsely : Prop := fnConstantVarsRow.holds Try.pinned (OpenSpec.ofChange fnConstantVarsWrong)

/-- 'laws.FnRedundantExample': WHATEVER THE INPUT: true; the input reads as it did. -/
def fnRedundantExampleSpec : ChangeSpec := { name := "fnRedundantExample", fn := fun _ => fun
  | [d] => { results := [.lit (.bool true)], args := [d] }
  | _ => none }
def fnRedundantExampleRow : OpenClaim := { program := "ytindndcdpnpcmaa", sum := "21e088f64b3c318436bf14d503164f6d83aa8970b0acdea817c6f7ec3c64005a", func := "loop.example/fpgatoolchain/laws.FnRedundantExample", spec := "fnRedundantExample", unfollowed := true, recurses := true, plainKeys := false, apart := false }
def FnRedundantExampleSaid : Prop := fnRedundantExampleRow.holds Try.pinned (OpenSpec.ofChange fnRedundantExampleSpec)

/-- ITS FALSE NEIGHBOUR: 'it returns false'. Refute it at one input. -/
def fnRedundantExampleWrong : ChangeSpec := { name := "fnRedundantExample", fn := fun _ => fun
  | [d] => { results := [.lit (.bool false)], args := [d] }
  | _ => none }
def FnRedundantExampleWrongFalsely : Prop := fnRedundantExampleRow.holds Try.pinned (OpenSpec.ofChange fnRedundantExampleWrong)

/-- 'laws.FnIrredundant': WHATEVER THE INPUT: true; the input reads as it did. -/
def fnIrredundantSpec : ChangeSpec := { name := "fnIrredundant", fn := fun _ => fun
  | [d] => { results := [.lit (.bool true)], args := [d] }
  | _ => none }
def fnIrredundantRow : OpenClaim := { program := "ytindndcdpnpcmaa", sum := "21e088f64b3c318436bf14d503164f6d83aa8970b0acdea817c6f7ec3c64005a", func := "loop.example/fpgatoolchain/laws.FnIrredundant", spec := "fnIrredundant", unfollowed := true, recurses := true, plainKeys := false, apart := false }
def FnIrredundantSaid : Prop := fnIrredundantRow.holds Try.pinned (OpenSpec.ofChange fnIrredundantSpec)

/-- ITS FALSE NEIGHBOUR: 'it returns false'. Refute it at one input. -/
def fnIrredundantWrong : ChangeSpec := { name := "fnIrredundant", fn := fun _ => fun
  | [d] => { results := [.lit (.bool false)], args := [d] }
  | _ => none }
def FnIrredundantWrongFalsely : Prop := fnIrredundantRow.holds Try.pinned (OpenSpec.ofChange fnIrredundantWrong)

/-- 'laws.FnRemoveRedundancy': WHATEVER THE INPUT: true; the input reads as it did. -/
def fnRemoveRedundancySpec : ChangeSpec := { name := "fnRemoveRedundancy", fn := fun _ => fun
  | [d] => { results := [.lit (.bool true)], args := [d] }
  | _ => none }
def fnRemoveRedundancyRow : OpenClaim := { program := "ytindndcdpnpcmaa", sum := "21e088f64b3c318436bf14d503164f6d83aa8970b0acdea817c6f7ec3c64005a", func := "loop.example/fpgatoolchain/laws.FnRemoveRedundancy", spec := "fnRemoveRedundancy", unfollowed := true, recurses := true, plainKeys := false, apart := false }
def FnRemoveRedundancySaid : Prop := fnRemoveRedundancyRow.holds Try.pinned (OpenSpec.ofChange fnRemoveRedundancySpec)

/-- ITS FALSE NEIGHBOUR: 'it returns false'. Refute it at one input. -/
def fnRemoveRedundancyWrong : ChangeSpec := { name := "fnRemoveRedundancy", fn := fun _ => fun
  | [d] => { results := [.lit (.bool false)], args := [d] }
  | _ => none }
def FnRemoveRedundancyWrongFalsely : Prop := fnRemoveRedundancyRow.holds Try.pinned (OpenSpec.ofChange fnRemoveRedundancyWrong)

/-- 'laws.FnFaultRedundancy': WHATEVER THE INPUT: true; the input reads as it did. -/
def fnFaultRedundancySpec : ChangeSpec := { name := "fnFaultRedundancy", fn := fun _ => fun
  | [d] => { results := [.lit (.bool true)], args := [d] }
  | _ => none }
def fnFaultRedundancyRow : OpenClaim := { program := "ytindndcdpnpcmaa", sum := "21e088f64b3c318436bf14d503164f6d83aa8970b0acdea817c6f7ec3c64005a", func := "loop.example/fpgatoolchain/laws.FnFaultRedundancy", spec := "fnFaultRedundancy", unfollowed := true, recurses := true, plainKeys := false, apart := false }
def FnFaultRedundancySaid : Prop := fnFaultRedundancyRow.holds Try.pinned (OpenSpec.ofChange fnFaultRedundancySpec)

/-- ITS FALSE NEIGHBOUR: 'it returns false'. Refute it at one input. -/
def fnFaultRedundancyWrong : ChangeSpec := { name := "fnFaultRedundancy", fn := fun _ => fun
  | [d] => { results := [.lit (.bool false)], args := [d] }
  | _ => none }
def FnFaultRedundancyWrongFalsely : Prop := fnFaultRedundancyRow.holds Try.pinned (OpenSpec.ofChange fnFaultRedundancyWrong)

/-- 'laws.FnExactBalance': WHATEVER THE INPUT: true; the input reads as it did. -/
def fnExactBalanceSpec : ChangeSpec := { name := "fnExactBalance", fn := fun _ => fun
  | [d] => { results := [.lit (.bool true)], args := [d] }
  | _ => none }
def fnExactBalanceRow : OpenClaim := { program := "ytindndcdpnpcmaa", sum := "21e088f64b3c318436bf14d503164f6d83aa8970b0acdea817c6f7ec3c64005a", func := "loop.example/fpgatoolchain/laws.FnExactBalance", spec := "fnExactBalance", unfollowed := true, recurses := true, plainKeys := false, apart := false }
def FnExactBalanceSaid : Prop := fnExactBalanceRow.holds Try.pinned (OpenSpec.ofChange fnExactBalanceSpec)

/-- ITS FALSE NEIGHBOUR: 'it returns false'. Refute it at one input. -/
def fnExactBalanceWrong : ChangeSpec := { name := "fnExactBalance", fn := fun _ => fun
  | [d] => { results := [.lit (.bool false)], args := [d] }
  | _ => none }
def FnExactBalanceWrongFalsely : Prop := fnExactBalanceRow.holds Try.pinned (OpenSpec.ofChange fnExactBalanceWrong)

/-- 'laws.FnBalance': WHATEVER THE INPUT: true; the input reads as it did. -/
def fnBalanceSpec : ChangeSpec := { name := "fnBalance", fn := fun _ => fun
  | [d] => { results := [.lit (.bool true)], args := [d] }
  | _ => none }
def fnBalanceRow : OpenClaim := { program := "ytindndcdpnpcmaa", sum := "21e088f64b3c318436bf14d503164f6d83aa8970b0acdea817c6f7ec3c64005a", func := "loop.example/fpgatoolchain/laws.FnBalance", spec := "fnBalance", unfollowed := true, recurses := true, plainKeys := false, apart := false }
def FnBalanceSaid : Prop := fnBalanceRow.holds Try.pinned (OpenSpec.ofChange fnBalanceSpec)

/-- ITS FALSE NEIGHBOUR: 'it returns false'. Refute it at one input. -/
def fnBalanceWrong : ChangeSpec := { name := "fnBalance", fn := fun _ => fun
  | [d] => { results := [.lit (.bool false)], args := [d] }
  | _ => none }
def FnBalanceWrongFalsely : Prop := fnBalanceRow.holds Try.pinned (OpenSpec.ofChange fnBalanceWrong)

/-- 'laws.FnOptimizeChain': WHATEVER THE INPUT: true; the input reads as it did. -/
def fnOptimizeChainSpec : ChangeSpec := { name := "fnOptimizeChain", fn := fun _ => fun
  | [d] => { results := [.lit (.bool true)], args := [d] }
  | _ => none }
def fnOptimizeChainRow : OpenClaim := { program := "ytindndcdpnpcmaa", sum := "21e088f64b3c318436bf14d503164f6d83aa8970b0acdea817c6f7ec3c64005a", func := "loop.example/fpgatoolchain/laws.FnOptimizeChain", spec := "fnOptimizeChain", unfollowed := true, recurses := true, plainKeys := false, apart := false }
def FnOptimizeChainSaid : Prop := fnOptimizeChainRow.holds Try.pinned (OpenSpec.ofChange fnOptimizeChainSpec)

/-- ITS FALSE NEIGHBOUR: 'it returns false'. Refute it at one input. -/
def fnOptimizeChainWrong : ChangeSpec := { name := "fnOptimizeChain", fn := fun _ => fun
  | [d] => { results := [.lit (.bool false)], args := [d] }
  | _ => none }
def FnOptimizeChainWrongFalsely : Prop := fnOptimizeChainRow.holds Try.pinned (OpenSpec.ofChange fnOptimizeChainWrong)

/-- 'laws.FnBalanceExample': WHATEVER THE INPUT: true; the input reads as it did. -/
def fnBalanceExampleSpec : ChangeSpec := { name := "fnBalanceExample", fn := fun _ => fun
  | [d] => { results := [.lit (.bool true)], args := [d] }
  | _ => none }
def fnBalanceExampleRow : OpenClaim := { program := "ytindndcdpnpcmaa", sum := "21e088f64b3c318436bf14d503164f6d83aa8970b0acdea817c6f7ec3c64005a", func := "loop.example/fpgatoolchain/laws.FnBalanceExample", spec := "fnBalanceExample", unfollowed := true, recurses := true, plainKeys := false, apart := false }
def FnBalanceExampleSaid : Prop := fnBalanceExampleRow.holds Try.pinned (OpenSpec.ofChange fnBalanceExampleSpec)

/-- ITS FALSE NEIGHBOUR: 'it returns false'. Refute it at one input. -/
def fnBalanceExampleWrong : ChangeSpec := { name := "fnBalanceExample", fn := fun _ => fun
  | [d] => { results := [.lit (.bool false)], args := [d] }
  | _ => none }
def FnBalanceExampleWrongFalsely : Prop := fnBalanceExampleRow.holds Try.pinned (OpenSpec.ofChange fnBalanceExampleWrong)

/- THE SECOND FORM. 'bulk': how many values and letters a reading holds, each counted each time it is reached (what is shared counts as often as it is met; a slice's spare places count too). A statement '..UptoSaid' is the law's where the arguments, and the package variables that the reading takes, are together of bulk at most 1048576: NARROWER than '..Said'. Prove '..Said' where nothing that the law and all that it calls make is longer than what came in: it says more and counts as full. Else prove '..UptoSaid'. A law counts once. -/
mutual
def uptoBulk {H : Type} : DataW H → Nat
  | .lit (.string bytes) => bytes.length + 1
  | .lit _ => 1
  | .nil => 1
  | .ptr d => uptoBulk d + 1
  | .slice elems spare => uptoBulkAll elems + uptoBulkAll spare + 1
  | .agg parts => uptoBulkAll parts + 1
  | .iface _ d => uptoBulk d + 1
  | .map entries => uptoBulkEntries entries + 1
  | .held _ => 1
def uptoBulkAll {H : Type} : List (DataW H) → Nat
  | [] => 0
  | d :: r => uptoBulk d + uptoBulkAll r
def uptoBulkEntries {H : Type} : List (Lit × DataW H) → Nat
  | [] => 0
  | x :: r => uptoBulkEntry x + uptoBulkEntries r
def uptoBulkEntry {H : Type} : Lit × DataW H → Nat
  | (.string bytes, d) => bytes.length + uptoBulk d + 1
  | (_, d) => uptoBulk d + 1
 end
def uptoSmall : (H : Type) → List (DataW H) → Bool := fun _ ds => decide (uptoBulkAll ds ≤ 1048576)
def OpenSpec.upto (s : _root_.Go.ChangeSpec) : _root_.Go.OpenSpec := { _root_.Go.OpenSpec.ofChange s with cond := some uptoSmall }

/-- 'laws.FnExactRemoveRedundancy', WHERE WHAT IT READS IS OF BULK AT MOST 1048576: true; the input reads as it did. -/
def fnExactRemoveRedundancyUptoRow : OpenClaim := { program := "ytindndcdpnpcmaa", sum := "21e088f64b3c318436bf14d503164f6d83aa8970b0acdea817c6f7ec3c64005a", func := "loop.example/fpgatoolchain/laws.FnExactRemoveRedundancy", spec := "fnExactRemoveRedundancy", unfollowed := true, recurses := true, plainKeys := false, apart := false, narrowed := true }
def FnExactRemoveRedundancyUptoSaid : Prop := fnExactRemoveRedundancyUptoRow.holds Try.pinned (OpenSpec.upto fnExactRemoveRedundancySpec)

/-- 'laws.FnExactSweep', WHERE WHAT IT READS IS OF BULK AT MOST 1048576: true; the input reads as it did. -/
def fnExactSweepUptoRow : OpenClaim := { program := "ytindndcdpnpcmaa", sum := "21e088f64b3c318436bf14d503164f6d83aa8970b0acdea817c6f7ec3c64005a", func := "loop.example/fpgatoolchain/laws.FnExactSweep", spec := "fnExactSweep", unfollowed := true, recurses := true, plainKeys := false, apart := false, narrowed := true }
def FnExactSweepUptoSaid : Prop := fnExactSweepUptoRow.holds Try.pinned (OpenSpec.upto fnExactSweepSpec)

/-- 'laws.FnSweep', WHERE WHAT IT READS IS OF BULK AT MOST 1048576: true; the input reads as it did. -/
def fnSweepUptoRow : OpenClaim := { program := "ytindndcdpnpcmaa", sum := "21e088f64b3c318436bf14d503164f6d83aa8970b0acdea817c6f7ec3c64005a", func := "loop.example/fpgatoolchain/laws.FnSweep", spec := "fnSweep", unfollowed := true, recurses := true, plainKeys := false, apart := false, narrowed := true }
def FnSweepUptoSaid : Prop := fnSweepUptoRow.holds Try.pinned (OpenSpec.upto fnSweepSpec)

/-- 'laws.FnConstantVars', WHERE WHAT IT READS IS OF BULK AT MOST 1048576: true; the input reads as it did. -/
def fnConstantVarsUptoRow : OpenClaim := { program := "ytindndcdpnpcmaa", sum := "21e088f64b3c318436bf14d503164f6d83aa8970b0acdea817c6f7ec3c64005a", func := "loop.example/fpgatoolchain/laws.FnConstantVars", spec := "fnConstantVars", unfollowed := true, recurses := true, plainKeys := false, apart := false, narrowed := true }
def FnConstantVarsUptoSaid : Prop := fnConstantVarsUptoRow.holds Try.pinned (OpenSpec.upto fnConstantVarsSpec)

/-- 'laws.FnRedundantExample', WHERE WHAT IT READS IS OF BULK AT MOST 1048576: true; the input reads as it did. -/
def fnRedundantExampleUptoRow : OpenClaim := { program := "ytindndcdpnpcmaa", sum := "21e088f64b3c318436bf14d503164f6d83aa8970b0acdea817c6f7ec3c64005a", func := "loop.example/fpgatoolchain/laws.FnRedundantExample", spec := "fnRedundantExample", unfollowed := true, recurses := true, plainKeys := false, apart := false, narrowed := true }
def FnRedundantExampleUptoSaid : Prop := fnRedundantExampleUptoRow.holds Try.pinned (OpenSpec.upto fnRedundantExampleSpec)

/-- 'laws.FnIrredundant', WHERE WHAT IT READS IS OF BULK AT MOST 1048576: true; the input reads as it did. -/
def fnIrredundantUptoRow : OpenClaim := { program := "ytindndcdpnpcmaa", sum := "21e088f64b3c318436bf14d503164f6d83aa8970b0acdea817c6f7ec3c64005a", func := "loop.example/fpgatoolchain/laws.FnIrredundant", spec := "fnIrredundant", unfollowed := true, recurses := true, plainKeys := false, apart := false, narrowed := true }
def FnIrredundantUptoSaid : Prop := fnIrredundantUptoRow.holds Try.pinned (OpenSpec.upto fnIrredundantSpec)

/-- 'laws.FnRemoveRedundancy', WHERE WHAT IT READS IS OF BULK AT MOST 1048576: true; the input reads as it did. -/
def fnRemoveRedundancyUptoRow : OpenClaim := { program := "ytindndcdpnpcmaa", sum := "21e088f64b3c318436bf14d503164f6d83aa8970b0acdea817c6f7ec3c64005a", func := "loop.example/fpgatoolchain/laws.FnRemoveRedundancy", spec := "fnRemoveRedundancy", unfollowed := true, recurses := true, plainKeys := false, apart := false, narrowed := true }
def FnRemoveRedundancyUptoSaid : Prop := fnRemoveRedundancyUptoRow.holds Try.pinned (OpenSpec.upto fnRemoveRedundancySpec)

/-- 'laws.FnFaultRedundancy', WHERE WHAT IT READS IS OF BULK AT MOST 1048576: true; the input reads as it did. -/
def fnFaultRedundancyUptoRow : OpenClaim := { program := "ytindndcdpnpcmaa", sum := "21e088f64b3c318436bf14d503164f6d83aa8970b0acdea817c6f7ec3c64005a", func := "loop.example/fpgatoolchain/laws.FnFaultRedundancy", spec := "fnFaultRedundancy", unfollowed := true, recurses := true, plainKeys := false, apart := false, narrowed := true }
def FnFaultRedundancyUptoSaid : Prop := fnFaultRedundancyUptoRow.holds Try.pinned (OpenSpec.upto fnFaultRedundancySpec)

/-- 'laws.FnExactBalance', WHERE WHAT IT READS IS OF BULK AT MOST 1048576: true; the input reads as it did. -/
def fnExactBalanceUptoRow : OpenClaim := { program := "ytindndcdpnpcmaa", sum := "21e088f64b3c318436bf14d503164f6d83aa8970b0acdea817c6f7ec3c64005a", func := "loop.example/fpgatoolchain/laws.FnExactBalance", spec := "fnExactBalance", unfollowed := true, recurses := true, plainKeys := false, apart := false, narrowed := true }
def FnExactBalanceUptoSaid : Prop := fnExactBalanceUptoRow.holds Try.pinned (OpenSpec.upto fnExactBalanceSpec)

/-- 'laws.FnBalance', WHERE WHAT IT READS IS OF BULK AT MOST 1048576: true; the input reads as it did. -/
def fnBalanceUptoRow : OpenClaim := { program := "ytindndcdpnpcmaa", sum := "21e088f64b3c318436bf14d503164f6d83aa8970b0acdea817c6f7ec3c64005a", func := "loop.example/fpgatoolchain/laws.FnBalance", spec := "fnBalance", unfollowed := true, recurses := true, plainKeys := false, apart := false, narrowed := true }
def FnBalanceUptoSaid : Prop := fnBalanceUptoRow.holds Try.pinned (OpenSpec.upto fnBalanceSpec)

/-- 'laws.FnOptimizeChain', WHERE WHAT IT READS IS OF BULK AT MOST 1048576: true; the input reads as it did. -/
def fnOptimizeChainUptoRow : OpenClaim := { program := "ytindndcdpnpcmaa", sum := "21e088f64b3c318436bf14d503164f6d83aa8970b0acdea817c6f7ec3c64005a", func := "loop.example/fpgatoolchain/laws.FnOptimizeChain", spec := "fnOptimizeChain", unfollowed := true, recurses := true, plainKeys := false, apart := false, narrowed := true }
def FnOptimizeChainUptoSaid : Prop := fnOptimizeChainUptoRow.holds Try.pinned (OpenSpec.upto fnOptimizeChainSpec)

/-- 'laws.FnBalanceExample', WHERE WHAT IT READS IS OF BULK AT MOST 1048576: true; the input reads as it did. -/
def fnBalanceExampleUptoRow : OpenClaim := { program := "ytindndcdpnpcmaa", sum := "21e088f64b3c318436bf14d503164f6d83aa8970b0acdea817c6f7ec3c64005a", func := "loop.example/fpgatoolchain/laws.FnBalanceExample", spec := "fnBalanceExample", unfollowed := true, recurses := true, plainKeys := false, apart := false, narrowed := true }
def FnBalanceExampleUptoSaid : Prop := fnBalanceExampleUptoRow.holds Try.pinned (OpenSpec.upto fnBalanceExampleSpec)

end Rows
end Go.Proofs.Ytindndcdpnpcmaa
