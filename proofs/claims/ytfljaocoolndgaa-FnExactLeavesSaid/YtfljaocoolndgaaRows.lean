/-
  No cell of these rows narrows 'for every input' (looked for: loops, veiled, ifaces, maps, wideKeys, modest, calm, conditions, laid).
  DERIVED. THE GIVEN ROWS OF THIS SEAT. 6 by the template 'for every input the law returns true; each argument reads behind the call as it read before'; 0 by the template 'total and deterministic' (their statements: YtfljaocoolndgaaTotals.lean).
  GIVEN WITH THE SEED: the statements are not yours to turn. If you find one false, say at which input.
  Laid BY PROGRAM, IN A SANDBOX (cutbox-rows.mjs): the forced cells as the released guide's own fill.sh prints them over the translation 5d4112c914bf3921… (all of the seat's roots in one cut). By AI agents, Wed Nov 11 2026. No macro, syntax, notation, axiom, sorry.
-/
import Derived.Test.YtfljaocoolndgaaChecked
import GoSem.Claim
import GoSem.ClaimJoined
import GoSem.ClaimMapViews
import Derived.JoinedTies
import Derived.KernelRfl
namespace Go.Proofs.Ytfljaocoolndgaa
/- THE CELL 'sum', in the pinned program and in every row, IS THE sha256 OF THE DUMP (.gsa) THAT YtfljaocoolndgaaProg.lean LOADS. Nothing in Lean hashes anything: it is a label: what it is worth is what the hold of that sum in a sandbox is worth. -/
noncomputable def Try.pinned : Pinned := { name := "ytfljaocoolndgaa", sum := "5d4112c914bf392110d8a4e8f190d8127b9233b784ec973eb9999442f3c547a1", checked := Try.checked }
namespace Rows
def none {H : Type} : Left H := { results := [], args := [] }

/-- 'laws.FnExactCountBdd': WHATEVER THE INPUT: true; the input reads as it did. -/
def fnExactCountBddSpec : ChangeSpec := { name := "fnExactCountBdd", fn := fun _ => fun
  | [d1, d2] => { results := [.lit (.bool true)], args := [d1, d2] }
  | _ => none }
def fnExactCountBddRow : OpenClaim := { program := "ytfljaocoolndgaa", sum := "5d4112c914bf392110d8a4e8f190d8127b9233b784ec973eb9999442f3c547a1", func := "loop.example/fpgatoolchain/laws.FnExactCountBdd", spec := "fnExactCountBdd", plainKeys := false, apart := false }
def FnExactCountBddSaid : Prop := fnExactCountBddRow.holds Try.pinned (OpenSpec.ofChange fnExactCountBddSpec)

/-- ITS FALSE NEIGHBOUR: 'it returns false'. Refute it at one input. -/
def fnExactCountBddWrong : ChangeSpec := { name := "fnExactCountBdd", fn := fun _ => fun
  | [d1, d2] => { results := [.lit (.bool false)], args := [d1, d2] }
  | _ => none }
def FnExactCountBddWrongFalsely : Prop := fnExactCountBddRow.holds Try.pinned (OpenSpec.ofChange fnExactCountBddWrong)

/-- 'laws.FnExactScanRows': WHATEVER THE INPUT: true; the input reads as it did. -/
def fnExactScanRowsSpec : ChangeSpec := { name := "fnExactScanRows", fn := fun _ => fun
  | [d1, d2] => { results := [.lit (.bool true)], args := [d1, d2] }
  | _ => none }
def fnExactScanRowsRow : OpenClaim := { program := "ytfljaocoolndgaa", sum := "5d4112c914bf392110d8a4e8f190d8127b9233b784ec973eb9999442f3c547a1", func := "loop.example/fpgatoolchain/laws.FnExactScanRows", spec := "fnExactScanRows", plainKeys := false, apart := false }
def FnExactScanRowsSaid : Prop := fnExactScanRowsRow.holds Try.pinned (OpenSpec.ofChange fnExactScanRowsSpec)

/-- ITS FALSE NEIGHBOUR: 'it returns false'. Refute it at one input. -/
def fnExactScanRowsWrong : ChangeSpec := { name := "fnExactScanRows", fn := fun _ => fun
  | [d1, d2] => { results := [.lit (.bool false)], args := [d1, d2] }
  | _ => none }
def FnExactScanRowsWrongFalsely : Prop := fnExactScanRowsRow.holds Try.pinned (OpenSpec.ofChange fnExactScanRowsWrong)

/-- 'laws.FnExactForceGate': WHATEVER THE INPUT: true; the input reads as it did. -/
def fnExactForceGateSpec : ChangeSpec := { name := "fnExactForceGate", fn := fun _ => fun
  | [d1, d2, d3] => { results := [.lit (.bool true)], args := [d1, d2, d3] }
  | _ => none }
def fnExactForceGateRow : OpenClaim := { program := "ytfljaocoolndgaa", sum := "5d4112c914bf392110d8a4e8f190d8127b9233b784ec973eb9999442f3c547a1", func := "loop.example/fpgatoolchain/laws.FnExactForceGate", spec := "fnExactForceGate", unfollowed := true, recurses := true, plainKeys := false, apart := false }
def FnExactForceGateSaid : Prop := fnExactForceGateRow.holds Try.pinned (OpenSpec.ofChange fnExactForceGateSpec)

/-- ITS FALSE NEIGHBOUR: 'it returns false'. Refute it at one input. -/
def fnExactForceGateWrong : ChangeSpec := { name := "fnExactForceGate", fn := fun _ => fun
  | [d1, d2, d3] => { results := [.lit (.bool false)], args := [d1, d2, d3] }
  | _ => none }
def FnExactForceGateWrongFalsely : Prop := fnExactForceGateRow.holds Try.pinned (OpenSpec.ofChange fnExactForceGateWrong)

/-- 'laws.FnExactLeaves': WHATEVER THE INPUT: true; the input reads as it did. -/
def fnExactLeavesSpec : ChangeSpec := { name := "fnExactLeaves", fn := fun _ => fun
  | [d1, d2] => { results := [.lit (.bool true)], args := [d1, d2] }
  | _ => none }
def fnExactLeavesRow : OpenClaim := { program := "ytfljaocoolndgaa", sum := "5d4112c914bf392110d8a4e8f190d8127b9233b784ec973eb9999442f3c547a1", func := "loop.example/fpgatoolchain/laws.FnExactLeaves", spec := "fnExactLeaves", recurses := true, plainKeys := false, apart := false }
def FnExactLeavesSaid : Prop := fnExactLeavesRow.holds Try.pinned (OpenSpec.ofChange fnExactLeavesSpec)

/-- ITS FALSE NEIGHBOUR: 'it returns false'. Refute it at one input. -/
def fnExactLeavesWrong : ChangeSpec := { name := "fnExactLeaves", fn := fun _ => fun
  | [d1, d2] => { results := [.lit (.bool false)], args := [d1, d2] }
  | _ => none }
def FnExactLeavesWrongFalsely : Prop := fnExactLeavesRow.holds Try.pinned (OpenSpec.ofChange fnExactLeavesWrong)

/-- 'laws.FnExactTseitin': WHATEVER THE INPUT: true; the input reads as it did. -/
def fnExactTseitinSpec : ChangeSpec := { name := "fnExactTseitin", fn := fun _ => fun
  | [d1, d2] => { results := [.lit (.bool true)], args := [d1, d2] }
  | _ => none }
def fnExactTseitinRow : OpenClaim := { program := "ytfljaocoolndgaa", sum := "5d4112c914bf392110d8a4e8f190d8127b9233b784ec973eb9999442f3c547a1", func := "loop.example/fpgatoolchain/laws.FnExactTseitin", spec := "fnExactTseitin", plainKeys := false, apart := false }
def FnExactTseitinSaid : Prop := fnExactTseitinRow.holds Try.pinned (OpenSpec.ofChange fnExactTseitinSpec)

/-- ITS FALSE NEIGHBOUR: 'it returns false'. Refute it at one input. -/
def fnExactTseitinWrong : ChangeSpec := { name := "fnExactTseitin", fn := fun _ => fun
  | [d1, d2] => { results := [.lit (.bool false)], args := [d1, d2] }
  | _ => none }
def FnExactTseitinWrongFalsely : Prop := fnExactTseitinRow.holds Try.pinned (OpenSpec.ofChange fnExactTseitinWrong)

/-- 'laws.FnExactSameFunction': WHATEVER THE INPUT: true; the input reads as it did. -/
def fnExactSameFunctionSpec : ChangeSpec := { name := "fnExactSameFunction", fn := fun _ => fun
  | [d1, d2, d3] => { results := [.lit (.bool true)], args := [d1, d2, d3] }
  | _ => none }
def fnExactSameFunctionRow : OpenClaim := { program := "ytfljaocoolndgaa", sum := "5d4112c914bf392110d8a4e8f190d8127b9233b784ec973eb9999442f3c547a1", func := "loop.example/fpgatoolchain/laws.FnExactSameFunction", spec := "fnExactSameFunction", plainKeys := false, apart := false }
def FnExactSameFunctionSaid : Prop := fnExactSameFunctionRow.holds Try.pinned (OpenSpec.ofChange fnExactSameFunctionSpec)

/-- ITS FALSE NEIGHBOUR: 'it returns false'. Refute it at one input. -/
def fnExactSameFunctionWrong : ChangeSpec := { name := "fnExactSameFunction", fn := fun _ => fun
  | [d1, d2, d3] => { results := [.lit (.bool false)], args := [d1, d2, d3] }
  | _ => none }
def FnExactSameFunctionWrongFalsely : Prop := fnExactSameFunctionRow.holds Try.pinned (OpenSpec.ofChange fnExactSameFunctionWrong)

/- THE SECOND FORM. 'bulk': how many values and letters a reading holds, each counted each time it is reached (what is shared counts as often as it is met; a slice's spare places count too). A statement '..UptoSaid' is the law's where the arguments, and the package variables that the reading takes, are together of bulk at most 1048576: NARROWER than '..Said'. Prove '..Said' where nothing that the law and all that it calls make is longer than what came in: it says more and counts as full. Else prove '..UptoSaid'. A law counts once. -/
mutual
def uptoBulk {H : Type} : DataW H → Nat
  | .lit (.string bytes) => bytes.length + 1
  | .lit _ => 1
  | .nil => 1
  | .ptr d => uptoBulk d + 1
  | .slice elems spare => uptoBulkAll elems + uptoBulkAll spare + 1
  | .agg parts => uptoBulkAll parts + 1
  | .iface _ d => uptoBulk d + 1
  | .map entries => uptoBulkEntries entries + 1
  | .held _ => 1
def uptoBulkAll {H : Type} : List (DataW H) → Nat
  | [] => 0
  | d :: r => uptoBulk d + uptoBulkAll r
def uptoBulkEntries {H : Type} : List (Lit × DataW H) → Nat
  | [] => 0
  | x :: r => uptoBulkEntry x + uptoBulkEntries r
def uptoBulkEntry {H : Type} : Lit × DataW H → Nat
  | (.string bytes, d) => bytes.length + uptoBulk d + 1
  | (_, d) => uptoBulk d + 1
 end
def uptoSmall : (H : Type) → List (DataW H) → Bool := fun _ ds => decide (uptoBulkAll ds ≤ 1048576)
def OpenSpec.upto (s : _root_.Go.ChangeSpec) : _root_.Go.OpenSpec := { _root_.Go.OpenSpec.ofChange s with cond := some uptoSmall }

/-- 'laws.FnExactCountBdd', WHERE WHAT IT READS IS OF BULK AT MOST 1048576: true; the input reads as it did. -/
def fnExactCountBddUptoRow : OpenClaim := { program := "ytfljaocoolndgaa", sum := "5d4112c914bf392110d8a4e8f190d8127b9233b784ec973eb9999442f3c547a1", func := "loop.example/fpgatoolchain/laws.FnExactCountBdd", spec := "fnExactCountBdd", plainKeys := false, apart := false, narrowed := true }
def FnExactCountBddUptoSaid : Prop := fnExactCountBddUptoRow.holds Try.pinned (OpenSpec.upto fnExactCountBddSpec)

/-- 'laws.FnExactScanRows', WHERE WHAT IT READS IS OF BULK AT MOST 1048576: true; the input reads as it did. -/
def fnExactScanRowsUptoRow : OpenClaim := { program := "ytfljaocoolndgaa", sum := "5d4112c914bf392110d8a4e8f190d8127b9233b784ec973eb9999442f3c547a1", func := "loop.example/fpgatoolchain/laws.FnExactScanRows", spec := "fnExactScanRows", plainKeys := false, apart := false, narrowed := true }
def FnExactScanRowsUptoSaid : Prop := fnExactScanRowsUptoRow.holds Try.pinned (OpenSpec.upto fnExactScanRowsSpec)

/-- 'laws.FnExactForceGate', WHERE WHAT IT READS IS OF BULK AT MOST 1048576: true; the input reads as it did. -/
def fnExactForceGateUptoRow : OpenClaim := { program := "ytfljaocoolndgaa", sum := "5d4112c914bf392110d8a4e8f190d8127b9233b784ec973eb9999442f3c547a1", func := "loop.example/fpgatoolchain/laws.FnExactForceGate", spec := "fnExactForceGate", unfollowed := true, recurses := true, plainKeys := false, apart := false, narrowed := true }
def FnExactForceGateUptoSaid : Prop := fnExactForceGateUptoRow.holds Try.pinned (OpenSpec.upto fnExactForceGateSpec)

/-- 'laws.FnExactLeaves', WHERE WHAT IT READS IS OF BULK AT MOST 1048576: true; the input reads as it did. -/
def fnExactLeavesUptoRow : OpenClaim := { program := "ytfljaocoolndgaa", sum := "5d4112c914bf392110d8a4e8f190d8127b9233b784ec973eb9999442f3c547a1", func := "loop.example/fpgatoolchain/laws.FnExactLeaves", spec := "fnExactLeaves", recurses := true, plainKeys := false, apart := false, narrowed := true }
def FnExactLeavesUptoSaid : Prop := fnExactLeavesUptoRow.holds Try.pinned (OpenSpec.upto fnExactLeavesSpec)

/-- 'laws.FnExactTseitin', WHERE WHAT IT READS IS OF BULK AT MOST 1048576: true; the input reads as it did. -/
def fnExactTseitinUptoRow : OpenClaim := { program := "ytfljaocoolndgaa", sum := "5d4112c914bf392110d8a4e8f190d8127b9233b784ec973eb9999442f3c547a1", func := "loop.example/fpgatoolchain/laws.FnExactTseitin", spec := "fnExactTseitin", plainKeys := false, apart := false, narrowed := true }
def FnExactTseitinUptoSaid : Prop := fnExactTseitinUptoRow.holds Try.pinned (OpenSpec.upto fnExactTseitinSpec)

/-- 'laws.FnExactSameFunction', WHERE WHAT IT READS IS OF BULK AT MOST 1048576: true; the input reads as it did. -/
def fnExactSameFunctionUptoRow : OpenClaim := { program := "ytfljaocoolndgaa", sum := "5d4112c914bf392110d8a4e8f190d8127b9233b784ec973eb9999442f3c547a1", func := "loop.example/fpgatoolchain/laws.FnExactSameFunction", spec := "fnExactSameFunction", plainKeys := false, apart := false, narrowed := true }
def FnExactSameFunctionUptoSaid : Prop := fnExactSameFunctionUptoRow.holds Try.pinned (OpenSpec.upto fnExactSameFunctionSpec)

end Rows
end Go.Proofs.Ytfljaocoolndgaa
