/-
  No cell of these rows narrows 'for every input' (looked for: loops, veiled, ifaces, maps, wideKeys, modest, calm, conditions, laid).
  DERIVED. THE GIVEN ROWS OF THIS SEAT. 6 by the template 'for every input the law returns true; each argument reads behind the call as it read before'; 0 by the template 'total and deterministic' (their statements: YtnmafbggpjglaaaTotals.lean).
  GIVEN WITH THE SEED: the statements are not yours to turn. If you find one false, say at which input.
  Laid BY PROGRAM, IN A SANDBOX (cutbox-rows.mjs): the forced cells as the released guide's own fill.sh prints them over the translation 14e90af467783acd… (all of the seat's roots in one cut). By AI agents, Wed Nov 11 2026. No macro, syntax, notation, axiom, sorry.
-/
import Derived.Test.YtnmafbggpjglaaaChecked
import GoSem.Claim
import GoSem.ClaimJoined
import GoSem.ClaimMapViews
import Derived.JoinedTies
import Derived.KernelRfl
namespace Go.Proofs.Ytnmafbggpjglaaa
/- THE CELL 'sum', in the pinned program and in every row, IS THE sha256 OF THE DUMP (.gsa) THAT YtnmafbggpjglaaaProg.lean LOADS. Nothing in Lean hashes anything: it is a label: what it is worth is what the hold of that sum in a sandbox is worth. -/
noncomputable def Try.pinned : Pinned := { name := "ytnmafbggpjglaaa", sum := "14e90af467783acde7fcfdab2b80288d9e8b8b4e1cbac6c440ac67b36b75660e", checked := Try.checked }
namespace Rows
def none {H : Type} : Left H := { results := [], args := [] }

/-- 'laws.FnCanRetime': WHATEVER THE INPUT: true; the input reads as it did. -/
def fnCanRetimeSpec : ChangeSpec := { name := "fnCanRetime", fn := fun _ => fun
  | [d] => { results := [.lit (.bool true)], args := [d] }
  | _ => none }
def fnCanRetimeRow : OpenClaim := { program := "ytnmafbggpjglaaa", sum := "14e90af467783acde7fcfdab2b80288d9e8b8b4e1cbac6c440ac67b36b75660e", func := "loop.example/fpgatoolchain/laws.FnCanRetime", spec := "fnCanRetime", apart := false }
def FnCanRetimeSaid : Prop := fnCanRetimeRow.holds Try.pinned (OpenSpec.ofChange fnCanRetimeSpec)

/-- ITS FALSE NEIGHBOUR: 'it returns false'. Refute it at one input. -/
def fnCanRetimeWrong : ChangeSpec := { name := "fnCanRetime", fn := fun _ => fun
  | [d] => { results := [.lit (.bool false)], args := [d] }
  | _ => none }
def FnCanRetimeWrongFalsely : Prop := fnCanRetimeRow.holds Try.pinned (OpenSpec.ofChange fnCanRetimeWrong)

/-- 'laws.FnReachable': WHATEVER THE INPUT: true; the input reads as it did. -/
def fnReachableSpec : ChangeSpec := { name := "fnReachable", fn := fun _ => fun
  | [d] => { results := [.lit (.bool true)], args := [d] }
  | _ => none }
def fnReachableRow : OpenClaim := { program := "ytnmafbggpjglaaa", sum := "14e90af467783acde7fcfdab2b80288d9e8b8b4e1cbac6c440ac67b36b75660e", func := "loop.example/fpgatoolchain/laws.FnReachable", spec := "fnReachable", apart := false }
def FnReachableSaid : Prop := fnReachableRow.holds Try.pinned (OpenSpec.ofChange fnReachableSpec)

/-- ITS FALSE NEIGHBOUR: 'it returns false'. Refute it at one input. -/
def fnReachableWrong : ChangeSpec := { name := "fnReachable", fn := fun _ => fun
  | [d] => { results := [.lit (.bool false)], args := [d] }
  | _ => none }
def FnReachableWrongFalsely : Prop := fnReachableRow.holds Try.pinned (OpenSpec.ofChange fnReachableWrong)

/-- 'laws.FnLeaves': WHATEVER THE INPUT: true; the input reads as it did. -/
def fnLeavesSpec : ChangeSpec := { name := "fnLeaves", fn := fun _ => fun
  | [d] => { results := [.lit (.bool true)], args := [d] }
  | _ => none }
def fnLeavesRow : OpenClaim := { program := "ytnmafbggpjglaaa", sum := "14e90af467783acde7fcfdab2b80288d9e8b8b4e1cbac6c440ac67b36b75660e", func := "loop.example/fpgatoolchain/laws.FnLeaves", spec := "fnLeaves", recurses := true, apart := false }
def FnLeavesSaid : Prop := fnLeavesRow.holds Try.pinned (OpenSpec.ofChange fnLeavesSpec)

/-- ITS FALSE NEIGHBOUR: 'it returns false'. Refute it at one input. -/
def fnLeavesWrong : ChangeSpec := { name := "fnLeaves", fn := fun _ => fun
  | [d] => { results := [.lit (.bool false)], args := [d] }
  | _ => none }
def FnLeavesWrongFalsely : Prop := fnLeavesRow.holds Try.pinned (OpenSpec.ofChange fnLeavesWrong)

/-- 'laws.FnTseitin': WHATEVER THE INPUT: true; the input reads as it did. -/
def fnTseitinSpec : ChangeSpec := { name := "fnTseitin", fn := fun _ => fun
  | [d] => { results := [.lit (.bool true)], args := [d] }
  | _ => none }
def fnTseitinRow : OpenClaim := { program := "ytnmafbggpjglaaa", sum := "14e90af467783acde7fcfdab2b80288d9e8b8b4e1cbac6c440ac67b36b75660e", func := "loop.example/fpgatoolchain/laws.FnTseitin", spec := "fnTseitin", apart := false }
def FnTseitinSaid : Prop := fnTseitinRow.holds Try.pinned (OpenSpec.ofChange fnTseitinSpec)

/-- ITS FALSE NEIGHBOUR: 'it returns false'. Refute it at one input. -/
def fnTseitinWrong : ChangeSpec := { name := "fnTseitin", fn := fun _ => fun
  | [d] => { results := [.lit (.bool false)], args := [d] }
  | _ => none }
def FnTseitinWrongFalsely : Prop := fnTseitinRow.holds Try.pinned (OpenSpec.ofChange fnTseitinWrong)

/-- 'laws.FnForceGate': WHATEVER THE INPUT: true; the input reads as it did. -/
def fnForceGateSpec : ChangeSpec := { name := "fnForceGate", fn := fun _ => fun
  | [d] => { results := [.lit (.bool true)], args := [d] }
  | _ => none }
def fnForceGateRow : OpenClaim := { program := "ytnmafbggpjglaaa", sum := "14e90af467783acde7fcfdab2b80288d9e8b8b4e1cbac6c440ac67b36b75660e", func := "loop.example/fpgatoolchain/laws.FnForceGate", spec := "fnForceGate", unfollowed := true, recurses := true, apart := false }
def FnForceGateSaid : Prop := fnForceGateRow.holds Try.pinned (OpenSpec.ofChange fnForceGateSpec)

/-- ITS FALSE NEIGHBOUR: 'it returns false'. Refute it at one input. -/
def fnForceGateWrong : ChangeSpec := { name := "fnForceGate", fn := fun _ => fun
  | [d] => { results := [.lit (.bool false)], args := [d] }
  | _ => none }
def FnForceGateWrongFalsely : Prop := fnForceGateRow.holds Try.pinned (OpenSpec.ofChange fnForceGateWrong)

/-- 'laws.FnCanScan': WHATEVER THE INPUT: true; the input reads as it did. -/
def fnCanScanSpec : ChangeSpec := { name := "fnCanScan", fn := fun _ => fun
  | [d] => { results := [.lit (.bool true)], args := [d] }
  | _ => none }
def fnCanScanRow : OpenClaim := { program := "ytnmafbggpjglaaa", sum := "14e90af467783acde7fcfdab2b80288d9e8b8b4e1cbac6c440ac67b36b75660e", func := "loop.example/fpgatoolchain/laws.FnCanScan", spec := "fnCanScan", unfollowed := true, recurses := true, apart := false }
def FnCanScanSaid : Prop := fnCanScanRow.holds Try.pinned (OpenSpec.ofChange fnCanScanSpec)

/-- ITS FALSE NEIGHBOUR: 'it returns false'. Refute it at one input. -/
def fnCanScanWrong : ChangeSpec := { name := "fnCanScan", fn := fun _ => fun
  | [d] => { results := [.lit (.bool false)], args := [d] }
  | _ => none }
def FnCanScanWrongFalsely : Prop := fnCanScanRow.holds Try.pinned (OpenSpec.ofChange fnCanScanWrong)

/- THE SECOND FORM. 'bulk': how many values and letters a reading holds, each counted each time it is reached (what is shared counts as often as it is met; a slice's spare places count too). A statement '..UptoSaid' is the law's where the arguments, and the package variables that the reading takes, are together of bulk at most 1048576: NARROWER than '..Said'. Prove '..Said' where nothing that the law and all that it calls make is longer than what came in: it says more and counts as full. Else prove '..UptoSaid'. A law counts once. -/
mutual
def uptoBulk {H : Type} : DataW H → Nat
  | .lit (.string bytes) => bytes.length + 1
  | .lit _ => 1
  | .nil => 1
  | .ptr d => uptoBulk d + 1
  | .slice elems spare => uptoBulkAll elems + uptoBulkAll spare + 1
  | .agg parts => uptoBulkAll parts + 1
  | .iface _ d => uptoBulk d + 1
  | .map entries => uptoBulkEntries entries + 1
  | .held _ => 1
def uptoBulkAll {H : Type} : List (DataW H) → Nat
  | [] => 0
  | d :: r => uptoBulk d + uptoBulkAll r
def uptoBulkEntries {H : Type} : List (Lit × DataW H) → Nat
  | [] => 0
  | x :: r => uptoBulkEntry x + uptoBulkEntries r
def uptoBulkEntry {H : Type} : Lit × DataW H → Nat
  | (.string bytes, d) => bytes.length + uptoBulk d + 1
  | (_, d) => uptoBulk d + 1
 end
def uptoSmall : (H : Type) → List (DataW H) → Bool := fun _ ds => decide (uptoBulkAll ds ≤ 1048576)
def OpenSpec.upto (s : _root_.Go.ChangeSpec) : _root_.Go.OpenSpec := { _root_.Go.OpenSpec.ofChange s with cond := some uptoSmall }

/-- 'laws.FnCanRetime', WHERE WHAT IT READS IS OF BULK AT MOST 1048576: true; the input reads as it did. -/
def fnCanRetimeUptoRow : OpenClaim := { program := "ytnmafbggpjglaaa", sum := "14e90af467783acde7fcfdab2b80288d9e8b8b4e1cbac6c440ac67b36b75660e", func := "loop.example/fpgatoolchain/laws.FnCanRetime", spec := "fnCanRetime", apart := false, narrowed := true }
def FnCanRetimeUptoSaid : Prop := fnCanRetimeUptoRow.holds Try.pinned (OpenSpec.upto fnCanRetimeSpec)

/-- 'laws.FnReachable', WHERE WHAT IT READS IS OF BULK AT MOST 1048576: true; the input reads as it did. -/
def fnReachableUptoRow : OpenClaim := { program := "ytnmafbggpjglaaa", sum := "14e90af467783acde7fcfdab2b80288d9e8b8b4e1cbac6c440ac67b36b75660e", func := "loop.example/fpgatoolchain/laws.FnReachable", spec := "fnReachable", apart := false, narrowed := true }
def FnReachableUptoSaid : Prop := fnReachableUptoRow.holds Try.pinned (OpenSpec.upto fnReachableSpec)

/-- 'laws.FnLeaves', WHERE WHAT IT READS IS OF BULK AT MOST 1048576: true; the input reads as it did. -/
def fnLeavesUptoRow : OpenClaim := { program := "ytnmafbggpjglaaa", sum := "14e90af467783acde7fcfdab2b80288d9e8b8b4e1cbac6c440ac67b36b75660e", func := "loop.example/fpgatoolchain/laws.FnLeaves", spec := "fnLeaves", recurses := true, apart := false, narrowed := true }
def FnLeavesUptoSaid : Prop := fnLeavesUptoRow.holds Try.pinned (OpenSpec.upto fnLeavesSpec)

/-- 'laws.FnTseitin', WHERE WHAT IT READS IS OF BULK AT MOST 1048576: true; the input reads as it did. -/
def fnTseitinUptoRow : OpenClaim := { program := "ytnmafbggpjglaaa", sum := "14e90af467783acde7fcfdab2b80288d9e8b8b4e1cbac6c440ac67b36b75660e", func := "loop.example/fpgatoolchain/laws.FnTseitin", spec := "fnTseitin", apart := false, narrowed := true }
def FnTseitinUptoSaid : Prop := fnTseitinUptoRow.holds Try.pinned (OpenSpec.upto fnTseitinSpec)

/-- 'laws.FnForceGate', WHERE WHAT IT READS IS OF BULK AT MOST 1048576: true; the input reads as it did. -/
def fnForceGateUptoRow : OpenClaim := { program := "ytnmafbggpjglaaa", sum := "14e90af467783acde7fcfdab2b80288d9e8b8b4e1cbac6c440ac67b36b75660e", func := "loop.example/fpgatoolchain/laws.FnForceGate", spec := "fnForceGate", unfollowed := true, recurses := true, apart := false, narrowed := true }
def FnForceGateUptoSaid : Prop := fnForceGateUptoRow.holds Try.pinned (OpenSpec.upto fnForceGateSpec)

/-- 'laws.FnCanScan', WHERE WHAT IT READS IS OF BULK AT MOST 1048576: true; the input reads as it did. -/
def fnCanScanUptoRow : OpenClaim := { program := "ytnmafbggpjglaaa", sum := "14e90af467783acde7fcfdab2b80288d9e8b8b4e1cbac6c440ac67b36b75660e", func := "loop.example/fpgatoolchain/laws.FnCanScan", spec := "fnCanScan", unfollowed := true, recurses := true, apart := false, narrowed := true }
def FnCanScanUptoSaid : Prop := fnCanScanUptoRow.holds Try.pinned (OpenSpec.upto fnCanScanSpec)

end Rows
end Go.Proofs.Ytnmafbggpjglaaa
