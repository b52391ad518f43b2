/-
  No cell of these rows narrows 'for every input' (looked for: loops, veiled, ifaces, maps, wideKeys, modest, calm, conditions, laid).
  DERIVED. THE GIVEN ROWS OF THIS SEAT. 6 by the template 'for every input the law returns true; each argument reads behind the call as it read before'; 0 by the template 'total and deterministic' (their statements: YthbpngpomdnbfaaTotals.lean).
  GIVEN WITH THE SEED: the statements are not yours to turn. If you find one false, say at which input.
  Laid BY PROGRAM, IN A SANDBOX (cutbox-rows.mjs): the forced cells as the released guide's own fill.sh prints them over the translation cfd54f8628a022ac… (all of the seat's roots in one cut). By AI agents, Wed Nov 11 2026. No macro, syntax, notation, axiom, sorry.
-/
import Derived.Test.YthbpngpomdnbfaaChecked
import GoSem.Claim
import GoSem.ClaimJoined
import GoSem.ClaimMapViews
import Derived.JoinedTies
import Derived.KernelRfl
namespace Go.Proofs.Ythbpngpomdnbfaa
/- THE CELL 'sum', in the pinned program and in every row, IS THE sha256 OF THE DUMP (.gsa) THAT YthbpngpomdnbfaaProg.lean LOADS. Nothing in Lean hashes anything: it is a label: what it is worth is what the hold of that sum in a sandbox is worth. -/
noncomputable def Try.pinned : Pinned := { name := "ythbpngpomdnbfaa", sum := "cfd54f8628a022ac8f9837885f74b825def7883ca366bbc69aabde756b4e7b23", checked := Try.checked }
namespace Rows
def none {H : Type} : Left H := { results := [], args := [] }

/-- 'laws.FnExactUndetectable': WHATEVER THE INPUT: true; the input reads as it did. -/
def fnExactUndetectableSpec : ChangeSpec := { name := "fnExactUndetectable", fn := fun _ => fun
  | [d] => { results := [.lit (.bool true)], args := [d] }
  | _ => none }
def fnExactUndetectableRow : OpenClaim := { program := "ythbpngpomdnbfaa", sum := "cfd54f8628a022ac8f9837885f74b825def7883ca366bbc69aabde756b4e7b23", func := "loop.example/fpgatoolchain/laws.FnExactUndetectable", spec := "fnExactUndetectable", plainKeys := false, apart := false }
def FnExactUndetectableSaid : Prop := fnExactUndetectableRow.holds Try.pinned (OpenSpec.ofChange fnExactUndetectableSpec)

/-- ITS FALSE NEIGHBOUR: 'it returns false'. Refute it at one input. -/
def fnExactUndetectableWrong : ChangeSpec := { name := "fnExactUndetectable", fn := fun _ => fun
  | [d] => { results := [.lit (.bool false)], args := [d] }
  | _ => none }
def FnExactUndetectableWrongFalsely : Prop := fnExactUndetectableRow.holds Try.pinned (OpenSpec.ofChange fnExactUndetectableWrong)

/-- 'laws.FnExactReachable': WHATEVER THE INPUT: true; the input reads as it did. -/
def fnExactReachableSpec : ChangeSpec := { name := "fnExactReachable", fn := fun _ => fun
  | [d] => { results := [.lit (.bool true)], args := [d] }
  | _ => none }
def fnExactReachableRow : OpenClaim := { program := "ythbpngpomdnbfaa", sum := "cfd54f8628a022ac8f9837885f74b825def7883ca366bbc69aabde756b4e7b23", func := "loop.example/fpgatoolchain/laws.FnExactReachable", spec := "fnExactReachable", plainKeys := false, apart := false }
def FnExactReachableSaid : Prop := fnExactReachableRow.holds Try.pinned (OpenSpec.ofChange fnExactReachableSpec)

/-- ITS FALSE NEIGHBOUR: 'it returns false'. Refute it at one input. -/
def fnExactReachableWrong : ChangeSpec := { name := "fnExactReachable", fn := fun _ => fun
  | [d] => { results := [.lit (.bool false)], args := [d] }
  | _ => none }
def FnExactReachableWrongFalsely : Prop := fnExactReachableRow.holds Try.pinned (OpenSpec.ofChange fnExactReachableWrong)

/-- 'laws.FnExactScanRows': WHATEVER THE INPUT: true; the input reads as it did. -/
def fnExactScanRowsSpec : ChangeSpec := { name := "fnExactScanRows", fn := fun _ => fun
  | [d1, d2] => { results := [.lit (.bool true)], args := [d1, d2] }
  | _ => none }
def fnExactScanRowsRow : OpenClaim := { program := "ythbpngpomdnbfaa", sum := "cfd54f8628a022ac8f9837885f74b825def7883ca366bbc69aabde756b4e7b23", func := "loop.example/fpgatoolchain/laws.FnExactScanRows", spec := "fnExactScanRows", plainKeys := false, apart := false }
def FnExactScanRowsSaid : Prop := fnExactScanRowsRow.holds Try.pinned (OpenSpec.ofChange fnExactScanRowsSpec)

/-- ITS FALSE NEIGHBOUR: 'it returns false'. Refute it at one input. -/
def fnExactScanRowsWrong : ChangeSpec := { name := "fnExactScanRows", fn := fun _ => fun
  | [d1, d2] => { results := [.lit (.bool false)], args := [d1, d2] }
  | _ => none }
def FnExactScanRowsWrongFalsely : Prop := fnExactScanRowsRow.holds Try.pinned (OpenSpec.ofChange fnExactScanRowsWrong)

/-- 'laws.FnExactRetime': WHATEVER THE INPUT: true; the input reads as it did. -/
def fnExactRetimeSpec : ChangeSpec := { name := "fnExactRetime", fn := fun _ => fun
  | [d1, d2] => { results := [.lit (.bool true)], args := [d1, d2] }
  | _ => none }
def fnExactRetimeRow : OpenClaim := { program := "ythbpngpomdnbfaa", sum := "cfd54f8628a022ac8f9837885f74b825def7883ca366bbc69aabde756b4e7b23", func := "loop.example/fpgatoolchain/laws.FnExactRetime", spec := "fnExactRetime", unfollowed := true, recurses := true, plainKeys := false, apart := false }
def FnExactRetimeSaid : Prop := fnExactRetimeRow.holds Try.pinned (OpenSpec.ofChange fnExactRetimeSpec)

/-- ITS FALSE NEIGHBOUR: 'it returns false'. Refute it at one input. -/
def fnExactRetimeWrong : ChangeSpec := { name := "fnExactRetime", fn := fun _ => fun
  | [d1, d2] => { results := [.lit (.bool false)], args := [d1, d2] }
  | _ => none }
def FnExactRetimeWrongFalsely : Prop := fnExactRetimeRow.holds Try.pinned (OpenSpec.ofChange fnExactRetimeWrong)

/-- 'laws.FnExactStateClasses': WHATEVER THE INPUT: true; the input reads as it did. -/
def fnExactStateClassesSpec : ChangeSpec := { name := "fnExactStateClasses", fn := fun _ => fun
  | [d] => { results := [.lit (.bool true)], args := [d] }
  | _ => none }
def fnExactStateClassesRow : OpenClaim := { program := "ythbpngpomdnbfaa", sum := "cfd54f8628a022ac8f9837885f74b825def7883ca366bbc69aabde756b4e7b23", func := "loop.example/fpgatoolchain/laws.FnExactStateClasses", spec := "fnExactStateClasses", unfollowed := true, recurses := true, plainKeys := false, apart := false }
def FnExactStateClassesSaid : Prop := fnExactStateClassesRow.holds Try.pinned (OpenSpec.ofChange fnExactStateClassesSpec)

/-- ITS FALSE NEIGHBOUR: 'it returns false'. Refute it at one input. -/
def fnExactStateClassesWrong : ChangeSpec := { name := "fnExactStateClasses", fn := fun _ => fun
  | [d] => { results := [.lit (.bool false)], args := [d] }
  | _ => none }
def FnExactStateClassesWrongFalsely : Prop := fnExactStateClassesRow.holds Try.pinned (OpenSpec.ofChange fnExactStateClassesWrong)

/-- 'laws.FnExactSequentiallyEquivalent': WHATEVER THE INPUT: true; the input reads as it did. -/
def fnExactSequentiallyEquivalentSpec : ChangeSpec := { name := "fnExactSequentiallyEquivalent", fn := fun _ => fun
  | [d1, d2] => { results := [.lit (.bool true)], args := [d1, d2] }
  | _ => none }
def fnExactSequentiallyEquivalentRow : OpenClaim := { program := "ythbpngpomdnbfaa", sum := "cfd54f8628a022ac8f9837885f74b825def7883ca366bbc69aabde756b4e7b23", func := "loop.example/fpgatoolchain/laws.FnExactSequentiallyEquivalent", spec := "fnExactSequentiallyEquivalent", unfollowed := true, recurses := true, plainKeys := false, apart := false }
def FnExactSequentiallyEquivalentSaid : Prop := fnExactSequentiallyEquivalentRow.holds Try.pinned (OpenSpec.ofChange fnExactSequentiallyEquivalentSpec)

/-- ITS FALSE NEIGHBOUR: 'it returns false'. Refute it at one input. -/
def fnExactSequentiallyEquivalentWrong : ChangeSpec := { name := "fnExactSequentiallyEquivalent", fn := fun _ => fun
  | [d1, d2] => { results := [.lit (.bool false)], args := [d1, d2] }
  | _ => none }
def FnExactSequentiallyEquivalentWrongFalsely : Prop := fnExactSequentiallyEquivalentRow.holds Try.pinned (OpenSpec.ofChange fnExactSequentiallyEquivalentWrong)

/- THE SECOND FORM. 'bulk': how many values and letters a reading holds, each counted each time it is reached (what is shared counts as often as it is met; a slice's spare places count too). A statement '..UptoSaid' is the law's where the arguments, and the package variables that the reading takes, are together of bulk at most 1048576: NARROWER than '..Said'. Prove '..Said' where nothing that the law and all that it calls make is longer than what came in: it says more and counts as full. Else prove '..UptoSaid'. A law counts once. -/
mutual
def uptoBulk {H : Type} : DataW H → Nat
  | .lit (.string bytes) => bytes.length + 1
  | .lit _ => 1
  | .nil => 1
  | .ptr d => uptoBulk d + 1
  | .slice elems spare => uptoBulkAll elems + uptoBulkAll spare + 1
  | .agg parts => uptoBulkAll parts + 1
  | .iface _ d => uptoBulk d + 1
  | .map entries => uptoBulkEntries entries + 1
  | .held _ => 1
def uptoBulkAll {H : Type} : List (DataW H) → Nat
  | [] => 0
  | d :: r => uptoBulk d + uptoBulkAll r
def uptoBulkEntries {H : Type} : List (Lit × DataW H) → Nat
  | [] => 0
  | x :: r => uptoBulkEntry x + uptoBulkEntries r
def uptoBulkEntry {H : Type} : Lit × DataW H → Nat
  | (.string bytes, d) => bytes.length + uptoBulk d + 1
  | (_, d) => uptoBulk d + 1
 end
def uptoSmall : (H : Type) → List (DataW H) → Bool := fun _ ds => decide (uptoBulkAll ds ≤ 1048576)
def OpenSpec.upto (s : _root_.Go.ChangeSpec) : _root_.Go.OpenSpec := { _root_.Go.OpenSpec.ofChange s with cond := some uptoSmall }

/-- 'laws.FnExactUndetectable', WHERE WHAT IT READS IS OF BULK AT MOST 1048576: true; the input reads as it did. -/
def fnExactUndetectableUptoRow : OpenClaim := { program := "ythbpngpomdnbfaa", sum := "cfd54f8628a022ac8f9837885f74b825def7883ca366bbc69aabde756b4e7b23", func := "loop.example/fpgatoolchain/laws.FnExactUndetectable", spec := "fnExactUndetectable", plainKeys := false, apart := false, narrowed := true }
def FnExactUndetectableUptoSaid : Prop := fnExactUndetectableUptoRow.holds Try.pinned (OpenSpec.upto fnExactUndetectableSpec)

/-- 'laws.FnExactReachable', WHERE WHAT IT READS IS OF BULK AT MOST 1048576: true; the input reads as it did. -/
def fnExactReachableUptoRow : OpenClaim := { program := "ythbpngpomdnbfaa", sum := "cfd54f8628a022ac8f9837885f74b825def7883ca366bbc69aabde756b4e7b23", func := "loop.example/fpgatoolchain/laws.FnExactReachable", spec := "fnExactReachable", plainKeys := false, apart := false, narrowed := true }
def FnExactReachableUptoSaid : Prop := fnExactReachableUptoRow.holds Try.pinned (OpenSpec.upto fnExactReachableSpec)

/-- 'laws.FnExactScanRows', WHERE WHAT IT READS IS OF BULK AT MOST 1048576: true; the input reads as it did. -/
def fnExactScanRowsUptoRow : OpenClaim := { program := "ythbpngpomdnbfaa", sum := "cfd54f8628a022ac8f9837885f74b825def7883ca366bbc69aabde756b4e7b23", func := "loop.example/fpgatoolchain/laws.FnExactScanRows", spec := "fnExactScanRows", plainKeys := false, apart := false, narrowed := true }
def FnExactScanRowsUptoSaid : Prop := fnExactScanRowsUptoRow.holds Try.pinned (OpenSpec.upto fnExactScanRowsSpec)

/-- 'laws.FnExactRetime', WHERE WHAT IT READS IS OF BULK AT MOST 1048576: true; the input reads as it did. -/
def fnExactRetimeUptoRow : OpenClaim := { program := "ythbpngpomdnbfaa", sum := "cfd54f8628a022ac8f9837885f74b825def7883ca366bbc69aabde756b4e7b23", func := "loop.example/fpgatoolchain/laws.FnExactRetime", spec := "fnExactRetime", unfollowed := true, recurses := true, plainKeys := false, apart := false, narrowed := true }
def FnExactRetimeUptoSaid : Prop := fnExactRetimeUptoRow.holds Try.pinned (OpenSpec.upto fnExactRetimeSpec)

/-- 'laws.FnExactStateClasses', WHERE WHAT IT READS IS OF BULK AT MOST 1048576: true; the input reads as it did. -/
def fnExactStateClassesUptoRow : OpenClaim := { program := "ythbpngpomdnbfaa", sum := "cfd54f8628a022ac8f9837885f74b825def7883ca366bbc69aabde756b4e7b23", func := "loop.example/fpgatoolchain/laws.FnExactStateClasses", spec := "fnExactStateClasses", unfollowed := true, recurses := true, plainKeys := false, apart := false, narrowed := true }
def FnExactStateClassesUptoSaid : Prop := fnExactStateClassesUptoRow.holds Try.pinned (OpenSpec.upto fnExactStateClassesSpec)

/-- 'laws.FnExactSequentiallyEquivalent', WHERE WHAT IT READS IS OF BULK AT MOST 1048576: true; the input reads as it did. -/
def fnExactSequentiallyEquivalentUptoRow : OpenClaim := { program := "ythbpngpomdnbfaa", sum := "cfd54f8628a022ac8f9837885f74b825def7883ca366bbc69aabde756b4e7b23", func := "loop.example/fpgatoolchain/laws.FnExactSequentiallyEquivalent", spec := "fnExactSequentiallyEquivalent", unfollowed := true, recurses := true, plainKeys := false, apart := false, narrowed := true }
def FnExactSequentiallyEquivalentUptoSaid : Prop := fnExactSequentiallyEquivalentUptoRow.holds Try.pinned (OpenSpec.upto fnExactSequentiallyEquivalentSpec)

end Rows
end Go.Proofs.Ythbpngpomdnbfaa
