/-
  No cell of these rows narrows 'for every input' (looked for: loops, veiled, ifaces, maps, wideKeys, modest, calm, conditions, laid).
  DERIVED. THE GIVEN ROWS OF THIS SEAT. 6 by the template 'for every input the law returns true; each argument reads behind the call as it read before'; 0 by the template 'total and deterministic' (their statements: YtgiklnldfeajmaaTotals.lean).
  GIVEN WITH THE SEED: the statements are not yours to turn. If you find one false, say at which input.
  Laid BY PROGRAM, IN A SANDBOX (cutbox-rows.mjs): the forced cells as the released guide's own fill.sh prints them over the translation 4d99de3ebc30bea3… (all of the seat's roots in one cut). By AI agents, Wed Nov 11 2026. No macro, syntax, notation, axiom, sorry.
-/
import Derived.Test.YtgiklnldfeajmaaChecked
import GoSem.Claim
import GoSem.ClaimJoined
import GoSem.ClaimMapViews
import Derived.JoinedTies
import Derived.KernelRfl
namespace Go.Proofs.Ytgiklnldfeajmaa
/- THE CELL 'sum', in the pinned program and in every row, IS THE sha256 OF THE DUMP (.gsa) THAT YtgiklnldfeajmaaProg.lean LOADS. Nothing in Lean hashes anything: it is a label: what it is worth is what the hold of that sum in a sandbox is worth. -/
noncomputable def Try.pinned : Pinned := { name := "ytgiklnldfeajmaa", sum := "4d99de3ebc30bea356902a89d1b61e5773bbf9c99f44f5dbb066aaf60fdfa44b", checked := Try.checked }
namespace Rows
def none {H : Type} : Left H := { results := [], args := [] }

/-- 'laws.FnExactClausesValid': WHATEVER THE INPUT: true; the input reads as it did. -/
def fnExactClausesValidSpec : ChangeSpec := { name := "fnExactClausesValid", fn := fun _ => fun
  | [d] => { results := [.lit (.bool true)], args := [d] }
  | _ => none }
def fnExactClausesValidRow : OpenClaim := { program := "ytgiklnldfeajmaa", sum := "4d99de3ebc30bea356902a89d1b61e5773bbf9c99f44f5dbb066aaf60fdfa44b", func := "loop.example/fpgatoolchain/laws.FnExactClausesValid", spec := "fnExactClausesValid", plainKeys := false, apart := false }
def FnExactClausesValidSaid : Prop := fnExactClausesValidRow.holds Try.pinned (OpenSpec.ofChange fnExactClausesValidSpec)

/-- ITS FALSE NEIGHBOUR: 'it returns false'. Refute it at one input. -/
def fnExactClausesValidWrong : ChangeSpec := { name := "fnExactClausesValid", fn := fun _ => fun
  | [d] => { results := [.lit (.bool false)], args := [d] }
  | _ => none }
def FnExactClausesValidWrongFalsely : Prop := fnExactClausesValidRow.holds Try.pinned (OpenSpec.ofChange fnExactClausesValidWrong)

/-- 'laws.FnExactBddValid': WHATEVER THE INPUT: true; the input reads as it did. -/
def fnExactBddValidSpec : ChangeSpec := { name := "fnExactBddValid", fn := fun _ => fun
  | [d] => { results := [.lit (.bool true)], args := [d] }
  | _ => none }
def fnExactBddValidRow : OpenClaim := { program := "ytgiklnldfeajmaa", sum := "4d99de3ebc30bea356902a89d1b61e5773bbf9c99f44f5dbb066aaf60fdfa44b", func := "loop.example/fpgatoolchain/laws.FnExactBddValid", spec := "fnExactBddValid", plainKeys := false, apart := false }
def FnExactBddValidSaid : Prop := fnExactBddValidRow.holds Try.pinned (OpenSpec.ofChange fnExactBddValidSpec)

/-- ITS FALSE NEIGHBOUR: 'it returns false'. Refute it at one input. -/
def fnExactBddValidWrong : ChangeSpec := { name := "fnExactBddValid", fn := fun _ => fun
  | [d] => { results := [.lit (.bool false)], args := [d] }
  | _ => none }
def FnExactBddValidWrongFalsely : Prop := fnExactBddValidRow.holds Try.pinned (OpenSpec.ofChange fnExactBddValidWrong)

/-- 'laws.FnClausesValid': WHATEVER THE INPUT: true; the input reads as it did. -/
def fnClausesValidSpec : ChangeSpec := { name := "fnClausesValid", fn := fun _ => fun
  | [d] => { results := [.lit (.bool true)], args := [d] }
  | _ => none }
def fnClausesValidRow : OpenClaim := { program := "ytgiklnldfeajmaa", sum := "4d99de3ebc30bea356902a89d1b61e5773bbf9c99f44f5dbb066aaf60fdfa44b", func := "loop.example/fpgatoolchain/laws.FnClausesValid", spec := "fnClausesValid", plainKeys := false, apart := false }
def FnClausesValidSaid : Prop := fnClausesValidRow.holds Try.pinned (OpenSpec.ofChange fnClausesValidSpec)

/-- ITS FALSE NEIGHBOUR: 'it returns false'. Refute it at one input. -/
def fnClausesValidWrong : ChangeSpec := { name := "fnClausesValid", fn := fun _ => fun
  | [d] => { results := [.lit (.bool false)], args := [d] }
  | _ => none }
def FnClausesValidWrongFalsely : Prop := fnClausesValidRow.holds Try.pinned (OpenSpec.ofChange fnClausesValidWrong)

/-- 'laws.FnExactEvalBdd': WHATEVER THE INPUT: true; the input reads as it did. -/
def fnExactEvalBddSpec : ChangeSpec := { name := "fnExactEvalBdd", fn := fun _ => fun
  | [d1, d2] => { results := [.lit (.bool true)], args := [d1, d2] }
  | _ => none }
def fnExactEvalBddRow : OpenClaim := { program := "ytgiklnldfeajmaa", sum := "4d99de3ebc30bea356902a89d1b61e5773bbf9c99f44f5dbb066aaf60fdfa44b", func := "loop.example/fpgatoolchain/laws.FnExactEvalBdd", spec := "fnExactEvalBdd", plainKeys := false, apart := false }
def FnExactEvalBddSaid : Prop := fnExactEvalBddRow.holds Try.pinned (OpenSpec.ofChange fnExactEvalBddSpec)

/-- ITS FALSE NEIGHBOUR: 'it returns false'. Refute it at one input. -/
def fnExactEvalBddWrong : ChangeSpec := { name := "fnExactEvalBdd", fn := fun _ => fun
  | [d1, d2] => { results := [.lit (.bool false)], args := [d1, d2] }
  | _ => none }
def FnExactEvalBddWrongFalsely : Prop := fnExactEvalBddRow.holds Try.pinned (OpenSpec.ofChange fnExactEvalBddWrong)

/-- 'laws.FnCanRetime': WHATEVER THE INPUT: true; the input reads as it did. -/
def fnCanRetimeSpec : ChangeSpec := { name := "fnCanRetime", fn := fun _ => fun
  | [d] => { results := [.lit (.bool true)], args := [d] }
  | _ => none }
def fnCanRetimeRow : OpenClaim := { program := "ytgiklnldfeajmaa", sum := "4d99de3ebc30bea356902a89d1b61e5773bbf9c99f44f5dbb066aaf60fdfa44b", func := "loop.example/fpgatoolchain/laws.FnCanRetime", spec := "fnCanRetime", plainKeys := false, apart := false }
def FnCanRetimeSaid : Prop := fnCanRetimeRow.holds Try.pinned (OpenSpec.ofChange fnCanRetimeSpec)

/-- ITS FALSE NEIGHBOUR: 'it returns false'. Refute it at one input. -/
def fnCanRetimeWrong : ChangeSpec := { name := "fnCanRetime", fn := fun _ => fun
  | [d] => { results := [.lit (.bool false)], args := [d] }
  | _ => none }
def FnCanRetimeWrongFalsely : Prop := fnCanRetimeRow.holds Try.pinned (OpenSpec.ofChange fnCanRetimeWrong)

/-- 'laws.FnExactCanScan': WHATEVER THE INPUT: true; the input reads as it did. -/
def fnExactCanScanSpec : ChangeSpec := { name := "fnExactCanScan", fn := fun _ => fun
  | [d] => { results := [.lit (.bool true)], args := [d] }
  | _ => none }
def fnExactCanScanRow : OpenClaim := { program := "ytgiklnldfeajmaa", sum := "4d99de3ebc30bea356902a89d1b61e5773bbf9c99f44f5dbb066aaf60fdfa44b", func := "loop.example/fpgatoolchain/laws.FnExactCanScan", spec := "fnExactCanScan", plainKeys := false, apart := false }
def FnExactCanScanSaid : Prop := fnExactCanScanRow.holds Try.pinned (OpenSpec.ofChange fnExactCanScanSpec)

/-- ITS FALSE NEIGHBOUR: 'it returns false'. Refute it at one input. -/
def fnExactCanScanWrong : ChangeSpec := { name := "fnExactCanScan", fn := fun _ => fun
  | [d] => { results := [.lit (.bool false)], args := [d] }
  | _ => none }
def FnExactCanScanWrongFalsely : Prop := fnExactCanScanRow.holds Try.pinned (OpenSpec.ofChange fnExactCanScanWrong)

/- THE SECOND FORM. 'bulk': how many values and letters a reading holds, each counted each time it is reached (what is shared counts as often as it is met; a slice's spare places count too). A statement '..UptoSaid' is the law's where the arguments, and the package variables that the reading takes, are together of bulk at most 1048576: NARROWER than '..Said'. Prove '..Said' where nothing that the law and all that it calls make is longer than what came in: it says more and counts as full. Else prove '..UptoSaid'. A law counts once. -/
mutual
def uptoBulk {H : Type} : DataW H → Nat
  | .lit (.string bytes) => bytes.length + 1
  | .lit _ => 1
  | .nil => 1
  | .ptr d => uptoBulk d + 1
  | .slice elems spare => uptoBulkAll elems + uptoBulkAll spare + 1
  | .agg parts => uptoBulkAll parts + 1
  | .iface _ d => uptoBulk d + 1
  | .map entries => uptoBulkEntries entries + 1
  | .held _ => 1
def uptoBulkAll {H : Type} : List (DataW H) → Nat
  | [] => 0
  | d :: r => uptoBulk d + uptoBulkAll r
def uptoBulkEntries {H : Type} : List (Lit × DataW H) → Nat
  | [] => 0
  | x :: r => uptoBulkEntry x + uptoBulkEntries r
def uptoBulkEntry {H : Type} : Lit × DataW H → Nat
  | (.string bytes, d) => bytes.length + uptoBulk d + 1
  | (_, d) => uptoBulk d + 1
 end
def uptoSmall : (H : Type) → List (DataW H) → Bool := fun _ ds => decide (uptoBulkAll ds ≤ 1048576)
def OpenSpec.upto (s : _root_.Go.ChangeSpec) : _root_.Go.OpenSpec := { _root_.Go.OpenSpec.ofChange s with cond := some uptoSmall }

/-- 'laws.FnExactClausesValid', WHERE WHAT IT READS IS OF BULK AT MOST 1048576: true; the input reads as it did. -/
def fnExactClausesValidUptoRow : OpenClaim := { program := "ytgiklnldfeajmaa", sum := "4d99de3ebc30bea356902a89d1b61e5773bbf9c99f44f5dbb066aaf60fdfa44b", func := "loop.example/fpgatoolchain/laws.FnExactClausesValid", spec := "fnExactClausesValid", plainKeys := false, apart := false, narrowed := true }
def FnExactClausesValidUptoSaid : Prop := fnExactClausesValidUptoRow.holds Try.pinned (OpenSpec.upto fnExactClausesValidSpec)

/-- 'laws.FnExactBddValid', WHERE WHAT IT READS IS OF BULK AT MOST 1048576: true; the input reads as it did. -/
def fnExactBddValidUptoRow : OpenClaim := { program := "ytgiklnldfeajmaa", sum := "4d99de3ebc30bea356902a89d1b61e5773bbf9c99f44f5dbb066aaf60fdfa44b", func := "loop.example/fpgatoolchain/laws.FnExactBddValid", spec := "fnExactBddValid", plainKeys := false, apart := false, narrowed := true }
def FnExactBddValidUptoSaid : Prop := fnExactBddValidUptoRow.holds Try.pinned (OpenSpec.upto fnExactBddValidSpec)

/-- 'laws.FnClausesValid', WHERE WHAT IT READS IS OF BULK AT MOST 1048576: true; the input reads as it did. -/
def fnClausesValidUptoRow : OpenClaim := { program := "ytgiklnldfeajmaa", sum := "4d99de3ebc30bea356902a89d1b61e5773bbf9c99f44f5dbb066aaf60fdfa44b", func := "loop.example/fpgatoolchain/laws.FnClausesValid", spec := "fnClausesValid", plainKeys := false, apart := false, narrowed := true }
def FnClausesValidUptoSaid : Prop := fnClausesValidUptoRow.holds Try.pinned (OpenSpec.upto fnClausesValidSpec)

/-- 'laws.FnExactEvalBdd', WHERE WHAT IT READS IS OF BULK AT MOST 1048576: true; the input reads as it did. -/
def fnExactEvalBddUptoRow : OpenClaim := { program := "ytgiklnldfeajmaa", sum := "4d99de3ebc30bea356902a89d1b61e5773bbf9c99f44f5dbb066aaf60fdfa44b", func := "loop.example/fpgatoolchain/laws.FnExactEvalBdd", spec := "fnExactEvalBdd", plainKeys := false, apart := false, narrowed := true }
def FnExactEvalBddUptoSaid : Prop := fnExactEvalBddUptoRow.holds Try.pinned (OpenSpec.upto fnExactEvalBddSpec)

/-- 'laws.FnCanRetime', WHERE WHAT IT READS IS OF BULK AT MOST 1048576: true; the input reads as it did. -/
def fnCanRetimeUptoRow : OpenClaim := { program := "ytgiklnldfeajmaa", sum := "4d99de3ebc30bea356902a89d1b61e5773bbf9c99f44f5dbb066aaf60fdfa44b", func := "loop.example/fpgatoolchain/laws.FnCanRetime", spec := "fnCanRetime", plainKeys := false, apart := false, narrowed := true }
def FnCanRetimeUptoSaid : Prop := fnCanRetimeUptoRow.holds Try.pinned (OpenSpec.upto fnCanRetimeSpec)

/-- 'laws.FnExactCanScan', WHERE WHAT IT READS IS OF BULK AT MOST 1048576: true; the input reads as it did. -/
def fnExactCanScanUptoRow : OpenClaim := { program := "ytgiklnldfeajmaa", sum := "4d99de3ebc30bea356902a89d1b61e5773bbf9c99f44f5dbb066aaf60fdfa44b", func := "loop.example/fpgatoolchain/laws.FnExactCanScan", spec := "fnExactCanScan", plainKeys := false, apart := false, narrowed := true }
def FnExactCanScanUptoSaid : Prop := fnExactCanScanUptoRow.holds Try.pinned (OpenSpec.upto fnExactCanScanSpec)

end Rows
end Go.Proofs.Ytgiklnldfeajmaa
