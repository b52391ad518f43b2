/-
  No cell of these rows narrows 'for every input' (looked for: loops, veiled, ifaces, maps, wideKeys, modest, calm, conditions, laid).
  DERIVED. THE GIVEN ROWS OF THIS SEAT. 12 by the template 'for every input the law returns true; each argument reads behind the call as it read before'; 0 by the template 'total and deterministic' (their statements: YtbcolcchchgldaaTotals.lean).
  GIVEN WITH THE SEED: the statements are not yours to turn. If you find one false, say at which input.
  Laid BY PROGRAM, IN A SANDBOX (cutbox-rows.mjs): the forced cells as the released guide's own fill.sh prints them over the translation 5c20a4d5e3b5d3e7… (all of the seat's roots in one cut). By AI agents, Wed Nov 11 2026. No macro, syntax, notation, axiom, sorry.
-/
import Derived.Test.YtbcolcchchgldaaChecked
import GoSem.Claim
import GoSem.ClaimJoined
import GoSem.ClaimMapViews
import Derived.JoinedTies
import Derived.KernelRfl
namespace Go.Proofs.Ytbcolcchchgldaa
/- THE CELL 'sum', in the pinned program and in every row, IS THE sha256 OF THE DUMP (.gsa) THAT YtbcolcchchgldaaProg.lean LOADS. Nothing in Lean hashes anything: it is a label: what it is worth is what the hold of that sum in a sandbox is worth. -/
noncomputable def Try.pinned : Pinned := { name := "ytbcolcchchgldaa", sum := "5c20a4d5e3b5d3e7cacdf2ad7fe9948f1f5243a405ce54d5991f95072e53cac0", checked := Try.checked }
namespace Rows
def none {H : Type} : Left H := { results := [], args := [] }

/-- 'laws.FnCanScan': WHATEVER THE INPUT: true; the input reads as it did. -/
def fnCanScanSpec : ChangeSpec := { name := "fnCanScan", fn := fun _ => fun
  | [d] => { results := [.lit (.bool true)], args := [d] }
  | _ => none }
def fnCanScanRow : OpenClaim := { program := "ytbcolcchchgldaa", sum := "5c20a4d5e3b5d3e7cacdf2ad7fe9948f1f5243a405ce54d5991f95072e53cac0", func := "loop.example/fpgatoolchain/laws.FnCanScan", spec := "fnCanScan", unfollowed := true, recurses := true, plainKeys := false, apart := false }
def FnCanScanSaid : Prop := fnCanScanRow.holds Try.pinned (OpenSpec.ofChange fnCanScanSpec)

/-- ITS FALSE NEIGHBOUR: 'it returns false'. Refute it at one input. -/
def fnCanScanWrong : ChangeSpec := { name := "fnCanScan", fn := fun _ => fun
  | [d] => { results := [.lit (.bool false)], args := [d] }
  | _ => none }
def FnCanScanWrongFalsely : Prop := fnCanScanRow.holds Try.pinned (OpenSpec.ofChange fnCanScanWrong)

/-- 'laws.FnRetime': WHATEVER THE INPUT: true; the input reads as it did. -/
def fnRetimeSpec : ChangeSpec := { name := "fnRetime", fn := fun _ => fun
  | [d] => { results := [.lit (.bool true)], args := [d] }
  | _ => none }
def fnRetimeRow : OpenClaim := { program := "ytbcolcchchgldaa", sum := "5c20a4d5e3b5d3e7cacdf2ad7fe9948f1f5243a405ce54d5991f95072e53cac0", func := "loop.example/fpgatoolchain/laws.FnRetime", spec := "fnRetime", unfollowed := true, recurses := true, plainKeys := false, apart := false }
def FnRetimeSaid : Prop := fnRetimeRow.holds Try.pinned (OpenSpec.ofChange fnRetimeSpec)

/-- ITS FALSE NEIGHBOUR: 'it returns false'. Refute it at one input. -/
def fnRetimeWrong : ChangeSpec := { name := "fnRetime", fn := fun _ => fun
  | [d] => { results := [.lit (.bool false)], args := [d] }
  | _ => none }
def FnRetimeWrongFalsely : Prop := fnRetimeRow.holds Try.pinned (OpenSpec.ofChange fnRetimeWrong)

/-- 'laws.FnRetimeExample': WHATEVER THE INPUT: true; the input reads as it did. -/
def fnRetimeExampleSpec : ChangeSpec := { name := "fnRetimeExample", fn := fun _ => fun
  | [d] => { results := [.lit (.bool true)], args := [d] }
  | _ => none }
def fnRetimeExampleRow : OpenClaim := { program := "ytbcolcchchgldaa", sum := "5c20a4d5e3b5d3e7cacdf2ad7fe9948f1f5243a405ce54d5991f95072e53cac0", func := "loop.example/fpgatoolchain/laws.FnRetimeExample", spec := "fnRetimeExample", unfollowed := true, recurses := true, plainKeys := false, apart := false }
def FnRetimeExampleSaid : Prop := fnRetimeExampleRow.holds Try.pinned (OpenSpec.ofChange fnRetimeExampleSpec)

/-- ITS FALSE NEIGHBOUR: 'it returns false'. Refute it at one input. -/
def fnRetimeExampleWrong : ChangeSpec := { name := "fnRetimeExample", fn := fun _ => fun
  | [d] => { results := [.lit (.bool false)], args := [d] }
  | _ => none }
def FnRetimeExampleWrongFalsely : Prop := fnRetimeExampleRow.holds Try.pinned (OpenSpec.ofChange fnRetimeExampleWrong)

/-- 'laws.FnExactSequentiallyEquivalent': WHATEVER THE INPUT: true; the input reads as it did. -/
def fnExactSequentiallyEquivalentSpec : ChangeSpec := { name := "fnExactSequentiallyEquivalent", fn := fun _ => fun
  | [d1, d2] => { results := [.lit (.bool true)], args := [d1, d2] }
  | _ => none }
def fnExactSequentiallyEquivalentRow : OpenClaim := { program := "ytbcolcchchgldaa", sum := "5c20a4d5e3b5d3e7cacdf2ad7fe9948f1f5243a405ce54d5991f95072e53cac0", func := "loop.example/fpgatoolchain/laws.FnExactSequentiallyEquivalent", spec := "fnExactSequentiallyEquivalent", unfollowed := true, recurses := true, plainKeys := false, apart := false }
def FnExactSequentiallyEquivalentSaid : Prop := fnExactSequentiallyEquivalentRow.holds Try.pinned (OpenSpec.ofChange fnExactSequentiallyEquivalentSpec)

/-- ITS FALSE NEIGHBOUR: 'it returns false'. Refute it at one input. -/
def fnExactSequentiallyEquivalentWrong : ChangeSpec := { name := "fnExactSequentiallyEquivalent", fn := fun _ => fun
  | [d1, d2] => { results := [.lit (.bool false)], args := [d1, d2] }
  | _ => none }
def FnExactSequentiallyEquivalentWrongFalsely : Prop := fnExactSequentiallyEquivalentRow.holds Try.pinned (OpenSpec.ofChange fnExactSequentiallyEquivalentWrong)

/-- 'laws.FnExactStateClasses': WHATEVER THE INPUT: true; the input reads as it did. -/
def fnExactStateClassesSpec : ChangeSpec := { name := "fnExactStateClasses", fn := fun _ => fun
  | [d] => { results := [.lit (.bool true)], args := [d] }
  | _ => none }
def fnExactStateClassesRow : OpenClaim := { program := "ytbcolcchchgldaa", sum := "5c20a4d5e3b5d3e7cacdf2ad7fe9948f1f5243a405ce54d5991f95072e53cac0", func := "loop.example/fpgatoolchain/laws.FnExactStateClasses", spec := "fnExactStateClasses", unfollowed := true, recurses := true, plainKeys := false, apart := false }
def FnExactStateClassesSaid : Prop := fnExactStateClassesRow.holds Try.pinned (OpenSpec.ofChange fnExactStateClassesSpec)

/-- ITS FALSE NEIGHBOUR: 'it returns false'. Refute it at one input. -/
def fnExactStateClassesWrong : ChangeSpec := { name := "fnExactStateClasses", fn := fun _ => fun
  | [d] => { results := [.lit (.bool false)], args := [d] }
  | _ => none }
def FnExactStateClassesWrongFalsely : Prop := fnExactStateClassesRow.holds Try.pinned (OpenSpec.ofChange fnExactStateClassesWrong)

/-- 'laws.FnStateClasses': WHATEVER THE INPUT: true; the input reads as it did. -/
def fnStateClassesSpec : ChangeSpec := { name := "fnStateClasses", fn := fun _ => fun
  | [d] => { results := [.lit (.bool true)], args := [d] }
  | _ => none }
def fnStateClassesRow : OpenClaim := { program := "ytbcolcchchgldaa", sum := "5c20a4d5e3b5d3e7cacdf2ad7fe9948f1f5243a405ce54d5991f95072e53cac0", func := "loop.example/fpgatoolchain/laws.FnStateClasses", spec := "fnStateClasses", unfollowed := true, recurses := true, plainKeys := false, apart := false }
def FnStateClassesSaid : Prop := fnStateClassesRow.holds Try.pinned (OpenSpec.ofChange fnStateClassesSpec)

/-- ITS FALSE NEIGHBOUR: 'it returns false'. Refute it at one input. -/
def fnStateClassesWrong : ChangeSpec := { name := "fnStateClasses", fn := fun _ => fun
  | [d] => { results := [.lit (.bool false)], args := [d] }
  | _ => none }
def FnStateClassesWrongFalsely : Prop := fnStateClassesRow.holds Try.pinned (OpenSpec.ofChange fnStateClassesWrong)

/-- 'laws.FnExactDistinguish': WHATEVER THE INPUT: true; the input reads as it did. -/
def fnExactDistinguishSpec : ChangeSpec := { name := "fnExactDistinguish", fn := fun _ => fun
  | [d1, d2] => { results := [.lit (.bool true)], args := [d1, d2] }
  | _ => none }
def fnExactDistinguishRow : OpenClaim := { program := "ytbcolcchchgldaa", sum := "5c20a4d5e3b5d3e7cacdf2ad7fe9948f1f5243a405ce54d5991f95072e53cac0", func := "loop.example/fpgatoolchain/laws.FnExactDistinguish", spec := "fnExactDistinguish", unfollowed := true, recurses := true, plainKeys := false, apart := false }
def FnExactDistinguishSaid : Prop := fnExactDistinguishRow.holds Try.pinned (OpenSpec.ofChange fnExactDistinguishSpec)

/-- ITS FALSE NEIGHBOUR: 'it returns false'. Refute it at one input. -/
def fnExactDistinguishWrong : ChangeSpec := { name := "fnExactDistinguish", fn := fun _ => fun
  | [d1, d2] => { results := [.lit (.bool false)], args := [d1, d2] }
  | _ => none }
def FnExactDistinguishWrongFalsely : Prop := fnExactDistinguishRow.holds Try.pinned (OpenSpec.ofChange fnExactDistinguishWrong)

/-- 'laws.FnDistinguish': WHATEVER THE INPUT: true; the input reads as it did. -/
def fnDistinguishSpec : ChangeSpec := { name := "fnDistinguish", fn := fun _ => fun
  | [d1, d2] => { results := [.lit (.bool true)], args := [d1, d2] }
  | _ => none }
def fnDistinguishRow : OpenClaim := { program := "ytbcolcchchgldaa", sum := "5c20a4d5e3b5d3e7cacdf2ad7fe9948f1f5243a405ce54d5991f95072e53cac0", func := "loop.example/fpgatoolchain/laws.FnDistinguish", spec := "fnDistinguish", unfollowed := true, recurses := true, plainKeys := false, apart := false }
def FnDistinguishSaid : Prop := fnDistinguishRow.holds Try.pinned (OpenSpec.ofChange fnDistinguishSpec)

/-- ITS FALSE NEIGHBOUR: 'it returns false'. Refute it at one input. -/
def fnDistinguishWrong : ChangeSpec := { name := "fnDistinguish", fn := fun _ => fun
  | [d1, d2] => { results := [.lit (.bool false)], args := [d1, d2] }
  | _ => none }
def FnDistinguishWrongFalsely : Prop := fnDistinguishRow.holds Try.pinned (OpenSpec.ofChange fnDistinguishWrong)

/-- 'laws.FnExactRemoveLatches': WHATEVER THE INPUT: true; the input reads as it did. -/
def fnExactRemoveLatchesSpec : ChangeSpec := { name := "fnExactRemoveLatches", fn := fun _ => fun
  | [d] => { results := [.lit (.bool true)], args := [d] }
  | _ => none }
def fnExactRemoveLatchesRow : OpenClaim := { program := "ytbcolcchchgldaa", sum := "5c20a4d5e3b5d3e7cacdf2ad7fe9948f1f5243a405ce54d5991f95072e53cac0", func := "loop.example/fpgatoolchain/laws.FnExactRemoveLatches", spec := "fnExactRemoveLatches", unfollowed := true, recurses := true, plainKeys := false, apart := false }
def FnExactRemoveLatchesSaid : Prop := fnExactRemoveLatchesRow.holds Try.pinned (OpenSpec.ofChange fnExactRemoveLatchesSpec)

/-- ITS FALSE NEIGHBOUR: 'it returns false'. Refute it at one input. -/
def fnExactRemoveLatchesWrong : ChangeSpec := { name := "fnExactRemoveLatches", fn := fun _ => fun
  | [d] => { results := [.lit (.bool false)], args := [d] }
  | _ => none }
def FnExactRemoveLatchesWrongFalsely : Prop := fnExactRemoveLatchesRow.holds Try.pinned (OpenSpec.ofChange fnExactRemoveLatchesWrong)

/-- 'laws.FnRemoveLatches': WHATEVER THE INPUT: true; the input reads as it did. -/
def fnRemoveLatchesSpec : ChangeSpec := { name := "fnRemoveLatches", fn := fun _ => fun
  | [d] => { results := [.lit (.bool true)], args := [d] }
  | _ => none }
def fnRemoveLatchesRow : OpenClaim := { program := "ytbcolcchchgldaa", sum := "5c20a4d5e3b5d3e7cacdf2ad7fe9948f1f5243a405ce54d5991f95072e53cac0", func := "loop.example/fpgatoolchain/laws.FnRemoveLatches", spec := "fnRemoveLatches", unfollowed := true, recurses := true, plainKeys := false, apart := false }
def FnRemoveLatchesSaid : Prop := fnRemoveLatchesRow.holds Try.pinned (OpenSpec.ofChange fnRemoveLatchesSpec)

/-- ITS FALSE NEIGHBOUR: 'it returns false'. Refute it at one input. -/
def fnRemoveLatchesWrong : ChangeSpec := { name := "fnRemoveLatches", fn := fun _ => fun
  | [d] => { results := [.lit (.bool false)], args := [d] }
  | _ => none }
def FnRemoveLatchesWrongFalsely : Prop := fnRemoveLatchesRow.holds Try.pinned (OpenSpec.ofChange fnRemoveLatchesWrong)

/-- 'laws.FnSequential': WHATEVER THE INPUT: true; the input reads as it did. -/
def fnSequentialSpec : ChangeSpec := { name := "fnSequential", fn := fun _ => fun
  | [d] => { results := [.lit (.bool true)], args := [d] }
  | _ => none }
def fnSequentialRow : OpenClaim := { program := "ytbcolcchchgldaa", sum := "5c20a4d5e3b5d3e7cacdf2ad7fe9948f1f5243a405ce54d5991f95072e53cac0", func := "loop.example/fpgatoolchain/laws.FnSequential", spec := "fnSequential", unfollowed := true, recurses := true, plainKeys := false, apart := false }
def FnSequentialSaid : Prop := fnSequentialRow.holds Try.pinned (OpenSpec.ofChange fnSequentialSpec)

/-- ITS FALSE NEIGHBOUR: 'it returns false'. Refute it at one input. -/
def fnSequentialWrong : ChangeSpec := { name := "fnSequential", fn := fun _ => fun
  | [d] => { results := [.lit (.bool false)], args := [d] }
  | _ => none }
def FnSequentialWrongFalsely : Prop := fnSequentialRow.holds Try.pinned (OpenSpec.ofChange fnSequentialWrong)

/-- 'laws.FnBddEquivalence': WHATEVER THE INPUT: true; the input reads as it did. -/
def fnBddEquivalenceSpec : ChangeSpec := { name := "fnBddEquivalence", fn := fun _ => fun
  | [d] => { results := [.lit (.bool true)], args := [d] }
  | _ => none }
def fnBddEquivalenceRow : OpenClaim := { program := "ytbcolcchchgldaa", sum := "5c20a4d5e3b5d3e7cacdf2ad7fe9948f1f5243a405ce54d5991f95072e53cac0", func := "loop.example/fpgatoolchain/laws.FnBddEquivalence", spec := "fnBddEquivalence", recurses := true, plainKeys := false, apart := false }
def FnBddEquivalenceSaid : Prop := fnBddEquivalenceRow.holds Try.pinned (OpenSpec.ofChange fnBddEquivalenceSpec)

/-- ITS FALSE NEIGHBOUR: 'it returns false'. Refute it at one input. -/
def fnBddEquivalenceWrong : ChangeSpec := { name := "fnBddEquivalence", fn := fun _ => fun
  | [d] => { results := [.lit (.bool false)], args := [d] }
  | _ => none }
def FnBddEquivalenceWrongFalsely : Prop := fnBddEquivalenceRow.holds Try.pinned (OpenSpec.ofChange fnBddEquivalenceWrong)

/- THE SECOND FORM. 'bulk': how many values and letters a reading holds, each counted each time it is reached (what is shared counts as often as it is met; a slice's spare places count too). A statement '..UptoSaid' is the law's where the arguments, and the package variables that the reading takes, are together of bulk at most 1048576: NARROWER than '..Said'. Prove '..Said' where nothing that the law and all that it calls make is longer than what came in: it says more and counts as full. Else prove '..UptoSaid'. A law counts once. -/
mutual
def uptoBulk {H : Type} : DataW H → Nat
  | .lit (.string bytes) => bytes.length + 1
  | .lit _ => 1
  | .nil => 1
  | .ptr d => uptoBulk d + 1
  | .slice elems spare => uptoBulkAll elems + uptoBulkAll spare + 1
  | .agg parts => uptoBulkAll parts + 1
  | .iface _ d => uptoBulk d + 1
  | .map entries => uptoBulkEntries entries + 1
  | .held _ => 1
def uptoBulkAll {H : Type} : List (DataW H) → Nat
  | [] => 0
  | d :: r => uptoBulk d + uptoBulkAll r
def uptoBulkEntries {H : Type} : List (Lit × DataW H) → Nat
  | [] => 0
  | x :: r => uptoBulkEntry x + uptoBulkEntries r
def uptoBulkEntry {H : Type} : Lit × DataW H → Nat
  | (.string bytes, d) => bytes.length + uptoBulk d + 1
  | (_, d) => uptoBulk d + 1
 end
def uptoSmall : (H : Type) → List (DataW H) → Bool := fun _ ds => decide (uptoBulkAll ds ≤ 1048576)
def OpenSpec.upto (s : _root_.Go.ChangeSpec) : _root_.Go.OpenSpec := { _root_.Go.OpenSpec.ofChange s with cond := some uptoSmall }

/-- 'laws.FnCanScan', WHERE WHAT IT READS IS OF BULK AT MOST 1048576: true; the input reads as it did. -/
def fnCanScanUptoRow : OpenClaim := { program := "ytbcolcchchgldaa", sum := "5c20a4d5e3b5d3e7cacdf2ad7fe9948f1f5243a405ce54d5991f95072e53cac0", func := "loop.example/fpgatoolchain/laws.FnCanScan", spec := "fnCanScan", unfollowed := true, recurses := true, plainKeys := false, apart := false, narrowed := true }
def FnCanScanUptoSaid : Prop := fnCanScanUptoRow.holds Try.pinned (OpenSpec.upto fnCanScanSpec)

/-- 'laws.FnRetime', WHERE WHAT IT READS IS OF BULK AT MOST 1048576: true; the input reads as it did. -/
def fnRetimeUptoRow : OpenClaim := { program := "ytbcolcchchgldaa", sum := "5c20a4d5e3b5d3e7cacdf2ad7fe9948f1f5243a405ce54d5991f95072e53cac0", func := "loop.example/fpgatoolchain/laws.FnRetime", spec := "fnRetime", unfollowed := true, recurses := true, plainKeys := false, apart := false, narrowed := true }
def FnRetimeUptoSaid : Prop := fnRetimeUptoRow.holds Try.pinned (OpenSpec.upto fnRetimeSpec)

/-- 'laws.FnRetimeExample', WHERE WHAT IT READS IS OF BULK AT MOST 1048576: true; the input reads as it did. -/
def fnRetimeExampleUptoRow : OpenClaim := { program := "ytbcolcchchgldaa", sum := "5c20a4d5e3b5d3e7cacdf2ad7fe9948f1f5243a405ce54d5991f95072e53cac0", func := "loop.example/fpgatoolchain/laws.FnRetimeExample", spec := "fnRetimeExample", unfollowed := true, recurses := true, plainKeys := false, apart := false, narrowed := true }
def FnRetimeExampleUptoSaid : Prop := fnRetimeExampleUptoRow.holds Try.pinned (OpenSpec.upto fnRetimeExampleSpec)

/-- 'laws.FnExactSequentiallyEquivalent', WHERE WHAT IT READS IS OF BULK AT MOST 1048576: true; the input reads as it did. -/
def fnExactSequentiallyEquivalentUptoRow : OpenClaim := { program := "ytbcolcchchgldaa", sum := "5c20a4d5e3b5d3e7cacdf2ad7fe9948f1f5243a405ce54d5991f95072e53cac0", func := "loop.example/fpgatoolchain/laws.FnExactSequentiallyEquivalent", spec := "fnExactSequentiallyEquivalent", unfollowed := true, recurses := true, plainKeys := false, apart := false, narrowed := true }
def FnExactSequentiallyEquivalentUptoSaid : Prop := fnExactSequentiallyEquivalentUptoRow.holds Try.pinned (OpenSpec.upto fnExactSequentiallyEquivalentSpec)

/-- 'laws.FnExactStateClasses', WHERE WHAT IT READS IS OF BULK AT MOST 1048576: true; the input reads as it did. -/
def fnExactStateClassesUptoRow : OpenClaim := { program := "ytbcolcchchgldaa", sum := "5c20a4d5e3b5d3e7cacdf2ad7fe9948f1f5243a405ce54d5991f95072e53cac0", func := "loop.example/fpgatoolchain/laws.FnExactStateClasses", spec := "fnExactStateClasses", unfollowed := true, recurses := true, plainKeys := false, apart := false, narrowed := true }
def FnExactStateClassesUptoSaid : Prop := fnExactStateClassesUptoRow.holds Try.pinned (OpenSpec.upto fnExactStateClassesSpec)

/-- 'laws.FnStateClasses', WHERE WHAT IT READS IS OF BULK AT MOST 1048576: true; the input reads as it did. -/
def fnStateClassesUptoRow : OpenClaim := { program := "ytbcolcchchgldaa", sum := "5c20a4d5e3b5d3e7cacdf2ad7fe9948f1f5243a405ce54d5991f95072e53cac0", func := "loop.example/fpgatoolchain/laws.FnStateClasses", spec := "fnStateClasses", unfollowed := true, recurses := true, plainKeys := false, apart := false, narrowed := true }
def FnStateClassesUptoSaid : Prop := fnStateClassesUptoRow.holds Try.pinned (OpenSpec.upto fnStateClassesSpec)

/-- 'laws.FnExactDistinguish', WHERE WHAT IT READS IS OF BULK AT MOST 1048576: true; the input reads as it did. -/
def fnExactDistinguishUptoRow : OpenClaim := { program := "ytbcolcchchgldaa", sum := "5c20a4d5e3b5d3e7cacdf2ad7fe9948f1f5243a405ce54d5991f95072e53cac0", func := "loop.example/fpgatoolchain/laws.FnExactDistinguish", spec := "fnExactDistinguish", unfollowed := true, recurses := true, plainKeys := false, apart := false, narrowed := true }
def FnExactDistinguishUptoSaid : Prop := fnExactDistinguishUptoRow.holds Try.pinned (OpenSpec.upto fnExactDistinguishSpec)

/-- 'laws.FnDistinguish', WHERE WHAT IT READS IS OF BULK AT MOST 1048576: true; the input reads as it did. -/
def fnDistinguishUptoRow : OpenClaim := { program := "ytbcolcchchgldaa", sum := "5c20a4d5e3b5d3e7cacdf2ad7fe9948f1f5243a405ce54d5991f95072e53cac0", func := "loop.example/fpgatoolchain/laws.FnDistinguish", spec := "fnDistinguish", unfollowed := true, recurses := true, plainKeys := false, apart := false, narrowed := true }
def FnDistinguishUptoSaid : Prop := fnDistinguishUptoRow.holds Try.pinned (OpenSpec.upto fnDistinguishSpec)

/-- 'laws.FnExactRemoveLatches', WHERE WHAT IT READS IS OF BULK AT MOST 1048576: true; the input reads as it did. -/
def fnExactRemoveLatchesUptoRow : OpenClaim := { program := "ytbcolcchchgldaa", sum := "5c20a4d5e3b5d3e7cacdf2ad7fe9948f1f5243a405ce54d5991f95072e53cac0", func := "loop.example/fpgatoolchain/laws.FnExactRemoveLatches", spec := "fnExactRemoveLatches", unfollowed := true, recurses := true, plainKeys := false, apart := false, narrowed := true }
def FnExactRemoveLatchesUptoSaid : Prop := fnExactRemoveLatchesUptoRow.holds Try.pinned (OpenSpec.upto fnExactRemoveLatchesSpec)

/-- 'laws.FnRemoveLatches', WHERE WHAT IT READS IS OF BULK AT MOST 1048576: true; the input reads as it did. -/
def fnRemoveLatchesUptoRow : OpenClaim := { program := "ytbcolcchchgldaa", sum := "5c20a4d5e3b5d3e7cacdf2ad7fe9948f1f5243a405ce54d5991f95072e53cac0", func := "loop.example/fpgatoolchain/laws.FnRemoveLatches", spec := "fnRemoveLatches", unfollowed := true, recurses := true, plainKeys := false, apart := false, narrowed := true }
def FnRemoveLatchesUptoSaid : Prop := fnRemoveLatchesUptoRow.holds Try.pinned (OpenSpec.upto fnRemoveLatchesSpec)

/-- 'laws.FnSequential', WHERE WHAT IT READS IS OF BULK AT MOST 1048576: true; the input reads as it did. -/
def fnSequentialUptoRow : OpenClaim := { program := "ytbcolcchchgldaa", sum := "5c20a4d5e3b5d3e7cacdf2ad7fe9948f1f5243a405ce54d5991f95072e53cac0", func := "loop.example/fpgatoolchain/laws.FnSequential", spec := "fnSequential", unfollowed := true, recurses := true, plainKeys := false, apart := false, narrowed := true }
def FnSequentialUptoSaid : Prop := fnSequentialUptoRow.holds Try.pinned (OpenSpec.upto fnSequentialSpec)

/-- 'laws.FnBddEquivalence', WHERE WHAT IT READS IS OF BULK AT MOST 1048576: true; the input reads as it did. -/
def fnBddEquivalenceUptoRow : OpenClaim := { program := "ytbcolcchchgldaa", sum := "5c20a4d5e3b5d3e7cacdf2ad7fe9948f1f5243a405ce54d5991f95072e53cac0", func := "loop.example/fpgatoolchain/laws.FnBddEquivalence", spec := "fnBddEquivalence", recurses := true, plainKeys := false, apart := false, narrowed := true }
def FnBddEquivalenceUptoSaid : Prop := fnBddEquivalenceUptoRow.holds Try.pinned (OpenSpec.upto fnBddEquivalenceSpec)

end Rows
end Go.Proofs.Ytbcolcchchgldaa
