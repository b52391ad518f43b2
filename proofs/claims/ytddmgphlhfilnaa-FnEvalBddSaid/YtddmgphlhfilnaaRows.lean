/-
  No cell of these rows narrows 'for every input' (looked for: loops, veiled, ifaces, maps, wideKeys, modest, calm, conditions, laid).
  DERIVED. THE GIVEN ROWS OF THIS SEAT. 12 by the template 'for every input the law returns true; each argument reads behind the call as it read before'; 0 by the template 'total and deterministic' (their statements: YtddmgphlhfilnaaTotals.lean).
  GIVEN WITH THE SEED: the statements are not yours to turn. If you find one false, say at which input.
  Laid BY PROGRAM, IN A SANDBOX (cutbox-rows.mjs): the forced cells as the released guide's own fill.sh prints them over the translation 964284e4e52f7c5a… (all of the seat's roots in one cut). By AI agents, Wed Nov 11 2026. No macro, syntax, notation, axiom, sorry.
-/
import Derived.Test.YtddmgphlhfilnaaChecked
import GoSem.Claim
import GoSem.ClaimJoined
import GoSem.ClaimMapViews
import Derived.JoinedTies
import Derived.KernelRfl
namespace Go.Proofs.Ytddmgphlhfilnaa
/- THE CELL 'sum', in the pinned program and in every row, IS THE sha256 OF THE DUMP (.gsa) THAT YtddmgphlhfilnaaProg.lean LOADS. Nothing in Lean hashes anything: it is a label: what it is worth is what the hold of that sum in a sandbox is worth. -/
noncomputable def Try.pinned : Pinned := { name := "ytddmgphlhfilnaa", sum := "964284e4e52f7c5a65cc87c4ebe57c92e7e3a01696a9bb9ac1cd28f7ada994c4", checked := Try.checked }
namespace Rows
def none {H : Type} : Left H := { results := [], args := [] }

/-- 'laws.FnBddValid': WHATEVER THE INPUT: true; the input reads as it did. -/
def fnBddValidSpec : ChangeSpec := { name := "fnBddValid", fn := fun _ => fun
  | [d] => { results := [.lit (.bool true)], args := [d] }
  | _ => none }
def fnBddValidRow : OpenClaim := { program := "ytddmgphlhfilnaa", sum := "964284e4e52f7c5a65cc87c4ebe57c92e7e3a01696a9bb9ac1cd28f7ada994c4", func := "loop.example/fpgatoolchain/laws.FnBddValid", spec := "fnBddValid", recurses := true, plainKeys := false, apart := false }
def FnBddValidSaid : Prop := fnBddValidRow.holds Try.pinned (OpenSpec.ofChange fnBddValidSpec)

/-- ITS FALSE NEIGHBOUR: 'it returns false'. Refute it at one input. -/
def fnBddValidWrong : ChangeSpec := { name := "fnBddValid", fn := fun _ => fun
  | [d] => { results := [.lit (.bool false)], args := [d] }
  | _ => none }
def FnBddValidWrongFalsely : Prop := fnBddValidRow.holds Try.pinned (OpenSpec.ofChange fnBddValidWrong)

/-- 'laws.FnEvalBdd': WHATEVER THE INPUT: true; the input reads as it did. -/
def fnEvalBddSpec : ChangeSpec := { name := "fnEvalBdd", fn := fun _ => fun
  | [d] => { results := [.lit (.bool true)], args := [d] }
  | _ => none }
def fnEvalBddRow : OpenClaim := { program := "ytddmgphlhfilnaa", sum := "964284e4e52f7c5a65cc87c4ebe57c92e7e3a01696a9bb9ac1cd28f7ada994c4", func := "loop.example/fpgatoolchain/laws.FnEvalBdd", spec := "fnEvalBdd", recurses := true, plainKeys := false, apart := false }
def FnEvalBddSaid : Prop := fnEvalBddRow.holds Try.pinned (OpenSpec.ofChange fnEvalBddSpec)

/-- ITS FALSE NEIGHBOUR: 'it returns false'. Refute it at one input. -/
def fnEvalBddWrong : ChangeSpec := { name := "fnEvalBdd", fn := fun _ => fun
  | [d] => { results := [.lit (.bool false)], args := [d] }
  | _ => none }
def FnEvalBddWrongFalsely : Prop := fnEvalBddRow.holds Try.pinned (OpenSpec.ofChange fnEvalBddWrong)

/-- 'laws.FnCountBdd': WHATEVER THE INPUT: true; the input reads as it did. -/
def fnCountBddSpec : ChangeSpec := { name := "fnCountBdd", fn := fun _ => fun
  | [d] => { results := [.lit (.bool true)], args := [d] }
  | _ => none }
def fnCountBddRow : OpenClaim := { program := "ytddmgphlhfilnaa", sum := "964284e4e52f7c5a65cc87c4ebe57c92e7e3a01696a9bb9ac1cd28f7ada994c4", func := "loop.example/fpgatoolchain/laws.FnCountBdd", spec := "fnCountBdd", recurses := true, plainKeys := false, apart := false }
def FnCountBddSaid : Prop := fnCountBddRow.holds Try.pinned (OpenSpec.ofChange fnCountBddSpec)

/-- ITS FALSE NEIGHBOUR: 'it returns false'. Refute it at one input. -/
def fnCountBddWrong : ChangeSpec := { name := "fnCountBdd", fn := fun _ => fun
  | [d] => { results := [.lit (.bool false)], args := [d] }
  | _ => none }
def FnCountBddWrongFalsely : Prop := fnCountBddRow.holds Try.pinned (OpenSpec.ofChange fnCountBddWrong)

/-- 'laws.FnExactBuildBdd': WHATEVER THE INPUT: true; the input reads as it did. -/
def fnExactBuildBddSpec : ChangeSpec := { name := "fnExactBuildBdd", fn := fun _ => fun
  | [d1, d2] => { results := [.lit (.bool true)], args := [d1, d2] }
  | _ => none }
def fnExactBuildBddRow : OpenClaim := { program := "ytddmgphlhfilnaa", sum := "964284e4e52f7c5a65cc87c4ebe57c92e7e3a01696a9bb9ac1cd28f7ada994c4", func := "loop.example/fpgatoolchain/laws.FnExactBuildBdd", spec := "fnExactBuildBdd", recurses := true, plainKeys := false, apart := false }
def FnExactBuildBddSaid : Prop := fnExactBuildBddRow.holds Try.pinned (OpenSpec.ofChange fnExactBuildBddSpec)

/-- ITS FALSE NEIGHBOUR: 'it returns false'. Refute it at one input. -/
def fnExactBuildBddWrong : ChangeSpec := { name := "fnExactBuildBdd", fn := fun _ => fun
  | [d1, d2] => { results := [.lit (.bool false)], args := [d1, d2] }
  | _ => none }
def FnExactBuildBddWrongFalsely : Prop := fnExactBuildBddRow.holds Try.pinned (OpenSpec.ofChange fnExactBuildBddWrong)

/-- 'laws.FnBuildBdd': WHATEVER THE INPUT: true; the input reads as it did. -/
def fnBuildBddSpec : ChangeSpec := { name := "fnBuildBdd", fn := fun _ => fun
  | [d] => { results := [.lit (.bool true)], args := [d] }
  | _ => none }
def fnBuildBddRow : OpenClaim := { program := "ytddmgphlhfilnaa", sum := "964284e4e52f7c5a65cc87c4ebe57c92e7e3a01696a9bb9ac1cd28f7ada994c4", func := "loop.example/fpgatoolchain/laws.FnBuildBdd", spec := "fnBuildBdd", recurses := true, plainKeys := false, apart := false }
def FnBuildBddSaid : Prop := fnBuildBddRow.holds Try.pinned (OpenSpec.ofChange fnBuildBddSpec)

/-- ITS FALSE NEIGHBOUR: 'it returns false'. Refute it at one input. -/
def fnBuildBddWrong : ChangeSpec := { name := "fnBuildBdd", fn := fun _ => fun
  | [d] => { results := [.lit (.bool false)], args := [d] }
  | _ => none }
def FnBuildBddWrongFalsely : Prop := fnBuildBddRow.holds Try.pinned (OpenSpec.ofChange fnBuildBddWrong)

/-- 'laws.FnBddCanonical': WHATEVER THE INPUT: true; the input reads as it did. -/
def fnBddCanonicalSpec : ChangeSpec := { name := "fnBddCanonical", fn := fun _ => fun
  | [d1, d2] => { results := [.lit (.bool true)], args := [d1, d2] }
  | _ => none }
def fnBddCanonicalRow : OpenClaim := { program := "ytddmgphlhfilnaa", sum := "964284e4e52f7c5a65cc87c4ebe57c92e7e3a01696a9bb9ac1cd28f7ada994c4", func := "loop.example/fpgatoolchain/laws.FnBddCanonical", spec := "fnBddCanonical", recurses := true, plainKeys := false, apart := false }
def FnBddCanonicalSaid : Prop := fnBddCanonicalRow.holds Try.pinned (OpenSpec.ofChange fnBddCanonicalSpec)

/-- ITS FALSE NEIGHBOUR: 'it returns false'. Refute it at one input. -/
def fnBddCanonicalWrong : ChangeSpec := { name := "fnBddCanonical", fn := fun _ => fun
  | [d1, d2] => { results := [.lit (.bool false)], args := [d1, d2] }
  | _ => none }
def FnBddCanonicalWrongFalsely : Prop := fnBddCanonicalRow.holds Try.pinned (OpenSpec.ofChange fnBddCanonicalWrong)

/-- 'laws.FnBddComplement': WHATEVER THE INPUT: true; the input reads as it did. -/
def fnBddComplementSpec : ChangeSpec := { name := "fnBddComplement", fn := fun _ => fun
  | [d] => { results := [.lit (.bool true)], args := [d] }
  | _ => none }
def fnBddComplementRow : OpenClaim := { program := "ytddmgphlhfilnaa", sum := "964284e4e52f7c5a65cc87c4ebe57c92e7e3a01696a9bb9ac1cd28f7ada994c4", func := "loop.example/fpgatoolchain/laws.FnBddComplement", spec := "fnBddComplement", recurses := true, plainKeys := false, apart := false }
def FnBddComplementSaid : Prop := fnBddComplementRow.holds Try.pinned (OpenSpec.ofChange fnBddComplementSpec)

/-- ITS FALSE NEIGHBOUR: 'it returns false'. Refute it at one input. -/
def fnBddComplementWrong : ChangeSpec := { name := "fnBddComplement", fn := fun _ => fun
  | [d] => { results := [.lit (.bool false)], args := [d] }
  | _ => none }
def FnBddComplementWrongFalsely : Prop := fnBddComplementRow.holds Try.pinned (OpenSpec.ofChange fnBddComplementWrong)

/-- 'laws.FnCountComplement': WHATEVER THE INPUT: true; the input reads as it did. -/
def fnCountComplementSpec : ChangeSpec := { name := "fnCountComplement", fn := fun _ => fun
  | [d] => { results := [.lit (.bool true)], args := [d] }
  | _ => none }
def fnCountComplementRow : OpenClaim := { program := "ytddmgphlhfilnaa", sum := "964284e4e52f7c5a65cc87c4ebe57c92e7e3a01696a9bb9ac1cd28f7ada994c4", func := "loop.example/fpgatoolchain/laws.FnCountComplement", spec := "fnCountComplement", recurses := true, plainKeys := false, apart := false }
def FnCountComplementSaid : Prop := fnCountComplementRow.holds Try.pinned (OpenSpec.ofChange fnCountComplementSpec)

/-- ITS FALSE NEIGHBOUR: 'it returns false'. Refute it at one input. -/
def fnCountComplementWrong : ChangeSpec := { name := "fnCountComplement", fn := fun _ => fun
  | [d] => { results := [.lit (.bool false)], args := [d] }
  | _ => none }
def FnCountComplementWrongFalsely : Prop := fnCountComplementRow.holds Try.pinned (OpenSpec.ofChange fnCountComplementWrong)

/-- 'laws.FnExactSatisfy': WHATEVER THE INPUT: true; the input reads as it did. -/
def fnExactSatisfySpec : ChangeSpec := { name := "fnExactSatisfy", fn := fun _ => fun
  | [d] => { results := [.lit (.bool true)], args := [d] }
  | _ => none }
def fnExactSatisfyRow : OpenClaim := { program := "ytddmgphlhfilnaa", sum := "964284e4e52f7c5a65cc87c4ebe57c92e7e3a01696a9bb9ac1cd28f7ada994c4", func := "loop.example/fpgatoolchain/laws.FnExactSatisfy", spec := "fnExactSatisfy", unfollowed := true, recurses := true, plainKeys := false, apart := false }
def FnExactSatisfySaid : Prop := fnExactSatisfyRow.holds Try.pinned (OpenSpec.ofChange fnExactSatisfySpec)

/-- ITS FALSE NEIGHBOUR: 'it returns false'. Refute it at one input. -/
def fnExactSatisfyWrong : ChangeSpec := { name := "fnExactSatisfy", fn := fun _ => fun
  | [d] => { results := [.lit (.bool false)], args := [d] }
  | _ => none }
def FnExactSatisfyWrongFalsely : Prop := fnExactSatisfyRow.holds Try.pinned (OpenSpec.ofChange fnExactSatisfyWrong)

/-- 'laws.FnSatisfy': WHATEVER THE INPUT: true; the input reads as it did. -/
def fnSatisfySpec : ChangeSpec := { name := "fnSatisfy", fn := fun _ => fun
  | [d] => { results := [.lit (.bool true)], args := [d] }
  | _ => none }
def fnSatisfyRow : OpenClaim := { program := "ytddmgphlhfilnaa", sum := "964284e4e52f7c5a65cc87c4ebe57c92e7e3a01696a9bb9ac1cd28f7ada994c4", func := "loop.example/fpgatoolchain/laws.FnSatisfy", spec := "fnSatisfy", unfollowed := true, recurses := true, plainKeys := false, apart := false }
def FnSatisfySaid : Prop := fnSatisfyRow.holds Try.pinned (OpenSpec.ofChange fnSatisfySpec)

/-- ITS FALSE NEIGHBOUR: 'it returns false'. Refute it at one input. -/
def fnSatisfyWrong : ChangeSpec := { name := "fnSatisfy", fn := fun _ => fun
  | [d] => { results := [.lit (.bool false)], args := [d] }
  | _ => none }
def FnSatisfyWrongFalsely : Prop := fnSatisfyRow.holds Try.pinned (OpenSpec.ofChange fnSatisfyWrong)

/-- 'laws.FnExactCanBeTrue': WHATEVER THE INPUT: true; the input reads as it did. -/
def fnExactCanBeTrueSpec : ChangeSpec := { name := "fnExactCanBeTrue", fn := fun _ => fun
  | [d1, d2] => { results := [.lit (.bool true)], args := [d1, d2] }
  | _ => none }
def fnExactCanBeTrueRow : OpenClaim := { program := "ytddmgphlhfilnaa", sum := "964284e4e52f7c5a65cc87c4ebe57c92e7e3a01696a9bb9ac1cd28f7ada994c4", func := "loop.example/fpgatoolchain/laws.FnExactCanBeTrue", spec := "fnExactCanBeTrue", unfollowed := true, recurses := true, plainKeys := false, apart := false }
def FnExactCanBeTrueSaid : Prop := fnExactCanBeTrueRow.holds Try.pinned (OpenSpec.ofChange fnExactCanBeTrueSpec)

/-- ITS FALSE NEIGHBOUR: 'it returns false'. Refute it at one input. -/
def fnExactCanBeTrueWrong : ChangeSpec := { name := "fnExactCanBeTrue", fn := fun _ => fun
  | [d1, d2] => { results := [.lit (.bool false)], args := [d1, d2] }
  | _ => none }
def FnExactCanBeTrueWrongFalsely : Prop := fnExactCanBeTrueRow.holds Try.pinned (OpenSpec.ofChange fnExactCanBeTrueWrong)

/-- 'laws.FnCanBeTrue': WHATEVER THE INPUT: true; the input reads as it did. -/
def fnCanBeTrueSpec : ChangeSpec := { name := "fnCanBeTrue", fn := fun _ => fun
  | [d] => { results := [.lit (.bool true)], args := [d] }
  | _ => none }
def fnCanBeTrueRow : OpenClaim := { program := "ytddmgphlhfilnaa", sum := "964284e4e52f7c5a65cc87c4ebe57c92e7e3a01696a9bb9ac1cd28f7ada994c4", func := "loop.example/fpgatoolchain/laws.FnCanBeTrue", spec := "fnCanBeTrue", unfollowed := true, recurses := true, plainKeys := false, apart := false }
def FnCanBeTrueSaid : Prop := fnCanBeTrueRow.holds Try.pinned (OpenSpec.ofChange fnCanBeTrueSpec)

/-- ITS FALSE NEIGHBOUR: 'it returns false'. Refute it at one input. -/
def fnCanBeTrueWrong : ChangeSpec := { name := "fnCanBeTrue", fn := fun _ => fun
  | [d] => { results := [.lit (.bool false)], args := [d] }
  | _ => none }
def FnCanBeTrueWrongFalsely : Prop := fnCanBeTrueRow.holds Try.pinned (OpenSpec.ofChange fnCanBeTrueWrong)

/- THE SECOND FORM. 'bulk': how many values and letters a reading holds, each counted each time it is reached (what is shared counts as often as it is met; a slice's spare places count too). A statement '..UptoSaid' is the law's where the arguments, and the package variables that the reading takes, are together of bulk at most 1048576: NARROWER than '..Said'. Prove '..Said' where nothing that the law and all that it calls make is longer than what came in: it says more and counts as full. Else prove '..UptoSaid'. A law counts once. -/
mutual
def uptoBulk {H : Type} : DataW H → Nat
  | .lit (.string bytes) => bytes.length + 1
  | .lit _ => 1
  | .nil => 1
  | .ptr d => uptoBulk d + 1
  | .slice elems spare => uptoBulkAll elems + uptoBulkAll spare + 1
  | .agg parts => uptoBulkAll parts + 1
  | .iface _ d => uptoBulk d + 1
  | .map entries => uptoBulkEntries entries + 1
  | .held _ => 1
def uptoBulkAll {H : Type} : List (DataW H) → Nat
  | [] => 0
  | d :: r => uptoBulk d + uptoBulkAll r
def uptoBulkEntries {H : Type} : List (Lit × DataW H) → Nat
  | [] => 0
  | x :: r => uptoBulkEntry x + uptoBulkEntries r
def uptoBulkEntry {H : Type} : Lit × DataW H → Nat
  | (.string bytes, d) => bytes.length + uptoBulk d + 1
  | (_, d) => uptoBulk d + 1
 end
def uptoSmall : (H : Type) → List (DataW H) → Bool := fun _ ds => decide (uptoBulkAll ds ≤ 1048576)
def OpenSpec.upto (s : _root_.Go.ChangeSpec) : _root_.Go.OpenSpec := { _root_.Go.OpenSpec.ofChange s with cond := some uptoSmall }

/-- 'laws.FnBddValid', WHERE WHAT IT READS IS OF BULK AT MOST 1048576: true; the input reads as it did. -/
def fnBddValidUptoRow : OpenClaim := { program := "ytddmgphlhfilnaa", sum := "964284e4e52f7c5a65cc87c4ebe57c92e7e3a01696a9bb9ac1cd28f7ada994c4", func := "loop.example/fpgatoolchain/laws.FnBddValid", spec := "fnBddValid", recurses := true, plainKeys := false, apart := false, narrowed := true }
def FnBddValidUptoSaid : Prop := fnBddValidUptoRow.holds Try.pinned (OpenSpec.upto fnBddValidSpec)

/-- 'laws.FnEvalBdd', WHERE WHAT IT READS IS OF BULK AT MOST 1048576: true; the input reads as it did. -/
def fnEvalBddUptoRow : OpenClaim := { program := "ytddmgphlhfilnaa", sum := "964284e4e52f7c5a65cc87c4ebe57c92e7e3a01696a9bb9ac1cd28f7ada994c4", func := "loop.example/fpgatoolchain/laws.FnEvalBdd", spec := "fnEvalBdd", recurses := true, plainKeys := false, apart := false, narrowed := true }
def FnEvalBddUptoSaid : Prop := fnEvalBddUptoRow.holds Try.pinned (OpenSpec.upto fnEvalBddSpec)

/-- 'laws.FnCountBdd', WHERE WHAT IT READS IS OF BULK AT MOST 1048576: true; the input reads as it did. -/
def fnCountBddUptoRow : OpenClaim := { program := "ytddmgphlhfilnaa", sum := "964284e4e52f7c5a65cc87c4ebe57c92e7e3a01696a9bb9ac1cd28f7ada994c4", func := "loop.example/fpgatoolchain/laws.FnCountBdd", spec := "fnCountBdd", recurses := true, plainKeys := false, apart := false, narrowed := true }
def FnCountBddUptoSaid : Prop := fnCountBddUptoRow.holds Try.pinned (OpenSpec.upto fnCountBddSpec)

/-- 'laws.FnExactBuildBdd', WHERE WHAT IT READS IS OF BULK AT MOST 1048576: true; the input reads as it did. -/
def fnExactBuildBddUptoRow : OpenClaim := { program := "ytddmgphlhfilnaa", sum := "964284e4e52f7c5a65cc87c4ebe57c92e7e3a01696a9bb9ac1cd28f7ada994c4", func := "loop.example/fpgatoolchain/laws.FnExactBuildBdd", spec := "fnExactBuildBdd", recurses := true, plainKeys := false, apart := false, narrowed := true }
def FnExactBuildBddUptoSaid : Prop := fnExactBuildBddUptoRow.holds Try.pinned (OpenSpec.upto fnExactBuildBddSpec)

/-- 'laws.FnBuildBdd', WHERE WHAT IT READS IS OF BULK AT MOST 1048576: true; the input reads as it did. -/
def fnBuildBddUptoRow : OpenClaim := { program := "ytddmgphlhfilnaa", sum := "964284e4e52f7c5a65cc87c4ebe57c92e7e3a01696a9bb9ac1cd28f7ada994c4", func := "loop.example/fpgatoolchain/laws.FnBuildBdd", spec := "fnBuildBdd", recurses := true, plainKeys := false, apart := false, narrowed := true }
def FnBuildBddUptoSaid : Prop := fnBuildBddUptoRow.holds Try.pinned (OpenSpec.upto fnBuildBddSpec)

/-- 'laws.FnBddCanonical', WHERE WHAT IT READS IS OF BULK AT MOST 1048576: true; the input reads as it did. -/
def fnBddCanonicalUptoRow : OpenClaim := { program := "ytddmgphlhfilnaa", sum := "964284e4e52f7c5a65cc87c4ebe57c92e7e3a01696a9bb9ac1cd28f7ada994c4", func := "loop.example/fpgatoolchain/laws.FnBddCanonical", spec := "fnBddCanonical", recurses := true, plainKeys := false, apart := false, narrowed := true }
def FnBddCanonicalUptoSaid : Prop := fnBddCanonicalUptoRow.holds Try.pinned (OpenSpec.upto fnBddCanonicalSpec)

/-- 'laws.FnBddComplement', WHERE WHAT IT READS IS OF BULK AT MOST 1048576: true; the input reads as it did. -/
def fnBddComplementUptoRow : OpenClaim := { program := "ytddmgphlhfilnaa", sum := "964284e4e52f7c5a65cc87c4ebe57c92e7e3a01696a9bb9ac1cd28f7ada994c4", func := "loop.example/fpgatoolchain/laws.FnBddComplement", spec := "fnBddComplement", recurses := true, plainKeys := false, apart := false, narrowed := true }
def FnBddComplementUptoSaid : Prop := fnBddComplementUptoRow.holds Try.pinned (OpenSpec.upto fnBddComplementSpec)

/-- 'laws.FnCountComplement', WHERE WHAT IT READS IS OF BULK AT MOST 1048576: true; the input reads as it did. -/
def fnCountComplementUptoRow : OpenClaim := { program := "ytddmgphlhfilnaa", sum := "964284e4e52f7c5a65cc87c4ebe57c92e7e3a01696a9bb9ac1cd28f7ada994c4", func := "loop.example/fpgatoolchain/laws.FnCountComplement", spec := "fnCountComplement", recurses := true, plainKeys := false, apart := false, narrowed := true }
def FnCountComplementUptoSaid : Prop := fnCountComplementUptoRow.holds Try.pinned (OpenSpec.upto fnCountComplementSpec)

/-- 'laws.FnExactSatisfy', WHERE WHAT IT READS IS OF BULK AT MOST 1048576: true; the input reads as it did. -/
def fnExactSatisfyUptoRow : OpenClaim := { program := "ytddmgphlhfilnaa", sum := "964284e4e52f7c5a65cc87c4ebe57c92e7e3a01696a9bb9ac1cd28f7ada994c4", func := "loop.example/fpgatoolchain/laws.FnExactSatisfy", spec := "fnExactSatisfy", unfollowed := true, recurses := true, plainKeys := false, apart := false, narrowed := true }
def FnExactSatisfyUptoSaid : Prop := fnExactSatisfyUptoRow.holds Try.pinned (OpenSpec.upto fnExactSatisfySpec)

/-- 'laws.FnSatisfy', WHERE WHAT IT READS IS OF BULK AT MOST 1048576: true; the input reads as it did. -/
def fnSatisfyUptoRow : OpenClaim := { program := "ytddmgphlhfilnaa", sum := "964284e4e52f7c5a65cc87c4ebe57c92e7e3a01696a9bb9ac1cd28f7ada994c4", func := "loop.example/fpgatoolchain/laws.FnSatisfy", spec := "fnSatisfy", unfollowed := true, recurses := true, plainKeys := false, apart := false, narrowed := true }
def FnSatisfyUptoSaid : Prop := fnSatisfyUptoRow.holds Try.pinned (OpenSpec.upto fnSatisfySpec)

/-- 'laws.FnExactCanBeTrue', WHERE WHAT IT READS IS OF BULK AT MOST 1048576: true; the input reads as it did. -/
def fnExactCanBeTrueUptoRow : OpenClaim := { program := "ytddmgphlhfilnaa", sum := "964284e4e52f7c5a65cc87c4ebe57c92e7e3a01696a9bb9ac1cd28f7ada994c4", func := "loop.example/fpgatoolchain/laws.FnExactCanBeTrue", spec := "fnExactCanBeTrue", unfollowed := true, recurses := true, plainKeys := false, apart := false, narrowed := true }
def FnExactCanBeTrueUptoSaid : Prop := fnExactCanBeTrueUptoRow.holds Try.pinned (OpenSpec.upto fnExactCanBeTrueSpec)

/-- 'laws.FnCanBeTrue', WHERE WHAT IT READS IS OF BULK AT MOST 1048576: true; the input reads as it did. -/
def fnCanBeTrueUptoRow : OpenClaim := { program := "ytddmgphlhfilnaa", sum := "964284e4e52f7c5a65cc87c4ebe57c92e7e3a01696a9bb9ac1cd28f7ada994c4", func := "loop.example/fpgatoolchain/laws.FnCanBeTrue", spec := "fnCanBeTrue", unfollowed := true, recurses := true, plainKeys := false, apart := false, narrowed := true }
def FnCanBeTrueUptoSaid : Prop := fnCanBeTrueUptoRow.holds Try.pinned (OpenSpec.upto fnCanBeTrueSpec)

end Rows
end Go.Proofs.Ytddmgphlhfilnaa
