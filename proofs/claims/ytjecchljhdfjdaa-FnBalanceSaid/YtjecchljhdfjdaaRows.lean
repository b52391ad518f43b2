/-
  No cell of these rows narrows 'for every input' (looked for: loops, veiled, ifaces, maps, wideKeys, modest, calm, conditions, laid).
  DERIVED. THE GIVEN ROWS OF THIS SEAT. 4 by the template 'for every input the law returns true; each argument reads behind the call as it read before'; 0 by the template 'total and deterministic' (their statements: YtjecchljhdfjdaaTotals.lean).
  GIVEN WITH THE SEED: the statements are not yours to turn. If you find one false, say at which input.
  Laid BY PROGRAM, IN A SANDBOX (cutbox-rows.mjs): the forced cells as the released guide's own fill.sh prints them over the translation 73f6ea0b5a848a5c… (all of the seat's roots in one cut). By AI agents, Wed Nov 11 2026. No macro, syntax, notation, axiom, sorry.
-/
import Derived.Test.YtjecchljhdfjdaaChecked
import GoSem.Claim
import GoSem.ClaimJoined
import GoSem.ClaimMapViews
import Derived.JoinedTies
import Derived.KernelRfl
namespace Go.Proofs.Ytjecchljhdfjdaa
/- THE CELL 'sum', in the pinned program and in every row, IS THE sha256 OF THE DUMP (.gsa) THAT YtjecchljhdfjdaaProg.lean LOADS. Nothing in Lean hashes anything: it is a label: what it is worth is what the hold of that sum in a sandbox is worth. -/
noncomputable def Try.pinned : Pinned := { name := "ytjecchljhdfjdaa", sum := "73f6ea0b5a848a5c3aa8df63ea4ae8b46eef66ee34aebf9a6af0bf1d0e96969d", checked := Try.checked }
namespace Rows
def none {H : Type} : Left H := { results := [], args := [] }

/-- 'laws.FnBalanceExample': WHATEVER THE INPUT: true; the input reads as it did. -/
def fnBalanceExampleSpec : ChangeSpec := { name := "fnBalanceExample", fn := fun _ => fun
  | [d] => { results := [.lit (.bool true)], args := [d] }
  | _ => none }
def fnBalanceExampleRow : OpenClaim := { program := "ytjecchljhdfjdaa", sum := "73f6ea0b5a848a5c3aa8df63ea4ae8b46eef66ee34aebf9a6af0bf1d0e96969d", func := "loop.example/fpgatoolchain/laws.FnBalanceExample", spec := "fnBalanceExample", unfollowed := true, recurses := true, plainKeys := false, apart := false }
def FnBalanceExampleSaid : Prop := fnBalanceExampleRow.holds Try.pinned (OpenSpec.ofChange fnBalanceExampleSpec)

/-- ITS FALSE NEIGHBOUR: 'it returns false'. Refute it at one input. -/
def fnBalanceExampleWrong : ChangeSpec := { name := "fnBalanceExample", fn := fun _ => fun
  | [d] => { results := [.lit (.bool false)], args := [d] }
  | _ => none }
def FnBalanceExampleWrongFalsely : Prop := fnBalanceExampleRow.holds Try.pinned (OpenSpec.ofChange fnBalanceExampleWrong)

/-- 'laws.FnExactBalance': WHATEVER THE INPUT: true; the input reads as it did. -/
def fnExactBalanceSpec : ChangeSpec := { name := "fnExactBalance", fn := fun _ => fun
  | [d] => { results := [.lit (.bool true)], args := [d] }
  | _ => none }
def fnExactBalanceRow : OpenClaim := { program := "ytjecchljhdfjdaa", sum := "73f6ea0b5a848a5c3aa8df63ea4ae8b46eef66ee34aebf9a6af0bf1d0e96969d", func := "loop.example/fpgatoolchain/laws.FnExactBalance", spec := "fnExactBalance", unfollowed := true, recurses := true, plainKeys := false, apart := false }
def FnExactBalanceSaid : Prop := fnExactBalanceRow.holds Try.pinned (OpenSpec.ofChange fnExactBalanceSpec)

/-- ITS FALSE NEIGHBOUR: 'it returns false'. Refute it at one input. -/
def fnExactBalanceWrong : ChangeSpec := { name := "fnExactBalance", fn := fun _ => fun
  | [d] => { results := [.lit (.bool false)], args := [d] }
  | _ => none }
def FnExactBalanceWrongFalsely : Prop := fnExactBalanceRow.holds Try.pinned (OpenSpec.ofChange fnExactBalanceWrong)

/-- 'laws.FnBalance': WHATEVER THE INPUT: true; the input reads as it did. -/
def fnBalanceSpec : ChangeSpec := { name := "fnBalance", fn := fun _ => fun
  | [d] => { results := [.lit (.bool true)], args := [d] }
  | _ => none }
def fnBalanceRow : OpenClaim := { program := "ytjecchljhdfjdaa", sum := "73f6ea0b5a848a5c3aa8df63ea4ae8b46eef66ee34aebf9a6af0bf1d0e96969d", func := "loop.example/fpgatoolchain/laws.FnBalance", spec := "fnBalance", unfollowed := true, recurses := true, plainKeys := false, apart := false }
def FnBalanceSaid : Prop := fnBalanceRow.holds Try.pinned (OpenSpec.ofChange fnBalanceSpec)

/-- ITS FALSE NEIGHBOUR: 'it returns false'. Refute it at one input. -/
def fnBalanceWrong : ChangeSpec := { name := "fnBalance", fn := fun _ => fun
  | [d] => { results := [.lit (.bool false)], args := [d] }
  | _ => none }
def FnBalanceWrongFalsely : Prop := fnBalanceRow.holds Try.pinned (OpenSpec.ofChange fnBalanceWrong)

/-- 'laws.FnOptimizeChain': WHATEVER THE INPUT: true; the input reads as it did. -/
def fnOptimizeChainSpec : ChangeSpec := { name := "fnOptimizeChain", fn := fun _ => fun
  | [d] => { results := [.lit (.bool true)], args := [d] }
  | _ => none }
def fnOptimizeChainRow : OpenClaim := { program := "ytjecchljhdfjdaa", sum := "73f6ea0b5a848a5c3aa8df63ea4ae8b46eef66ee34aebf9a6af0bf1d0e96969d", func := "loop.example/fpgatoolchain/laws.FnOptimizeChain", spec := "fnOptimizeChain", unfollowed := true, recurses := true, plainKeys := false, apart := false }
def FnOptimizeChainSaid : Prop := fnOptimizeChainRow.holds Try.pinned (OpenSpec.ofChange fnOptimizeChainSpec)

/-- ITS FALSE NEIGHBOUR: 'it returns false'. Refute it at one input. -/
def fnOptimizeChainWrong : ChangeSpec := { name := "fnOptimizeChain", fn := fun _ => fun
  | [d] => { results := [.lit (.bool false)], args := [d] }
  | _ => none }
def FnOptimizeChainWrongFalsely : Prop := fnOptimizeChainRow.holds Try.pinned (OpenSpec.ofChange fnOptimizeChainWrong)

/- THE SECOND FORM. 'bulk': how many values and letters a reading holds, each counted each time it is reached (what is shared counts as often as it is met; a slice's spare places count too). A statement '..UptoSaid' is the law's where the arguments, and the package variables that the reading takes, are together of bulk at most 1048576: NARROWER than '..Said'. Prove '..Said' where nothing that the law and all that it calls make is longer than what came in: it says more and counts as full. Else prove '..UptoSaid'. A law counts once. -/
mutual
def uptoBulk {H : Type} : DataW H → Nat
  | .lit (.string bytes) => bytes.length + 1
  | .lit _ => 1
  | .nil => 1
  | .ptr d => uptoBulk d + 1
  | .slice elems spare => uptoBulkAll elems + uptoBulkAll spare + 1
  | .agg parts => uptoBulkAll parts + 1
  | .iface _ d => uptoBulk d + 1
  | .map entries => uptoBulkEntries entries + 1
  | .held _ => 1
def uptoBulkAll {H : Type} : List (DataW H) → Nat
  | [] => 0
  | d :: r => uptoBulk d + uptoBulkAll r
def uptoBulkEntries {H : Type} : List (Lit × DataW H) → Nat
  | [] => 0
  | x :: r => uptoBulkEntry x + uptoBulkEntries r
def uptoBulkEntry {H : Type} : Lit × DataW H → Nat
  | (.string bytes, d) => bytes.length + uptoBulk d + 1
  | (_, d) => uptoBulk d + 1
 end
def uptoSmall : (H : Type) → List (DataW H) → Bool := fun _ ds => decide (uptoBulkAll ds ≤ 1048576)
def OpenSpec.upto (s : _root_.Go.ChangeSpec) : _root_.Go.OpenSpec := { _root_.Go.OpenSpec.ofChange s with cond := some uptoSmall }

/-- 'laws.FnBalanceExample', WHERE WHAT IT READS IS OF BULK AT MOST 1048576: true; the input reads as it did. -/
def fnBalanceExampleUptoRow : OpenClaim := { program := "ytjecchljhdfjdaa", sum := "73f6ea0b5a848a5c3aa8df63ea4ae8b46eef66ee34aebf9a6af0bf1d0e96969d", func := "loop.example/fpgatoolchain/laws.FnBalanceExample", spec := "fnBalanceExample", unfollowed := true, recurses := true, plainKeys := false, apart := false, narrowed := true }
def FnBalanceExampleUptoSaid : Prop := fnBalanceExampleUptoRow.holds Try.pinned (OpenSpec.upto fnBalanceExampleSpec)

/-- 'laws.FnExactBalance', WHERE WHAT IT READS IS OF BULK AT MOST 1048576: true; the input reads as it did. -/
def fnExactBalanceUptoRow : OpenClaim := { program := "ytjecchljhdfjdaa", sum := "73f6ea0b5a848a5c3aa8df63ea4ae8b46eef66ee34aebf9a6af0bf1d0e96969d", func := "loop.example/fpgatoolchain/laws.FnExactBalance", spec := "fnExactBalance", unfollowed := true, recurses := true, plainKeys := false, apart := false, narrowed := true }
def FnExactBalanceUptoSaid : Prop := fnExactBalanceUptoRow.holds Try.pinned (OpenSpec.upto fnExactBalanceSpec)

/-- 'laws.FnBalance', WHERE WHAT IT READS IS OF BULK AT MOST 1048576: true; the input reads as it did. -/
def fnBalanceUptoRow : OpenClaim := { program := "ytjecchljhdfjdaa", sum := "73f6ea0b5a848a5c3aa8df63ea4ae8b46eef66ee34aebf9a6af0bf1d0e96969d", func := "loop.example/fpgatoolchain/laws.FnBalance", spec := "fnBalance", unfollowed := true, recurses := true, plainKeys := false, apart := false, narrowed := true }
def FnBalanceUptoSaid : Prop := fnBalanceUptoRow.holds Try.pinned (OpenSpec.upto fnBalanceSpec)

/-- 'laws.FnOptimizeChain', WHERE WHAT IT READS IS OF BULK AT MOST 1048576: true; the input reads as it did. -/
def fnOptimizeChainUptoRow : OpenClaim := { program := "ytjecchljhdfjdaa", sum := "73f6ea0b5a848a5c3aa8df63ea4ae8b46eef66ee34aebf9a6af0bf1d0e96969d", func := "loop.example/fpgatoolchain/laws.FnOptimizeChain", spec := "fnOptimizeChain", unfollowed := true, recurses := true, plainKeys := false, apart := false, narrowed := true }
def FnOptimizeChainUptoSaid : Prop := fnOptimizeChainUptoRow.holds Try.pinned (OpenSpec.upto fnOptimizeChainSpec)

end Rows
end Go.Proofs.Ytjecchljhdfjdaa
