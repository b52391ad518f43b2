/-
  No cell of these rows narrows 'for every input' (looked for: loops, veiled, ifaces, maps, wideKeys, modest, calm, conditions, laid).
  DERIVED. THE GIVEN ROWS OF THIS SEAT. 6 by the template 'for every input the law returns true; each argument reads behind the call as it read before'; 0 by the template 'total and deterministic' (their statements: YtfedipoffakegaaTotals.lean).
  GIVEN WITH THE SEED: the statements are not yours to turn. If you find one false, say at which input.
  Laid BY PROGRAM, IN A SANDBOX (cutbox-rows.mjs): the forced cells as the released guide's own fill.sh prints them over the translation b37ce84b43f87f7e… (all of the seat's roots in one cut). By AI agents, Wed Nov 11 2026. No macro, syntax, notation, axiom, sorry.
-/
import Derived.Test.YtfedipoffakegaaChecked
import GoSem.Claim
import GoSem.ClaimJoined
import GoSem.ClaimMapViews
import Derived.JoinedTies
import Derived.KernelRfl
namespace Go.Proofs.Ytfedipoffakegaa
/- THE CELL 'sum', in the pinned program and in every row, IS THE sha256 OF THE DUMP (.gsa) THAT YtfedipoffakegaaProg.lean LOADS. Nothing in Lean hashes anything: it is a label: what it is worth is what the hold of that sum in a sandbox is worth. -/
noncomputable def Try.pinned : Pinned := { name := "ytfedipoffakegaa", sum := "b37ce84b43f87f7ef2f5c7bb1e39a6accd19998f25d751b7cd40e714cb913941", checked := Try.checked }
namespace Rows
def none {H : Type} : Left H := { results := [], args := [] }

/-- 'laws.FnExactTseitin': WHATEVER THE INPUT: true; the input reads as it did. -/
def fnExactTseitinSpec : ChangeSpec := { name := "fnExactTseitin", fn := fun _ => fun
  | [d1, d2] => { results := [.lit (.bool true)], args := [d1, d2] }
  | _ => none }
def fnExactTseitinRow : OpenClaim := { program := "ytfedipoffakegaa", sum := "b37ce84b43f87f7ef2f5c7bb1e39a6accd19998f25d751b7cd40e714cb913941", func := "loop.example/fpgatoolchain/laws.FnExactTseitin", spec := "fnExactTseitin", apart := false }
def FnExactTseitinSaid : Prop := fnExactTseitinRow.holds Try.pinned (OpenSpec.ofChange fnExactTseitinSpec)

/-- ITS FALSE NEIGHBOUR: 'it returns false'. Refute it at one input. -/
def fnExactTseitinWrong : ChangeSpec := { name := "fnExactTseitin", fn := fun _ => fun
  | [d1, d2] => { results := [.lit (.bool false)], args := [d1, d2] }
  | _ => none }
def FnExactTseitinWrongFalsely : Prop := fnExactTseitinRow.holds Try.pinned (OpenSpec.ofChange fnExactTseitinWrong)

/-- 'laws.FnExactSameFunction': WHATEVER THE INPUT: true; the input reads as it did. -/
def fnExactSameFunctionSpec : ChangeSpec := { name := "fnExactSameFunction", fn := fun _ => fun
  | [d1, d2, d3] => { results := [.lit (.bool true)], args := [d1, d2, d3] }
  | _ => none }
def fnExactSameFunctionRow : OpenClaim := { program := "ytfedipoffakegaa", sum := "b37ce84b43f87f7ef2f5c7bb1e39a6accd19998f25d751b7cd40e714cb913941", func := "loop.example/fpgatoolchain/laws.FnExactSameFunction", spec := "fnExactSameFunction", apart := false }
def FnExactSameFunctionSaid : Prop := fnExactSameFunctionRow.holds Try.pinned (OpenSpec.ofChange fnExactSameFunctionSpec)

/-- ITS FALSE NEIGHBOUR: 'it returns false'. Refute it at one input. -/
def fnExactSameFunctionWrong : ChangeSpec := { name := "fnExactSameFunction", fn := fun _ => fun
  | [d1, d2, d3] => { results := [.lit (.bool false)], args := [d1, d2, d3] }
  | _ => none }
def FnExactSameFunctionWrongFalsely : Prop := fnExactSameFunctionRow.holds Try.pinned (OpenSpec.ofChange fnExactSameFunctionWrong)

/-- 'laws.FnExactConstantVars': WHATEVER THE INPUT: true; the input reads as it did. -/
def fnExactConstantVarsSpec : ChangeSpec := { name := "fnExactConstantVars", fn := fun _ => fun
  | [d] => { results := [.lit (.bool true)], args := [d] }
  | _ => none }
def fnExactConstantVarsRow : OpenClaim := { program := "ytfedipoffakegaa", sum := "b37ce84b43f87f7ef2f5c7bb1e39a6accd19998f25d751b7cd40e714cb913941", func := "loop.example/fpgatoolchain/laws.FnExactConstantVars", spec := "fnExactConstantVars", apart := false }
def FnExactConstantVarsSaid : Prop := fnExactConstantVarsRow.holds Try.pinned (OpenSpec.ofChange fnExactConstantVarsSpec)

/-- ITS FALSE NEIGHBOUR: 'it returns false'. Refute it at one input. -/
def fnExactConstantVarsWrong : ChangeSpec := { name := "fnExactConstantVars", fn := fun _ => fun
  | [d] => { results := [.lit (.bool false)], args := [d] }
  | _ => none }
def FnExactConstantVarsWrongFalsely : Prop := fnExactConstantVarsRow.holds Try.pinned (OpenSpec.ofChange fnExactConstantVarsWrong)

/-- 'laws.FnExactTestSet': WHATEVER THE INPUT: true; the input reads as it did. -/
def fnExactTestSetSpec : ChangeSpec := { name := "fnExactTestSet", fn := fun _ => fun
  | [d] => { results := [.lit (.bool true)], args := [d] }
  | _ => none }
def fnExactTestSetRow : OpenClaim := { program := "ytfedipoffakegaa", sum := "b37ce84b43f87f7ef2f5c7bb1e39a6accd19998f25d751b7cd40e714cb913941", func := "loop.example/fpgatoolchain/laws.FnExactTestSet", spec := "fnExactTestSet", unfollowed := true, recurses := true, apart := false }
def FnExactTestSetSaid : Prop := fnExactTestSetRow.holds Try.pinned (OpenSpec.ofChange fnExactTestSetSpec)

/-- ITS FALSE NEIGHBOUR: 'it returns false'. Refute it at one input. -/
def fnExactTestSetWrong : ChangeSpec := { name := "fnExactTestSet", fn := fun _ => fun
  | [d] => { results := [.lit (.bool false)], args := [d] }
  | _ => none }
def FnExactTestSetWrongFalsely : Prop := fnExactTestSetRow.holds Try.pinned (OpenSpec.ofChange fnExactTestSetWrong)

/-- 'laws.FnExactIrredundant': WHATEVER THE INPUT: true; the input reads as it did. -/
def fnExactIrredundantSpec : ChangeSpec := { name := "fnExactIrredundant", fn := fun _ => fun
  | [d] => { results := [.lit (.bool true)], args := [d] }
  | _ => none }
def fnExactIrredundantRow : OpenClaim := { program := "ytfedipoffakegaa", sum := "b37ce84b43f87f7ef2f5c7bb1e39a6accd19998f25d751b7cd40e714cb913941", func := "loop.example/fpgatoolchain/laws.FnExactIrredundant", spec := "fnExactIrredundant", apart := false }
def FnExactIrredundantSaid : Prop := fnExactIrredundantRow.holds Try.pinned (OpenSpec.ofChange fnExactIrredundantSpec)

/-- ITS FALSE NEIGHBOUR: 'it returns false'. Refute it at one input. -/
def fnExactIrredundantWrong : ChangeSpec := { name := "fnExactIrredundant", fn := fun _ => fun
  | [d] => { results := [.lit (.bool false)], args := [d] }
  | _ => none }
def FnExactIrredundantWrongFalsely : Prop := fnExactIrredundantRow.holds Try.pinned (OpenSpec.ofChange fnExactIrredundantWrong)

/-- 'laws.FnExactForceGate': WHATEVER THE INPUT: true; the input reads as it did. -/
def fnExactForceGateSpec : ChangeSpec := { name := "fnExactForceGate", fn := fun _ => fun
  | [d1, d2, d3] => { results := [.lit (.bool true)], args := [d1, d2, d3] }
  | _ => none }
def fnExactForceGateRow : OpenClaim := { program := "ytfedipoffakegaa", sum := "b37ce84b43f87f7ef2f5c7bb1e39a6accd19998f25d751b7cd40e714cb913941", func := "loop.example/fpgatoolchain/laws.FnExactForceGate", spec := "fnExactForceGate", unfollowed := true, recurses := true, apart := false }
def FnExactForceGateSaid : Prop := fnExactForceGateRow.holds Try.pinned (OpenSpec.ofChange fnExactForceGateSpec)

/-- ITS FALSE NEIGHBOUR: 'it returns false'. Refute it at one input. -/
def fnExactForceGateWrong : ChangeSpec := { name := "fnExactForceGate", fn := fun _ => fun
  | [d1, d2, d3] => { results := [.lit (.bool false)], args := [d1, d2, d3] }
  | _ => none }
def FnExactForceGateWrongFalsely : Prop := fnExactForceGateRow.holds Try.pinned (OpenSpec.ofChange fnExactForceGateWrong)

/- THE SECOND FORM. 'bulk': how many values and letters a reading holds, each counted each time it is reached (what is shared counts as often as it is met; a slice's spare places count too). A statement '..UptoSaid' is the law's where the arguments, and the package variables that the reading takes, are together of bulk at most 1048576: NARROWER than '..Said'. Prove '..Said' where nothing that the law and all that it calls make is longer than what came in: it says more and counts as full. Else prove '..UptoSaid'. A law counts once. -/
mutual
def uptoBulk {H : Type} : DataW H → Nat
  | .lit (.string bytes) => bytes.length + 1
  | .lit _ => 1
  | .nil => 1
  | .ptr d => uptoBulk d + 1
  | .slice elems spare => uptoBulkAll elems + uptoBulkAll spare + 1
  | .agg parts => uptoBulkAll parts + 1
  | .iface _ d => uptoBulk d + 1
  | .map entries => uptoBulkEntries entries + 1
  | .held _ => 1
def uptoBulkAll {H : Type} : List (DataW H) → Nat
  | [] => 0
  | d :: r => uptoBulk d + uptoBulkAll r
def uptoBulkEntries {H : Type} : List (Lit × DataW H) → Nat
  | [] => 0
  | x :: r => uptoBulkEntry x + uptoBulkEntries r
def uptoBulkEntry {H : Type} : Lit × DataW H → Nat
  | (.string bytes, d) => bytes.length + uptoBulk d + 1
  | (_, d) => uptoBulk d + 1
 end
def uptoSmall : (H : Type) → List (DataW H) → Bool := fun _ ds => decide (uptoBulkAll ds ≤ 1048576)
def OpenSpec.upto (s : _root_.Go.ChangeSpec) : _root_.Go.OpenSpec := { _root_.Go.OpenSpec.ofChange s with cond := some uptoSmall }

/-- 'laws.FnExactTseitin', WHERE WHAT IT READS IS OF BULK AT MOST 1048576: true; the input reads as it did. -/
def fnExactTseitinUptoRow : OpenClaim := { program := "ytfedipoffakegaa", sum := "b37ce84b43f87f7ef2f5c7bb1e39a6accd19998f25d751b7cd40e714cb913941", func := "loop.example/fpgatoolchain/laws.FnExactTseitin", spec := "fnExactTseitin", apart := false, narrowed := true }
def FnExactTseitinUptoSaid : Prop := fnExactTseitinUptoRow.holds Try.pinned (OpenSpec.upto fnExactTseitinSpec)

/-- 'laws.FnExactSameFunction', WHERE WHAT IT READS IS OF BULK AT MOST 1048576: true; the input reads as it did. -/
def fnExactSameFunctionUptoRow : OpenClaim := { program := "ytfedipoffakegaa", sum := "b37ce84b43f87f7ef2f5c7bb1e39a6accd19998f25d751b7cd40e714cb913941", func := "loop.example/fpgatoolchain/laws.FnExactSameFunction", spec := "fnExactSameFunction", apart := false, narrowed := true }
def FnExactSameFunctionUptoSaid : Prop := fnExactSameFunctionUptoRow.holds Try.pinned (OpenSpec.upto fnExactSameFunctionSpec)

/-- 'laws.FnExactConstantVars', WHERE WHAT IT READS IS OF BULK AT MOST 1048576: true; the input reads as it did. -/
def fnExactConstantVarsUptoRow : OpenClaim := { program := "ytfedipoffakegaa", sum := "b37ce84b43f87f7ef2f5c7bb1e39a6accd19998f25d751b7cd40e714cb913941", func := "loop.example/fpgatoolchain/laws.FnExactConstantVars", spec := "fnExactConstantVars", apart := false, narrowed := true }
def FnExactConstantVarsUptoSaid : Prop := fnExactConstantVarsUptoRow.holds Try.pinned (OpenSpec.upto fnExactConstantVarsSpec)

/-- 'laws.FnExactTestSet', WHERE WHAT IT READS IS OF BULK AT MOST 1048576: true; the input reads as it did. -/
def fnExactTestSetUptoRow : OpenClaim := { program := "ytfedipoffakegaa", sum := "b37ce84b43f87f7ef2f5c7bb1e39a6accd19998f25d751b7cd40e714cb913941", func := "loop.example/fpgatoolchain/laws.FnExactTestSet", spec := "fnExactTestSet", unfollowed := true, recurses := true, apart := false, narrowed := true }
def FnExactTestSetUptoSaid : Prop := fnExactTestSetUptoRow.holds Try.pinned (OpenSpec.upto fnExactTestSetSpec)

/-- 'laws.FnExactIrredundant', WHERE WHAT IT READS IS OF BULK AT MOST 1048576: true; the input reads as it did. -/
def fnExactIrredundantUptoRow : OpenClaim := { program := "ytfedipoffakegaa", sum := "b37ce84b43f87f7ef2f5c7bb1e39a6accd19998f25d751b7cd40e714cb913941", func := "loop.example/fpgatoolchain/laws.FnExactIrredundant", spec := "fnExactIrredundant", apart := false, narrowed := true }
def FnExactIrredundantUptoSaid : Prop := fnExactIrredundantUptoRow.holds Try.pinned (OpenSpec.upto fnExactIrredundantSpec)

/-- 'laws.FnExactForceGate', WHERE WHAT IT READS IS OF BULK AT MOST 1048576: true; the input reads as it did. -/
def fnExactForceGateUptoRow : OpenClaim := { program := "ytfedipoffakegaa", sum := "b37ce84b43f87f7ef2f5c7bb1e39a6accd19998f25d751b7cd40e714cb913941", func := "loop.example/fpgatoolchain/laws.FnExactForceGate", spec := "fnExactForceGate", unfollowed := true, recurses := true, apart := false, narrowed := true }
def FnExactForceGateUptoSaid : Prop := fnExactForceGateUptoRow.holds Try.pinned (OpenSpec.upto fnExactForceGateSpec)

end Rows
end Go.Proofs.Ytfedipoffakegaa
