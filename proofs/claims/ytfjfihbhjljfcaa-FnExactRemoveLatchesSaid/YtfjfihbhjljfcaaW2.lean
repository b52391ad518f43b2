import Derived.Test.YtfjfihbhjljfcaaW1
import Derived.Test.YtfjfihbhjljfcaaM1
namespace Go.Proofs.Ytfjfihbhjljfcaa
set_option linter.unusedVariables false
set_option linter.unusedSimpArgs false
open Go.RowKit

/-! One cycle: next state and outputs as numbers. -/

def cycV (c : Cir) (s i : Int) : List Bool := valsV (-1) false (false :: (bitsV i c.inp.toNat ++ bitsV s c.next.length)) c.gates
theorem cycV_length (c : Cir) (s i : Int) : (cycV c s i).length = 1 + c.inp.toNat + c.next.length + c.gates.length := by
  unfold cycV; rw [valsV_length]; simp [bitsV_length]; omega
def nextN (c : Cir) (s i : Int) : Int := numB (c.next.map (litB (cycV c s i)))
def outN (c : Cir) (s i : Int) : Int := numB (c.outs.map (litB (cycV c s i)))
theorem nextN_bd (c : Cir) (s i : Int) : 0 ≤ nextN c s i ∧ nextN c s i < 2 ^ c.next.length := by
  have := numB_bd (c.next.map (litB (cycV c s i)))
  simpa [nextN] using this
theorem outN_bd (c : Cir) (s i : Int) : 0 ≤ outN c s i ∧ outN c s i < 2 ^ c.outs.length := by
  have := numB_bd (c.outs.map (litB (cycV c s i)))
  simpa [outN] using this

end Go.Proofs.Ytfjfihbhjljfcaa
