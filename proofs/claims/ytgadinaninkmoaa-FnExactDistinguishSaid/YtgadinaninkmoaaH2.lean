import Derived.Test.YtgadinaninkmoaaV3
import Derived.Test.YtgadinaninkmoaaV6
import Derived.Test.YtgadinaninkmoaaL4
namespace Go.Proofs.Ytgadinaninkmoaa
set_option linter.unusedVariables false
set_option linter.unusedSimpArgs false
open Go.RowKit

/-! Outputs and next states under a fault: the program's walks. -/

theorem roots_lits {c : Cir} (hv : c.valid) : ∀ x ∈ c.next ++ c.outs, 0 ≤ x ∧ x ≤ 1000000 ∧ x / 2 < c.vars := by
  intro x hx
  have := (List.mem_append.1 hx).elim (hv.next x) (hv.outs x)
  have h2 := valid_first hv
  unfold litP at this; omega

end Go.Proofs.Ytgadinaninkmoaa
