import Derived.Test.YtfljaocoolndgaaN1
import Derived.Deep.RegionHeld3
namespace Go.Proofs.Ytfljaocoolndgaa
set_option linter.unusedVariables false
set_option linter.unusedSimpArgs false
open Go.RowKit

/-- A diagram that came in: whatever its length. -/
def BdA (w : World) (v : Value) (d : Bd) : Prop :=
  ∃ sn cn, v = .agg #[.slice sn d.nodes.length cn, .int .i64 d.root] ∧ Sl w sn (ncells d.nodes) ∧ d.nodes.length ≤ 9223372036854775807

theorem wf_int64 {n : Int} (h : (Lit.int .i64 n).wf = true) : -9223372036854775808 ≤ n ∧ n ≤ 9223372036854775807 := by
  simpa [Lit.wf, IntKind.min, IntKind.max, IntKind.bits, IntKind.signed] using h

end Go.Proofs.Ytfljaocoolndgaa
