import Derived.Test.YtfjfihbhjljfcaaDI
import Derived.Test.YtfjfihbhjljfcaaDH
import Derived.Lib.SliceRun
namespace Go.Proofs.Ytfjfihbhjljfcaa
set_option linter.unusedVariables false
set_option linter.unusedSimpArgs false
open Go.RowKit

/-! The program's search: copies of rows, the step of two circuits, the breadth-first search. -/

end Go.Proofs.Ytfjfihbhjljfcaa
