import Derived.Test.YtfjfihbhjljfcaaW3
namespace Go.Proofs.Ytfjfihbhjljfcaa
set_option linter.unusedVariables false
set_option linter.unusedSimpArgs false
open Go.RowKit

/-! Next state and outputs of the reference; is a number in a list? -/

end Go.Proofs.Ytfjfihbhjljfcaa
