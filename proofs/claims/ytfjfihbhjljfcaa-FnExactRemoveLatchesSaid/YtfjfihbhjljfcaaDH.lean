import Derived.Test.YtfjfihbhjljfcaaProg
import Derived.Test.YtfjfihbhjljfcaaM1
import Derived.Laws.StructEq
namespace Go.Proofs.Ytfjfihbhjljfcaa
set_option linter.unusedVariables false
set_option linter.unusedSimpArgs false
open Go.RowKit

/-! A map from pairs of numbers to Bools, made by the call. -/

end Go.Proofs.Ytfjfihbhjljfcaa
