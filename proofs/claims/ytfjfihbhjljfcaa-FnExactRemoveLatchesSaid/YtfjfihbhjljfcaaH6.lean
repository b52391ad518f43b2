import Derived.Test.YtfjfihbhjljfcaaH4
import Derived.Test.YtfjfihbhjljfcaaL4
import Derived.Test.YtfjfihbhjljfcaaH2
namespace Go.Proofs.Ytfjfihbhjljfcaa
set_option linter.unusedVariables false
set_option linter.unusedSimpArgs false
open Go.RowKit

end Go.Proofs.Ytfjfihbhjljfcaa
