import Derived.Test.YtbcolcchchgldaaH4
import Derived.Test.YtbcolcchchgldaaL4
import Derived.Test.YtbcolcchchgldaaH2
namespace Go.Proofs.Ytbcolcchchgldaa
set_option linter.unusedVariables false
set_option linter.unusedSimpArgs false
open Go.RowKit

end Go.Proofs.Ytbcolcchchgldaa
