import Derived.Test.YtaboipnigeaopaaZ2
import Derived.Test.YtaboipnigeaopaaZ6
import Derived.Test.YtaboipnigeaopaaG3
namespace Go.Proofs.Ytaboipnigeaopaa
set_option linter.unusedVariables false
set_option linter.unusedSimpArgs false
open Go.RowKit

/-! Forcing a gate is a stuck-at fault. -/

end Go.Proofs.Ytaboipnigeaopaa
