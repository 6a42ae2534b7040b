/- Letters turned by a function that is handed over. Conditions: as each theorem says. -/
import Derived.Test.YteogfncfpmdabaaDoorU8
namespace Go.Proofs.YteogfncfpmdabaaDoor
open Go.RowKit
set_option linter.unusedSimpArgs false
set_option linter.unusedVariables false
end Go.Proofs.YteogfncfpmdabaaDoor
