/- Braids beside a code: the reference. Conditions: as each theorem says. -/
import Derived.Test.YteogfncfpmdabaaDoorU6
namespace Go.Proofs.YteogfncfpmdabaaDoor
open Go.RowKit
set_option linter.unusedSimpArgs false
set_option linter.unusedVariables false
end Go.Proofs.YteogfncfpmdabaaDoor
