/- Braids beside a code: the reference, loops. Conditions: as each theorem says. -/
import Derived.Test.YteogfncfpmdabaaDoorV1
namespace Go.Proofs.YteogfncfpmdabaaDoor
open Go.RowKit
set_option linter.unusedSimpArgs false
set_option linter.unusedVariables false
end Go.Proofs.YteogfncfpmdabaaDoor
