/- Braids beside a code: the program. Conditions: as each theorem says. -/
import Derived.Test.YteogfncfpmdabaaDoorU5
import Derived.Test.YteogfncfpmdabaaDoorU9
namespace Go.Proofs.YteogfncfpmdabaaDoor
open Go.RowKit
set_option linter.unusedSimpArgs false
set_option linter.unusedVariables false
end Go.Proofs.YteogfncfpmdabaaDoor
