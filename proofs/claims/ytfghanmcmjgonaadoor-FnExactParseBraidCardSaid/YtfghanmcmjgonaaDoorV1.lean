/- Braids beside a code: the program. Conditions: as each theorem says. -/
import Derived.Test.YtfghanmcmjgonaaDoorU5
import Derived.Test.YtfghanmcmjgonaaDoorU9
namespace Go.Proofs.YtfghanmcmjgonaaDoor
open Go.RowKit
set_option linter.unusedSimpArgs false
set_option linter.unusedVariables false
end Go.Proofs.YtfghanmcmjgonaaDoor
