/- Braids beside a code: the reference, loops. Conditions: as each theorem says. -/
import Derived.Test.YtfghanmcmjgonaaDoorV1
namespace Go.Proofs.YtfghanmcmjgonaaDoor
open Go.RowKit
set_option linter.unusedSimpArgs false
set_option linter.unusedVariables false
end Go.Proofs.YtfghanmcmjgonaaDoor
