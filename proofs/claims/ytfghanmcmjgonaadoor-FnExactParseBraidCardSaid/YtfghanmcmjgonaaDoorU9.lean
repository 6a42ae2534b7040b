/- Letters turned by a function that is handed over. Conditions: as each theorem says. -/
import Derived.Test.YtfghanmcmjgonaaDoorU8
namespace Go.Proofs.YtfghanmcmjgonaaDoor
open Go.RowKit
set_option linter.unusedSimpArgs false
set_option linter.unusedVariables false
end Go.Proofs.YtfghanmcmjgonaaDoor
