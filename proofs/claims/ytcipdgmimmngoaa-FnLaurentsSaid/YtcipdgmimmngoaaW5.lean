/- Laws of polynomials. Conditions: as each theorem says. -/
import Derived.Test.YtcipdgmimmngoaaW3
import Derived.Test.YtcipdgmimmngoaaW4
namespace Go.Proofs.Ytcipdgmimmngoaa
open Go.RowKit
set_option linter.unusedSimpArgs false
set_option linter.unusedVariables false
end Go.Proofs.Ytcipdgmimmngoaa
