/- A slice of numbers is copied. Conditions: as each theorem says. -/
import Derived.Test.YtemegeiolpkapaaS7
import Derived.Test.YtemegeiolpkapaaI2
namespace Go.Proofs.Ytemegeiolpkapaa
open Go.RowKit
set_option linter.unusedSimpArgs false
set_option linter.unusedVariables false
end Go.Proofs.Ytemegeiolpkapaa
