/- Braids beside a code: the reference. Conditions: as each theorem says. -/
import Derived.Test.YtcfofdjdbojadaaU6
namespace Go.Proofs.Ytcfofdjdbojadaa
open Go.RowKit
set_option linter.unusedSimpArgs false
set_option linter.unusedVariables false
end Go.Proofs.Ytcfofdjdbojadaa
