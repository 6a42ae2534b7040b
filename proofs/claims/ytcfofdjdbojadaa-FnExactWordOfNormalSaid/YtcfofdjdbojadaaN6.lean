/- The law of IsNormal. Conditions: as each theorem says. -/
import Derived.Test.YtcfofdjdbojadaaN5
import Derived.Test.YtcfofdjdbojadaaGi
namespace Go.Proofs.Ytcfofdjdbojadaa
open Go.RowKit
set_option linter.unusedSimpArgs false
set_option linter.unusedVariables false
end Go.Proofs.Ytcfofdjdbojadaa
