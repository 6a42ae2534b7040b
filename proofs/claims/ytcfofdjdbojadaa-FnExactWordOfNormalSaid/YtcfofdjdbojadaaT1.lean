/- Descending pairs of a simple braid, and how many they are. Conditions: as each theorem says. -/
import Derived.Test.YtcfofdjdbojadaaS1
import Derived.Test.YtcfofdjdbojadaaP3
import Derived.Test.YtcfofdjdbojadaaIn
namespace Go.Proofs.Ytcfofdjdbojadaa
open Go.RowKit
set_option linter.unusedSimpArgs false
set_option linter.unusedVariables false
end Go.Proofs.Ytcfofdjdbojadaa
