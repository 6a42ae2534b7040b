/- The meet of two simple braids. Conditions: as each theorem says. -/
import Derived.Test.YtcfofdjdbojadaaT4
import Derived.Test.YtcfofdjdbojadaaP5
import Derived.BigRegion
namespace Go.Proofs.Ytcfofdjdbojadaa
open Go.RowKit
set_option linter.unusedSimpArgs false
set_option linter.unusedVariables false
end Go.Proofs.Ytcfofdjdbojadaa
