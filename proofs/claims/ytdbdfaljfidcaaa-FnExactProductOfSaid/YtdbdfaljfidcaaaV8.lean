/- Full turns. Conditions: as each theorem says. -/
import Derived.Test.YtdbdfaljfidcaaaV7
namespace Go.Proofs.Ytdbdfaljfidcaaa
open Go.RowKit
set_option linter.unusedSimpArgs false
set_option linter.unusedVariables false
end Go.Proofs.Ytdbdfaljfidcaaa
