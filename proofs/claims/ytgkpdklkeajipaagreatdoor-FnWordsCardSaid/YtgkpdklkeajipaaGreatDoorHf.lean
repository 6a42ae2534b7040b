/- ParseBraid by the reference. Conditions: as each theorem says. -/
import Derived.Test.YtgkpdklkeajipaaGreatDoorHe
namespace Go.Proofs.YtgkpdklkeajipaaGreatDoor
open Go.RowKit
set_option linter.unusedSimpArgs false
set_option linter.unusedVariables false
open Go.RowKit
end Go.Proofs.YtgkpdklkeajipaaGreatDoor
