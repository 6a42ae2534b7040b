/- Where strands end, by the reference. Conditions: as each theorem says. -/
import Derived.Test.YtgkpdklkeajipaaGreatDoorVf
namespace Go.Proofs.YtgkpdklkeajipaaGreatDoor
open Go.RowKit
set_option linter.unusedSimpArgs false
set_option linter.unusedVariables false
end Go.Proofs.YtgkpdklkeajipaaGreatDoor
