/- Where strands end, by the reference. Conditions: as each theorem says. -/
import Derived.Test.YtnbpkbkgbpfomaaVf
namespace Go.Proofs.Ytnbpkbkgbpfomaa
open Go.RowKit
set_option linter.unusedSimpArgs false
set_option linter.unusedVariables false
end Go.Proofs.Ytnbpkbkgbpfomaa
