/- Braids beside a code: the reference. Conditions: as each theorem says. -/
import Derived.Test.YtnbpkbkgbpfomaaU6
namespace Go.Proofs.Ytnbpkbkgbpfomaa
open Go.RowKit
set_option linter.unusedSimpArgs false
set_option linter.unusedVariables false
end Go.Proofs.Ytnbpkbkgbpfomaa
