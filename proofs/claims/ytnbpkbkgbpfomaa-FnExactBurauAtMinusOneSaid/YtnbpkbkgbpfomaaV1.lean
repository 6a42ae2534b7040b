/- Braids beside a code: the program. Conditions: as each theorem says. -/
import Derived.Test.YtnbpkbkgbpfomaaU5
import Derived.Test.YtnbpkbkgbpfomaaU9
namespace Go.Proofs.Ytnbpkbkgbpfomaa
open Go.RowKit
set_option linter.unusedSimpArgs false
set_option linter.unusedVariables false
end Go.Proofs.Ytnbpkbkgbpfomaa
