/- Full turns. Conditions: as each theorem says. -/
import Derived.Test.YtnbpkbkgbpfomaaV7
namespace Go.Proofs.Ytnbpkbkgbpfomaa
open Go.RowKit
set_option linter.unusedSimpArgs false
set_option linter.unusedVariables false
end Go.Proofs.Ytnbpkbkgbpfomaa
