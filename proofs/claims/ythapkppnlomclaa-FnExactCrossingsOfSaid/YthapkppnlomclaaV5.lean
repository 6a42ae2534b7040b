/- Braids joined; half turns. Conditions: as each theorem says. -/
import Derived.Test.YthapkppnlomclaaV3
import Derived.Test.YthapkppnlomclaaI3
namespace Go.Proofs.Ythapkppnlomclaa
open Go.RowKit
set_option linter.unusedSimpArgs false
set_option linter.unusedVariables false
end Go.Proofs.Ythapkppnlomclaa
