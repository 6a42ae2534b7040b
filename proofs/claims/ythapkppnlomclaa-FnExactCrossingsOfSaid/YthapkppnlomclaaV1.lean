/- Braids beside a code: the program. Conditions: as each theorem says. -/
import Derived.Test.YthapkppnlomclaaU5
import Derived.Test.YthapkppnlomclaaU9
namespace Go.Proofs.Ythapkppnlomclaa
open Go.RowKit
set_option linter.unusedSimpArgs false
set_option linter.unusedVariables false
end Go.Proofs.Ythapkppnlomclaa
