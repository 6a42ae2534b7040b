/- The shift of a braid. Conditions: as each theorem says. -/
import Derived.Test.YtfghanmcmjgonaaDoorV2
namespace Go.Proofs.YtfghanmcmjgonaaDoor
open Go.RowKit
set_option linter.unusedSimpArgs false
set_option linter.unusedVariables false
/-- what is answered beside a good code -/
def okS (n : Int) (xs : List Int) (k : Int) : Bool := okW n xs && inB k 0 (8 - n)
def codS (n : Int) (xs : List Int) (k : Int) : Int := if okW n xs = true then (if inB k 0 (8 - n) = true then 0 else 2) else 1
end Go.Proofs.YtfghanmcmjgonaaDoor
