/- Letters appended, one by one. Conditions: as each theorem says. -/
import Derived.Test.YtfghanmcmjgonaaDoorU4
namespace Go.Proofs.YtfghanmcmjgonaaDoor
open Go.RowKit
set_option linter.unusedSimpArgs false
set_option linter.unusedVariables false
theorem rev_step {xs : List Int} {m : Nat} (h : m < xs.length) : (xs.drop (m + 1)).reverse ++ [nth xs m] = (xs.drop m).reverse := by
  have e : nth xs m = xs[m] := by simp [nth, h]
  rw [List.drop_eq_getElem_cons h, List.reverse_cons, e]
end Go.Proofs.YtfghanmcmjgonaaDoor
