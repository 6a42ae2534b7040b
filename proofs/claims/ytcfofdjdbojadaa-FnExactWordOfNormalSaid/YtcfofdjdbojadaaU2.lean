/- Braids as words: the reference's question, and what the laws ask. Conditions: as each theorem says. -/
import Derived.Test.YtcfofdjdbojadaaU1
namespace Go.Proofs.Ytcfofdjdbojadaa
open Go.RowKit
set_option linter.unusedSimpArgs false
set_option linter.unusedVariables false
/-- a braid in memory of its own is handed back -/
def RetB (e : TypeId) (w : World) (n : Int) (xs : List Int) : Ending → World → Prop := fun en w' => ∃ v, en = .returned (.agg #[.int .i64 n, v]) ∧ Below w.heap.size w w' ∧ own e w' w.heap.size v xs
/-- .. beside a code -/
def RetB2 (e : TypeId) (w : World) (n : Int) (xs : List Int) (c : Int) : Ending → World → Prop := fun en w' => ∃ v, en = .returned (.tuple #[.agg #[.int .i64 n, v], .int .i64 c]) ∧ Below w.heap.size w w' ∧ own e w' w.heap.size v xs
end Go.Proofs.Ytcfofdjdbojadaa
