/- The letters that begin or end a simple braid, beside a code. Conditions: as each theorem says. -/
import Derived.Test.YtoelchljmaoklaaS7
import Derived.Test.YtoelchljmaoklaaS4
namespace Go.Proofs.Ytoelchljmaoklaa
open Go.RowKit
set_option linter.unusedSimpArgs false
set_option linter.unusedVariables false
/-- what is answered beside a good code -/
def lst : Bool → List Int → List Int | true, xs => xs | false, _ => []
/-- the code -/
def cod : Bool → Int | true => 0 | false => 1
theorem lst_le {b xs m} (h : xs.length ≤ m) : (lst b xs).length ≤ m := by cases b <;> simp [lst, h]
theorem lst_len {n : Int} (s : Nat → Nat) {xs : List Int} (h : xs.length ≤ n.toNat) : (lst (okB n s) xs).length ≤ 8 := by
  cases hs : okB n s with
  | false => simp [lst]
  | true =>
    obtain ⟨m, rfl, h1, h2, hg⟩ := okB_true hs
    simp [lst] at h ⊢
    omega
end Go.Proofs.Ytoelchljmaoklaa
