/- The sum of a braid. Conditions: as each theorem says. -/
import Derived.Test.YtfghanmcmjgonaaDoorU3
namespace Go.Proofs.YtfghanmcmjgonaaDoor
open Go.RowKit
set_option linter.unusedSimpArgs false
set_option linter.unusedVariables false
theorem okW_len {n : Int} {xs : List Int} (h : okW n xs = true) : xs.length ≤ 200 := by
  obtain ⟨m, _, _, _, h200, _⟩ := okW_true h
  exact h200
/-- 1 for numbers greater than 0, -1 for others -/
def sgn (x : Int) : Int := if 0 < x then 1 else -1
/-- the sum of the first k letters' counts -/
def sumL (xs : List Int) : Nat → Int
  | 0 => 0
  | k + 1 => sumL xs k + sgn (nth xs k)
theorem sumL_le (xs : List Int) : ∀ k : Nat, -(k : Int) ≤ sumL xs k ∧ sumL xs k ≤ k
  | 0 => by simp [sumL]
  | k + 1 => by
    have := sumL_le xs k
    simp only [sumL, sgn]
    split <;> omega
theorem sumL_pos {xs : List Int} {k : Nat} (h : 0 < nth xs k) : sumL xs k + 1 = sumL xs (k + 1) := by simp [sumL, sgn, h]
theorem sumL_neg {xs : List Int} {k : Nat} (h : ¬ 0 < nth xs k) : sumL xs k - 1 = sumL xs (k + 1) := by simp only [sumL, sgn, if_neg h]; omega
theorem sumL_neg' {xs : List Int} {k : Nat} (h : ¬ 0 < nth xs k) : sumL xs k + -1 = sumL xs (k + 1) := by simp only [sumL, sgn, if_neg h]
/-- a number beside a code -/
def rNum (b : Bool) (x : Int) : Value := .tuple #[.int .i64 (if b then x else 0), .int .i64 (if b then 0 else 1)]
end Go.Proofs.YtfghanmcmjgonaaDoor
