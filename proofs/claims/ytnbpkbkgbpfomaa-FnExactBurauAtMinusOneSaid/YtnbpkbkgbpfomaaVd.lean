/- Products. Conditions: as each theorem says. -/
import Derived.Test.YtnbpkbkgbpfomaaV9
namespace Go.Proofs.Ytnbpkbkgbpfomaa
open Go.RowKit
set_option linter.unusedSimpArgs false
set_option linter.unusedVariables false
/-- what is answered for two braids -/
def goodP (n : Int) (xs : List Int) (m : Int) (ys : List Int) : Bool := okW n xs && okW m ys && decide (n = m) && decide (xs.length + ys.length ≤ 200)
def codP (n : Int) (xs : List Int) (m : Int) (ys : List Int) : Int := if okW n xs = true ∧ okW m ys = true then (if n = m then (if xs.length + ys.length ≤ 200 then 0 else 3) else 2) else 1
theorem pr_1 {n m xs ys} (h : okW n xs = false) : goodP n xs m ys = false ∧ codP n xs m ys = 1 := by simp [goodP, codP, h]
theorem pr_2 {n m xs ys} (h : okW m ys = false) : goodP n xs m ys = false ∧ codP n xs m ys = 1 := by simp [goodP, codP, h]
theorem pr_3 {n m xs ys} (h1 : okW n xs = true) (h2 : okW m ys = true) (h : ¬ n = m) : goodP n xs m ys = false ∧ codP n xs m ys = 2 := by simp [goodP, codP, h1, h2, h]
theorem pr_4 {n xs ys} (h1 : okW n xs = true) (h2 : okW n ys = true) (h : ¬ xs.length + ys.length ≤ 200) : goodP n xs n ys = false ∧ codP n xs n ys = 3 := by
  simp only [goodP, codP, h1, h2, h]; simp
theorem pr_5 {n xs ys} (h1 : okW n xs = true) (h2 : okW n ys = true) (h : xs.length + ys.length ≤ 200) : goodP n xs n ys = true ∧ codP n xs n ys = 0 := by
  simp only [goodP, codP, h1, h2, h]; simp
theorem goodP_le {n m xs ys} (h : goodP n xs m ys = true) : (xs ++ ys).length ≤ 200 := by
  simp only [goodP, Bool.and_eq_true, decide_eq_true_eq] at h
  rw [List.length_append]; exact h.2
end Go.Proofs.Ytnbpkbkgbpfomaa
