/- Half turns beside a code. Conditions: as each theorem says. -/
import Derived.Test.YtnbpkbkgbpfomaaV6
namespace Go.Proofs.Ytnbpkbkgbpfomaa
open Go.RowKit
set_option linter.unusedSimpArgs false
set_option linter.unusedVariables false
/-- what is answered for so many strands -/
def halfL (n : Int) : List Int := if inB n 1 8 = true then halfW (n.toNat - 1) else []
def halfC (n : Int) : Int := if inB n 1 8 = true then 0 else 2
def halfN' (n : Int) : Int := if inB n 1 8 = true then n else 0
theorem halfL_le (n : Int) : (halfL n).length ≤ 49 := by
  unfold halfL
  split
  · rename_i h
    have := inB_true h
    have := halfW_le (n.toNat - 1) (by omega)
    omega
  · simp
theorem half_yes {n : Int} (h : inB n 1 8 = true) : ∃ m : Nat, n = (m : Int) + 1 ∧ m ≤ 7 ∧ halfL n = halfW m ∧ halfC n = 0 ∧ halfN' n = n := by
  have h' := inB_true h
  refine ⟨n.toNat - 1, by omega, by omega, by simp [halfL, h], by simp [halfC, h], by simp [halfN', h]⟩
theorem half_no {n : Int} (h : inB n 1 8 = false) : halfL n = [] ∧ halfC n = 2 ∧ halfN' n = 0 := by simp [halfL, halfC, halfN', h]
end Go.Proofs.Ytnbpkbkgbpfomaa
