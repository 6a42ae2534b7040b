/- Half turns. Conditions: as each theorem says. -/
import Derived.Test.YtnbpkbkgbpfomaaV5
namespace Go.Proofs.Ytnbpkbkgbpfomaa
open Go.RowKit
set_option linter.unusedSimpArgs false
set_option linter.unusedVariables false
/-- i, i + 1, .. (c numbers) -/
def rowR (i : Nat) : Nat → List Int
  | 0 => []
  | c + 1 => (i : Int) :: rowR (i + 1) c
/-- the letters of the half turn of k + 1 strands -/
def halfW : Nat → List Int
  | 0 => []
  | k + 1 => rowR 1 (k + 1) ++ halfW k
theorem rowR_length : ∀ (c i : Nat), (rowR i c).length = c
  | 0, i => rfl
  | c + 1, i => by simp [rowR, rowR_length c]
theorem halfW_le : ∀ k : Nat, k ≤ 7 → (halfW k).length ≤ 7 * k
  | 0, _ => by simp [halfW]
  | k + 1, h => by
    have := halfW_le k (by omega)
    simp only [halfW, List.length_append, rowR_length]
    omega
theorem row_step {l r t : List Int} {i c : Nat} (h : l ++ (rowR i (c + 1) ++ r) = t) : (l ++ [(i : Int)]) ++ (rowR (i + 1) c ++ r) = t := by
  rw [← h]; simp [rowR]
theorem row_end {l r t : List Int} {i : Nat} (h : l ++ (rowR i 0 ++ r) = t) : l ++ r = t := by
  rw [← h]; simp [rowR]
theorem half_step {l t : List Int} {k : Nat} (hk : 0 < k) (h : l ++ halfW k = t) : l ++ (rowR 1 k ++ halfW (k - 1)) = t := by
  obtain ⟨p, rfl⟩ : ∃ p, k = p + 1 := ⟨k - 1, by omega⟩
  exact h
theorem le_of_total {l r t : List Int} {m : Nat} (h : l ++ r = t) (ht : t.length ≤ m) : l.length ≤ m := by
  have := congrArg List.length h
  rw [List.length_append] at this
  omega
end Go.Proofs.Ytnbpkbkgbpfomaa
