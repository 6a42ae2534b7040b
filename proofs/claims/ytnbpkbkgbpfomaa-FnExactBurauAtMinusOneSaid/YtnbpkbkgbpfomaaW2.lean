/- Polynomials: is it one? Conditions: as each theorem says. -/
import Derived.Test.YtnbpkbkgbpfomaaU2
namespace Go.Proofs.Ytnbpkbkgbpfomaa
open Go.RowKit
set_option linter.unusedSimpArgs false
set_option linter.unusedVariables false
/-- every coefficient is within its limit -/
def allC (xs : List Int) : Bool := decide (∀ i, i < xs.length → inB (nth xs i) (-1000000000000) 1000000000000 = true)
theorem allC_bad {xs : List Int} {k : Nat} (hk : k < xs.length) (h : inB (nth xs k) (-1000000000000) 1000000000000 = false) : allC xs = false := by
  simp only [allC, decide_eq_false_iff_not]
  intro h2
  rw [h2 k hk] at h; cases h
theorem allC_good {xs : List Int} (h : ∀ i, i < xs.length → inB (nth xs i) (-1000000000000) 1000000000000 = true) : allC xs = true := by simpa [allC] using h
theorem allC_at {xs : List Int} (h : allC xs = true) {i : Nat} (hi : i < xs.length) : -1000000000000 ≤ nth xs i ∧ nth xs i ≤ 1000000000000 := by
  simp only [allC, decide_eq_true_eq] at h
  exact inB_true (h i hi)
/-- a polynomial -/
def okL (low : Int) (xs : List Int) : Bool := if xs.length = 0 then decide (low = 0) else decide (xs.length ≤ 2001) && inB low (-1000) 1000 && decide (low + xs.length - 1 ≤ 1000) && !decide (nth xs 0 = 0) && !decide (nth xs (xs.length - 1) = 0) && allC xs
theorem okL_0 {low : Int} {xs : List Int} (h : xs.length = 0) : okL low xs = decide (low = 0) := by simp [okL, h]
theorem okL_A {low : Int} {xs : List Int} (h0 : ¬ xs.length = 0) (h : ¬ xs.length ≤ 2001) : okL low xs = false := by simp only [okL, if_neg h0]; simp [h]
theorem okL_B {low : Int} {xs : List Int} (h0 : ¬ xs.length = 0) (h : inB low (-1000) 1000 = false) : okL low xs = false := by simp only [okL, if_neg h0]; simp [h]
theorem okL_C {low : Int} {xs : List Int} (h0 : ¬ xs.length = 0) (h : ¬ low + xs.length - 1 ≤ 1000) : okL low xs = false := by simp only [okL, if_neg h0]; simp [h]
theorem okL_D {low : Int} {xs : List Int} (h0 : ¬ xs.length = 0) (h : nth xs 0 = 0) : okL low xs = false := by simp only [okL, if_neg h0]; simp [h]
theorem okL_E {low : Int} {xs : List Int} {p : Nat} (h0 : xs.length = p + 1) (h : nth xs p = 0) : okL low xs = false := by
  have h1 : ¬ xs.length = 0 := by omega
  simp only [okL, if_neg h1, h0, Nat.add_sub_cancel]; simp [h]
theorem okL_G {low : Int} {xs : List Int} {p : Nat} (h0 : xs.length = p + 1) (hA : xs.length ≤ 2001) (hB : inB low (-1000) 1000 = true) (hC : low + xs.length - 1 ≤ 1000) (hD : ¬ nth xs 0 = 0) (hE : ¬ nth xs p = 0) : okL low xs = allC xs := by
  have h1 : ¬ xs.length = 0 := by omega
  have e : xs.length - 1 = p := by omega
  simp only [okL, if_neg h1, e]; simp [hA, hB, hC, hD, hE]
theorem okL_true {low : Int} {xs : List Int} (h : okL low xs = true) : xs.length ≤ 2001 ∧ -1000 ≤ low ∧ low ≤ 1000 ∧ allC xs = true := by
  by_cases h0 : xs.length = 0
  · rw [okL_0 h0, decide_eq_true_eq] at h
    exact ⟨by omega, by omega, by omega, allC_good fun i hi => by omega⟩
  · simp only [okL, if_neg h0, Bool.and_eq_true, decide_eq_true_eq] at h
    have := inB_true h.1.1.1.1.2
    exact ⟨h.1.1.1.1.1, this.1, this.2, h.2⟩
end Go.Proofs.Ytnbpkbkgbpfomaa
