/- The laws of IsPositive and IsCentral. Conditions: as each theorem says. -/
import Derived.Test.YtcfofdjdbojadaaN6
namespace Go.Proofs.Ytcfofdjdbojadaa
open Go.RowKit
set_option linter.unusedSimpArgs false
set_option linter.unusedVariables false
/-- true or false beside a code -/
def rBN (b x : Bool) : Value := .tuple #[.bool (b && x), .int .i64 (if b then 0 else 1)]
theorem rBN_no (x) : rBN false x = .tuple #[.bool false, .int .i64 1] := rfl
theorem rBN_yes (x) : rBN true x = .tuple #[.bool x, .int .i64 0] := by cases x <;> rfl
theorem nf_two {n : Nat} {s : Nat → Nat → Nat} {i : Nat} (h1 : 1 ≤ n) (h : n ≤ 2) : nfAt n s i = false := by
  cases hok : okB n (s i) with
  | false => exact nf_ok hok
  | true =>
    obtain ⟨k, e, _, h8, hg⟩ := okB_true hok
    obtain rfl : n = k := by omega
    have z : ∀ j, n ≤ j → j < 8 → s i j = 0 := good_zero_of hg
    have l := good_le h8 hg
    by_cases h0 : s i 0 = 0
    · apply nf_id
      simp only [eqS, List.all_eq_true, List.mem_range, beq_iff_eq]
      intro j hj
      unfold idK
      by_cases hj2 : j < n
      · rw [if_pos hj2]
        by_cases hj0 : j = 0
        · subst hj0; exact h0
        · obtain rfl : j = 1 := by omega
          have l1 := l 1 hj2
          have h3 : s i 0 ≠ s i 1 := fun e => by have := good_inj h8 hg 0 1 (by omega) hj2 e; omega
          omega
      · rw [if_neg hj2]; exact z j (by omega) hj
    · apply nf_half
      have l0 := l 0 (by omega)
      obtain rfl : n = 2 := by omega
      have l1 := l 1 (by omega)
      have h3 : s i 0 ≠ s i 1 := fun e => by have := good_inj h8 hg 0 1 (by omega) (by omega) e; omega
      simp only [eqS, List.all_eq_true, List.mem_range, beq_iff_eq]
      intro j hj
      unfold halfN
      by_cases hj2 : j < 2
      · rw [if_pos hj2]
        by_cases hj0 : j = 0
        · subst hj0; omega
        · obtain rfl : j = 1 := by omega
          omega
      · rw [if_neg hj2]; exact z j (by omega) hj
/-- commutes with all -/
def cenB (n z : Int) (m : Nat) : Bool := decide (m = 0 ∧ (z.tmod 2 = 0 ∨ n < 3))
theorem okN_two {n z : Int} {m : Nat} {s : Nat → Nat → Nat} (h : okN n z m s = true) (h2 : n ≤ 2) : m = 0 := by
  obtain ⟨k, rfl, h1, _, _, _, _, h5⟩ := okN_true h
  by_cases h0 : m = 0
  · exact h0
  · have := h5 0 (by omega)
    rw [nf_two h1 (by omega)] at this; cases this
end Go.Proofs.Ytcfofdjdbojadaa
