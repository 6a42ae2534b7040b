/- Strands of a braid, by the reference. Conditions: as each theorem says. -/
import Derived.Test.YtgkpdklkeajipaaGreatDoorVd
import Derived.Test.YtgkpdklkeajipaaGreatDoorP6
namespace Go.Proofs.YtgkpdklkeajipaaGreatDoor
open Go.RowKit
set_option linter.unusedSimpArgs false
set_option linter.unusedVariables false
/-- the letters' sizes -/
def absL (xs : List Int) : List Int := xs.map fun x => (x.natAbs : Int)
theorem absL_length (xs : List Int) : (absL xs).length = xs.length := by simp [absL]
theorem nth_absL {xs : List Int} {k : Nat} (h : k < xs.length) : nth (absL xs) k = ((nth xs k).natAbs : Int) := by simp [nth, absL, h]
theorem okW_let {n : Int} {xs : List Int} (h : okW n xs = true) : LetK n.toNat (absL xs) xs.length := by
  obtain ⟨m, rfl, h1, h8, _, h2⟩ := okW_true h
  intro j hj
  rw [nth_absL hj]
  have := h2 j hj
  simp only [isL, decide_eq_true_eq] at this
  omega
/-- a letter: its size, and its sign -/
theorem letter_cases {m : Nat} {xs : List Int} {k : Nat} (hl : LetK m (absL xs) xs.length) (hk : k < xs.length) : ∃ p : Nat, p + 1 < m ∧ (nth xs k = (p : Int) + 1 ∨ nth xs k = -((p : Int) + 1)) ∧ ∀ j, seqK m (absL xs) (k + 1) j = swapK (seqK m (absL xs) k) (p + 1) j := by
  have h := hl k hk
  rw [nth_absL hk] at h
  refine ⟨(nth xs k).natAbs - 1, by omega, by omega, fun j => ?_⟩
  show swapK (seqK m (absL xs) k) (nth (absL xs) k).toNat j = _
  rw [nth_absL hk]
  congr 1
  omega
theorem swap_steps (c : Nat → Nat) (p : Nat) : updN (updN c (p + 1) (c p)) p (c (p + 1)) = swapK c (p + 1) := by
  funext j
  simp only [swapK_at, updN, Nat.add_sub_cancel]
  by_cases h1 : j = p
  · subst h1
    have : ¬ j = j + 1 := by omega
    simp [this]
  · simp [h1]
end Go.Proofs.YtgkpdklkeajipaaGreatDoor
