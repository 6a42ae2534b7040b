/- Lists of numbers: equal ones, marked ones, held marks. Conditions: as each theorem says. -/
import Derived.Test.YtemegeiolpkapaaIn
import Derived.Test.YtemegeiolpkapaaProg
import Derived.KernelRfl
namespace Go.Proofs.Ytemegeiolpkapaa
open Go.RowKit
set_option linter.unusedSimpArgs false
set_option linter.unusedVariables false
/-- k, k + 1, .. -/
def marks (k : Int) (n : Nat) : List Int := (List.range n).map fun (i : Nat) => k + (i : Int)
theorem marks_length (k n) : (marks k n).length = n := by simp [marks]
theorem nth_marks {k : Int} {n i : Nat} (h : i < n) : nth (marks k n) i = k + i := by simp [nth, marks, h]
/-- xs, its first i numbers marked -/
def marked (xs : List Int) (k : Int) (i : Nat) : List Int := (List.range xs.length).map fun j => if j < i then k + (j : Int) else nth xs j
theorem marked_length (xs k i) : (marked xs k i).length = xs.length := by simp [marked]
theorem nth_marked {xs k i j} (h : j < xs.length) : nth (marked xs k i) j = if j < i then k + (j : Int) else nth xs j := by
  show (marked xs k i).getD j 0 = _
  simp [marked, h]
theorem marked_zero (xs k) : marked xs k 0 = xs := by
  refine ext_nth (marked_length _ _ _) fun i hi => ?_
  rw [marked_length] at hi
  rw [nth_marked hi]; simp
theorem marked_all (xs k) : marked xs k xs.length = marks k xs.length := by
  refine ext_nth (by rw [marked_length, marks_length]) fun i hi => ?_
  rw [marked_length] at hi
  rw [nth_marked hi, nth_marks hi, if_pos hi]
theorem marked_set {xs : List Int} {k : Int} {i : Nat} (h : i < xs.length) : (marked xs k i).set i (k + i) = marked xs k (i + 1) := by
  refine ext_nth (by simp [marked_length]) fun j hj => ?_
  rw [List.length_set, marked_length] at hj
  rw [nth_marked hj]
  unfold nth
  by_cases e : i = j
  · subst e
    simp [marked_length, hj]
  · rw [List.getD_eq_getElem?_getD, List.getElem?_set_ne e, ← List.getD_eq_getElem?_getD]
    have := nth_marked (k := k) (i := i) hj
    unfold nth at this
    rw [this]
    by_cases h1 : j < i
    · have : j < i + 1 := by omega
      simp [h1, this]
    · have : ¬ j < i + 1 := by omega
      simp [h1, this]
end Go.Proofs.Ytemegeiolpkapaa
