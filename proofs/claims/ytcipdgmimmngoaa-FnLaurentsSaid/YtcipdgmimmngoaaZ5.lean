/- Wide numbers that are small. Conditions: as each theorem says. -/
import Derived.Test.YtcipdgmimmngoaaZ4
namespace Go.Proofs.Ytcipdgmimmngoaa
open Go.RowKit
set_option linter.unusedSimpArgs false
set_option linter.unusedVariables false
theorem wrap_wrd0 (x : Int) : wrap64 (wrd x 0) = wrap64 x := by
  simp only [wrap64, wrd, qt]
  omega
theorem wrap_fits (x : Int) : -9223372036854775808 ≤ wrap64 x ∧ wrap64 x < 9223372036854775808 := by
  unfold wrap64; omega
/-- does it fit into 64 bits? -/
def fitB (x : Int) : Bool := decide (-9223372036854775808 ≤ x ∧ x < 9223372036854775808)
theorem small_eq {x : Int} (h1 : -57896044618658097711785492504343953926634992332820282019728792003956564819968 ≤ x) (h2 : x < 57896044618658097711785492504343953926634992332820282019728792003956564819968) : ((List.range 4).all fun i => wrd (wrap64 x) i == wrd x i) = fitB x := by
  have hf := wrap_fits x
  rw [Bool.eq_iff_iff]
  simp only [List.all_eq_true, List.mem_range, beq_iff_eq, fitB, decide_eq_true_eq]
  constructor
  · intro h
    have e := wrd_inj (by omega) (by omega) h1 h2 h
    omega
  · intro h i hi
    rw [show wrap64 x = x by unfold wrap64; omega]
end Go.Proofs.Ytcipdgmimmngoaa
