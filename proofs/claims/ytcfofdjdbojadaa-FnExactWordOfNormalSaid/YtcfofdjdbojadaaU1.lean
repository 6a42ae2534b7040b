/- Braids as words: what lies at the ground. Conditions: as each theorem says. -/
import Derived.Test.YtcfofdjdbojadaaP2
import Derived.Test.YtcfofdjdbojadaaS6
import Derived.Test.YtcfofdjdbojadaaI2
import Derived.Test.YtcfofdjdbojadaaReg
import Derived.Test.YtcfofdjdbojadaaGi
import Derived.Test.YtcfofdjdbojadaaProg
import Derived.KernelRfl
namespace Go.Proofs.Ytcfofdjdbojadaa
open Go.RowKit
set_option linter.unusedSimpArgs false
set_option linter.unusedVariables false
theorem infoI : (Try.prog.info? 2).map (fun i => (i.zero, i.size, i.bytes)) = some (some (.int .i64 0), 1, 8) := by kernel_rfl
theorem within_any (n lo hi : Int) (w : World) : Calls Try.prog 34 #[.int .i64 n, .int .i64 lo, .int .i64 hi] w fun e w' => e = .returned (.bool (inB n lo hi)) ∧ w = w' := by
  go_enter Try.func34, Try.ntmps34
  go_wp2
  all_goals go_ret
  · exact ⟨by simp [inB]; omega, rfl⟩
  · exact ⟨by simp [inB]; omega, rfl⟩
theorem l01In_any (n lo hi : Int) (w : World) : Calls Try.prog 26 #[.int .i64 n, .int .i64 lo, .int .i64 hi] w fun e w' => e = .returned (.bool (inB n lo hi)) ∧ w = w' := by
  go_enter Try.func26, Try.ntmps26
  go_wp2
  all_goals go_ret
  · exact ⟨by simp [inB]; omega, rfl⟩
  · exact ⟨by simp [inB]; omega, rfl⟩
theorem isCount_any (n : Int) (w : World) : Calls Try.prog 33 #[.int .i64 n] w fun e w' => e = .returned (.bool (inB n 1 8)) ∧ w = w' := by
  go_enter Try.func33, Try.ntmps33
  go_wp2_with (first | (go_at_call 34; refine (within_any _ _ _ _).mono ?_; rintro e w' ⟨rfl, rfl⟩))
  go_ret
  exact ⟨rfl, rfl⟩
/-- a letter, or an inverse one, of n strands -/
def isL (x n : Int) : Bool := decide (x ≠ 0 ∧ 1 - n ≤ x ∧ x ≤ n - 1)
/-- a braid -/
def okW (n : Int) (xs : List Int) : Bool := inB n 1 8 && decide (xs.length ≤ 200 ∧ ∀ i, i < xs.length → isL (nth xs i) n = true)
theorem okW_out {n xs} (h : inB n 1 8 = false) : okW n xs = false := by simp [okW, h]
theorem okW_long {n} {xs : List Int} (h : ¬ xs.length ≤ 200) : okW n xs = false := by simp [okW, h]
theorem okW_bad {n} {xs : List Int} {k : Nat} (hk : k < xs.length) (h : isL (nth xs k) n = false) : okW n xs = false := by
  simp only [okW, Bool.and_eq_false_iff, decide_eq_false_iff_not]
  right
  rintro ⟨_, h2⟩
  rw [h2 k hk] at h; cases h
theorem okW_good {n xs} (h1 : inB n 1 8 = true) (h2 : xs.length ≤ 200) (h3 : ∀ i, i < xs.length → isL (nth xs i) n = true) : okW n xs = true := by
  simp only [okW, h1, Bool.true_and, decide_eq_true_eq]
  exact ⟨h2, h3⟩
theorem okW_true {n xs} (h : okW n xs = true) : ∃ m : Nat, n = m ∧ 1 ≤ m ∧ m ≤ 8 ∧ xs.length ≤ 200 ∧ ∀ i, i < xs.length → isL (nth xs i) n = true := by
  simp only [okW, Bool.and_eq_true, decide_eq_true_eq] at h
  have := inB_true h.1
  exact ⟨n.toNat, by omega, by omega, by omega, h.2.1, h.2.2⟩
end Go.Proofs.Ytcfofdjdbojadaa
