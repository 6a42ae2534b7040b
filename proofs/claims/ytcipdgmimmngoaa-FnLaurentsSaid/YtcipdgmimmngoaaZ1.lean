/- Wide numbers. Conditions: as each theorem says. -/
import Derived.Test.YtcipdgmimmngoaaW5
import Derived.Laws.Externs
namespace Go.Proofs.Ytcipdgmimmngoaa
open Go.RowKit
set_option linter.unusedSimpArgs false
set_option linter.unusedVariables false
/-- x divided i times by 2^64 -/
def qt (x : Int) : Nat → Int
  | 0 => x
  | i + 1 => qt x i / 18446744073709551616
/-- the words of x -/
def wrd (x : Int) (i : Nat) : Int := qt x i % 18446744073709551616
theorem wrd_lt (x : Int) (i : Nat) : 0 ≤ wrd x i ∧ wrd x i < 18446744073709551616 := by unfold wrd; omega
theorem qt_add {x y c : Int} {i : Nat} (h : qt (x + y) i = qt x i + qt y i + c) : qt (x + y) (i + 1) = qt x (i + 1) + qt y (i + 1) + (wrd x i + wrd y i + c) / 18446744073709551616 ∧ wrd (x + y) i = (wrd x i + wrd y i + c) % 18446744073709551616 := by
  simp only [qt, wrd, h]
  constructor <;> omega
/-- the first i words of x; noughts behind them -/
def wrdK (x : Int) (k : Nat) : Nat → Int := fun i => if i < k then wrd x i else 0
theorem wrdK_zero (x : Int) : wrdK x 0 = zeroF := by funext i; simp [wrdK, zeroF]
theorem wrdK_succ (x : Int) (k : Nat) : upd (wrdK x k) k (wrd x k) = wrdK x (k + 1) := by
  funext i
  unfold upd wrdK
  by_cases h : i = k
  · subst h; simp
  · by_cases h2 : i < k
    · have : i < k + 1 := by omega
      simp [h, h2, this]
    · have : ¬ i < k + 1 := by omega
      simp [h, h2, this]
theorem wrdK_four (x : Int) : arrF .u64 4 (wrdK x 4) = arrF .u64 4 (wrd x) := arrF_ext fun i hi => by simp [wrdK, hi]
theorem qt_small {x : Int} (h1 : -9223372036854775808 ≤ x) (h2 : x < 9223372036854775808) : ∀ i, qt x (i + 1) = if x < 0 then -1 else 0 := by
  intro i
  induction i with
  | zero => simp only [qt]; split <;> omega
  | succ i ih => rw [qt, ih]; split <;> omega
theorem wrd_small {x : Int} (h1 : -9223372036854775808 ≤ x) (h2 : x < 9223372036854775808) (i : Nat) : wrd x (i + 1) = if x < 0 then 18446744073709551615 else 0 := by
  unfold wrd
  rw [qt_small h1 h2]
  split <;> rfl
theorem wrd_zero (i : Nat) : wrd 0 i = 0 := by
  cases i with
  | zero => rfl
  | succ i => rw [wrd_small (by decide) (by decide)]; rfl
/-- the words tell the number -/
theorem wrd_inj {x y : Int} (hx1 : -57896044618658097711785492504343953926634992332820282019728792003956564819968 ≤ x) (hx2 : x < 57896044618658097711785492504343953926634992332820282019728792003956564819968)
    (hy1 : -57896044618658097711785492504343953926634992332820282019728792003956564819968 ≤ y) (hy2 : y < 57896044618658097711785492504343953926634992332820282019728792003956564819968) (h : ∀ i, i < 4 → wrd x i = wrd y i) : x = y := by
  have h0 := h 0 (by decide)
  have h1 := h 1 (by decide)
  have h2 := h 2 (by decide)
  have h3 := h 3 (by decide)
  simp only [wrd, qt] at h0 h1 h2 h3
  omega
@[go_sem] theorem add64_call (x y c : Int) (hx : 0 ≤ x) (hy : 0 ≤ y) (hc0 : 0 ≤ c) (hc : c ≤ 1) (w : World) : (callFunc 61 #[.int .u64 x, .int .u64 y, .int .u64 c]).run Try.prog w = .ok (.value (.tuple #[.int .u64 ((x + y + c) % 18446744073709551616), .int .u64 ((x + y + c) / 18446744073709551616)])) w := by
  rw [run_callFunc_extern Try.func61 (by kernel_rfl) (by kernel_rfl) (by kernel_rfl) (e := add64Entry) (by kernel_rfl), run_add64 x y c hx hy hc0 hc]
  rfl
end Go.Proofs.Ytcipdgmimmngoaa
