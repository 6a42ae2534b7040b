/- The functions of simple braids that join those of the first text. Conditions: as each theorem says. -/
import Derived.Test.YtcfofdjdbojadaaS1
namespace Go.Proofs.Ytcfofdjdbojadaa
open Go.RowKit
set_option linter.unusedSimpArgs false
set_option linter.unusedVariables false
set_option maxHeartbeats 400000 in
theorem eqSimple_same (f : Nat → Int) (w : World) : Calls Try.prog 39 #[.agg (arrF .u8 8 f), .agg (arrF .u8 8 f)] w fun e w' => e = .returned (.bool true) ∧ Below w.heap.size w w' := by
  go_enter Try.func39, Try.ntmps39
  go_wp2
  go_loopw [5] (fun s wr => ∃ k d : Nat, k ≤ 8 ∧ s = .int .i64 k ∧ wr = plus ((w.alloc (.cells (arrF .u8 8 f) 44)).alloc (.cells (arrF .u8 8 f) 44)) [] d) (fun s _ => (8 - intOf s).toNat)
  case atStart => exact ⟨0, _, by omega, rfl, (plus_nil _).symm⟩
  case round =>
    obtain ⟨k, d, hk, rfl, rfl⟩ := hrel
    by_cases hlt : k < 8
    · go_wp2
      go_quiet (fail)
      go_wp2
      go_roundw
      case rel => exact ⟨k + 1, _, by omega, by go_num, rfl⟩
      case measure => simp [intOf]; omega
    · obtain rfl : k = 8 := by omega
      go_wp2
      go_ret
      exact ⟨rfl, by (repeat (first | (with_reducible exact Below.refl _ _) | (with_reducible assumption) | (with_reducible refine below_plus' ?_ ?_; ((try simp only [plus_size, World.size_alloc, World.size_drew, World.size_setCell, size_setRow, World.heap_drewN, List.length_append]) <;> omega)) | (with_reducible refine below_alloc' ?_ ?_; ((try simp only [plus_size, World.size_alloc, World.size_drew, World.size_setCell, size_setRow, World.heap_drewN, List.length_append]) <;> omega)) | with_reducible refine Below.drew ?_ | exact Below.refl _ _))⟩
/-- what HalfTurn answers -/
def halfR (n : Int) : Value := .tuple #[.agg (arrF .u8 8 (up (if inB n 1 8 then halfN n.toNat n.toNat else zeroN))), .int .i64 (if inB n 1 8 then 0 else 2)]
theorem halfR_no {n : Int} (h : inB n 1 8 = false) : halfR n = .tuple #[.agg (arrF .u8 8 (up zeroN)), .int .i64 2] := by simp [halfR, h]
theorem halfR_yes {n : Nat} (h : inB n 1 8 = true) : halfR n = .tuple #[.agg (arrF .u8 8 (up (halfN n n))), .int .i64 0] := by simp [halfR, h]
end Go.Proofs.Ytcfofdjdbojadaa
