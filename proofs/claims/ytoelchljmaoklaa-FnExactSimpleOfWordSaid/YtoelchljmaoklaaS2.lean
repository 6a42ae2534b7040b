/- The functions of simple braids that join those of the first text. Conditions: as each theorem says. -/
import Derived.Test.YtoelchljmaoklaaS1
namespace Go.Proofs.Ytoelchljmaoklaa
open Go.RowKit
set_option linter.unusedSimpArgs false
set_option linter.unusedVariables false
set_option maxHeartbeats 400000 in
theorem impl_upside (s : Nat → Nat) (n : Nat) (w : World) (h1 : 1 ≤ n) (h2 : n ≤ 8) (hs : ∀ i, i < n → s i < n) :
    Calls Try.prog 42 #[.agg (arrF .u8 8 (up s)), .int .i64 n] w fun e w' => e = .returned (.agg (arrF .u8 8 (up (thenK s (halfN n n) n)))) ∧ Below w.heap.size w w' := by
  have hs8 : ∀ i, i < n → s i < 8 := fun i hi => Nat.lt_of_lt_of_le (hs i hi) h2
  go_enter Try.func42, Try.ntmps42
  go_wp2
  refine region_plus_tail 5 (by kernel_rfl) (by kernel_rfl) ?_
  simp only [List.take_succ_cons, List.take_zero, List.drop_succ_cons, List.drop_zero]
  repeat (go_big_quiet_step (first | (go_at_call 53; exact calls_plus (impl_halfTurn _ _ h1 h2)) | (go_at_call 38; exact calls_plus (impl_then _ _ _ _ h1 h2 hs8))))
  refine wpQuiet_nil ?_
  intro _ hw'
  obtain ⟨q, hw''⟩ := hw'
  subst hw''
  rw [plusq_eq]
  generalize q.j = j
  generalize q.d = d
  clear q
  go_wp2_with (first | ((with_reducible apply wpList_store_arr rfl rfl 25 _ _ rfl _ rfl _ rfl 8 info25); (repeat (first | (refine heap_at _ _ _ ?_; ((try simp only [plus_size, World.size_alloc, World.size_drew, World.size_setCell, size_setRow, World.heap_drewN, List.length_append]) <;> omega)) | (refine heap_past' ?_ ?_; ((try simp only [plus_size, World.size_alloc, World.size_drew, World.size_setCell, size_setRow, World.heap_drewN, List.length_append]) <;> omega)) | (refine heap_plus' ?_ ?_; ((try simp only [plus_size, World.size_alloc, World.size_drew, World.size_setCell, size_setRow, World.heap_drewN, List.length_append]) <;> omega)) | assumption)); (simp only [arrF_size, arrO_size]); (simp only [arrF_size, arrO_size]); (first | exact arrF_one _ _ _ | exact arrO_one _ _); (repeat (first | (refine setRow_at' ?_; ((try simp only [plus_size, World.size_alloc, World.size_drew, World.size_setCell, size_setRow, World.heap_drewN, List.length_append]) <;> omega)) | (apply setRow_past'; ((try simp only [plus_size, World.size_alloc, World.size_drew, World.size_setCell, size_setRow, World.heap_drewN, List.length_append]) <;> omega)) | (apply setRow_plus'; ((try simp only [plus_size, World.size_alloc, World.size_drew, World.size_setCell, size_setRow, World.heap_drewN, List.length_append]) <;> omega)) | exact rfl))))
  exact ret_arr rfl 8 5 Try.underlying25 info25 _ _ _ (0, 0) rfl (by (repeat (first | (refine heap_at _ _ _ ?_; ((try simp only [plus_size, World.size_alloc, World.size_drew, World.size_setCell, size_setRow, World.heap_drewN, List.length_append]) <;> omega)) | (refine heap_past' ?_ ?_; ((try simp only [plus_size, World.size_alloc, World.size_drew, World.size_setCell, size_setRow, World.heap_drewN, List.length_append]) <;> omega)) | (refine heap_plus' ?_ ?_; ((try simp only [plus_size, World.size_alloc, World.size_drew, World.size_setCell, size_setRow, World.heap_drewN, List.length_append]) <;> omega)) | assumption))) (by simp [arrF_size]) rfl ⟨rfl, by (repeat (first | exact Below.refl _ _ | assumption | (refine below_plus' ?_ ?_; ((try simp only [plus_size, World.size_alloc, World.size_drew, World.size_setCell, size_setRow, World.heap_drewN, List.length_append]) <;> omega)) | (refine below_alloc' ?_ ?_; ((try simp only [plus_size, World.size_alloc, World.size_drew, World.size_setCell, size_setRow, World.heap_drewN, List.length_append]) <;> omega)) | refine Below.drew ?_))⟩
set_option maxHeartbeats 400000 in
theorem eqSimple_same (f : Nat → Int) (w : World) : Calls Try.prog 19 #[.agg (arrF .u8 8 f), .agg (arrF .u8 8 f)] w fun e w' => e = .returned (.bool true) ∧ Below w.heap.size w w' := by
  go_enter Try.func19, Try.ntmps19
  go_wp2
  go_loopw [5] (fun s wr => ∃ k d : Nat, k ≤ 8 ∧ s = .int .i64 k ∧ wr = plus ((w.alloc (.cells (arrF .u8 8 f) 25)).alloc (.cells (arrF .u8 8 f) 25)) [] d) (fun s _ => (8 - intOf s).toNat)
  case atStart => exact ⟨0, _, by omega, rfl, (plus_nil _).symm⟩
  case round =>
    obtain ⟨k, d, hk, rfl, rfl⟩ := hrel
    by_cases hlt : k < 8
    · go_wp2
      go_quiet (fail)
      go_wp2
      go_roundw
      case rel => exact ⟨k + 1, _, by omega, by go_num, rfl⟩
      case measure => simp [intOf]; omega
    · obtain rfl : k = 8 := by omega
      go_wp2
      go_ret
      exact ⟨rfl, by (repeat (first | exact Below.refl _ _ | assumption | (refine below_plus' ?_ ?_; ((try simp only [plus_size, World.size_alloc, World.size_drew, World.size_setCell, size_setRow, World.heap_drewN, List.length_append]) <;> omega)) | (refine below_alloc' ?_ ?_; ((try simp only [plus_size, World.size_alloc, World.size_drew, World.size_setCell, size_setRow, World.heap_drewN, List.length_append]) <;> omega)) | refine Below.drew ?_))⟩
/-- what HalfTurn answers -/
def halfR (n : Int) : Value := .tuple #[.agg (arrF .u8 8 (up (if inB n 1 8 then halfN n.toNat n.toNat else zeroN))), .int .i64 (if inB n 1 8 then 0 else 2)]
theorem halfR_no {n : Int} (h : inB n 1 8 = false) : halfR n = .tuple #[.agg (arrF .u8 8 (up zeroN)), .int .i64 2] := by simp [halfR, h]
theorem halfR_yes {n : Nat} (h : inB n 1 8 = true) : halfR n = .tuple #[.agg (arrF .u8 8 (up (halfN n n))), .int .i64 0] := by simp [halfR, h]
end Go.Proofs.Ytoelchljmaoklaa
