/- Wide numbers that are small, by the program. Conditions: as each theorem says. -/
import Derived.Test.YtcipdgmimmngoaaZ5
namespace Go.Proofs.Ytcipdgmimmngoaa
open Go.RowKit
set_option linter.unusedSimpArgs false
set_option linter.unusedVariables false
@[go_sem] theorem arrF_wrd4 (x : Int) : (#[.int .u64 (wrd x 0), .int .u64 (wrd x 1), .int .u64 (wrd x 2), .int .u64 (wrd x 3)] : Array Value) = arrF .u64 4 (wrd x) := by
  apply Array.ext'
  simp [arrF, List.range_succ]
set_option maxHeartbeats 1000000 in
theorem small_any (x : Int) (w : World) (h1 : -57896044618658097711785492504343953926634992332820282019728792003956564819968 ≤ x) (h2 : x < 57896044618658097711785492504343953926634992332820282019728792003956564819968) : Calls Try.prog 57 #[.agg (arrF .u64 4 (wrd x))] w fun e w' => e = .returned (.tuple #[.int .i64 (wrap64 x), .bool (fitB x)]) ∧ Below w.heap.size w w' := by
  have hE := eql_arrF (P := Try.prog) (t := 68) (e := 66) (n := 4) (k := .u64) (ht := Try.underlying68) (he := Try.underlying66) (hsz := fun w => by simp [Try.sizeOf66]) (F := wrd (wrap64 x)) (G := wrd x)
  rw [small_eq h1 h2] at hE
  have hw0 := wrap_wrd0 x
  have hf := wrap_fits x
  have hlo := (wrd_lt x 0).1
  have hhi := (wrd_lt x 0).2
  clear h1 h2
  go_enter Try.func57, Try.ntmps57
  go_upto_region 2 with (fail)
  rw [hw0]
  refine region_plus (by kernel_rfl) (by kernel_rfl) ?_
  repeat (go_big_quiet_step (first | (go_at_call 53; exact calls_plus (wideOf_any _ _ hf.1 hf.2))))
  refine wpQuiet_nil ?_
  intro _ hw'
  obtain ⟨q, hw''⟩ := hw'
  subst hw''
  rw [plusq_eq]
  generalize q.j = j
  generalize q.d = d
  clear q
  go_wp2
  go_ret2
  exact ⟨rfl, by (repeat (first | (with_reducible exact Below.refl _ _) | (with_reducible assumption) | (with_reducible refine below_plus' ?_ ?_; ((try simp only [plus_size, World.size_alloc, World.size_drew, World.size_setCell, size_setRow, World.heap_drewN, List.length_append]) <;> omega)) | (with_reducible refine below_alloc' ?_ ?_; ((try simp only [plus_size, World.size_alloc, World.size_drew, World.size_setCell, size_setRow, World.heap_drewN, List.length_append]) <;> omega)) | with_reducible refine Below.drew ?_ | (with_reducible refine below_drewN' ?_ _) | exact Below.refl _ _))⟩
end Go.Proofs.Ytcipdgmimmngoaa
