/- Wide numbers of small ones. Conditions: as each theorem says. -/
import Derived.Test.YtcipdgmimmngoaaZ2
namespace Go.Proofs.Ytcipdgmimmngoaa
open Go.RowKit
set_option linter.unusedSimpArgs false
set_option linter.unusedVariables false
@[go_sem] theorem arrF_first4 (k : IntKind) (a : Int) : (#[.int k a, .int k 0, .int k 0, .int k 0] : Array Value) = arrF k 4 (upd zeroF 0 a) := by
  apply Array.ext'
  simp [arrF, upd, zeroF, List.range_succ]
@[go_sem] theorem upd_zeroF : upd zeroF 0 0 = zeroF := by
  funext i
  unfold upd zeroF
  split <;> rfl
set_option maxHeartbeats 1000000 in
theorem wideOf_any (x : Int) (w : World) (h1 : -9223372036854775808 ≤ x) (h2 : x < 9223372036854775808) : Calls Try.prog 53 #[.int .i64 x] w fun e w' => e = .returned (.agg (arrF .u64 4 (wrd x))) ∧ Below w.heap.size w w' := by
  go_enter Try.func53, Try.ntmps53
  go_wp2_with (first | ((with_reducible apply wpList_store_arr rfl rfl 68 _ _ rfl _ rfl _ rfl 4 info68); (repeat (first | (refine heap_at _ _ _ ?_; ((try simp only [plus_size, World.size_alloc, World.size_drew, World.size_setCell, size_setRow, World.heap_drewN, List.length_append]) <;> omega)) | (refine heap_past' ?_ ?_; ((try simp only [plus_size, World.size_alloc, World.size_drew, World.size_setCell, size_setRow, World.heap_drewN, List.length_append]) <;> omega)) | (refine heap_plus' ?_ ?_; ((try simp only [plus_size, World.size_alloc, World.size_drew, World.size_setCell, size_setRow, World.heap_drewN, List.length_append]) <;> omega)) | assumption)); (simp only [arrF_size, arrO_size]); (simp only [arrF_size, arrO_size]); (first | exact arrF_one _ _ _ | exact arrO_one _ _); (repeat (first | (refine setRow_at' ?_; ((try simp only [plus_size, World.size_alloc, World.size_drew, World.size_setCell, size_setRow, World.heap_drewN, List.length_append]) <;> omega)) | (apply setRow_past'; ((try simp only [plus_size, World.size_alloc, World.size_drew, World.size_setCell, size_setRow, World.heap_drewN, List.length_append]) <;> omega)) | (apply setRow_plus'; ((try simp only [plus_size, World.size_alloc, World.size_drew, World.size_setCell, size_setRow, World.heap_drewN, List.length_append]) <;> omega)) | exact rfl))))
  all_goals
    refine ret_arr rfl 4 66 Try.underlying68 info68 _ _ _ (0, 0) rfl (by (repeat (first | (refine heap_at _ _ _ ?_; ((try simp only [plus_size, World.size_alloc, World.size_drew, World.size_setCell, size_setRow, World.heap_drewN, List.length_append]) <;> omega)) | (refine heap_past' ?_ ?_; ((try simp only [plus_size, World.size_alloc, World.size_drew, World.size_setCell, size_setRow, World.heap_drewN, List.length_append]) <;> omega)) | (refine heap_plus' ?_ ?_; ((try simp only [plus_size, World.size_alloc, World.size_drew, World.size_setCell, size_setRow, World.heap_drewN, List.length_append]) <;> omega)) | assumption))) (by simp [arrF_size]) rfl ⟨congrArg (fun c => Ending.returned (.agg c)) (arrF_ext fun i hi => ?_), by (repeat (first | (with_reducible exact Below.refl _ _) | (with_reducible assumption) | (with_reducible refine below_plus' ?_ ?_; ((try simp only [plus_size, World.size_alloc, World.size_drew, World.size_setCell, size_setRow, World.heap_drewN, List.length_append]) <;> omega)) | (with_reducible refine below_alloc' ?_ ?_; ((try simp only [plus_size, World.size_alloc, World.size_drew, World.size_setCell, size_setRow, World.heap_drewN, List.length_append]) <;> omega)) | with_reducible refine Below.drew ?_ | (with_reducible refine below_drewN' ?_ _) | exact Below.refl _ _))⟩
    have hz := wrd_small h1 h2
    match i, hi with
    | 0, _ => simp [upd, zeroF, wrd, qt, IntKind.wrap, IntKind.min, IntKind.max, IntKind.bits, IntKind.signed]; try omega
    | 1, _ => rw [hz 0]; simp [upd, zeroF, *]
    | 2, _ => rw [hz 1]; simp [upd, zeroF, *]
    | 3, _ => rw [hz 2]; simp [upd, zeroF, *]
end Go.Proofs.Ytcipdgmimmngoaa
