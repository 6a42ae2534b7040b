/- Braids joined; half turns. Conditions: as each theorem says. -/
import Derived.Test.YtnbpkbkgbpfomaaV3
import Derived.Test.YtnbpkbkgbpfomaaI3
namespace Go.Proofs.Ytnbpkbkgbpfomaa
open Go.RowKit
set_option linter.unusedSimpArgs false
set_option linter.unusedVariables false
set_option maxHeartbeats 400000 in
theorem l01Own_any (v : Value) (xs : List Int) (w : World) (h : reads w v xs) (hlen : xs.length ≤ 1000000000) : Calls Try.prog 35 #[v] w (RetInts 2 w xs) := by
  have Hr := Lib.hid (fun w' (hb : Below w.heap.size w w') => h.kept hb)
  clear h
  go_enter Try.func35, Try.ntmps35
  go_wp2_with (first | (at_builtin; go_loud (refine wpList_appendL rfl _ _ 22 rfl 2 Try.underlying22 infoI w.heap.size _ _ [] xs rfl rfl (own_made (Nat.le_refl _) (by decide) rfl) (Hr.out _ (by (repeat (first | (with_reducible exact Below.refl _ _) | (with_reducible assumption) | (with_reducible refine below_plus' ?_ ?_; ((try simp only [plus_size, World.size_alloc, World.size_drew, World.size_setCell, size_setRow, World.heap_drewN, List.length_append]) <;> omega)) | (with_reducible refine below_alloc' ?_ ?_; ((try simp only [plus_size, World.size_alloc, World.size_drew, World.size_setCell, size_setRow, World.heap_drewN, List.length_append]) <;> omega)) | with_reducible refine Below.drew ?_ | (with_reducible refine below_drewN' ?_ _) | exact Below.refl _ _)))) (by simp; omega) (by ((try simp only [plus_size, World.size_alloc, World.size_drew, World.size_setCell, size_setRow, World.heap_drewN, List.length_append]) <;> omega)) ?_; intro v' w' hown' hgr hB; replace hB := Below.trans (show Below w.heap.size w _ by (repeat (first | (with_reducible exact Below.refl _ _) | (with_reducible assumption) | (with_reducible refine below_plus' ?_ ?_; ((try simp only [plus_size, World.size_alloc, World.size_drew, World.size_setCell, size_setRow, World.heap_drewN, List.length_append]) <;> omega)) | (with_reducible refine below_alloc' ?_ ?_; ((try simp only [plus_size, World.size_alloc, World.size_drew, World.size_setCell, size_setRow, World.heap_drewN, List.length_append]) <;> omega)) | with_reducible refine Below.drew ?_ | (with_reducible refine below_drewN' ?_ _) | exact Below.refl _ _))) hB; obtain ⟨j, d, rfl⟩ := plus_of_below hB; clear hB hgr)))
  go_ret
  exact ⟨_, rfl, by (repeat (first | (with_reducible exact Below.refl _ _) | (with_reducible assumption) | (with_reducible refine below_plus' ?_ ?_; ((try simp only [plus_size, World.size_alloc, World.size_drew, World.size_setCell, size_setRow, World.heap_drewN, List.length_append]) <;> omega)) | (with_reducible refine below_alloc' ?_ ?_; ((try simp only [plus_size, World.size_alloc, World.size_drew, World.size_setCell, size_setRow, World.heap_drewN, List.length_append]) <;> omega)) | with_reducible refine Below.drew ?_ | (with_reducible refine below_drewN' ?_ _) | exact Below.refl _ _)), by simpa using hown'⟩
end Go.Proofs.Ytnbpkbkgbpfomaa
