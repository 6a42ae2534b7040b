/- The letters that begin a simple braid. Conditions: as each theorem says. -/
import Derived.Test.YtemegeiolpkapaaS6
import Derived.Test.YtemegeiolpkapaaS1
namespace Go.Proofs.Ytemegeiolpkapaa
open Go.RowKit
set_option linter.unusedSimpArgs false
set_option linter.unusedVariables false
theorem infoI : (Try.prog.info? 2).map (fun i => (i.zero, i.size, i.bytes)) = some (some (.int .i64 0), 1, 8) := by kernel_rfl
set_option maxHeartbeats 400000 in
theorem begins_any (s : Nat → Nat) (i : Nat) (w : World) (h1 : 1 ≤ i) (h8 : i < 8) : Calls Try.prog 82 #[.agg (arrF .u8 8 (up s)), .int .i64 i] w fun e w' => e = .returned (.bool (decide (s i < s (i - 1)))) ∧ Below w.heap.size w w' := by
  obtain ⟨k, rfl⟩ : ∃ k, i = k + 1 := ⟨i - 1, by omega⟩
  have hk : k < 8 := by omega
  simp only [Nat.add_sub_cancel]
  go_enter Try.func82, Try.ntmps82
  go_wp2
  go_quiet (fail)
  go_wp2
  go_ret
  exact ⟨by simp, by (repeat (first | (with_reducible exact Below.refl _ _) | (with_reducible assumption) | (with_reducible refine below_plus' ?_ ?_; ((try simp only [plus_size, World.size_alloc, World.size_drew, World.size_setCell, size_setRow, World.heap_drewN, List.length_append]) <;> omega)) | (with_reducible refine below_alloc' ?_ ?_; ((try simp only [plus_size, World.size_alloc, World.size_drew, World.size_setCell, size_setRow, World.heap_drewN, List.length_append]) <;> omega)) | with_reducible refine Below.drew ?_ | (with_reducible refine below_drewN' ?_ _) | exact Below.refl _ _))⟩
set_option maxHeartbeats 400000 in
theorem impl_beginning (s : Nat → Nat) (n : Nat) (w : World) (h1 : 1 ≤ n) (h2 : n ≤ 8) : Calls Try.prog 78 #[.agg (arrF .u8 8 (up s)), .int .i64 n] w (RetInts 2 w (begK s n)) := by
  go_enter Try.func78, Try.ntmps78
  go_wp2
  go_loopw [5, 6] (fun v sl wr => ∃ (v0 : Value) (k : Nat) (j : List Obj) (d : Nat), v0 = v ∧ 1 ≤ k ∧ k ≤ n ∧ sl = .int .i64 k ∧ wr = plus (w.alloc (.cells (arrF .u8 8 (up s)) 25)) j d ∧ own 2 (plus (w.alloc (.cells (arrF .u8 8 (up s)) 25)) j d) (w.alloc (.cells (arrF .u8 8 (up s)) 25)).heap.size v0 (begK s k)) (fun _ sl _ => n - (intOf sl).toNat)
  case atStart =>
    refine ⟨_, 1, [.cells #[] 2], w.drawn, rfl, by omega, h1, rfl, rfl, ?_⟩
    rw [begK_one]
    exact own_start
  case round =>
    obtain ⟨v, k, j, d, rfl, hk1, hkn, rfl, rfl, hown⟩ := hrel
    have hl := begK_length s k
    by_cases hlt : k < n
    · have hk8 : k < 8 := by omega
      have hkm : k - 1 < 8 := by omega
      by_cases hd : s k < s (k - 1)
      · have HB := Lib.hid (begK_yes hk1 hd)
        go_wp2_with (first | (go_at_call 82; refine (begins_any _ _ _ (by omega) (by omega)).mono ?_; rintro e w' ⟨rfl, hB⟩; replace hown := hown.kept hB; obtain ⟨j2, d2, rfl⟩ := plus_of_below hB; clear hB; rw [plus_plus] at hown ⊢) | ((with_reducible apply wpList_load_arr rfl 25 _ rfl _ rfl 8 5 Try.underlying25 info25); (repeat (first | (refine heap_at _ _ _ ?_; ((try simp only [plus_size, World.size_alloc, World.size_drew, World.size_setCell, size_setRow, World.heap_drewN, List.length_append]) <;> omega)) | (refine heap_past' ?_ ?_; ((try simp only [plus_size, World.size_alloc, World.size_drew, World.size_setCell, size_setRow, World.heap_drewN, List.length_append]) <;> omega)) | (refine heap_plus' ?_ ?_; ((try simp only [plus_size, World.size_alloc, World.size_drew, World.size_setCell, size_setRow, World.heap_drewN, List.length_append]) <;> omega)) | assumption)); (simp only [arrF_size, arrO_size])) | (at_builtin; go_loud (refine wpList_append1p rfl _ _ 34 rfl Try.underlying34 infoI _ rfl _ rfl ?_ hown ?_ ?_; ((try simp only [plus_size, World.size_alloc, World.size_drew, World.size_setCell, size_setRow, World.heap_drewN, List.length_append]) <;> omega); (omega); intro v' j' d' hown'; clear hown)))
        go_roundw
        case rel => exact ⟨_, k + 1, _, _, rfl, by omega, by omega, by go_num, rfl, by rw [← HB.out]; exact hown'⟩
        case measure => simp [intOf]; omega
      · have HB := Lib.hid (begK_no hd)
        go_wp2_with (first | (go_at_call 82; refine (begins_any _ _ _ (by omega) (by omega)).mono ?_; rintro e w' ⟨rfl, hB⟩; replace hown := hown.kept hB; obtain ⟨j2, d2, rfl⟩ := plus_of_below hB; clear hB; rw [plus_plus] at hown ⊢) | ((with_reducible apply wpList_load_arr rfl 25 _ rfl _ rfl 8 5 Try.underlying25 info25); (repeat (first | (refine heap_at _ _ _ ?_; ((try simp only [plus_size, World.size_alloc, World.size_drew, World.size_setCell, size_setRow, World.heap_drewN, List.length_append]) <;> omega)) | (refine heap_past' ?_ ?_; ((try simp only [plus_size, World.size_alloc, World.size_drew, World.size_setCell, size_setRow, World.heap_drewN, List.length_append]) <;> omega)) | (refine heap_plus' ?_ ?_; ((try simp only [plus_size, World.size_alloc, World.size_drew, World.size_setCell, size_setRow, World.heap_drewN, List.length_append]) <;> omega)) | assumption)); (simp only [arrF_size, arrO_size])))
        go_roundw
        case rel => exact ⟨_, k + 1, _, _, rfl, by omega, by omega, by go_num, rfl, by rw [← HB.out]; exact hown⟩
        case measure => simp [intOf]; omega
    · obtain rfl : k = n := by omega
      go_wp2
      go_ret
      exact ⟨v, rfl, by (repeat (first | (with_reducible exact Below.refl _ _) | (with_reducible assumption) | (with_reducible refine below_plus' ?_ ?_; ((try simp only [plus_size, World.size_alloc, World.size_drew, World.size_setCell, size_setRow, World.heap_drewN, List.length_append]) <;> omega)) | (with_reducible refine below_alloc' ?_ ?_; ((try simp only [plus_size, World.size_alloc, World.size_drew, World.size_setCell, size_setRow, World.heap_drewN, List.length_append]) <;> omega)) | with_reducible refine Below.drew ?_ | (with_reducible refine below_drewN' ?_ _) | exact Below.refl _ _)), hown.mono (by ((try simp only [plus_size, World.size_alloc, World.size_drew, World.size_setCell, size_setRow, World.heap_drewN, List.length_append]) <;> omega))⟩
set_option maxHeartbeats 400000 in
theorem spec_begins (s : Nat → Nat) (n : Nat) (w : World) (h1 : 1 ≤ n) (h2 : n ≤ 8) : Calls Try.prog 79 #[.agg (arrF .u8 8 (up s)), .int .i64 n] w (RetInts 2 w (begK s n)) := by
  go_enter Try.func79, Try.ntmps79
  go_wp2
  go_loopw [5, 6] (fun v sl wr => ∃ (v0 : Value) (k : Nat) (j : List Obj) (d : Nat), v0 = v ∧ 1 ≤ k ∧ k ≤ n ∧ sl = .int .i64 k ∧ wr = plus (w.alloc (.cells (arrF .u8 8 (up s)) 25)) j d ∧ own 2 (plus (w.alloc (.cells (arrF .u8 8 (up s)) 25)) j d) (w.alloc (.cells (arrF .u8 8 (up s)) 25)).heap.size v0 (begK s k)) (fun _ sl _ => n - (intOf sl).toNat)
  case atStart =>
    refine ⟨_, 1, [.cells #[] 2], w.drawn, rfl, by omega, h1, rfl, rfl, ?_⟩
    rw [begK_one]
    exact own_start
  case round =>
    obtain ⟨v, k, j, d, rfl, hk1, hkn, rfl, rfl, hown⟩ := hrel
    have hl := begK_length s k
    by_cases hlt : k < n
    · have hk8 : k < 8 := by omega
      have hkm : k - 1 < 8 := by omega
      by_cases hd : s k < s (k - 1)
      · have HB := Lib.hid (begK_yes hk1 hd)
        go_wp2
        go_quiet (fail)
        go_wp2_with (first | (at_builtin; go_loud (refine wpList_append1p rfl _ _ 34 rfl Try.underlying34 infoI _ rfl _ rfl ?_ hown ?_ ?_; ((try simp only [plus_size, World.size_alloc, World.size_drew, World.size_setCell, size_setRow, World.heap_drewN, List.length_append]) <;> omega); (omega); intro v' j' d' hown'; clear hown)))
        go_roundw
        case rel => exact ⟨_, k + 1, _, _, rfl, by omega, by omega, by go_num, rfl, by rw [← HB.out]; exact hown'⟩
        case measure => simp [intOf]; omega
      · have HB := Lib.hid (begK_no hd)
        go_wp2
        go_quiet (fail)
        go_wp2
        go_roundw
        case rel => exact ⟨_, k + 1, _, _, rfl, by omega, by omega, by go_num, rfl, by rw [← HB.out]; exact hown⟩
        case measure => simp [intOf]; omega
    · obtain rfl : k = n := by omega
      go_wp2
      go_ret
      exact ⟨v, rfl, by (repeat (first | (with_reducible exact Below.refl _ _) | (with_reducible assumption) | (with_reducible refine below_plus' ?_ ?_; ((try simp only [plus_size, World.size_alloc, World.size_drew, World.size_setCell, size_setRow, World.heap_drewN, List.length_append]) <;> omega)) | (with_reducible refine below_alloc' ?_ ?_; ((try simp only [plus_size, World.size_alloc, World.size_drew, World.size_setCell, size_setRow, World.heap_drewN, List.length_append]) <;> omega)) | with_reducible refine Below.drew ?_ | (with_reducible refine below_drewN' ?_ _) | exact Below.refl _ _)), hown.mono (by ((try simp only [plus_size, World.size_alloc, World.size_drew, World.size_setCell, size_setRow, World.heap_drewN, List.length_append]) <;> omega))⟩
end Go.Proofs.Ytemegeiolpkapaa
