/- Laws of lengths and beginnings of simple braids. Conditions: as each theorem says. -/
import Derived.Test.YtoelchljmaoklaaT2
namespace Go.Proofs.Ytoelchljmaoklaa
open Go.RowKit
set_option linter.unusedSimpArgs false
set_option linter.unusedVariables false
set_option maxHeartbeats 400000 in
theorem law_LengthOfSimple (s : Nat → Nat) (n : Int) (w : World) (hus : ∀ i, i < 8 → s i < 256) : Calls Try.prog 4 #[.agg (arrF .u8 8 (up s)), .int .i64 n] w fun e w' => e = .returned (.bool true) ∧ Below w.heap.size w w' := by
  obtain ⟨g, c, hR⟩ : ∃ g c, rInt (okB n s) ((lenK s n.toNat : Nat) : Int) = .tuple #[.int .i64 g, .int .i64 c] := ⟨_, _, rfl⟩
  have hi := fun w => impl_LengthOfSimple s n w hus
  have hp := fun w => spec_LengthOfSimple s n w hus
  rw [hR] at hi hp
  clear hR
  have Hi := Lib.hid hi
  have Hp := Lib.hid hp
  clear hi hp
  go_enter Try.func4, Try.ntmps4
  go_wp2_with (first | (go_at_call 11; refine (toSimple_any _ _).mono ?_; rintro e w' ⟨rfl, hB⟩; obtain ⟨j, d, rfl⟩ := plus_of_below hB; clear hB)
                                        | (go_at_call 13; refine (Hp.out _).mono ?_; rintro e w' ⟨rfl, hB⟩; obtain ⟨j, d, rfl⟩ := plus_of_below hB; clear hB)
                                        | (go_at_call 14; refine (Hi.out _).mono ?_; rintro e w' ⟨rfl, hB⟩; obtain ⟨j, d, rfl⟩ := plus_of_below hB; clear hB)
                                        | ((with_reducible apply wpList_load_arr rfl 22 _ rfl _ rfl 8 5 Try.underlying22 info22); (repeat (first | (refine heap_at _ _ _ ?_; ((try simp only [plus_size, World.size_alloc, World.size_drew, World.size_setCell, size_setRow, World.heap_drewN, List.length_append]) <;> omega)) | (refine heap_past' ?_ ?_; ((try simp only [plus_size, World.size_alloc, World.size_drew, World.size_setCell, size_setRow, World.heap_drewN, List.length_append]) <;> omega)) | (refine heap_plus' ?_ ?_; ((try simp only [plus_size, World.size_alloc, World.size_drew, World.size_setCell, size_setRow, World.heap_drewN, List.length_append]) <;> omega)) | assumption)); (simp only [arrF_size, arrO_size]))
                                        | ((with_reducible apply wpList_load_arr rfl 25 _ rfl _ rfl 8 5 Try.underlying25 info25); (repeat (first | (refine heap_at _ _ _ ?_; ((try simp only [plus_size, World.size_alloc, World.size_drew, World.size_setCell, size_setRow, World.heap_drewN, List.length_append]) <;> omega)) | (refine heap_past' ?_ ?_; ((try simp only [plus_size, World.size_alloc, World.size_drew, World.size_setCell, size_setRow, World.heap_drewN, List.length_append]) <;> omega)) | (refine heap_plus' ?_ ?_; ((try simp only [plus_size, World.size_alloc, World.size_drew, World.size_setCell, size_setRow, World.heap_drewN, List.length_append]) <;> omega)) | assumption)); (simp only [arrF_size, arrO_size]))
                                        | ((with_reducible apply wpList_store_arr rfl rfl 25 _ _ rfl _ rfl _ rfl 8 info25); (repeat (first | (refine heap_at _ _ _ ?_; ((try simp only [plus_size, World.size_alloc, World.size_drew, World.size_setCell, size_setRow, World.heap_drewN, List.length_append]) <;> omega)) | (refine heap_past' ?_ ?_; ((try simp only [plus_size, World.size_alloc, World.size_drew, World.size_setCell, size_setRow, World.heap_drewN, List.length_append]) <;> omega)) | (refine heap_plus' ?_ ?_; ((try simp only [plus_size, World.size_alloc, World.size_drew, World.size_setCell, size_setRow, World.heap_drewN, List.length_append]) <;> omega)) | assumption)); (simp only [arrF_size, arrO_size]); (simp only [arrF_size, arrO_size]); (first | exact arrF_one _ _ _ | exact arrO_one _ _); (repeat (first | (refine setRow_at' ?_; ((try simp only [plus_size, World.size_alloc, World.size_drew, World.size_setCell, size_setRow, World.heap_drewN, List.length_append]) <;> omega)) | (apply setRow_past'; ((try simp only [plus_size, World.size_alloc, World.size_drew, World.size_setCell, size_setRow, World.heap_drewN, List.length_append]) <;> omega)) | (apply setRow_plus'; ((try simp only [plus_size, World.size_alloc, World.size_drew, World.size_setCell, size_setRow, World.heap_drewN, List.length_append]) <;> omega)) | exact rfl))))
  go_ret
  exact ⟨rfl, by (repeat (first | exact Below.refl _ _ | assumption | (refine below_plus' ?_ ?_; ((try simp only [plus_size, World.size_alloc, World.size_drew, World.size_setCell, size_setRow, World.heap_drewN, List.length_append]) <;> omega)) | (refine below_alloc' ?_ ?_; ((try simp only [plus_size, World.size_alloc, World.size_drew, World.size_setCell, size_setRow, World.heap_drewN, List.length_append]) <;> omega)) | refine Below.drew ?_))⟩
set_option maxHeartbeats 400000 in
theorem law_IsBeginning (a b : Nat → Nat) (n : Int) (w : World) (hua : ∀ i, i < 8 → a i < 256) (hub : ∀ i, i < 8 → b i < 256) : Calls Try.prog 3 #[.agg (arrF .u8 8 (up a)), .agg (arrF .u8 8 (up b)), .int .i64 n] w fun e w' => e = .returned (.bool true) ∧ Below w.heap.size w w' := by
  obtain ⟨g, c, hR⟩ : ∃ g c, rBool (okB n a && okB n b) (withK a b n.toNat) = .tuple #[.bool g, .int .i64 c] := ⟨_, _, rfl⟩
  have hi := fun w => impl_IsBeginning a b n w hua hub
  have hp := fun w => spec_IsBeginning a b n w hua hub
  rw [hR] at hi hp
  clear hR
  have Hi := Lib.hid hi
  have Hp := Lib.hid hp
  clear hi hp
  go_enter Try.func3, Try.ntmps3
  go_wp2
  refine region_plus (by kernel_rfl) (by kernel_rfl) ?_
  repeat (go_big_quiet_step (first | (go_at_call 11; exact calls_plus (toSimple_any _ _)) | (go_at_call 10; exact calls_plus (Hp.out _))))
  refine wpQuiet_nil ?_
  intro _ hw'
  obtain ⟨q, hw''⟩ := hw'
  subst hw''
  rw [plusq_eq]
  generalize q.j = j
  generalize q.d = d
  clear q
  go_wp2
  refine region_plus (by kernel_rfl) (by kernel_rfl) ?_
  repeat (go_big_quiet_step (first | (go_at_call 11; exact calls_plus (toSimple_any _ _)) | (go_at_call 12; exact calls_plus (Hi.out _))))
  refine wpQuiet_nil ?_
  intro _ hw'
  obtain ⟨q, hw''⟩ := hw'
  subst hw''
  rw [plusq_eq]
  generalize q.j = j
  generalize q.d = d
  clear q
  go_wp2
  go_ret
  exact ⟨rfl, by (repeat (first | exact Below.refl _ _ | assumption | (refine below_plus' ?_ ?_; ((try simp only [plus_size, World.size_alloc, World.size_drew, World.size_setCell, size_setRow, World.heap_drewN, List.length_append]) <;> omega)) | (refine below_alloc' ?_ ?_; ((try simp only [plus_size, World.size_alloc, World.size_drew, World.size_setCell, size_setRow, World.heap_drewN, List.length_append]) <;> omega)) | refine Below.drew ?_))⟩
set_option maxHeartbeats 400000 in
theorem law_IsShort (a b : Nat → Nat) (n : Int) (w : World) (hua : ∀ i, i < 8 → a i < 256) (hub : ∀ i, i < 8 → b i < 256) : Calls Try.prog 5 #[.agg (arrF .u8 8 (up a)), .agg (arrF .u8 8 (up b)), .int .i64 n] w fun e w' => e = .returned (.bool true) ∧ Below w.heap.size w w' := by
  obtain ⟨g, c, hR⟩ : ∃ g c, rBool (okB n a && okB n b) (((lenK (thenK a b n.toNat) n.toNat : Nat) : Int) == ((lenK a n.toNat : Nat) : Int) + ((lenK b n.toNat : Nat) : Int)) = .tuple #[.bool g, .int .i64 c] := ⟨_, _, rfl⟩
  have hi := fun w => impl_IsShort a b n w hua hub
  have hp := fun w => spec_IsShort a b n w hua hub
  rw [hR] at hi hp
  clear hR
  have Hi := Lib.hid hi
  have Hp := Lib.hid hp
  clear hi hp
  go_enter Try.func5, Try.ntmps5
  go_wp2
  refine region_plus (by kernel_rfl) (by kernel_rfl) ?_
  repeat (go_big_quiet_step (first | (go_at_call 11; exact calls_plus (toSimple_any _ _)) | (go_at_call 15; exact calls_plus (Hp.out _))))
  refine wpQuiet_nil ?_
  intro _ hw'
  obtain ⟨q, hw''⟩ := hw'
  subst hw''
  rw [plusq_eq]
  generalize q.j = j
  generalize q.d = d
  clear q
  go_wp2
  refine region_plus (by kernel_rfl) (by kernel_rfl) ?_
  repeat (go_big_quiet_step (first | (go_at_call 11; exact calls_plus (toSimple_any _ _)) | (go_at_call 16; exact calls_plus (Hi.out _))))
  refine wpQuiet_nil ?_
  intro _ hw'
  obtain ⟨q, hw''⟩ := hw'
  subst hw''
  rw [plusq_eq]
  generalize q.j = j
  generalize q.d = d
  clear q
  go_wp2
  go_ret
  exact ⟨rfl, by (repeat (first | exact Below.refl _ _ | assumption | (refine below_plus' ?_ ?_; ((try simp only [plus_size, World.size_alloc, World.size_drew, World.size_setCell, size_setRow, World.heap_drewN, List.length_append]) <;> omega)) | (refine below_alloc' ?_ ?_; ((try simp only [plus_size, World.size_alloc, World.size_drew, World.size_setCell, size_setRow, World.heap_drewN, List.length_append]) <;> omega)) | refine Below.drew ?_))⟩
end Go.Proofs.Ytoelchljmaoklaa
