/- Braids are alike; codes are short. Conditions: as each theorem says. -/
import Derived.Test.YtblpbkfenmkhbaaGreatDoorJe
import Derived.Test.YtblpbkfenmkhbaaGreatDoorOc
import Derived.Test.YtblpbkfenmkhbaaGreatDoorMc
namespace Go.Proofs.YtblpbkfenmkhbaaGreatDoor
open Go.RowKit
set_option linter.unusedSimpArgs false
set_option linter.unusedVariables false
open Go.RowKit
theorem wp_belowK {P : Program} {c : Code} {Q : Exit → Act → World → Prop} {a : Act} {w X : World} (hb : Below w.heap.size w X) (h : ∀ Y, Below w.heap.size w Y → c.wp P Q a Y) : c.wp P Q a X := h X hb
theorem boxed.on {w w' : World} {b : Nat} {T : TypeId} {n : Int} {v : Value} (h : boxed w b T n v) (hb : Below w.heap.size w w') : boxed w' b T n v := kept_of h hb
theorem readsK_form {w : World} {v : Value} {xs : List Int} (h : reads w v xs) : ∃ a c, v = .slice a xs.length c := by
  obtain ⟨a, c, rfl, _⟩ := h
  exact ⟨a, c, rfl⟩
theorem retB2_f {e : TypeId} {w w' : World} {n c : Int} {xs : List Int} {en : Ending} (h : RetB2 e w n xs c en w') : ∃ v, en = .returned (.tuple #[.agg #[.int .i64 n, v], .int .i64 c]) ∧ Below w.heap.size w w' ∧ own e w' w.heap.size v xs := h
theorem retI2_f {e : TypeId} {w w' : World} {c : Int} {xs : List Int} {en : Ending} (h : RetInts2 e w xs c en w') : ∃ v, en = .returned (.tuple #[v, .int .i64 c]) ∧ Below w.heap.size w w' ∧ own e w' w.heap.size v xs := h
theorem retT2_f {E e : TypeId} {w w' : World} {c : Int} {M : List (List Int)} {en : Ending} (h : RetTab2 E e w M c en w') : ∃ v, en = .returned (.tuple #[v, .int .i64 c]) ∧ Below w.heap.size w w' ∧ tab E e w' w.heap.size v M := h
set_option maxHeartbeats 400000 in
theorem likeInts_same (v1 v2 : Value) (xs : List Int) (w : World) (h1 : reads w v1 xs) (h2 : reads w v2 xs) (hlen : xs.length ≤ 1000000000) : Calls Tryz.prog 14 #[v1, v2] w fun e w' => e = .returned (.bool true) ∧ Below w.heap.size w w' := by
  obtain ⟨a1, c1, rfl, h1⟩ := h1
  obtain ⟨a2, c2, rfl, h2⟩ := h2
  by_cases hx : xs = []
  · subst hx
    clear h1 h2
    go_enter Tryz.func14, Tryz.ntmps14
    go_wp2
    refine wp_loop_rounds 1 ?_
    rw [rounds_succ]
    go_wp2
    go_ret
    exact ⟨rfl, by (repeat (first | (with_reducible exact Below.refl _ _) | (with_reducible assumption) | (with_reducible refine below_plus' ?_ ?_; ((try simp only [plus_size, World.size_alloc, World.size_drew, World.size_setCell, size_setRow, World.heap_drewN, List.length_append]) <;> omega)) | (with_reducible refine below_alloc' ?_ ?_; ((try simp only [plus_size, World.size_alloc, World.size_drew, World.size_setCell, size_setRow, World.heap_drewN, List.length_append]) <;> omega)) | with_reducible refine Below.drew ?_ | exact Below.refl _ _))⟩
  · obtain ⟨b1, o1, rfl, m1⟩ := h1.resolve_left hx
    obtain ⟨b2, o2, rfl, m2⟩ := h2.resolve_left hx
    have hp : 0 < xs.length := List.length_pos_iff.2 hx
    have k1 : b1 < w.heap.size := World.block_lt_of_cell? w _ (m1 0 hp)
    have k2 : b2 < w.heap.size := World.block_lt_of_cell? w _ (m2 0 hp)
    have H1 := Lib.hid m1
    have H2 := Lib.hid m2
    clear m1 m2 h1 h2 hx
    generalize hn : xs.length = n at *
    have Hn := Lib.hid hn
    clear hn
    go_enter Tryz.func14, Tryz.ntmps14
    go_wp2
    go_loopw [5] (fun sl wr => ∃ k d : Nat, k ≤ n ∧ sl = .int .i64 k ∧ wr = plus w [] d) (fun sl _ => n - (intOf sl).toNat)
    case atStart => exact ⟨0, _, by omega, rfl, (plus_nil _).symm⟩
    case round =>
      obtain ⟨k, d, hk, rfl, rfl⟩ := hrel
      by_cases hlt : k < n
      · have g1 := H1.out k hlt
        have g2 := H2.out k hlt
        go_wp2
        go_quiet (fail)
        go_wp2
        go_roundw
        case rel => exact ⟨k + 1, _, by omega, by go_num, rfl⟩
        case measure => simp [intOf]; omega
      · obtain rfl : k = n := by omega
        go_wp2
        go_ret
        exact ⟨rfl, by (repeat (first | (with_reducible exact Below.refl _ _) | (with_reducible assumption) | (with_reducible refine below_plus' ?_ ?_; ((try simp only [plus_size, World.size_alloc, World.size_drew, World.size_setCell, size_setRow, World.heap_drewN, List.length_append]) <;> omega)) | (with_reducible refine below_alloc' ?_ ?_; ((try simp only [plus_size, World.size_alloc, World.size_drew, World.size_setCell, size_setRow, World.heap_drewN, List.length_append]) <;> omega)) | with_reducible refine Below.drew ?_ | exact Below.refl _ _))⟩
set_option maxHeartbeats 400000 in
theorem braid5_same (n : Int) (v1 v2 : Value) (xs : List Int) (w : World) (h1 : reads w v1 xs) (h2 : reads w v2 xs) (hl : xs.length ≤ 1000000000) : Calls Tryz.prog 8 #[.agg #[.int .i64 n, v1], .agg #[.int .i64 n, v2]] w fun e w' => e = .returned (.bool true) ∧ Below w.heap.size w w' := by
  have HLK := Lib.hid (fun w' (hb : Below w.heap.size w w') => likeInts_same v1 v2 xs w' (h1.kept hb) (h2.kept hb) hl)
  obtain ⟨a1, c1, rfl⟩ := readsK_form h1
  obtain ⟨a2, c2, rfl⟩ := readsK_form h2
  clear h1 h2
  go_enter Tryz.func8, Tryz.ntmps8
  go_wp2_with (first | (go_at_call 14; refine Calls.mono (HLK.out _ ?_) ?_; (repeat (first | (with_reducible exact Below.refl _ _) | (with_reducible assumption) | (with_reducible refine below_plus' ?_ ?_; ((try simp only [plus_size, World.size_alloc, World.size_drew, World.size_setCell, size_setRow, World.heap_drewN, List.length_append]) <;> omega)) | (with_reducible refine below_alloc' ?_ ?_; ((try simp only [plus_size, World.size_alloc, World.size_drew, World.size_setCell, size_setRow, World.heap_drewN, List.length_append]) <;> omega)) | with_reducible refine Below.drew ?_ | (with_reducible refine below_drewN' ?_ _) | exact Below.refl _ _)); rintro e w' ⟨rfl, hB⟩; obtain ⟨j, d, rfl⟩ := plus_of_below hB; clear hB))
  go_ret
  exact ⟨rfl, by (repeat (first | (with_reducible exact Below.refl _ _) | (with_reducible assumption) | (with_reducible refine below_plus' ?_ ?_; ((try simp only [plus_size, World.size_alloc, World.size_drew, World.size_setCell, size_setRow, World.heap_drewN, List.length_append]) <;> omega)) | (with_reducible refine below_alloc' ?_ ?_; ((try simp only [plus_size, World.size_alloc, World.size_drew, World.size_setCell, size_setRow, World.heap_drewN, List.length_append]) <;> omega)) | with_reducible refine Below.drew ?_ | (with_reducible refine below_drewN' ?_ _) | exact Below.refl _ _))⟩
set_option maxHeartbeats 400000 in
theorem big_no (vc : Value) (m : Nat) (w : World) (hC : readsC w vc m) (hmax : m ≤ 9223372036854775807) (h4 : (m : Int) ≤ 4096) : Calls Tryz.prog 4 #[vc] w fun e w' => e = .returned (.bool false) ∧ w = w' := by
  obtain ⟨a, c, rfl, h⟩ := hC
  have h5 : ¬ (4096 : Int) < (m : Int) := by omega
  clear h h4
  go_enter Tryz.func4, Tryz.ntmps4
  go_wp2
  go_ret
  exact ⟨by first | rfl | simp [h5], rfl⟩
set_option maxHeartbeats 400000 in
theorem big_yes (vc : Value) (m : Nat) (w : World) (hC : readsC w vc m) (hmax : m ≤ 9223372036854775807) (h4 : ¬ (m : Int) ≤ 4096) : Calls Tryz.prog 4 #[vc] w fun e w' => e = .returned (.bool true) ∧ w = w' := by
  obtain ⟨a, c, rfl, h⟩ := hC
  have h5 : (4096 : Int) < (m : Int) := by omega
  clear h h4
  go_enter Tryz.func4, Tryz.ntmps4
  go_wp2
  go_ret
  exact ⟨by first | rfl | simp [h5], rfl⟩
end Go.Proofs.YtblpbkfenmkhbaaGreatDoor
