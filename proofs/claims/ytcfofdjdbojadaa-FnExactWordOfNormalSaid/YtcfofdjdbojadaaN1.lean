/- Slices of simple braids: equal ones. Conditions: as each theorem says. -/
import Derived.Test.YtcfofdjdbojadaaI8
import Derived.Test.YtcfofdjdbojadaaS2
import Derived.Test.YtcfofdjdbojadaaS6
namespace Go.Proofs.Ytcfofdjdbojadaa
open Go.RowKit
set_option linter.unusedSimpArgs false
set_option linter.unusedVariables false
set_option maxHeartbeats 1000000 in
theorem eqArrs_same (v1 v2 : Value) (n : Nat) (s : Nat → Nat → Nat) (w : World) (h1 : readsA w v1 n s) (h2 : readsA w v2 n s) (hlen : n ≤ 1000000000) : Calls Try.prog 24 #[v1, v2] w fun e w' => e = .returned (.bool true) ∧ Below w.heap.size w w' := by
  obtain ⟨a1, c1, rfl, h1⟩ := h1
  obtain ⟨a2, c2, rfl, h2⟩ := h2
  by_cases hx : n = 0
  · subst hx
    clear h1 h2
    go_enter Try.func24, Try.ntmps24
    go_wp2
    refine wp_loop_rounds 1 ?_
    rw [rounds_succ]
    go_wp2
    go_ret
    exact ⟨rfl, by (repeat (first | (with_reducible exact Below.refl _ _) | (with_reducible assumption) | (with_reducible refine below_plus' ?_ ?_; ((try simp only [plus_size, World.size_alloc, World.size_drew, World.size_setCell, size_setRow, World.heap_drewN, List.length_append]) <;> omega)) | (with_reducible refine below_alloc' ?_ ?_; ((try simp only [plus_size, World.size_alloc, World.size_drew, World.size_setCell, size_setRow, World.heap_drewN, List.length_append]) <;> omega)) | with_reducible refine Below.drew ?_ | exact Below.refl _ _))⟩
  · obtain ⟨b1, o1, rfl, m1⟩ := h1.resolve_left hx
    obtain ⟨b2, o2, rfl, m2⟩ := h2.resolve_left hx
    have k1 : b1 < w.heap.size := World.block_lt_of_cell? w _ (m1 0 (by omega) 0 (by omega))
    have k2 : b2 < w.heap.size := World.block_lt_of_cell? w _ (m2 0 (by omega) 0 (by omega))
    have H1 := Lib.hid m1
    have H2 := Lib.hid m2
    clear m1 m2 h1 h2 hx
    go_enter Try.func24, Try.ntmps24
    go_wp2
    go_loopw [5] (fun sl wr => ∃ (k : Nat) (j : List Obj) (d : Nat), k ≤ n ∧ sl = .int .i64 k ∧ wr = plus w j d) (fun sl _ => n - (intOf sl).toNat)
    case atStart => exact ⟨0, _, _, by omega, rfl, (plus_nil _).symm⟩
    case round =>
      obtain ⟨k, j, d, hk, rfl, rfl⟩ := hrel
      by_cases hlt : k < n
      · have hm1 := H1.out k hlt
        have hm2 := H2.out k hlt
        have g10 := hm1 0 (by omega)
        have g11 := hm1 1 (by omega)
        have g12 := hm1 2 (by omega)
        have g13 := hm1 3 (by omega)
        have g14 := hm1 4 (by omega)
        have g15 := hm1 5 (by omega)
        have g16 := hm1 6 (by omega)
        have g17 := hm1 7 (by omega)
        have g20 := hm2 0 (by omega)
        have g21 := hm2 1 (by omega)
        have g22 := hm2 2 (by omega)
        have g23 := hm2 3 (by omega)
        have g24 := hm2 4 (by omega)
        have g25 := hm2 5 (by omega)
        have g26 := hm2 6 (by omega)
        have g27 := hm2 7 (by omega)
        rw [Nat.add_zero] at g10 g20
        have k1' : b1 < w.heap.size + j.length := by omega
        have k2' : b2 < w.heap.size + j.length := by omega
        clear hm1 hm2
        go_wp2
        refine region_plus (by kernel_rfl) (by kernel_rfl) ?_
        repeat (go_big_quiet_step (first | (go_at_call 39; exact calls_plus (eqSimple_same _ _))))
        refine wpQuiet_nil ?_
        intro _ hw'
        obtain ⟨q, hw''⟩ := hw'
        subst hw''
        rw [plusq_eq]
        generalize q.j = j
        generalize q.d = d
        clear q
        go_wp2
        go_roundw
        case rel => exact ⟨k + 1, _, _, by omega, by go_num, plus_plus _ _ _ _ _⟩
        case measure => simp [intOf]; omega
      · obtain rfl : n = k := by omega
        go_wp2
        go_ret
        exact ⟨rfl, by (repeat (first | (with_reducible exact Below.refl _ _) | (with_reducible assumption) | (with_reducible refine below_plus' ?_ ?_; ((try simp only [plus_size, World.size_alloc, World.size_drew, World.size_setCell, size_setRow, World.heap_drewN, List.length_append]) <;> omega)) | (with_reducible refine below_alloc' ?_ ?_; ((try simp only [plus_size, World.size_alloc, World.size_drew, World.size_setCell, size_setRow, World.heap_drewN, List.length_append]) <;> omega)) | with_reducible refine Below.drew ?_ | exact Below.refl _ _))⟩
end Go.Proofs.Ytcfofdjdbojadaa
