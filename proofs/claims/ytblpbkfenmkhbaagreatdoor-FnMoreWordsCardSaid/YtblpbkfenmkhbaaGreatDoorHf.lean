/- ParseBraid by the reference. Conditions: as each theorem says. -/
import Derived.Test.YtblpbkfenmkhbaaGreatDoorHe
namespace Go.Proofs.YtblpbkfenmkhbaaGreatDoor
open Go.RowKit
set_option linter.unusedSimpArgs false
set_option linter.unusedVariables false
open Go.RowKit
set_option maxHeartbeats 2000000 in
theorem spec_ParseBraid (l : List UInt8) (w : World) (hl : l.length ≤ 4000000000) : Calls Tryz.prog 20 #[.string (strB l)] w (RetB2 2 w (parN l) (parL l) (parC l)) := by
  have HR := Lib.hid (fun w => l01Read_any l w hl)
  go_enter Tryz.func20, Tryz.ntmps20
  go_upto_region 2 with ((go_at_call 56; refine Calls.mono (HR.out _) ?_; rintro e w' ⟨n, v, xs, b, rfl, hB, ho, hT, hF⟩; obtain ⟨a, c, rfl, hs⟩ := id ho.reads; clear hs; obtain ⟨W1, hW1⟩ : ∃ W1, W1 = w' := ⟨_, rfl⟩; subst hW1))
  have hB0 : Below w.heap.size w W1 := below_of_alloc hB
  have hbr : boxed W1 w.heap.size 26 0 (.slice none 0 0) := kept_of (heap_alloc_last _ _) hB
  have hs1 := hB.size
  rw [World.size_alloc] at hs1
  clear hB
  have d0 := hbr.c0
  have d1 := hbr.c1
  have dl := hbr.lt
  have df := hbr.fr0
  have dg := hbr.fr1
  cases b with
  | false =>
    obtain ⟨p1, p2, p3⟩ := par_no (hF rfl)
    clear hT hF
    go_wp2
    refine bodyPost_gen (fun Y => boxed Y w.heap.size 26 0 (.slice none 0 0) ∧ Below w.heap.size w Y ∧ own 2 Y w.heap.size (.slice none 0 0) []) ⟨(put2_boxed hbr).kept ((Below.refl _ _).alloc (Nat.le_refl _) _), (put2_below _ _ hB0 (Nat.le_refl _)).alloc (put2_below _ _ hB0 (Nat.le_refl _)).size _, own_nil _ _ _⟩ fun Y hY => ?_
    obtain ⟨hY1, hY2, hY3⟩ := hY
    have y0 := hY1.c0
    have y1 := hY1.c1
    refine bodyPost_ret (v := .tuple #[.agg #[.int .i64 0, (.slice none 0 0)], .int .i64 6]) (by simp [results, Tryz.results20, go_sem, y0, y1]) rfl ?_
    rw [p1, p2, p3]
    exact ⟨_, rfl, hY2, hY3⟩
  | true =>
    obtain ⟨p1, p2, p3⟩ := par_yes (hT rfl)
    clear hT hF
    go_wp2
    refine bodyPost_gen (fun Y => boxed Y w.heap.size 26 n (.slice a xs.length c) ∧ Below w.heap.size w Y ∧ own 2 Y w.heap.size (.slice a xs.length c) xs) ⟨(put2_boxed hbr).kept ((Below.refl _ _).alloc (Nat.le_refl _) _), (put2_below _ _ hB0 (Nat.le_refl _)).alloc (put2_below _ _ hB0 (Nat.le_refl _)).size _, (((ho.apart (put2_grown _ _ _ _) (fun q hq e => by have := (ho.lt q hq).1; rw [World.size_alloc] at this; cases e; omega)).kept ((Below.refl _ _).alloc (Nat.le_refl _) _)).mono (by rw [World.size_alloc]; omega))⟩ fun Y hY => ?_
    obtain ⟨hY1, hY2, hY3⟩ := hY
    have y0 := hY1.c0
    have y1 := hY1.c1
    refine bodyPost_ret (v := .tuple #[.agg #[.int .i64 n, (.slice a xs.length c)], .int .i64 0]) (by simp [results, Tryz.results20, go_sem, y0, y1]) rfl ?_
    rw [p1, p2, p3]
    exact ⟨_, rfl, hY2, hY3⟩
end Go.Proofs.YtblpbkfenmkhbaaGreatDoor
