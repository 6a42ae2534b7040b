/- The law of ParseBraid. Conditions: as each theorem says. -/
import Derived.Test.YtfghanmcmjgonaaDoorHh
import Derived.Deep.Cut
import Derived.Deep.CutRange
namespace Go.Proofs.YtfghanmcmjgonaaDoor
open Go.RowKit
set_option linter.unusedSimpArgs false
set_option linter.unusedVariables false
set_option maxHeartbeats 4000000 in
theorem law_ParseBraid0 (l : List UInt8) (w : World) (hl : l.length ≤ 1048576) (hd : Door w) : Calls Tryd.prog 3 #[.string (strB l)] w fun e w' => e = .returned (.bool true) ∧ Below w.heap.size w w' := by
  have hp := fun w => spec_ParseBraid l w hl
  have hi := fun w' (hb : Below w.heap.size w w') => impl_ParseBraid l w' hl (hd.on hb)
  have hz : ¬ (1048576 : Int) < ((strB l).size : Int) := by rw [strB_size]; omega
  have hL : (((parL l) : List Int)).length ≤ 1000000000 := parL_le l
  generalize ((parL l) : List Int) = L at hp hi hL
  generalize ((parC l) : Int) = C at hp hi
  generalize ((parN l) : Int) = N at hp hi
  have HLL := Lib.hid hL
  have Hp := Lib.hid hp
  have Hi := Lib.hid hi
  clear hp hi hL hd
  go_enter Tryd.func3, Tryd.ntmps3
  go_upto_region 7 with (first | (go_at_call 4; refine Calls.mono (Hp.out _) ?_; rintro e w' ⟨vw, rfl, hB, hw⟩; obtain ⟨aw, cw, rfl, hs⟩ := id hw.reads; clear hs; obtain ⟨j, d, rfl⟩ := plus_of_below hB; clear hB)
                                          | (go_at_call 5; refine Calls.mono (Hi.out _ (by (repeat (first | (with_reducible exact Below.refl _ _) | (with_reducible assumption) | (with_reducible refine below_plus' ?_ ?_; ((try simp only [plus_size, World.size_alloc, World.size_drew, World.size_setCell, size_setRow, World.heap_drewN, List.length_append]) <;> omega)) | (with_reducible refine below_alloc' ?_ ?_; ((try simp only [plus_size, World.size_alloc, World.size_drew, World.size_setCell, size_setRow, World.heap_drewN, List.length_append]) <;> omega)) | with_reducible refine Below.drew ?_ | (with_reducible refine below_drewN' ?_ _) | exact Below.refl _ _)))) ?_; rintro e w' ⟨vg, rfl, hB, hg⟩; obtain ⟨ag, cg, rfl, hs⟩ := id hg.reads; clear hs; obtain ⟨j, d, rfl⟩ := plus_of_below hB; clear hB)
                                          | (go_at_call 6; refine Calls.mono (eqBraid_same _ _ _ L _ ?_ ?_ HLL.out) ?_; exact hg.reads.kept (by (repeat (first | (with_reducible exact Below.refl _ _) | (with_reducible assumption) | (with_reducible refine below_plus' ?_ ?_; ((try simp only [plus_size, World.size_alloc, World.size_drew, World.size_setCell, size_setRow, World.heap_drewN, List.length_append]) <;> omega)) | (with_reducible refine below_alloc' ?_ ?_; ((try simp only [plus_size, World.size_alloc, World.size_drew, World.size_setCell, size_setRow, World.heap_drewN, List.length_append]) <;> omega)) | with_reducible refine Below.drew ?_ | (with_reducible refine below_drewN' ?_ _) | exact Below.refl _ _))); exact hw.reads.kept (by (repeat (first | (with_reducible exact Below.refl _ _) | (with_reducible assumption) | (with_reducible refine below_plus' ?_ ?_; ((try simp only [plus_size, World.size_alloc, World.size_drew, World.size_setCell, size_setRow, World.heap_drewN, List.length_append]) <;> omega)) | (with_reducible refine below_alloc' ?_ ?_; ((try simp only [plus_size, World.size_alloc, World.size_drew, World.size_setCell, size_setRow, World.heap_drewN, List.length_append]) <;> omega)) | with_reducible refine Below.drew ?_ | (with_reducible refine below_drewN' ?_ _) | exact Below.refl _ _))); rintro e w' ⟨rfl, hB⟩; obtain ⟨j, d, rfl⟩ := plus_of_below hB; clear hB))
  go_cut [3, 5, 7] from 11 to 32 (fun s3 s5 s7 wr => ∃ (b4 b7 : Nat), s7 = .int .i64 1 ∧ s3 = .pointer (some ⟨b4, 0, none⟩) ∧ s5 = .pointer (some ⟨b7, 0, none⟩) ∧ ∃ (aw ag : Option Addr) (cw cg : Nat), MidB w wr N (.slice ag L.length cg) (.slice aw L.length cw) L L b4 b7)
  case first =>
    go_wp2
    go_meet
    case rel =>
      refine ⟨_, _, rfl, rfl, rfl, aw, ag, cw, cg, ?_⟩
      have kw := hw.lt
      have kg := hg.lt
      simp only [plus_size, World.size_alloc, World.size_drew, World.heap_drewN] at kw kg
      refine ⟨by (repeat (first | (with_reducible exact Below.refl _ _) | (with_reducible assumption) | (with_reducible refine below_plus' ?_ ?_; ((try simp only [plus_size, World.size_alloc, World.size_drew, World.size_setCell, size_setRow, World.heap_drewN, List.length_append]) <;> omega)) | (with_reducible refine below_alloc' ?_ ?_; ((try simp only [plus_size, World.size_alloc, World.size_drew, World.size_setCell, size_setRow, World.heap_drewN, List.length_append]) <;> omega)) | with_reducible refine Below.drew ?_ | (with_reducible refine below_drewN' ?_ _) | exact Below.refl _ _)), (by unfold boxed; (repeat (first | (refine heap_at _ _ _ ?_; ((try simp only [plus_size, World.size_alloc, World.size_drew, World.size_setCell, size_setRow, World.heap_drewN, List.length_append]) <;> omega)) | (refine heap_past' ?_ ?_; ((try simp only [plus_size, World.size_alloc, World.size_drew, World.size_setCell, size_setRow, World.heap_drewN, List.length_append]) <;> omega)) | (refine heap_plus' ?_ ?_; ((try simp only [plus_size, World.size_alloc, World.size_drew, World.size_setCell, size_setRow, World.heap_drewN, List.length_append]) <;> omega)) | assumption))), (by unfold boxed; (repeat (first | (refine heap_at _ _ _ ?_; ((try simp only [plus_size, World.size_alloc, World.size_drew, World.size_setCell, size_setRow, World.heap_drewN, List.length_append]) <;> omega)) | (refine heap_past' ?_ ?_; ((try simp only [plus_size, World.size_alloc, World.size_drew, World.size_setCell, size_setRow, World.heap_drewN, List.length_append]) <;> omega)) | (refine heap_plus' ?_ ?_; ((try simp only [plus_size, World.size_alloc, World.size_drew, World.size_setCell, size_setRow, World.heap_drewN, List.length_append]) <;> omega)) | assumption))), (own.kept hw (by (repeat (first | (with_reducible exact Below.refl _ _) | (with_reducible assumption) | (with_reducible refine below_plus' ?_ ?_; ((try simp only [plus_size, World.size_alloc, World.size_drew, World.size_setCell, size_setRow, World.heap_drewN, List.length_append]) <;> omega)) | (with_reducible refine below_alloc' ?_ ?_; ((try simp only [plus_size, World.size_alloc, World.size_drew, World.size_setCell, size_setRow, World.heap_drewN, List.length_append]) <;> omega)) | with_reducible refine Below.drew ?_ | (with_reducible refine below_drewN' ?_ _) | exact Below.refl _ _)))).mono (by ((try simp only [plus_size, World.size_alloc, World.size_drew, World.size_setCell, size_setRow, World.heap_drewN, List.length_append]) <;> omega)), (own.kept hg (by (repeat (first | (with_reducible exact Below.refl _ _) | (with_reducible assumption) | (with_reducible refine below_plus' ?_ ?_; ((try simp only [plus_size, World.size_alloc, World.size_drew, World.size_setCell, size_setRow, World.heap_drewN, List.length_append]) <;> omega)) | (with_reducible refine below_alloc' ?_ ?_; ((try simp only [plus_size, World.size_alloc, World.size_drew, World.size_setCell, size_setRow, World.heap_drewN, List.length_append]) <;> omega)) | with_reducible refine Below.drew ?_ | (with_reducible refine below_drewN' ?_ _) | exact Below.refl _ _)))).mono (by ((try simp only [plus_size, World.size_alloc, World.size_drew, World.size_setCell, size_setRow, World.heap_drewN, List.length_append]) <;> omega)), fun k hk => ?_, fun k hk => ?_⟩
      · have := kw k hk
        refine ⟨by omega, by omega, fun h => ?_⟩
        · have := kg k h; omega
      · have := kg k hk
        refine ⟨by omega, by omega, fun h => ?_⟩
        · have := kw k h; omega
  case rest =>
    obtain ⟨b4, b7, rfl, rfl, rfl, aw, ag, cw, cg, M⟩ := hcut
    have ph1 := trivial
    have ph2 := trivial
    have c04 := M.h4.c0; have c14 := M.h4.c1; have l4 := M.h4.lt; have c07 := M.h7.c0; have c17 := M.h7.c1; have l7 := M.h7.lt
    go_wp2_with (first | (go_at_call 7; refine Calls.mono (markBraid_any _ _ _ _ _ M.og HLL.out) ?_; rintro e w' ⟨rfl, hm, hgr⟩; replace M := M.markg hm hgr; clear hm hgr; clear c04 c14 l4 c07 c17 l7; have c04 := M.h4.c0; have c14 := M.h4.c1; have l4 := M.h4.lt; have c07 := M.h7.c0; have c17 := M.h7.c1; have l7 := M.h7.lt)
                                          | (go_at_call 8; refine Calls.mono (heldBraid_any _ _ _ _ M.og.reads HLL.out) ?_; rintro e w' ⟨rfl, hB⟩; replace M := M.kept hB; clear hB; clear c04 c14 l4 c07 c17 l7; have c04 := M.h4.c0; have c14 := M.h4.c1; have l4 := M.h4.lt; have c07 := M.h7.c0; have c17 := M.h7.c1; have l7 := M.h7.lt)
                                          | (go_at_call 5; refine Calls.mono (Hi.out _ M.bel) ?_; rintro e w' ⟨vh, rfl, hB, hoh⟩; have hrh := hoh.reads; obtain ⟨ah, ch, rfl, hs⟩ := id hrh; clear hs hoh; replace M := M.kept hB; clear hB; clear c04 c14 l4 c07 c17 l7; have c04 := M.h4.c0; have c14 := M.h4.c1; have l4 := M.h4.lt; have c07 := M.h7.c0; have c17 := M.h7.c1; have l7 := M.h7.lt)
                                          | (go_at_call 6; refine Calls.mono (eqBraid_same _ _ _ L _ (hrh.kept (by (repeat (first | (with_reducible exact Below.refl _ _) | (with_reducible assumption) | (with_reducible refine below_plus' ?_ ?_; ((try simp only [plus_size, World.size_alloc, World.size_drew, World.size_setCell, size_setRow, World.heap_drewN, List.length_append]) <;> omega)) | (with_reducible refine below_alloc' ?_ ?_; ((try simp only [plus_size, World.size_alloc, World.size_drew, World.size_setCell, size_setRow, World.heap_drewN, List.length_append]) <;> omega)) | with_reducible refine Below.drew ?_ | (with_reducible refine below_drewN' ?_ _) | exact Below.refl _ _)))) (M.ow.reads.kept (by (repeat (first | (with_reducible exact Below.refl _ _) | (with_reducible assumption) | (with_reducible refine below_plus' ?_ ?_; ((try simp only [plus_size, World.size_alloc, World.size_drew, World.size_setCell, size_setRow, World.heap_drewN, List.length_append]) <;> omega)) | (with_reducible refine below_alloc' ?_ ?_; ((try simp only [plus_size, World.size_alloc, World.size_drew, World.size_setCell, size_setRow, World.heap_drewN, List.length_append]) <;> omega)) | with_reducible refine Below.drew ?_ | (with_reducible refine below_drewN' ?_ _) | exact Below.refl _ _)))) HLL.out) ?_; rintro e w' ⟨rfl, hB⟩; clear hrh; replace hB := below_of_alloc hB; replace M := M.kept hB; clear hB; clear c04 c14 l4 c07 c17 l7; have c04 := M.h4.c0; have c14 := M.h4.c1; have l4 := M.h4.lt; have c07 := M.h7.c0; have c17 := M.h7.c1; have l7 := M.h7.lt))
    go_ret
    exact ⟨rfl, M.bel⟩
set_option maxHeartbeats 400000 in
theorem law_ParseBraid (s : ByteArray) (w : World) (ht : Door w) : Calls Tryd.prog 3 #[.string s] w fun e w' => e = .returned (.bool true) ∧ Below w.heap.size w w' := by
  by_cases hs : s.size ≤ 1048576
  · have := law_ParseBraid0 s.data.toList w (by rw [Array.length_toList]; exact hs) ht
    rw [strB_back] at this
    exact this
  · have hz : (1048576 : Int) < (s.size : Int) := by omega
    go_enter Tryd.func3, Tryd.ntmps3
    go_wp2
    go_ret
    exact ⟨rfl, by (repeat (first | (with_reducible exact Below.refl _ _) | (with_reducible assumption) | (with_reducible refine below_plus' ?_ ?_; ((try simp only [plus_size, World.size_alloc, World.size_drew, World.size_setCell, size_setRow, World.heap_drewN, List.length_append]) <;> omega)) | (with_reducible refine below_alloc' ?_ ?_; ((try simp only [plus_size, World.size_alloc, World.size_drew, World.size_setCell, size_setRow, World.heap_drewN, List.length_append]) <;> omega)) | with_reducible refine Below.drew ?_ | (with_reducible refine below_drewN' ?_ _) | exact Below.refl _ _))⟩
end Go.Proofs.YtfghanmcmjgonaaDoor
