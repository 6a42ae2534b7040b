/- Full turns. Conditions: as each theorem says. -/
import Derived.Test.YtkmfglocjdjhjaaV7
namespace Go.Proofs.Ytkmfglocjdjhjaa
open Go.RowKit
set_option linter.unusedSimpArgs false
set_option linter.unusedVariables false
set_option maxHeartbeats 1000000 in
theorem spec_FullTurnBraid (n : Int) (w : World) : Calls Try.prog 36 #[.int .i64 n] w (RetB2 2 w (halfN' n) (halfL n ++ halfL n) (halfC n)) := by
  cases hb : inB n 1 8 with
  | false =>
    obtain ⟨e1, e2, e3⟩ := half_no hb
    rw [e1, e2, e3]
    clear e1 e2 e3
    go_enter Try.func36, Try.ntmps36
    go_wp2_with (first | (go_at_call 65; refine (l01In_any _ _ _ _).mono ?_; rintro e w' ⟨rfl, rfl⟩))
    refine bodyPost_ret (v := .tuple #[.agg #[.int .i64 0, .slice none 0 0], .int .i64 2]) (by simp [results, Try.results36, go_sem]) rfl ?_
    exact ⟨_, rfl, by (repeat (first | (with_reducible exact Below.refl _ _) | (with_reducible assumption) | (with_reducible refine below_plus' ?_ ?_; ((try simp only [plus_size, World.size_alloc, World.size_drew, World.size_setCell, size_setRow, World.heap_drewN, List.length_append]) <;> omega)) | (with_reducible refine below_alloc' ?_ ?_; ((try simp only [plus_size, World.size_alloc, World.size_drew, World.size_setCell, size_setRow, World.heap_drewN, List.length_append]) <;> omega)) | with_reducible refine Below.drew ?_ | (with_reducible refine below_drewN' ?_ _) | exact Below.refl _ _)), own_nil _ _ _⟩
  | true =>
    obtain ⟨m, rfl, hm, e1, e2, e3⟩ := half_yes hb
    rw [e1, e2, e3]
    clear e1 e2 e3
    have hT : (halfW m).length ≤ 49 := by have := halfW_le m hm; omega
    go_enter Try.func36, Try.ntmps36
    go_wp2_with (first | (go_at_call 65; refine (l01In_any _ _ _ _).mono ?_; rintro e w' ⟨rfl, rfl⟩)
                                        | (go_at_call 66; have h9 := ho; clear h9; refine Calls.mono (l01Half_any m _ hm) ?_; rintro e w' ⟨vp, rfl, hB, hp⟩; obtain ⟨ap, cp, rfl, hs⟩ := id hp.reads; clear hs; obtain ⟨j, d, rfl⟩ := plus_of_below hB; clear hB)
                                        | (go_at_call 66; refine Calls.mono (l01Half_any m _ hm) ?_; rintro e w' ⟨vo, rfl, hB, ho⟩; obtain ⟨ao, co, rfl, hs⟩ := id ho.reads; clear hs; obtain ⟨j, d, rfl⟩ := plus_of_below hB; clear hB)
                                        | (at_builtin; go_loud (refine wpList_appendL rfl _ _ 23 rfl 2 Try.underlying23 infoI (w.alloc (.cells #[.int .i64 0, .slice none 0 0] 28)).heap.size _ _ (halfW m) (halfW m) rfl rfl ?_ hp.reads (by omega) (by ((try simp only [plus_size, World.size_alloc, World.size_drew, World.size_setCell, size_setRow, World.heap_drewN, List.length_append]) <;> omega)) ?_; exact (own.kept ho (by (repeat (first | (with_reducible exact Below.refl _ _) | (with_reducible assumption) | (with_reducible refine below_plus' ?_ ?_; ((try simp only [plus_size, World.size_alloc, World.size_drew, World.size_setCell, size_setRow, World.heap_drewN, List.length_append]) <;> omega)) | (with_reducible refine below_alloc' ?_ ?_; ((try simp only [plus_size, World.size_alloc, World.size_drew, World.size_setCell, size_setRow, World.heap_drewN, List.length_append]) <;> omega)) | with_reducible refine Below.drew ?_ | (with_reducible refine below_drewN' ?_ _) | exact Below.refl _ _)))).mono (by ((try simp only [plus_size, World.size_alloc, World.size_drew, World.size_setCell, size_setRow, World.heap_drewN, List.length_append]) <;> omega)); intro v' w' hown hgr hB; obtain ⟨aq, cq, rfl, hs⟩ := id hown.reads; clear hs hgr; replace hB := Below.trans (show Below (w.alloc (.cells #[.int .i64 0, .slice none 0 0] 28)).heap.size (w.alloc (.cells #[.int .i64 0, .slice none 0 0] 28)) _ by (repeat (first | (with_reducible exact Below.refl _ _) | (with_reducible assumption) | (with_reducible refine below_plus' ?_ ?_; ((try simp only [plus_size, World.size_alloc, World.size_drew, World.size_setCell, size_setRow, World.heap_drewN, List.length_append]) <;> omega)) | (with_reducible refine below_alloc' ?_ ?_; ((try simp only [plus_size, World.size_alloc, World.size_drew, World.size_setCell, size_setRow, World.heap_drewN, List.length_append]) <;> omega)) | with_reducible refine Below.drew ?_ | (with_reducible refine below_drewN' ?_ _) | exact Below.refl _ _))) hB; obtain ⟨j, d, rfl⟩ := plus_of_below hB; clear hB)))
    refine bodyPost_ret (v := .tuple #[.agg #[.int .i64 ((m : Int) + 1), .slice aq (halfW m ++ halfW m).length cq], .int .i64 0]) (by simp [results, Try.results36, go_sem]) rfl ?_
    exact ⟨_, rfl, by (repeat (first | (with_reducible exact Below.refl _ _) | (with_reducible assumption) | (with_reducible refine below_plus' ?_ ?_; ((try simp only [plus_size, World.size_alloc, World.size_drew, World.size_setCell, size_setRow, World.heap_drewN, List.length_append]) <;> omega)) | (with_reducible refine below_alloc' ?_ ?_; ((try simp only [plus_size, World.size_alloc, World.size_drew, World.size_setCell, size_setRow, World.heap_drewN, List.length_append]) <;> omega)) | with_reducible refine Below.drew ?_ | (with_reducible refine below_drewN' ?_ _) | exact Below.refl _ _)), by ((try simp only [plus_plus] at hown ⊢); exact own_far hown (by ((try simp only [plus_size, World.size_alloc, World.size_drew, World.size_setCell, size_setRow, World.heap_drewN, List.length_append]) <;> omega)) (by ((try simp only [plus_size, World.size_alloc, World.size_drew, World.size_setCell, size_setRow, World.heap_drewN, List.length_append]) <;> omega)) (by ((try simp only [plus_size, World.size_alloc, World.size_drew, World.size_setCell, size_setRow, World.heap_drewN, List.length_append]) <;> omega)) (by (repeat (first | (with_reducible exact List.prefix_rfl) | (with_reducible exact List.nil_prefix) | (refine List.IsPrefix.trans ?_ (List.prefix_append _ _))))))⟩
set_option maxHeartbeats 1000000 in
theorem impl_FullTurnBraid (n : Int) (w : World) : Calls Try.prog 37 #[.int .i64 n] w (RetB2 2 w (halfN' n) (halfL n ++ halfL n) (halfC n)) := by
  have hI := impl_HalfTurnBraid n
  cases hb : inB n 1 8 with
  | false =>
    obtain ⟨e1, e2, e3⟩ := half_no hb
    rw [e1, e2, e3] at hI ⊢
    have HI := Lib.hid hI
    clear e1 e2 e3 hI
    go_enter Try.func37, Try.ntmps37
    go_wp2_with (first | (go_at_call 25; refine Calls.mono (HI.out _) ?_; rintro e w' ⟨vo, rfl, hB, ho⟩; obtain ⟨ao, co, rfl, hs⟩ := id ho.reads; clear hs; obtain ⟨j, d, rfl⟩ := plus_of_below hB; clear hB))
    refine bodyPost_ret (v := .tuple #[.agg #[.int .i64 0, .slice none 0 0], .int .i64 2]) (by simp [results, Try.results37, go_sem]) rfl ?_
    exact ⟨_, rfl, by (repeat (first | (with_reducible exact Below.refl _ _) | (with_reducible assumption) | (with_reducible refine below_plus' ?_ ?_; ((try simp only [plus_size, World.size_alloc, World.size_drew, World.size_setCell, size_setRow, World.heap_drewN, List.length_append]) <;> omega)) | (with_reducible refine below_alloc' ?_ ?_; ((try simp only [plus_size, World.size_alloc, World.size_drew, World.size_setCell, size_setRow, World.heap_drewN, List.length_append]) <;> omega)) | with_reducible refine Below.drew ?_ | (with_reducible refine below_drewN' ?_ _) | exact Below.refl _ _)), own_nil _ _ _⟩
  | true =>
    obtain ⟨m, rfl, hm, e1, e2, e3⟩ := half_yes hb
    rw [e1, e2, e3] at hI ⊢
    have HI := Lib.hid hI
    clear e1 e2 e3 hI
    have hT : (halfW m).length ≤ 49 := by have := halfW_le m hm; omega
    go_enter Try.func37, Try.ntmps37
    go_wp2_with (first | (go_at_call 25; refine Calls.mono (HI.out _) ?_; rintro e w' ⟨vo, rfl, hB, ho⟩; obtain ⟨ao, co, rfl, hs⟩ := id ho.reads; clear hs; obtain ⟨j, d, rfl⟩ := plus_of_below hB; clear hB)
                                        | (go_at_call 71; refine Calls.mono (joined_any _ _ _ _ (halfW m) (halfW m) _ ?_ ?_ (by omega)) ?_; exact ho.reads.kept (by (repeat (first | (with_reducible exact Below.refl _ _) | (with_reducible assumption) | (with_reducible refine below_plus' ?_ ?_; ((try simp only [plus_size, World.size_alloc, World.size_drew, World.size_setCell, size_setRow, World.heap_drewN, List.length_append]) <;> omega)) | (with_reducible refine below_alloc' ?_ ?_; ((try simp only [plus_size, World.size_alloc, World.size_drew, World.size_setCell, size_setRow, World.heap_drewN, List.length_append]) <;> omega)) | with_reducible refine Below.drew ?_ | (with_reducible refine below_drewN' ?_ _) | exact Below.refl _ _))); exact ho.reads.kept (by (repeat (first | (with_reducible exact Below.refl _ _) | (with_reducible assumption) | (with_reducible refine below_plus' ?_ ?_; ((try simp only [plus_size, World.size_alloc, World.size_drew, World.size_setCell, size_setRow, World.heap_drewN, List.length_append]) <;> omega)) | (with_reducible refine below_alloc' ?_ ?_; ((try simp only [plus_size, World.size_alloc, World.size_drew, World.size_setCell, size_setRow, World.heap_drewN, List.length_append]) <;> omega)) | with_reducible refine Below.drew ?_ | (with_reducible refine below_drewN' ?_ _) | exact Below.refl _ _))); rintro e w' ⟨vq, rfl, hB, hown⟩; obtain ⟨aq, cq, rfl, hs⟩ := id hown.reads; clear hs; obtain ⟨j, d, rfl⟩ := plus_of_below hB; clear hB))
    refine bodyPost_ret (v := .tuple #[.agg #[.int .i64 ((m : Int) + 1), .slice aq (halfW m ++ halfW m).length cq], .int .i64 0]) (by simp [results, Try.results37, go_sem]) rfl ?_
    exact ⟨_, rfl, by (repeat (first | (with_reducible exact Below.refl _ _) | (with_reducible assumption) | (with_reducible refine below_plus' ?_ ?_; ((try simp only [plus_size, World.size_alloc, World.size_drew, World.size_setCell, size_setRow, World.heap_drewN, List.length_append]) <;> omega)) | (with_reducible refine below_alloc' ?_ ?_; ((try simp only [plus_size, World.size_alloc, World.size_drew, World.size_setCell, size_setRow, World.heap_drewN, List.length_append]) <;> omega)) | with_reducible refine Below.drew ?_ | (with_reducible refine below_drewN' ?_ _) | exact Below.refl _ _)), by ((try simp only [plus_alloc, plus_plus] at hown ⊢); exact own_far hown (by ((try simp only [plus_size, World.size_alloc, World.size_drew, World.size_setCell, size_setRow, World.heap_drewN, List.length_append, List.length_cons, List.length_nil]) <;> omega)) (by ((try simp only [plus_size, World.size_alloc, World.size_drew, World.size_setCell, size_setRow, World.heap_drewN, List.length_append, List.length_cons, List.length_nil]) <;> omega)) (by ((try simp only [plus_size, World.size_alloc, World.size_drew, World.size_setCell, size_setRow, World.heap_drewN, List.length_append, List.length_cons, List.length_nil]) <;> omega)) (by (repeat (first | (with_reducible exact List.prefix_rfl) | (with_reducible exact List.nil_prefix) | (refine List.IsPrefix.trans ?_ (List.prefix_append _ _))))))⟩
end Go.Proofs.Ytkmfglocjdjhjaa
