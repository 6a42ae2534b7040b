/- Braids joined; half turns. Conditions: as each theorem says. -/
import Derived.Test.YtdbdfaljfidcaaaV3
import Derived.Test.YtdbdfaljfidcaaaI3
namespace Go.Proofs.Ytdbdfaljfidcaaa
open Go.RowKit
set_option linter.unusedSimpArgs false
set_option linter.unusedVariables false
set_option maxHeartbeats 400000 in
theorem l01Own_any (v : Value) (xs : List Int) (w : World) (h : reads w v xs) (hlen : xs.length ≤ 1000000000) : Calls Try.prog 32 #[v] w (RetInts 2 w xs) := by
  have Hr := Lib.hid (fun w' (hb : Below w.heap.size w w') => h.kept hb)
  clear h
  go_enter Try.func32, Try.ntmps32
  go_wp2_with (first | (at_builtin; go_loud (refine wpList_appendL rfl _ _ 22 rfl 2 Try.underlying22 infoI w.heap.size _ _ [] xs rfl rfl (own_made (Nat.le_refl _) (by decide) rfl) (Hr.out _ (by (repeat (first | (with_reducible exact Below.refl _ _) | (with_reducible assumption) | (with_reducible refine below_plus' ?_ ?_; ((try simp only [plus_size, World.size_alloc, World.size_drew, World.size_setCell, size_setRow, World.heap_drewN, List.length_append]) <;> omega)) | (with_reducible refine below_alloc' ?_ ?_; ((try simp only [plus_size, World.size_alloc, World.size_drew, World.size_setCell, size_setRow, World.heap_drewN, List.length_append]) <;> omega)) | with_reducible refine Below.drew ?_ | (with_reducible refine below_drewN' ?_ _) | exact Below.refl _ _)))) (by simp; omega) (by ((try simp only [plus_size, World.size_alloc, World.size_drew, World.size_setCell, size_setRow, World.heap_drewN, List.length_append]) <;> omega)) ?_; intro v' w' hown' hgr hB; replace hB := Below.trans (show Below w.heap.size w _ by (repeat (first | (with_reducible exact Below.refl _ _) | (with_reducible assumption) | (with_reducible refine below_plus' ?_ ?_; ((try simp only [plus_size, World.size_alloc, World.size_drew, World.size_setCell, size_setRow, World.heap_drewN, List.length_append]) <;> omega)) | (with_reducible refine below_alloc' ?_ ?_; ((try simp only [plus_size, World.size_alloc, World.size_drew, World.size_setCell, size_setRow, World.heap_drewN, List.length_append]) <;> omega)) | with_reducible refine Below.drew ?_ | (with_reducible refine below_drewN' ?_ _) | exact Below.refl _ _))) hB; obtain ⟨j, d, rfl⟩ := plus_of_below hB; clear hB hgr)))
  go_ret
  exact ⟨_, rfl, by (repeat (first | (with_reducible exact Below.refl _ _) | (with_reducible assumption) | (with_reducible refine below_plus' ?_ ?_; ((try simp only [plus_size, World.size_alloc, World.size_drew, World.size_setCell, size_setRow, World.heap_drewN, List.length_append]) <;> omega)) | (with_reducible refine below_alloc' ?_ ?_; ((try simp only [plus_size, World.size_alloc, World.size_drew, World.size_setCell, size_setRow, World.heap_drewN, List.length_append]) <;> omega)) | with_reducible refine Below.drew ?_ | (with_reducible refine below_drewN' ?_ _) | exact Below.refl _ _)), by simpa using hown'⟩
set_option maxHeartbeats 1000000 in
theorem joined_any (n m : Int) (v1 v2 : Value) (xs ys : List Int) (w : World) (h1 : reads w v1 xs) (h2 : reads w v2 ys) (hlen : xs.length + ys.length ≤ 1000000000) : Calls Try.prog 31 #[.agg #[.int .i64 n, v1], .agg #[.int .i64 m, v2]] w (RetB 2 w n (xs ++ ys)) := by
  have H1 := Lib.hid (fun w' (hb : Below w.heap.size w w') => h1.kept hb)
  have H2 := Lib.hid (fun w' (hb : Below w.heap.size w w') => h2.kept hb)
  obtain ⟨a1, c1, rfl, hs⟩ := id h1
  obtain ⟨a2, c2, rfl, hs⟩ := id h2
  clear hs h1 h2
  go_enter Try.func31, Try.ntmps31
  go_wp2
  refine region_ghost [2, 5, 8, 9, 10] (by kernel_rfl) (by kernel_rfl) (by kernel_rfl) ?_
  repeat (refine wpPlain_step (fun K hK => ?_); go_simp; first | (refine hK _ ?_; clear hK K) | (apply Exists.intro; refine ⟨fun _ => ?_, hK _ ?_⟩; (fail); clear hK K))
  refine wpPlain_nil ?_
  intro j d
  refine gchain_cons _ rfl ?_
  go_wp2
  refine gExit_normal ⟨.inr (later_of_below (by (repeat (first | (with_reducible exact Below.refl _ _) | (with_reducible assumption) | (with_reducible refine below_plus' ?_ ?_; ((try simp only [plus_size, World.size_alloc, World.size_drew, World.size_setCell, size_setRow, World.heap_drewN, List.length_append]) <;> omega)) | (with_reducible refine below_alloc' ?_ ?_; ((try simp only [plus_size, World.size_alloc, World.size_drew, World.size_setCell, size_setRow, World.heap_drewN, List.length_append]) <;> omega)) | with_reducible refine Below.drew ?_ | (with_reducible refine below_drewN' ?_ _) | exact Below.refl _ _)))), fun j d => ?_⟩
  refine gchain_cons _ rfl ?_
  refine wpList_appendL rfl _ _ 22 rfl 2 Try.underlying22 infoI (((w.alloc (.cells #[.int .i64 n, .slice a1 xs.length c1] 28)).alloc (.cells #[.int .i64 m, .slice a2 ys.length c2] 28)).alloc (.cells #[.int .i64 0, .slice none 0 0] 28)).heap.size _ _ [] xs rfl rfl ?_ (H1.out _ (by (repeat (first | (with_reducible exact Below.refl _ _) | (with_reducible assumption) | (with_reducible refine below_plus' ?_ ?_; ((try simp only [plus_size, World.size_alloc, World.size_drew, World.size_setCell, size_setRow, World.heap_drewN, List.length_append]) <;> omega)) | (with_reducible refine below_alloc' ?_ ?_; ((try simp only [plus_size, World.size_alloc, World.size_drew, World.size_setCell, size_setRow, World.heap_drewN, List.length_append]) <;> omega)) | with_reducible refine Below.drew ?_ | (with_reducible refine below_drewN' ?_ _) | exact Below.refl _ _)))) (by simp; omega) (by ((try simp only [plus_size, World.size_alloc, World.size_drew, World.size_setCell, size_setRow, World.heap_drewN, List.length_append]) <;> omega)) ?_
  · exact own_made_plus (by ((try simp only [plus_size, World.size_alloc, World.size_drew, World.size_setCell, size_setRow, World.heap_drewN, List.length_append]) <;> omega)) (by ((try simp only [plus_size, World.size_alloc, World.size_drew, World.size_setCell, size_setRow, World.heap_drewN, List.length_append]) <;> omega)) (by decide) rfl
  intro v' w' hown' hgr hB
  go_wp2
  replace hB := Below.trans (show Below (((w.alloc (.cells #[.int .i64 n, .slice a1 xs.length c1] 28)).alloc (.cells #[.int .i64 m, .slice a2 ys.length c2] 28)).alloc (.cells #[.int .i64 0, .slice none 0 0] 28)).heap.size (((w.alloc (.cells #[.int .i64 n, .slice a1 xs.length c1] 28)).alloc (.cells #[.int .i64 m, .slice a2 ys.length c2] 28)).alloc (.cells #[.int .i64 0, .slice none 0 0] 28)) _ by (repeat (first | (with_reducible exact Below.refl _ _) | (with_reducible assumption) | (with_reducible refine below_plus' ?_ ?_; ((try simp only [plus_size, World.size_alloc, World.size_drew, World.size_setCell, size_setRow, World.heap_drewN, List.length_append]) <;> omega)) | (with_reducible refine below_alloc' ?_ ?_; ((try simp only [plus_size, World.size_alloc, World.size_drew, World.size_setCell, size_setRow, World.heap_drewN, List.length_append]) <;> omega)) | with_reducible refine Below.drew ?_ | (with_reducible refine below_drewN' ?_ _) | exact Below.refl _ _))) hB
  obtain ⟨j, d, rfl⟩ := plus_of_below hB
  obtain ⟨ao, co, rfl, hs⟩ := id hown'.reads
  try simp only [List.nil_append] at hown'
  try clear hown
  have hown := hown'
  clear hs hB hgr hown'
  refine gExit_normal ⟨.inr (later_of_below (by (repeat (first | (with_reducible exact Below.refl _ _) | (with_reducible assumption) | (with_reducible refine below_plus' ?_ ?_; ((try simp only [plus_size, World.size_alloc, World.size_drew, World.size_setCell, size_setRow, World.heap_drewN, List.length_append]) <;> omega)) | (with_reducible refine below_alloc' ?_ ?_; ((try simp only [plus_size, World.size_alloc, World.size_drew, World.size_setCell, size_setRow, World.heap_drewN, List.length_append]) <;> omega)) | with_reducible refine Below.drew ?_ | (with_reducible refine below_drewN' ?_ _) | exact Below.refl _ _)))), fun j d => ?_⟩
  refine gchain_cons _ rfl ?_
  refine wpList_appendL rfl _ _ 22 rfl 2 Try.underlying22 infoI (((w.alloc (.cells #[.int .i64 n, .slice a1 xs.length c1] 28)).alloc (.cells #[.int .i64 m, .slice a2 ys.length c2] 28)).alloc (.cells #[.int .i64 0, .slice none 0 0] 28)).heap.size _ _ xs ys rfl rfl ?_ (H2.out _ (by (repeat (first | (with_reducible exact Below.refl _ _) | (with_reducible assumption) | (with_reducible refine below_plus' ?_ ?_; ((try simp only [plus_size, World.size_alloc, World.size_drew, World.size_setCell, size_setRow, World.heap_drewN, List.length_append]) <;> omega)) | (with_reducible refine below_alloc' ?_ ?_; ((try simp only [plus_size, World.size_alloc, World.size_drew, World.size_setCell, size_setRow, World.heap_drewN, List.length_append]) <;> omega)) | with_reducible refine Below.drew ?_ | (with_reducible refine below_drewN' ?_ _) | exact Below.refl _ _)))) (hlen) (by ((try simp only [plus_size, World.size_alloc, World.size_drew, World.size_setCell, size_setRow, World.heap_drewN, List.length_append]) <;> omega)) ?_
  · exact own.kept hown (by (repeat (first | (with_reducible exact Below.refl _ _) | (with_reducible assumption) | (with_reducible refine below_plus' ?_ ?_; ((try simp only [plus_size, World.size_alloc, World.size_drew, World.size_setCell, size_setRow, World.heap_drewN, List.length_append]) <;> omega)) | (with_reducible refine below_alloc' ?_ ?_; ((try simp only [plus_size, World.size_alloc, World.size_drew, World.size_setCell, size_setRow, World.heap_drewN, List.length_append]) <;> omega)) | with_reducible refine Below.drew ?_ | (with_reducible refine below_drewN' ?_ _) | exact Below.refl _ _)))
  intro v' w' hown' hgr hB
  go_wp2
  replace hB := Below.trans (show Below (((w.alloc (.cells #[.int .i64 n, .slice a1 xs.length c1] 28)).alloc (.cells #[.int .i64 m, .slice a2 ys.length c2] 28)).alloc (.cells #[.int .i64 0, .slice none 0 0] 28)).heap.size (((w.alloc (.cells #[.int .i64 n, .slice a1 xs.length c1] 28)).alloc (.cells #[.int .i64 m, .slice a2 ys.length c2] 28)).alloc (.cells #[.int .i64 0, .slice none 0 0] 28)) _ by (repeat (first | (with_reducible exact Below.refl _ _) | (with_reducible assumption) | (with_reducible refine below_plus' ?_ ?_; ((try simp only [plus_size, World.size_alloc, World.size_drew, World.size_setCell, size_setRow, World.heap_drewN, List.length_append]) <;> omega)) | (with_reducible refine below_alloc' ?_ ?_; ((try simp only [plus_size, World.size_alloc, World.size_drew, World.size_setCell, size_setRow, World.heap_drewN, List.length_append]) <;> omega)) | with_reducible refine Below.drew ?_ | (with_reducible refine below_drewN' ?_ _) | exact Below.refl _ _))) hB
  obtain ⟨j, d, rfl⟩ := plus_of_below hB
  obtain ⟨ao, co, rfl, hs⟩ := id hown'.reads
  try simp only [List.nil_append] at hown'
  try clear hown
  have hown := hown'
  clear hs hB hgr hown'
  refine gExit_normal ⟨.inr (later_of_below (by (repeat (first | (with_reducible exact Below.refl _ _) | (with_reducible assumption) | (with_reducible refine below_plus' ?_ ?_; ((try simp only [plus_size, World.size_alloc, World.size_drew, World.size_setCell, size_setRow, World.heap_drewN, List.length_append]) <;> omega)) | (with_reducible refine below_alloc' ?_ ?_; ((try simp only [plus_size, World.size_alloc, World.size_drew, World.size_setCell, size_setRow, World.heap_drewN, List.length_append]) <;> omega)) | with_reducible refine Below.drew ?_ | (with_reducible refine below_drewN' ?_ _) | exact Below.refl _ _)))), fun j d => ?_⟩
  refine gchain_cons _ rfl ?_
  go_wp2
  refine gExit_normal ⟨.inr (later_of_below (by (repeat (first | (with_reducible exact Below.refl _ _) | (with_reducible assumption) | (with_reducible refine below_plus' ?_ ?_; ((try simp only [plus_size, World.size_alloc, World.size_drew, World.size_setCell, size_setRow, World.heap_drewN, List.length_append]) <;> omega)) | (with_reducible refine below_alloc' ?_ ?_; ((try simp only [plus_size, World.size_alloc, World.size_drew, World.size_setCell, size_setRow, World.heap_drewN, List.length_append]) <;> omega)) | with_reducible refine Below.drew ?_ | (with_reducible refine below_drewN' ?_ _) | exact Below.refl _ _)))), fun j d => ?_⟩
  refine gchain_cons _ rfl ?_
  go_wp2
  refine gExit_normal ⟨.inl (by kernel_rfl), fun j d => ?_⟩
  refine gchain_nil ?_
  
  go_wp2
  refine bodyPost_ret (v := .agg #[.int .i64 n, .slice ao (xs ++ ys).length co]) (by simp [results, Try.results31, go_sem]) rfl ?_
  exact ⟨_, rfl, by (repeat (first | (with_reducible exact Below.refl _ _) | (with_reducible assumption) | (with_reducible refine below_plus' ?_ ?_; ((try simp only [plus_size, World.size_alloc, World.size_drew, World.size_setCell, size_setRow, World.heap_drewN, List.length_append]) <;> omega)) | (with_reducible refine below_alloc' ?_ ?_; ((try simp only [plus_size, World.size_alloc, World.size_drew, World.size_setCell, size_setRow, World.heap_drewN, List.length_append]) <;> omega)) | with_reducible refine Below.drew ?_ | (with_reducible refine below_drewN' ?_ _) | exact Below.refl _ _)), by ((try simp only [plus_plus] at hown ⊢); exact own_far hown (by ((try simp only [plus_size, World.size_alloc, World.size_drew, World.size_setCell, size_setRow, World.heap_drewN, List.length_append]) <;> omega)) (by ((try simp only [plus_size, World.size_alloc, World.size_drew, World.size_setCell, size_setRow, World.heap_drewN, List.length_append]) <;> omega)) (by ((try simp only [plus_size, World.size_alloc, World.size_drew, World.size_setCell, size_setRow, World.heap_drewN, List.length_append]) <;> omega)) (by (repeat (first | (with_reducible exact List.prefix_rfl) | (with_reducible exact List.nil_prefix) | (refine List.IsPrefix.trans ?_ (List.prefix_append _ _))))))⟩
end Go.Proofs.Ytdbdfaljfidcaaa
