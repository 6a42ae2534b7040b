/- Words that serve all later texts: several texts in one. Conditions: as each theorem says. -/
import Derived.Test.YtblpbkfenmkhbaaGreatDoorV1
import Derived.Deep.Cut
import Derived.Deep.CutRange
import Derived.Test.YtblpbkfenmkhbaaGreatDoorMa
namespace Go.Proofs.YtblpbkfenmkhbaaGreatDoor
open Go.RowKit
set_option linter.unusedSimpArgs false
set_option linter.unusedVariables false
end Go.Proofs.YtblpbkfenmkhbaaGreatDoor
namespace Go.Proofs.YtblpbkfenmkhbaaGreatDoor
open Go.RowKit
set_option linter.unusedSimpArgs false
set_option linter.unusedVariables false
/-- what is answered beside a good code -/
def okS (n : Int) (xs : List Int) (k : Int) : Bool := okW n xs && inB k 0 (8 - n)
def codS (n : Int) (xs : List Int) (k : Int) : Int := if okW n xs = true then (if inB k 0 (8 - n) = true then 0 else 2) else 1
set_option maxHeartbeats 1000000 in
theorem impl_ShiftOf (n : Int) (v : Value) (xs : List Int) (k : Int) (w : World) (h : reads w v xs) (hlen : xs.length ≤ 1000000000) (hfit : Fits xs) : Calls Tryz.prog 16 #[.agg #[.int .i64 n, v], .int .i64 k] w (RetB2 2 w (if okS n xs k = true then n + k else 0) (if okS n xs k = true then xs.map (shiftL k) else []) (codS n xs k)) := by
  have hI := fun w' (hb : Below w.heap.size w w') => impl_IsBraid n v xs w' (h.kept hb) hlen hfit
  cases hok : okW n xs with
  | false =>
    simp only [hok] at hI
    have HI := Lib.hid hI
    simp only [okS, codS, hok, Bool.false_and, Bool.false_eq_true, if_false]
    clear hI h hfit hok
    go_enter Tryz.func16, Tryz.ntmps16
    go_wp2_with (first | (go_at_call 33; refine Calls.mono (HI.out _ ?_) ?_; (repeat (first | (with_reducible exact Below.refl _ _) | (with_reducible assumption) | (with_reducible refine below_plus' ?_ ?_; ((try simp only [plus_size, World.size_alloc, World.size_drew, World.size_setCell, size_setRow, World.heap_drewN, List.length_append]) <;> omega)) | (with_reducible refine below_alloc' ?_ ?_; ((try simp only [plus_size, World.size_alloc, World.size_drew, World.size_setCell, size_setRow, World.heap_drewN, List.length_append]) <;> omega)) | with_reducible refine Below.drew ?_ | (with_reducible refine below_drewN' ?_ _) | exact Below.refl _ _)); rintro e w' ⟨rfl, hB⟩; obtain ⟨j, d, rfl⟩ := plus_of_below hB; clear hB))
    refine bodyPost_ret (v := .tuple #[.agg #[.int .i64 0, .slice none 0 0], .int .i64 1]) (by simp [results, Tryz.results16, go_sem]) rfl ?_
    exact ⟨_, rfl, by (repeat (first | (with_reducible exact Below.refl _ _) | (with_reducible assumption) | (with_reducible refine below_plus' ?_ ?_; ((try simp only [plus_size, World.size_alloc, World.size_drew, World.size_setCell, size_setRow, World.heap_drewN, List.length_append]) <;> omega)) | (with_reducible refine below_alloc' ?_ ?_; ((try simp only [plus_size, World.size_alloc, World.size_drew, World.size_setCell, size_setRow, World.heap_drewN, List.length_append]) <;> omega)) | with_reducible refine Below.drew ?_ | (with_reducible refine below_drewN' ?_ _) | exact Below.refl _ _)), own_nil _ _ _⟩
  | true =>
    simp only [hok] at hI
    have HI := Lib.hid hI
    have h200 := okW_len hok
    have hsm := okW_sm hok
    have hn1 := (okW_n hok).1
    have hn8 := (okW_n hok).2
    clear hI hfit
    cases hin : inB k 0 (8 - n) with
    | false =>
      simp only [okS, codS, hok, hin, Bool.and_false, Bool.false_eq_true, if_false, if_true]
      clear hok h hsm
      go_enter Tryz.func16, Tryz.ntmps16
      go_wp2_with (first | (go_at_call 33; refine Calls.mono (HI.out _ ?_) ?_; (repeat (first | (with_reducible exact Below.refl _ _) | (with_reducible assumption) | (with_reducible refine below_plus' ?_ ?_; ((try simp only [plus_size, World.size_alloc, World.size_drew, World.size_setCell, size_setRow, World.heap_drewN, List.length_append]) <;> omega)) | (with_reducible refine below_alloc' ?_ ?_; ((try simp only [plus_size, World.size_alloc, World.size_drew, World.size_setCell, size_setRow, World.heap_drewN, List.length_append]) <;> omega)) | with_reducible refine Below.drew ?_ | (with_reducible refine below_drewN' ?_ _) | exact Below.refl _ _)); rintro e w' ⟨rfl, hB⟩; obtain ⟨j, d, rfl⟩ := plus_of_below hB; clear hB) | (go_at_call 34; refine Calls.mono (within_any _ _ _ _) ?_; rw [hin]; rintro e w' ⟨rfl, rfl⟩))
      refine bodyPost_ret (v := .tuple #[.agg #[.int .i64 0, .slice none 0 0], .int .i64 2]) (by simp [results, Tryz.results16, go_sem]) rfl ?_
      exact ⟨_, rfl, by (repeat (first | (with_reducible exact Below.refl _ _) | (with_reducible assumption) | (with_reducible refine below_plus' ?_ ?_; ((try simp only [plus_size, World.size_alloc, World.size_drew, World.size_setCell, size_setRow, World.heap_drewN, List.length_append]) <;> omega)) | (with_reducible refine below_alloc' ?_ ?_; ((try simp only [plus_size, World.size_alloc, World.size_drew, World.size_setCell, size_setRow, World.heap_drewN, List.length_append]) <;> omega)) | with_reducible refine Below.drew ?_ | (with_reducible refine below_drewN' ?_ _) | exact Below.refl _ _)), own_nil _ _ _⟩
    | true =>
      have hk0 := (inB_true hin).1
      have hk8 : k ≤ 8 := by have := (inB_true hin).2; omega
      simp only [okS, codS, hok, hin, Bool.and_true, if_true]
      clear hok
      have HC := Lib.hid (fun w' (hb : Below w.heap.size w w') (bb : Nat) (hbb : bb < w'.heap.size) (hbc : w'.cell? ⟨bb, 0, none⟩ = some (.int .i64 k)) => letterBy_shift n v xs k bb w' (h.kept hb) h200 hsm hk0 hk8 hbb hbc)
      clear h hsm
      obtain ⟨L, hLE⟩ : ∃ L, xs.map (shiftL k) = L := ⟨_, rfl⟩
      simp only [hLE] at HC ⊢
      clear hLE
      go_enter Tryz.func16, Tryz.ntmps16
      go_wp2_with (first | (go_at_call 33; refine Calls.mono (HI.out _ ?_) ?_; (repeat (first | (with_reducible exact Below.refl _ _) | (with_reducible assumption) | (with_reducible refine below_plus' ?_ ?_; ((try simp only [plus_size, World.size_alloc, World.size_drew, World.size_setCell, size_setRow, World.heap_drewN, List.length_append]) <;> omega)) | (with_reducible refine below_alloc' ?_ ?_; ((try simp only [plus_size, World.size_alloc, World.size_drew, World.size_setCell, size_setRow, World.heap_drewN, List.length_append]) <;> omega)) | with_reducible refine Below.drew ?_ | (with_reducible refine below_drewN' ?_ _) | exact Below.refl _ _)); rintro e w' ⟨rfl, hB⟩; obtain ⟨j, d, rfl⟩ := plus_of_below hB; clear hB)
                                          | (go_at_call 34; refine Calls.mono (within_any _ _ _ _) ?_; rw [hin]; rintro e w' ⟨rfl, rfl⟩)
                                          | (go_at_call 45; refine Calls.mono (HC.out _ ?_ _ ?_ ?_) ?_; (repeat (first | (with_reducible exact Below.refl _ _) | (with_reducible assumption) | (with_reducible refine below_plus' ?_ ?_; ((try simp only [plus_size, World.size_alloc, World.size_drew, World.size_setCell, size_setRow, World.heap_drewN, List.length_append]) <;> omega)) | (with_reducible refine below_alloc' ?_ ?_; ((try simp only [plus_size, World.size_alloc, World.size_drew, World.size_setCell, size_setRow, World.heap_drewN, List.length_append]) <;> omega)) | with_reducible refine Below.drew ?_ | (with_reducible refine below_drewN' ?_ _) | exact Below.refl _ _)); ((try simp only [plus_size, World.size_alloc, World.size_drew, World.size_setCell, size_setRow, World.heap_drewN, List.length_append]) <;> omega); (rw [plus_cell _ _ _ _ _ (by ((try simp only [plus_size, World.size_alloc, World.size_drew, World.size_setCell, size_setRow, World.heap_drewN, List.length_append]) <;> omega)), World.cell?_alloc_past _ _ _ (by ((try simp only [plus_size, World.size_alloc, World.size_drew, World.size_setCell, size_setRow, World.heap_drewN, List.length_append]) <;> omega)), World.cell?_alloc_at _ _ _ _ (by ((try simp only [plus_size, World.size_alloc, World.size_drew, World.size_setCell, size_setRow, World.heap_drewN, List.length_append]) <;> omega))]; rfl); rintro e w' ⟨vo, rfl, hB, ho⟩; have hro := ho.reads; obtain ⟨ao, co, rfl, hs⟩ := id hro; clear hs; obtain ⟨j, d, rfl⟩ := plus_of_below hB; clear hB))
      refine bodyPost_ret (v := .tuple #[.agg #[.int .i64 (n + k), .slice ao L.length co], .int .i64 0]) (by simp [results, Tryz.results16, go_sem]) rfl ?_
      exact ⟨_, rfl, by (repeat (first | (with_reducible exact Below.refl _ _) | (with_reducible assumption) | (with_reducible refine below_plus' ?_ ?_; ((try simp only [plus_size, World.size_alloc, World.size_drew, World.size_setCell, size_setRow, World.heap_drewN, List.length_append]) <;> omega)) | (with_reducible refine below_alloc' ?_ ?_; ((try simp only [plus_size, World.size_alloc, World.size_drew, World.size_setCell, size_setRow, World.heap_drewN, List.length_append]) <;> omega)) | with_reducible refine Below.drew ?_ | (with_reducible refine below_drewN' ?_ _) | exact Below.refl _ _)), by ((try simp only [plus_alloc, plus_plus] at ho ⊢); exact own_far ho (by ((try simp only [plus_size, World.size_alloc, World.size_drew, World.size_setCell, size_setRow, World.heap_drewN, List.length_append, List.length_cons, List.length_nil]) <;> omega)) (by ((try simp only [plus_size, World.size_alloc, World.size_drew, World.size_setCell, size_setRow, World.heap_drewN, List.length_append, List.length_cons, List.length_nil]) <;> omega)) (by ((try simp only [plus_size, World.size_alloc, World.size_drew, World.size_setCell, size_setRow, World.heap_drewN, List.length_append, List.length_cons, List.length_nil]) <;> omega)) (by (repeat (first | (with_reducible exact List.prefix_rfl) | (with_reducible exact List.nil_prefix) | (refine List.IsPrefix.trans ?_ (List.prefix_append _ _))))))⟩
set_option maxHeartbeats 1000000 in
theorem spec_ShiftOf (n : Int) (v : Value) (xs : List Int) (k : Int) (w : World) (h : reads w v xs) (hlen : xs.length ≤ 1000000000) (hfit : Fits xs) : Calls Tryz.prog 17 #[.agg #[.int .i64 n, v], .int .i64 k] w (RetB2 2 w (if okS n xs k = true then n + k else 0) (if okS n xs k = true then xs.map (shiftL k) else []) (codS n xs k)) := by
  have hI := fun w' (hb : Below w.heap.size w w') => spec_Is n v xs w' (h.kept hb) hlen hfit
  cases hok : okW n xs with
  | false =>
    simp only [hok] at hI
    have HI := Lib.hid hI
    simp only [okS, codS, hok, Bool.false_and, Bool.false_eq_true, if_false]
    clear hI h hfit hok
    go_enter Tryz.func17, Tryz.ntmps17
    go_wp2_with (first | (go_at_call 38; refine Calls.mono (HI.out _ ?_) ?_; (repeat (first | (with_reducible exact Below.refl _ _) | (with_reducible assumption) | (with_reducible refine below_plus' ?_ ?_; ((try simp only [plus_size, World.size_alloc, World.size_drew, World.size_setCell, size_setRow, World.heap_drewN, List.length_append]) <;> omega)) | (with_reducible refine below_alloc' ?_ ?_; ((try simp only [plus_size, World.size_alloc, World.size_drew, World.size_setCell, size_setRow, World.heap_drewN, List.length_append]) <;> omega)) | with_reducible refine Below.drew ?_ | (with_reducible refine below_drewN' ?_ _) | exact Below.refl _ _)); rintro e w' ⟨rfl, hB⟩; obtain ⟨j, d, rfl⟩ := plus_of_below hB; clear hB))
    refine bodyPost_ret (v := .tuple #[.agg #[.int .i64 0, .slice none 0 0], .int .i64 1]) (by simp [results, Tryz.results17, go_sem]) rfl ?_
    exact ⟨_, rfl, by (repeat (first | (with_reducible exact Below.refl _ _) | (with_reducible assumption) | (with_reducible refine below_plus' ?_ ?_; ((try simp only [plus_size, World.size_alloc, World.size_drew, World.size_setCell, size_setRow, World.heap_drewN, List.length_append]) <;> omega)) | (with_reducible refine below_alloc' ?_ ?_; ((try simp only [plus_size, World.size_alloc, World.size_drew, World.size_setCell, size_setRow, World.heap_drewN, List.length_append]) <;> omega)) | with_reducible refine Below.drew ?_ | (with_reducible refine below_drewN' ?_ _) | exact Below.refl _ _)), own_nil _ _ _⟩
  | true =>
    simp only [hok] at hI
    have HI := Lib.hid hI
    have h200 := okW_len hok
    have hsm := okW_sm hok
    have hn1 := (okW_n hok).1
    have hn8 := (okW_n hok).2
    clear hI hfit
    cases hin : inB k 0 (8 - n) with
    | false =>
      simp only [okS, codS, hok, hin, Bool.and_false, Bool.false_eq_true, if_false, if_true]
      clear hok h hsm
      go_enter Tryz.func17, Tryz.ntmps17
      go_wp2_with (first | (go_at_call 38; refine Calls.mono (HI.out _ ?_) ?_; (repeat (first | (with_reducible exact Below.refl _ _) | (with_reducible assumption) | (with_reducible refine below_plus' ?_ ?_; ((try simp only [plus_size, World.size_alloc, World.size_drew, World.size_setCell, size_setRow, World.heap_drewN, List.length_append]) <;> omega)) | (with_reducible refine below_alloc' ?_ ?_; ((try simp only [plus_size, World.size_alloc, World.size_drew, World.size_setCell, size_setRow, World.heap_drewN, List.length_append]) <;> omega)) | with_reducible refine Below.drew ?_ | (with_reducible refine below_drewN' ?_ _) | exact Below.refl _ _)); rintro e w' ⟨rfl, hB⟩; obtain ⟨j, d, rfl⟩ := plus_of_below hB; clear hB) | (go_at_call 39; refine Calls.mono (l01In_any _ _ _ _) ?_; rw [hin]; rintro e w' ⟨rfl, rfl⟩))
      refine bodyPost_ret (v := .tuple #[.agg #[.int .i64 0, .slice none 0 0], .int .i64 2]) (by simp [results, Tryz.results17, go_sem]) rfl ?_
      exact ⟨_, rfl, by (repeat (first | (with_reducible exact Below.refl _ _) | (with_reducible assumption) | (with_reducible refine below_plus' ?_ ?_; ((try simp only [plus_size, World.size_alloc, World.size_drew, World.size_setCell, size_setRow, World.heap_drewN, List.length_append]) <;> omega)) | (with_reducible refine below_alloc' ?_ ?_; ((try simp only [plus_size, World.size_alloc, World.size_drew, World.size_setCell, size_setRow, World.heap_drewN, List.length_append]) <;> omega)) | with_reducible refine Below.drew ?_ | (with_reducible refine below_drewN' ?_ _) | exact Below.refl _ _)), own_nil _ _ _⟩
    | true =>
      have hk0 := (inB_true hin).1
      have hk8 : k ≤ 8 := by have := (inB_true hin).2; omega
      simp only [okS, codS, hok, hin, Bool.and_true, if_true]
      clear hok
      have HC := Lib.hid (fun w' (hb : Below w.heap.size w w') => l01Shifted_any k v xs w' (h.kept hb) h200 hsm hk0 hk8)
      clear h hsm
      obtain ⟨L, hLE⟩ : ∃ L, xs.map (shiftL k) = L := ⟨_, rfl⟩
      simp only [hLE] at HC ⊢
      clear hLE
      go_enter Tryz.func17, Tryz.ntmps17
      go_wp2_with (first | (go_at_call 38; refine Calls.mono (HI.out _ ?_) ?_; (repeat (first | (with_reducible exact Below.refl _ _) | (with_reducible assumption) | (with_reducible refine below_plus' ?_ ?_; ((try simp only [plus_size, World.size_alloc, World.size_drew, World.size_setCell, size_setRow, World.heap_drewN, List.length_append]) <;> omega)) | (with_reducible refine below_alloc' ?_ ?_; ((try simp only [plus_size, World.size_alloc, World.size_drew, World.size_setCell, size_setRow, World.heap_drewN, List.length_append]) <;> omega)) | with_reducible refine Below.drew ?_ | (with_reducible refine below_drewN' ?_ _) | exact Below.refl _ _)); rintro e w' ⟨rfl, hB⟩; obtain ⟨j, d, rfl⟩ := plus_of_below hB; clear hB) | (go_at_call 39; refine Calls.mono (l01In_any _ _ _ _) ?_; rw [hin]; rintro e w' ⟨rfl, rfl⟩))
      refine region_ghost [7, 8, 9, 10] (by kernel_rfl) (by kernel_rfl) (by kernel_rfl) ?_
      repeat (refine wpPlain_step (fun K hK => ?_); go_simp; first | (refine hK _ ?_; clear hK K) | (apply Exists.intro; refine ⟨fun _ => ?_, hK _ ?_⟩; (fail); clear hK K))
      refine wpPlain_nil ?_
      intro j d
      refine gchain_cons _ rfl ?_
      go_wp2_with (first | (go_at_call 47; refine Calls.mono (HC.out _ ?_) ?_; (repeat (first | (with_reducible exact Below.refl _ _) | (with_reducible assumption) | (with_reducible refine below_plus' ?_ ?_; ((try simp only [plus_size, World.size_alloc, World.size_drew, World.size_setCell, size_setRow, World.heap_drewN, List.length_append]) <;> omega)) | (with_reducible refine below_alloc' ?_ ?_; ((try simp only [plus_size, World.size_alloc, World.size_drew, World.size_setCell, size_setRow, World.heap_drewN, List.length_append]) <;> omega)) | with_reducible refine Below.drew ?_ | (with_reducible refine below_drewN' ?_ _) | exact Below.refl _ _)); rintro e w' ⟨vo, rfl, hB, ho⟩; have hro := ho.reads; obtain ⟨ao, co, rfl, hs⟩ := id hro; clear hs; obtain ⟨j, d, rfl⟩ := plus_of_below hB; clear hB))
      refine gExit_normal ⟨.inr (later_of_below (by (repeat (first | (with_reducible exact Below.refl _ _) | (with_reducible assumption) | (with_reducible refine below_plus' ?_ ?_; ((try simp only [plus_size, World.size_alloc, World.size_drew, World.size_setCell, size_setRow, World.heap_drewN, List.length_append]) <;> omega)) | (with_reducible refine below_alloc' ?_ ?_; ((try simp only [plus_size, World.size_alloc, World.size_drew, World.size_setCell, size_setRow, World.heap_drewN, List.length_append]) <;> omega)) | with_reducible refine Below.drew ?_ | (with_reducible refine below_drewN' ?_ _) | exact Below.refl _ _)))), fun j d => ?_⟩
      refine gchain_cons _ rfl ?_
      go_wp2
      refine gExit_normal ⟨.inr (later_of_below (by (repeat (first | (with_reducible exact Below.refl _ _) | (with_reducible assumption) | (with_reducible refine below_plus' ?_ ?_; ((try simp only [plus_size, World.size_alloc, World.size_drew, World.size_setCell, size_setRow, World.heap_drewN, List.length_append]) <;> omega)) | (with_reducible refine below_alloc' ?_ ?_; ((try simp only [plus_size, World.size_alloc, World.size_drew, World.size_setCell, size_setRow, World.heap_drewN, List.length_append]) <;> omega)) | with_reducible refine Below.drew ?_ | (with_reducible refine below_drewN' ?_ _) | exact Below.refl _ _)))), fun j d => ?_⟩
      refine gchain_cons _ rfl ?_
      go_wp2
      refine gExit_normal ⟨.inl (by kernel_rfl), fun j d => ?_⟩
      refine gchain_cons _ rfl ?_
      go_wp2
      refine gExit_normal ⟨.inl (by kernel_rfl), fun j d => ?_⟩
      refine gchain_nil ?_
      go_wp2
      refine bodyPost_ret (v := .tuple #[.agg #[.int .i64 (n + k), .slice ao L.length co], .int .i64 0]) (by simp [results, Tryz.results17, go_sem]) rfl ?_
      exact ⟨_, rfl, by (repeat (first | (with_reducible exact Below.refl _ _) | (with_reducible assumption) | (with_reducible refine below_plus' ?_ ?_; ((try simp only [plus_size, World.size_alloc, World.size_drew, World.size_setCell, size_setRow, World.heap_drewN, List.length_append]) <;> omega)) | (with_reducible refine below_alloc' ?_ ?_; ((try simp only [plus_size, World.size_alloc, World.size_drew, World.size_setCell, size_setRow, World.heap_drewN, List.length_append]) <;> omega)) | with_reducible refine Below.drew ?_ | (with_reducible refine below_drewN' ?_ _) | exact Below.refl _ _)), by ((try simp only [plus_alloc, plus_plus] at ho ⊢); exact own_far ho (by ((try simp only [plus_size, World.size_alloc, World.size_drew, World.size_setCell, size_setRow, World.heap_drewN, List.length_append, List.length_cons, List.length_nil]) <;> omega)) (by ((try simp only [plus_size, World.size_alloc, World.size_drew, World.size_setCell, size_setRow, World.heap_drewN, List.length_append, List.length_cons, List.length_nil]) <;> omega)) (by ((try simp only [plus_size, World.size_alloc, World.size_drew, World.size_setCell, size_setRow, World.heap_drewN, List.length_append, List.length_cons, List.length_nil]) <;> omega)) (by (repeat (first | (with_reducible exact List.prefix_rfl) | (with_reducible exact List.nil_prefix) | (refine List.IsPrefix.trans ?_ (List.prefix_append _ _))))))⟩
end Go.Proofs.YtblpbkfenmkhbaaGreatDoor
namespace Go.Proofs.YtblpbkfenmkhbaaGreatDoor
open Go.RowKit
set_option linter.unusedSimpArgs false
set_option linter.unusedVariables false
/-- what is known in the midst of a law: the boxes, the lists of its own, and that they lie apart -/
structure MidB (w wr : World) (N : Int) (vg vw : Value) (lw lg : List Int) (b4 b7 : Nat) : Prop where
  bel : Below w.heap.size w wr
  h4 : boxed wr b4 26 N vw
  h7 : boxed wr b7 26 N vg
  ow : own 2 wr w.heap.size vw lw
  og : own 2 wr w.heap.size vg lg
  aw : ∀ k, vw.ownBlock = some k → k ≠ b4 ∧ k ≠ b7 ∧ vg.ownBlock ≠ some k
  ag : ∀ k, vg.ownBlock = some k → k ≠ b4 ∧ k ≠ b7 ∧ vw.ownBlock ≠ some k
theorem MidB.kept {w wr w' : World} {N : Int} {vg vw : Value} {lw lg : List Int} {b4 b7 : Nat} (M : MidB w wr N vg vw lw lg b4 b7) (hb : Below wr.heap.size wr w') : MidB w w' N vg vw lw lg b4 b7 :=
  ⟨M.bel.trans (hb.mono M.bel.size), M.h4.kept hb, M.h7.kept hb, M.ow.kept hb, M.og.kept hb, M.aw, M.ag⟩
theorem MidB.markw {w wr w' : World} {N : Int} {vg vw : Value} {lw lg : List Int} {b4 b7 : Nat} {lq : List Int} (M : MidB w wr N vg vw lw lg b4 b7) (hx : own 2 w' w.heap.size vw lq) (hg : wr.grownBy w' vw.ownBlock) : MidB w w' N vg vw lq lg b4 b7 :=
  ⟨M.bel.trans (below_of_grown hg M.bel.size fun k hk => (M.ow.lt k hk).1), M.h4.grown hg (ne_row fun k hk => (M.aw k hk).1), M.h7.grown hg (ne_row fun k hk => (M.aw k hk).2.1), hx, M.og.apart hg (fun k h1 h2 => (M.aw k h2).2.2 h1), M.aw, M.ag⟩
theorem MidB.markg {w wr w' : World} {N : Int} {vg vw : Value} {lw lg : List Int} {b4 b7 : Nat} {lq : List Int} (M : MidB w wr N vg vw lw lg b4 b7) (hx : own 2 w' w.heap.size vg lq) (hg : wr.grownBy w' vg.ownBlock) : MidB w w' N vg vw lw lq b4 b7 :=
  ⟨M.bel.trans (below_of_grown hg M.bel.size fun k hk => (M.og.lt k hk).1), M.h4.grown hg (ne_row fun k hk => (M.ag k hk).1), M.h7.grown hg (ne_row fun k hk => (M.ag k hk).2.1), M.ow.apart hg (fun k h1 h2 => (M.ag k h2).2.2 h1), hx, M.aw, M.ag⟩
end Go.Proofs.YtblpbkfenmkhbaaGreatDoor
namespace Go.Proofs.YtblpbkfenmkhbaaGreatDoor
open Go.RowKit
set_option linter.unusedSimpArgs false
set_option linter.unusedVariables false
set_option maxHeartbeats 400000 in
theorem l01Own_any (v : Value) (xs : List Int) (w : World) (h : reads w v xs) (hlen : xs.length ≤ 1000000000) : Calls Tryz.prog 41 #[v] w (RetInts 2 w xs) := by
  have Hr := Lib.hid (fun w' (hb : Below w.heap.size w w') => h.kept hb)
  clear h
  go_enter Tryz.func41, Tryz.ntmps41
  go_wp2_with (first | (at_builtin; go_loud (refine wpList_appendL rfl _ _ 24 rfl 2 Tryz.underlying24 infoI w.heap.size _ _ [] xs rfl rfl (own_made (Nat.le_refl _) (by decide) rfl) (Hr.out _ (by (repeat (first | (with_reducible exact Below.refl _ _) | (with_reducible assumption) | (with_reducible refine below_plus' ?_ ?_; ((try simp only [plus_size, World.size_alloc, World.size_drew, World.size_setCell, size_setRow, World.heap_drewN, List.length_append]) <;> omega)) | (with_reducible refine below_alloc' ?_ ?_; ((try simp only [plus_size, World.size_alloc, World.size_drew, World.size_setCell, size_setRow, World.heap_drewN, List.length_append]) <;> omega)) | with_reducible refine Below.drew ?_ | (with_reducible refine below_drewN' ?_ _) | exact Below.refl _ _)))) (by simp; omega) (by ((try simp only [plus_size, World.size_alloc, World.size_drew, World.size_setCell, size_setRow, World.heap_drewN, List.length_append]) <;> omega)) ?_; intro v' w' hown' hgr hB; replace hB := Below.trans (show Below w.heap.size w _ by (repeat (first | (with_reducible exact Below.refl _ _) | (with_reducible assumption) | (with_reducible refine below_plus' ?_ ?_; ((try simp only [plus_size, World.size_alloc, World.size_drew, World.size_setCell, size_setRow, World.heap_drewN, List.length_append]) <;> omega)) | (with_reducible refine below_alloc' ?_ ?_; ((try simp only [plus_size, World.size_alloc, World.size_drew, World.size_setCell, size_setRow, World.heap_drewN, List.length_append]) <;> omega)) | with_reducible refine Below.drew ?_ | (with_reducible refine below_drewN' ?_ _) | exact Below.refl _ _))) hB; obtain ⟨j, d, rfl⟩ := plus_of_below hB; clear hB hgr)))
  go_ret
  exact ⟨_, rfl, by (repeat (first | (with_reducible exact Below.refl _ _) | (with_reducible assumption) | (with_reducible refine below_plus' ?_ ?_; ((try simp only [plus_size, World.size_alloc, World.size_drew, World.size_setCell, size_setRow, World.heap_drewN, List.length_append]) <;> omega)) | (with_reducible refine below_alloc' ?_ ?_; ((try simp only [plus_size, World.size_alloc, World.size_drew, World.size_setCell, size_setRow, World.heap_drewN, List.length_append]) <;> omega)) | with_reducible refine Below.drew ?_ | (with_reducible refine below_drewN' ?_ _) | exact Below.refl _ _)), by simpa using hown'⟩
set_option maxHeartbeats 1000000 in
theorem joined_any (n m : Int) (v1 v2 : Value) (xs ys : List Int) (w : World) (h1 : reads w v1 xs) (h2 : reads w v2 ys) (hlen : xs.length + ys.length ≤ 1000000000) : Calls Tryz.prog 37 #[.agg #[.int .i64 n, v1], .agg #[.int .i64 m, v2]] w (RetB 2 w n (xs ++ ys)) := by
  have H1 := Lib.hid (fun w' (hb : Below w.heap.size w w') => h1.kept hb)
  have H2 := Lib.hid (fun w' (hb : Below w.heap.size w w') => h2.kept hb)
  obtain ⟨a1, c1, rfl, hs⟩ := id h1
  obtain ⟨a2, c2, rfl, hs⟩ := id h2
  clear hs h1 h2
  go_enter Tryz.func37, Tryz.ntmps37
  go_wp2
  refine region_ghost [2, 5, 8, 9, 10] (by kernel_rfl) (by kernel_rfl) (by kernel_rfl) ?_
  repeat (refine wpPlain_step (fun K hK => ?_); go_simp; first | (refine hK _ ?_; clear hK K) | (apply Exists.intro; refine ⟨fun _ => ?_, hK _ ?_⟩; (fail); clear hK K))
  refine wpPlain_nil ?_
  intro j d
  refine gchain_cons _ rfl ?_
  go_wp2
  refine gExit_normal ⟨.inr (later_of_below (by (repeat (first | (with_reducible exact Below.refl _ _) | (with_reducible assumption) | (with_reducible refine below_plus' ?_ ?_; ((try simp only [plus_size, World.size_alloc, World.size_drew, World.size_setCell, size_setRow, World.heap_drewN, List.length_append]) <;> omega)) | (with_reducible refine below_alloc' ?_ ?_; ((try simp only [plus_size, World.size_alloc, World.size_drew, World.size_setCell, size_setRow, World.heap_drewN, List.length_append]) <;> omega)) | with_reducible refine Below.drew ?_ | (with_reducible refine below_drewN' ?_ _) | exact Below.refl _ _)))), fun j d => ?_⟩
  refine gchain_cons _ rfl ?_
  refine wpList_appendL rfl _ _ 24 rfl 2 Tryz.underlying24 infoI (((w.alloc (.cells #[.int .i64 n, .slice a1 xs.length c1] 26)).alloc (.cells #[.int .i64 m, .slice a2 ys.length c2] 26)).alloc (.cells #[.int .i64 0, .slice none 0 0] 26)).heap.size _ _ [] xs rfl rfl ?_ (H1.out _ (by (repeat (first | (with_reducible exact Below.refl _ _) | (with_reducible assumption) | (with_reducible refine below_plus' ?_ ?_; ((try simp only [plus_size, World.size_alloc, World.size_drew, World.size_setCell, size_setRow, World.heap_drewN, List.length_append]) <;> omega)) | (with_reducible refine below_alloc' ?_ ?_; ((try simp only [plus_size, World.size_alloc, World.size_drew, World.size_setCell, size_setRow, World.heap_drewN, List.length_append]) <;> omega)) | with_reducible refine Below.drew ?_ | (with_reducible refine below_drewN' ?_ _) | exact Below.refl _ _)))) (by simp; omega) (by ((try simp only [plus_size, World.size_alloc, World.size_drew, World.size_setCell, size_setRow, World.heap_drewN, List.length_append]) <;> omega)) ?_
  · exact own_made_plus (by ((try simp only [plus_size, World.size_alloc, World.size_drew, World.size_setCell, size_setRow, World.heap_drewN, List.length_append]) <;> omega)) (by ((try simp only [plus_size, World.size_alloc, World.size_drew, World.size_setCell, size_setRow, World.heap_drewN, List.length_append]) <;> omega)) (by decide) rfl
  intro v' w' hown' hgr hB
  go_wp2
  replace hB := Below.trans (show Below (((w.alloc (.cells #[.int .i64 n, .slice a1 xs.length c1] 26)).alloc (.cells #[.int .i64 m, .slice a2 ys.length c2] 26)).alloc (.cells #[.int .i64 0, .slice none 0 0] 26)).heap.size (((w.alloc (.cells #[.int .i64 n, .slice a1 xs.length c1] 26)).alloc (.cells #[.int .i64 m, .slice a2 ys.length c2] 26)).alloc (.cells #[.int .i64 0, .slice none 0 0] 26)) _ by (repeat (first | (with_reducible exact Below.refl _ _) | (with_reducible assumption) | (with_reducible refine below_plus' ?_ ?_; ((try simp only [plus_size, World.size_alloc, World.size_drew, World.size_setCell, size_setRow, World.heap_drewN, List.length_append]) <;> omega)) | (with_reducible refine below_alloc' ?_ ?_; ((try simp only [plus_size, World.size_alloc, World.size_drew, World.size_setCell, size_setRow, World.heap_drewN, List.length_append]) <;> omega)) | with_reducible refine Below.drew ?_ | (with_reducible refine below_drewN' ?_ _) | exact Below.refl _ _))) hB
  obtain ⟨j, d, rfl⟩ := plus_of_below hB
  obtain ⟨ao, co, rfl, hs⟩ := id hown'.reads
  try simp only [List.nil_append] at hown'
  try clear hown
  have hown := hown'
  clear hs hB hgr hown'
  refine gExit_normal ⟨.inr (later_of_below (by (repeat (first | (with_reducible exact Below.refl _ _) | (with_reducible assumption) | (with_reducible refine below_plus' ?_ ?_; ((try simp only [plus_size, World.size_alloc, World.size_drew, World.size_setCell, size_setRow, World.heap_drewN, List.length_append]) <;> omega)) | (with_reducible refine below_alloc' ?_ ?_; ((try simp only [plus_size, World.size_alloc, World.size_drew, World.size_setCell, size_setRow, World.heap_drewN, List.length_append]) <;> omega)) | with_reducible refine Below.drew ?_ | (with_reducible refine below_drewN' ?_ _) | exact Below.refl _ _)))), fun j d => ?_⟩
  refine gchain_cons _ rfl ?_
  refine wpList_appendL rfl _ _ 24 rfl 2 Tryz.underlying24 infoI (((w.alloc (.cells #[.int .i64 n, .slice a1 xs.length c1] 26)).alloc (.cells #[.int .i64 m, .slice a2 ys.length c2] 26)).alloc (.cells #[.int .i64 0, .slice none 0 0] 26)).heap.size _ _ xs ys rfl rfl ?_ (H2.out _ (by (repeat (first | (with_reducible exact Below.refl _ _) | (with_reducible assumption) | (with_reducible refine below_plus' ?_ ?_; ((try simp only [plus_size, World.size_alloc, World.size_drew, World.size_setCell, size_setRow, World.heap_drewN, List.length_append]) <;> omega)) | (with_reducible refine below_alloc' ?_ ?_; ((try simp only [plus_size, World.size_alloc, World.size_drew, World.size_setCell, size_setRow, World.heap_drewN, List.length_append]) <;> omega)) | with_reducible refine Below.drew ?_ | (with_reducible refine below_drewN' ?_ _) | exact Below.refl _ _)))) (hlen) (by ((try simp only [plus_size, World.size_alloc, World.size_drew, World.size_setCell, size_setRow, World.heap_drewN, List.length_append]) <;> omega)) ?_
  · exact own.kept hown (by (repeat (first | (with_reducible exact Below.refl _ _) | (with_reducible assumption) | (with_reducible refine below_plus' ?_ ?_; ((try simp only [plus_size, World.size_alloc, World.size_drew, World.size_setCell, size_setRow, World.heap_drewN, List.length_append]) <;> omega)) | (with_reducible refine below_alloc' ?_ ?_; ((try simp only [plus_size, World.size_alloc, World.size_drew, World.size_setCell, size_setRow, World.heap_drewN, List.length_append]) <;> omega)) | with_reducible refine Below.drew ?_ | (with_reducible refine below_drewN' ?_ _) | exact Below.refl _ _)))
  intro v' w' hown' hgr hB
  go_wp2
  replace hB := Below.trans (show Below (((w.alloc (.cells #[.int .i64 n, .slice a1 xs.length c1] 26)).alloc (.cells #[.int .i64 m, .slice a2 ys.length c2] 26)).alloc (.cells #[.int .i64 0, .slice none 0 0] 26)).heap.size (((w.alloc (.cells #[.int .i64 n, .slice a1 xs.length c1] 26)).alloc (.cells #[.int .i64 m, .slice a2 ys.length c2] 26)).alloc (.cells #[.int .i64 0, .slice none 0 0] 26)) _ by (repeat (first | (with_reducible exact Below.refl _ _) | (with_reducible assumption) | (with_reducible refine below_plus' ?_ ?_; ((try simp only [plus_size, World.size_alloc, World.size_drew, World.size_setCell, size_setRow, World.heap_drewN, List.length_append]) <;> omega)) | (with_reducible refine below_alloc' ?_ ?_; ((try simp only [plus_size, World.size_alloc, World.size_drew, World.size_setCell, size_setRow, World.heap_drewN, List.length_append]) <;> omega)) | with_reducible refine Below.drew ?_ | (with_reducible refine below_drewN' ?_ _) | exact Below.refl _ _))) hB
  obtain ⟨j, d, rfl⟩ := plus_of_below hB
  obtain ⟨ao, co, rfl, hs⟩ := id hown'.reads
  try simp only [List.nil_append] at hown'
  try clear hown
  have hown := hown'
  clear hs hB hgr hown'
  refine gExit_normal ⟨.inr (later_of_below (by (repeat (first | (with_reducible exact Below.refl _ _) | (with_reducible assumption) | (with_reducible refine below_plus' ?_ ?_; ((try simp only [plus_size, World.size_alloc, World.size_drew, World.size_setCell, size_setRow, World.heap_drewN, List.length_append]) <;> omega)) | (with_reducible refine below_alloc' ?_ ?_; ((try simp only [plus_size, World.size_alloc, World.size_drew, World.size_setCell, size_setRow, World.heap_drewN, List.length_append]) <;> omega)) | with_reducible refine Below.drew ?_ | (with_reducible refine below_drewN' ?_ _) | exact Below.refl _ _)))), fun j d => ?_⟩
  refine gchain_cons _ rfl ?_
  go_wp2
  refine gExit_normal ⟨.inr (later_of_below (by (repeat (first | (with_reducible exact Below.refl _ _) | (with_reducible assumption) | (with_reducible refine below_plus' ?_ ?_; ((try simp only [plus_size, World.size_alloc, World.size_drew, World.size_setCell, size_setRow, World.heap_drewN, List.length_append]) <;> omega)) | (with_reducible refine below_alloc' ?_ ?_; ((try simp only [plus_size, World.size_alloc, World.size_drew, World.size_setCell, size_setRow, World.heap_drewN, List.length_append]) <;> omega)) | with_reducible refine Below.drew ?_ | (with_reducible refine below_drewN' ?_ _) | exact Below.refl _ _)))), fun j d => ?_⟩
  refine gchain_cons _ rfl ?_
  go_wp2
  refine gExit_normal ⟨.inl (by kernel_rfl), fun j d => ?_⟩
  refine gchain_nil ?_
  
  go_wp2
  refine bodyPost_ret (v := .agg #[.int .i64 n, .slice ao (xs ++ ys).length co]) (by simp [results, Tryz.results37, go_sem]) rfl ?_
  exact ⟨_, rfl, by (repeat (first | (with_reducible exact Below.refl _ _) | (with_reducible assumption) | (with_reducible refine below_plus' ?_ ?_; ((try simp only [plus_size, World.size_alloc, World.size_drew, World.size_setCell, size_setRow, World.heap_drewN, List.length_append]) <;> omega)) | (with_reducible refine below_alloc' ?_ ?_; ((try simp only [plus_size, World.size_alloc, World.size_drew, World.size_setCell, size_setRow, World.heap_drewN, List.length_append]) <;> omega)) | with_reducible refine Below.drew ?_ | (with_reducible refine below_drewN' ?_ _) | exact Below.refl _ _)), by ((try simp only [plus_plus] at hown ⊢); exact own_far hown (by ((try simp only [plus_size, World.size_alloc, World.size_drew, World.size_setCell, size_setRow, World.heap_drewN, List.length_append]) <;> omega)) (by ((try simp only [plus_size, World.size_alloc, World.size_drew, World.size_setCell, size_setRow, World.heap_drewN, List.length_append]) <;> omega)) (by ((try simp only [plus_size, World.size_alloc, World.size_drew, World.size_setCell, size_setRow, World.heap_drewN, List.length_append]) <;> omega)) (by (repeat (first | (with_reducible exact List.prefix_rfl) | (with_reducible exact List.nil_prefix) | (refine List.IsPrefix.trans ?_ (List.prefix_append _ _))))))⟩
end Go.Proofs.YtblpbkfenmkhbaaGreatDoor
namespace Go.Proofs.YtblpbkfenmkhbaaGreatDoor
open Go.RowKit
set_option linter.unusedSimpArgs false
set_option linter.unusedVariables false
/-- i, i + 1, .. (c numbers) -/
def rowR (i : Nat) : Nat → List Int
  | 0 => []
  | c + 1 => (i : Int) :: rowR (i + 1) c
/-- the letters of the half turn of k + 1 strands -/
def halfW : Nat → List Int
  | 0 => []
  | k + 1 => rowR 1 (k + 1) ++ halfW k
theorem rowR_length : ∀ (c i : Nat), (rowR i c).length = c
  | 0, i => rfl
  | c + 1, i => by simp [rowR, rowR_length c]
theorem halfW_le : ∀ k : Nat, k ≤ 7 → (halfW k).length ≤ 7 * k
  | 0, _ => by simp [halfW]
  | k + 1, h => by
    have := halfW_le k (by omega)
    simp only [halfW, List.length_append, rowR_length]
    omega
theorem row_step {l r t : List Int} {i c : Nat} (h : l ++ (rowR i (c + 1) ++ r) = t) : (l ++ [(i : Int)]) ++ (rowR (i + 1) c ++ r) = t := by
  rw [← h]; simp [rowR]
theorem row_end {l r t : List Int} {i : Nat} (h : l ++ (rowR i 0 ++ r) = t) : l ++ r = t := by
  rw [← h]; simp [rowR]
theorem half_step {l t : List Int} {k : Nat} (hk : 0 < k) (h : l ++ halfW k = t) : l ++ (rowR 1 k ++ halfW (k - 1)) = t := by
  obtain ⟨p, rfl⟩ : ∃ p, k = p + 1 := ⟨k - 1, by omega⟩
  exact h
theorem le_of_total {l r t : List Int} {m : Nat} (h : l ++ r = t) (ht : t.length ≤ m) : l.length ≤ m := by
  have := congrArg List.length h
  rw [List.length_append] at this
  omega
set_option maxHeartbeats 1000000 in
theorem l01Half_any (m : Nat) (w : World) (hm : m ≤ 7) : Calls Tryz.prog 58 #[.int .i64 ((m : Int) + 1)] w (RetInts 2 w (halfW m)) := by
  have hT : (halfW m).length ≤ 49 := by have := halfW_le m hm; omega
  go_enter Tryz.func58, Tryz.ntmps58
  go_wp2
  go_loopw [3, 4] (fun vo sk wr => ∃ (v0 : Value) (l : List Int) (k : Nat) (j : List Obj) (d : Nat), v0 = vo ∧ Hid (l ++ halfW k = halfW m) ∧ k ≤ m ∧ sk = .int .i64 k ∧ wr = plus w j d ∧ own 2 (plus w j d) w.heap.size v0 l) (fun _ sk _ => (intOf sk).toNat)
  case atStart => exact ⟨_, [], m, [.cells #[] 2], w.drawn, rfl, Lib.hid rfl, Nat.le_refl _, by go_num, rfl, own_made (Nat.le_refl _) (by decide) rfl⟩
  case round =>
    obtain ⟨v, l, k, j, d, rfl, HLl, hk, rfl, rfl, hown⟩ := hrel
    by_cases hlt : 0 < k
    · have HL0 := Lib.hid (half_step hlt HLl.out)
      have hp1 : ((k - 1 : Nat) : Int) = (k : Int) - 1 := by omega
      clear HLl
      go_wp2
      go_loopw [3, 5] (fun vo si wr => ∃ (v0 : Value) (l : List Int) (i c : Nat) (j : List Obj) (d : Nat), v0 = vo ∧ Hid (l ++ (rowR i c ++ halfW (k - 1)) = halfW m) ∧ i + c = k + 1 ∧ si = .int .i64 i ∧ wr = plus w j d ∧ own 2 (plus w j d) w.heap.size v0 l) (fun _ si _ => k + 1 - (intOf si).toNat)
      case atStart => exact ⟨_, l, 1, k, j, d, rfl, HL0, by omega, rfl, rfl, hown⟩
      case round =>
        clear hown HL0
        obtain ⟨v, l, i, c, j, d, rfl, HLl, hic, rfl, rfl, hown⟩ := hrel
        by_cases hc : 0 < c
        · obtain ⟨c, rfl⟩ : ∃ c', c = c' + 1 := ⟨c - 1, by omega⟩
          have hll : l.length < 1000000000 := by have := le_of_total HLl.out hT; omega
          have HB := Lib.hid (row_step HLl.out)
          have hi1 : (i : Int) ≤ (k : Int) := by omega
          go_wp2_with (first | (at_builtin; go_loud (refine wpList_append1p rfl _ _ 24 rfl Tryz.underlying24 infoI _ rfl _ rfl ?_ hown ?_ ?_; ((try simp only [plus_size, World.size_alloc, World.size_drew, World.size_setCell, size_setRow, World.heap_drewN, List.length_append]) <;> omega); (omega); intro v' j' d' hown'; clear hown)))
          go_roundw
          case rel => exact ⟨_, _, i + 1, c, _, _, rfl, HB, by omega, by go_num, rfl, hown'⟩
          case measure => simp [intOf]; omega
        · obtain rfl : c = 0 := by omega
          have HB := Lib.hid (row_end HLl.out)
          have hi1 : ¬ (i : Int) ≤ (k : Int) := by omega
          go_wp2
          go_roundw
          case rel => exact ⟨_, _, k - 1, _, _, rfl, HB, by omega, by rw [hp1], rfl, hown⟩
          case measure => simp [intOf]; omega
    · obtain rfl : k = 0 := by omega
      have HE := Lib.hid (show l = halfW m by rw [← HLl.out]; simp [halfW])
      go_wp2
      go_ret
      exact ⟨_, rfl, by (repeat (first | (with_reducible exact Below.refl _ _) | (with_reducible assumption) | (with_reducible refine below_plus' ?_ ?_; ((try simp only [plus_size, World.size_alloc, World.size_drew, World.size_setCell, size_setRow, World.heap_drewN, List.length_append]) <;> omega)) | (with_reducible refine below_alloc' ?_ ?_; ((try simp only [plus_size, World.size_alloc, World.size_drew, World.size_setCell, size_setRow, World.heap_drewN, List.length_append]) <;> omega)) | with_reducible refine Below.drew ?_ | (with_reducible refine below_drewN' ?_ _) | exact Below.refl _ _)), by rw [← HE.out]; exact hown⟩
end Go.Proofs.YtblpbkfenmkhbaaGreatDoor
namespace Go.Proofs.YtblpbkfenmkhbaaGreatDoor
open Go.RowKit
set_option linter.unusedSimpArgs false
set_option linter.unusedVariables false
/-- what is answered for so many strands -/
def halfL (n : Int) : List Int := if inB n 1 8 = true then halfW (n.toNat - 1) else []
def halfC (n : Int) : Int := if inB n 1 8 = true then 0 else 2
def halfN' (n : Int) : Int := if inB n 1 8 = true then n else 0
theorem halfL_le (n : Int) : (halfL n).length ≤ 49 := by
  unfold halfL
  split
  · rename_i h
    have := inB_true h
    have := halfW_le (n.toNat - 1) (by omega)
    omega
  · simp
theorem half_yes {n : Int} (h : inB n 1 8 = true) : ∃ m : Nat, n = (m : Int) + 1 ∧ m ≤ 7 ∧ halfL n = halfW m ∧ halfC n = 0 ∧ halfN' n = n := by
  have h' := inB_true h
  refine ⟨n.toNat - 1, by omega, by omega, by simp [halfL, h], by simp [halfC, h], by simp [halfN', h]⟩
theorem half_no {n : Int} (h : inB n 1 8 = false) : halfL n = [] ∧ halfC n = 2 ∧ halfN' n = 0 := by simp [halfL, halfC, halfN', h]
set_option maxHeartbeats 1000000 in
theorem spec_HalfTurnBraid (n : Int) (w : World) : Calls Tryz.prog 23 #[.int .i64 n] w (RetB2 2 w (halfN' n) (halfL n) (halfC n)) := by
  cases hb : inB n 1 8 with
  | false =>
    obtain ⟨e1, e2, e3⟩ := half_no hb
    rw [e1, e2, e3]
    clear e1 e2 e3
    go_enter Tryz.func23, Tryz.ntmps23
    go_wp2_with (first | (go_at_call 39; refine (l01In_any _ _ _ _).mono ?_; rintro e w' ⟨rfl, rfl⟩))
    refine bodyPost_ret (v := .tuple #[.agg #[.int .i64 0, .slice none 0 0], .int .i64 2]) (by simp [results, Tryz.results23, go_sem]) rfl ?_
    exact ⟨_, rfl, by (repeat (first | (with_reducible exact Below.refl _ _) | (with_reducible assumption) | (with_reducible refine below_plus' ?_ ?_; ((try simp only [plus_size, World.size_alloc, World.size_drew, World.size_setCell, size_setRow, World.heap_drewN, List.length_append]) <;> omega)) | (with_reducible refine below_alloc' ?_ ?_; ((try simp only [plus_size, World.size_alloc, World.size_drew, World.size_setCell, size_setRow, World.heap_drewN, List.length_append]) <;> omega)) | with_reducible refine Below.drew ?_ | (with_reducible refine below_drewN' ?_ _) | exact Below.refl _ _)), own_nil _ _ _⟩
  | true =>
    obtain ⟨m, rfl, hm, e1, e2, e3⟩ := half_yes hb
    rw [e1, e2, e3]
    clear e1 e2 e3
    go_enter Tryz.func23, Tryz.ntmps23
    go_wp2_with (first | (go_at_call 39; refine (l01In_any _ _ _ _).mono ?_; rintro e w' ⟨rfl, rfl⟩) | (go_at_call 58; refine Calls.mono (l01Half_any m _ hm) ?_; rintro e w' ⟨vo, rfl, hB, ho⟩; obtain ⟨ao, co, rfl, hs⟩ := id ho.reads; clear hs; obtain ⟨j, d, rfl⟩ := plus_of_below hB; clear hB))
    refine bodyPost_ret (v := .tuple #[.agg #[.int .i64 ((m : Int) + 1), .slice ao (halfW m).length co], .int .i64 0]) (by simp [results, Tryz.results23, go_sem]) rfl ?_
    exact ⟨_, rfl, by (repeat (first | (with_reducible exact Below.refl _ _) | (with_reducible assumption) | (with_reducible refine below_plus' ?_ ?_; ((try simp only [plus_size, World.size_alloc, World.size_drew, World.size_setCell, size_setRow, World.heap_drewN, List.length_append]) <;> omega)) | (with_reducible refine below_alloc' ?_ ?_; ((try simp only [plus_size, World.size_alloc, World.size_drew, World.size_setCell, size_setRow, World.heap_drewN, List.length_append]) <;> omega)) | with_reducible refine Below.drew ?_ | (with_reducible refine below_drewN' ?_ _) | exact Below.refl _ _)), by ((try simp only [plus_plus] at ho ⊢); exact own_far ho (by ((try simp only [plus_size, World.size_alloc, World.size_drew, World.size_setCell, size_setRow, World.heap_drewN, List.length_append]) <;> omega)) (by ((try simp only [plus_size, World.size_alloc, World.size_drew, World.size_setCell, size_setRow, World.heap_drewN, List.length_append]) <;> omega)) (by ((try simp only [plus_size, World.size_alloc, World.size_drew, World.size_setCell, size_setRow, World.heap_drewN, List.length_append]) <;> omega)) (by (repeat (first | (with_reducible exact List.prefix_rfl) | (with_reducible exact List.nil_prefix) | (refine List.IsPrefix.trans ?_ (List.prefix_append _ _))))))⟩
set_option maxHeartbeats 1000000 in
theorem impl_HalfTurnBraid (n : Int) (w : World) : Calls Tryz.prog 22 #[.int .i64 n] w (RetB2 2 w (halfN' n) (halfL n) (halfC n)) := by
  cases hb : inB n 1 8 with
  | false =>
    obtain ⟨e1, e2, e3⟩ := half_no hb
    rw [e1, e2, e3]
    clear e1 e2 e3
    go_enter Tryz.func22, Tryz.ntmps22
    go_wp2_with (first | (go_at_call 57; refine (isCount_any _ _).mono ?_; rintro e w' ⟨rfl, rfl⟩))
    refine bodyPost_ret (v := .tuple #[.agg #[.int .i64 0, .slice none 0 0], .int .i64 2]) (by simp [results, Tryz.results22, go_sem]) rfl ?_
    exact ⟨_, rfl, by (repeat (first | (with_reducible exact Below.refl _ _) | (with_reducible assumption) | (with_reducible refine below_plus' ?_ ?_; ((try simp only [plus_size, World.size_alloc, World.size_drew, World.size_setCell, size_setRow, World.heap_drewN, List.length_append]) <;> omega)) | (with_reducible refine below_alloc' ?_ ?_; ((try simp only [plus_size, World.size_alloc, World.size_drew, World.size_setCell, size_setRow, World.heap_drewN, List.length_append]) <;> omega)) | with_reducible refine Below.drew ?_ | (with_reducible refine below_drewN' ?_ _) | exact Below.refl _ _)), own_nil _ _ _⟩
  | true =>
    obtain ⟨m, rfl, hm, e1, e2, e3⟩ := half_yes hb
    rw [e1, e2, e3]
    clear e1 e2 e3
    have hT : (halfW m).length ≤ 49 := by have := halfW_le m hm; omega
    go_enter Tryz.func22, Tryz.ntmps22
    go_wp2_with (first | (go_at_call 57; refine (isCount_any _ _).mono ?_; rintro e w' ⟨rfl, rfl⟩))
    go_loopw [5] (fun sk wr => ∃ (vo : Value) (l : List Int) (k : Nat) (j : List Obj) (d : Nat), Hid (l ++ halfW k = halfW m) ∧ k ≤ m ∧ sk = .int .i64 k ∧ wr = plus ((w.alloc (.cells #[.int .i64 0, .slice none 0 0] 26)).alloc (.cells #[.int .i64 ((m : Int) + 1), vo] 26)) j d ∧ own 2 (plus ((w.alloc (.cells #[.int .i64 0, .slice none 0 0] 26)).alloc (.cells #[.int .i64 ((m : Int) + 1), vo] 26)) j d) ((w.alloc (.cells #[.int .i64 0, .slice none 0 0] 26)).alloc (.cells #[.int .i64 ((m : Int) + 1), vo] 26)).heap.size vo l) (fun sk _ => (intOf sk).toNat)
    case atStart => exact ⟨_, [], m, [], w.drawn, Lib.hid rfl, Nat.le_refl _, by go_num, (plus_nil _).symm, own_nil _ _ _⟩
    case round =>
      obtain ⟨vo, l, k, j, d, HLl, hk, rfl, rfl, hown⟩ := hrel
      obtain ⟨ao, co, rfl, hs⟩ := id hown.reads
      clear hs
      by_cases hlt : 0 < k
      · have HL0 := Lib.hid (half_step hlt HLl.out)
        have hp1 : ((k - 1 : Nat) : Int) = (k : Int) - 1 := by omega
        have hk1 : 1 ≤ (k : Int) := by omega
        clear HLl
        go_wp2
        go_loopw [6] (fun si wr => ∃ (vo : Value) (l : List Int) (i c : Nat) (j : List Obj) (d : Nat), Hid (l ++ (rowR i c ++ halfW (k - 1)) = halfW m) ∧ i + c = k + 1 ∧ si = .int .i64 i ∧ wr = plus ((w.alloc (.cells #[.int .i64 0, .slice none 0 0] 26)).alloc (.cells #[.int .i64 ((m : Int) + 1), vo] 26)) j d ∧ own 2 (plus ((w.alloc (.cells #[.int .i64 0, .slice none 0 0] 26)).alloc (.cells #[.int .i64 ((m : Int) + 1), vo] 26)) j d) ((w.alloc (.cells #[.int .i64 0, .slice none 0 0] 26)).alloc (.cells #[.int .i64 ((m : Int) + 1), vo] 26)).heap.size vo l) (fun si _ => k + 1 - (intOf si).toNat)
        case atStart => exact ⟨_, l, 1, k, j, d, HL0, by omega, rfl, rfl, hown⟩
        case round =>
          clear hown HL0
          obtain ⟨vo, l, i, c, j, d, HLl, hic, rfl, rfl, hown⟩ := hrel
          obtain ⟨ao, co, rfl, hs⟩ := id hown.reads
          clear hs
          by_cases hc : 0 < c
          · obtain ⟨c, rfl⟩ : ∃ c', c = c' + 1 := ⟨c - 1, by omega⟩
            have hll : l.length < 1000000000 := by have := le_of_total HLl.out hT; omega
            have HB := Lib.hid (row_step HLl.out)
            have hi1 : (i : Int) ≤ (k : Int) := by omega
            go_wp2_with (first | (at_builtin; go_loud (refine wpList_append1p (W := ((w.alloc (.cells #[.int .i64 0, .slice none 0 0] 26)).alloc (.cells #[.int .i64 ((m : Int) + 1), .slice ao l.length co] 26))) rfl _ _ 24 rfl Tryz.underlying24 infoI _ rfl _ rfl ?_ hown ?_ ?_; ((try simp only [plus_size, World.size_alloc, World.size_drew, World.size_setCell, size_setRow, World.heap_drewN, List.length_append]) <;> omega); (omega); intro v' j' d' hown'; clear hown; obtain ⟨av, cv, rfl, hs⟩ := id hown'.reads; clear hs)))
            have hL : (l ++ [(i : Int)]).length = l.length + 1 := by simp
            rw [hL] at hown'
            go_roundw
            case rel => exact ⟨.slice av (l.length + 1) cv, _, i + 1, c, _, _, HB, by omega, by go_num, rfl, own_far hown' (by ((try simp only [plus_size, World.size_alloc, World.size_drew, World.size_setCell, size_setRow, World.heap_drewN, List.length_append]) <;> omega)) (by ((try simp only [plus_size, World.size_alloc, World.size_drew, World.size_setCell, size_setRow, World.heap_drewN, List.length_append]) <;> omega)) (by ((try simp only [plus_size, World.size_alloc, World.size_drew, World.size_setCell, size_setRow, World.heap_drewN, List.length_append]) <;> omega)) List.prefix_rfl⟩
            case measure => simp [intOf]; omega
          · obtain rfl : c = 0 := by omega
            have HB := Lib.hid (row_end HLl.out)
            have hi1 : ¬ (i : Int) ≤ (k : Int) := by omega
            go_wp2
            go_roundw
            case rel => exact ⟨_, _, k - 1, _, _, HB, by omega, by rw [hp1], rfl, hown⟩
            case measure => simp [intOf]; omega
      · obtain rfl : k = 0 := by omega
        have HE := Lib.hid (show l = halfW m by rw [← HLl.out]; simp [halfW])
        have hk1 : ¬ 1 ≤ ((0 : Nat) : Int) := by omega
        go_wp2
        refine bodyPost_ret (v := .tuple #[.agg #[.int .i64 ((m : Int) + 1), .slice ao l.length co], .int .i64 0]) (by simp [results, Tryz.results22, go_sem]) rfl ?_
        exact ⟨_, rfl, by (repeat (first | (with_reducible exact Below.refl _ _) | (with_reducible assumption) | (with_reducible refine below_plus' ?_ ?_; ((try simp only [plus_size, World.size_alloc, World.size_drew, World.size_setCell, size_setRow, World.heap_drewN, List.length_append]) <;> omega)) | (with_reducible refine below_alloc' ?_ ?_; ((try simp only [plus_size, World.size_alloc, World.size_drew, World.size_setCell, size_setRow, World.heap_drewN, List.length_append]) <;> omega)) | with_reducible refine Below.drew ?_ | (with_reducible refine below_drewN' ?_ _) | exact Below.refl _ _)), by rw [← HE.out]; ((try simp only [plus_plus] at hown ⊢); exact own_far hown (by ((try simp only [plus_size, World.size_alloc, World.size_drew, World.size_setCell, size_setRow, World.heap_drewN, List.length_append]) <;> omega)) (by ((try simp only [plus_size, World.size_alloc, World.size_drew, World.size_setCell, size_setRow, World.heap_drewN, List.length_append]) <;> omega)) (by ((try simp only [plus_size, World.size_alloc, World.size_drew, World.size_setCell, size_setRow, World.heap_drewN, List.length_append]) <;> omega)) (by (repeat (first | (with_reducible exact List.prefix_rfl) | (with_reducible exact List.nil_prefix) | (refine List.IsPrefix.trans ?_ (List.prefix_append _ _))))))⟩
end Go.Proofs.YtblpbkfenmkhbaaGreatDoor
namespace Go.Proofs.YtblpbkfenmkhbaaGreatDoor
open Go.RowKit
set_option linter.unusedSimpArgs false
set_option linter.unusedVariables false
set_option maxHeartbeats 1000000 in
theorem spec_FullTurnBraid (n : Int) (w : World) : Calls Tryz.prog 25 #[.int .i64 n] w (RetB2 2 w (halfN' n) (halfL n ++ halfL n) (halfC n)) := by
  cases hb : inB n 1 8 with
  | false =>
    obtain ⟨e1, e2, e3⟩ := half_no hb
    rw [e1, e2, e3]
    clear e1 e2 e3
    go_enter Tryz.func25, Tryz.ntmps25
    go_wp2_with (first | (go_at_call 39; refine (l01In_any _ _ _ _).mono ?_; rintro e w' ⟨rfl, rfl⟩))
    refine bodyPost_ret (v := .tuple #[.agg #[.int .i64 0, .slice none 0 0], .int .i64 2]) (by simp [results, Tryz.results25, go_sem]) rfl ?_
    exact ⟨_, rfl, by (repeat (first | (with_reducible exact Below.refl _ _) | (with_reducible assumption) | (with_reducible refine below_plus' ?_ ?_; ((try simp only [plus_size, World.size_alloc, World.size_drew, World.size_setCell, size_setRow, World.heap_drewN, List.length_append]) <;> omega)) | (with_reducible refine below_alloc' ?_ ?_; ((try simp only [plus_size, World.size_alloc, World.size_drew, World.size_setCell, size_setRow, World.heap_drewN, List.length_append]) <;> omega)) | with_reducible refine Below.drew ?_ | (with_reducible refine below_drewN' ?_ _) | exact Below.refl _ _)), own_nil _ _ _⟩
  | true =>
    obtain ⟨m, rfl, hm, e1, e2, e3⟩ := half_yes hb
    rw [e1, e2, e3]
    clear e1 e2 e3
    have hT : (halfW m).length ≤ 49 := by have := halfW_le m hm; omega
    go_enter Tryz.func25, Tryz.ntmps25
    go_wp2_with (first | (go_at_call 39; refine (l01In_any _ _ _ _).mono ?_; rintro e w' ⟨rfl, rfl⟩)
                                        | (go_at_call 58; have h9 := ho; clear h9; refine Calls.mono (l01Half_any m _ hm) ?_; rintro e w' ⟨vp, rfl, hB, hp⟩; obtain ⟨ap, cp, rfl, hs⟩ := id hp.reads; clear hs; obtain ⟨j, d, rfl⟩ := plus_of_below hB; clear hB)
                                        | (go_at_call 58; refine Calls.mono (l01Half_any m _ hm) ?_; rintro e w' ⟨vo, rfl, hB, ho⟩; obtain ⟨ao, co, rfl, hs⟩ := id ho.reads; clear hs; obtain ⟨j, d, rfl⟩ := plus_of_below hB; clear hB)
                                        | (at_builtin; go_loud (refine wpList_appendL rfl _ _ 24 rfl 2 Tryz.underlying24 infoI (w.alloc (.cells #[.int .i64 0, .slice none 0 0] 26)).heap.size _ _ (halfW m) (halfW m) rfl rfl ?_ hp.reads (by omega) (by ((try simp only [plus_size, World.size_alloc, World.size_drew, World.size_setCell, size_setRow, World.heap_drewN, List.length_append]) <;> omega)) ?_; exact (own.kept ho (by (repeat (first | (with_reducible exact Below.refl _ _) | (with_reducible assumption) | (with_reducible refine below_plus' ?_ ?_; ((try simp only [plus_size, World.size_alloc, World.size_drew, World.size_setCell, size_setRow, World.heap_drewN, List.length_append]) <;> omega)) | (with_reducible refine below_alloc' ?_ ?_; ((try simp only [plus_size, World.size_alloc, World.size_drew, World.size_setCell, size_setRow, World.heap_drewN, List.length_append]) <;> omega)) | with_reducible refine Below.drew ?_ | (with_reducible refine below_drewN' ?_ _) | exact Below.refl _ _)))).mono (by ((try simp only [plus_size, World.size_alloc, World.size_drew, World.size_setCell, size_setRow, World.heap_drewN, List.length_append]) <;> omega)); intro v' w' hown hgr hB; obtain ⟨aq, cq, rfl, hs⟩ := id hown.reads; clear hs hgr; replace hB := Below.trans (show Below (w.alloc (.cells #[.int .i64 0, .slice none 0 0] 26)).heap.size (w.alloc (.cells #[.int .i64 0, .slice none 0 0] 26)) _ by (repeat (first | (with_reducible exact Below.refl _ _) | (with_reducible assumption) | (with_reducible refine below_plus' ?_ ?_; ((try simp only [plus_size, World.size_alloc, World.size_drew, World.size_setCell, size_setRow, World.heap_drewN, List.length_append]) <;> omega)) | (with_reducible refine below_alloc' ?_ ?_; ((try simp only [plus_size, World.size_alloc, World.size_drew, World.size_setCell, size_setRow, World.heap_drewN, List.length_append]) <;> omega)) | with_reducible refine Below.drew ?_ | (with_reducible refine below_drewN' ?_ _) | exact Below.refl _ _))) hB; obtain ⟨j, d, rfl⟩ := plus_of_below hB; clear hB)))
    refine bodyPost_ret (v := .tuple #[.agg #[.int .i64 ((m : Int) + 1), .slice aq (halfW m ++ halfW m).length cq], .int .i64 0]) (by simp [results, Tryz.results25, go_sem]) rfl ?_
    exact ⟨_, rfl, by (repeat (first | (with_reducible exact Below.refl _ _) | (with_reducible assumption) | (with_reducible refine below_plus' ?_ ?_; ((try simp only [plus_size, World.size_alloc, World.size_drew, World.size_setCell, size_setRow, World.heap_drewN, List.length_append]) <;> omega)) | (with_reducible refine below_alloc' ?_ ?_; ((try simp only [plus_size, World.size_alloc, World.size_drew, World.size_setCell, size_setRow, World.heap_drewN, List.length_append]) <;> omega)) | with_reducible refine Below.drew ?_ | (with_reducible refine below_drewN' ?_ _) | exact Below.refl _ _)), by ((try simp only [plus_plus] at hown ⊢); exact own_far hown (by ((try simp only [plus_size, World.size_alloc, World.size_drew, World.size_setCell, size_setRow, World.heap_drewN, List.length_append]) <;> omega)) (by ((try simp only [plus_size, World.size_alloc, World.size_drew, World.size_setCell, size_setRow, World.heap_drewN, List.length_append]) <;> omega)) (by ((try simp only [plus_size, World.size_alloc, World.size_drew, World.size_setCell, size_setRow, World.heap_drewN, List.length_append]) <;> omega)) (by (repeat (first | (with_reducible exact List.prefix_rfl) | (with_reducible exact List.nil_prefix) | (refine List.IsPrefix.trans ?_ (List.prefix_append _ _))))))⟩
set_option maxHeartbeats 1000000 in
theorem impl_FullTurnBraid (n : Int) (w : World) : Calls Tryz.prog 24 #[.int .i64 n] w (RetB2 2 w (halfN' n) (halfL n ++ halfL n) (halfC n)) := by
  have hI := impl_HalfTurnBraid n
  cases hb : inB n 1 8 with
  | false =>
    obtain ⟨e1, e2, e3⟩ := half_no hb
    rw [e1, e2, e3] at hI ⊢
    have HI := Lib.hid hI
    clear e1 e2 e3 hI
    go_enter Tryz.func24, Tryz.ntmps24
    go_wp2_with (first | (go_at_call 22; refine Calls.mono (HI.out _) ?_; rintro e w' ⟨vo, rfl, hB, ho⟩; obtain ⟨ao, co, rfl, hs⟩ := id ho.reads; clear hs; obtain ⟨j, d, rfl⟩ := plus_of_below hB; clear hB))
    refine bodyPost_ret (v := .tuple #[.agg #[.int .i64 0, .slice none 0 0], .int .i64 2]) (by simp [results, Tryz.results24, go_sem]) rfl ?_
    exact ⟨_, rfl, by (repeat (first | (with_reducible exact Below.refl _ _) | (with_reducible assumption) | (with_reducible refine below_plus' ?_ ?_; ((try simp only [plus_size, World.size_alloc, World.size_drew, World.size_setCell, size_setRow, World.heap_drewN, List.length_append]) <;> omega)) | (with_reducible refine below_alloc' ?_ ?_; ((try simp only [plus_size, World.size_alloc, World.size_drew, World.size_setCell, size_setRow, World.heap_drewN, List.length_append]) <;> omega)) | with_reducible refine Below.drew ?_ | (with_reducible refine below_drewN' ?_ _) | exact Below.refl _ _)), own_nil _ _ _⟩
  | true =>
    obtain ⟨m, rfl, hm, e1, e2, e3⟩ := half_yes hb
    rw [e1, e2, e3] at hI ⊢
    have HI := Lib.hid hI
    clear e1 e2 e3 hI
    have hT : (halfW m).length ≤ 49 := by have := halfW_le m hm; omega
    go_enter Tryz.func24, Tryz.ntmps24
    go_wp2_with (first | (go_at_call 22; refine Calls.mono (HI.out _) ?_; rintro e w' ⟨vo, rfl, hB, ho⟩; obtain ⟨ao, co, rfl, hs⟩ := id ho.reads; clear hs; obtain ⟨j, d, rfl⟩ := plus_of_below hB; clear hB)
                                        | (go_at_call 37; refine Calls.mono (joined_any _ _ _ _ (halfW m) (halfW m) _ ?_ ?_ (by omega)) ?_; exact ho.reads.kept (by (repeat (first | (with_reducible exact Below.refl _ _) | (with_reducible assumption) | (with_reducible refine below_plus' ?_ ?_; ((try simp only [plus_size, World.size_alloc, World.size_drew, World.size_setCell, size_setRow, World.heap_drewN, List.length_append]) <;> omega)) | (with_reducible refine below_alloc' ?_ ?_; ((try simp only [plus_size, World.size_alloc, World.size_drew, World.size_setCell, size_setRow, World.heap_drewN, List.length_append]) <;> omega)) | with_reducible refine Below.drew ?_ | (with_reducible refine below_drewN' ?_ _) | exact Below.refl _ _))); exact ho.reads.kept (by (repeat (first | (with_reducible exact Below.refl _ _) | (with_reducible assumption) | (with_reducible refine below_plus' ?_ ?_; ((try simp only [plus_size, World.size_alloc, World.size_drew, World.size_setCell, size_setRow, World.heap_drewN, List.length_append]) <;> omega)) | (with_reducible refine below_alloc' ?_ ?_; ((try simp only [plus_size, World.size_alloc, World.size_drew, World.size_setCell, size_setRow, World.heap_drewN, List.length_append]) <;> omega)) | with_reducible refine Below.drew ?_ | (with_reducible refine below_drewN' ?_ _) | exact Below.refl _ _))); rintro e w' ⟨vq, rfl, hB, hown⟩; obtain ⟨aq, cq, rfl, hs⟩ := id hown.reads; clear hs; obtain ⟨j, d, rfl⟩ := plus_of_below hB; clear hB))
    refine bodyPost_ret (v := .tuple #[.agg #[.int .i64 ((m : Int) + 1), .slice aq (halfW m ++ halfW m).length cq], .int .i64 0]) (by simp [results, Tryz.results24, go_sem]) rfl ?_
    exact ⟨_, rfl, by (repeat (first | (with_reducible exact Below.refl _ _) | (with_reducible assumption) | (with_reducible refine below_plus' ?_ ?_; ((try simp only [plus_size, World.size_alloc, World.size_drew, World.size_setCell, size_setRow, World.heap_drewN, List.length_append]) <;> omega)) | (with_reducible refine below_alloc' ?_ ?_; ((try simp only [plus_size, World.size_alloc, World.size_drew, World.size_setCell, size_setRow, World.heap_drewN, List.length_append]) <;> omega)) | with_reducible refine Below.drew ?_ | (with_reducible refine below_drewN' ?_ _) | exact Below.refl _ _)), by ((try simp only [plus_alloc, plus_plus] at hown ⊢); exact own_far hown (by ((try simp only [plus_size, World.size_alloc, World.size_drew, World.size_setCell, size_setRow, World.heap_drewN, List.length_append, List.length_cons, List.length_nil]) <;> omega)) (by ((try simp only [plus_size, World.size_alloc, World.size_drew, World.size_setCell, size_setRow, World.heap_drewN, List.length_append, List.length_cons, List.length_nil]) <;> omega)) (by ((try simp only [plus_size, World.size_alloc, World.size_drew, World.size_setCell, size_setRow, World.heap_drewN, List.length_append, List.length_cons, List.length_nil]) <;> omega)) (by (repeat (first | (with_reducible exact List.prefix_rfl) | (with_reducible exact List.nil_prefix) | (refine List.IsPrefix.trans ?_ (List.prefix_append _ _))))))⟩
end Go.Proofs.YtblpbkfenmkhbaaGreatDoor
namespace Go.Proofs.YtblpbkfenmkhbaaGreatDoor
open Go.RowKit
set_option linter.unusedSimpArgs false
set_option linter.unusedVariables false
/-- one letter more in a free form -/
def freeStep (out : List Int) (x : Int) : List Int := if 0 < out.length ∧ nth out (out.length - 1) = -x then out.dropLast else out ++ [x]
/-- the free form of the first k letters -/
def freeK (xs : List Int) (k : Nat) : List Int := (xs.take k).foldl freeStep []
theorem freeK_succ {xs : List Int} {k : Nat} (h : k < xs.length) : freeStep (freeK xs k) (nth xs k) = freeK xs (k + 1) := by
  have e : nth xs k = xs[k] := by simp [nth, h]
  rw [freeK, freeK, List.take_succ_eq_append_getElem h, List.foldl_append, e]; rfl
theorem freeStep_le (l : List Int) (x : Int) : (freeStep l x).length ≤ l.length + 1 := by
  unfold freeStep
  split
  · simp; omega
  · simp
theorem freeK_le (xs : List Int) : ∀ k : Nat, k ≤ xs.length → (freeK xs k).length ≤ k
  | 0, _ => by simp [freeK]
  | k + 1, h => by
    rw [← freeK_succ (by omega)]
    have h1 := freeK_le xs k (by omega)
    have h2 := freeStep_le (freeK xs k) (nth xs k)
    omega
theorem fs_nil {l : List Int} {x : Int} (h : l.length = 0) : freeStep l x = l ++ [x] := by simp [freeStep, h]
theorem fs_no {l : List Int} {x : Int} {p : Nat} (h : l.length = p + 1) (h2 : ¬ nth l p = -x) : freeStep l x = l ++ [x] := by simp [freeStep, h, h2]
theorem fs_yes {l : List Int} {x : Int} {p : Nat} (h : l.length = p + 1) (h2 : nth l p = -x) : freeStep l x = l.dropLast := by simp [freeStep, h, h2]
theorem own_some {e : TypeId} {w : World} {B : Nat} {v : Value} {xs : List Int} (h : own e w B v xs) (hp : 0 < xs.length) : ∃ g c, v = .slice (some ⟨g, 0, none⟩) xs.length c ∧ B ≤ g ∧ g < w.heap.size ∧ xs.length ≤ c := by
  rcases h.2 with ⟨_, h0⟩ | ⟨g, cap, cur, rfl, hg, hh, hle, _⟩
  · omega
  · exact ⟨g, cap, rfl, hg, heap_lt hh, hle⟩
theorem own_drop {e : TypeId} {w : World} {B g n c : Nat} {xs : List Int} {q : Nat} (h : own e w B (.slice (some ⟨g, 0, none⟩) q c) xs) (hn : xs.length = n + 1) : own e w B (.slice (some ⟨g, 0, none⟩) n c) xs.dropLast := by
  obtain ⟨h1, h2⟩ := h
  have hl : xs.dropLast.length = n := by simp; omega
  refine ⟨by simp, ?_⟩
  rcases h2 with ⟨h2, _⟩ | ⟨g', cap', cur, hv, hg, hh, hle, hm, hs, ht⟩
  · cases h2
  · simp only [Value.slice.injEq, Option.some.injEq, Addr.mk.injEq] at hv
    obtain ⟨⟨rfl, _⟩, hn', rfl⟩ := hv
    refine .inr ⟨g, c, cur, by rw [hl], hg, hh, by omega, hm, hs, ?_⟩
    rw [hl]
    have := congrArg (List.take n) ht
    rw [List.take_take, hn] at this
    simp only [Nat.mul_one, Nat.min_eq_left (Nat.le_succ n)] at this ⊢
    rw [this, ← List.map_take, List.dropLast_eq_take, hn]
    rfl
set_option maxHeartbeats 2000000 in
theorem l01Free_any (v : Value) (xs : List Int) (w : World) (h : reads w v xs) (hlen : xs.length ≤ 200) (hsm : Sm xs) : Calls Tryz.prog 42 #[v] w (RetInts 2 w (freeK xs xs.length)) := by
  obtain ⟨a, c, rfl, h⟩ := h
  have Hr := Lib.hid (show 0 < xs.length → ∃ b o, a = some ⟨b, o, none⟩ ∧ b < w.heap.size ∧ ∀ i, i < xs.length → w.cell? ⟨b, o + i, none⟩ = some (.int .i64 (nth xs i)) from fun hp => by
    rcases h with h | ⟨b, o, rfl, m⟩
    · rw [h] at hp; cases hp
    · exact ⟨b, o, rfl, World.block_lt_of_cell? w _ (m 0 hp), m⟩)
  clear h
  have Hsm := Lib.hid hsm
  clear hsm
  go_enter Tryz.func42, Tryz.ntmps42
  go_wp2
  go_loopw [3, 4] (fun vo sl wr => ∃ (v0 : Value) (l : List Int) (k : Nat) (j : List Obj) (d : Nat), v0 = vo ∧ Hid (l = freeK xs k) ∧ k ≤ xs.length ∧ sl = .int .i64 k ∧ wr = plus w j d ∧ own 2 (plus w j d) w.heap.size v0 l) (fun _ sl _ => xs.length - (intOf sl).toNat)
  case atStart => exact ⟨_, [], 0, [.cells #[] 2], w.drawn, rfl, Lib.hid rfl, by omega, rfl, rfl, own_made (Nat.le_refl _) (by decide) rfl⟩
  case round =>
    obtain ⟨v, l, k, j, d, rfl, HLl, hk, rfl, rfl, hown⟩ := hrel
    by_cases hlt : k < xs.length
    · obtain ⟨b, o, rfl, hbk, mm⟩ := Hr.out (by omega)
      have g1 := mm k hlt
      have hs7 := Hsm.out k hlt
      have hll : l.length < 1000000000 := by have h1 := congrArg List.length HLl.out; have h2 := freeK_le xs k hk; omega
      clear mm Hr
      by_cases hz : l.length = 0
      · have HB := Lib.hid (show l ++ [nth xs k] = freeK xs (k + 1) by rw [← freeK_succ hlt, ← HLl.out, fs_nil hz])
        obtain ⟨ao, co, rfl, hs⟩ := id hown.reads
        clear hs
        simp only [hz] at hown ⊢
        go_wp2
        go_quiet (fail)
        go_wp2_with (first | (at_builtin; go_loud (refine wpList_append1p rfl _ _ 24 rfl Tryz.underlying24 infoI _ rfl _ rfl ?_ hown ?_ ?_; ((try simp only [plus_size, World.size_alloc, World.size_drew, World.size_setCell, size_setRow, World.heap_drewN, List.length_append]) <;> omega); (omega); intro v' j' d' hown'; clear hown)))
        go_roundw
        case rel => exact ⟨_, _, k + 1, _, _, rfl, HB, by omega, by go_num, rfl, hown'⟩
        case measure => simp [intOf]; omega
      · obtain ⟨g, c, rfl, hgB, hgl, hcap⟩ := own_some hown (by omega)
        obtain ⟨p, hp⟩ : ∃ p, l.length = p + 1 := ⟨l.length - 1, by omega⟩
        obtain ⟨q, hq⟩ : ∃ q, l.length = q := ⟨_, rfl⟩
        have c0 := hown.cell (i := p) (by omega)
        have c1 : ∀ d', (plus w j d').cell? ⟨g, p, none⟩ = some (.int .i64 (nth l p)) := fun d' => c0
        clear c0
        have hq0 : 0 < q := by omega
        have hdq : decide (0 < q) = true := by simp [hq0]
        have hpq : p < q := by omega
        have hpc : p ≤ c := by omega
        have hqb : q < 1000000000 := by omega
        have hpb : p < 1000000000 := by omega
        have hpw : IntKind.i64.wrap ((q : Int) - 1) = p := by rw [IntKind.wrap_i64]; omega
        simp only [hq] at hown ⊢
        by_cases hd : nth l p = -nth xs k
        · have hd1 : (nth l p == -nth xs k) = true := by simp [hd]
          have hd2 : decide (nth l p = -nth xs k) = true := by simp [hd]
          have HB := Lib.hid (show l.dropLast = freeK xs (k + 1) by rw [← freeK_succ hlt, ← HLl.out, fs_yes hp hd])
          have hdr := own_drop hown hp
          go_wp2
          go_quiet (fail)
          go_wp2
          go_roundw
          case rel => exact ⟨_, _, k + 1, _, _, rfl, HB, by omega, by go_num, rfl, by first | exact hdr | exact own_plus (d := d) (j' := []) hdr⟩
          case measure => simp [intOf]; omega
        · have hd1 : (nth l p == -nth xs k) = false := by simp [hd]
          have hd2 : decide (nth l p = -nth xs k) = false := by simp [hd]
          have HB := Lib.hid (show l ++ [nth xs k] = freeK xs (k + 1) by rw [← freeK_succ hlt, ← HLl.out, fs_no hp hd])
          go_wp2
          go_quiet (fail)
          go_wp2_with (first | (at_builtin; go_loud (refine wpList_append1p rfl _ _ 24 rfl Tryz.underlying24 infoI _ rfl _ rfl ?_ hown ?_ ?_; ((try simp only [plus_size, World.size_alloc, World.size_drew, World.size_setCell, size_setRow, World.heap_drewN, List.length_append]) <;> omega); (omega); intro v' j' d' hown'; clear hown)))
          go_roundw
          case rel => exact ⟨_, _, k + 1, _, _, rfl, HB, by omega, by go_num, rfl, hown'⟩
          case measure => simp [intOf]; omega
    · obtain rfl : k = xs.length := by omega
      have HE := Lib.hid HLl.out
      go_wp2
      go_ret
      exact ⟨_, rfl, by (repeat (first | (with_reducible exact Below.refl _ _) | (with_reducible assumption) | (with_reducible refine below_plus' ?_ ?_; ((try simp only [plus_size, World.size_alloc, World.size_drew, World.size_setCell, size_setRow, World.heap_drewN, List.length_append]) <;> omega)) | (with_reducible refine below_alloc' ?_ ?_; ((try simp only [plus_size, World.size_alloc, World.size_drew, World.size_setCell, size_setRow, World.heap_drewN, List.length_append]) <;> omega)) | with_reducible refine Below.drew ?_ | (with_reducible refine below_drewN' ?_ _) | exact Below.refl _ _)), by rw [← HE.out]; exact hown⟩
end Go.Proofs.YtblpbkfenmkhbaaGreatDoor
