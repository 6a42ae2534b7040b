/- The shift of a braid. Conditions: as each theorem says. -/
import Derived.Test.YtkmfglocjdjhjaaV2
namespace Go.Proofs.Ytkmfglocjdjhjaa
open Go.RowKit
set_option linter.unusedSimpArgs false
set_option linter.unusedVariables false
/-- what is answered beside a good code -/
def okS (n : Int) (xs : List Int) (k : Int) : Bool := okW n xs && inB k 0 (8 - n)
def codS (n : Int) (xs : List Int) (k : Int) : Int := if okW n xs = true then (if inB k 0 (8 - n) = true then 0 else 2) else 1
set_option maxHeartbeats 1000000 in
theorem impl_ShiftOf (n : Int) (v : Value) (xs : List Int) (k : Int) (w : World) (h : reads w v xs) (hlen : xs.length ≤ 1000000000) (hfit : Fits xs) : Calls Try.prog 45 #[.agg #[.int .i64 n, v], .int .i64 k] w (RetB2 2 w (if okS n xs k = true then n + k else 0) (if okS n xs k = true then xs.map (shiftL k) else []) (codS n xs k)) := by
  have hI := fun w' (hb : Below w.heap.size w w') => impl_IsBraid n v xs w' (h.kept hb) hlen hfit
  cases hok : okW n xs with
  | false =>
    simp only [hok] at hI
    have HI := Lib.hid hI
    simp only [okS, codS, hok, Bool.false_and, Bool.false_eq_true, if_false]
    clear hI h hfit hok
    go_enter Try.func45, Try.ntmps45
    go_wp2_with (first | (go_at_call 22; refine Calls.mono (HI.out _ ?_) ?_; (repeat (first | (with_reducible exact Below.refl _ _) | (with_reducible assumption) | (with_reducible refine below_plus' ?_ ?_; ((try simp only [plus_size, World.size_alloc, World.size_drew, World.size_setCell, size_setRow, World.heap_drewN, List.length_append]) <;> omega)) | (with_reducible refine below_alloc' ?_ ?_; ((try simp only [plus_size, World.size_alloc, World.size_drew, World.size_setCell, size_setRow, World.heap_drewN, List.length_append]) <;> omega)) | with_reducible refine Below.drew ?_ | (with_reducible refine below_drewN' ?_ _) | exact Below.refl _ _)); rintro e w' ⟨rfl, hB⟩; obtain ⟨j, d, rfl⟩ := plus_of_below hB; clear hB))
    refine bodyPost_ret (v := .tuple #[.agg #[.int .i64 0, .slice none 0 0], .int .i64 1]) (by simp [results, Try.results45, go_sem]) rfl ?_
    exact ⟨_, rfl, by (repeat (first | (with_reducible exact Below.refl _ _) | (with_reducible assumption) | (with_reducible refine below_plus' ?_ ?_; ((try simp only [plus_size, World.size_alloc, World.size_drew, World.size_setCell, size_setRow, World.heap_drewN, List.length_append]) <;> omega)) | (with_reducible refine below_alloc' ?_ ?_; ((try simp only [plus_size, World.size_alloc, World.size_drew, World.size_setCell, size_setRow, World.heap_drewN, List.length_append]) <;> omega)) | with_reducible refine Below.drew ?_ | (with_reducible refine below_drewN' ?_ _) | exact Below.refl _ _)), own_nil _ _ _⟩
  | true =>
    simp only [hok] at hI
    have HI := Lib.hid hI
    have h200 := okW_len hok
    have hsm := okW_sm hok
    have hn1 := (okW_n hok).1
    have hn8 := (okW_n hok).2
    clear hI hfit
    cases hin : inB k 0 (8 - n) with
    | false =>
      simp only [okS, codS, hok, hin, Bool.and_false, Bool.false_eq_true, if_false, if_true]
      clear hok h hsm
      go_enter Try.func45, Try.ntmps45
      go_wp2_with (first | (go_at_call 22; refine Calls.mono (HI.out _ ?_) ?_; (repeat (first | (with_reducible exact Below.refl _ _) | (with_reducible assumption) | (with_reducible refine below_plus' ?_ ?_; ((try simp only [plus_size, World.size_alloc, World.size_drew, World.size_setCell, size_setRow, World.heap_drewN, List.length_append]) <;> omega)) | (with_reducible refine below_alloc' ?_ ?_; ((try simp only [plus_size, World.size_alloc, World.size_drew, World.size_setCell, size_setRow, World.heap_drewN, List.length_append]) <;> omega)) | with_reducible refine Below.drew ?_ | (with_reducible refine below_drewN' ?_ _) | exact Below.refl _ _)); rintro e w' ⟨rfl, hB⟩; obtain ⟨j, d, rfl⟩ := plus_of_below hB; clear hB) | (go_at_call 79; refine Calls.mono (within_any _ _ _ _) ?_; rw [hin]; rintro e w' ⟨rfl, rfl⟩))
      refine bodyPost_ret (v := .tuple #[.agg #[.int .i64 0, .slice none 0 0], .int .i64 2]) (by simp [results, Try.results45, go_sem]) rfl ?_
      exact ⟨_, rfl, by (repeat (first | (with_reducible exact Below.refl _ _) | (with_reducible assumption) | (with_reducible refine below_plus' ?_ ?_; ((try simp only [plus_size, World.size_alloc, World.size_drew, World.size_setCell, size_setRow, World.heap_drewN, List.length_append]) <;> omega)) | (with_reducible refine below_alloc' ?_ ?_; ((try simp only [plus_size, World.size_alloc, World.size_drew, World.size_setCell, size_setRow, World.heap_drewN, List.length_append]) <;> omega)) | with_reducible refine Below.drew ?_ | (with_reducible refine below_drewN' ?_ _) | exact Below.refl _ _)), own_nil _ _ _⟩
    | true =>
      have hk0 := (inB_true hin).1
      have hk8 : k ≤ 8 := by have := (inB_true hin).2; omega
      simp only [okS, codS, hok, hin, Bool.and_true, if_true]
      clear hok
      have HC := Lib.hid (fun w' (hb : Below w.heap.size w w') (bb : Nat) (hbb : bb < w'.heap.size) (hbc : w'.cell? ⟨bb, 0, none⟩ = some (.int .i64 k)) => letterBy_shift n v xs k bb w' (h.kept hb) h200 hsm hk0 hk8 hbb hbc)
      clear h hsm
      obtain ⟨L, hLE⟩ : ∃ L, xs.map (shiftL k) = L := ⟨_, rfl⟩
      simp only [hLE] at HC ⊢
      clear hLE
      go_enter Try.func45, Try.ntmps45
      go_wp2_with (first | (go_at_call 22; refine Calls.mono (HI.out _ ?_) ?_; (repeat (first | (with_reducible exact Below.refl _ _) | (with_reducible assumption) | (with_reducible refine below_plus' ?_ ?_; ((try simp only [plus_size, World.size_alloc, World.size_drew, World.size_setCell, size_setRow, World.heap_drewN, List.length_append]) <;> omega)) | (with_reducible refine below_alloc' ?_ ?_; ((try simp only [plus_size, World.size_alloc, World.size_drew, World.size_setCell, size_setRow, World.heap_drewN, List.length_append]) <;> omega)) | with_reducible refine Below.drew ?_ | (with_reducible refine below_drewN' ?_ _) | exact Below.refl _ _)); rintro e w' ⟨rfl, hB⟩; obtain ⟨j, d, rfl⟩ := plus_of_below hB; clear hB)
                                          | (go_at_call 79; refine Calls.mono (within_any _ _ _ _) ?_; rw [hin]; rintro e w' ⟨rfl, rfl⟩)
                                          | (go_at_call 73; refine Calls.mono (HC.out _ ?_ _ ?_ ?_) ?_; (repeat (first | (with_reducible exact Below.refl _ _) | (with_reducible assumption) | (with_reducible refine below_plus' ?_ ?_; ((try simp only [plus_size, World.size_alloc, World.size_drew, World.size_setCell, size_setRow, World.heap_drewN, List.length_append]) <;> omega)) | (with_reducible refine below_alloc' ?_ ?_; ((try simp only [plus_size, World.size_alloc, World.size_drew, World.size_setCell, size_setRow, World.heap_drewN, List.length_append]) <;> omega)) | with_reducible refine Below.drew ?_ | (with_reducible refine below_drewN' ?_ _) | exact Below.refl _ _)); ((try simp only [plus_size, World.size_alloc, World.size_drew, World.size_setCell, size_setRow, World.heap_drewN, List.length_append]) <;> omega); (rw [plus_cell _ _ _ _ _ (by ((try simp only [plus_size, World.size_alloc, World.size_drew, World.size_setCell, size_setRow, World.heap_drewN, List.length_append]) <;> omega)), World.cell?_alloc_past _ _ _ (by ((try simp only [plus_size, World.size_alloc, World.size_drew, World.size_setCell, size_setRow, World.heap_drewN, List.length_append]) <;> omega)), World.cell?_alloc_at _ _ _ _ (by ((try simp only [plus_size, World.size_alloc, World.size_drew, World.size_setCell, size_setRow, World.heap_drewN, List.length_append]) <;> omega))]; rfl); rintro e w' ⟨vo, rfl, hB, ho⟩; have hro := ho.reads; obtain ⟨ao, co, rfl, hs⟩ := id hro; clear hs; obtain ⟨j, d, rfl⟩ := plus_of_below hB; clear hB))
      refine bodyPost_ret (v := .tuple #[.agg #[.int .i64 (n + k), .slice ao L.length co], .int .i64 0]) (by simp [results, Try.results45, go_sem]) rfl ?_
      exact ⟨_, rfl, by (repeat (first | (with_reducible exact Below.refl _ _) | (with_reducible assumption) | (with_reducible refine below_plus' ?_ ?_; ((try simp only [plus_size, World.size_alloc, World.size_drew, World.size_setCell, size_setRow, World.heap_drewN, List.length_append]) <;> omega)) | (with_reducible refine below_alloc' ?_ ?_; ((try simp only [plus_size, World.size_alloc, World.size_drew, World.size_setCell, size_setRow, World.heap_drewN, List.length_append]) <;> omega)) | with_reducible refine Below.drew ?_ | (with_reducible refine below_drewN' ?_ _) | exact Below.refl _ _)), by ((try simp only [plus_alloc, plus_plus] at ho ⊢); exact own_far ho (by ((try simp only [plus_size, World.size_alloc, World.size_drew, World.size_setCell, size_setRow, World.heap_drewN, List.length_append, List.length_cons, List.length_nil]) <;> omega)) (by ((try simp only [plus_size, World.size_alloc, World.size_drew, World.size_setCell, size_setRow, World.heap_drewN, List.length_append, List.length_cons, List.length_nil]) <;> omega)) (by ((try simp only [plus_size, World.size_alloc, World.size_drew, World.size_setCell, size_setRow, World.heap_drewN, List.length_append, List.length_cons, List.length_nil]) <;> omega)) (by (repeat (first | (with_reducible exact List.prefix_rfl) | (with_reducible exact List.nil_prefix) | (refine List.IsPrefix.trans ?_ (List.prefix_append _ _))))))⟩
set_option maxHeartbeats 1000000 in
theorem spec_ShiftOf (n : Int) (v : Value) (xs : List Int) (k : Int) (w : World) (h : reads w v xs) (hlen : xs.length ≤ 1000000000) (hfit : Fits xs) : Calls Try.prog 44 #[.agg #[.int .i64 n, v], .int .i64 k] w (RetB2 2 w (if okS n xs k = true then n + k else 0) (if okS n xs k = true then xs.map (shiftL k) else []) (codS n xs k)) := by
  have hI := fun w' (hb : Below w.heap.size w w') => spec_Is n v xs w' (h.kept hb) hlen hfit
  cases hok : okW n xs with
  | false =>
    simp only [hok] at hI
    have HI := Lib.hid hI
    simp only [okS, codS, hok, Bool.false_and, Bool.false_eq_true, if_false]
    clear hI h hfit hok
    go_enter Try.func44, Try.ntmps44
    go_wp2_with (first | (go_at_call 61; refine Calls.mono (HI.out _ ?_) ?_; (repeat (first | (with_reducible exact Below.refl _ _) | (with_reducible assumption) | (with_reducible refine below_plus' ?_ ?_; ((try simp only [plus_size, World.size_alloc, World.size_drew, World.size_setCell, size_setRow, World.heap_drewN, List.length_append]) <;> omega)) | (with_reducible refine below_alloc' ?_ ?_; ((try simp only [plus_size, World.size_alloc, World.size_drew, World.size_setCell, size_setRow, World.heap_drewN, List.length_append]) <;> omega)) | with_reducible refine Below.drew ?_ | (with_reducible refine below_drewN' ?_ _) | exact Below.refl _ _)); rintro e w' ⟨rfl, hB⟩; obtain ⟨j, d, rfl⟩ := plus_of_below hB; clear hB))
    refine bodyPost_ret (v := .tuple #[.agg #[.int .i64 0, .slice none 0 0], .int .i64 1]) (by simp [results, Try.results44, go_sem]) rfl ?_
    exact ⟨_, rfl, by (repeat (first | (with_reducible exact Below.refl _ _) | (with_reducible assumption) | (with_reducible refine below_plus' ?_ ?_; ((try simp only [plus_size, World.size_alloc, World.size_drew, World.size_setCell, size_setRow, World.heap_drewN, List.length_append]) <;> omega)) | (with_reducible refine below_alloc' ?_ ?_; ((try simp only [plus_size, World.size_alloc, World.size_drew, World.size_setCell, size_setRow, World.heap_drewN, List.length_append]) <;> omega)) | with_reducible refine Below.drew ?_ | (with_reducible refine below_drewN' ?_ _) | exact Below.refl _ _)), own_nil _ _ _⟩
  | true =>
    simp only [hok] at hI
    have HI := Lib.hid hI
    have h200 := okW_len hok
    have hsm := okW_sm hok
    have hn1 := (okW_n hok).1
    have hn8 := (okW_n hok).2
    clear hI hfit
    cases hin : inB k 0 (8 - n) with
    | false =>
      simp only [okS, codS, hok, hin, Bool.and_false, Bool.false_eq_true, if_false, if_true]
      clear hok h hsm
      go_enter Try.func44, Try.ntmps44
      go_wp2_with (first | (go_at_call 61; refine Calls.mono (HI.out _ ?_) ?_; (repeat (first | (with_reducible exact Below.refl _ _) | (with_reducible assumption) | (with_reducible refine below_plus' ?_ ?_; ((try simp only [plus_size, World.size_alloc, World.size_drew, World.size_setCell, size_setRow, World.heap_drewN, List.length_append]) <;> omega)) | (with_reducible refine below_alloc' ?_ ?_; ((try simp only [plus_size, World.size_alloc, World.size_drew, World.size_setCell, size_setRow, World.heap_drewN, List.length_append]) <;> omega)) | with_reducible refine Below.drew ?_ | (with_reducible refine below_drewN' ?_ _) | exact Below.refl _ _)); rintro e w' ⟨rfl, hB⟩; obtain ⟨j, d, rfl⟩ := plus_of_below hB; clear hB) | (go_at_call 65; refine Calls.mono (l01In_any _ _ _ _) ?_; rw [hin]; rintro e w' ⟨rfl, rfl⟩))
      refine bodyPost_ret (v := .tuple #[.agg #[.int .i64 0, .slice none 0 0], .int .i64 2]) (by simp [results, Try.results44, go_sem]) rfl ?_
      exact ⟨_, rfl, by (repeat (first | (with_reducible exact Below.refl _ _) | (with_reducible assumption) | (with_reducible refine below_plus' ?_ ?_; ((try simp only [plus_size, World.size_alloc, World.size_drew, World.size_setCell, size_setRow, World.heap_drewN, List.length_append]) <;> omega)) | (with_reducible refine below_alloc' ?_ ?_; ((try simp only [plus_size, World.size_alloc, World.size_drew, World.size_setCell, size_setRow, World.heap_drewN, List.length_append]) <;> omega)) | with_reducible refine Below.drew ?_ | (with_reducible refine below_drewN' ?_ _) | exact Below.refl _ _)), own_nil _ _ _⟩
    | true =>
      have hk0 := (inB_true hin).1
      have hk8 : k ≤ 8 := by have := (inB_true hin).2; omega
      simp only [okS, codS, hok, hin, Bool.and_true, if_true]
      clear hok
      have HC := Lib.hid (fun w' (hb : Below w.heap.size w w') => l01Shifted_any k v xs w' (h.kept hb) h200 hsm hk0 hk8)
      clear h hsm
      obtain ⟨L, hLE⟩ : ∃ L, xs.map (shiftL k) = L := ⟨_, rfl⟩
      simp only [hLE] at HC ⊢
      clear hLE
      go_enter Try.func44, Try.ntmps44
      go_wp2_with (first | (go_at_call 61; refine Calls.mono (HI.out _ ?_) ?_; (repeat (first | (with_reducible exact Below.refl _ _) | (with_reducible assumption) | (with_reducible refine below_plus' ?_ ?_; ((try simp only [plus_size, World.size_alloc, World.size_drew, World.size_setCell, size_setRow, World.heap_drewN, List.length_append]) <;> omega)) | (with_reducible refine below_alloc' ?_ ?_; ((try simp only [plus_size, World.size_alloc, World.size_drew, World.size_setCell, size_setRow, World.heap_drewN, List.length_append]) <;> omega)) | with_reducible refine Below.drew ?_ | (with_reducible refine below_drewN' ?_ _) | exact Below.refl _ _)); rintro e w' ⟨rfl, hB⟩; obtain ⟨j, d, rfl⟩ := plus_of_below hB; clear hB) | (go_at_call 65; refine Calls.mono (l01In_any _ _ _ _) ?_; rw [hin]; rintro e w' ⟨rfl, rfl⟩))
      refine region_ghost [7, 8, 9, 10] (by kernel_rfl) (by kernel_rfl) (by kernel_rfl) ?_
      repeat (refine wpPlain_step (fun K hK => ?_); go_simp; first | (refine hK _ ?_; clear hK K) | (apply Exists.intro; refine ⟨fun _ => ?_, hK _ ?_⟩; (fail); clear hK K))
      refine wpPlain_nil ?_
      intro j d
      refine gchain_cons _ rfl ?_
      go_wp2_with (first | (go_at_call 78; refine Calls.mono (HC.out _ ?_) ?_; (repeat (first | (with_reducible exact Below.refl _ _) | (with_reducible assumption) | (with_reducible refine below_plus' ?_ ?_; ((try simp only [plus_size, World.size_alloc, World.size_drew, World.size_setCell, size_setRow, World.heap_drewN, List.length_append]) <;> omega)) | (with_reducible refine below_alloc' ?_ ?_; ((try simp only [plus_size, World.size_alloc, World.size_drew, World.size_setCell, size_setRow, World.heap_drewN, List.length_append]) <;> omega)) | with_reducible refine Below.drew ?_ | (with_reducible refine below_drewN' ?_ _) | exact Below.refl _ _)); rintro e w' ⟨vo, rfl, hB, ho⟩; have hro := ho.reads; obtain ⟨ao, co, rfl, hs⟩ := id hro; clear hs; obtain ⟨j, d, rfl⟩ := plus_of_below hB; clear hB))
      refine gExit_normal ⟨.inr (later_of_below (by (repeat (first | (with_reducible exact Below.refl _ _) | (with_reducible assumption) | (with_reducible refine below_plus' ?_ ?_; ((try simp only [plus_size, World.size_alloc, World.size_drew, World.size_setCell, size_setRow, World.heap_drewN, List.length_append]) <;> omega)) | (with_reducible refine below_alloc' ?_ ?_; ((try simp only [plus_size, World.size_alloc, World.size_drew, World.size_setCell, size_setRow, World.heap_drewN, List.length_append]) <;> omega)) | with_reducible refine Below.drew ?_ | (with_reducible refine below_drewN' ?_ _) | exact Below.refl _ _)))), fun j d => ?_⟩
      refine gchain_cons _ rfl ?_
      go_wp2
      refine gExit_normal ⟨.inr (later_of_below (by (repeat (first | (with_reducible exact Below.refl _ _) | (with_reducible assumption) | (with_reducible refine below_plus' ?_ ?_; ((try simp only [plus_size, World.size_alloc, World.size_drew, World.size_setCell, size_setRow, World.heap_drewN, List.length_append]) <;> omega)) | (with_reducible refine below_alloc' ?_ ?_; ((try simp only [plus_size, World.size_alloc, World.size_drew, World.size_setCell, size_setRow, World.heap_drewN, List.length_append]) <;> omega)) | with_reducible refine Below.drew ?_ | (with_reducible refine below_drewN' ?_ _) | exact Below.refl _ _)))), fun j d => ?_⟩
      refine gchain_cons _ rfl ?_
      go_wp2
      refine gExit_normal ⟨.inl (by kernel_rfl), fun j d => ?_⟩
      refine gchain_cons _ rfl ?_
      go_wp2
      refine gExit_normal ⟨.inl (by kernel_rfl), fun j d => ?_⟩
      refine gchain_nil ?_
      go_wp2
      refine bodyPost_ret (v := .tuple #[.agg #[.int .i64 (n + k), .slice ao L.length co], .int .i64 0]) (by simp [results, Try.results44, go_sem]) rfl ?_
      exact ⟨_, rfl, by (repeat (first | (with_reducible exact Below.refl _ _) | (with_reducible assumption) | (with_reducible refine below_plus' ?_ ?_; ((try simp only [plus_size, World.size_alloc, World.size_drew, World.size_setCell, size_setRow, World.heap_drewN, List.length_append]) <;> omega)) | (with_reducible refine below_alloc' ?_ ?_; ((try simp only [plus_size, World.size_alloc, World.size_drew, World.size_setCell, size_setRow, World.heap_drewN, List.length_append]) <;> omega)) | with_reducible refine Below.drew ?_ | (with_reducible refine below_drewN' ?_ _) | exact Below.refl _ _)), by ((try simp only [plus_alloc, plus_plus] at ho ⊢); exact own_far ho (by ((try simp only [plus_size, World.size_alloc, World.size_drew, World.size_setCell, size_setRow, World.heap_drewN, List.length_append, List.length_cons, List.length_nil]) <;> omega)) (by ((try simp only [plus_size, World.size_alloc, World.size_drew, World.size_setCell, size_setRow, World.heap_drewN, List.length_append, List.length_cons, List.length_nil]) <;> omega)) (by ((try simp only [plus_size, World.size_alloc, World.size_drew, World.size_setCell, size_setRow, World.heap_drewN, List.length_append, List.length_cons, List.length_nil]) <;> omega)) (by (repeat (first | (with_reducible exact List.prefix_rfl) | (with_reducible exact List.nil_prefix) | (refine List.IsPrefix.trans ?_ (List.prefix_append _ _))))))⟩
end Go.Proofs.Ytkmfglocjdjhjaa
