/- The sum of two polynomials, by the reference. Conditions: as each theorem says. -/
import Derived.Test.YtcipdgmimmngoaaZg
namespace Go.Proofs.Ytcipdgmimmngoaa
open Go.RowKit
set_option linter.unusedSimpArgs false
set_option linter.unusedVariables false
open Go.RowKit
theorem addLst_fits {lp : Int} {xs : List Int} {lq : Int} {ys : List Int} (h1 : okL lp xs = true) (h2 : okL lq ys = true) : Fits (addLst lp xs lq ys) := by
  have a4 := (okL_true h1).2.2.2
  have b4 := (okL_true h2).2.2.2
  intro x hx
  obtain ⟨i, hi, rfl⟩ := List.mem_iff_getElem.1 hx
  have key : -9223372036854775808 ≤ nth (addLst lp xs lq ys) i ∧ nth (addLst lp xs lq ys) i < 9223372036854775808 := by
    have hi2 := hi
    unfold addLst at hi2 ⊢
    split at hi2
    · rename_i h; rw [if_pos h]; have := allC_at b4 hi2; omega
    · rename_i h
      rw [if_neg h]
      split at hi2
      · rename_i h3; rw [if_pos h3]; have := allC_at a4 hi2; omega
      · rename_i h3
        rw [if_neg h3]
        obtain ⟨k, hk, e⟩ := trimLst_nth hi2
        rw [e]
        have := sumP_b (lp := lp) (lq := lq) a4 b4 hk
        omega
  rw [show nth (addLst lp xs lq ys) i = (addLst lp xs lq ys)[i] by simp [nth, hi]] at key
  exact key
set_option maxHeartbeats 4000000 in
theorem spec_AddLaurents (n : Int) (v1 : Value) (xs : List Int) (m : Int) (v2 : Value) (ys : List Int) (w : World) (h1 : reads w v1 xs) (h2 : reads w v2 ys) (hlen1 : xs.length ≤ 1000000000) (hlen2 : ys.length ≤ 1000000000) (hfit1 : Fits xs) (hfit2 : Fits ys) : Calls Try.prog 7 #[.agg #[.int .i64 n, v1], .agg #[.int .i64 m, v2]] w (RetB2 2 w (adN n xs m ys) (adL n xs m ys) (adC n xs m ys)) := by
  have hIA := fun w' (hb : Below w.heap.size w w') => spec_Is n v1 xs w' (h1.kept hb) hlen1 hfit1
  have hIB := fun w' (hb : Below w.heap.size w w') => spec_Is m v2 ys w' (h2.kept hb) hlen2 hfit2
  clear hfit1 hfit2
  cases okA : okL n xs with
  | false =>
    simp only [okA] at hIA
    cases okB : okL m ys with
    | false =>
      simp only [okB] at hIB
      obtain ⟨e1, e2, e3⟩ := ad_no (lp := n) (xs := xs) (lq := m) (ys := ys) (by simp [okA, okB])
      rw [e1, e2, e3]
      have HA := Lib.hid hIA
      have HB := Lib.hid hIB
      clear hIA hIB okA okB e1 e2 e3 h1 h2
      go_enter Try.func7, Try.ntmps7
      go_wp2_with (first | (go_at_call 28; with_reducible refine Calls.mono (HA.out _ ?_) ?_; (repeat (first | (with_reducible exact Below.refl _ _) | (with_reducible assumption) | (with_reducible refine below_plus' ?_ ?_; ((try simp only [plus_size, World.size_alloc, World.size_drew, World.size_setCell, size_setRow, World.heap_drewN, List.length_append]) <;> omega)) | (with_reducible refine below_alloc' ?_ ?_; ((try simp only [plus_size, World.size_alloc, World.size_drew, World.size_setCell, size_setRow, World.heap_drewN, List.length_append]) <;> omega)) | with_reducible refine Below.drew ?_ | (with_reducible refine below_drewN' ?_ _) | exact Below.refl _ _)); rintro e w' ⟨rfl, hB⟩; obtain ⟨j, d, rfl⟩ := plus_of_below hB; clear hB) | (go_at_call 28; with_reducible refine Calls.mono (HB.out _ ?_) ?_; (repeat (first | (with_reducible exact Below.refl _ _) | (with_reducible assumption) | (with_reducible refine below_plus' ?_ ?_; ((try simp only [plus_size, World.size_alloc, World.size_drew, World.size_setCell, size_setRow, World.heap_drewN, List.length_append]) <;> omega)) | (with_reducible refine below_alloc' ?_ ?_; ((try simp only [plus_size, World.size_alloc, World.size_drew, World.size_setCell, size_setRow, World.heap_drewN, List.length_append]) <;> omega)) | with_reducible refine Below.drew ?_ | (with_reducible refine below_drewN' ?_ _) | exact Below.refl _ _)); rintro e w' ⟨rfl, hB⟩; obtain ⟨j, d, rfl⟩ := plus_of_below hB; clear hB))
      refine bodyPost_ret (v := .tuple #[.agg #[.int .i64 0, .slice none 0 0], .int .i64 1]) (by simp [results, Try.results7, go_sem]) rfl ?_
      exact ⟨_, rfl, by (repeat (first | (with_reducible exact Below.refl _ _) | (with_reducible assumption) | (with_reducible refine below_plus' ?_ ?_; ((try simp only [plus_size, World.size_alloc, World.size_drew, World.size_setCell, size_setRow, World.heap_drewN, List.length_append]) <;> omega)) | (with_reducible refine below_alloc' ?_ ?_; ((try simp only [plus_size, World.size_alloc, World.size_drew, World.size_setCell, size_setRow, World.heap_drewN, List.length_append]) <;> omega)) | with_reducible refine Below.drew ?_ | (with_reducible refine below_drewN' ?_ _) | exact Below.refl _ _)), own_nil _ _ _⟩
    | true =>
      simp only [okB] at hIB
      obtain ⟨e1, e2, e3⟩ := ad_no (lp := n) (xs := xs) (lq := m) (ys := ys) (by simp [okA, okB])
      rw [e1, e2, e3]
      have HA := Lib.hid hIA
      have HB := Lib.hid hIB
      clear hIA hIB okA okB e1 e2 e3 h1 h2
      go_enter Try.func7, Try.ntmps7
      go_wp2_with (first | (go_at_call 28; with_reducible refine Calls.mono (HA.out _ ?_) ?_; (repeat (first | (with_reducible exact Below.refl _ _) | (with_reducible assumption) | (with_reducible refine below_plus' ?_ ?_; ((try simp only [plus_size, World.size_alloc, World.size_drew, World.size_setCell, size_setRow, World.heap_drewN, List.length_append]) <;> omega)) | (with_reducible refine below_alloc' ?_ ?_; ((try simp only [plus_size, World.size_alloc, World.size_drew, World.size_setCell, size_setRow, World.heap_drewN, List.length_append]) <;> omega)) | with_reducible refine Below.drew ?_ | (with_reducible refine below_drewN' ?_ _) | exact Below.refl _ _)); rintro e w' ⟨rfl, hB⟩; obtain ⟨j, d, rfl⟩ := plus_of_below hB; clear hB) | (go_at_call 28; with_reducible refine Calls.mono (HB.out _ ?_) ?_; (repeat (first | (with_reducible exact Below.refl _ _) | (with_reducible assumption) | (with_reducible refine below_plus' ?_ ?_; ((try simp only [plus_size, World.size_alloc, World.size_drew, World.size_setCell, size_setRow, World.heap_drewN, List.length_append]) <;> omega)) | (with_reducible refine below_alloc' ?_ ?_; ((try simp only [plus_size, World.size_alloc, World.size_drew, World.size_setCell, size_setRow, World.heap_drewN, List.length_append]) <;> omega)) | with_reducible refine Below.drew ?_ | (with_reducible refine below_drewN' ?_ _) | exact Below.refl _ _)); rintro e w' ⟨rfl, hB⟩; obtain ⟨j, d, rfl⟩ := plus_of_below hB; clear hB))
      refine bodyPost_ret (v := .tuple #[.agg #[.int .i64 0, .slice none 0 0], .int .i64 1]) (by simp [results, Try.results7, go_sem]) rfl ?_
      exact ⟨_, rfl, by (repeat (first | (with_reducible exact Below.refl _ _) | (with_reducible assumption) | (with_reducible refine below_plus' ?_ ?_; ((try simp only [plus_size, World.size_alloc, World.size_drew, World.size_setCell, size_setRow, World.heap_drewN, List.length_append]) <;> omega)) | (with_reducible refine below_alloc' ?_ ?_; ((try simp only [plus_size, World.size_alloc, World.size_drew, World.size_setCell, size_setRow, World.heap_drewN, List.length_append]) <;> omega)) | with_reducible refine Below.drew ?_ | (with_reducible refine below_drewN' ?_ _) | exact Below.refl _ _)), own_nil _ _ _⟩
  | true =>
    simp only [okA] at hIA
    cases okB : okL m ys with
    | false =>
      simp only [okB] at hIB
      obtain ⟨e1, e2, e3⟩ := ad_no (lp := n) (xs := xs) (lq := m) (ys := ys) (by simp [okA, okB])
      rw [e1, e2, e3]
      have HA := Lib.hid hIA
      have HB := Lib.hid hIB
      clear hIA hIB okA okB e1 e2 e3 h1 h2
      go_enter Try.func7, Try.ntmps7
      go_wp2_with (first | (go_at_call 28; with_reducible refine Calls.mono (HA.out _ ?_) ?_; (repeat (first | (with_reducible exact Below.refl _ _) | (with_reducible assumption) | (with_reducible refine below_plus' ?_ ?_; ((try simp only [plus_size, World.size_alloc, World.size_drew, World.size_setCell, size_setRow, World.heap_drewN, List.length_append]) <;> omega)) | (with_reducible refine below_alloc' ?_ ?_; ((try simp only [plus_size, World.size_alloc, World.size_drew, World.size_setCell, size_setRow, World.heap_drewN, List.length_append]) <;> omega)) | with_reducible refine Below.drew ?_ | (with_reducible refine below_drewN' ?_ _) | exact Below.refl _ _)); rintro e w' ⟨rfl, hB⟩; obtain ⟨j, d, rfl⟩ := plus_of_below hB; clear hB) | (go_at_call 28; with_reducible refine Calls.mono (HB.out _ ?_) ?_; (repeat (first | (with_reducible exact Below.refl _ _) | (with_reducible assumption) | (with_reducible refine below_plus' ?_ ?_; ((try simp only [plus_size, World.size_alloc, World.size_drew, World.size_setCell, size_setRow, World.heap_drewN, List.length_append]) <;> omega)) | (with_reducible refine below_alloc' ?_ ?_; ((try simp only [plus_size, World.size_alloc, World.size_drew, World.size_setCell, size_setRow, World.heap_drewN, List.length_append]) <;> omega)) | with_reducible refine Below.drew ?_ | (with_reducible refine below_drewN' ?_ _) | exact Below.refl _ _)); rintro e w' ⟨rfl, hB⟩; obtain ⟨j, d, rfl⟩ := plus_of_below hB; clear hB))
      refine bodyPost_ret (v := .tuple #[.agg #[.int .i64 0, .slice none 0 0], .int .i64 1]) (by simp [results, Try.results7, go_sem]) rfl ?_
      exact ⟨_, rfl, by (repeat (first | (with_reducible exact Below.refl _ _) | (with_reducible assumption) | (with_reducible refine below_plus' ?_ ?_; ((try simp only [plus_size, World.size_alloc, World.size_drew, World.size_setCell, size_setRow, World.heap_drewN, List.length_append]) <;> omega)) | (with_reducible refine below_alloc' ?_ ?_; ((try simp only [plus_size, World.size_alloc, World.size_drew, World.size_setCell, size_setRow, World.heap_drewN, List.length_append]) <;> omega)) | with_reducible refine Below.drew ?_ | (with_reducible refine below_drewN' ?_ _) | exact Below.refl _ _)), own_nil _ _ _⟩
    | true =>
      simp only [okB] at hIB
      obtain ⟨e1, e2, e3⟩ := ad_yes okA okB
      rw [e1, e2, e3]
      have HA := Lib.hid hIA
      have HB := Lib.hid hIB
      have hlen := (add_ok okA okB).2.2.2.1
      have hft := addLst_fits okA okB
      have HAd := Lib.hid (fun w' (hb : Below w.heap.size w w') => l05Add_any n v1 xs m v2 ys w' (h1.kept hb) (h2.kept hb) okA okB)
      have hR := fun u w' (h : reads w' u (addLst n xs m ys)) => spec_Is (addLow n xs m ys) u (addLst n xs m ys) w' h (by omega) hft
      clear hIA hIB okA okB e1 e2 e3 h1 h2
      generalize addLow n xs m ys = r at *
      generalize addLst n xs m ys = R at *
      clear hlen hft
      cases hok : okL r R with
      | false =>
        simp only [hok] at hR
        have HR := Lib.hid hR
        obtain ⟨f1, f2, f3⟩ := la_no hok
        rw [f1, f2, f3]
        clear hR hok f1 f2 f3
        go_enter Try.func7, Try.ntmps7
        go_wp2_with (first | (go_at_call 28; with_reducible refine Calls.mono (HA.out _ ?_) ?_; (repeat (first | (with_reducible exact Below.refl _ _) | (with_reducible assumption) | (with_reducible refine below_plus' ?_ ?_; ((try simp only [plus_size, World.size_alloc, World.size_drew, World.size_setCell, size_setRow, World.heap_drewN, List.length_append]) <;> omega)) | (with_reducible refine below_alloc' ?_ ?_; ((try simp only [plus_size, World.size_alloc, World.size_drew, World.size_setCell, size_setRow, World.heap_drewN, List.length_append]) <;> omega)) | with_reducible refine Below.drew ?_ | (with_reducible refine below_drewN' ?_ _) | exact Below.refl _ _)); rintro e w' ⟨rfl, hB⟩; obtain ⟨j, d, rfl⟩ := plus_of_below hB; clear hB)
                                                | (go_at_call 28; with_reducible refine Calls.mono (HB.out _ ?_) ?_; (repeat (first | (with_reducible exact Below.refl _ _) | (with_reducible assumption) | (with_reducible refine below_plus' ?_ ?_; ((try simp only [plus_size, World.size_alloc, World.size_drew, World.size_setCell, size_setRow, World.heap_drewN, List.length_append]) <;> omega)) | (with_reducible refine below_alloc' ?_ ?_; ((try simp only [plus_size, World.size_alloc, World.size_drew, World.size_setCell, size_setRow, World.heap_drewN, List.length_append]) <;> omega)) | with_reducible refine Below.drew ?_ | (with_reducible refine below_drewN' ?_ _) | exact Below.refl _ _)); rintro e w' ⟨rfl, hB⟩; obtain ⟨j, d, rfl⟩ := plus_of_below hB; clear hB)
                                                | (go_at_call 29; with_reducible refine Calls.mono (HAd.out _ ?_) ?_; (repeat (first | (with_reducible exact Below.refl _ _) | (with_reducible assumption) | (with_reducible refine below_plus' ?_ ?_; ((try simp only [plus_size, World.size_alloc, World.size_drew, World.size_setCell, size_setRow, World.heap_drewN, List.length_append]) <;> omega)) | (with_reducible refine below_alloc' ?_ ?_; ((try simp only [plus_size, World.size_alloc, World.size_drew, World.size_setCell, size_setRow, World.heap_drewN, List.length_append]) <;> omega)) | with_reducible refine Below.drew ?_ | (with_reducible refine below_drewN' ?_ _) | exact Below.refl _ _)); intro e w' hh; obtain ⟨vG, rfl, hB, hoG⟩ := retB_form hh; clear hh; have hrG := hoG.reads; obtain ⟨aG, cG, rfl⟩ := readsL_form hrG; obtain ⟨j, d, rfl⟩ := plus_of_below hB; clear hB)
                                                | (go_at_call 28; with_reducible refine Calls.mono (HR.out _ _ ?_) ?_; exact hrG.kept (by (repeat (first | (with_reducible exact Below.refl _ _) | (with_reducible assumption) | (with_reducible refine below_plus' ?_ ?_; ((try simp only [plus_size, World.size_alloc, World.size_drew, World.size_setCell, size_setRow, World.heap_drewN, List.length_append]) <;> omega)) | (with_reducible refine below_alloc' ?_ ?_; ((try simp only [plus_size, World.size_alloc, World.size_drew, World.size_setCell, size_setRow, World.heap_drewN, List.length_append]) <;> omega)) | with_reducible refine Below.drew ?_ | (with_reducible refine below_drewN' ?_ _) | exact Below.refl _ _))); rintro e w' ⟨rfl, hB⟩; obtain ⟨j, d, rfl⟩ := plus_of_below hB; clear hB))
        refine bodyPost_ret (v := .tuple #[.agg #[.int .i64 0, .slice none 0 0], .int .i64 3]) (by simp [results, Try.results7, go_sem]) rfl ?_
        exact ⟨_, rfl, by (repeat (first | (with_reducible exact Below.refl _ _) | (with_reducible assumption) | (with_reducible refine below_plus' ?_ ?_; ((try simp only [plus_size, World.size_alloc, World.size_drew, World.size_setCell, size_setRow, World.heap_drewN, List.length_append]) <;> omega)) | (with_reducible refine below_alloc' ?_ ?_; ((try simp only [plus_size, World.size_alloc, World.size_drew, World.size_setCell, size_setRow, World.heap_drewN, List.length_append]) <;> omega)) | with_reducible refine Below.drew ?_ | (with_reducible refine below_drewN' ?_ _) | exact Below.refl _ _)), own_nil _ _ _⟩
      | true =>
        simp only [hok] at hR
        have HR := Lib.hid hR
        obtain ⟨f1, f2, f3⟩ := la_yes hok
        rw [f1, f2, f3]
        clear hR hok f1 f2 f3
        go_enter Try.func7, Try.ntmps7
        go_wp2_with (first | (go_at_call 28; with_reducible refine Calls.mono (HA.out _ ?_) ?_; (repeat (first | (with_reducible exact Below.refl _ _) | (with_reducible assumption) | (with_reducible refine below_plus' ?_ ?_; ((try simp only [plus_size, World.size_alloc, World.size_drew, World.size_setCell, size_setRow, World.heap_drewN, List.length_append]) <;> omega)) | (with_reducible refine below_alloc' ?_ ?_; ((try simp only [plus_size, World.size_alloc, World.size_drew, World.size_setCell, size_setRow, World.heap_drewN, List.length_append]) <;> omega)) | with_reducible refine Below.drew ?_ | (with_reducible refine below_drewN' ?_ _) | exact Below.refl _ _)); rintro e w' ⟨rfl, hB⟩; obtain ⟨j, d, rfl⟩ := plus_of_below hB; clear hB)
                                                | (go_at_call 28; with_reducible refine Calls.mono (HB.out _ ?_) ?_; (repeat (first | (with_reducible exact Below.refl _ _) | (with_reducible assumption) | (with_reducible refine below_plus' ?_ ?_; ((try simp only [plus_size, World.size_alloc, World.size_drew, World.size_setCell, size_setRow, World.heap_drewN, List.length_append]) <;> omega)) | (with_reducible refine below_alloc' ?_ ?_; ((try simp only [plus_size, World.size_alloc, World.size_drew, World.size_setCell, size_setRow, World.heap_drewN, List.length_append]) <;> omega)) | with_reducible refine Below.drew ?_ | (with_reducible refine below_drewN' ?_ _) | exact Below.refl _ _)); rintro e w' ⟨rfl, hB⟩; obtain ⟨j, d, rfl⟩ := plus_of_below hB; clear hB)
                                                | (go_at_call 29; with_reducible refine Calls.mono (HAd.out _ ?_) ?_; (repeat (first | (with_reducible exact Below.refl _ _) | (with_reducible assumption) | (with_reducible refine below_plus' ?_ ?_; ((try simp only [plus_size, World.size_alloc, World.size_drew, World.size_setCell, size_setRow, World.heap_drewN, List.length_append]) <;> omega)) | (with_reducible refine below_alloc' ?_ ?_; ((try simp only [plus_size, World.size_alloc, World.size_drew, World.size_setCell, size_setRow, World.heap_drewN, List.length_append]) <;> omega)) | with_reducible refine Below.drew ?_ | (with_reducible refine below_drewN' ?_ _) | exact Below.refl _ _)); intro e w' hh; obtain ⟨vG, rfl, hB, hoG⟩ := retB_form hh; clear hh; have hrG := hoG.reads; obtain ⟨aG, cG, rfl⟩ := readsL_form hrG; obtain ⟨j, d, rfl⟩ := plus_of_below hB; clear hB)
                                                | (go_at_call 28; with_reducible refine Calls.mono (HR.out _ _ ?_) ?_; exact hrG.kept (by (repeat (first | (with_reducible exact Below.refl _ _) | (with_reducible assumption) | (with_reducible refine below_plus' ?_ ?_; ((try simp only [plus_size, World.size_alloc, World.size_drew, World.size_setCell, size_setRow, World.heap_drewN, List.length_append]) <;> omega)) | (with_reducible refine below_alloc' ?_ ?_; ((try simp only [plus_size, World.size_alloc, World.size_drew, World.size_setCell, size_setRow, World.heap_drewN, List.length_append]) <;> omega)) | with_reducible refine Below.drew ?_ | (with_reducible refine below_drewN' ?_ _) | exact Below.refl _ _))); rintro e w' ⟨rfl, hB⟩; obtain ⟨j, d, rfl⟩ := plus_of_below hB; clear hB))
        refine bodyPost_ret (v := .tuple #[.agg #[.int .i64 r, .slice aG R.length cG], .int .i64 0]) (by simp [results, Try.results7, go_sem]) rfl ?_
        exact ⟨_, rfl, by (repeat (first | (with_reducible exact Below.refl _ _) | (with_reducible assumption) | (with_reducible refine below_plus' ?_ ?_; ((try simp only [plus_size, World.size_alloc, World.size_drew, World.size_setCell, size_setRow, World.heap_drewN, List.length_append]) <;> omega)) | (with_reducible refine below_alloc' ?_ ?_; ((try simp only [plus_size, World.size_alloc, World.size_drew, World.size_setCell, size_setRow, World.heap_drewN, List.length_append]) <;> omega)) | with_reducible refine Below.drew ?_ | (with_reducible refine below_drewN' ?_ _) | exact Below.refl _ _)), by ((try simp only [plus_alloc, plus_plus] at hoG ⊢); exact own_farG hoG (by ((try simp only [plus_size, World.size_alloc, World.size_drew, World.size_setCell, size_setRow, World.heap_drewN, List.length_append, List.length_cons, List.length_nil]) <;> omega)) (by ((try simp only [plus_size, World.size_alloc, World.size_drew, World.size_setCell, size_setRow, World.heap_drewN, List.length_append, List.length_cons, List.length_nil]) <;> omega)) (by ((try simp only [plus_size, World.size_alloc, World.size_drew, World.size_setCell, size_setRow, World.heap_drewN, List.length_append, List.length_cons, List.length_nil]) <;> omega)) (by (repeat (first | (with_reducible exact List.prefix_rfl) | (with_reducible exact List.nil_prefix) | (refine List.IsPrefix.trans ?_ (List.prefix_append _ _))))))⟩
end Go.Proofs.Ytcipdgmimmngoaa
