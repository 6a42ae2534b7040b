/- The product of two polynomials. Conditions: as each theorem says. -/
import Derived.Test.YtcipdgmimmngoaaZm
import Derived.Test.YtcipdgmimmngoaaZe
namespace Go.Proofs.Ytcipdgmimmngoaa
open Go.RowKit
set_option linter.unusedSimpArgs false
set_option linter.unusedVariables false
open Go.RowKit
/-- what is known of a product -/
theorem mul_ok {lp : Int} {xs : List Int} {lq : Int} {ys : List Int} (h1 : okL lp xs = true) (h2 : okL lq ys = true) : Fw (lstI (xs.length + ys.length - 1) (cvR xs ys xs.length)) ∧ -100000 ≤ mulLow lp xs lq ys ∧ mulLow lp xs lq ys ≤ 100000 ∧ (mulLst xs ys).length ≤ 100000 ∧ Fw (mulLst xs ys) := by
  obtain ⟨a1, a2, a3, a4⟩ := okL_true h1
  obtain ⟨b1, b2, b3, b4⟩ := okL_true h2
  have hF := mul_fw a4 b4 a1 (xs.length + ys.length - 1)
  have hll := lstI_length (xs.length + ys.length - 1) (cvR xs ys xs.length)
  have hb := trimLow_b (low := lp + lq) (xs := lstI (xs.length + ys.length - 1) (cvR xs ys xs.length)) (by omega) (by omega) (by omega)
  have hl := trimLst_len (lstI (xs.length + ys.length - 1) (cvR xs ys xs.length))
  refine ⟨hF, ?_⟩
  unfold mulLow mulLst
  split
  · exact ⟨by omega, by omega, by simp, fun i hi => by cases hi⟩
  · exact ⟨hb.1, hb.2, by omega, hF.trim⟩
/-- what MultiplyLaurents answers -/
def muN (lp : Int) (xs : List Int) (lq : Int) (ys : List Int) : Int := if okL lp xs = true ∧ okL lq ys = true then laN (mulLow lp xs lq ys) (mulLst xs ys) else 0
def muL (lp : Int) (xs : List Int) (lq : Int) (ys : List Int) : List Int := if okL lp xs = true ∧ okL lq ys = true then laL (mulLow lp xs lq ys) (mulLst xs ys) else []
def muC (lp : Int) (xs : List Int) (lq : Int) (ys : List Int) : Int := if okL lp xs = true ∧ okL lq ys = true then laC (mulLow lp xs lq ys) (mulLst xs ys) else 1
theorem mu_no {lp : Int} {xs : List Int} {lq : Int} {ys : List Int} (h : (okL lp xs && okL lq ys) = false) : muN lp xs lq ys = 0 ∧ muL lp xs lq ys = [] ∧ muC lp xs lq ys = 1 := by
  have : ¬ (okL lp xs = true ∧ okL lq ys = true) := by
    intro ⟨a, b⟩
    rw [a, b] at h; cases h
  simp only [muN, muL, muC, if_neg this, and_self]
theorem mu_yes {lp : Int} {xs : List Int} {lq : Int} {ys : List Int} (h1 : okL lp xs = true) (h2 : okL lq ys = true) : muN lp xs lq ys = laN (mulLow lp xs lq ys) (mulLst xs ys) ∧ muL lp xs lq ys = laL (mulLow lp xs lq ys) (mulLst xs ys) ∧ muC lp xs lq ys = laC (mulLow lp xs lq ys) (mulLst xs ys) := by
  have : okL lp xs = true ∧ okL lq ys = true := ⟨h1, h2⟩
  simp only [muN, muL, muC, if_pos this, and_self]
theorem muL_le {n : Int} {xs : List Int} {m : Int} {ys : List Int} : (muL n xs m ys).length ≤ 1000000000 := by
  by_cases h : okL n xs = true ∧ okL m ys = true
  · rw [(mu_yes h.1 h.2).2.1]
    have := (mul_ok h.1 h.2).2.2.2.1
    unfold laL
    split
    · omega
    · exact Nat.zero_le _
  · simp only [muL, if_neg h]
    exact Nat.zero_le _
theorem mul_sl (lp : Int) (v1 : Value) (xs : List Int) (lq : Int) (v2 : Value) (ys : List Int) (w : World) (h1 : readsW w v1 xs) (h2 : readsW w v2 ys) (hl1 : xs.length ≤ 5000) (hl2 : ys.length ≤ 5000) (hp1 : -5000 ≤ lp) (hp2 : lp ≤ 5000) (hq1 : -5000 ≤ lq) (hq2 : lq ≤ 5000) (hf1 : Fw xs) (hf : Fw (lstI (xs.length + ys.length - 1) (cvR xs ys xs.length))) : Calls Try.prog 40 #[.agg #[.int .i64 lp, v1], .agg #[.int .i64 lq, v2]] w fun e w' => ∃ a c, e = .returned (.agg #[.int .i64 (mulLow lp xs lq ys), .slice a (mulLst xs ys).length c]) ∧ Below w.heap.size w w' ∧ readsW w' (.slice a (mulLst xs ys).length c) (mulLst xs ys) := by
  refine (multiply_any lp v1 xs lq v2 ys w h1 h2 hl1 hl2 hp1 hp2 hq1 hq2 hf1 hf).mono ?_
  rintro e w' ⟨⟨v', rfl, hR⟩, hB⟩
  obtain ⟨a, c, rfl, hh⟩ := id hR
  exact ⟨a, c, rfl, hB, hR⟩
set_option maxHeartbeats 4000000 in
theorem impl_MultiplyLaurents (n : Int) (v1 : Value) (xs : List Int) (m : Int) (v2 : Value) (ys : List Int) (w : World) (h1 : reads w v1 xs) (h2 : reads w v2 ys) (hlen1 : xs.length ≤ 1000000000) (hlen2 : ys.length ≤ 1000000000) (hfit1 : Fits xs) (hfit2 : Fits ys) : Calls Try.prog 14 #[.agg #[.int .i64 n, v1], .agg #[.int .i64 m, v2]] w (RetB2 2 w (muN n xs m ys) (muL n xs m ys) (muC n xs m ys)) := by
  have hA := fun w' (hb : Below w.heap.size w w') => areL_any n v1 xs m v2 ys w' (h1.kept hb) (h2.kept hb) hlen1 hlen2 hfit1 hfit2
  obtain ⟨a1, c1, rfl⟩ := readsL_form h1
  obtain ⟨a2, c2, rfl⟩ := readsL_form h2
  cases hok : (okL n xs && okL m ys) with
  | false =>
    obtain ⟨e1, e2, e3⟩ := mu_no hok
    simp only [hok] at hA
    rw [e1, e2, e3]
    have HA := Lib.hid hA
    clear hA hok e1 e2 e3 h1 h2 hfit1 hfit2
    go_enter Try.func14, Try.ntmps14
    go_wp2_with (first | (go_at_call 31; with_reducible refine Calls.mono (HA.out _ ?_) ?_; (repeat (first | (with_reducible exact Below.refl _ _) | (with_reducible assumption) | (with_reducible refine below_plus' ?_ ?_; ((try simp only [plus_size, World.size_alloc, World.size_drew, World.size_setCell, size_setRow, World.heap_drewN, List.length_append]) <;> omega)) | (with_reducible refine below_alloc' ?_ ?_; ((try simp only [plus_size, World.size_alloc, World.size_drew, World.size_setCell, size_setRow, World.heap_drewN, List.length_append]) <;> omega)) | with_reducible refine Below.drew ?_ | (with_reducible refine below_drewN' ?_ _) | exact Below.refl _ _)); rintro e w' ⟨rfl, hB⟩; obtain ⟨j, d, rfl⟩ := plus_of_below hB; clear hB))
    refine bodyPost_ret (v := .tuple #[.agg #[.int .i64 0, .slice none 0 0], .int .i64 1]) (by simp [results, Try.results14, go_sem]) rfl ?_
    exact ⟨_, rfl, by (repeat (first | (with_reducible exact Below.refl _ _) | (with_reducible assumption) | (with_reducible refine below_plus' ?_ ?_; ((try simp only [plus_size, World.size_alloc, World.size_drew, World.size_setCell, size_setRow, World.heap_drewN, List.length_append]) <;> omega)) | (with_reducible refine below_alloc' ?_ ?_; ((try simp only [plus_size, World.size_alloc, World.size_drew, World.size_setCell, size_setRow, World.heap_drewN, List.length_append]) <;> omega)) | with_reducible refine Below.drew ?_ | (with_reducible refine below_drewN' ?_ _) | exact Below.refl _ _)), own_nil _ _ _⟩
  | true =>
    simp only [hok] at hA
    have HA := Lib.hid hA
    obtain ⟨k1, k2⟩ := Bool.and_eq_true_iff.1 hok
    obtain ⟨e1, e2, e3⟩ := mu_yes k1 k2
    rw [e1, e2, e3]
    obtain ⟨g1, g2, g3, g4, g5⟩ := mul_ok k1 k2
    obtain ⟨i1, i2, i3, i4⟩ := okL_true k1
    obtain ⟨l1, l2, l3, l4⟩ := okL_true k2
    have HPa := Lib.hid (fun w' (hb : Below w.heap.size w w') => polyOf_sl n _ xs w' (h1.kept hb) (by omega) hfit1)
    have HPb := Lib.hid (fun w' (hb : Below w.heap.size w w') => polyOf_sl m _ ys w' (h2.kept hb) (by omega) hfit2)
    have HD := Lib.hid (fun u1 u2 w' (k1 : readsW w' u1 xs) (k2 : readsW w' u2 ys) => mul_sl n u1 xs m u2 ys w' k1 k2 (by omega) (by omega) (by omega) (by omega) (by omega) (by omega) (Fw_all i4) g1)
    have HLa := Lib.hid (fun u w' (k : readsW w' u (mulLst xs ys)) => laurent_any (mulLow n xs m ys) u (mulLst xs ys) w' k g4 g2 g3 g5)
    clear hA hok e1 e2 e3 h1 h2 hfit1 hfit2 k1 k2 g1 g2 g3 g4 g5 i4 l4
    generalize mulLst xs ys = R at HD HLa ⊢
    generalize mulLow n xs m ys = r at HD HLa ⊢
    generalize laL r R = L at HLa ⊢
    generalize laN r R = N at HLa ⊢
    generalize laC r R = C at HLa ⊢
    go_enter Try.func14, Try.ntmps14
    go_upto_region 3 with (first | (go_at_call 31; with_reducible refine Calls.mono (HA.out _ ?_) ?_; (repeat (first | (with_reducible exact Below.refl _ _) | (with_reducible assumption) | (with_reducible refine below_plus' ?_ ?_; ((try simp only [plus_size, World.size_alloc, World.size_drew, World.size_setCell, size_setRow, World.heap_drewN, List.length_append]) <;> omega)) | (with_reducible refine below_alloc' ?_ ?_; ((try simp only [plus_size, World.size_alloc, World.size_drew, World.size_setCell, size_setRow, World.heap_drewN, List.length_append]) <;> omega)) | with_reducible refine Below.drew ?_ | (with_reducible refine below_drewN' ?_ _) | exact Below.refl _ _)); rintro e w' ⟨rfl, hB⟩; obtain ⟨j, d, rfl⟩ := plus_of_below hB; clear hB))
    go_region_with (first | (go_at_call 32; with_reducible refine Calls.mono (HPa.out _ ?_) ?_; (repeat (first | (with_reducible exact Below.refl _ _) | (with_reducible assumption) | (with_reducible refine below_plus' ?_ ?_; ((try simp only [plus_size, World.size_alloc, World.size_drew, World.size_setCell, size_setRow, World.heap_drewN, List.length_append]) <;> omega)) | (with_reducible refine below_alloc' ?_ ?_; ((try simp only [plus_size, World.size_alloc, World.size_drew, World.size_setCell, size_setRow, World.heap_drewN, List.length_append]) <;> omega)) | with_reducible refine Below.drew ?_ | (with_reducible refine below_drewN' ?_ _) | exact Below.refl _ _)); rintro e w' ⟨pA, qA, rfl, hB, hRA⟩; obtain ⟨j, d, rfl⟩ := plus_of_below hB; clear hB)
                                        | (go_at_call 32; with_reducible refine Calls.mono (HPb.out _ ?_) ?_; (repeat (first | (with_reducible exact Below.refl _ _) | (with_reducible assumption) | (with_reducible refine below_plus' ?_ ?_; ((try simp only [plus_size, World.size_alloc, World.size_drew, World.size_setCell, size_setRow, World.heap_drewN, List.length_append]) <;> omega)) | (with_reducible refine below_alloc' ?_ ?_; ((try simp only [plus_size, World.size_alloc, World.size_drew, World.size_setCell, size_setRow, World.heap_drewN, List.length_append]) <;> omega)) | with_reducible refine Below.drew ?_ | (with_reducible refine below_drewN' ?_ _) | exact Below.refl _ _)); rintro e w' ⟨pB, qB, rfl, hB, hRB⟩; obtain ⟨j, d, rfl⟩ := plus_of_below hB; clear hB)
                                        | (go_at_call 40; with_reducible refine Calls.mono (HD.out _ _ _ ?_ ?_) ?_; exact hRA.kept (by (repeat (first | (with_reducible exact Below.refl _ _) | (with_reducible assumption) | (with_reducible refine below_plus' ?_ ?_; ((try simp only [plus_size, World.size_alloc, World.size_drew, World.size_setCell, size_setRow, World.heap_drewN, List.length_append]) <;> omega)) | (with_reducible refine below_alloc' ?_ ?_; ((try simp only [plus_size, World.size_alloc, World.size_drew, World.size_setCell, size_setRow, World.heap_drewN, List.length_append]) <;> omega)) | with_reducible refine Below.drew ?_ | (with_reducible refine below_drewN' ?_ _) | exact Below.refl _ _))); exact hRB.kept (by (repeat (first | (with_reducible exact Below.refl _ _) | (with_reducible assumption) | (with_reducible refine below_plus' ?_ ?_; ((try simp only [plus_size, World.size_alloc, World.size_drew, World.size_setCell, size_setRow, World.heap_drewN, List.length_append]) <;> omega)) | (with_reducible refine below_alloc' ?_ ?_; ((try simp only [plus_size, World.size_alloc, World.size_drew, World.size_setCell, size_setRow, World.heap_drewN, List.length_append]) <;> omega)) | with_reducible refine Below.drew ?_ | (with_reducible refine below_drewN' ?_ _) | exact Below.refl _ _))); rintro e w' ⟨pC, qC, rfl, hB, hRC⟩; obtain ⟨j, d, rfl⟩ := plus_of_below hB; clear hB)
                                        | (go_at_call 34; with_reducible refine Calls.mono (HLa.out _ _ ?_) ?_; exact hRC.kept (by (repeat (first | (with_reducible exact Below.refl _ _) | (with_reducible assumption) | (with_reducible refine below_plus' ?_ ?_; ((try simp only [plus_size, World.size_alloc, World.size_drew, World.size_setCell, size_setRow, World.heap_drewN, List.length_append]) <;> omega)) | (with_reducible refine below_alloc' ?_ ?_; ((try simp only [plus_size, World.size_alloc, World.size_drew, World.size_setCell, size_setRow, World.heap_drewN, List.length_append]) <;> omega)) | with_reducible refine Below.drew ?_ | (with_reducible refine below_drewN' ?_ _) | exact Below.refl _ _))); intro e w' hh; obtain ⟨vG, rfl, hB, hoG⟩ := retL_form hh; clear hh; have hrG := hoG.reads; obtain ⟨aG, cG, rfl⟩ := readsL_form hrG; obtain ⟨j, d, rfl⟩ := plus_of_below hB; clear hB))
    all_goals
      go_wp2
      refine bodyPost_ret (v := .tuple #[.agg #[.int .i64 N, .slice aG L.length cG], .int .i64 C]) (by simp [results, Try.results14, go_sem]) rfl ?_
      exact ⟨_, rfl, by (repeat (first | (with_reducible exact Below.refl _ _) | (with_reducible assumption) | (with_reducible refine below_plus' ?_ ?_; ((try simp only [plus_size, World.size_alloc, World.size_drew, World.size_setCell, size_setRow, World.heap_drewN, List.length_append]) <;> omega)) | (with_reducible refine below_alloc' ?_ ?_; ((try simp only [plus_size, World.size_alloc, World.size_drew, World.size_setCell, size_setRow, World.heap_drewN, List.length_append]) <;> omega)) | with_reducible refine Below.drew ?_ | (with_reducible refine below_drewN' ?_ _) | exact Below.refl _ _)), by ((try simp only [plus_plus] at hoG ⊢); exact own_farG hoG (by ((try simp only [plus_size, World.size_alloc, World.size_drew, World.size_setCell, size_setRow, World.heap_drewN, List.length_append]) <;> omega)) (by ((try simp only [plus_size, World.size_alloc, World.size_drew, World.size_setCell, size_setRow, World.heap_drewN, List.length_append]) <;> omega)) (by ((try simp only [plus_size, World.size_alloc, World.size_drew, World.size_setCell, size_setRow, World.heap_drewN, List.length_append]) <;> omega)) (by (repeat (first | (with_reducible exact List.prefix_rfl) | (with_reducible exact List.nil_prefix) | (refine List.IsPrefix.trans ?_ (List.prefix_append _ _))))))⟩
end Go.Proofs.Ytcipdgmimmngoaa
