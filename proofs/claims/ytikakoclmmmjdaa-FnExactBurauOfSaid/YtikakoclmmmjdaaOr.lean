/- BurauOf by the program. Conditions: as each theorem says. -/
import Derived.Test.YtikakoclmmmjdaaOn
import Derived.Test.YtikakoclmmmjdaaOq
namespace Go.Proofs.Ytikakoclmmmjdaa
open Go.RowKit
set_option linter.unusedSimpArgs false
set_option linter.unusedVariables false
open Go.RowKit
set_option maxHeartbeats 1000000 in
theorem impl_BurauOf (n : Int) (v : Value) (xs : List Int) (w : World) (h : reads w v xs) (hlen : xs.length ≤ 1000000000) (hfit : Fits xs) : Calls Try.prog 9 #[.agg #[.int .i64 n, v]] w (RetLt false w n xs) := by
  obtain ⟨a, c, rfl⟩ := readsL_form h
  have hI := fun w' (hb : Below w.heap.size w w') => impl_IsBraid n (.slice a xs.length c) xs w' (h.kept hb) hlen hfit
  cases hok : okW n xs with
  | false =>
    rw [hok] at hI
    have HI := Lib.hid hI
    have HC := Lib.hid (show codL false n xs = 1 by simp [codL, hok])
    clear hI h hfit hok
    go_enter Try.func9, Try.ntmps9
    go_wp2_with (first | (go_at_call 26; (with_reducible refine Calls.mono (HI.out _ ?_) ?_); (repeat (first | (with_reducible exact Below.refl _ _) | (with_reducible assumption) | (with_reducible refine below_plus' ?_ ?_; ((try simp only [plus_size, World.size_alloc, World.size_drew, World.size_setCell, size_setRow, World.heap_drewN, List.length_append]) <;> omega)) | (with_reducible refine below_alloc' ?_ ?_; ((try simp only [plus_size, World.size_alloc, World.size_drew, World.size_setCell, size_setRow, World.heap_drewN, List.length_append]) <;> omega)) | with_reducible refine Below.drew ?_ | (with_reducible refine below_drewN' ?_ _) | exact Below.refl _ _)); rintro e w' ⟨rfl, hB⟩; obtain ⟨j, d, rfl⟩ := plus_of_below hB; clear hB))
    go_ret2
    exact ⟨.slice none 0 0, by rw [HC.out]; rfl, by (repeat (first | (with_reducible exact Below.refl _ _) | (with_reducible assumption) | (with_reducible refine below_plus' ?_ ?_; ((try simp only [plus_size, World.size_alloc, World.size_drew, World.size_setCell, size_setRow, World.heap_drewN, List.length_append]) <;> omega)) | (with_reducible refine below_alloc' ?_ ?_; ((try simp only [plus_size, World.size_alloc, World.size_drew, World.size_setCell, size_setRow, World.heap_drewN, List.length_append]) <;> omega)) | with_reducible refine Below.drew ?_ | (with_reducible refine below_drewN' ?_ _) | exact Below.refl _ _)), (fun h => by rw [HC.out] at h; cases h), fun _ => rfl⟩
  | true =>
    rw [hok] at hI
    have HI := Lib.hid hI
    obtain ⟨p, hp, hp1, hp8, hq1, hq2⟩ := okW_true hok
    subst hp
    have hmx := fun w' (hb : Below w.heap.size w w') => matrixOf_b p (.slice a xs.length c) xs p w' (h.kept hb) (by omega) hlen (fun i hi => by have h4 := hq2 i hi; have h5 : nth xs i ≠ 0 ∧ 1 - (p : Int) ≤ nth xs i ∧ nth xs i ≤ (p : Int) - 1 := of_decide_eq_true h4; omega)
    have HMX := Lib.hid hmx
    have hdim : dimL false (p : Int) = p := by simp [dimL]
    obtain ⟨ok, hpre⟩ : ∃ ok, preL false p xs = ok := ⟨_, rfl⟩
    have HC := Lib.hid (show codL false p xs = if ok = true then 0 else 3 by simp only [codL, hok, if_true, hdim, hpre])
    unfold RetMx at HMX
    rw [hpre] at HMX
    clear hI h hfit hok hmx hq1 hq2 hpre
    unfold RetLt
    rw [hdim]
    clear hdim
    skip
    go_enter Try.func9, Try.ntmps9
    cases ok with
    | true =>
      go_wp2_with (first | (go_at_call 26; (with_reducible refine Calls.mono (HI.out _ ?_) ?_); (repeat (first | (with_reducible exact Below.refl _ _) | (with_reducible assumption) | (with_reducible refine below_plus' ?_ ?_; ((try simp only [plus_size, World.size_alloc, World.size_drew, World.size_setCell, size_setRow, World.heap_drewN, List.length_append]) <;> omega)) | (with_reducible refine below_alloc' ?_ ?_; ((try simp only [plus_size, World.size_alloc, World.size_drew, World.size_setCell, size_setRow, World.heap_drewN, List.length_append]) <;> omega)) | with_reducible refine Below.drew ?_ | (with_reducible refine below_drewN' ?_ _) | exact Below.refl _ _)); rintro e w' ⟨rfl, hB⟩; obtain ⟨j, d, rfl⟩ := plus_of_below hB; clear hB)
                                        | (go_at_call 27; (with_reducible refine Calls.mono (HMX.out _ ?_) ?_); (repeat (first | (with_reducible exact Below.refl _ _) | (with_reducible assumption) | (with_reducible refine below_plus' ?_ ?_; ((try simp only [plus_size, World.size_alloc, World.size_drew, World.size_setCell, size_setRow, World.heap_drewN, List.length_append]) <;> omega)) | (with_reducible refine below_alloc' ?_ ?_; ((try simp only [plus_size, World.size_alloc, World.size_drew, World.size_setCell, size_setRow, World.heap_drewN, List.length_append]) <;> omega)) | with_reducible refine Below.drew ?_ | (with_reducible refine below_drewN' ?_ _) | exact Below.refl _ _)); rintro e w2 ⟨v2, rfl, hB2, ht2, hn2⟩; have HT2 := ht2; clear ht2; have HT3 := Lib.hid (HT2 (by trivial)); clear HT2; have hB3 : Below w.heap.size w w2 := Below.trans (show Below w.heap.size w _ by (repeat (first | (with_reducible exact Below.refl _ _) | (with_reducible assumption) | (with_reducible refine below_plus' ?_ ?_; ((try simp only [plus_size, World.size_alloc, World.size_drew, World.size_setCell, size_setRow, World.heap_drewN, List.length_append]) <;> omega)) | (with_reducible refine below_alloc' ?_ ?_; ((try simp only [plus_size, World.size_alloc, World.size_drew, World.size_setCell, size_setRow, World.heap_drewN, List.length_append]) <;> omega)) | with_reducible refine Below.drew ?_ | (with_reducible refine below_drewN' ?_ _) | exact Below.refl _ _))) (hB2.mono (by ((try simp only [plus_size, World.size_alloc, World.size_drew, World.size_setCell, size_setRow, World.heap_drewN, List.length_append]) <;> omega)))))
      go_ret2
      exact ⟨v2, by rw [HC.out]; rfl, hB3, (fun _ => by
        obtain ⟨τ, h1, h2⟩ := HT3.out
        exact ⟨τ, h1.mono (by ((try simp only [plus_size, World.size_alloc, World.size_drew, World.size_setCell, size_setRow, World.heap_drewN, List.length_append]) <;> omega)) (Ctag_mono (by ((try simp only [plus_size, World.size_alloc, World.size_drew, World.size_setCell, size_setRow, World.heap_drewN, List.length_append]) <;> omega))), h2⟩), (fun h => absurd HC.out h)⟩
    | false =>
      go_wp2_with (first | (go_at_call 26; (with_reducible refine Calls.mono (HI.out _ ?_) ?_); (repeat (first | (with_reducible exact Below.refl _ _) | (with_reducible assumption) | (with_reducible refine below_plus' ?_ ?_; ((try simp only [plus_size, World.size_alloc, World.size_drew, World.size_setCell, size_setRow, World.heap_drewN, List.length_append]) <;> omega)) | (with_reducible refine below_alloc' ?_ ?_; ((try simp only [plus_size, World.size_alloc, World.size_drew, World.size_setCell, size_setRow, World.heap_drewN, List.length_append]) <;> omega)) | with_reducible refine Below.drew ?_ | (with_reducible refine below_drewN' ?_ _) | exact Below.refl _ _)); rintro e w' ⟨rfl, hB⟩; obtain ⟨j, d, rfl⟩ := plus_of_below hB; clear hB)
                                        | (go_at_call 27; (with_reducible refine Calls.mono (HMX.out _ ?_) ?_); (repeat (first | (with_reducible exact Below.refl _ _) | (with_reducible assumption) | (with_reducible refine below_plus' ?_ ?_; ((try simp only [plus_size, World.size_alloc, World.size_drew, World.size_setCell, size_setRow, World.heap_drewN, List.length_append]) <;> omega)) | (with_reducible refine below_alloc' ?_ ?_; ((try simp only [plus_size, World.size_alloc, World.size_drew, World.size_setCell, size_setRow, World.heap_drewN, List.length_append]) <;> omega)) | with_reducible refine Below.drew ?_ | (with_reducible refine below_drewN' ?_ _) | exact Below.refl _ _)); rintro e w2 ⟨v2, rfl, hB2, ht2, hn2⟩; have hB3 : Below w.heap.size w w2 := Below.trans (show Below w.heap.size w _ by (repeat (first | (with_reducible exact Below.refl _ _) | (with_reducible assumption) | (with_reducible refine below_plus' ?_ ?_; ((try simp only [plus_size, World.size_alloc, World.size_drew, World.size_setCell, size_setRow, World.heap_drewN, List.length_append]) <;> omega)) | (with_reducible refine below_alloc' ?_ ?_; ((try simp only [plus_size, World.size_alloc, World.size_drew, World.size_setCell, size_setRow, World.heap_drewN, List.length_append]) <;> omega)) | with_reducible refine Below.drew ?_ | (with_reducible refine below_drewN' ?_ _) | exact Below.refl _ _))) (hB2.mono (by ((try simp only [plus_size, World.size_alloc, World.size_drew, World.size_setCell, size_setRow, World.heap_drewN, List.length_append]) <;> omega)))))
      go_ret2
      exact ⟨.slice none 0 0, by rw [HC.out]; rfl, hB3, (fun h => by rw [HC.out] at h; simp at h), fun _ => rfl⟩
end Go.Proofs.Ytikakoclmmmjdaa
