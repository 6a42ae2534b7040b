/- The sum of a braid. Conditions: as each theorem says. -/
import Derived.Test.YtkmfglocjdjhjaaU3
namespace Go.Proofs.Ytkmfglocjdjhjaa
open Go.RowKit
set_option linter.unusedSimpArgs false
set_option linter.unusedVariables false
theorem okW_len {n : Int} {xs : List Int} (h : okW n xs = true) : xs.length ≤ 200 := by
  obtain ⟨m, _, _, _, h200, _⟩ := okW_true h
  exact h200
/-- 1 for numbers greater than 0, -1 for others -/
def sgn (x : Int) : Int := if 0 < x then 1 else -1
/-- the sum of the first k letters' counts -/
def sumL (xs : List Int) : Nat → Int
  | 0 => 0
  | k + 1 => sumL xs k + sgn (nth xs k)
theorem sumL_le (xs : List Int) : ∀ k : Nat, -(k : Int) ≤ sumL xs k ∧ sumL xs k ≤ k
  | 0 => by simp [sumL]
  | k + 1 => by
    have := sumL_le xs k
    simp only [sumL, sgn]
    split <;> omega
theorem sumL_pos {xs : List Int} {k : Nat} (h : 0 < nth xs k) : sumL xs k + 1 = sumL xs (k + 1) := by simp [sumL, sgn, h]
theorem sumL_neg {xs : List Int} {k : Nat} (h : ¬ 0 < nth xs k) : sumL xs k - 1 = sumL xs (k + 1) := by simp only [sumL, sgn, if_neg h]; omega
theorem sumL_neg' {xs : List Int} {k : Nat} (h : ¬ 0 < nth xs k) : sumL xs k + -1 = sumL xs (k + 1) := by simp only [sumL, sgn, if_neg h]
/-- a number beside a code -/
def rNum (b : Bool) (x : Int) : Value := .tuple #[.int .i64 (if b then x else 0), .int .i64 (if b then 0 else 1)]
theorem sign_any (x : Int) (w : World) : Calls Try.prog 68 #[.int .i64 x] w fun e w' => e = .returned (.int .i64 (sgn x)) ∧ w = w' := by
  by_cases h : 0 < x
  · have e := Lib.hid (show sgn x = 1 from if_pos h)
    go_enter Try.func68, Try.ntmps68
    go_wp2
    go_ret
    exact ⟨by rw [e.out]; rfl, rfl⟩
  · have e := Lib.hid (show sgn x = -1 from if_neg h)
    go_enter Try.func68, Try.ntmps68
    go_wp2
    go_ret
    exact ⟨by rw [e.out]; rfl, rfl⟩
set_option maxHeartbeats 400000 in
theorem l01Sum_any (v : Value) (xs : List Int) (w : World) (h : reads w v xs) (hlen : xs.length ≤ 200) : Calls Try.prog 67 #[v] w fun e w' => e = .returned (.int .i64 (sumL xs xs.length)) ∧ Below w.heap.size w w' := by
  obtain ⟨a, c, rfl, h⟩ := h
  have Hr := Lib.hid (show 0 < xs.length → ∃ b o, a = some ⟨b, o, none⟩ ∧ b < w.heap.size ∧ ∀ i, i < xs.length → w.cell? ⟨b, o + i, none⟩ = some (.int .i64 (nth xs i)) from fun hp => by
    rcases h with h | ⟨b, o, rfl, m⟩
    · rw [h] at hp; cases hp
    · exact ⟨b, o, rfl, World.block_lt_of_cell? w _ (m 0 hp), m⟩)
  clear h
  go_enter Try.func67, Try.ntmps67
  go_wp2
  go_loop [4, 3] (fun sl sc => ∃ k : Nat, k ≤ xs.length ∧ sl = .int .i64 k ∧ sc = .int .i64 (sumL xs k)) (fun sl _ => xs.length - (intOf sl).toNat)
  case atStart => exact ⟨0, by omega, rfl, rfl⟩
  case round =>
    obtain ⟨k, hk, rfl, rfl⟩ := hrel
    by_cases hlt : k < xs.length
    · obtain ⟨b, o, rfl, hbk, mm⟩ := Hr.out (by omega)
      have g1 := mm k hlt
      have hs := sumL_le xs k
      clear mm Hr
      by_cases hp : 0 < nth xs k
      · go_wp2
        go_round
        case rel => exact ⟨k + 1, by omega, by go_num, by rw [← sumL_pos hp]⟩
        case measure => simp [intOf]; omega
      · go_wp2
        go_round
        case rel => exact ⟨k + 1, by omega, by go_num, by rw [← sumL_neg hp]⟩
        case measure => simp [intOf]; omega
    · obtain rfl : k = xs.length := by omega
      go_wp2
      go_ret
      exact ⟨rfl, by (repeat (first | exact Below.refl _ _ | (with_reducible assumption) | (refine below_plus' ?_ ?_; ((try simp only [plus_size, World.size_alloc, World.size_drew, World.size_setCell, size_setRow, World.heap_drewN, List.length_append]) <;> omega)) | (refine below_alloc' ?_ ?_; ((try simp only [plus_size, World.size_alloc, World.size_drew, World.size_setCell, size_setRow, World.heap_drewN, List.length_append]) <;> omega)) | refine Below.drew ?_ | refine below_drewN' ?_ _))⟩
set_option maxHeartbeats 400000 in
theorem impl_SumOf (n : Int) (v : Value) (xs : List Int) (w : World) (h : reads w v xs) (hlen : xs.length ≤ 1000000000) (hfit : Fits xs) : Calls Try.prog 29 #[.agg #[.int .i64 n, v]] w fun e w' => e = .returned (rNum (okW n xs) (sumL xs xs.length)) ∧ Below w.heap.size w w' := by
  have hI := fun w' (hb : Below w.heap.size w w') => impl_IsBraid n v xs w' (h.kept hb) hlen hfit
  cases hok : okW n xs with
  | false =>
    simp only [hok] at hI
    have HI := Lib.hid hI
    clear hI h hfit hok
    go_enter Try.func29, Try.ntmps29
    go_wp2_with (first | (go_at_call 22; refine Calls.mono (HI.out _ ?_) ?_; (repeat (first | exact Below.refl _ _ | (with_reducible assumption) | (refine below_plus' ?_ ?_; ((try simp only [plus_size, World.size_alloc, World.size_drew, World.size_setCell, size_setRow, World.heap_drewN, List.length_append]) <;> omega)) | (refine below_alloc' ?_ ?_; ((try simp only [plus_size, World.size_alloc, World.size_drew, World.size_setCell, size_setRow, World.heap_drewN, List.length_append]) <;> omega)) | refine Below.drew ?_ | refine below_drewN' ?_ _)); rintro e w' ⟨rfl, hB⟩; obtain ⟨j, d, rfl⟩ := plus_of_below hB; clear hB))
    go_ret2
    exact ⟨rfl, by (repeat (first | exact Below.refl _ _ | (with_reducible assumption) | (refine below_plus' ?_ ?_; ((try simp only [plus_size, World.size_alloc, World.size_drew, World.size_setCell, size_setRow, World.heap_drewN, List.length_append]) <;> omega)) | (refine below_alloc' ?_ ?_; ((try simp only [plus_size, World.size_alloc, World.size_drew, World.size_setCell, size_setRow, World.heap_drewN, List.length_append]) <;> omega)) | refine Below.drew ?_ | refine below_drewN' ?_ _))⟩
  | true =>
    have h200 := okW_len hok
    simp only [hok] at hI
    have HI := Lib.hid hI
    clear hI hfit hok
    obtain ⟨a, c, rfl, hrd⟩ := h
    have Hr := Lib.hid (show 0 < xs.length → ∃ b o, a = some ⟨b, o, none⟩ ∧ b < w.heap.size ∧ ∀ i, i < xs.length → w.cell? ⟨b, o + i, none⟩ = some (.int .i64 (nth xs i)) from fun hp => by
      rcases hrd with h | ⟨b, o, rfl, m⟩
      · rw [h] at hp; cases hp
      · exact ⟨b, o, rfl, World.block_lt_of_cell? w _ (m 0 hp), m⟩)
    clear hrd
    go_enter Try.func29, Try.ntmps29
    go_wp2_with (first | (go_at_call 22; refine Calls.mono (HI.out _ ?_) ?_; (repeat (first | exact Below.refl _ _ | (with_reducible assumption) | (refine below_plus' ?_ ?_; ((try simp only [plus_size, World.size_alloc, World.size_drew, World.size_setCell, size_setRow, World.heap_drewN, List.length_append]) <;> omega)) | (refine below_alloc' ?_ ?_; ((try simp only [plus_size, World.size_alloc, World.size_drew, World.size_setCell, size_setRow, World.heap_drewN, List.length_append]) <;> omega)) | refine Below.drew ?_ | refine below_drewN' ?_ _)); rintro e w' ⟨rfl, hB⟩; obtain ⟨j, d, rfl⟩ := plus_of_below hB; clear hB))
    go_loop [13, 4] (fun sl sc => ∃ k : Nat, k ≤ xs.length ∧ sl = .int .i64 k ∧ sc = .int .i64 (sumL xs k)) (fun sl _ => xs.length - (intOf sl).toNat)
    case atStart => exact ⟨0, by omega, rfl, rfl⟩
    case round =>
      obtain ⟨k, hk, rfl, rfl⟩ := hrel
      by_cases hlt : k < xs.length
      · obtain ⟨b, o, rfl, hbk, mm⟩ := Hr.out (by omega)
        have g1 := mm k hlt
        have hbk1 : b < w.heap.size + 1 := by omega
        have hs := sumL_le xs k
        have hs' := sumL_le xs (k + 1)
        have HE := Lib.hid (show sumL xs k + sgn (nth xs k) = sumL xs (k + 1) from rfl)
        have hsg : -1 ≤ sgn (nth xs k) ∧ sgn (nth xs k) ≤ 1 := by unfold sgn; split <;> omega
        clear mm Hr
        go_wp2_with (first | (go_at_call 68; refine (sign_any _ _).mono ?_; rintro e w' ⟨rfl, rfl⟩))
        go_round
        case rel => exact ⟨k + 1, by omega, by go_num, by rw [← HE.out]⟩
        case measure => simp [intOf]; omega
      · obtain rfl : k = xs.length := by omega
        go_wp2
        go_ret2
        exact ⟨rfl, by (repeat (first | exact Below.refl _ _ | (with_reducible assumption) | (refine below_plus' ?_ ?_; ((try simp only [plus_size, World.size_alloc, World.size_drew, World.size_setCell, size_setRow, World.heap_drewN, List.length_append]) <;> omega)) | (refine below_alloc' ?_ ?_; ((try simp only [plus_size, World.size_alloc, World.size_drew, World.size_setCell, size_setRow, World.heap_drewN, List.length_append]) <;> omega)) | refine Below.drew ?_ | refine below_drewN' ?_ _))⟩
set_option maxHeartbeats 400000 in
theorem spec_SumOf (n : Int) (v : Value) (xs : List Int) (w : World) (h : reads w v xs) (hlen : xs.length ≤ 1000000000) (hfit : Fits xs) : Calls Try.prog 28 #[.agg #[.int .i64 n, v]] w fun e w' => e = .returned (rNum (okW n xs) (sumL xs xs.length)) ∧ Below w.heap.size w w' := by
  have hI := fun w' (hb : Below w.heap.size w w') => spec_Is n v xs w' (h.kept hb) hlen hfit
  cases hok : okW n xs with
  | false =>
    simp only [hok] at hI
    have HI := Lib.hid hI
    clear hI h hfit hok
    go_enter Try.func28, Try.ntmps28
    go_wp2_with (first | (go_at_call 61; refine Calls.mono (HI.out _ ?_) ?_; (repeat (first | exact Below.refl _ _ | (with_reducible assumption) | (refine below_plus' ?_ ?_; ((try simp only [plus_size, World.size_alloc, World.size_drew, World.size_setCell, size_setRow, World.heap_drewN, List.length_append]) <;> omega)) | (refine below_alloc' ?_ ?_; ((try simp only [plus_size, World.size_alloc, World.size_drew, World.size_setCell, size_setRow, World.heap_drewN, List.length_append]) <;> omega)) | refine Below.drew ?_ | refine below_drewN' ?_ _)); rintro e w' ⟨rfl, hB⟩; obtain ⟨j, d, rfl⟩ := plus_of_below hB; clear hB))
    go_ret2
    exact ⟨rfl, by (repeat (first | exact Below.refl _ _ | (with_reducible assumption) | (refine below_plus' ?_ ?_; ((try simp only [plus_size, World.size_alloc, World.size_drew, World.size_setCell, size_setRow, World.heap_drewN, List.length_append]) <;> omega)) | (refine below_alloc' ?_ ?_; ((try simp only [plus_size, World.size_alloc, World.size_drew, World.size_setCell, size_setRow, World.heap_drewN, List.length_append]) <;> omega)) | refine Below.drew ?_ | refine below_drewN' ?_ _))⟩
  | true =>
    have h200 := okW_len hok
    simp only [hok] at hI
    have HI := Lib.hid hI
    have HS := Lib.hid (fun w' (hb : Below w.heap.size w w') => l01Sum_any v xs w' (h.kept hb) h200)
    clear h
    clear hI hfit hok
    go_enter Try.func28, Try.ntmps28
    go_wp2_with (first | (go_at_call 61; refine Calls.mono (HI.out _ ?_) ?_; (repeat (first | exact Below.refl _ _ | (with_reducible assumption) | (refine below_plus' ?_ ?_; ((try simp only [plus_size, World.size_alloc, World.size_drew, World.size_setCell, size_setRow, World.heap_drewN, List.length_append]) <;> omega)) | (refine below_alloc' ?_ ?_; ((try simp only [plus_size, World.size_alloc, World.size_drew, World.size_setCell, size_setRow, World.heap_drewN, List.length_append]) <;> omega)) | refine Below.drew ?_ | refine below_drewN' ?_ _)); rintro e w' ⟨rfl, hB⟩; obtain ⟨j, d, rfl⟩ := plus_of_below hB; clear hB) | (go_at_call 67; refine Calls.mono (HS.out _ ?_) ?_; (repeat (first | exact Below.refl _ _ | (with_reducible assumption) | (refine below_plus' ?_ ?_; ((try simp only [plus_size, World.size_alloc, World.size_drew, World.size_setCell, size_setRow, World.heap_drewN, List.length_append]) <;> omega)) | (refine below_alloc' ?_ ?_; ((try simp only [plus_size, World.size_alloc, World.size_drew, World.size_setCell, size_setRow, World.heap_drewN, List.length_append]) <;> omega)) | refine Below.drew ?_ | refine below_drewN' ?_ _)); rintro e w' ⟨rfl, hB⟩; obtain ⟨j, d, rfl⟩ := plus_of_below hB; clear hB))
    go_ret2
    exact ⟨rfl, by (repeat (first | exact Below.refl _ _ | (with_reducible assumption) | (refine below_plus' ?_ ?_; ((try simp only [plus_size, World.size_alloc, World.size_drew, World.size_setCell, size_setRow, World.heap_drewN, List.length_append]) <;> omega)) | (refine below_alloc' ?_ ?_; ((try simp only [plus_size, World.size_alloc, World.size_drew, World.size_setCell, size_setRow, World.heap_drewN, List.length_append]) <;> omega)) | refine Below.drew ?_ | refine below_drewN' ?_ _))⟩
set_option maxHeartbeats 1000000 in
theorem law_SumOf (n : Int) (v : Value) (w : World) (xs : List Int) (hr : reads w v xs) (hfit : Fits xs) (hmax : xs.length ≤ 9223372036854775807) : Calls Try.prog 6 #[.agg #[.int .i64 n, v]] w fun e w' => e = .returned (.bool true) ∧ Below w.heap.size w w' := by
  have Hz := Lib.hid (fun w' (hb : Below w.heap.size w w') => szBraid_any n v xs w' (hr.kept hb) hmax)
  by_cases hl : (xs.length : Int) ≤ 1048576
  · simp only [if_pos hl] at Hz
    have hlen : xs.length ≤ 1000000000 := by omega
    have HL := Lib.hid hlen
    have Ht := Lib.hid (fun w' (hb : Below w.heap.size w w') => toBraid_any n v xs w' (hr.kept hb) hlen)
    obtain ⟨g, c, hR⟩ : ∃ g c, rNum (okW n xs) (sumL xs xs.length) = .tuple #[.int .i64 g, .int .i64 c] := ⟨_, _, rfl⟩
    have hp := fun v w h => spec_SumOf n v xs w h hlen hfit
    have hi := fun v w h => impl_SumOf n v xs w h hlen hfit
    simp only [hR] at hp hi
    have Hp := Lib.hid hp
    have Hi := Lib.hid hi
    clear hr hfit hlen hp hi hR
    go_enter Try.func6, Try.ntmps6
    go_wp2_with (first | (go_at_call 19; refine Calls.mono (Hz.out _ ?_) ?_; (repeat (first | exact Below.refl _ _ | (with_reducible assumption) | (refine below_plus' ?_ ?_; ((try simp only [plus_size, World.size_alloc, World.size_drew, World.size_setCell, size_setRow, World.heap_drewN, List.length_append]) <;> omega)) | (refine below_alloc' ?_ ?_; ((try simp only [plus_size, World.size_alloc, World.size_drew, World.size_setCell, size_setRow, World.heap_drewN, List.length_append]) <;> omega)) | refine Below.drew ?_ | refine below_drewN' ?_ _)); rintro e w' ⟨rfl, hB⟩; obtain ⟨j, d, rfl⟩ := plus_of_below hB; clear hB)
                                        | (go_at_call 21; have h9 := hA; clear h9; refine Calls.mono (Ht.out _ ?_) ?_; (repeat (first | exact Below.refl _ _ | (with_reducible assumption) | (refine below_plus' ?_ ?_; ((try simp only [plus_size, World.size_alloc, World.size_drew, World.size_setCell, size_setRow, World.heap_drewN, List.length_append]) <;> omega)) | (refine below_alloc' ?_ ?_; ((try simp only [plus_size, World.size_alloc, World.size_drew, World.size_setCell, size_setRow, World.heap_drewN, List.length_append]) <;> omega)) | refine Below.drew ?_ | refine below_drewN' ?_ _)); rintro e w' ⟨vX, rfl, hB, hoX⟩; have hX := hoX.reads; obtain ⟨aX, cX, rfl, hs⟩ := id hX; clear hs; obtain ⟨j, d, rfl⟩ := plus_of_below hB; clear hB)
                                        | (go_at_call 21; refine Calls.mono (Ht.out _ ?_) ?_; (repeat (first | exact Below.refl _ _ | (with_reducible assumption) | (refine below_plus' ?_ ?_; ((try simp only [plus_size, World.size_alloc, World.size_drew, World.size_setCell, size_setRow, World.heap_drewN, List.length_append]) <;> omega)) | (refine below_alloc' ?_ ?_; ((try simp only [plus_size, World.size_alloc, World.size_drew, World.size_setCell, size_setRow, World.heap_drewN, List.length_append]) <;> omega)) | refine Below.drew ?_ | refine below_drewN' ?_ _)); rintro e w' ⟨vA, rfl, hB, hoA⟩; have hA := hoA.reads; obtain ⟨aA, cA, rfl, hs⟩ := id hA; clear hs; obtain ⟨j, d, rfl⟩ := plus_of_below hB; clear hB)
                                        | (go_at_call 28; refine Calls.mono (Hp.out _ _ ?_) ?_; exact hA.kept (by (repeat (first | exact Below.refl _ _ | (with_reducible assumption) | (refine below_plus' ?_ ?_; ((try simp only [plus_size, World.size_alloc, World.size_drew, World.size_setCell, size_setRow, World.heap_drewN, List.length_append]) <;> omega)) | (refine below_alloc' ?_ ?_; ((try simp only [plus_size, World.size_alloc, World.size_drew, World.size_setCell, size_setRow, World.heap_drewN, List.length_append]) <;> omega)) | refine Below.drew ?_ | refine below_drewN' ?_ _))); rintro e w' ⟨rfl, hB⟩; obtain ⟨j, d, rfl⟩ := plus_of_below hB; clear hB)
                                        | (go_at_call 29; refine Calls.mono (Hi.out _ _ ?_) ?_; exact hX.kept (by (repeat (first | exact Below.refl _ _ | (with_reducible assumption) | (refine below_plus' ?_ ?_; ((try simp only [plus_size, World.size_alloc, World.size_drew, World.size_setCell, size_setRow, World.heap_drewN, List.length_append]) <;> omega)) | (refine below_alloc' ?_ ?_; ((try simp only [plus_size, World.size_alloc, World.size_drew, World.size_setCell, size_setRow, World.heap_drewN, List.length_append]) <;> omega)) | refine Below.drew ?_ | refine below_drewN' ?_ _))); rintro e w' ⟨rfl, hB⟩; obtain ⟨j, d, rfl⟩ := plus_of_below hB; clear hB))
    refine region_ghost [2, 3, 4] (by kernel_rfl) (by kernel_rfl) (by kernel_rfl) ?_
    repeat (refine wpPlain_step (fun K hK => ?_); go_simp; first | (refine hK _ ?_; clear hK K) | (apply Exists.intro; refine ⟨fun _ => ?_, hK _ ?_⟩; (fail); clear hK K))
    refine wpPlain_nil ?_
    intro j d
    refine gchain_cons _ rfl ?_
    go_wp2_with (first | (go_at_call 21; refine Calls.mono (Ht.out _ ?_) ?_; (repeat (first | exact Below.refl _ _ | (with_reducible assumption) | (refine below_plus' ?_ ?_; ((try simp only [plus_size, World.size_alloc, World.size_drew, World.size_setCell, size_setRow, World.heap_drewN, List.length_append]) <;> omega)) | (refine below_alloc' ?_ ?_; ((try simp only [plus_size, World.size_alloc, World.size_drew, World.size_setCell, size_setRow, World.heap_drewN, List.length_append]) <;> omega)) | refine Below.drew ?_ | refine below_drewN' ?_ _)); rintro e w' ⟨vN, rfl, hB, hoN⟩; have hN := hoN.reads; obtain ⟨aN, cN, rfl, hs⟩ := id hN; clear hs; obtain ⟨j, d, rfl⟩ := plus_of_below hB; clear hB))
    refine gExit_normal ⟨.inr (later_of_below (by (repeat (first | exact Below.refl _ _ | (with_reducible assumption) | (refine below_plus' ?_ ?_; ((try simp only [plus_size, World.size_alloc, World.size_drew, World.size_setCell, size_setRow, World.heap_drewN, List.length_append]) <;> omega)) | (refine below_alloc' ?_ ?_; ((try simp only [plus_size, World.size_alloc, World.size_drew, World.size_setCell, size_setRow, World.heap_drewN, List.length_append]) <;> omega)) | refine Below.drew ?_)))), fun j d => ?_⟩
    refine gchain_cons _ rfl ?_
    go_wp2_with (first | (go_at_call 23; refine Calls.mono (eqBraid_same _ _ _ xs _ ?_ ?_ HL.out) ?_; exact hX.kept (by (repeat (first | exact Below.refl _ _ | (with_reducible assumption) | (refine below_plus' ?_ ?_; ((try simp only [plus_size, World.size_alloc, World.size_drew, World.size_setCell, size_setRow, World.heap_drewN, List.length_append]) <;> omega)) | (refine below_alloc' ?_ ?_; ((try simp only [plus_size, World.size_alloc, World.size_drew, World.size_setCell, size_setRow, World.heap_drewN, List.length_append]) <;> omega)) | refine Below.drew ?_ | refine below_drewN' ?_ _))); exact hN.kept (by (repeat (first | exact Below.refl _ _ | (with_reducible assumption) | (refine below_plus' ?_ ?_; ((try simp only [plus_size, World.size_alloc, World.size_drew, World.size_setCell, size_setRow, World.heap_drewN, List.length_append]) <;> omega)) | (refine below_alloc' ?_ ?_; ((try simp only [plus_size, World.size_alloc, World.size_drew, World.size_setCell, size_setRow, World.heap_drewN, List.length_append]) <;> omega)) | refine Below.drew ?_ | refine below_drewN' ?_ _))); rintro e w' ⟨rfl, hB⟩; obtain ⟨j, d, rfl⟩ := plus_of_below hB; clear hB))
    refine gExit_normal ⟨.inr (later_of_below (by (repeat (first | exact Below.refl _ _ | (with_reducible assumption) | (refine below_plus' ?_ ?_; ((try simp only [plus_size, World.size_alloc, World.size_drew, World.size_setCell, size_setRow, World.heap_drewN, List.length_append]) <;> omega)) | (refine below_alloc' ?_ ?_; ((try simp only [plus_size, World.size_alloc, World.size_drew, World.size_setCell, size_setRow, World.heap_drewN, List.length_append]) <;> omega)) | refine Below.drew ?_)))), fun j d => ?_⟩
    refine gchain_cons _ rfl ?_
    go_wp2
    refine gExit_normal ⟨.inr (later_of_below (by (repeat (first | exact Below.refl _ _ | (with_reducible assumption) | (refine below_plus' ?_ ?_; ((try simp only [plus_size, World.size_alloc, World.size_drew, World.size_setCell, size_setRow, World.heap_drewN, List.length_append]) <;> omega)) | (refine below_alloc' ?_ ?_; ((try simp only [plus_size, World.size_alloc, World.size_drew, World.size_setCell, size_setRow, World.heap_drewN, List.length_append]) <;> omega)) | refine Below.drew ?_)))), fun j d => ?_⟩
    refine gchain_nil ?_
    go_wp2
    go_ret
    exact ⟨rfl, by (repeat (first | exact Below.refl _ _ | (with_reducible assumption) | (refine below_plus' ?_ ?_; ((try simp only [plus_size, World.size_alloc, World.size_drew, World.size_setCell, size_setRow, World.heap_drewN, List.length_append]) <;> omega)) | (refine below_alloc' ?_ ?_; ((try simp only [plus_size, World.size_alloc, World.size_drew, World.size_setCell, size_setRow, World.heap_drewN, List.length_append]) <;> omega)) | refine Below.drew ?_ | refine below_drewN' ?_ _))⟩
  · simp only [if_neg hl] at Hz
    clear hr hfit
    go_enter Try.func6, Try.ntmps6
    go_wp2_with (first | (go_at_call 19; refine Calls.mono (Hz.out _ ?_) ?_; (repeat (first | exact Below.refl _ _ | (with_reducible assumption) | (refine below_plus' ?_ ?_; ((try simp only [plus_size, World.size_alloc, World.size_drew, World.size_setCell, size_setRow, World.heap_drewN, List.length_append]) <;> omega)) | (refine below_alloc' ?_ ?_; ((try simp only [plus_size, World.size_alloc, World.size_drew, World.size_setCell, size_setRow, World.heap_drewN, List.length_append]) <;> omega)) | refine Below.drew ?_ | refine below_drewN' ?_ _)); rintro e w' ⟨rfl, hB⟩; obtain ⟨j, d, rfl⟩ := plus_of_below hB; clear hB))
    go_ret
    exact ⟨rfl, by (repeat (first | exact Below.refl _ _ | (with_reducible assumption) | (refine below_plus' ?_ ?_; ((try simp only [plus_size, World.size_alloc, World.size_drew, World.size_setCell, size_setRow, World.heap_drewN, List.length_append]) <;> omega)) | (refine below_alloc' ?_ ?_; ((try simp only [plus_size, World.size_alloc, World.size_drew, World.size_setCell, size_setRow, World.heap_drewN, List.length_append]) <;> omega)) | refine Below.drew ?_ | refine below_drewN' ?_ _))⟩
end Go.Proofs.Ytkmfglocjdjhjaa
