/- Palindromes. Conditions: as each theorem says. -/
import Derived.Test.YtcipdgmimmngoaaW2
import Derived.BigQuiet
namespace Go.Proofs.Ytcipdgmimmngoaa
open Go.RowKit
set_option linter.unusedSimpArgs false
set_option linter.unusedVariables false
/-- the first k coefficients are those from the end on; .. are their opposites -/
def samB (xs : List Int) : Nat → Bool
  | 0 => true
  | k + 1 => samB xs k && decide (nth xs k = nth xs (xs.length - 1 - k))
def othB (xs : List Int) : Nat → Bool
  | 0 => true
  | k + 1 => othB xs k && decide (nth xs k = -nth xs (xs.length - 1 - k))
def palV (xs : List Int) : Int := if samB xs xs.length = true then 1 else if othB xs xs.length = true then -1 else 0
set_option maxHeartbeats 2000000 in
theorem l05Palindrome_any (n : Int) (v : Value) (xs : List Int) (w : World) (h : reads w v xs) (hlen : xs.length ≤ 2001) (hall : allC xs = true) : Calls Try.prog 51 #[.agg #[.int .i64 n, v]] w fun e w' => e = .returned (.int .i64 (palV xs)) ∧ Below w.heap.size w w' := by
  obtain ⟨a, c, rfl, hrd⟩ := h
  have Hr := Lib.hid (show 0 < xs.length → ∃ b o, a = some ⟨b, o, none⟩ ∧ b < w.heap.size ∧ ∀ i, i < xs.length → w.cell? ⟨b, o + i, none⟩ = some (.int .i64 (nth xs i)) from fun hp => by
    rcases hrd with h | ⟨b, o, rfl, m⟩
    · rw [h] at hp; cases hp
    · exact ⟨b, o, rfl, World.block_lt_of_cell? w _ (m 0 hp), m⟩)
  clear hrd
  have HC := Lib.hid (fun k (hk : k < xs.length) => allC_at hall hk)
  clear hall
  go_enter Try.func51, Try.ntmps51
  go_wp2
  go_quiet (fail)
  go_wp2
  go_loopw [6, 3, 4] (fun sl b1 b2 wr => ∃ k d : Nat, k ≤ xs.length ∧ sl = .int .i64 k ∧ b1 = .bool (samB xs k) ∧ b2 = .bool (othB xs k) ∧ wr = plus (w.alloc (.cells #[.int .i64 n, .slice a xs.length c] 26)) [] d) (fun sl _ _ _ => xs.length - (intOf sl).toNat)
  case atStart => exact ⟨0, _, by omega, rfl, rfl, rfl, by first | exact (plus_nil _).symm | rfl⟩
  case round =>
    obtain ⟨k, d, hk, rfl, rfl, rfl, rfl⟩ := hrel
    by_cases hlt : k < xs.length
    · obtain ⟨b, o, rfl, hbk, mm⟩ := Hr.out (by omega)
      have g1 := mm k hlt
      obtain ⟨p, hp⟩ : ∃ p, p = xs.length - 1 - k := ⟨_, rfl⟩
      have hpl : p < xs.length := by omega
      have g2 := mm p hpl
      have hb1 : b < w.heap.size + 1 := by omega
      have hpw : IntKind.i64.wrap ((xs.length : Int) - 1 - (k : Int)) = p := by rw [IntKind.wrap_i64]; omega
      have hpw2 : (xs.length : Int) - 1 - (k : Int) = p := by omega
      have hc := HC.out k hlt
      have hc2 := HC.out p hpl
      have HS := Lib.hid (show (samB xs k && decide (nth xs k = nth xs p)) = samB xs (k + 1) by rw [hp]; rfl)
      have HO := Lib.hid (show (othB xs k && decide (nth xs k = -nth xs p)) = othB xs (k + 1) by rw [hp]; rfl)
      clear mm Hr hp
      generalize samB xs k = x1 at HS ⊢
      generalize othB xs k = x2 at HO ⊢
      have hd1 : decide (nth xs k = nth xs p) = (nth xs k == nth xs p) := by by_cases h : nth xs k = nth xs p <;> simp [h]
      have hd2 : decide (nth xs k = -nth xs p) = (nth xs k == -nth xs p) := by by_cases h : nth xs k = -nth xs p <;> simp [h]
      cases x1 <;> cases x2 <;> by_cases e1 : nth xs k = nth xs p <;> by_cases e2 : nth xs k = -nth xs p
      all_goals
        first | (have f1 : (nth xs k == nth xs p) = true := by (simp [e1]; done)) | (have f1 : (nth xs k == nth xs p) = false := by simp [e1])
        first | (have f2 : (nth xs k == -nth xs p) = true := by (simp [e2]; done)) | (have f2 : (nth xs k == -nth xs p) = false := by simp [e2])
        have d1 := hd1.trans f1
        have d2 := hd2.trans f2
        rw [d1] at HS
        rw [d2] at HO
        clear hd1 hd2 e1 e2
        go_wp2
        go_quiet (fail)
        go_wp2
        go_quiet (fail)
        go_wp2
        go_roundw
        case rel => exact ⟨k + 1, _, by omega, by go_num, by (rw [← HS.out] <;> rfl), by (rw [← HO.out] <;> rfl), rfl⟩
        case measure => simp [intOf]; omega
    · obtain rfl : k = xs.length := by omega
      by_cases hs : samB xs xs.length = true
      · have HV := Lib.hid (show palV xs = 1 by simp [palV, hs])
        simp only [hs]
        go_wp2
        go_ret
        exact ⟨by rw [HV.out]; rfl, by (repeat (first | (with_reducible exact Below.refl _ _) | (with_reducible assumption) | (with_reducible refine below_plus' ?_ ?_; ((try simp only [plus_size, World.size_alloc, World.size_drew, World.size_setCell, size_setRow, World.heap_drewN, List.length_append]) <;> omega)) | (with_reducible refine below_alloc' ?_ ?_; ((try simp only [plus_size, World.size_alloc, World.size_drew, World.size_setCell, size_setRow, World.heap_drewN, List.length_append]) <;> omega)) | with_reducible refine Below.drew ?_ | (with_reducible refine below_drewN' ?_ _) | exact Below.refl _ _))⟩
      · by_cases ho : othB xs xs.length = true
        · have HV := Lib.hid (show palV xs = -1 by simp [palV, hs, ho])
          simp only [hs, ho]
          go_wp2
          go_ret
          exact ⟨by rw [HV.out]; rfl, by (repeat (first | (with_reducible exact Below.refl _ _) | (with_reducible assumption) | (with_reducible refine below_plus' ?_ ?_; ((try simp only [plus_size, World.size_alloc, World.size_drew, World.size_setCell, size_setRow, World.heap_drewN, List.length_append]) <;> omega)) | (with_reducible refine below_alloc' ?_ ?_; ((try simp only [plus_size, World.size_alloc, World.size_drew, World.size_setCell, size_setRow, World.heap_drewN, List.length_append]) <;> omega)) | with_reducible refine Below.drew ?_ | (with_reducible refine below_drewN' ?_ _) | exact Below.refl _ _))⟩
        · have HV := Lib.hid (show palV xs = 0 by simp [palV, hs, ho])
          simp only [hs, ho]
          go_wp2
          go_ret
          exact ⟨by rw [HV.out]; rfl, by (repeat (first | (with_reducible exact Below.refl _ _) | (with_reducible assumption) | (with_reducible refine below_plus' ?_ ?_; ((try simp only [plus_size, World.size_alloc, World.size_drew, World.size_setCell, size_setRow, World.heap_drewN, List.length_append]) <;> omega)) | (with_reducible refine below_alloc' ?_ ?_; ((try simp only [plus_size, World.size_alloc, World.size_drew, World.size_setCell, size_setRow, World.heap_drewN, List.length_append]) <;> omega)) | with_reducible refine Below.drew ?_ | (with_reducible refine below_drewN' ?_ _) | exact Below.refl _ _))⟩
def rPal (low : Int) (xs : List Int) : Value := .tuple #[.int .i64 (if okL low xs = true then palV xs else 0), .int .i64 (if okL low xs = true then 0 else 1)]
theorem rPal_no {low xs} (h : okL low xs = false) : rPal low xs = .tuple #[.int .i64 0, .int .i64 1] := by simp [rPal, h]
theorem rPal_yes {low xs} (h : okL low xs = true) : rPal low xs = .tuple #[.int .i64 (palV xs), .int .i64 0] := by simp [rPal, h]
set_option maxHeartbeats 2000000 in
theorem spec_IsPalindrome (n : Int) (v : Value) (xs : List Int) (w : World) (h : reads w v xs) (hlen : xs.length ≤ 1000000000) (hfit : Fits xs) : Calls Try.prog 26 #[.agg #[.int .i64 n, v]] w fun e w' => e = .returned (rPal n xs) ∧ Below w.heap.size w w' := by
  have hI := fun w' (hb : Below w.heap.size w w') => spec_Is n v xs w' (h.kept hb) hlen hfit
  clear hfit
  cases hok : okL n xs with
  | false =>
    simp only [hok] at hI
    have HI := Lib.hid hI
    rw [rPal_no hok]
    clear hI hok h
    go_enter Try.func26, Try.ntmps26
    go_wp2_with (first | (go_at_call 28; refine Calls.mono (HI.out _ ?_) ?_; (repeat (first | (with_reducible exact Below.refl _ _) | (with_reducible assumption) | (with_reducible refine below_plus' ?_ ?_; ((try simp only [plus_size, World.size_alloc, World.size_drew, World.size_setCell, size_setRow, World.heap_drewN, List.length_append]) <;> omega)) | (with_reducible refine below_alloc' ?_ ?_; ((try simp only [plus_size, World.size_alloc, World.size_drew, World.size_setCell, size_setRow, World.heap_drewN, List.length_append]) <;> omega)) | with_reducible refine Below.drew ?_ | (with_reducible refine below_drewN' ?_ _) | exact Below.refl _ _)); rintro e w' ⟨rfl, hB⟩; obtain ⟨j, d, rfl⟩ := plus_of_below hB; clear hB))
    go_ret2
    exact ⟨rfl, by (repeat (first | (with_reducible exact Below.refl _ _) | (with_reducible assumption) | (with_reducible refine below_plus' ?_ ?_; ((try simp only [plus_size, World.size_alloc, World.size_drew, World.size_setCell, size_setRow, World.heap_drewN, List.length_append]) <;> omega)) | (with_reducible refine below_alloc' ?_ ?_; ((try simp only [plus_size, World.size_alloc, World.size_drew, World.size_setCell, size_setRow, World.heap_drewN, List.length_append]) <;> omega)) | with_reducible refine Below.drew ?_ | (with_reducible refine below_drewN' ?_ _) | exact Below.refl _ _))⟩
  | true =>
    simp only [hok] at hI
    have HI := Lib.hid hI
    obtain ⟨hA, hn1, hn2, hall⟩ := okL_true hok
    rw [rPal_yes hok]
    clear hI hok
    go_enter Try.func26, Try.ntmps26
    go_wp2_with (first | (go_at_call 28; refine Calls.mono (HI.out _ ?_) ?_; (repeat (first | (with_reducible exact Below.refl _ _) | (with_reducible assumption) | (with_reducible refine below_plus' ?_ ?_; ((try simp only [plus_size, World.size_alloc, World.size_drew, World.size_setCell, size_setRow, World.heap_drewN, List.length_append]) <;> omega)) | (with_reducible refine below_alloc' ?_ ?_; ((try simp only [plus_size, World.size_alloc, World.size_drew, World.size_setCell, size_setRow, World.heap_drewN, List.length_append]) <;> omega)) | with_reducible refine Below.drew ?_ | (with_reducible refine below_drewN' ?_ _) | exact Below.refl _ _)); rintro e w' ⟨rfl, hB⟩; obtain ⟨j, d, rfl⟩ := plus_of_below hB; clear hB) | (go_at_call 51; refine Calls.mono (l05Palindrome_any n v xs _ ?_ hA hall) ?_; exact h.kept (by (repeat (first | (with_reducible exact Below.refl _ _) | (with_reducible assumption) | (with_reducible refine below_plus' ?_ ?_; ((try simp only [plus_size, World.size_alloc, World.size_drew, World.size_setCell, size_setRow, World.heap_drewN, List.length_append]) <;> omega)) | (with_reducible refine below_alloc' ?_ ?_; ((try simp only [plus_size, World.size_alloc, World.size_drew, World.size_setCell, size_setRow, World.heap_drewN, List.length_append]) <;> omega)) | with_reducible refine Below.drew ?_ | (with_reducible refine below_drewN' ?_ _) | exact Below.refl _ _))); rintro e w' ⟨rfl, hB⟩; obtain ⟨j, d, rfl⟩ := plus_of_below hB; clear hB))
    go_ret2
    exact ⟨rfl, by (repeat (first | (with_reducible exact Below.refl _ _) | (with_reducible assumption) | (with_reducible refine below_plus' ?_ ?_; ((try simp only [plus_size, World.size_alloc, World.size_drew, World.size_setCell, size_setRow, World.heap_drewN, List.length_append]) <;> omega)) | (with_reducible refine below_alloc' ?_ ?_; ((try simp only [plus_size, World.size_alloc, World.size_drew, World.size_setCell, size_setRow, World.heap_drewN, List.length_append]) <;> omega)) | with_reducible refine Below.drew ?_ | (with_reducible refine below_drewN' ?_ _) | exact Below.refl _ _))⟩
set_option maxHeartbeats 2000000 in
theorem impl_IsPalindrome (n : Int) (v : Value) (xs : List Int) (w : World) (h : reads w v xs) (hlen : xs.length ≤ 1000000000) (hfit : Fits xs) : Calls Try.prog 25 #[.agg #[.int .i64 n, v]] w fun e w' => e = .returned (rPal n xs) ∧ Below w.heap.size w w' := by
  have hI := fun w' (hb : Below w.heap.size w w') => impl_Is n v xs w' (h.kept hb) hlen hfit
  clear hfit
  cases hok : okL n xs with
  | false =>
    simp only [hok] at hI
    have HI := Lib.hid hI
    rw [rPal_no hok]
    clear hI hok h
    go_enter Try.func25, Try.ntmps25
    go_wp2_with (first | (go_at_call 18; refine Calls.mono (HI.out _ ?_) ?_; (repeat (first | (with_reducible exact Below.refl _ _) | (with_reducible assumption) | (with_reducible refine below_plus' ?_ ?_; ((try simp only [plus_size, World.size_alloc, World.size_drew, World.size_setCell, size_setRow, World.heap_drewN, List.length_append]) <;> omega)) | (with_reducible refine below_alloc' ?_ ?_; ((try simp only [plus_size, World.size_alloc, World.size_drew, World.size_setCell, size_setRow, World.heap_drewN, List.length_append]) <;> omega)) | with_reducible refine Below.drew ?_ | (with_reducible refine below_drewN' ?_ _) | exact Below.refl _ _)); rintro e w' ⟨rfl, hB⟩; obtain ⟨j, d, rfl⟩ := plus_of_below hB; clear hB))
    go_ret2
    exact ⟨rfl, by (repeat (first | (with_reducible exact Below.refl _ _) | (with_reducible assumption) | (with_reducible refine below_plus' ?_ ?_; ((try simp only [plus_size, World.size_alloc, World.size_drew, World.size_setCell, size_setRow, World.heap_drewN, List.length_append]) <;> omega)) | (with_reducible refine below_alloc' ?_ ?_; ((try simp only [plus_size, World.size_alloc, World.size_drew, World.size_setCell, size_setRow, World.heap_drewN, List.length_append]) <;> omega)) | with_reducible refine Below.drew ?_ | (with_reducible refine below_drewN' ?_ _) | exact Below.refl _ _))⟩
  | true =>
    simp only [hok] at hI
    have HI := Lib.hid hI
    obtain ⟨hA, hn1, hn2, hall⟩ := okL_true hok
    rw [rPal_yes hok]
    clear hI hok
    obtain ⟨a, c, rfl, hrd⟩ := h
    have Hr := Lib.hid (show 0 < xs.length → ∃ b o, a = some ⟨b, o, none⟩ ∧ b < w.heap.size ∧ ∀ i, i < xs.length → w.cell? ⟨b, o + i, none⟩ = some (.int .i64 (nth xs i)) from fun hp => by
      rcases hrd with h | ⟨b, o, rfl, m⟩
      · rw [h] at hp; cases hp
      · exact ⟨b, o, rfl, World.block_lt_of_cell? w _ (m 0 hp), m⟩)
    clear hrd
    have HC := Lib.hid (fun k (hk : k < xs.length) => allC_at hall hk)
    clear hall
    go_enter Try.func25, Try.ntmps25
    go_wp2_with (first | (go_at_call 18; refine Calls.mono (HI.out _ ?_) ?_; (repeat (first | (with_reducible exact Below.refl _ _) | (with_reducible assumption) | (with_reducible refine below_plus' ?_ ?_; ((try simp only [plus_size, World.size_alloc, World.size_drew, World.size_setCell, size_setRow, World.heap_drewN, List.length_append]) <;> omega)) | (with_reducible refine below_alloc' ?_ ?_; ((try simp only [plus_size, World.size_alloc, World.size_drew, World.size_setCell, size_setRow, World.heap_drewN, List.length_append]) <;> omega)) | with_reducible refine Below.drew ?_ | (with_reducible refine below_drewN' ?_ _) | exact Below.refl _ _)); rintro e w' ⟨rfl, hB⟩; obtain ⟨j, d, rfl⟩ := plus_of_below hB; clear hB))
    go_loop [19, 4, 5] (fun sl b1 b2 => ∃ k : Nat, k ≤ xs.length ∧ sl = .int .i64 k ∧ b1 = .bool (samB xs k) ∧ b2 = .bool (othB xs k)) (fun sl _ _ => xs.length - (intOf sl).toNat)
    case atStart => exact ⟨0, by omega, rfl, rfl, rfl⟩
    case round =>
      obtain ⟨k, hk, rfl, rfl, rfl⟩ := hrel
      by_cases hlt : k < xs.length
      · obtain ⟨b, o, rfl, hbk, mm⟩ := Hr.out (by omega)
        have g1 := mm k hlt
        obtain ⟨p, hp⟩ : ∃ p, p = xs.length - 1 - k := ⟨_, rfl⟩
        have hpl : p < xs.length := by omega
        have g2 := mm p hpl
        have hb1 : b < w.heap.size + 1 := by omega
        have hpw : IntKind.i64.wrap ((xs.length : Int) - 1 - (k : Int)) = p := by rw [IntKind.wrap_i64]; omega
        have hpw2 : (xs.length : Int) - 1 - (k : Int) = p := by omega
        have hc := HC.out k hlt
        have hc2 := HC.out p hpl
        have HS := Lib.hid (show (samB xs k && decide (nth xs k = nth xs p)) = samB xs (k + 1) by rw [hp]; rfl)
        have HO := Lib.hid (show (othB xs k && decide (nth xs k = -nth xs p)) = othB xs (k + 1) by rw [hp]; rfl)
        clear mm Hr hp
        generalize samB xs k = x1 at HS ⊢
        generalize othB xs k = x2 at HO ⊢
        have hd1 : decide (nth xs k = nth xs p) = (nth xs k == nth xs p) := by by_cases h : nth xs k = nth xs p <;> simp [h]
        have hd2 : decide (nth xs k = -nth xs p) = (nth xs k == -nth xs p) := by by_cases h : nth xs k = -nth xs p <;> simp [h]
        cases x1 <;> cases x2 <;> by_cases e1 : nth xs k = nth xs p <;> by_cases e2 : nth xs k = -nth xs p
        all_goals
          first | (have f1 : (nth xs k == nth xs p) = true := by (simp [e1]; done)) | (have f1 : (nth xs k == nth xs p) = false := by simp [e1])
          first | (have f2 : (nth xs k == -nth xs p) = true := by (simp [e2]; done)) | (have f2 : (nth xs k == -nth xs p) = false := by simp [e2])
          have d1 := hd1.trans f1
          have d2 := hd2.trans f2
          rw [d1] at HS
          rw [d2] at HO
          clear hd1 hd2 e1 e2
          go_wp2
          go_round
          case rel => exact ⟨k + 1, by omega, by go_num, by (rw [← HS.out] <;> rfl), by (rw [← HO.out] <;> rfl)⟩
          case measure => simp [intOf]; omega
      · obtain rfl : k = xs.length := by omega
        by_cases hs : samB xs xs.length = true
        · have HV := Lib.hid (show palV xs = 1 by simp [palV, hs])
          simp only [hs]
          go_wp2
          go_ret2
          exact ⟨by rw [HV.out]; rfl, by (repeat (first | (with_reducible exact Below.refl _ _) | (with_reducible assumption) | (with_reducible refine below_plus' ?_ ?_; ((try simp only [plus_size, World.size_alloc, World.size_drew, World.size_setCell, size_setRow, World.heap_drewN, List.length_append]) <;> omega)) | (with_reducible refine below_alloc' ?_ ?_; ((try simp only [plus_size, World.size_alloc, World.size_drew, World.size_setCell, size_setRow, World.heap_drewN, List.length_append]) <;> omega)) | with_reducible refine Below.drew ?_ | (with_reducible refine below_drewN' ?_ _) | exact Below.refl _ _))⟩
        · by_cases ho : othB xs xs.length = true
          · have HV := Lib.hid (show palV xs = -1 by simp [palV, hs, ho])
            simp only [hs, ho]
            go_wp2
            go_ret2
            exact ⟨by rw [HV.out]; rfl, by (repeat (first | (with_reducible exact Below.refl _ _) | (with_reducible assumption) | (with_reducible refine below_plus' ?_ ?_; ((try simp only [plus_size, World.size_alloc, World.size_drew, World.size_setCell, size_setRow, World.heap_drewN, List.length_append]) <;> omega)) | (with_reducible refine below_alloc' ?_ ?_; ((try simp only [plus_size, World.size_alloc, World.size_drew, World.size_setCell, size_setRow, World.heap_drewN, List.length_append]) <;> omega)) | with_reducible refine Below.drew ?_ | (with_reducible refine below_drewN' ?_ _) | exact Below.refl _ _))⟩
          · have HV := Lib.hid (show palV xs = 0 by simp [palV, hs, ho])
            simp only [hs, ho]
            go_wp2
            go_ret2
            exact ⟨by rw [HV.out]; rfl, by (repeat (first | (with_reducible exact Below.refl _ _) | (with_reducible assumption) | (with_reducible refine below_plus' ?_ ?_; ((try simp only [plus_size, World.size_alloc, World.size_drew, World.size_setCell, size_setRow, World.heap_drewN, List.length_append]) <;> omega)) | (with_reducible refine below_alloc' ?_ ?_; ((try simp only [plus_size, World.size_alloc, World.size_drew, World.size_setCell, size_setRow, World.heap_drewN, List.length_append]) <;> omega)) | with_reducible refine Below.drew ?_ | (with_reducible refine below_drewN' ?_ _) | exact Below.refl _ _))⟩
end Go.Proofs.Ytcipdgmimmngoaa
