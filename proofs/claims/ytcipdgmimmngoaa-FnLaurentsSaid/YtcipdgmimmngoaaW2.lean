/- Polynomials: is it one? Conditions: as each theorem says. -/
import Derived.Test.YtcipdgmimmngoaaW1
namespace Go.Proofs.Ytcipdgmimmngoaa
open Go.RowKit
set_option linter.unusedSimpArgs false
set_option linter.unusedVariables false
/-- every coefficient is within its limit -/
def allC (xs : List Int) : Bool := decide (∀ i, i < xs.length → inB (nth xs i) (-1000000000000) 1000000000000 = true)
theorem allC_bad {xs : List Int} {k : Nat} (hk : k < xs.length) (h : inB (nth xs k) (-1000000000000) 1000000000000 = false) : allC xs = false := by
  simp only [allC, decide_eq_false_iff_not]
  intro h2
  rw [h2 k hk] at h; cases h
theorem allC_good {xs : List Int} (h : ∀ i, i < xs.length → inB (nth xs i) (-1000000000000) 1000000000000 = true) : allC xs = true := by simpa [allC] using h
theorem allC_at {xs : List Int} (h : allC xs = true) {i : Nat} (hi : i < xs.length) : -1000000000000 ≤ nth xs i ∧ nth xs i ≤ 1000000000000 := by
  simp only [allC, decide_eq_true_eq] at h
  exact inB_true (h i hi)
/-- a polynomial -/
def okL (low : Int) (xs : List Int) : Bool := if xs.length = 0 then decide (low = 0) else decide (xs.length ≤ 2001) && inB low (-1000) 1000 && decide (low + xs.length - 1 ≤ 1000) && !decide (nth xs 0 = 0) && !decide (nth xs (xs.length - 1) = 0) && allC xs
theorem okL_0 {low : Int} {xs : List Int} (h : xs.length = 0) : okL low xs = decide (low = 0) := by simp [okL, h]
theorem okL_A {low : Int} {xs : List Int} (h0 : ¬ xs.length = 0) (h : ¬ xs.length ≤ 2001) : okL low xs = false := by simp only [okL, if_neg h0]; simp [h]
theorem okL_B {low : Int} {xs : List Int} (h0 : ¬ xs.length = 0) (h : inB low (-1000) 1000 = false) : okL low xs = false := by simp only [okL, if_neg h0]; simp [h]
theorem okL_C {low : Int} {xs : List Int} (h0 : ¬ xs.length = 0) (h : ¬ low + xs.length - 1 ≤ 1000) : okL low xs = false := by simp only [okL, if_neg h0]; simp [h]
theorem okL_D {low : Int} {xs : List Int} (h0 : ¬ xs.length = 0) (h : nth xs 0 = 0) : okL low xs = false := by simp only [okL, if_neg h0]; simp [h]
theorem okL_E {low : Int} {xs : List Int} {p : Nat} (h0 : xs.length = p + 1) (h : nth xs p = 0) : okL low xs = false := by
  have h1 : ¬ xs.length = 0 := by omega
  simp only [okL, if_neg h1, h0, Nat.add_sub_cancel]; simp [h]
theorem okL_G {low : Int} {xs : List Int} {p : Nat} (h0 : xs.length = p + 1) (hA : xs.length ≤ 2001) (hB : inB low (-1000) 1000 = true) (hC : low + xs.length - 1 ≤ 1000) (hD : ¬ nth xs 0 = 0) (hE : ¬ nth xs p = 0) : okL low xs = allC xs := by
  have h1 : ¬ xs.length = 0 := by omega
  have e : xs.length - 1 = p := by omega
  simp only [okL, if_neg h1, e]; simp [hA, hB, hC, hD, hE]
theorem okL_true {low : Int} {xs : List Int} (h : okL low xs = true) : xs.length ≤ 2001 ∧ -1000 ≤ low ∧ low ≤ 1000 ∧ allC xs = true := by
  by_cases h0 : xs.length = 0
  · rw [okL_0 h0, decide_eq_true_eq] at h
    exact ⟨by omega, by omega, by omega, allC_good fun i hi => by omega⟩
  · simp only [okL, if_neg h0, Bool.and_eq_true, decide_eq_true_eq] at h
    have := inB_true h.1.1.1.1.2
    exact ⟨h.1.1.1.1.1, this.1, this.2, h.2⟩
theorem far_any (x : Int) (w : World) : Calls Try.prog 46 #[.int .i64 x] w fun e w' => e = .returned (.bool (!inB x (-1000000000000) 1000000000000)) ∧ w = w' := by
  go_enter Try.func46, Try.ntmps46
  go_wp2_with (first | (go_at_call 44; refine (within_any _ _ _ _).mono ?_; rintro e w' ⟨rfl, rfl⟩))
  go_ret
  exact ⟨rfl, rfl⟩
set_option maxHeartbeats 400000 in
theorem index_any (v : Value) (xs : List Int) (w : World) (h : reads w v xs) (hlen : xs.length ≤ 2001) : Calls Try.prog 60 #[v, .func (.func 46) #[] #[]] w fun e w' => (∃ r : Int, e = .returned (.int .i64 r) ∧ decide (0 ≤ r) = !allC xs) ∧ Below w.heap.size w w' := by
  obtain ⟨a, c, rfl, h⟩ := h
  have Hr := Lib.hid (show 0 < xs.length → ∃ b o, a = some ⟨b, o, none⟩ ∧ b < w.heap.size ∧ ∀ i, i < xs.length → w.cell? ⟨b, o + i, none⟩ = some (.int .i64 (nth xs i)) from fun hp => by
    rcases h with h | ⟨b, o, rfl, m⟩
    · rw [h] at hp; cases hp
    · exact ⟨b, o, rfl, World.block_lt_of_cell? w _ (m 0 hp), m⟩)
  clear h
  go_enter Try.func60, Try.ntmps60
  go_wp2
  go_loop [8] (fun sl => ∃ k : Nat, k ≤ xs.length ∧ sl = .int .i64 k ∧ Hid (∀ i, i < k → inB (nth xs i) (-1000000000000) 1000000000000 = true)) (fun sl => xs.length - (intOf sl).toNat)
  case atStart => exact ⟨0, by omega, rfl, Lib.hid (fun i hi => by omega)⟩
  case round =>
    obtain ⟨k, hk, rfl, Hl⟩ := hrel
    by_cases hlt : k < xs.length
    · obtain ⟨b, o, rfl, hbk, mm⟩ := Hr.out (by omega)
      have g1 := mm k hlt
      clear mm Hr
      cases hin : inB (nth xs k) (-1000000000000) 1000000000000 with
      | false =>
        have HO := Lib.hid (allC_bad hlt hin)
        have hf := fun w => far_any (nth xs k) w
        simp only [hin] at hf
        have Hf := Lib.hid hf
        clear hf hin
        go_wp2_with (first | (go_at_call 46; refine (Hf.out _).mono ?_; rintro e w' ⟨rfl, rfl⟩))
        go_ret
        exact ⟨⟨k, rfl, by rw [HO.out]; simp⟩, by (repeat (first | (with_reducible exact Below.refl _ _) | (with_reducible assumption) | (with_reducible refine below_plus' ?_ ?_; ((try simp only [plus_size, World.size_alloc, World.size_drew, World.size_setCell, size_setRow, World.heap_drewN, List.length_append]) <;> omega)) | (with_reducible refine below_alloc' ?_ ?_; ((try simp only [plus_size, World.size_alloc, World.size_drew, World.size_setCell, size_setRow, World.heap_drewN, List.length_append]) <;> omega)) | with_reducible refine Below.drew ?_ | (with_reducible refine below_drewN' ?_ _) | exact Below.refl _ _))⟩
      | true =>
        have HI := Lib.hid hin
        have hf := fun w => far_any (nth xs k) w
        simp only [hin] at hf
        have Hf := Lib.hid hf
        clear hf hin
        go_wp2_with (first | (go_at_call 46; refine (Hf.out _).mono ?_; rintro e w' ⟨rfl, rfl⟩))
        go_round
        case rel => exact ⟨k + 1, by omega, by go_num, Lib.hid (fun i hi => by by_cases e : i = k; (· rw [e]; exact HI.out); (· exact Hl.out i (by omega)))⟩
        case measure => simp [intOf]; omega
    · obtain rfl : k = xs.length := by omega
      have HO := Lib.hid (allC_good Hl.out)
      go_wp2
      go_ret
      exact ⟨⟨-1, rfl, by rw [HO.out]; rfl⟩, by (repeat (first | (with_reducible exact Below.refl _ _) | (with_reducible assumption) | (with_reducible refine below_plus' ?_ ?_; ((try simp only [plus_size, World.size_alloc, World.size_drew, World.size_setCell, size_setRow, World.heap_drewN, List.length_append]) <;> omega)) | (with_reducible refine below_alloc' ?_ ?_; ((try simp only [plus_size, World.size_alloc, World.size_drew, World.size_setCell, size_setRow, World.heap_drewN, List.length_append]) <;> omega)) | with_reducible refine Below.drew ?_ | (with_reducible refine below_drewN' ?_ _) | exact Below.refl _ _))⟩
set_option maxHeartbeats 400000 in
theorem contains_any (v : Value) (xs : List Int) (w : World) (h : reads w v xs) (hlen : xs.length ≤ 2001) : Calls Try.prog 45 #[v, .func (.func 46) #[] #[]] w fun e w' => e = .returned (.bool (!allC xs)) ∧ Below w.heap.size w w' := by
  have HI := Lib.hid (fun w' (hb : Below w.heap.size w w') => index_any v xs w' (h.kept hb) hlen)
  clear h
  go_enter Try.func45, Try.ntmps45
  go_wp2_with (first | (go_at_call 60; refine Calls.mono (HI.out _ ?_) ?_; (repeat (first | (with_reducible exact Below.refl _ _) | (with_reducible assumption) | (with_reducible refine below_plus' ?_ ?_; ((try simp only [plus_size, World.size_alloc, World.size_drew, World.size_setCell, size_setRow, World.heap_drewN, List.length_append]) <;> omega)) | (with_reducible refine below_alloc' ?_ ?_; ((try simp only [plus_size, World.size_alloc, World.size_drew, World.size_setCell, size_setRow, World.heap_drewN, List.length_append]) <;> omega)) | with_reducible refine Below.drew ?_ | (with_reducible refine below_drewN' ?_ _) | exact Below.refl _ _)); rintro e w' ⟨⟨r, rfl, hr⟩, hB⟩; obtain ⟨j, d, rfl⟩ := plus_of_below hB; clear hB))
  go_ret
  exact ⟨by rw [← hr]; rfl, by (repeat (first | (with_reducible exact Below.refl _ _) | (with_reducible assumption) | (with_reducible refine below_plus' ?_ ?_; ((try simp only [plus_size, World.size_alloc, World.size_drew, World.size_setCell, size_setRow, World.heap_drewN, List.length_append]) <;> omega)) | (with_reducible refine below_alloc' ?_ ?_; ((try simp only [plus_size, World.size_alloc, World.size_drew, World.size_setCell, size_setRow, World.heap_drewN, List.length_append]) <;> omega)) | with_reducible refine Below.drew ?_ | (with_reducible refine below_drewN' ?_ _) | exact Below.refl _ _))⟩
set_option maxHeartbeats 2000000 in
theorem impl_Is (n : Int) (v : Value) (xs : List Int) (w : World) (h : reads w v xs) (hlen : xs.length ≤ 1000000000) (hfit : Fits xs) : Calls Try.prog 18 #[.agg #[.int .i64 n, v]] w fun e w' => e = .returned (.bool (okL n xs)) ∧ Below w.heap.size w w' := by
  have h0 := h
  obtain ⟨a, c, rfl, hrd⟩ := h
  by_cases hz : xs.length = 0
  · clear hrd h0
    by_cases hn : n = 0
    · have HO := Lib.hid (show okL n xs = true by rw [okL_0 hz]; simp [hn])
      have hnb : (n == 0) = true := by simp [hn]
      simp only [hz]
      go_enter Try.func18, Try.ntmps18
      go_wp2_with (first | (go_at_call 44; refine (within_any _ _ _ _).mono ?_; rintro e w' ⟨rfl, rfl⟩))
      go_ret
      exact ⟨by rw [HO.out]; first | rfl | simp, by (repeat (first | (with_reducible exact Below.refl _ _) | (with_reducible assumption) | (with_reducible refine below_plus' ?_ ?_; ((try simp only [plus_size, World.size_alloc, World.size_drew, World.size_setCell, size_setRow, World.heap_drewN, List.length_append]) <;> omega)) | (with_reducible refine below_alloc' ?_ ?_; ((try simp only [plus_size, World.size_alloc, World.size_drew, World.size_setCell, size_setRow, World.heap_drewN, List.length_append]) <;> omega)) | with_reducible refine Below.drew ?_ | (with_reducible refine below_drewN' ?_ _) | exact Below.refl _ _))⟩
    · have HO := Lib.hid (show okL n xs = false by rw [okL_0 hz]; simp [hn])
      have hnb : (n == 0) = false := by simp [hn]
      simp only [hz]
      go_enter Try.func18, Try.ntmps18
      go_wp2_with (first | (go_at_call 44; refine (within_any _ _ _ _).mono ?_; rintro e w' ⟨rfl, rfl⟩))
      go_ret
      exact ⟨by rw [HO.out]; first | rfl | simp, by (repeat (first | (with_reducible exact Below.refl _ _) | (with_reducible assumption) | (with_reducible refine below_plus' ?_ ?_; ((try simp only [plus_size, World.size_alloc, World.size_drew, World.size_setCell, size_setRow, World.heap_drewN, List.length_append]) <;> omega)) | (with_reducible refine below_alloc' ?_ ?_; ((try simp only [plus_size, World.size_alloc, World.size_drew, World.size_setCell, size_setRow, World.heap_drewN, List.length_append]) <;> omega)) | with_reducible refine Below.drew ?_ | (with_reducible refine below_drewN' ?_ _) | exact Below.refl _ _))⟩
  · obtain ⟨b, o, rfl, mm⟩ := hrd.resolve_left (fun e => hz (by rw [e]; rfl))
    have hbk : b < w.heap.size := World.block_lt_of_cell? w _ (mm 0 (by omega))
    have hb1 : b < w.heap.size + 1 := by omega
    have hzb : ((xs.length : Int) == 0) = false := beq_eq_false_iff_ne.2 (by omega)
    have hz1 : ¬ (xs.length : Int) = 0 := by omega
    have hz2 : 0 < xs.length := by omega
    have hz3 : (0 : Int) < (xs.length : Int) := by omega
    by_cases hA : xs.length ≤ 2001
    · have hA1 : ¬ (2001 : Int) < (xs.length : Int) := by omega
      cases hin : inB n (-1000) 1000 with
      | false =>
        have HO := Lib.hid (okL_B (low := n) hz hin)
        clear hrd h0 mm
        go_enter Try.func18, Try.ntmps18
        go_wp2_with (first | (go_at_call 44; refine (within_any _ _ _ _).mono ?_; rw [hin]; rintro e w' ⟨rfl, rfl⟩))
        go_ret
        exact ⟨by rw [HO.out]; first | rfl | simp, by (repeat (first | (with_reducible exact Below.refl _ _) | (with_reducible assumption) | (with_reducible refine below_plus' ?_ ?_; ((try simp only [plus_size, World.size_alloc, World.size_drew, World.size_setCell, size_setRow, World.heap_drewN, List.length_append]) <;> omega)) | (with_reducible refine below_alloc' ?_ ?_; ((try simp only [plus_size, World.size_alloc, World.size_drew, World.size_setCell, size_setRow, World.heap_drewN, List.length_append]) <;> omega)) | with_reducible refine Below.drew ?_ | (with_reducible refine below_drewN' ?_ _) | exact Below.refl _ _))⟩
      | true =>
        have hn1 := (inB_true hin).1
        have hn2 := (inB_true hin).2
        by_cases hC : n + xs.length - 1 ≤ 1000
        · have hC1 : ¬ (1000 : Int) < n + (xs.length : Int) - 1 := by omega
          have g0 := mm 0 (by omega)
          rw [Nat.add_zero] at g0
          by_cases hD : nth xs 0 = 0
          · have HO := Lib.hid (okL_D (low := n) hz hD)
            rw [hD] at g0
            clear hrd h0 mm
            go_enter Try.func18, Try.ntmps18
            go_wp2_with (first | (go_at_call 44; refine (within_any _ _ _ _).mono ?_; rw [hin]; rintro e w' ⟨rfl, rfl⟩))
            go_ret
            exact ⟨by rw [HO.out]; first | rfl | simp, by (repeat (first | (with_reducible exact Below.refl _ _) | (with_reducible assumption) | (with_reducible refine below_plus' ?_ ?_; ((try simp only [plus_size, World.size_alloc, World.size_drew, World.size_setCell, size_setRow, World.heap_drewN, List.length_append]) <;> omega)) | (with_reducible refine below_alloc' ?_ ?_; ((try simp only [plus_size, World.size_alloc, World.size_drew, World.size_setCell, size_setRow, World.heap_drewN, List.length_append]) <;> omega)) | with_reducible refine Below.drew ?_ | (with_reducible refine below_drewN' ?_ _) | exact Below.refl _ _))⟩
          · have hD1 : (nth xs 0 == 0) = false := by simp [hD]
            obtain ⟨p, hp⟩ : ∃ p, xs.length = p + 1 := ⟨xs.length - 1, by omega⟩
            have gp := mm p (by omega)
            have hpw : IntKind.i64.wrap ((xs.length : Int) - 1) = p := by rw [IntKind.wrap_i64]; omega
            have hpl : p < xs.length := by omega
            by_cases hE : nth xs p = 0
            · have HO := Lib.hid (okL_E (low := n) hp hE)
              rw [hE] at gp
              clear hrd h0 mm hp
              go_enter Try.func18, Try.ntmps18
              go_wp2_with (first | (go_at_call 44; refine (within_any _ _ _ _).mono ?_; rw [hin]; rintro e w' ⟨rfl, rfl⟩))
              go_ret
              exact ⟨by rw [HO.out]; first | rfl | simp, by (repeat (first | (with_reducible exact Below.refl _ _) | (with_reducible assumption) | (with_reducible refine below_plus' ?_ ?_; ((try simp only [plus_size, World.size_alloc, World.size_drew, World.size_setCell, size_setRow, World.heap_drewN, List.length_append]) <;> omega)) | (with_reducible refine below_alloc' ?_ ?_; ((try simp only [plus_size, World.size_alloc, World.size_drew, World.size_setCell, size_setRow, World.heap_drewN, List.length_append]) <;> omega)) | with_reducible refine Below.drew ?_ | (with_reducible refine below_drewN' ?_ _) | exact Below.refl _ _))⟩
            · have hE1 : (nth xs p == 0) = false := by simp [hE]
              have HO := Lib.hid (okL_G (low := n) hp hA hin hC hD hE)
              replace mm := Lib.hid mm
              clear hrd hp
              have HC := Lib.hid (fun w' (hb : Below w.heap.size w w') => contains_any _ xs w' (h0.kept hb) hA)
              go_enter Try.func18, Try.ntmps18
              go_wp2_with (first | (go_at_call 44; refine (within_any _ _ _ _).mono ?_; rw [hin]; rintro e w' ⟨rfl, rfl⟩) | (go_at_call 45; refine Calls.mono (HC.out _ ?_) ?_; (repeat (first | (with_reducible exact Below.refl _ _) | (with_reducible assumption) | (with_reducible refine below_plus' ?_ ?_; ((try simp only [plus_size, World.size_alloc, World.size_drew, World.size_setCell, size_setRow, World.heap_drewN, List.length_append]) <;> omega)) | (with_reducible refine below_alloc' ?_ ?_; ((try simp only [plus_size, World.size_alloc, World.size_drew, World.size_setCell, size_setRow, World.heap_drewN, List.length_append]) <;> omega)) | with_reducible refine Below.drew ?_ | (with_reducible refine below_drewN' ?_ _) | exact Below.refl _ _)); rintro e w' ⟨rfl, hB⟩; obtain ⟨j, d, rfl⟩ := plus_of_below hB; clear hB))
              go_ret
              exact ⟨by rw [HO.out]; simp, by (repeat (first | (with_reducible exact Below.refl _ _) | (with_reducible assumption) | (with_reducible refine below_plus' ?_ ?_; ((try simp only [plus_size, World.size_alloc, World.size_drew, World.size_setCell, size_setRow, World.heap_drewN, List.length_append]) <;> omega)) | (with_reducible refine below_alloc' ?_ ?_; ((try simp only [plus_size, World.size_alloc, World.size_drew, World.size_setCell, size_setRow, World.heap_drewN, List.length_append]) <;> omega)) | with_reducible refine Below.drew ?_ | (with_reducible refine below_drewN' ?_ _) | exact Below.refl _ _))⟩
        · have hC1 : (1000 : Int) < n + (xs.length : Int) - 1 := by omega
          have HO := Lib.hid (okL_C (low := n) hz hC)
          clear hrd h0 mm
          go_enter Try.func18, Try.ntmps18
          go_wp2_with (first | (go_at_call 44; refine (within_any _ _ _ _).mono ?_; rw [hin]; rintro e w' ⟨rfl, rfl⟩))
          go_ret
          exact ⟨by rw [HO.out]; first | rfl | simp, by (repeat (first | (with_reducible exact Below.refl _ _) | (with_reducible assumption) | (with_reducible refine below_plus' ?_ ?_; ((try simp only [plus_size, World.size_alloc, World.size_drew, World.size_setCell, size_setRow, World.heap_drewN, List.length_append]) <;> omega)) | (with_reducible refine below_alloc' ?_ ?_; ((try simp only [plus_size, World.size_alloc, World.size_drew, World.size_setCell, size_setRow, World.heap_drewN, List.length_append]) <;> omega)) | with_reducible refine Below.drew ?_ | (with_reducible refine below_drewN' ?_ _) | exact Below.refl _ _))⟩
    · have hA1 : (2001 : Int) < (xs.length : Int) := by omega
      have HO := Lib.hid (okL_A (low := n) hz hA)
      clear hrd h0 mm
      go_enter Try.func18, Try.ntmps18
      go_wp2_with (first | (go_at_call 44; refine (within_any _ _ _ _).mono ?_; rintro e w' ⟨rfl, rfl⟩))
      go_ret
      exact ⟨by rw [HO.out]; first | rfl | simp, by (repeat (first | (with_reducible exact Below.refl _ _) | (with_reducible assumption) | (with_reducible refine below_plus' ?_ ?_; ((try simp only [plus_size, World.size_alloc, World.size_drew, World.size_setCell, size_setRow, World.heap_drewN, List.length_append]) <;> omega)) | (with_reducible refine below_alloc' ?_ ?_; ((try simp only [plus_size, World.size_alloc, World.size_drew, World.size_setCell, size_setRow, World.heap_drewN, List.length_append]) <;> omega)) | with_reducible refine Below.drew ?_ | (with_reducible refine below_drewN' ?_ _) | exact Below.refl _ _))⟩
set_option maxHeartbeats 2000000 in
theorem spec_Is (n : Int) (v : Value) (xs : List Int) (w : World) (h : reads w v xs) (hlen : xs.length ≤ 1000000000) (hfit : Fits xs) : Calls Try.prog 28 #[.agg #[.int .i64 n, v]] w fun e w' => e = .returned (.bool (okL n xs)) ∧ Below w.heap.size w w' := by
  have h0 := h
  obtain ⟨a, c, rfl, hrd⟩ := h
  by_cases hz : xs.length = 0
  · clear hrd h0
    by_cases hn : n = 0
    · have HO := Lib.hid (show okL n xs = true by rw [okL_0 hz]; simp [hn])
      have hnb : (n == 0) = true := by simp [hn]
      simp only [hz]
      go_enter Try.func28, Try.ntmps28
      go_wp2_with (first | (go_at_call 52; refine (l01In_any _ _ _ _).mono ?_; rintro e w' ⟨rfl, rfl⟩))
      go_ret
      exact ⟨by rw [HO.out]; first | rfl | simp, by (repeat (first | (with_reducible exact Below.refl _ _) | (with_reducible assumption) | (with_reducible refine below_plus' ?_ ?_; ((try simp only [plus_size, World.size_alloc, World.size_drew, World.size_setCell, size_setRow, World.heap_drewN, List.length_append]) <;> omega)) | (with_reducible refine below_alloc' ?_ ?_; ((try simp only [plus_size, World.size_alloc, World.size_drew, World.size_setCell, size_setRow, World.heap_drewN, List.length_append]) <;> omega)) | with_reducible refine Below.drew ?_ | (with_reducible refine below_drewN' ?_ _) | exact Below.refl _ _))⟩
    · have HO := Lib.hid (show okL n xs = false by rw [okL_0 hz]; simp [hn])
      have hnb : (n == 0) = false := by simp [hn]
      simp only [hz]
      go_enter Try.func28, Try.ntmps28
      go_wp2_with (first | (go_at_call 52; refine (l01In_any _ _ _ _).mono ?_; rintro e w' ⟨rfl, rfl⟩))
      go_ret
      exact ⟨by rw [HO.out]; first | rfl | simp, by (repeat (first | (with_reducible exact Below.refl _ _) | (with_reducible assumption) | (with_reducible refine below_plus' ?_ ?_; ((try simp only [plus_size, World.size_alloc, World.size_drew, World.size_setCell, size_setRow, World.heap_drewN, List.length_append]) <;> omega)) | (with_reducible refine below_alloc' ?_ ?_; ((try simp only [plus_size, World.size_alloc, World.size_drew, World.size_setCell, size_setRow, World.heap_drewN, List.length_append]) <;> omega)) | with_reducible refine Below.drew ?_ | (with_reducible refine below_drewN' ?_ _) | exact Below.refl _ _))⟩
  · obtain ⟨b, o, rfl, mm⟩ := hrd.resolve_left (fun e => hz (by rw [e]; rfl))
    have hbk : b < w.heap.size := World.block_lt_of_cell? w _ (mm 0 (by omega))
    have hb1 : b < w.heap.size + 1 := by omega
    have hzb : ((xs.length : Int) == 0) = false := beq_eq_false_iff_ne.2 (by omega)
    have hz1 : ¬ (xs.length : Int) = 0 := by omega
    have hz2 : 0 < xs.length := by omega
    have hz3 : (0 : Int) < (xs.length : Int) := by omega
    by_cases hA : xs.length ≤ 2001
    · have hA1 : ¬ (2001 : Int) < (xs.length : Int) := by omega
      cases hin : inB n (-1000) 1000 with
      | false =>
        have HO := Lib.hid (okL_B (low := n) hz hin)
        clear hrd h0 mm
        go_enter Try.func28, Try.ntmps28
        go_wp2_with (first | (go_at_call 52; refine (l01In_any _ _ _ _).mono ?_; rw [hin]; rintro e w' ⟨rfl, rfl⟩))
        go_ret
        exact ⟨by rw [HO.out]; first | rfl | simp, by (repeat (first | (with_reducible exact Below.refl _ _) | (with_reducible assumption) | (with_reducible refine below_plus' ?_ ?_; ((try simp only [plus_size, World.size_alloc, World.size_drew, World.size_setCell, size_setRow, World.heap_drewN, List.length_append]) <;> omega)) | (with_reducible refine below_alloc' ?_ ?_; ((try simp only [plus_size, World.size_alloc, World.size_drew, World.size_setCell, size_setRow, World.heap_drewN, List.length_append]) <;> omega)) | with_reducible refine Below.drew ?_ | (with_reducible refine below_drewN' ?_ _) | exact Below.refl _ _))⟩
      | true =>
        have hn1 := (inB_true hin).1
        have hn2 := (inB_true hin).2
        by_cases hC : n + xs.length - 1 ≤ 1000
        · have hC1 : ¬ (1000 : Int) < n + (xs.length : Int) - 1 := by omega
          have g0 := mm 0 (by omega)
          rw [Nat.add_zero] at g0
          by_cases hD : nth xs 0 = 0
          · have HO := Lib.hid (okL_D (low := n) hz hD)
            rw [hD] at g0
            clear hrd h0 mm
            go_enter Try.func28, Try.ntmps28
            go_wp2_with (first | (go_at_call 52; refine (l01In_any _ _ _ _).mono ?_; rw [hin]; rintro e w' ⟨rfl, rfl⟩))
            go_ret
            exact ⟨by rw [HO.out]; first | rfl | simp, by (repeat (first | (with_reducible exact Below.refl _ _) | (with_reducible assumption) | (with_reducible refine below_plus' ?_ ?_; ((try simp only [plus_size, World.size_alloc, World.size_drew, World.size_setCell, size_setRow, World.heap_drewN, List.length_append]) <;> omega)) | (with_reducible refine below_alloc' ?_ ?_; ((try simp only [plus_size, World.size_alloc, World.size_drew, World.size_setCell, size_setRow, World.heap_drewN, List.length_append]) <;> omega)) | with_reducible refine Below.drew ?_ | (with_reducible refine below_drewN' ?_ _) | exact Below.refl _ _))⟩
          · have hD1 : (nth xs 0 == 0) = false := by simp [hD]
            obtain ⟨p, hp⟩ : ∃ p, xs.length = p + 1 := ⟨xs.length - 1, by omega⟩
            have gp := mm p (by omega)
            have hpw : IntKind.i64.wrap ((xs.length : Int) - 1) = p := by rw [IntKind.wrap_i64]; omega
            have hpl : p < xs.length := by omega
            by_cases hE : nth xs p = 0
            · have HO := Lib.hid (okL_E (low := n) hp hE)
              rw [hE] at gp
              clear hrd h0 mm hp
              go_enter Try.func28, Try.ntmps28
              go_wp2_with (first | (go_at_call 52; refine (l01In_any _ _ _ _).mono ?_; rw [hin]; rintro e w' ⟨rfl, rfl⟩))
              go_ret
              exact ⟨by rw [HO.out]; first | rfl | simp, by (repeat (first | (with_reducible exact Below.refl _ _) | (with_reducible assumption) | (with_reducible refine below_plus' ?_ ?_; ((try simp only [plus_size, World.size_alloc, World.size_drew, World.size_setCell, size_setRow, World.heap_drewN, List.length_append]) <;> omega)) | (with_reducible refine below_alloc' ?_ ?_; ((try simp only [plus_size, World.size_alloc, World.size_drew, World.size_setCell, size_setRow, World.heap_drewN, List.length_append]) <;> omega)) | with_reducible refine Below.drew ?_ | (with_reducible refine below_drewN' ?_ _) | exact Below.refl _ _))⟩
            · have hE1 : (nth xs p == 0) = false := by simp [hE]
              have HO := Lib.hid (okL_G (low := n) hp hA hin hC hD hE)
              replace mm := Lib.hid mm
              clear hrd hp
              go_enter Try.func28, Try.ntmps28
              go_wp2_with (first | (go_at_call 52; refine (l01In_any _ _ _ _).mono ?_; rw [hin]; rintro e w' ⟨rfl, rfl⟩))
              go_loop [4] (fun sl => ∃ k : Nat, k ≤ xs.length ∧ sl = .int .i64 k ∧ Hid (∀ i, i < k → inB (nth xs i) (-1000000000000) 1000000000000 = true)) (fun sl => xs.length - (intOf sl).toNat)
              case atStart => exact ⟨0, by omega, rfl, Lib.hid (fun i hi => by omega)⟩
              case round =>
                obtain ⟨k, hk, rfl, Hl⟩ := hrel
                by_cases hlt : k < xs.length
                · have g1 := mm.out k hlt
                  have hb1 : b < w.heap.size + 1 := by omega
                  clear g0 gp
                  cases hi2 : inB (nth xs k) (-1000000000000) 1000000000000 with
                  | false =>
                    have HQ := Lib.hid (allC_bad hlt hi2)
                    go_wp2_with (first | (go_at_call 52; refine (l01In_any _ _ _ _).mono ?_; rw [hi2]; rintro e w' ⟨rfl, rfl⟩))
                    go_ret
                    exact ⟨by rw [HO.out, HQ.out]; rfl, by (repeat (first | (with_reducible exact Below.refl _ _) | (with_reducible assumption) | (with_reducible refine below_plus' ?_ ?_; ((try simp only [plus_size, World.size_alloc, World.size_drew, World.size_setCell, size_setRow, World.heap_drewN, List.length_append]) <;> omega)) | (with_reducible refine below_alloc' ?_ ?_; ((try simp only [plus_size, World.size_alloc, World.size_drew, World.size_setCell, size_setRow, World.heap_drewN, List.length_append]) <;> omega)) | with_reducible refine Below.drew ?_ | (with_reducible refine below_drewN' ?_ _) | exact Below.refl _ _))⟩
                  | true =>
                    have HI := Lib.hid hi2
                    go_wp2_with (first | (go_at_call 52; refine (l01In_any _ _ _ _).mono ?_; rw [hi2]; rintro e w' ⟨rfl, rfl⟩))
                    go_round
                    case rel => exact ⟨k + 1, by omega, by go_num, Lib.hid (fun i hi => by by_cases e : i = k; (· rw [e]; exact HI.out); (· exact Hl.out i (by omega)))⟩
                    case measure => simp [intOf]; omega
                · obtain rfl : k = xs.length := by omega
                  have HQ := Lib.hid (allC_good Hl.out)
                  go_wp2
                  go_ret
                  exact ⟨by rw [HO.out, HQ.out]; rfl, by (repeat (first | (with_reducible exact Below.refl _ _) | (with_reducible assumption) | (with_reducible refine below_plus' ?_ ?_; ((try simp only [plus_size, World.size_alloc, World.size_drew, World.size_setCell, size_setRow, World.heap_drewN, List.length_append]) <;> omega)) | (with_reducible refine below_alloc' ?_ ?_; ((try simp only [plus_size, World.size_alloc, World.size_drew, World.size_setCell, size_setRow, World.heap_drewN, List.length_append]) <;> omega)) | with_reducible refine Below.drew ?_ | (with_reducible refine below_drewN' ?_ _) | exact Below.refl _ _))⟩
        · have hC1 : (1000 : Int) < n + (xs.length : Int) - 1 := by omega
          have HO := Lib.hid (okL_C (low := n) hz hC)
          clear hrd h0 mm
          go_enter Try.func28, Try.ntmps28
          go_wp2_with (first | (go_at_call 52; refine (l01In_any _ _ _ _).mono ?_; rw [hin]; rintro e w' ⟨rfl, rfl⟩))
          go_ret
          exact ⟨by rw [HO.out]; first | rfl | simp, by (repeat (first | (with_reducible exact Below.refl _ _) | (with_reducible assumption) | (with_reducible refine below_plus' ?_ ?_; ((try simp only [plus_size, World.size_alloc, World.size_drew, World.size_setCell, size_setRow, World.heap_drewN, List.length_append]) <;> omega)) | (with_reducible refine below_alloc' ?_ ?_; ((try simp only [plus_size, World.size_alloc, World.size_drew, World.size_setCell, size_setRow, World.heap_drewN, List.length_append]) <;> omega)) | with_reducible refine Below.drew ?_ | (with_reducible refine below_drewN' ?_ _) | exact Below.refl _ _))⟩
    · have hA1 : (2001 : Int) < (xs.length : Int) := by omega
      have HO := Lib.hid (okL_A (low := n) hz hA)
      clear hrd h0 mm
      go_enter Try.func28, Try.ntmps28
      go_wp2_with (first | (go_at_call 52; refine (l01In_any _ _ _ _).mono ?_; rintro e w' ⟨rfl, rfl⟩))
      go_ret
      exact ⟨by rw [HO.out]; first | rfl | simp, by (repeat (first | (with_reducible exact Below.refl _ _) | (with_reducible assumption) | (with_reducible refine below_plus' ?_ ?_; ((try simp only [plus_size, World.size_alloc, World.size_drew, World.size_setCell, size_setRow, World.heap_drewN, List.length_append]) <;> omega)) | (with_reducible refine below_alloc' ?_ ?_; ((try simp only [plus_size, World.size_alloc, World.size_drew, World.size_setCell, size_setRow, World.heap_drewN, List.length_append]) <;> omega)) | with_reducible refine Below.drew ?_ | (with_reducible refine below_drewN' ?_ _) | exact Below.refl _ _))⟩
end Go.Proofs.Ytcipdgmimmngoaa
