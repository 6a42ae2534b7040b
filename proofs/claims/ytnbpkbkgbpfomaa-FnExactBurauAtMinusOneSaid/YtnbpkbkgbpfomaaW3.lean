/- Values of polynomials. Conditions: as each theorem says. -/
import Derived.Test.YtnbpkbkgbpfomaaW2
namespace Go.Proofs.Ytnbpkbkgbpfomaa
open Go.RowKit
set_option linter.unusedSimpArgs false
set_option linter.unusedVariables false
/-- the sum of the first k coefficients, with signs -/
def sumV (low s : Int) (xs : List Int) : Nat → Int
  | 0 => 0
  | k + 1 => sumV low s xs k + (if s < 0 ∧ ¬ (low + k).tmod 2 = 0 then -nth xs k else nth xs k)
theorem sumV_plus {low s : Int} {xs : List Int} {k : Nat} (h : ¬ s < 0 ∨ (low + k).tmod 2 = 0) : sumV low s xs k + nth xs k = sumV low s xs (k + 1) := by
  have : ¬ (s < 0 ∧ ¬ (low + k).tmod 2 = 0) := fun ⟨a, b⟩ => h.elim (fun h => h a) (fun h => b h)
  simp only [sumV, if_neg this]
theorem sumV_minus {low s : Int} {xs : List Int} {k : Nat} (h1 : s < 0) (h : ¬ (low + k).tmod 2 = 0) : sumV low s xs k + -nth xs k = sumV low s xs (k + 1) := by
  simp only [sumV, if_pos (And.intro h1 h)]
theorem sumV_le {low s : Int} {xs : List Int} (h : allC xs = true) : ∀ k : Nat, k ≤ xs.length → -1000000000000 * (k : Int) ≤ sumV low s xs k ∧ sumV low s xs k ≤ 1000000000000 * (k : Int)
  | 0, _ => by simp [sumV]
  | k + 1, hk => by
    have h1 := sumV_le (low := low) (s := s) h k (by omega)
    have h2 := allC_at h (i := k) (by omega)
    simp only [sumV]
    split <;> omega
def rVal (low : Int) (xs : List Int) (s : Int) : Value := .tuple #[.int .i64 (if okL low xs = true ∧ (s = 1 ∨ s = -1) then sumV low s xs xs.length else 0), .int .i64 (if okL low xs = true then (if s = 1 ∨ s = -1 then 0 else 2) else 1)]
theorem rVal_1 {low xs s} (h : okL low xs = false) : rVal low xs s = .tuple #[.int .i64 0, .int .i64 1] := by simp [rVal, h]
theorem rVal_2 {low xs s} (h : okL low xs = true) (h2 : ¬ s = 1) (h3 : ¬ s = -1) : rVal low xs s = .tuple #[.int .i64 0, .int .i64 2] := by simp [rVal, h, h2, h3]
theorem rVal_3 {low xs s} (h : okL low xs = true) (h2 : s = 1 ∨ s = -1) : rVal low xs s = .tuple #[.int .i64 (sumV low s xs xs.length), .int .i64 0] := by simp [rVal, h, h2]
set_option maxHeartbeats 1000000 in
theorem l05Value_any (n : Int) (v : Value) (xs : List Int) (s : Int) (w : World) (h : reads w v xs) (hlen : xs.length ≤ 2001) (hn1 : -1000 ≤ n) (hn2 : n ≤ 1000) (hall : allC xs = true) (hs1 : s = 1 ∨ s = -1) : Calls Try.prog 16 #[.agg #[.int .i64 n, v], .int .i64 s] w fun e w' => e = .returned (.int .i64 (sumV n s xs xs.length)) ∧ Below w.heap.size w w' := by
  obtain ⟨a, c, rfl, hrd⟩ := h
  have Hr := Lib.hid (show 0 < xs.length → ∃ b o, a = some ⟨b, o, none⟩ ∧ b < w.heap.size ∧ ∀ i, i < xs.length → w.cell? ⟨b, o + i, none⟩ = some (.int .i64 (nth xs i)) from fun hp => by
    rcases hrd with h | ⟨b, o, rfl, m⟩
    · rw [h] at hp; cases hp
    · exact ⟨b, o, rfl, World.block_lt_of_cell? w _ (m 0 hp), m⟩)
  clear hrd
  have hsl := fun k hk => sumV_le (low := n) (s := s) hall k hk
  have HSL := Lib.hid (fun k (hk : k ≤ xs.length) => And.intro (show -2001000000000000 ≤ sumV n s xs k by have := (hsl k hk).1; omega) (show sumV n s xs k ≤ 2001000000000000 by have := (hsl k hk).2; omega))
  have HC := Lib.hid (fun k (hk : k < xs.length) => allC_at hall hk)
  clear hsl hall
  go_enter Try.func16, Try.ntmps16
  go_wp2
  go_loop [6, 5] (fun sl sc => ∃ k : Nat, k ≤ xs.length ∧ sl = .int .i64 k ∧ sc = .int .i64 (sumV n s xs k)) (fun sl _ => xs.length - (intOf sl).toNat)
  case atStart => exact ⟨0, by omega, rfl, rfl⟩
  case round =>
    obtain ⟨k, hk, rfl, rfl⟩ := hrel
    by_cases hlt : k < xs.length
    · obtain ⟨b, o, rfl, hbk, mm⟩ := Hr.out (by omega)
      have g1 := mm k hlt
      have hb1 : b < w.heap.size + 1 := by omega
      have hc := HC.out k hlt
      have hs := HSL.out k hk
      clear mm Hr
      rcases hs1 with rfl | rfl
      · have HP := Lib.hid (sumV_plus (low := n) (s := 1) (xs := xs) (k := k) (.inl (by decide)))
        go_wp2
        go_round
        case rel => exact ⟨k + 1, by omega, by go_num, by (rw [← HP.out] <;> go_num)⟩
        case measure => simp [intOf]; omega
      · by_cases hm : (n + (k : Int)).tmod 2 = 0
        · have hm1 : ((n + (k : Int)).tmod 2 == 0) = true := by simp [hm]
          have hm2 : ((n + (k : Int)).tmod 2 != 0) = false := by simp [hm]
          have HP := Lib.hid (sumV_plus (low := n) (s := -1) (xs := xs) (k := k) (.inr hm))
          go_wp2
          go_round
          case rel => exact ⟨k + 1, by omega, by go_num, by (rw [← HP.out] <;> go_num)⟩
          case measure => simp [intOf]; omega
        · have hm1 : ((n + (k : Int)).tmod 2 == 0) = false := by simp [hm]
          have hm2 : ((n + (k : Int)).tmod 2 != 0) = true := by simp [hm]
          have HP := Lib.hid (sumV_minus (low := n) (s := -1) (xs := xs) (k := k) (by decide) hm)
          go_wp2
          go_round
          case rel => exact ⟨k + 1, by omega, by go_num, by (rw [← HP.out] <;> go_num)⟩
          case measure => simp [intOf]; omega
    · obtain rfl : k = xs.length := by omega
      go_wp2
      go_ret
      exact ⟨rfl, by (repeat (first | (with_reducible exact Below.refl _ _) | (with_reducible assumption) | (with_reducible refine below_plus' ?_ ?_; ((try simp only [plus_size, World.size_alloc, World.size_drew, World.size_setCell, size_setRow, World.heap_drewN, List.length_append]) <;> omega)) | (with_reducible refine below_alloc' ?_ ?_; ((try simp only [plus_size, World.size_alloc, World.size_drew, World.size_setCell, size_setRow, World.heap_drewN, List.length_append]) <;> omega)) | with_reducible refine Below.drew ?_ | (with_reducible refine below_drewN' ?_ _) | exact Below.refl _ _))⟩
end Go.Proofs.Ytnbpkbkgbpfomaa
