/- Braids as words: what lies at the ground. Conditions: as each theorem says. -/
import Derived.Test.YtfghanmcmjgonaaDoorP2
import Derived.Test.YtfghanmcmjgonaaDoorS6
import Derived.Test.YtfghanmcmjgonaaDoorI2
import Derived.Test.YtfghanmcmjgonaaDoorReg
import Derived.Test.YtfghanmcmjgonaaDoorGi
import Derived.Test.YtfghanmcmjgonaaDoorProg
import Derived.KernelRfl
namespace Go.Proofs.YtfghanmcmjgonaaDoor
open Go.RowKit
set_option linter.unusedSimpArgs false
set_option linter.unusedVariables false
theorem infoI : (Tryd.prog.info? 2).map (fun i => (i.zero, i.size, i.bytes)) = some (some (.int .i64 0), 1, 8) := by kernel_rfl
theorem within_any (n lo hi : Int) (w : World) : Calls Tryd.prog 51 #[.int .i64 n, .int .i64 lo, .int .i64 hi] w fun e w' => e = .returned (.bool (inB n lo hi)) ∧ w = w' := by
  go_enter Tryd.func51, Tryd.ntmps51
  go_wp2
  all_goals go_ret
  · exact ⟨by simp [inB]; omega, rfl⟩
  · exact ⟨by simp [inB]; omega, rfl⟩
theorem l01In_any (n lo hi : Int) (w : World) : Calls Tryd.prog 26 #[.int .i64 n, .int .i64 lo, .int .i64 hi] w fun e w' => e = .returned (.bool (inB n lo hi)) ∧ w = w' := by
  go_enter Tryd.func26, Tryd.ntmps26
  go_wp2
  all_goals go_ret
  · exact ⟨by simp [inB]; omega, rfl⟩
  · exact ⟨by simp [inB]; omega, rfl⟩
theorem isCount_any (n : Int) (w : World) : Calls Tryd.prog 36 #[.int .i64 n] w fun e w' => e = .returned (.bool (inB n 1 8)) ∧ w = w' := by
  go_enter Tryd.func36, Tryd.ntmps36
  go_wp2_with (first | (go_at_call 51; refine (within_any _ _ _ _).mono ?_; rintro e w' ⟨rfl, rfl⟩))
  go_ret
  exact ⟨rfl, rfl⟩
/-- a letter, or an inverse one, of n strands -/
def isL (x n : Int) : Bool := decide (x ≠ 0 ∧ 1 - n ≤ x ∧ x ≤ n - 1)
set_option maxHeartbeats 400000 in
theorem isLetter_any (x n : Int) (w : World) (h1 : 1 ≤ n) (h2 : n ≤ 8) : Calls Tryd.prog 37 #[.int .i64 x, .int .i64 n] w fun e w' => e = .returned (.bool (isL x n)) ∧ w = w' := by
  by_cases h0 : x = 0
  · subst h0
    go_enter Tryd.func37, Tryd.ntmps37
    go_wp2_with (first | (go_at_call 51; refine (within_any _ _ _ _).mono ?_; rintro e w' ⟨rfl, rfl⟩))
    go_ret
    exact ⟨by simp [isL], rfl⟩
  · go_enter Tryd.func37, Tryd.ntmps37
    go_wp2_with (first | (go_at_call 51; refine (within_any _ _ _ _).mono ?_; rintro e w' ⟨rfl, rfl⟩))
    go_ret
    exact ⟨by simp [isL, inB, h0], rfl⟩
/-- a braid -/
def okW (n : Int) (xs : List Int) : Bool := inB n 1 8 && decide (xs.length ≤ 200 ∧ ∀ i, i < xs.length → isL (nth xs i) n = true)
theorem okW_out {n xs} (h : inB n 1 8 = false) : okW n xs = false := by simp [okW, h]
theorem okW_long {n} {xs : List Int} (h : ¬ xs.length ≤ 200) : okW n xs = false := by simp [okW, h]
theorem okW_bad {n} {xs : List Int} {k : Nat} (hk : k < xs.length) (h : isL (nth xs k) n = false) : okW n xs = false := by
  simp only [okW, Bool.and_eq_false_iff, decide_eq_false_iff_not]
  right
  rintro ⟨_, h2⟩
  rw [h2 k hk] at h; cases h
theorem okW_good {n xs} (h1 : inB n 1 8 = true) (h2 : xs.length ≤ 200) (h3 : ∀ i, i < xs.length → isL (nth xs i) n = true) : okW n xs = true := by
  simp only [okW, h1, Bool.true_and, decide_eq_true_eq]
  exact ⟨h2, h3⟩
theorem okW_true {n xs} (h : okW n xs = true) : ∃ m : Nat, n = m ∧ 1 ≤ m ∧ m ≤ 8 ∧ xs.length ≤ 200 ∧ ∀ i, i < xs.length → isL (nth xs i) n = true := by
  simp only [okW, Bool.and_eq_true, decide_eq_true_eq] at h
  have := inB_true h.1
  exact ⟨n.toNat, by omega, by omega, by omega, h.2.1, h.2.2⟩
set_option maxHeartbeats 400000 in
theorem impl_IsBraid (n : Int) (v : Value) (xs : List Int) (w : World) (h : reads w v xs) (hlen : xs.length ≤ 1000000000) (hfit : Fits xs) : Calls Tryd.prog 24 #[.agg #[.int .i64 n, v]] w fun e w' => e = .returned (.bool (okW n xs)) ∧ Below w.heap.size w w' := by
  obtain ⟨a, c, rfl, h⟩ := h
  have Hr := Lib.hid (show 0 < xs.length → ∃ b o, a = some ⟨b, o, none⟩ ∧ b < w.heap.size ∧ ∀ i, i < xs.length → w.cell? ⟨b, o + i, none⟩ = some (.int .i64 (nth xs i)) from fun hp => by
    rcases h with h | ⟨b, o, rfl, m⟩
    · rw [h] at hp; cases hp
    · exact ⟨b, o, rfl, World.block_lt_of_cell? w _ (m 0 hp), m⟩)
  clear h
  cases hb : inB n 1 8 with
  | false =>
    have HO := Lib.hid (okW_out (xs := xs) hb)
    go_enter Tryd.func24, Tryd.ntmps24
    go_wp2_with (first | (go_at_call 36; refine (isCount_any _ _).mono ?_; rintro e w' ⟨rfl, rfl⟩))
    go_ret
    exact ⟨by rw [HO.out]; rfl, by (repeat (first | (with_reducible exact Below.refl _ _) | (with_reducible assumption) | (with_reducible refine below_plus' ?_ ?_; ((try simp only [plus_size, World.size_alloc, World.size_drew, World.size_setCell, size_setRow, World.heap_drewN, List.length_append]) <;> omega)) | (with_reducible refine below_alloc' ?_ ?_; ((try simp only [plus_size, World.size_alloc, World.size_drew, World.size_setCell, size_setRow, World.heap_drewN, List.length_append]) <;> omega)) | with_reducible refine Below.drew ?_ | (with_reducible refine below_drewN' ?_ _) | exact Below.refl _ _))⟩
  | true =>
    have h1 := (inB_true hb).1
    have h2 := (inB_true hb).2
    by_cases hl : xs.length ≤ 200
    · go_enter Tryd.func24, Tryd.ntmps24
      go_wp2_with (first | (go_at_call 36; refine (isCount_any _ _).mono ?_; rintro e w' ⟨rfl, rfl⟩))
      have Hb := Lib.hid hb
      clear hb
      go_loop [18] (fun sl => ∃ k : Nat, k ≤ xs.length ∧ sl = .int .i64 k ∧ Hid (∀ i, i < k → isL (nth xs i) n = true)) (fun sl => xs.length - (intOf sl).toNat)
      case atStart => exact ⟨0, by omega, rfl, Lib.hid (fun i hi => by omega)⟩
      case round =>
        obtain ⟨k, hk, rfl, Hl⟩ := hrel
        by_cases hlt : k < xs.length
        · obtain ⟨b, o, rfl, hbk, mm⟩ := Hr.out (by omega)
          have g1 := mm k hlt
          clear mm Hr
          cases hin : isL (nth xs k) n with
          | false =>
            have HO := Lib.hid (okW_bad hlt hin)
            go_wp2_with (first | (go_at_call 37; refine (isLetter_any _ _ _ h1 h2).mono ?_; rintro e w' ⟨rfl, rfl⟩))
            go_ret
            exact ⟨by rw [HO.out]; rfl, by (repeat (first | (with_reducible exact Below.refl _ _) | (with_reducible assumption) | (with_reducible refine below_plus' ?_ ?_; ((try simp only [plus_size, World.size_alloc, World.size_drew, World.size_setCell, size_setRow, World.heap_drewN, List.length_append]) <;> omega)) | (with_reducible refine below_alloc' ?_ ?_; ((try simp only [plus_size, World.size_alloc, World.size_drew, World.size_setCell, size_setRow, World.heap_drewN, List.length_append]) <;> omega)) | with_reducible refine Below.drew ?_ | (with_reducible refine below_drewN' ?_ _) | exact Below.refl _ _))⟩
          | true =>
            have HI := Lib.hid hin
            go_wp2_with (first | (go_at_call 37; refine (isLetter_any _ _ _ h1 h2).mono ?_; rintro e w' ⟨rfl, rfl⟩))
            go_round
            case rel => exact ⟨k + 1, by omega, by go_num, Lib.hid (fun i hi => by by_cases e : i = k; (· rw [e]; exact HI.out); (· exact Hl.out i (by omega)))⟩
            case measure => simp [intOf]; omega
        · obtain rfl : k = xs.length := by omega
          have HO := Lib.hid (okW_good Hb.out hl Hl.out)
          go_wp2
          go_ret
          exact ⟨by rw [HO.out]; rfl, by (repeat (first | (with_reducible exact Below.refl _ _) | (with_reducible assumption) | (with_reducible refine below_plus' ?_ ?_; ((try simp only [plus_size, World.size_alloc, World.size_drew, World.size_setCell, size_setRow, World.heap_drewN, List.length_append]) <;> omega)) | (with_reducible refine below_alloc' ?_ ?_; ((try simp only [plus_size, World.size_alloc, World.size_drew, World.size_setCell, size_setRow, World.heap_drewN, List.length_append]) <;> omega)) | with_reducible refine Below.drew ?_ | (with_reducible refine below_drewN' ?_ _) | exact Below.refl _ _))⟩
    · have HO := Lib.hid (okW_long (n := n) hl)
      go_enter Tryd.func24, Tryd.ntmps24
      go_wp2_with (first | (go_at_call 36; refine (isCount_any _ _).mono ?_; rintro e w' ⟨rfl, rfl⟩))
      go_ret
      exact ⟨by rw [HO.out]; rfl, by (repeat (first | (with_reducible exact Below.refl _ _) | (with_reducible assumption) | (with_reducible refine below_plus' ?_ ?_; ((try simp only [plus_size, World.size_alloc, World.size_drew, World.size_setCell, size_setRow, World.heap_drewN, List.length_append]) <;> omega)) | (with_reducible refine below_alloc' ?_ ?_; ((try simp only [plus_size, World.size_alloc, World.size_drew, World.size_setCell, size_setRow, World.heap_drewN, List.length_append]) <;> omega)) | with_reducible refine Below.drew ?_ | (with_reducible refine below_drewN' ?_ _) | exact Below.refl _ _))⟩
end Go.Proofs.YtfghanmcmjgonaaDoor
