/- Braids as words: what lies at the ground. Conditions: as each theorem says. -/
import Derived.Test.YtcipdgmimmngoaaP2
import Derived.Test.YtcipdgmimmngoaaS6
import Derived.Test.YtcipdgmimmngoaaI2
import Derived.Test.YtcipdgmimmngoaaReg
import Derived.Test.YtcipdgmimmngoaaGi
import Derived.Test.YtcipdgmimmngoaaProg
import Derived.KernelRfl
namespace Go.Proofs.Ytcipdgmimmngoaa
open Go.RowKit
set_option linter.unusedSimpArgs false
set_option linter.unusedVariables false
theorem infoI : (Try.prog.info? 2).map (fun i => (i.zero, i.size, i.bytes)) = some (some (.int .i64 0), 1, 8) := by kernel_rfl
theorem within_any (n lo hi : Int) (w : World) : Calls Try.prog 44 #[.int .i64 n, .int .i64 lo, .int .i64 hi] w fun e w' => e = .returned (.bool (inB n lo hi)) ∧ w = w' := by
  go_enter Try.func44, Try.ntmps44
  go_wp2
  all_goals go_ret
  · exact ⟨by simp [inB]; omega, rfl⟩
  · exact ⟨by simp [inB]; omega, rfl⟩
theorem l01In_any (n lo hi : Int) (w : World) : Calls Try.prog 52 #[.int .i64 n, .int .i64 lo, .int .i64 hi] w fun e w' => e = .returned (.bool (inB n lo hi)) ∧ w = w' := by
  go_enter Try.func52, Try.ntmps52
  go_wp2
  all_goals go_ret
  · exact ⟨by simp [inB]; omega, rfl⟩
  · exact ⟨by simp [inB]; omega, rfl⟩
set_option maxHeartbeats 400000 in
theorem toInts_any (v : Value) (xs : List Int) (w : World) (h : reads w v xs) (hlen : xs.length ≤ 1000000000) : Calls Try.prog 30 #[v] w (RetInts 2 w xs) := by
  obtain ⟨a, c, rfl, h⟩ := h
  have Hset := Lib.hid (fun i => copied_set (xs := xs) (i := i))
  have Hz := Lib.hid (copied_zero xs)
  have Hl := Lib.hid (copied_length xs)
  have Ha := Lib.hid (copied_all xs)
  have Hr := Lib.hid (show 0 < xs.length → ∃ b o, a = some ⟨b, o, none⟩ ∧ b < w.heap.size ∧ ∀ i, i < xs.length → w.cell? ⟨b, o + i, none⟩ = some (.int .i64 (nth xs i)) from fun hp => by
    rcases h with h | ⟨b, o, rfl, m⟩
    · rw [h] at hp; cases hp
    · exact ⟨b, o, rfl, World.block_lt_of_cell? w _ (m 0 hp), m⟩)
  clear h
  obtain ⟨n, hn⟩ : ∃ n, n = xs.length := ⟨_, rfl⟩
  rw [← hn] at hlen Hset Hz Hl Ha Hr ⊢
  clear hn
  go_enter Try.func30, Try.ntmps30
  go_wp2_with (first | (at_make; refine wpList_make_ints _ rfl _ _ 22 rfl 2 Try.underlying22 infoI n rfl rfl hlen ?_; intro w' ho hB))
  go_loopw [4] (fun sl wr => ∃ k : Nat, k ≤ n ∧ sl = .int .i64 k ∧ own 2 wr w.heap.size (.slice (some ⟨w.heap.size, 0, none⟩) n n) (copied xs k) ∧ Below w.heap.size w wr) (fun sl _ => n - (intOf sl).toNat)
  case atStart => exact ⟨0, by omega, rfl, by rw [Hz.out]; exact ho, hB⟩
  case round =>
    clear ho hB
    obtain ⟨k, hk, rfl, ho, hB⟩ := hrel
    by_cases hlt : k < n
    · obtain ⟨b, o, rfl, hb, m⟩ := Hr.out (by omega)
      have g1 : wr.cell? ⟨b, o + k, none⟩ = some (.int .i64 (nth xs k)) := by rw [hB.cell (p := ⟨b, o + k, none⟩) hb]; exact m k hlt
      have g2 := ho.free k
      have g0 := ho.cell (i := k) (by rw [Hl.out]; exact hlt)
      have g3 := ho.set k (nth xs k)
      rw [Hset.out k hlt] at g3
      have G3 := Lib.hid g3
      have G4 := Lib.hid (hB.setCell (p := ⟨w.heap.size, k, none⟩) (Nat.le_refl _) (.int .i64 (nth xs k)))
      clear g3 ho hB m Hr
      go_wp2
      go_roundw
      case rel => exact ⟨k + 1, by omega, by go_num, G3.out, G4.out⟩
      case measure => simp [intOf]; omega
    · obtain rfl : k = n := by omega
      have Ho := Lib.hid ho
      have HB := Lib.hid hB
      clear ho hB
      go_wp2
      go_ret
      exact ⟨_, rfl, HB.out, by rw [← Ha.out]; exact Ho.out⟩
/-- a letter, or an inverse one, of n strands -/
def isL (x n : Int) : Bool := decide (x ≠ 0 ∧ 1 - n ≤ x ∧ x ≤ n - 1)
/-- a braid -/
def okW (n : Int) (xs : List Int) : Bool := inB n 1 8 && decide (xs.length ≤ 200 ∧ ∀ i, i < xs.length → isL (nth xs i) n = true)
theorem okW_out {n xs} (h : inB n 1 8 = false) : okW n xs = false := by simp [okW, h]
theorem okW_long {n} {xs : List Int} (h : ¬ xs.length ≤ 200) : okW n xs = false := by simp [okW, h]
theorem okW_bad {n} {xs : List Int} {k : Nat} (hk : k < xs.length) (h : isL (nth xs k) n = false) : okW n xs = false := by
  simp only [okW, Bool.and_eq_false_iff, decide_eq_false_iff_not]
  right
  rintro ⟨_, h2⟩
  rw [h2 k hk] at h; cases h
theorem okW_good {n xs} (h1 : inB n 1 8 = true) (h2 : xs.length ≤ 200) (h3 : ∀ i, i < xs.length → isL (nth xs i) n = true) : okW n xs = true := by
  simp only [okW, h1, Bool.true_and, decide_eq_true_eq]
  exact ⟨h2, h3⟩
theorem okW_true {n xs} (h : okW n xs = true) : ∃ m : Nat, n = m ∧ 1 ≤ m ∧ m ≤ 8 ∧ xs.length ≤ 200 ∧ ∀ i, i < xs.length → isL (nth xs i) n = true := by
  simp only [okW, Bool.and_eq_true, decide_eq_true_eq] at h
  have := inB_true h.1
  exact ⟨n.toNat, by omega, by omega, by omega, h.2.1, h.2.2⟩
end Go.Proofs.Ytcipdgmimmngoaa
