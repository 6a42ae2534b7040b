/- A slice of numbers is copied. Conditions: as each theorem says. -/
import Derived.Test.YtoelchljmaoklaaS7
import Derived.Test.YtoelchljmaoklaaI2
namespace Go.Proofs.Ytoelchljmaoklaa
open Go.RowKit
set_option linter.unusedSimpArgs false
set_option linter.unusedVariables false
set_option maxHeartbeats 400000 in
theorem toInts_any (v : Value) (xs : List Int) (w : World) (h : reads w v xs) (hlen : xs.length ≤ 1000000000) : Calls Try.prog 23 #[v] w (RetInts 2 w xs) := by
  obtain ⟨a, c, rfl, h⟩ := h
  have Hset := Lib.hid (fun i => copied_set (xs := xs) (i := i))
  have Hz := Lib.hid (copied_zero xs)
  have Hl := Lib.hid (copied_length xs)
  have Ha := Lib.hid (copied_all xs)
  have Hr := Lib.hid (show 0 < xs.length → ∃ b o, a = some ⟨b, o, none⟩ ∧ b < w.heap.size ∧ ∀ i, i < xs.length → w.cell? ⟨b, o + i, none⟩ = some (.int .i64 (nth xs i)) from fun hp => by
    rcases h with h | ⟨b, o, rfl, m⟩
    · rw [h] at hp; cases hp
    · exact ⟨b, o, rfl, World.block_lt_of_cell? w _ (m 0 hp), m⟩)
  clear h
  obtain ⟨n, hn⟩ : ∃ n, n = xs.length := ⟨_, rfl⟩
  rw [← hn] at hlen Hset Hz Hl Ha Hr ⊢
  clear hn
  go_enter Try.func23, Try.ntmps23
  go_wp2_with (first | (at_make; refine wpList_make_ints _ rfl _ _ 34 rfl 2 Try.underlying34 infoI n rfl rfl hlen ?_; intro w' ho hB))
  go_loopw [4] (fun sl wr => ∃ k : Nat, k ≤ n ∧ sl = .int .i64 k ∧ own 2 wr w.heap.size (.slice (some ⟨w.heap.size, 0, none⟩) n n) (copied xs k) ∧ Below w.heap.size w wr) (fun sl _ => n - (intOf sl).toNat)
  case atStart => exact ⟨0, by omega, rfl, by rw [Hz.out]; exact ho, hB⟩
  case round =>
    clear ho hB
    obtain ⟨k, hk, rfl, ho, hB⟩ := hrel
    by_cases hlt : k < n
    · obtain ⟨b, o, rfl, hb, m⟩ := Hr.out (by omega)
      have g1 : wr.cell? ⟨b, o + k, none⟩ = some (.int .i64 (nth xs k)) := by rw [hB.cell (p := ⟨b, o + k, none⟩) hb]; exact m k hlt
      have g2 := ho.free k
      have g0 := ho.cell (i := k) (by rw [Hl.out]; exact hlt)
      have g3 := ho.set k (nth xs k)
      rw [Hset.out k hlt] at g3
      have G3 := Lib.hid g3
      have G4 := Lib.hid (hB.setCell (p := ⟨w.heap.size, k, none⟩) (Nat.le_refl _) (.int .i64 (nth xs k)))
      clear g3 ho hB m Hr
      go_wp2
      go_roundw
      case rel => exact ⟨k + 1, by omega, by go_num, G3.out, G4.out⟩
      case measure => simp [intOf]; omega
    · obtain rfl : k = n := by omega
      have Ho := Lib.hid ho
      have HB := Lib.hid hB
      clear ho hB
      go_wp2
      go_ret
      exact ⟨_, rfl, HB.out, by rw [← Ha.out]; exact Ho.out⟩
end Go.Proofs.Ytoelchljmaoklaa
