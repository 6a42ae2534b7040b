/- Half turns. Conditions: as each theorem says. -/
import Derived.Test.YtkmfglocjdjhjaaV5
namespace Go.Proofs.Ytkmfglocjdjhjaa
open Go.RowKit
set_option linter.unusedSimpArgs false
set_option linter.unusedVariables false
/-- i, i + 1, .. (c numbers) -/
def rowR (i : Nat) : Nat → List Int
  | 0 => []
  | c + 1 => (i : Int) :: rowR (i + 1) c
/-- the letters of the half turn of k + 1 strands -/
def halfW : Nat → List Int
  | 0 => []
  | k + 1 => rowR 1 (k + 1) ++ halfW k
theorem rowR_length : ∀ (c i : Nat), (rowR i c).length = c
  | 0, i => rfl
  | c + 1, i => by simp [rowR, rowR_length c]
theorem halfW_le : ∀ k : Nat, k ≤ 7 → (halfW k).length ≤ 7 * k
  | 0, _ => by simp [halfW]
  | k + 1, h => by
    have := halfW_le k (by omega)
    simp only [halfW, List.length_append, rowR_length]
    omega
theorem row_step {l r t : List Int} {i c : Nat} (h : l ++ (rowR i (c + 1) ++ r) = t) : (l ++ [(i : Int)]) ++ (rowR (i + 1) c ++ r) = t := by
  rw [← h]; simp [rowR]
theorem row_end {l r t : List Int} {i : Nat} (h : l ++ (rowR i 0 ++ r) = t) : l ++ r = t := by
  rw [← h]; simp [rowR]
theorem half_step {l t : List Int} {k : Nat} (hk : 0 < k) (h : l ++ halfW k = t) : l ++ (rowR 1 k ++ halfW (k - 1)) = t := by
  obtain ⟨p, rfl⟩ : ∃ p, k = p + 1 := ⟨k - 1, by omega⟩
  exact h
theorem le_of_total {l r t : List Int} {m : Nat} (h : l ++ r = t) (ht : t.length ≤ m) : l.length ≤ m := by
  have := congrArg List.length h
  rw [List.length_append] at this
  omega
set_option maxHeartbeats 1000000 in
theorem l01Half_any (m : Nat) (w : World) (hm : m ≤ 7) : Calls Try.prog 66 #[.int .i64 ((m : Int) + 1)] w (RetInts 2 w (halfW m)) := by
  have hT : (halfW m).length ≤ 49 := by have := halfW_le m hm; omega
  go_enter Try.func66, Try.ntmps66
  go_wp2
  go_loopw [3, 4] (fun vo sk wr => ∃ (v0 : Value) (l : List Int) (k : Nat) (j : List Obj) (d : Nat), v0 = vo ∧ Hid (l ++ halfW k = halfW m) ∧ k ≤ m ∧ sk = .int .i64 k ∧ wr = plus w j d ∧ own 2 (plus w j d) w.heap.size v0 l) (fun _ sk _ => (intOf sk).toNat)
  case atStart => exact ⟨_, [], m, [.cells #[] 2], w.drawn, rfl, Lib.hid rfl, Nat.le_refl _, by go_num, rfl, own_made (Nat.le_refl _) (by decide) rfl⟩
  case round =>
    obtain ⟨v, l, k, j, d, rfl, HLl, hk, rfl, rfl, hown⟩ := hrel
    by_cases hlt : 0 < k
    · have HL0 := Lib.hid (half_step hlt HLl.out)
      have hp1 : ((k - 1 : Nat) : Int) = (k : Int) - 1 := by omega
      clear HLl
      go_wp2
      go_loopw [3, 5] (fun vo si wr => ∃ (v0 : Value) (l : List Int) (i c : Nat) (j : List Obj) (d : Nat), v0 = vo ∧ Hid (l ++ (rowR i c ++ halfW (k - 1)) = halfW m) ∧ i + c = k + 1 ∧ si = .int .i64 i ∧ wr = plus w j d ∧ own 2 (plus w j d) w.heap.size v0 l) (fun _ si _ => k + 1 - (intOf si).toNat)
      case atStart => exact ⟨_, l, 1, k, j, d, rfl, HL0, by omega, rfl, rfl, hown⟩
      case round =>
        clear hown HL0
        obtain ⟨v, l, i, c, j, d, rfl, HLl, hic, rfl, rfl, hown⟩ := hrel
        by_cases hc : 0 < c
        · obtain ⟨c, rfl⟩ : ∃ c', c = c' + 1 := ⟨c - 1, by omega⟩
          have hll : l.length < 1000000000 := by have := le_of_total HLl.out hT; omega
          have HB := Lib.hid (row_step HLl.out)
          have hi1 : (i : Int) ≤ (k : Int) := by omega
          go_wp2_with (first | (at_builtin; go_loud (refine wpList_append1p rfl _ _ 23 rfl Try.underlying23 infoI _ rfl _ rfl ?_ hown ?_ ?_; ((try simp only [plus_size, World.size_alloc, World.size_drew, World.size_setCell, size_setRow, World.heap_drewN, List.length_append]) <;> omega); (omega); intro v' j' d' hown'; clear hown)))
          go_roundw
          case rel => exact ⟨_, _, i + 1, c, _, _, rfl, HB, by omega, by go_num, rfl, hown'⟩
          case measure => simp [intOf]; omega
        · obtain rfl : c = 0 := by omega
          have HB := Lib.hid (row_end HLl.out)
          have hi1 : ¬ (i : Int) ≤ (k : Int) := by omega
          go_wp2
          go_roundw
          case rel => exact ⟨_, _, k - 1, _, _, rfl, HB, by omega, by rw [hp1], rfl, hown⟩
          case measure => simp [intOf]; omega
    · obtain rfl : k = 0 := by omega
      have HE := Lib.hid (show l = halfW m by rw [← HLl.out]; simp [halfW])
      go_wp2
      go_ret
      exact ⟨_, rfl, by (repeat (first | (with_reducible exact Below.refl _ _) | (with_reducible assumption) | (with_reducible refine below_plus' ?_ ?_; ((try simp only [plus_size, World.size_alloc, World.size_drew, World.size_setCell, size_setRow, World.heap_drewN, List.length_append]) <;> omega)) | (with_reducible refine below_alloc' ?_ ?_; ((try simp only [plus_size, World.size_alloc, World.size_drew, World.size_setCell, size_setRow, World.heap_drewN, List.length_append]) <;> omega)) | with_reducible refine Below.drew ?_ | (with_reducible refine below_drewN' ?_ _) | exact Below.refl _ _)), by rw [← HE.out]; exact hown⟩
end Go.Proofs.Ytkmfglocjdjhjaa
