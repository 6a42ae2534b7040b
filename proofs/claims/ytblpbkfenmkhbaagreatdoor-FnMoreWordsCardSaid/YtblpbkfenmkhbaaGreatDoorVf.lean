/- Strands of a braid, by the reference. Conditions: as each theorem says. -/
import Derived.Test.YtblpbkfenmkhbaaGreatDoorVd
import Derived.Test.YtblpbkfenmkhbaaGreatDoorP6
namespace Go.Proofs.YtblpbkfenmkhbaaGreatDoor
open Go.RowKit
set_option linter.unusedSimpArgs false
set_option linter.unusedVariables false
theorem info73 : (Tryz.prog.info? 73).map (·.size) = some 8 := by kernel_rfl
/-- the letters' sizes -/
def absL (xs : List Int) : List Int := xs.map fun x => (x.natAbs : Int)
theorem absL_length (xs : List Int) : (absL xs).length = xs.length := by simp [absL]
theorem nth_absL {xs : List Int} {k : Nat} (h : k < xs.length) : nth (absL xs) k = ((nth xs k).natAbs : Int) := by simp [nth, absL, h]
theorem okW_let {n : Int} {xs : List Int} (h : okW n xs = true) : LetK n.toNat (absL xs) xs.length := by
  obtain ⟨m, rfl, h1, h8, _, h2⟩ := okW_true h
  intro j hj
  rw [nth_absL hj]
  have := h2 j hj
  simp only [isL, decide_eq_true_eq] at this
  omega
/-- a letter: its size, and its sign -/
theorem letter_cases {m : Nat} {xs : List Int} {k : Nat} (hl : LetK m (absL xs) xs.length) (hk : k < xs.length) : ∃ p : Nat, p + 1 < m ∧ (nth xs k = (p : Int) + 1 ∨ nth xs k = -((p : Int) + 1)) ∧ ∀ j, seqK m (absL xs) (k + 1) j = swapK (seqK m (absL xs) k) (p + 1) j := by
  have h := hl k hk
  rw [nth_absL hk] at h
  refine ⟨(nth xs k).natAbs - 1, by omega, by omega, fun j => ?_⟩
  show swapK (seqK m (absL xs) k) (nth (absL xs) k).toNat j = _
  rw [nth_absL hk]
  congr 1
  omega
theorem swap_steps (c : Nat → Nat) (p : Nat) : updN (updN c (p + 1) (c p)) p (c (p + 1)) = swapK c (p + 1) := by
  funext j
  simp only [swapK_at, updN, Nat.add_sub_cancel]
  by_cases h1 : j = p
  · subst h1
    have : ¬ j = j + 1 := by omega
    simp [this]
  · simp [h1]
set_option maxHeartbeats 1000000 in
theorem l01Strands_any (m : Nat) (v : Value) (xs : List Int) (w : World) (h : reads w v xs) (h1 : 1 ≤ m) (h2 : m ≤ 8) (hlen : xs.length ≤ 200) (hlet : LetK m (absL xs) xs.length) : Calls Tryz.prog 75 #[.int .i64 m, v] w fun e w' => e = .returned (.agg (arrF .u8 8 (up (seqK m (absL xs) xs.length)))) ∧ Below w.heap.size w w' := by
  obtain ⟨a, c, rfl, h⟩ := h
  have Hr := Lib.hid (show 0 < xs.length → ∃ b o, a = some ⟨b, o, none⟩ ∧ b < w.heap.size ∧ ∀ i, i < xs.length → w.cell? ⟨b, o + i, none⟩ = some (.int .i64 (nth xs i)) from fun hp => by
    rcases h with h | ⟨b, o, rfl, m⟩
    · rw [h] at hp; cases hp
    · exact ⟨b, o, rfl, World.block_lt_of_cell? w _ (m 0 hp), m⟩)
  clear h
  have Hlet := Lib.hid hlet
  have hm8 : ∀ k, k ≤ xs.length → ∀ i, i < m → seqK m (absL xs) k i < 8 := fun k hk i hi => Nat.lt_of_lt_of_le ((seq_perm k (hlet.le hk)).lt i hi) h2
  have Hm8 := Lib.hid hm8
  clear hlet hm8
  go_enter Tryz.func75, Tryz.ntmps75
  go_wp2_with (first | ((with_reducible apply wpList_store_arr rfl rfl 73 _ _ rfl _ rfl _ rfl 8 info73); (repeat (first | (refine heap_at _ _ _ ?_; ((try simp only [plus_size, World.size_alloc, World.size_drew, World.size_setCell, size_setRow, World.heap_drewN, List.length_append]) <;> omega)) | (refine heap_past' ?_ ?_; ((try simp only [plus_size, World.size_alloc, World.size_drew, World.size_setCell, size_setRow, World.heap_drewN, List.length_append]) <;> omega)) | (refine heap_plus' ?_ ?_; ((try simp only [plus_size, World.size_alloc, World.size_drew, World.size_setCell, size_setRow, World.heap_drewN, List.length_append]) <;> omega)) | assumption)); (simp only [arrF_size, arrO_size]); (simp only [arrF_size, arrO_size]); (first | exact arrF_one _ _ _ | exact arrO_one _ _); (repeat (first | (refine setRow_at' ?_; ((try simp only [plus_size, World.size_alloc, World.size_drew, World.size_setCell, size_setRow, World.heap_drewN, List.length_append]) <;> omega)) | (apply setRow_past'; ((try simp only [plus_size, World.size_alloc, World.size_drew, World.size_setCell, size_setRow, World.heap_drewN, List.length_append]) <;> omega)) | (apply setRow_plus'; ((try simp only [plus_size, World.size_alloc, World.size_drew, World.size_setCell, size_setRow, World.heap_drewN, List.length_append]) <;> omega)) | exact rfl))))
  go_loopw [6] (fun sl wr => ∃ k : Nat, k ≤ m ∧ sl = .int .i64 k ∧ wr = ((w.alloc (.cells (arrF .u8 8 (up zeroN)) 73)).alloc (.cells (arrF .u8 8 (up (idK k))) 73))) (fun sl _ => m - (intOf sl).toNat)
  case atStart => exact ⟨0, by omega, rfl, by rw [idK_zero]⟩
  case round =>
    obtain ⟨k, hk, rfl, rfl⟩ := hrel
    by_cases hlt : k < m
    · have hk8 : k < 8 := by omega
      go_wp2
      go_roundw
      case rel => exact ⟨k + 1, by omega, by go_num, by rw [idK_succ]⟩
      case measure => simp [intOf]; omega
    · obtain rfl : m = k := by omega
      go_wp2
      go_loopw [7] (fun sl wr => ∃ (k d : Nat), k ≤ xs.length ∧ sl = .int .i64 k ∧ wr = plus ((w.alloc (.cells (arrF .u8 8 (up zeroN)) 73)).alloc (.cells (arrF .u8 8 (up (seqK m (absL xs) k))) 73)) [] d) (fun sl _ => xs.length - (intOf sl).toNat)
      case atStart => exact ⟨0, w.drawn, by omega, rfl, (plus_nil _).symm⟩
      case round =>
        obtain ⟨k, d, hk, rfl, rfl⟩ := hrel
        by_cases hlt : k < xs.length
        · obtain ⟨b, o, rfl, hbk, mm⟩ := Hr.out (by omega)
          have g1 := mm k hlt
          obtain ⟨p, hp, hx, hs⟩ := letter_cases Hlet.out hlt
          have HS := Lib.hid (show swapK (seqK m (absL xs) k) (p + 1) = seqK m (absL xs) (k + 1) from (funext hs).symm)
          have hb1 : b < w.heap.size + 1 := by omega
          have hb2 : b < w.heap.size + 1 + 1 := by omega
          have hp8 : p < 8 := by omega
          have hp9 : p + 1 < 8 := by omega
          have hc0 : seqK m (absL xs) k p < 256 := Nat.lt_trans (Hm8.out k (by omega) p (by omega)) (by decide)
          have hc1 : seqK m (absL xs) k (p + 1) < 256 := Nat.lt_trans (Hm8.out k (by omega) (p + 1) (by omega)) (by decide)
          clear mm Hr hs
          rcases hx with hx | hx
          · rw [hx] at g1
            clear hx
            go_wp2
            go_quiet (fail)
            go_wp2
            go_roundw
            case rel => exact ⟨k + 1, _, by omega, by go_num, by rw [← HS.out, ← swap_steps]⟩
            case measure => simp [intOf]; omega
          · rw [hx] at g1
            clear hx
            go_wp2
            go_quiet (fail)
            go_wp2
            go_roundw
            case rel => exact ⟨k + 1, _, by omega, by go_num, by rw [← HS.out, ← swap_steps]⟩
            case measure => simp [intOf]; omega
        · obtain rfl : k = xs.length := by omega
          go_wp2_with (first | ((with_reducible apply wpList_load_arr rfl 73 _ rfl _ rfl 8 5 Tryz.underlying73 info73); (repeat (first | (refine heap_at _ _ _ ?_; ((try simp only [plus_size, World.size_alloc, World.size_drew, World.size_setCell, size_setRow, World.heap_drewN, List.length_append]) <;> omega)) | (refine heap_past' ?_ ?_; ((try simp only [plus_size, World.size_alloc, World.size_drew, World.size_setCell, size_setRow, World.heap_drewN, List.length_append]) <;> omega)) | (refine heap_plus' ?_ ?_; ((try simp only [plus_size, World.size_alloc, World.size_drew, World.size_setCell, size_setRow, World.heap_drewN, List.length_append]) <;> omega)) | assumption)); (simp only [arrF_size, arrO_size]))
                                        | ((with_reducible apply wpList_store_arr rfl rfl 73 _ _ rfl _ rfl _ rfl 8 info73); (repeat (first | (refine heap_at _ _ _ ?_; ((try simp only [plus_size, World.size_alloc, World.size_drew, World.size_setCell, size_setRow, World.heap_drewN, List.length_append]) <;> omega)) | (refine heap_past' ?_ ?_; ((try simp only [plus_size, World.size_alloc, World.size_drew, World.size_setCell, size_setRow, World.heap_drewN, List.length_append]) <;> omega)) | (refine heap_plus' ?_ ?_; ((try simp only [plus_size, World.size_alloc, World.size_drew, World.size_setCell, size_setRow, World.heap_drewN, List.length_append]) <;> omega)) | assumption)); (simp only [arrF_size, arrO_size]); (simp only [arrF_size, arrO_size]); (first | exact arrF_one _ _ _ | exact arrO_one _ _); (repeat (first | (refine setRow_at' ?_; ((try simp only [plus_size, World.size_alloc, World.size_drew, World.size_setCell, size_setRow, World.heap_drewN, List.length_append]) <;> omega)) | (apply setRow_past'; ((try simp only [plus_size, World.size_alloc, World.size_drew, World.size_setCell, size_setRow, World.heap_drewN, List.length_append]) <;> omega)) | (apply setRow_plus'; ((try simp only [plus_size, World.size_alloc, World.size_drew, World.size_setCell, size_setRow, World.heap_drewN, List.length_append]) <;> omega)) | exact rfl))))
          exact ret_arr rfl 8 5 Tryz.underlying73 info73 _ _ _ (0, 0) rfl (by (repeat (first | (refine heap_at _ _ _ ?_; ((try simp only [plus_size, World.size_alloc, World.size_drew, World.size_setCell, size_setRow, World.heap_drewN, List.length_append]) <;> omega)) | (refine heap_past' ?_ ?_; ((try simp only [plus_size, World.size_alloc, World.size_drew, World.size_setCell, size_setRow, World.heap_drewN, List.length_append]) <;> omega)) | (refine heap_plus' ?_ ?_; ((try simp only [plus_size, World.size_alloc, World.size_drew, World.size_setCell, size_setRow, World.heap_drewN, List.length_append]) <;> omega)) | assumption))) (by simp [arrF_size]) rfl ⟨rfl, by (repeat (first | (with_reducible exact Below.refl _ _) | (with_reducible assumption) | (with_reducible refine below_plus' ?_ ?_; ((try simp only [plus_size, World.size_alloc, World.size_drew, World.size_setCell, size_setRow, World.heap_drewN, List.length_append]) <;> omega)) | (with_reducible refine below_alloc' ?_ ?_; ((try simp only [plus_size, World.size_alloc, World.size_drew, World.size_setCell, size_setRow, World.heap_drewN, List.length_append]) <;> omega)) | with_reducible refine Below.drew ?_ | exact Below.refl _ _))⟩
end Go.Proofs.YtblpbkfenmkhbaaGreatDoor
