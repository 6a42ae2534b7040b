/- The coefficient of a polynomial at a power. Conditions: as each theorem says. -/
import Derived.Test.YtcipdgmimmngoaaZ9
namespace Go.Proofs.Ytcipdgmimmngoaa
open Go.RowKit
set_option linter.unusedSimpArgs false
set_option linter.unusedVariables false
open Go.RowKit
/-- the coefficient of a polynomial at a power -/
def atP (low : Int) (xs : List Int) (k : Int) : Int := if low ≤ k ∧ k < low + xs.length then nth xs (k - low).toNat else 0
theorem atP_out {low : Int} {xs : List Int} {k : Int} (h : inB k low (low + xs.length - 1) = false) : atP low xs k = 0 := by
  unfold atP
  rw [if_neg]
  intro ⟨h1, h2⟩
  have : inB k low (low + xs.length - 1) = true := by simp [inB]; omega
  rw [h] at this; cases this
theorem atP_in {low : Int} {xs : List Int} {i : Nat} (h : i < xs.length) : atP low xs (low + i) = nth xs i := by
  unfold atP
  rw [if_pos (by omega), show (low + i - low).toNat = i by omega]
theorem arr_zero : arrF .u64 4 zeroF = arrF .u64 4 (wrd 0) := arrF_ext fun i _ => (wrd_zero i).symm
set_option maxHeartbeats 1000000 in
theorem at_any (low : Int) (v : Value) (xs : List Int) (k : Int) (w : World) (h : readsW w v xs) (hlen : xs.length ≤ 100000) (hl1 : -100000 ≤ low) (hl2 : low ≤ 100000) (hk1 : -1000000 ≤ k) (hk2 : k ≤ 1000000) : Calls Try.prog 54 #[.agg #[.int .i64 low, v], .int .i64 k] w fun e w' => e = .returned (.agg (arrF .u64 4 (wrd (atP low xs k)))) ∧ Below w.heap.size w w' := by
  obtain ⟨a, c, rfl, hr⟩ := h
  cases hin : inB k low (low + xs.length - 1) with
  | false =>
    rw [atP_out hin, ← arr_zero]
    clear hr
    go_enter Try.func54, Try.ntmps54
    go_wp2_with (first | (go_at_call 44; refine (within_any _ _ _ _).mono ?_; rw [hin]; rintro e w' ⟨rfl, rfl⟩) | ((with_reducible apply wpList_store_arr rfl rfl 68 _ _ rfl _ rfl _ rfl 4 info68); (repeat (first | (refine heap_at _ _ _ ?_; ((try simp only [plus_size, World.size_alloc, World.size_drew, World.size_setCell, size_setRow, World.heap_drewN, List.length_append]) <;> omega)) | (refine heap_past' ?_ ?_; ((try simp only [plus_size, World.size_alloc, World.size_drew, World.size_setCell, size_setRow, World.heap_drewN, List.length_append]) <;> omega)) | (refine heap_plus' ?_ ?_; ((try simp only [plus_size, World.size_alloc, World.size_drew, World.size_setCell, size_setRow, World.heap_drewN, List.length_append]) <;> omega)) | assumption)); (simp only [arrF_size, arrO_size]); (simp only [arrF_size, arrO_size]); (first | exact arrF_one _ _ _ | exact arrO_one _ _); (repeat (first | (refine setRow_at' ?_; ((try simp only [plus_size, World.size_alloc, World.size_drew, World.size_setCell, size_setRow, World.heap_drewN, List.length_append]) <;> omega)) | (apply setRow_past'; ((try simp only [plus_size, World.size_alloc, World.size_drew, World.size_setCell, size_setRow, World.heap_drewN, List.length_append]) <;> omega)) | (apply setRow_plus'; ((try simp only [plus_size, World.size_alloc, World.size_drew, World.size_setCell, size_setRow, World.heap_drewN, List.length_append]) <;> omega)) | exact rfl))))
    exact ret_arr rfl 4 66 Try.underlying68 info68 _ _ _ (0, 0) rfl (by (repeat (first | (refine heap_at _ _ _ ?_; ((try simp only [plus_size, World.size_alloc, World.size_drew, World.size_setCell, size_setRow, World.heap_drewN, List.length_append]) <;> omega)) | (refine heap_past' ?_ ?_; ((try simp only [plus_size, World.size_alloc, World.size_drew, World.size_setCell, size_setRow, World.heap_drewN, List.length_append]) <;> omega)) | (refine heap_plus' ?_ ?_; ((try simp only [plus_size, World.size_alloc, World.size_drew, World.size_setCell, size_setRow, World.heap_drewN, List.length_append]) <;> omega)) | assumption))) (by simp [arrF_size]) rfl ⟨rfl, by (repeat (first | (with_reducible exact Below.refl _ _) | (with_reducible assumption) | (with_reducible refine below_plus' ?_ ?_; ((try simp only [plus_size, World.size_alloc, World.size_drew, World.size_setCell, size_setRow, World.heap_drewN, List.length_append]) <;> omega)) | (with_reducible refine below_alloc' ?_ ?_; ((try simp only [plus_size, World.size_alloc, World.size_drew, World.size_setCell, size_setRow, World.heap_drewN, List.length_append]) <;> omega)) | with_reducible refine Below.drew ?_ | (with_reducible refine below_drewN' ?_ _) | exact Below.refl _ _))⟩
  | true =>
    have hb := inB_true hin
    obtain ⟨i, rfl⟩ : ∃ i : Nat, k = low + i := ⟨(k - low).toNat, by omega⟩
    have hi : i < xs.length := by omega
    obtain ⟨b, q, rfl, mm⟩ := hr.resolve_left (fun e => by rw [e] at hi; simp at hi)
    have hbk : b < w.heap.size := World.block_lt_of_cell? w _ (mm i hi 0 (by decide))
    have c0 := mm i hi 0 (by decide)
    have c1 := mm i hi 1 (by decide)
    have c2 := mm i hi 2 (by decide)
    have c3 := mm i hi 3 (by decide)
    rw [Nat.add_zero] at c0
    rw [Nat.mul_comm] at c0 c1 c2 c3
    rw [atP_in hi]
    have hs : low + (i : Int) - low = i := by omega
    clear mm hr hin
    have hin : inB (low + i) low (low + xs.length - 1) = true := by simp [inB]; omega
    go_enter Try.func54, Try.ntmps54
    go_wp2_with (first | (go_at_call 44; refine (within_any _ _ _ _).mono ?_; rw [hin]; rintro e w' ⟨rfl, rfl⟩) | ((with_reducible apply wpList_store_arr rfl rfl 68 _ _ rfl _ rfl _ rfl 4 info68); (repeat (first | (refine heap_at _ _ _ ?_; ((try simp only [plus_size, World.size_alloc, World.size_drew, World.size_setCell, size_setRow, World.heap_drewN, List.length_append]) <;> omega)) | (refine heap_past' ?_ ?_; ((try simp only [plus_size, World.size_alloc, World.size_drew, World.size_setCell, size_setRow, World.heap_drewN, List.length_append]) <;> omega)) | (refine heap_plus' ?_ ?_; ((try simp only [plus_size, World.size_alloc, World.size_drew, World.size_setCell, size_setRow, World.heap_drewN, List.length_append]) <;> omega)) | assumption)); (simp only [arrF_size, arrO_size]); (simp only [arrF_size, arrO_size]); (first | exact arrF_one _ _ _ | exact arrO_one _ _); (repeat (first | (refine setRow_at' ?_; ((try simp only [plus_size, World.size_alloc, World.size_drew, World.size_setCell, size_setRow, World.heap_drewN, List.length_append]) <;> omega)) | (apply setRow_past'; ((try simp only [plus_size, World.size_alloc, World.size_drew, World.size_setCell, size_setRow, World.heap_drewN, List.length_append]) <;> omega)) | (apply setRow_plus'; ((try simp only [plus_size, World.size_alloc, World.size_drew, World.size_setCell, size_setRow, World.heap_drewN, List.length_append]) <;> omega)) | exact rfl))))
    exact ret_arr rfl 4 66 Try.underlying68 info68 _ _ _ (0, 0) rfl (by (repeat (first | (refine heap_at _ _ _ ?_; ((try simp only [plus_size, World.size_alloc, World.size_drew, World.size_setCell, size_setRow, World.heap_drewN, List.length_append]) <;> omega)) | (refine heap_past' ?_ ?_; ((try simp only [plus_size, World.size_alloc, World.size_drew, World.size_setCell, size_setRow, World.heap_drewN, List.length_append]) <;> omega)) | (refine heap_plus' ?_ ?_; ((try simp only [plus_size, World.size_alloc, World.size_drew, World.size_setCell, size_setRow, World.heap_drewN, List.length_append]) <;> omega)) | assumption))) (by simp [arrF_size]) rfl ⟨rfl, by (repeat (first | (with_reducible exact Below.refl _ _) | (with_reducible assumption) | (with_reducible refine below_plus' ?_ ?_; ((try simp only [plus_size, World.size_alloc, World.size_drew, World.size_setCell, size_setRow, World.heap_drewN, List.length_append]) <;> omega)) | (with_reducible refine below_alloc' ?_ ?_; ((try simp only [plus_size, World.size_alloc, World.size_drew, World.size_setCell, size_setRow, World.heap_drewN, List.length_append]) <;> omega)) | with_reducible refine Below.drew ?_ | (with_reducible refine below_drewN' ?_ _) | exact Below.refl _ _))⟩
end Go.Proofs.Ytcipdgmimmngoaa
