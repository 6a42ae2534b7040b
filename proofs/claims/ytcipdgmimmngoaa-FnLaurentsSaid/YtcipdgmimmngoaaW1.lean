/- Polynomials: what the laws ask. Conditions: as each theorem says. -/
import Derived.Test.YtcipdgmimmngoaaU1
namespace Go.Proofs.Ytcipdgmimmngoaa
open Go.RowKit
set_option linter.unusedSimpArgs false
set_option linter.unusedVariables false
/-- a braid in memory of its own is handed back -/
def RetB (e : TypeId) (w : World) (n : Int) (xs : List Int) : Ending → World → Prop := fun en w' => ∃ v, en = .returned (.agg #[.int .i64 n, v]) ∧ Below w.heap.size w w' ∧ own e w' w.heap.size v xs
/-- .. beside a code -/
def RetB2 (e : TypeId) (w : World) (n : Int) (xs : List Int) (c : Int) : Ending → World → Prop := fun en w' => ∃ v, en = .returned (.tuple #[.agg #[.int .i64 n, v], .int .i64 c]) ∧ Below w.heap.size w w' ∧ own e w' w.heap.size v xs
set_option maxHeartbeats 400000 in
theorem toLaurent_any (n : Int) (v : Value) (xs : List Int) (w : World) (h : reads w v xs) (hlen : xs.length ≤ 1000000000) : Calls Try.prog 8 #[.agg #[.int .i64 n, v]] w (RetB 2 w n xs) := by
  have H := Lib.hid (fun w' (hb : Below w.heap.size w w') => toInts_any v xs w' (h.kept hb) hlen)
  clear h hlen
  go_enter Try.func8, Try.ntmps8
  go_wp2_with (first | (go_at_call 30; refine Calls.mono (H.out _ ?_) ?_; (repeat (first | (with_reducible exact Below.refl _ _) | (with_reducible assumption) | (with_reducible refine below_plus' ?_ ?_; ((try simp only [plus_size, World.size_alloc, World.size_drew, World.size_setCell, size_setRow, World.heap_drewN, List.length_append]) <;> omega)) | (with_reducible refine below_alloc' ?_ ?_; ((try simp only [plus_size, World.size_alloc, World.size_drew, World.size_setCell, size_setRow, World.heap_drewN, List.length_append]) <;> omega)) | with_reducible refine Below.drew ?_ | (with_reducible refine below_drewN' ?_ _) | exact Below.refl _ _)); rintro e w' ⟨vx, rfl, hB, ho⟩; obtain ⟨ax, cx, rfl, hs⟩ := ho.reads; clear hs; obtain ⟨j, d, rfl⟩ := plus_of_below hB; clear hB))
  refine bodyPost_ret (v := .agg #[.int .i64 n, .slice ax xs.length cx]) (by simp [results, Try.results8, go_sem]) rfl ?_
  exact ⟨_, rfl, by (repeat (first | (with_reducible exact Below.refl _ _) | (with_reducible assumption) | (with_reducible refine below_plus' ?_ ?_; ((try simp only [plus_size, World.size_alloc, World.size_drew, World.size_setCell, size_setRow, World.heap_drewN, List.length_append]) <;> omega)) | (with_reducible refine below_alloc' ?_ ?_; ((try simp only [plus_size, World.size_alloc, World.size_drew, World.size_setCell, size_setRow, World.heap_drewN, List.length_append]) <;> omega)) | with_reducible refine Below.drew ?_ | (with_reducible refine below_drewN' ?_ _) | exact Below.refl _ _)), (own_swap (by ((try simp only [plus_size, World.size_alloc, World.size_drew, World.size_setCell, size_setRow, World.heap_drewN, List.length_append]) <;> omega)) (Nat.le_refl _) ho).mono (by ((try simp only [plus_size, World.size_alloc, World.size_drew, World.size_setCell, size_setRow, World.heap_drewN, List.length_append]) <;> omega))⟩
set_option maxHeartbeats 400000 in
theorem eqLaurent_same (n : Int) (v1 v2 : Value) (xs : List Int) (w : World) (h1 : reads w v1 xs) (h2 : reads w v2 xs) (hlen : xs.length ≤ 1000000000) : Calls Try.prog 10 #[.agg #[.int .i64 n, v1], .agg #[.int .i64 n, v2]] w fun e w' => e = .returned (.bool true) ∧ Below w.heap.size w w' := by
  have H := Lib.hid (fun w' (hb : Below w.heap.size w w') => eqInts_same v1 v2 xs w' (h1.kept hb) (h2.kept hb) hlen)
  clear h1 h2 hlen
  go_enter Try.func10, Try.ntmps10
  go_wp2_with (first | (go_at_call 35; refine Calls.mono (H.out _ ?_) ?_; (repeat (first | (with_reducible exact Below.refl _ _) | (with_reducible assumption) | (with_reducible refine below_plus' ?_ ?_; ((try simp only [plus_size, World.size_alloc, World.size_drew, World.size_setCell, size_setRow, World.heap_drewN, List.length_append]) <;> omega)) | (with_reducible refine below_alloc' ?_ ?_; ((try simp only [plus_size, World.size_alloc, World.size_drew, World.size_setCell, size_setRow, World.heap_drewN, List.length_append]) <;> omega)) | with_reducible refine Below.drew ?_ | (with_reducible refine below_drewN' ?_ _) | exact Below.refl _ _)); rintro e w' ⟨rfl, hB⟩; obtain ⟨j, d, rfl⟩ := plus_of_below hB; clear hB))
  go_ret
  exact ⟨rfl, by (repeat (first | (with_reducible exact Below.refl _ _) | (with_reducible assumption) | (with_reducible refine below_plus' ?_ ?_; ((try simp only [plus_size, World.size_alloc, World.size_drew, World.size_setCell, size_setRow, World.heap_drewN, List.length_append]) <;> omega)) | (with_reducible refine below_alloc' ?_ ?_; ((try simp only [plus_size, World.size_alloc, World.size_drew, World.size_setCell, size_setRow, World.heap_drewN, List.length_append]) <;> omega)) | with_reducible refine Below.drew ?_ | (with_reducible refine below_drewN' ?_ _) | exact Below.refl _ _))⟩
set_option maxHeartbeats 400000 in
theorem heldLaurent_any (n : Int) (v : Value) (m : Nat) (w : World) (h : reads w v (marks 1 m)) (hlen : m ≤ 1000000000) : Calls Try.prog 12 #[.agg #[.int .i64 n, v], .int .i64 1] w fun e w' => e = .returned (.int .i64 (1 + m)) ∧ Below w.heap.size w w' := by
  have H := Lib.hid (fun w' (hb : Below w.heap.size w w') => heldInts_any v m 1 w' (h.kept hb) one_lo one_hi hlen)
  clear h
  go_enter Try.func12, Try.ntmps12
  go_wp2_with (first | (go_at_call 37; refine Calls.mono (H.out _ ?_) ?_; (repeat (first | (with_reducible exact Below.refl _ _) | (with_reducible assumption) | (with_reducible refine below_plus' ?_ ?_; ((try simp only [plus_size, World.size_alloc, World.size_drew, World.size_setCell, size_setRow, World.heap_drewN, List.length_append]) <;> omega)) | (with_reducible refine below_alloc' ?_ ?_; ((try simp only [plus_size, World.size_alloc, World.size_drew, World.size_setCell, size_setRow, World.heap_drewN, List.length_append]) <;> omega)) | with_reducible refine Below.drew ?_ | (with_reducible refine below_drewN' ?_ _) | exact Below.refl _ _)); rintro e w' ⟨rfl, hB⟩; obtain ⟨j, d, rfl⟩ := plus_of_below hB; clear hB))
  go_ret
  exact ⟨rfl, by (repeat (first | (with_reducible exact Below.refl _ _) | (with_reducible assumption) | (with_reducible refine below_plus' ?_ ?_; ((try simp only [plus_size, World.size_alloc, World.size_drew, World.size_setCell, size_setRow, World.heap_drewN, List.length_append]) <;> omega)) | (with_reducible refine below_alloc' ?_ ?_; ((try simp only [plus_size, World.size_alloc, World.size_drew, World.size_setCell, size_setRow, World.heap_drewN, List.length_append]) <;> omega)) | with_reducible refine Below.drew ?_ | (with_reducible refine below_drewN' ?_ _) | exact Below.refl _ _))⟩
set_option maxHeartbeats 400000 in
theorem markLaurent_any (n : Int) (v : Value) (xs : List Int) (B : Nat) (w : World) (h : own 2 w B v xs) (hlen : xs.length ≤ 1000000000) : Calls Try.prog 11 #[.agg #[.int .i64 n, v], .int .i64 1] w fun e w' => e = .returned (.int .i64 (1 + xs.length)) ∧ own 2 w' B v (marks 1 xs.length) ∧ w.grownBy w' v.ownBlock := by
  have H := Lib.hid (fun w' (hb : Below w.heap.size w w') => markInts_any v xs B 1 w' (h.kept hb) one_lo one_hi hlen)
  have HG := Lib.hid (fun (w' w'' : World) (hb : Below w.heap.size w w') (hg : w'.grownBy w'' v.ownBlock) => grown_trans' hb hg)
  clear h
  go_enter Try.func11, Try.ntmps11
  go_wp2_with (first | (go_at_call 36; refine Calls.mono (H.out _ ?_) ?_; (repeat (first | (with_reducible exact Below.refl _ _) | (with_reducible assumption) | (with_reducible refine below_plus' ?_ ?_; ((try simp only [plus_size, World.size_alloc, World.size_drew, World.size_setCell, size_setRow, World.heap_drewN, List.length_append]) <;> omega)) | (with_reducible refine below_alloc' ?_ ?_; ((try simp only [plus_size, World.size_alloc, World.size_drew, World.size_setCell, size_setRow, World.heap_drewN, List.length_append]) <;> omega)) | with_reducible refine Below.drew ?_ | (with_reducible refine below_drewN' ?_ _) | exact Below.refl _ _)); rintro e w' ⟨rfl, hm, hg⟩; replace hg := HG.out _ _ (by (repeat (first | (with_reducible exact Below.refl _ _) | (with_reducible assumption) | (with_reducible refine below_plus' ?_ ?_; ((try simp only [plus_size, World.size_alloc, World.size_drew, World.size_setCell, size_setRow, World.heap_drewN, List.length_append]) <;> omega)) | (with_reducible refine below_alloc' ?_ ?_; ((try simp only [plus_size, World.size_alloc, World.size_drew, World.size_setCell, size_setRow, World.heap_drewN, List.length_append]) <;> omega)) | with_reducible refine Below.drew ?_ | (with_reducible refine below_drewN' ?_ _) | exact Below.refl _ _))) hg))
  go_ret
  exact ⟨rfl, hm, hg⟩
theorem szInts_any (v : Value) (xs : List Int) (w : World) (h : reads w v xs) (hlen : xs.length ≤ 9223372036854775807) : Calls Try.prog 27 #[v, .int .i64 1048576] w fun e w' => e = .returned (.int .i64 (if (xs.length : Int) ≤ 1048576 then 1048576 - xs.length else -1)) ∧ w = w' := by
  obtain ⟨a, c, rfl, h⟩ := h
  clear h
  by_cases hl : (xs.length : Int) ≤ 1048576
  · go_enter Try.func27, Try.ntmps27
    go_wp2
    go_ret
    exact ⟨by first | rfl | (rw [if_pos hl]; rfl), rfl⟩
  · go_enter Try.func27, Try.ntmps27
    go_wp2
    go_ret
    exact ⟨by first | rfl | (rw [if_neg hl]; rfl), rfl⟩
theorem szLaurent_any (n : Int) (v : Value) (xs : List Int) (w : World) (h : reads w v xs) (hlen : xs.length ≤ 9223372036854775807) : Calls Try.prog 6 #[.agg #[.int .i64 n, v], .int .i64 1048576] w fun e w' => e = .returned (.int .i64 (if (xs.length : Int) ≤ 1048576 then 1048576 - xs.length else -1)) ∧ Below w.heap.size w w' := by
  have H := Lib.hid (fun w' (hb : Below w.heap.size w w') => szInts_any v xs w' (h.kept hb) hlen)
  clear h
  by_cases hl : (xs.length : Int) ≤ 1048576
  · simp only [if_pos hl] at H ⊢
    go_enter Try.func6, Try.ntmps6
    go_wp2_with (first | (go_at_call 27; refine Calls.mono (H.out _ ?_) ?_; (repeat (first | (with_reducible exact Below.refl _ _) | (with_reducible assumption) | (with_reducible refine below_plus' ?_ ?_; ((try simp only [plus_size, World.size_alloc, World.size_drew, World.size_setCell, size_setRow, World.heap_drewN, List.length_append]) <;> omega)) | (with_reducible refine below_alloc' ?_ ?_; ((try simp only [plus_size, World.size_alloc, World.size_drew, World.size_setCell, size_setRow, World.heap_drewN, List.length_append]) <;> omega)) | with_reducible refine Below.drew ?_ | (with_reducible refine below_drewN' ?_ _) | exact Below.refl _ _)); rintro e w' ⟨rfl, rfl⟩))
    go_ret
    exact ⟨rfl, by (repeat (first | (with_reducible exact Below.refl _ _) | (with_reducible assumption) | (with_reducible refine below_plus' ?_ ?_; ((try simp only [plus_size, World.size_alloc, World.size_drew, World.size_setCell, size_setRow, World.heap_drewN, List.length_append]) <;> omega)) | (with_reducible refine below_alloc' ?_ ?_; ((try simp only [plus_size, World.size_alloc, World.size_drew, World.size_setCell, size_setRow, World.heap_drewN, List.length_append]) <;> omega)) | with_reducible refine Below.drew ?_ | (with_reducible refine below_drewN' ?_ _) | exact Below.refl _ _))⟩
  · simp only [if_neg hl] at H ⊢
    go_enter Try.func6, Try.ntmps6
    go_wp2_with (first | (go_at_call 27; refine Calls.mono (H.out _ ?_) ?_; (repeat (first | (with_reducible exact Below.refl _ _) | (with_reducible assumption) | (with_reducible refine below_plus' ?_ ?_; ((try simp only [plus_size, World.size_alloc, World.size_drew, World.size_setCell, size_setRow, World.heap_drewN, List.length_append]) <;> omega)) | (with_reducible refine below_alloc' ?_ ?_; ((try simp only [plus_size, World.size_alloc, World.size_drew, World.size_setCell, size_setRow, World.heap_drewN, List.length_append]) <;> omega)) | with_reducible refine Below.drew ?_ | (with_reducible refine below_drewN' ?_ _) | exact Below.refl _ _)); rintro e w' ⟨rfl, rfl⟩))
    go_ret
    exact ⟨rfl, by (repeat (first | (with_reducible exact Below.refl _ _) | (with_reducible assumption) | (with_reducible refine below_plus' ?_ ?_; ((try simp only [plus_size, World.size_alloc, World.size_drew, World.size_setCell, size_setRow, World.heap_drewN, List.length_append]) <;> omega)) | (with_reducible refine below_alloc' ?_ ?_; ((try simp only [plus_size, World.size_alloc, World.size_drew, World.size_setCell, size_setRow, World.heap_drewN, List.length_append]) <;> omega)) | with_reducible refine Below.drew ?_ | (with_reducible refine below_drewN' ?_ _) | exact Below.refl _ _))⟩
end Go.Proofs.Ytcipdgmimmngoaa
