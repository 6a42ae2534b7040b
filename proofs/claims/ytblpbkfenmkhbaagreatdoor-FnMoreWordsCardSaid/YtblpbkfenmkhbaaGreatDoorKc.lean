/- What words do, where all is well. Conditions: as each theorem says. -/
import Derived.Test.YtblpbkfenmkhbaaGreatDoorKa
import Derived.Test.YtblpbkfenmkhbaaGreatDoorPq
import Derived.Test.YtblpbkfenmkhbaaGreatDoorV1
import Derived.Test.YtblpbkfenmkhbaaGreatDoorMb
import Derived.Test.YtblpbkfenmkhbaaGreatDoorMa
import Derived.Test.YtblpbkfenmkhbaaGreatDoorDb
namespace Go.Proofs.YtblpbkfenmkhbaaGreatDoor
open Go.RowKit
set_option linter.unusedSimpArgs false
set_option linter.unusedVariables false
open Go.RowKit
theorem fits_ok {n : Int} {xs : List Int} (h : okW n xs = true) : Fits xs := fun x hx => by
  have h1 := okW_n h
  have h2 : x ≠ 0 ∧ 1 - n ≤ x ∧ x ≤ n - 1 := of_decide_eq_true (ok_mem h x hx)
  omega
theorem ends_ok (p : Nat) (v : Value) (xs : List Int) (w : World) (h : reads w v xs) (hok : okW p xs = true) : Calls Tryz.prog 13 #[.agg #[.int .i64 p, v]] w (RetInts2 2 w (lstOf p (endF p xs)) 0) := by
  have h2 := impl_EndsOf p v xs w h (by have := okW_len hok; omega) (fits_ok hok)
  simp only [hok, if_true, Int.toNat_natCast] at h2
  exact h2
/-- what lies in a table that is read -/
theorem readsT.form {w : World} {v : Value} {p : Nat} {T : Nat → Nat → Int} (h : readsT w v (tabL p T)) (hp : 1 ≤ p) : ∃ b o c, v = .slice (some ⟨b, o, none⟩) p c ∧ b < w.heap.size ∧ ∀ i, i < p → ∃ rb ro rc, w.cell? ⟨b, o + i, none⟩ = some (.slice (some ⟨rb, ro, none⟩) p rc) ∧ rb < w.heap.size ∧ ∀ j, j < p → w.cell? ⟨rb, ro + j, none⟩ = some (.int .i64 (T i j)) := by
  obtain ⟨a, c, hv, h⟩ := h
  rw [tabL_length] at hv
  have hne : tabL p T ≠ [] := fun e => by have := tabL_length p T; rw [e] at this; simp at this; omega
  obtain ⟨b, o, rfl, hb, hc⟩ := h.resolve_left hne
  refine ⟨b, o, c, hv, hb, fun i hi => ?_⟩
  obtain ⟨rv, h1, h2⟩ := hc i (by rw [tabL_length]; exact hi)
  obtain ⟨ra, rc, rfl, h3⟩ := h2
  have hl : (rowOf (tabL p T) i).length = p := rowOf_len hi
  obtain ⟨rb, ro, rfl, h4⟩ := h3.resolve_left (fun e => by rw [e] at hl; simp at hl; omega)
  have h0 := h4 0 (by omega)
  refine ⟨rb, ro, rc, by rw [← hl]; exact h1, World.block_lt_of_cell? w _ h0, fun j hj => ?_⟩
  have := h4 j (by omega)
  rw [nth_row hi hj] at this
  exact this
/-- what lies in a list that is read -/
theorem reads_lst {w : World} {v : Value} {p : Nat} {f : Nat → Nat} (h : reads w v (lstOf p f)) (hp : 1 ≤ p) : ∃ b o c, v = .slice (some ⟨b, o, none⟩) p c ∧ b < w.heap.size ∧ ∀ i, i < p → w.cell? ⟨b, o + i, none⟩ = some (.int .i64 (f i)) := by
  obtain ⟨a, c, hv, h⟩ := h
  have hl : (lstOf p f).length = p := lstOf_length p f
  obtain ⟨b, o, rfl, h4⟩ := h.resolve_left (fun e => by rw [e] at hl; simp at hl; omega)
  rw [hl] at hv
  refine ⟨b, o, c, hv, World.block_lt_of_cell? w _ (h4 0 (by omega)), fun i hi => ?_⟩
  have := h4 i (by omega)
  rw [nth_lstOf hi] at this
  exact this
theorem inv_ok (n : Int) (v : Value) (xs : List Int) (w : World) (h : reads w v xs) (hok : okW n xs = true) : Calls Tryz.prog 36 #[.agg #[.int .i64 n, v]] w (RetB2 2 w n (xs.reverse.map negL) 0) := by
  have h2 := impl_InverseOf n v xs w h (by have := okW_len hok; omega) (fits_ok hok)
  simp only [hok, if_true] at h2
  exact h2
theorem free_ok (n : Int) (v : Value) (xs : List Int) (w : World) (h : reads w v xs) (hok : okW n xs = true) : Calls Tryz.prog 11 #[.agg #[.int .i64 n, v]] w (RetB2 2 w n (freeK xs xs.length) 0) := by
  have h2 := impl_FreeForm n v xs w h (by have := okW_len hok; omega) (fits_ok hok)
  simp only [hok, if_true] at h2
  exact h2
theorem prod_ok2 (n : Int) (v1 v2 : Value) (xs ys : List Int) (w : World) (h1 : reads w v1 xs) (h2 : reads w v2 ys) (o1 : okW n xs = true) (o2 : okW n ys = true) (hl : xs.length + ys.length ≤ 200) : Calls Tryz.prog 9 #[.agg #[.int .i64 n, v1], .agg #[.int .i64 n, v2]] w (RetB2 2 w n (xs ++ ys) 0) := by
  have h := impl_ProductOf n v1 xs n v2 ys w h1 h2 (by omega) (by omega) (fits_ok o1) (fits_ok o2)
  obtain ⟨e1, e2⟩ := pr_5 o1 o2 hl
  simp only [e1, e2, if_true] at h
  exact h
end Go.Proofs.YtblpbkfenmkhbaaGreatDoor
