/- What a braid's images do. Conditions: as each theorem says. -/
import Derived.Test.YtgkpdklkeajipaaGreatDoorKc
namespace Go.Proofs.YtgkpdklkeajipaaGreatDoor
open Go.RowKit
set_option linter.unusedSimpArgs false
set_option linter.unusedVariables false
open Go.RowKit
/-- what is known of a braid's four images -/
theorem four_ok {n : Int} {xs : List Int} (hl : xs.length ≤ 1000000000) (hf : Fits xs) : ∃ (N : Int) (L1 L2 L3 L4 : List Int) (U : Int),
    (∀ v w, reads w v xs → Calls Tryz.prog 15 #[.agg #[.int .i64 n, v]] w (RetB2 2 w N L1 U)) ∧
    (∀ v w, reads w v xs → Calls Tryz.prog 16 #[.agg #[.int .i64 n, v]] w (RetB2 2 w N L1 U)) ∧
    (∀ v w, reads w v xs → Calls Tryz.prog 17 #[.agg #[.int .i64 n, v]] w (RetB2 2 w N L2 U)) ∧
    (∀ v w, reads w v xs → Calls Tryz.prog 18 #[.agg #[.int .i64 n, v]] w (RetB2 2 w N L2 U)) ∧
    (∀ v w, reads w v xs → Calls Tryz.prog 19 #[.agg #[.int .i64 n, v]] w (RetB2 2 w N L3 U)) ∧
    (∀ v w, reads w v xs → Calls Tryz.prog 20 #[.agg #[.int .i64 n, v]] w (RetB2 2 w N L3 U)) ∧
    (∀ v w, reads w v xs → Calls Tryz.prog 21 #[.agg #[.int .i64 n, v]] w (RetB2 2 w N L4 U)) ∧
    (∀ v w, reads w v xs → Calls Tryz.prog 22 #[.agg #[.int .i64 n, v]] w (RetB2 2 w N L4 U)) ∧
    (L1.length ≤ 1000000000 ∧ L2.length ≤ 1000000000 ∧ L3.length ≤ 1000000000 ∧ L4.length ≤ 1000000000) ∧ (U = 0 → okW n xs = true ∧ N = n ∧ L1 = xs.reverse.map negL ∧ L2 = xs.map negL ∧ L3 = xs.reverse ∧ L4 = xs.map (turnL n)) := by
  refine ⟨if okW n xs = true then n else 0, if okW n xs = true then xs.reverse.map negL else [], if okW n xs = true then xs.map negL else [], if okW n xs = true then xs.reverse else [], if okW n xs = true then xs.map (turnL n) else [], if okW n xs = true then 0 else 1, fun v w h => impl_InverseOf n v xs w h hl hf, fun v w h => spec_InverseOf n v xs w h hl hf, fun v w h => impl_MirrorOf n v xs w h hl hf, fun v w h => spec_MirrorOf n v xs w h hl hf, fun v w h => impl_ReverseOf n v xs w h hl hf, fun v w h => spec_ReverseOf n v xs w h hl hf, fun v w h => impl_TurnBraid n v xs w h hl hf, fun v w h => spec_TurnBraid n v xs w h hl hf, ⟨?_, ?_, ?_, ?_⟩, fun h => ?_⟩
  · split <;> simp; exact hl
  · split <;> simp; exact hl
  · split <;> simp; exact hl
  · split <;> simp; exact hl
  · cases ho : okW n xs with
    | true => simp
    | false => rw [ho] at h; simp at h
/-- what is known of a good braid's four images -/
theorem back_ok {n : Int} {xs : List Int} (hok : okW n xs = true) : ∃ s : ByteArray,
    (∀ v w, reads w v (xs.reverse.map negL) → Calls Tryz.prog 15 #[.agg #[.int .i64 n, v]] w (RetB2 2 w n xs 0)) ∧ (∀ v w, reads w v (xs.map negL) → Calls Tryz.prog 17 #[.agg #[.int .i64 n, v]] w (RetB2 2 w n xs 0)) ∧ (∀ v w, reads w v xs.reverse → Calls Tryz.prog 19 #[.agg #[.int .i64 n, v]] w (RetB2 2 w n xs 0)) ∧ (∀ v w, reads w v (xs.map (turnL n)) → Calls Tryz.prog 21 #[.agg #[.int .i64 n, v]] w (RetB2 2 w n xs 0)) ∧
    (∀ v w, reads w v xs → PowTab w → Calls Tryz.prog 23 #[.agg #[.int .i64 n, v]] w fun e w' => e = .returned (.tuple #[.string s, .int .i64 0]) ∧ Below w.heap.size w w') ∧
    (∀ w, Door w → Calls Tryz.prog 24 #[.string s] w (RetB2 2 w n xs 0)) ∧
    (2 * xs.length ≤ 200 → (∀ v1 v2 w, reads w v1 xs → reads w v2 (xs.reverse.map negL) → Calls Tryz.prog 6 #[.agg #[.int .i64 n, v1], .agg #[.int .i64 n, v2]] w (RetB2 2 w n (xs ++ xs.reverse.map negL) 0)) ∧ (∀ v w, reads w v (xs ++ xs.reverse.map negL) → Calls Tryz.prog 25 #[.agg #[.int .i64 n, v]] w (RetB2 2 w n [] 0))) := by
  refine ⟨strB (textL n xs), fun v w h => ?_, fun v w h => ?_, fun v w h => ?_, fun v w h => ?_, fun v w h ht => ?_, fun w hd => ?_, fun h2 => ⟨fun v1 v2 w a b => ?_, fun v w h => ?_⟩⟩
  · have := inv_ok n v _ w h (ok_inv hok)
    rwa [inv_inv] at this
  · have := mir_ok n v _ w h (ok_neg hok)
    rwa [negL_negL] at this
  · have := rev_ok n v _ w h (ok_rev hok)
    rwa [List.reverse_reverse] at this
  · have := turn_ok n v _ w h (ok_turn hok)
    rwa [turn_turn hok] at this
  · have := impl_BraidText n v xs w h (by have := okW_len hok; omega) (fits_ok hok) ht
    simp only [hok, if_true] at this
    exact this
  · have := impl_ParseBraid (textL n xs) w textL_len hd
    obtain ⟨e1, e2, e3⟩ := text_back hok
    rwa [e1, e2, e3] at this
  · exact prod_ok2 n v1 v2 _ _ w a b hok (ok_inv hok) (by simp; omega)
  · have := free_ok n v _ w h (ok_prod hok (ok_inv hok) (by simp; omega))
    rwa [free_inv] at this
end Go.Proofs.YtgkpdklkeajipaaGreatDoor
