/- What powers, free forms, shifts, half turns and texts do. Conditions: as each theorem says. -/
import Derived.Test.YtblpbkfenmkhbaaGreatDoorKc
import Derived.Test.YtblpbkfenmkhbaaGreatDoorQc
import Derived.Test.YtblpbkfenmkhbaaGreatDoorVn
import Derived.Test.YtblpbkfenmkhbaaGreatDoorMb
import Derived.Test.YtblpbkfenmkhbaaGreatDoorVk
import Derived.Test.YtblpbkfenmkhbaaGreatDoorHh
namespace Go.Proofs.YtblpbkfenmkhbaaGreatDoor
open Go.RowKit
set_option linter.unusedSimpArgs false
set_option linter.unusedVariables false
open Go.RowKit
theorem power_ok {n : Int} {xs : List Int} (z : Int) (hl : xs.length ≤ 1000000000) (hf : Fits xs) : ∃ (N : Int) (L : List Int) (C : Int),
    (∀ v w, reads w v xs → Calls Tryz.prog 6 #[.agg #[.int .i64 n, v], .int .i64 z] w (RetB2 2 w N L C)) ∧ (∀ v w, reads w v xs → Calls Tryz.prog 7 #[.agg #[.int .i64 n, v], .int .i64 z] w (RetB2 2 w N L C)) ∧ L.length ≤ 1000000000 ∧
    (C = 0 → 0 < z → N = n ∧ ∃ L1, (∀ v w, reads w v xs → Calls Tryz.prog 6 #[.agg #[.int .i64 n, v], .int .i64 (z - 1)] w (RetB2 2 w n L1 0)) ∧
      (∀ v1 v2 w, reads w v1 L1 → reads w v2 xs → Calls Tryz.prog 9 #[.agg #[.int .i64 n, v1], .agg #[.int .i64 n, v2]] w (RetB2 2 w n L 0))) := by
  refine ⟨_, _, _, fun v w h => impl_PowerOf n v xs z w h hl hf, fun v w h => spec_PowerOf n v xs z w h hl hf, ?_, fun hc hz => ?_⟩
  · split
    · rename_i hg; have := goodK_le hg; omega
    · simp
  · obtain ⟨o1, o2, o3, g1, g2, g3, g4⟩ := pow_facts hc hz
    refine ⟨if_pos g1, powL xs (z - 1), fun v w h => ?_, fun v1 v2 w h1 h2 => ?_⟩
    · have := impl_PowerOf n v xs (z - 1) w h hl hf
      rwa [if_pos g2, if_pos g2, g3] at this
    · rw [if_pos g1, g4]
      exact prod_ok2 n v1 v2 _ _ w h1 h2 o2 o1 o3
theorem nth_small {n : Int} {xs : List Int} (h : okW n xs = true) {i : Nat} (hi : i < xs.length) : -9 ≤ nth xs i ∧ nth xs i ≤ 9 := by
  have h1 := okW_n h
  have h2 : nth xs i ≠ 0 ∧ 1 - n ≤ nth xs i ∧ nth xs i ≤ n - 1 := of_decide_eq_true (ok_mem h _ (nth_mem hi))
  omega
theorem freef_ok {n : Int} {xs : List Int} (hl : xs.length ≤ 1000000000) (hf : Fits xs) : ∃ (N : Int) (L : List Int) (C : Int),
    (∀ v w, reads w v xs → Calls Tryz.prog 11 #[.agg #[.int .i64 n, v]] w (RetB2 2 w N L C)) ∧ (∀ v w, reads w v xs → Calls Tryz.prog 12 #[.agg #[.int .i64 n, v]] w (RetB2 2 w N L C)) ∧ L.length ≤ 1000000000 ∧
    (C = 0 → N = n ∧ ∃ (p : Nat) (f : Nat → Nat), (1 ≤ p ∧ p ≤ 8) ∧ (∀ v w, reads w v xs → Calls Tryz.prog 13 #[.agg #[.int .i64 n, v]] w (RetInts2 2 w (lstOf p f) 0)) ∧
      (∀ v w, reads w v L → Calls Tryz.prog 13 #[.agg #[.int .i64 n, v]] w (RetInts2 2 w (lstOf p f) 0)) ∧ L.length ≤ 200 ∧
      (∀ i, i < L.length → -9 ≤ nth L i ∧ nth L i ≤ 9) ∧ (∀ i, i + 1 < L.length → nth L (i + 1) ≠ -nth L i)) := by
  refine ⟨_, _, _, fun v w h => impl_FreeForm n v xs w h hl hf, fun v w h => spec_FreeForm n v xs w h hl hf, ?_, fun hc => ?_⟩
  · split
    · have := freeK_le xs xs.length (Nat.le_refl _); omega
    · simp
  · have ho : okW n xs = true := by
      cases ho : okW n xs with
      | true => rfl
      | false => rw [ho] at hc; simp at hc
    rw [if_pos ho, if_pos ho]
    obtain ⟨p, rfl, hp1, hp8, hq1, hq2⟩ := okW_true ho
    obtain ⟨o2, he⟩ := free_facts ho
    refine ⟨rfl, p, endF p xs, ⟨hp1, hp8⟩, fun v w h => ends_ok p v xs w h ho, fun v w h => ?_, okW_len o2, fun i hi => nth_small o2 hi, red_at _ (free_red _ _)⟩
    have := ends_ok p v _ w h o2
    have e : lstOf p (endF p (freeK xs xs.length)) = lstOf p (endF p xs) := by
      unfold lstOf
      apply List.map_congr_left
      intro i hi
      rw [he i (List.mem_range.1 hi)]
    rwa [e] at this
theorem shift_ok {n : Int} {xs : List Int} (z : Int) (hl : xs.length ≤ 1000000000) (hf : Fits xs) : ∃ (N : Int) (L : List Int) (C : Int),
    (∀ v w, reads w v xs → Calls Tryz.prog 16 #[.agg #[.int .i64 n, v], .int .i64 z] w (RetB2 2 w N L C)) ∧ (∀ v w, reads w v xs → Calls Tryz.prog 17 #[.agg #[.int .i64 n, v], .int .i64 z] w (RetB2 2 w N L C)) ∧ L.length ≤ 1000000000 := by
  refine ⟨_, _, _, fun v w h => impl_ShiftOf n v xs z w h hl hf, fun v w h => spec_ShiftOf n v xs z w h hl hf, ?_⟩
  split <;> simp; exact hl
theorem parse_ok2 (s : ByteArray) (hs : s.size ≤ 4000000000) : ∃ (N : Int) (L : List Int) (C : Int),
    (∀ w, Door w → Calls Tryz.prog 19 #[.string s] w (RetB2 2 w N L C)) ∧ (∀ w, Calls Tryz.prog 20 #[.string s] w (RetB2 2 w N L C)) ∧ L.length ≤ 1000000000 := by
  have e : strB s.data.toList = s := strB_back s
  have hl : s.data.toList.length ≤ 4000000000 := by rw [Array.length_toList]; exact hs
  refine ⟨parN s.data.toList, parL s.data.toList, parC s.data.toList, fun w hd => ?_, fun w => ?_, parL_le _⟩
  · have := impl_ParseBraid s.data.toList w hl hd
    rwa [e] at this
  · have := spec_ParseBraid s.data.toList w hl
    rwa [e] at this
theorem halfW_len : ∀ m, m < 8 → (halfW m).length ≤ 100 := by decide
theorem half_ok (z : Int) : ∃ (N : Int) (L L2 : List Int) (C : Int),
    (∀ w, Calls Tryz.prog 22 #[.int .i64 z] w (RetB2 2 w N L C)) ∧ (∀ w, Calls Tryz.prog 23 #[.int .i64 z] w (RetB2 2 w N L C)) ∧
    (∀ w, Calls Tryz.prog 24 #[.int .i64 z] w (RetB2 2 w N L2 C)) ∧ (∀ w, Calls Tryz.prog 25 #[.int .i64 z] w (RetB2 2 w N L2 C)) ∧ L.length ≤ 1000000000 ∧ L2.length ≤ 1000000000 ∧
    (C = 0 → ∃ (p : Nat) (f : Nat → Nat), z = p ∧ N = p ∧ (1 ≤ p ∧ p ≤ 8) ∧ (∀ v w, reads w v L → Calls Tryz.prog 13 #[.agg #[.int .i64 p, v]] w (RetInts2 2 w (lstOf p f) 0)) ∧
      (∀ v w, reads w v L2 → Calls Tryz.prog 26 #[.agg #[.int .i64 p, v]] w fun e w' => e = .returned (.tuple #[.bool true, .int .i64 0]) ∧ Below w.heap.size w w') ∧ (∀ x, x < p → (f x : Int) = (p : Int) - 1 - x)) := by
  have hL : (halfL z).length ≤ 100 := by
    unfold halfL
    split
    · rename_i hb
      have hb2 : 1 ≤ z ∧ z ≤ 8 := by simpa [inB] using hb
      exact halfW_len _ (by omega)
    · simp
  refine ⟨halfN' z, halfL z, halfL z ++ halfL z, halfC z, fun w => impl_HalfTurnBraid z w, fun w => spec_HalfTurnBraid z w, fun w => impl_FullTurnBraid z w, fun w => spec_FullTurnBraid z w, by omega, by simp; omega, fun hc => ?_⟩
  obtain ⟨p, rfl, hN, h1, h8, o1, o2, he, hp⟩ := half_facts hc
  refine ⟨p, endF p (halfL p), rfl, hN, ⟨h1, h8⟩, fun v w h => ends_ok p v _ w h o1, fun v w h => ?_, fun x hx => by rw [he x hx]; omega⟩
  have := impl_IsPure p v _ w h (by simp; omega) (fits_ok o2)
  rwa [hp] at this
theorem pure_ok {n : Int} {xs : List Int} (hl : xs.length ≤ 1000000000) (hf : Fits xs) : ∃ (B : Bool) (C : Int),
    (∀ v w, reads w v xs → Calls Tryz.prog 26 #[.agg #[.int .i64 n, v]] w fun e w' => e = .returned (.tuple #[.bool B, .int .i64 C]) ∧ Below w.heap.size w w') ∧
    (∀ v w, reads w v xs → Calls Tryz.prog 28 #[.agg #[.int .i64 n, v]] w fun e w' => e = .returned (.tuple #[.bool B, .int .i64 C]) ∧ Below w.heap.size w w') :=
  ⟨_, _, fun v w h => impl_IsPure n v xs w h hl hf, fun v w h => spec_IsPure n v xs w h hl hf⟩
/-- what lies in a list that is read -/
theorem reads_at {w : World} {a : Option Addr} {l c : Nat} {xs : List Int} (h : reads w (.slice a l c) xs) (h0 : 0 < xs.length) : ∃ b o, a = some ⟨b, o, none⟩ ∧ b < w.heap.size ∧ ∀ i, i < xs.length → w.cell? ⟨b, o + i, none⟩ = some (.int .i64 (nth xs i)) := by
  obtain ⟨a2, c2, hv, h⟩ := h
  cases hv
  rcases h with h | ⟨b, o, rfl, h⟩
  · rw [h] at h0; cases h0
  · exact ⟨b, o, rfl, World.block_lt_of_cell? w _ (h 0 h0), h⟩
end Go.Proofs.YtblpbkfenmkhbaaGreatDoor
