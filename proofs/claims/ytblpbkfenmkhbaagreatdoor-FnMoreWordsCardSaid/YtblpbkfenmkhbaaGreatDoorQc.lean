/- Powers, free forms, half turns: plain facts. Conditions: as each theorem says. -/
import Derived.Test.YtblpbkfenmkhbaaGreatDoorPq
import Derived.Test.YtblpbkfenmkhbaaGreatDoorVm
namespace Go.Proofs.YtblpbkfenmkhbaaGreatDoor
open Go.RowKit
set_option linter.unusedSimpArgs false
set_option linter.unusedVariables false
open Go.RowKit
/-! ### free forms keep ends -/
theorem end_pair {m : Nat} {y : Int} (hy : LetK m (absL [y]) 1) {j : Nat} (hj : j < m) : endF m [-y] (endF m [y] j) = j := by
  have e : endF m [-y] = endF m [y] := by unfold endF; simp [absL]
  rw [e]
  have h0 := hy 0 (by omega)
  have e0 : nth (absL [y]) 0 = (y.natAbs : Int) := by simp [absL, nth]
  rw [e0] at h0
  obtain ⟨q, hq⟩ : ∃ q, y.natAbs = q := ⟨_, rfl⟩
  rw [hq] at h0
  have hp : ∀ x, seqK m (absL [y]) 1 x = if x = q then (if q - 1 < m then q - 1 else 0) else if x = q - 1 then (if q < m then q else 0) else if x < m then x else 0 := fun x => by
    show swapK (idK m) (nth (absL [y]) 0).toNat x = _
    rw [e0, hq, Int.toNat_natCast, swapK_at]
    rfl
  have hpp : ∀ x, x < m → seqK m (absL [y]) 1 x < m ∧ seqK m (absL [y]) 1 (seqK m (absL [y]) 1 x) = x := fun x hx => by
    rw [hp, hp]
    constructor
    · split <;> (try split) <;> (try split) <;> omega
    · by_cases h1 : x = q
      · subst h1
        simp only [if_true]
        rw [if_pos (by omega : x - 1 < m), if_neg (by omega : ¬ x - 1 = x), if_pos rfl, if_pos hx]
      · by_cases h2 : x = q - 1
        · subst h2
          simp only [if_true]
          rw [if_neg h1, if_pos (by omega : q < m), if_pos rfl, if_pos hx]
        · rw [if_neg h1, if_neg h2, if_pos hx, if_neg h1, if_neg h2, if_pos hx]
  have he : ∀ x, x < m → endF m [y] x = seqK m (absL [y]) 1 x := fun x hx => by
    have := endF_at (m := m) (xs := [y]) hy (p := seqK m (absL [y]) 1 x) (hpp x hx).1
    rw [show [y].length = 1 from rfl, (hpp x hx).2] at this
    exact this
  rw [he j hj, he _ (hpp j hj).1, (hpp j hj).2]
/-- the letters are letters of m strands -/
def LetM (m : Nat) (xs : List Int) : Prop := ∀ x ∈ xs, 1 ≤ (x.natAbs : Int) ∧ (x.natAbs : Int) ≤ (m : Int) - 1
theorem LetM.let {m : Nat} {xs : List Int} (h : LetM m xs) : LetK m (absL xs) xs.length := fun j hj => by
  have e : nth (absL xs) j = ((nth xs j).natAbs : Int) := by simp [nth, absL, hj]
  rw [e]
  exact h _ (nth_mem hj)
theorem LetM.app {m : Nat} {xs ys : List Int} (h1 : LetM m xs) (h2 : LetM m ys) : LetM m (xs ++ ys) := fun x hx => (List.mem_append.1 hx).elim (h1 x) (h2 x)
theorem LetM.left {m : Nat} {xs ys : List Int} (h : LetM m (xs ++ ys)) : LetM m xs := fun x hx => h x (List.mem_append_left _ hx)
theorem LetM.right {m : Nat} {xs ys : List Int} (h : LetM m (xs ++ ys)) : LetM m ys := fun x hx => h x (List.mem_append_right _ hx)
theorem let_of {m : Nat} {xs : List Int} (h : okW m xs = true) : LetM m xs := fun x hx => by
  have h2 : x ≠ 0 ∧ 1 - (m : Int) ≤ x ∧ x ≤ (m : Int) - 1 := of_decide_eq_true (ok_mem h x hx)
  omega
theorem end_nil {m : Nat} {xs : List Int} (h : LetM m xs) {i : Nat} (hi : i < m) : endF m xs i < m := endF_lt h.let i hi
theorem freeStep_let {m : Nat} {l : List Int} {x : Int} (hl : LetM m l) (hx : LetM m [x]) : LetM m (freeStep l x) := by
  unfold freeStep
  split
  · exact fun y hy => hl y (List.dropLast_subset _ hy)
  · exact hl.app hx
theorem freeStep_end {m : Nat} {l : List Int} {x : Int} (hl : LetM m l) (hx : LetM m [x]) {i : Nat} (hi : i < m) : endF m (freeStep l x) i = endF m (l ++ [x]) i := by
  rcases List.eq_nil_or_concat l with rfl | ⟨q, y, rfl⟩
  · rw [freeStep_nil]; rfl
  · rw [List.concat_eq_append] at hl ⊢
    rw [freeStep_last (x := x) (y := y) (by simp)]
    split
    · rename_i hy
      have hx2 : x = -y := by omega
      subst hx2
      rw [List.dropLast_concat, endF_app hl.let hx.let hi, endF_app hl.left.let hl.right.let hi]
      exact (end_pair hl.right.let (end_nil hl.left hi)).symm
    · rfl
theorem free_ends {m : Nat} : ∀ (xs l : List Int), LetM m l → LetM m xs → (∀ i, i < m → endF m (xs.foldl freeStep l) i = endF m (l ++ xs) i) ∧ LetM m (xs.foldl freeStep l)
  | [], l, hl, _ => ⟨fun i _ => by rw [List.append_nil]; rfl, hl⟩
  | x :: r, l, hl, hx => by
    have h1 : LetM m [x] := fun z hz => hx z (by rw [List.mem_singleton] at hz; rw [hz]; exact List.mem_cons_self)
    have h2 : LetM m r := fun z hz => hx z (List.mem_cons_of_mem _ hz)
    obtain ⟨a, b⟩ := free_ends r (freeStep l x) (freeStep_let hl h1) h2
    refine ⟨fun i hi => ?_, b⟩
    rw [List.foldl_cons, a i hi, endF_app (freeStep_let hl h1).let h2.let hi, freeStep_end hl h1 hi, show l ++ x :: r = (l ++ [x]) ++ r by simp]
    exact (endF_app (hl.app h1).let h2.let hi).symm
/-- what is known of a free form -/
theorem free_facts {m : Nat} {xs : List Int} (h : okW m xs = true) : okW m (freeK xs xs.length) = true ∧ (∀ i, i < m → endF m (freeK xs xs.length) i = endF m xs i) := by
  obtain ⟨a, b⟩ := free_ends xs [] (fun x hx => by cases hx) (let_of h)
  have e : freeK xs xs.length = xs.foldl freeStep [] := by unfold freeK; rw [List.take_length]
  rw [e]
  refine ⟨?_, fun i hi => by rw [a i hi]; rfl⟩
  obtain ⟨q, hq, h1, h8, h2, h3⟩ := okW_true h
  have hb : inB (m : Int) 1 8 = true := by
    cases hb : inB (m : Int) 1 8 with
    | true => rfl
    | false => rw [okW_out hb] at h; cases h
  refine okW_good hb ?_ fun i hi => ?_
  · have := freeK_le xs xs.length (Nat.le_refl _)
    rw [e] at this
    omega
  · have := b _ (nth_mem hi)
    refine decide_eq_true ?_
    omega
theorem red_at : ∀ (l : List Int), Red l → ∀ i, i + 1 < l.length → nth l (i + 1) ≠ -nth l i
  | [], _, i, h => by simp at h
  | [_], _, i, h => by simp at h
  | x :: y :: r, h, 0, _ => h.1
  | x :: y :: r, h, i + 1, hi => red_at (y :: r) h.2 i (by simpa using hi)
/-! ### half turns -/
theorem half_ends : ∀ m, m < 8 → ∀ x, x < m + 1 → endF (m + 1) (halfW m) x = m - x := by decide
theorem full_ends : ∀ m, m < 8 → ∀ x, x < m + 1 → endF (m + 1) (halfW m ++ halfW m) x = x := by decide
theorem half_okW : ∀ m : Nat, m < 8 → okW ((m : Int) + 1) (halfW m) = true ∧ okW ((m : Int) + 1) (halfW m ++ halfW m) = true := by decide
/-- what is known of a half turn -/
theorem half_facts {n : Int} (h : halfC n = 0) : ∃ p : Nat, n = p ∧ halfN' n = p ∧ 1 ≤ p ∧ p ≤ 8 ∧ okW p (halfL n) = true ∧ okW p (halfL n ++ halfL n) = true ∧ (∀ x, x < p → endF p (halfL n) x = p - 1 - x) ∧ rPure p (halfL n ++ halfL n) = .tuple #[.bool true, .int .i64 0] := by
  have hb : inB n 1 8 = true := by
    cases hb : inB n 1 8 with
    | true => rfl
    | false => simp [halfC, hb] at h
  obtain ⟨m, hn, hm, h1, h2, h3⟩ := half_yes hb
  obtain ⟨o1, o2⟩ := half_okW m (by omega)
  have e : ((m + 1 : Nat) : Int) = (m : Int) + 1 := by omega
  refine ⟨m + 1, by omega, by rw [h3]; omega, by omega, by omega, by rw [h1, e]; exact o1, by rw [h1, e]; exact o2, fun x hx => by rw [h1, half_ends m (by omega) x hx]; omega, ?_⟩
  rw [h1, rPure_yes (by rw [e]; exact o2)]
  congr 2
  simp only [Array.mk.injEq, List.cons.injEq, Value.bool.injEq, decide_eq_true_eq, and_true]
  exact fun i hi => full_ends m (by omega) i hi
/-! ### powers -/
theorem good_iff {n k : Int} {xs : List Int} (h : codK n xs k = 0) : okW n xs = true ∧ inB k (-100) 100 = true ∧ k.natAbs * xs.length ≤ 200 ∧ goodK n xs k = true := by
  unfold codK at h
  split at h
  · rename_i h1
    split at h
    · rename_i h2
      split at h
      · rename_i h3
        exact ⟨h1, h2, h3, (pk_4 h1 h2 h3).1⟩
      · simp at h
    · simp at h
  · simp at h
/-- a power and the one ahead of it -/
theorem pow_facts {n k : Int} {xs : List Int} (h : codK n xs k = 0) (hk : 0 < k) : okW n xs = true ∧ okW n (powL xs (k - 1)) = true ∧ (powL xs (k - 1)).length + xs.length ≤ 200 ∧ goodK n xs k = true ∧ goodK n xs (k - 1) = true ∧ codK n xs (k - 1) = 0 ∧ powL xs k = powL xs (k - 1) ++ xs := by
  obtain ⟨h1, h2, h3, h4⟩ := good_iff h
  have hb : -100 ≤ k ∧ k ≤ 100 := by simpa [inB] using h2
  obtain ⟨q, rfl⟩ : ∃ q : Nat, k = (q : Int) + 1 := ⟨(k - 1).toNat, by omega⟩
  have e : ((q : Int) + 1 - 1) = (q : Int) := by omega
  have ea : ((q : Int) + 1).natAbs = q + 1 := by omega
  rw [e]
  rw [ea, Nat.succ_mul] at h3
  have h5 : inB (q : Int) (-100) 100 = true := by simp [inB]; omega
  have h6 : (q : Int).natAbs * xs.length ≤ 200 := by simp; omega
  obtain ⟨g1, g2⟩ := pk_4 h1 h5 h6
  have eb : powB xs ((q : Int) + 1) = xs := by unfold powB; rw [if_neg (by omega)]
  have ec : powB xs (q : Int) = xs := by unfold powB; rw [if_neg (by omega)]
  have hl : (powL xs (q : Int)).length = q * xs.length := by rw [powL_length]; simp
  refine ⟨h1, ?_, by rw [hl]; exact h3, h4, g1, g2, ?_⟩
  · have : ∀ j : Nat, j * xs.length ≤ 200 → okW n (repL xs j) = true := fun j => by
      induction j with
      | zero =>
        intro _
        obtain ⟨m, rfl, m1, m8, _, _⟩ := okW_true h1
        exact okW_good (by simp [inB]; omega) (by simp [repL]) (fun i hi => by simp [repL] at hi)
      | succ j ih =>
        intro hj
        rw [Nat.succ_mul] at hj
        exact ok_prod (ih (by omega)) h1 (by rw [repL_length]; exact hj)
    unfold powL
    rw [ec, Int.natAbs_natCast]
    exact this q (by omega)
  · unfold powL
    rw [eb, ec, ea, Int.natAbs_natCast]
    rfl
end Go.Proofs.YtblpbkfenmkhbaaGreatDoor
