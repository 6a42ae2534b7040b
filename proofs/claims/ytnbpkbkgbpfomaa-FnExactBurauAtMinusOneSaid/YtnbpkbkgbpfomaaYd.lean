/- Burau's matrix at -1: plain facts. Conditions: as each theorem says. -/
import Derived.Test.YtnbpkbkgbpfomaaYc
import Derived.Test.YtnbpkbkgbpfomaaX2
namespace Go.Proofs.Ytnbpkbkgbpfomaa
open Go.RowKit
set_option linter.unusedSimpArgs false
set_option linter.unusedVariables false
open Go.RowKit
theorem let_b {n : Int} {xs : List Int} (h : okW n xs = true) {k : Nat} (hk : k < xs.length) : nth xs k ≠ 0 ∧ 1 - n ≤ nth xs k ∧ nth xs k ≤ n - 1 := by
  obtain ⟨m, rfl, h1, h8, _, h2⟩ := okW_true h
  have := h2 k hk
  simpa only [isL, decide_eq_true_eq] using this
/-- a letter's matrix at -1, times a row -/
def stepF (F : Nat → Nat → Int) (p : Nat) (s : Int) : Nat → Nat → Int := fun i j => if j + 1 = p then F i j - F i p * s else if j = p + 1 then F i j + F i p * s else F i j
def burF (xs : List Int) : Nat → Nat → Nat → Int
  | 0 => fun i j => if j = i then 1 else 0
  | k + 1 => stepF (burF xs k) ((nth xs k).natAbs - 1) (sgn (nth xs k))
def okF (r : Nat) (F : Nat → Nat → Int) : Bool := decide (∀ i, i < r → ∀ j, j < r → inB (F i j) (-1000000000000) 1000000000000 = true)
def goodB (r : Nat) (xs : List Int) : Nat → Bool
  | 0 => true
  | k + 1 => goodB r xs k && okF r (burF xs (k + 1))
theorem okF_at {r F} (h : okF r F = true) {i j : Nat} (hi : i < r) (hj : j < r) : -1000000000000 ≤ F i j ∧ F i j ≤ 1000000000000 := by
  simp only [okF, decide_eq_true_eq] at h
  exact inB_true (h i hi j hj)
theorem okF_no {r F} {i j : Nat} (hi : i < r) (hj : j < r) (h : inB (F i j) (-1000000000000) 1000000000000 = false) : okF r F = false := by
  simp only [okF, decide_eq_false_iff_not]
  intro h2
  rw [h2 i hi j hj] at h; cases h
theorem okF_yes {r F} (h : ∀ i, i < r → ∀ j, j < r → inB (F i j) (-1000000000000) 1000000000000 = true) : okF r F = true := by simpa [okF] using h
theorem goodB_ok {r xs k} (h : goodB r xs k = true) : okF r (burF xs k) = true := by
  cases k with
  | zero => exact okF_yes fun i hi j hj => by show inB (if j = i then 1 else 0) _ _ = true; split <;> rfl
  | succ k => simp only [goodB, Bool.and_eq_true] at h; exact h.2
theorem goodB_no {r xs k} (h : goodB r xs k = false) : ∀ l, k ≤ l → goodB r xs l = false := by
  intro l
  induction l with
  | zero => intro hl; rw [Nat.le_zero.1 hl] at h; exact h
  | succ l ih =>
    intro hl
    by_cases e : k = l + 1
    · subst e; exact h
    · simp [goodB, ih (by omega)]
theorem goodB_bad {r xs k} (h : okF r (burF xs (k + 1)) = false) {l} (hl : k < l) : goodB r xs l = false := goodB_no (k := k + 1) (by simp [goodB, h]) l hl
theorem goodB_succ {r xs k} (h : goodB r xs k = true) (h2 : okF r (burF xs (k + 1)) = true) : goodB r xs (k + 1) = true := by simp [goodB, h, h2]
/-- what BurauAtMinusOne answers -/
def burM (r : Nat) (xs : List Int) : List (List Int) := if goodB r xs xs.length = true then tabL r (burF xs xs.length) else []
def burL (n : Int) (xs : List Int) : List (List Int) := if okW n xs = true then burM (n.toNat - 1) xs else []
def burD (r : Nat) (xs : List Int) : Int := if goodB r xs xs.length = true then 0 else 3
def burC (n : Int) (xs : List Int) : Int := if okW n xs = true then burD (n.toNat - 1) xs else 1
theorem burL_le {n : Int} {xs : List Int} : (burL n xs).length ≤ 8 := by
  unfold burL burM
  split
  · rename_i h
    have := okW_n h
    split
    · rw [tabL_length]; omega
    · simp
  · simp
theorem burL_row {n : Int} {xs : List Int} {i : Nat} : (rowOf (burL n xs) i).length ≤ 8 := by
  unfold burL burM
  split
  · rename_i h
    have := okW_n h
    split
    · by_cases hi : i < n.toNat - 1
      · rw [rowOf_len hi]; omega
      · simp only [rowOf, tabL, List.getD_eq_getElem?_getD, List.getElem?_map]
        rw [List.getElem?_eq_none (by simp; omega)]
        simp
    · simp [rowOf]
  · simp [rowOf]
/-- the value at -1 of an entry of a letter's matrix -/
def bvE (z : Int) (i j : Nat) : Int := sumV (smallP z i j).1 (-1) (smallP z i j).2 (smallP z i j).2.length
theorem small_cases (z : Int) (i j : Nat) : smallP z i j = (0, []) ∨ (∃ l, (l = 1 ∨ l = 0 ∨ l = -1) ∧ (smallP z i j = (l, [1]) ∨ smallP z i j = (l, [-1]))) := by
  unfold smallP setT
  by_cases h1 : i = z.natAbs - 1
  · simp only [if_pos h1, smallR, sideA, sideB, sgn]
    by_cases h2 : j = z.natAbs - 1
    · simp only [if_pos h2]
      exact .inr ⟨if 0 < z then 1 else -1, by split <;> simp, .inr rfl⟩
    · simp only [if_neg h2]
      by_cases h3 : j + 1 = z.natAbs - 1
      · simp only [if_pos h3]
        exact .inr ⟨if 0 < z then 1 else 0, by split <;> simp, .inl rfl⟩
      · simp only [if_neg h3]
        by_cases h4 : j = z.natAbs - 1 + 1
        · simp only [if_pos h4]
          exact .inr ⟨if 0 < z then 0 else -1, by split <;> simp, .inl rfl⟩
        · simp only [if_neg h4]
          exact .inl trivial
  · simp only [if_neg h1, unitP]
    by_cases h2 : j = i
    · simp only [if_pos h2]
      exact .inr ⟨0, by simp, .inl rfl⟩
    · simp only [if_neg h2]
      exact .inl trivial
theorem small_facts (z : Int) (i j : Nat) : (smallP z i j).2.length ≤ 2001 ∧ -1000 ≤ (smallP z i j).1 ∧ (smallP z i j).1 ≤ 1000 ∧ allC (smallP z i j).2 = true := by
  rcases small_cases z i j with h | ⟨l, hl, h | h⟩ <;> rw [h]
  · exact ⟨by simp, by simp, by simp, by decide⟩
  · exact ⟨by simp, by simp; omega, by simp; omega, show allC [1] = true by decide⟩
  · exact ⟨by simp, by simp; omega, by simp; omega, show allC [-1] = true by decide⟩
theorem bv_own {z : Int} {i j : Nat} (hz : z ≠ 0) (hi : i ≠ z.natAbs - 1) : bvE z i j = if j = i then 1 else 0 := by
  unfold bvE
  have e : smallP z i j = if j = i then (0, [1]) else (0, []) := by simp only [smallP, setT, if_neg hi, unitP]
  rw [e]
  by_cases h : j = i
  · simp only [if_pos h]; decide
  · simp only [if_neg h]; decide
theorem bv_row {z : Int} {j : Nat} (hz : z ≠ 0) : bvE z (z.natAbs - 1) j = if j = z.natAbs - 1 then 1 else if j + 1 = z.natAbs - 1 then -(sgn z) else if j = z.natAbs - 1 + 1 then sgn z else 0 := by
  unfold bvE
  have e : smallP z (z.natAbs - 1) j = smallR z (z.natAbs - 1) j := by simp only [smallP, setT, if_pos]
  rw [e]
  simp only [smallR, sideA, sideB, sgn]
  by_cases h1 : j = z.natAbs - 1
  · simp only [if_pos h1]
    by_cases h0 : 0 < z
    · simp only [if_pos h0]; decide
    · simp only [if_neg h0]; decide
  · simp only [if_neg h1]
    by_cases h2 : j + 1 = z.natAbs - 1
    · simp only [if_pos h2]
      by_cases h0 : 0 < z
      · simp only [if_pos h0]; decide
      · simp only [if_neg h0]; decide
    · simp only [if_neg h2]
      by_cases h3 : j = z.natAbs - 1 + 1
      · simp only [if_pos h3]
        by_cases h0 : 0 < z
        · simp only [if_pos h0]; decide
        · simp only [if_neg h0]; decide
      · simp only [if_neg h3]; decide
theorem bv_le {z : Int} {i j : Nat} (hz : z ≠ 0) : bvE z i j = 1 ∨ bvE z i j = 0 ∨ bvE z i j = -1 := by
  by_cases hi : i = z.natAbs - 1
  · subst hi
    rw [bv_row hz]
    unfold sgn
    (repeat' split) <;> omega
  · rw [bv_own hz hi]
    split <;> omega
/-- the sums of the first products -/
def psF (F : Nat → Nat → Int) (z : Int) (i j : Nat) : Nat → Int
  | 0 => 0
  | k + 1 => psF F z i j k + F i k * bvE z k j
theorem psF_eq {F : Nat → Nat → Int} {z : Int} {i j : Nat} (hz : z ≠ 0) (k : Nat) : psF F z i j k = (if j < k ∧ j ≠ z.natAbs - 1 then F i j else 0) + (if z.natAbs - 1 < k then F i (z.natAbs - 1) * bvE z (z.natAbs - 1) j else 0) := by
  induction k with
  | zero => simp [psF]
  | succ k ih =>
    simp only [psF, ih]
    by_cases hk : k = z.natAbs - 1
    · rw [if_neg (show ¬ z.natAbs - 1 < k by omega), if_pos (show z.natAbs - 1 < k + 1 by omega), ← hk]
      by_cases h : j < k ∧ j ≠ k
      · rw [if_pos h, if_pos (show j < k + 1 ∧ j ≠ k by omega)]; omega
      · rw [if_neg h, if_neg (show ¬ (j < k + 1 ∧ j ≠ k) by omega)]; omega
    · rw [bv_own hz hk]
      have e : (z.natAbs - 1 < k) = (z.natAbs - 1 < k + 1) := propext ⟨by omega, by omega⟩
      simp only [e]
      by_cases hj : j = k
      · subst hj
        rw [if_neg (show ¬ (j < j ∧ j ≠ z.natAbs - 1) by omega), if_pos (show j < j + 1 ∧ j ≠ z.natAbs - 1 by omega), if_pos rfl]
        omega
      · rw [if_neg hj, Int.mul_zero, Int.add_zero]
        have e2 : (j < k ∧ j ≠ z.natAbs - 1) = (j < k + 1 ∧ j ≠ z.natAbs - 1) := propext ⟨by omega, by omega⟩
        simp only [e2]
theorem psF_all {F : Nat → Nat → Int} {z : Int} {i j r : Nat} (hz : z ≠ 0) (hr : z.natAbs ≤ r) (hj : j < r) : psF F z i j r = stepF F (z.natAbs - 1) (sgn z) i j := by
  rw [psF_eq hz, bv_row hz, if_pos (show z.natAbs - 1 < r by omega)]
  unfold stepF
  by_cases h1 : j = z.natAbs - 1
  · rw [if_neg (by omega), if_pos h1, if_neg (by omega), if_neg (by omega), h1]; omega
  · rw [if_pos ⟨hj, h1⟩, if_neg h1]
    by_cases h2 : j + 1 = z.natAbs - 1
    · rw [if_pos h2, if_pos h2, Int.mul_neg]; omega
    · rw [if_neg h2, if_neg h2]
      by_cases h3 : j = z.natAbs - 1 + 1
      · rw [if_pos h3, if_pos h3]
      · rw [if_neg h3, if_neg h3, Int.mul_zero, Int.add_zero]
theorem psF_le {F : Nat → Nat → Int} {z : Int} {i j r : Nat} (hz : z ≠ 0) (h : ∀ t, t < r → -1000000000000 ≤ F i t ∧ F i t ≤ 1000000000000) : ∀ k : Nat, k ≤ r → -1000000000000 * (k : Int) ≤ psF F z i j k ∧ psF F z i j k ≤ 1000000000000 * (k : Int) := by
  intro k
  induction k with
  | zero => intro _; simp [psF]
  | succ k ih =>
    intro hk
    have h1 := ih (by omega)
    have h2 := h k (by omega)
    simp only [psF]
    rcases bv_le (i := k) (j := j) hz with e | e | e <;> rw [e] <;> simp only [Int.mul_one, Int.mul_zero, Int.mul_neg] <;> push_cast <;> omega
theorem prod_le {F : Nat → Nat → Int} {z : Int} {i j k : Nat} (hz : z ≠ 0) (h : -1000000000000 ≤ F i k ∧ F i k ≤ 1000000000000) : -1000000000000 ≤ F i k * bvE z k j ∧ F i k * bvE z k j ≤ 1000000000000 := by
  rcases bv_le (i := k) (j := j) hz with e | e | e <;> rw [e] <;> simp only [Int.mul_one, Int.mul_zero, Int.mul_neg] <;> omega
theorem tabG.other {S T : TypeId} {C : Cont} {w w' : World} {B : Nat} {v : Value} {M : List (List Pol)} {row : Option Nat} (h : tabG S T C w B v M) (hg : w.grownBy w' row) (hr : ∀ k, row = some k → ∃ c t, w.heap[k]? = some (.cells c t (0, 0)) ∧ t ≠ S ∧ t ≠ T) (hC : ∀ x xs, C w x xs → C w' x xs) : tabG S T C w' B v M := by
  obtain ⟨vs, h1, h2, h3, h4⟩ := h
  refine ⟨vs, h1, h2.kept hg ?_, fun i hi => (h3 i hi).kept hg (fun k hk e => ?_) hC, h4⟩
  · cases hv : v.ownBlock with
    | none => exact .inl rfl
    | some k =>
      refine .inr fun e => ?_
      obtain ⟨c, t, hk, ht, _⟩ := hr k e.symm
      obtain ⟨c2, hk2⟩ := row_block h2 hv
      exact block_ne ht hk hk2 rfl
  · obtain ⟨c, t, hk1, _, ht⟩ := hr k e
    obtain ⟨c2, hk2⟩ := (h3 i hi).block hk
    exact block_ne ht hk1 hk2 rfl
/-- a table of polynomials stays while a table of numbers is written -/
theorem tabG.beside {S T e E' : TypeId} {w w' : World} {B B' : Nat} {v v' : Value} {M : List (List Pol)} {M' : List (List Int)} (h : tabG S T (Co e) w B v M) (h' : tab E' e w B' v' M') (hS : E' ≠ S) (hT : E' ≠ T) (hE : E' ≠ e) (hg : w.grownBy w' v'.ownBlock) : tabG S T (Co e) w' B v M := by
  obtain ⟨vs, h1, h2, _⟩ := h'
  have hb : ∀ k, v'.ownBlock = some k → ∃ c t, w.heap[k]? = some (.cells c t (0, 0)) ∧ t = E' := fun k hk => by
    obtain ⟨c, hc⟩ := row_block h2 hk
    exact ⟨c, E', hc, rfl⟩
  refine h.other hg (fun k hk => ?_) (fun x xs hx => own.apart hx hg fun k hk e => ?_)
  · obtain ⟨c, t, hc, rfl⟩ := hb k hk
    exact ⟨c, t, hc, hS, hT⟩
  · obtain ⟨c, t, hc, rfl⟩ := hb k e
    obtain ⟨c2, hc2⟩ := own_block hx hk
    exact block_ne hE hc hc2 rfl
theorem unit_row (r k : Nat) (xs : List Int) : (List.replicate r (0 : Int)).set k 1 = (List.range r).map (burF xs 0 k) := by
  apply List.ext_getElem (by simp)
  intro j h1 h2
  rw [List.getElem_set]
  by_cases e : k = j
  · subst e; simp [burF]
  · have : ¬ j = k := fun h => e h.symm
    simp [burF, e, this]
end Go.Proofs.Ytnbpkbkgbpfomaa
