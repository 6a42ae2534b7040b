/- Matrices of letters as functions. Conditions: as each theorem says. -/
import Derived.Test.YtikakoclmmmjdaaNf
namespace Go.Proofs.Ytikakoclmmmjdaa
open Go.RowKit
set_option linter.unusedSimpArgs false
set_option linter.unusedVariables false
open Go.RowKit
theorem nf_val {h : Int} (h0 : 0 < h) {p : Pol} {N : Nat} (ht : isT p) (h1 : -(N : Int) ≤ p.1) (h2 : p.1 + p.2.length ≤ N + 1) (h3 : p.1 ≤ N) (hb : ∀ i, -h ≤ nth p.2 i ∧ nth p.2 i < h) : nf h (val p) = p :=
  nf_eq h0 (N := N) (M := N) (fun k hk => val_out p (by omega)) ⟨ht, h1, h2, h3, fun k => by
    have := atP_bd (n := p.1) h0 hb k
    exact (rho_in this.1 this.2).symm⟩
/-- pairs with at most two small numbers -/
def tiny (p : Pol) : Prop := isT p ∧ -1 ≤ p.1 ∧ p.1 + p.2.length ≤ 2 ∧ p.1 ≤ 1 ∧ ∀ i, -1 ≤ nth p.2 i ∧ nth p.2 i ≤ 1
theorem tiny_0 (l : Int) (h : l = 0) : tiny (l, []) := ⟨.inl ⟨rfl, h⟩, by simp; omega, by simp; omega, by simp; omega, fun i => by rw [nth_nil]; decide⟩
theorem tiny_1 {l c : Int} (h1 : -1 ≤ l) (h2 : l ≤ 1) (hc : c = 1 ∨ c = -1) : tiny (l, [c]) := by
  refine ⟨.inr ⟨by simp, ?_, ?_⟩, h1, by simp; omega, h2, fun i => ?_⟩
  · show nth [c] 0 ≠ 0
    rw [nth_zero]; omega
  · show nth [c] 0 ≠ 0
    rw [nth_zero]; omega
  · cases i with
    | zero => rw [nth_zero]; omega
    | succ i => rw [nth_succ, nth_nil]; decide
theorem tiny_2 {l c d : Int} (h1 : -1 ≤ l) (h2 : l ≤ 0) (hc : c = 1 ∨ c = -1) (hd : d = 1 ∨ d = -1) : tiny (l, [c, d]) := by
  refine ⟨.inr ⟨by simp, ?_, ?_⟩, h1, by simp; omega, by simp; omega, fun i => ?_⟩
  · show nth [c, d] 0 ≠ 0
    rw [nth_zero]; omega
  · show nth [c, d] 1 ≠ 0
    rw [nth_succ, nth_zero]; omega
  · match i with
    | 0 => rw [nth_zero]; omega
    | 1 => rw [nth_succ, nth_zero]; omega
    | i + 2 => rw [nth_succ, nth_succ, nth_nil]; decide
theorem tiny.sup {p : Pol} (h : tiny p) : sup (val p) 1 := fun k hk => val_out p (by have := h.2.1; have := h.2.2.1; omega)
theorem tiny.nf {p : Pol} (h : tiny p) {H : Int} (h0 : 2 ≤ H) : nf H (val p) = p := nf_val (N := 1) (by omega) h.1 h.2.1 (by have := h.2.2.1; omega) h.2.2.2.1 fun i => by have := h.2.2.2.2 i; omega
theorem tiny_ite {c : Prop} [Decidable c] {p q : Pol} (hp : tiny p) (hq : tiny q) : tiny (if c then p else q) := by split <;> assumption
theorem tiny_unit (i j : Nat) : tiny (unitP i j) := by
  unfold unitP
  exact tiny_ite (tiny_1 (by decide) (by decide) (.inl rfl)) (tiny_0 _ rfl)
theorem tiny_small (z : Int) (i j : Nat) : tiny (smallP z i j) := by
  unfold smallP setT
  by_cases h : i = z.natAbs - 1
  · rw [if_pos h]
    unfold smallR sideA sideB sgn
    refine tiny_ite (tiny_1 ?_ ?_ (.inr rfl)) (tiny_ite (tiny_1 ?_ ?_ (.inl rfl)) (tiny_ite (tiny_1 ?_ ?_ (.inl rfl)) (tiny_0 _ rfl))) <;> (repeat' split) <;> decide
  · rw [if_neg h]; exact tiny_unit i j
theorem tiny_letter (z : Int) (i j : Nat) : tiny (letterP z i j) := by
  unfold letterP setT
  by_cases h : i = z.natAbs
  · rw [if_pos h]
    unfold letQ
    exact tiny_ite (tiny_ite (tiny_1 (by decide) (by decide) (.inl rfl)) (tiny_1 (by decide) (by decide) (.inl rfl))) (tiny_ite (tiny_ite (tiny_0 _ rfl) (tiny_2 (by decide) (by decide) (.inr rfl) (.inl rfl))) (tiny_0 _ rfl))
  · rw [if_neg h]
    by_cases h : i = z.natAbs - 1
    · rw [if_pos h]
      unfold letR
      exact tiny_ite (tiny_ite (tiny_2 (by decide) (by decide) (.inl rfl) (.inr rfl)) (tiny_0 _ rfl)) (tiny_ite (tiny_ite (tiny_1 (by decide) (by decide) (.inl rfl)) (tiny_1 (by decide) (by decide) (.inl rfl))) (tiny_0 _ rfl))
    · rw [if_neg h]; exact tiny_unit i j
/-- the entries of a letter's matrix, reduced or not -/
def stpP (red : Bool) (z : Int) (i j : Nat) : Pol := if red = true then smallP z i j else letterP z i j
theorem tiny_stp (red : Bool) (z : Int) (i j : Nat) : tiny (stpP red z i j) := tiny_ite (tiny_small z i j) (tiny_letter z i j)
theorem sup_stp (red : Bool) (m : Nat) (z : Int) : supM m 1 (fun x y => val (stpP red z x y)) := fun i _ j _ => (tiny_stp red z i j).sup
/-- the matrix of the first k letters -/
def lmF (red : Bool) (m : Nat) (zs : List Int) : Nat → Nat → Nat → Int → Int
  | 0 => fun i j => val (unitP i j)
  | k + 1 => fun i j => mmF 1500 (lmF red m zs k) (fun x y => val (stpP red (nth zs k) x y)) i j m
theorem lmF_succ (red : Bool) (m : Nat) (zs : List Int) (k : Nat) : lmF red m zs (k + 1) = fun i j => mmF 1500 (lmF red m zs k) (fun x y => val (stpP red (nth zs k) x y)) i j m := rfl
theorem nfM_unit : nfM 9223372036854775808 (fun i j => val (unitP i j)) = unitP := by
  funext i j
  exact (tiny_unit i j).nf (by decide)
theorem nfM_stp (red : Bool) (z : Int) : nfM 9223372036854775808 (fun i j => val (stpP red z i j)) = stpP red z := by
  funext i j
  exact (tiny_stp red z i j).nf (by decide)
/-- are those of all beginnings within the limits? -/
noncomputable def preL (red : Bool) (m : Nat) (zs : List Int) : Bool := decide (∀ k, k < zs.length → allM m (nfM 9223372036854775808 (lmF red m zs (k + 1))) = true)
theorem preL_bad {red : Bool} {m : Nat} {zs : List Int} {k : Nat} (hk : k < zs.length) (h : allM m (nfM 9223372036854775808 (lmF red m zs (k + 1))) = false) : preL red m zs = false := by
  simp only [preL, decide_eq_false_iff_not]
  intro h2
  rw [h2 k hk] at h
  cases h
theorem preL_good {red : Bool} {m : Nat} {zs : List Int} (h : ∀ k, k < zs.length → allM m (nfM 9223372036854775808 (lmF red m zs (k + 1))) = true) : preL red m zs = true := decide_eq_true h
/-- letters of m strands and k more -/
def letsM (m : Nat) (zs : List Int) : Prop := ∀ i, i < zs.length → nth zs i ≠ 0 ∧ (nth zs i).natAbs ≤ m
/-- no powers beyond 1500, as long as what was there is within the limits -/
def supL (red wd : Bool) (m : Nat) (zs : List Int) : Prop := ∀ k, k ≤ zs.length → (wd = false → ∀ q, q < k → allM m (nfM 9223372036854775808 (lmF red m zs (q + 1))) = true) → supM m 1500 (lmF red m zs k)
theorem fit_nfM {m N : Nat} {F : Nat → Nat → Int → Int} (h : supM m N F) (hN : N ≤ 4000) : fitM m (nfM 9223372036854775808 F) := fun i hi j hj => by
  have := nf_is (h := 9223372036854775808) (by decide) (h i hi j hj)
  exact ⟨by have := this.len; show (nf _ _).2.length ≤ _; omega, this.fits⟩
end Go.Proofs.Ytikakoclmmmjdaa
