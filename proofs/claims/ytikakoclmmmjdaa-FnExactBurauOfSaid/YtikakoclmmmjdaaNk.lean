/- Bounds of matrices of letters. Conditions: as each theorem says. -/
import Derived.Test.YtikakoclmmmjdaaNg
import Derived.Test.YtikakoclmmmjdaaMa
namespace Go.Proofs.Ytikakoclmmmjdaa
open Go.RowKit
set_option linter.unusedSimpArgs false
set_option linter.unusedVariables false
open Go.RowKit
/-! ## How large the entries are -/
def bdM (m : Nat) (F : Nat → Nat → Int → Int) : Prop := ∀ i, i < m → ∀ j, j < m → sup (F i j) 1000 ∧ ∀ k, -1000000000000 ≤ F i j k ∧ F i j k ≤ 1000000000000
theorem sumT_bd {B : Int} {f : Nat → Int} : ∀ {n : Nat}, (∀ i, i < n → -B ≤ f i ∧ f i ≤ B) → -(n * B) ≤ sumT f n ∧ sumT f n ≤ n * B
  | 0, _ => by simp [sumT]
  | n + 1, h => by
    have h1 := sumT_bd (n := n) (fun i hi => h i (by omega))
    have h2 := h n (by omega)
    simp only [sumT]
    rw [show ((n + 1 : Nat) : Int) * B = n * B + B by rw [Int.natCast_add, Int.add_mul]; simp]
    omega
theorem tiny_val {p : Pol} (h : tiny p) (k : Int) : -1 ≤ val p k ∧ val p k ≤ 1 := by
  unfold val atP
  split
  · exact h.2.2.2.2 _
  · decide
theorem mul_small {a b : Int} (ha : -1000000000000 ≤ a ∧ a ≤ 1000000000000) (hb : -1 ≤ b ∧ b ≤ 1) : -1000000000000 ≤ a * b ∧ a * b ≤ 1000000000000 := by
  rcases (show b = -1 ∨ b = 0 ∨ b = 1 by omega) with rfl | rfl | rfl
  · rw [Int.mul_neg, Int.mul_one]; omega
  · rw [Int.mul_zero]; omega
  · rw [Int.mul_one]; omega
theorem mmF_bd {red : Bool} {m : Nat} (hm : m ≤ 8) {F : Nat → Nat → Int → Int} (hF : bdM m F) (z : Int) {i j : Nat} (hi : i < m) (_hj : j < m) (k : Int) : -24008000000000000 ≤ mmF 1500 F (fun x y => val (stpP red z x y)) i j m k ∧ mmF 1500 F (fun x y => val (stpP red z x y)) i j m k ≤ 24008000000000000 := by
  have h1 := sumT_bd (B := 3001000000000000) (n := m) (f := fun q => cvf 1500 (F i q) (val (stpP red z q j)) k) (fun q hq => by
    have h2 := sumT_bd (B := 1000000000000) (n := 2 * 1500 + 1) (f := fun t => F i q ((t : Int) - (1500 : Nat)) * val (stpP red z q j) (k - ((t : Int) - (1500 : Nat)))) (fun t _ => mul_small ((hF i hi q hq).2 _) (tiny_val (tiny_stp red z q j) _))
    unfold cvf
    omega)
  show -24008000000000000 ≤ sumT (fun q => cvf 1500 (F i q) (val (stpP red z q j)) k) m ∧ sumT (fun q => cvf 1500 (F i q) (val (stpP red z q j)) k) m ≤ _
  have : (m : Int) * 3001000000000000 ≤ 24008000000000000 := by omega
  omega
theorem okL_win {low : Int} {xs : List Int} (h : okL low xs = true) : (xs.length = 0 ∨ (-1000 ≤ low ∧ low + xs.length ≤ 1001)) ∧ allC xs = true := by
  by_cases h0 : xs.length = 0
  · exact ⟨.inl h0, (okL_true h).2.2.2⟩
  · simp only [okL, if_neg h0, Bool.and_eq_true, decide_eq_true_eq] at h
    have h2 := inB_true h.1.1.1.1.2
    have h3 := h.1.1.1.2
    exact ⟨.inr ⟨by omega, by omega⟩, h.2⟩
/-- what is within the limits is told exactly -/
theorem nf_within {f : Int → Int} {N : Nat} {p : Pol} (hp : isNf 9223372036854775808 N f p) (he : ∀ k, rho 9223372036854775808 (f k) = f k) (hok : okL p.1 p.2 = true) : sup f 1000 ∧ ∀ k, -1000000000000 ≤ f k ∧ f k ≤ 1000000000000 := by
  obtain ⟨h1, h2⟩ := okL_win hok
  have hv : ∀ k, f k = val p k := fun k => by rw [hp.v, he]
  refine ⟨fun k hk => ?_, fun k => ?_⟩
  · rw [hv]
    exact val_out p (by omega)
  · rw [hv]
    exact atP_b h2 k
theorem bdM_sup {m : Nat} {F : Nat → Nat → Int → Int} (h : bdM m F) : supM m 1500 F := fun i hi j hj => sup_le (h i hi j hj).1 (by decide)
theorem lmF_rho {red : Bool} {m : Nat} (hm : m ≤ 8) {zs : List Int} {k : Nat} (hF : bdM m (lmF red m zs k)) {i j : Nat} (hi : i < m) (hj : j < m) (t : Int) : -24008000000000000 ≤ lmF red m zs (k + 1) i j t ∧ lmF red m zs (k + 1) i j t ≤ 24008000000000000 := mmF_bd hm hF (nth zs k) hi hj t
theorem lmF_bd {red : Bool} {m : Nat} (hm : m ≤ 8) {zs : List Int} : ∀ k, (∀ q, q < k → allM m (nfM 9223372036854775808 (lmF red m zs (q + 1))) = true) → bdM m (lmF red m zs k)
  | 0, _ => fun i _ j _ => ⟨sup_le (tiny_unit i j).sup (by decide), fun k => by have := tiny_val (tiny_unit i j) k; show -1000000000000 ≤ val (unitP i j) k ∧ val (unitP i j) k ≤ _; omega⟩
  | k + 1, h => fun i hi j hj => by
    have hF := lmF_bd hm k (fun q hq => h q (by omega))
    have h1 := h k (by omega)
    simp only [allM, decide_eq_true_eq] at h1
    have hs := sup_mmF (A := 1500) (F := lmF red m zs k) (i := i) (sup_stp red m (nth zs k)) hj m (Nat.le_refl _)
    exact nf_within (nf_is (h := 9223372036854775808) (by decide) hs) (fun t => rho_in (by have := (lmF_rho hm hF hi hj t).1; exact Int.le_trans (by decide) this) (by have := (lmF_rho hm hF hi hj t).2; exact Int.lt_of_le_of_lt this (by decide))) (h1 i hi j hj)
theorem supL_ok (red : Bool) {m : Nat} (hm : m ≤ 8) (zs : List Int) : supL red false m zs := fun k _ h => bdM_sup (lmF_bd hm k (h rfl))
/-! ## What the functions answer -/
def dimL (red : Bool) (n : Int) : Nat := if red = true then n.toNat - 1 else n.toNat
noncomputable def codL (red : Bool) (n : Int) (xs : List Int) : Int := if okW n xs = true then (if preL red (dimL red n) xs = true then 0 else 3) else 1
theorem codL_bd {red : Bool} {n : Int} {xs : List Int} (h : codL red n xs = 0) (hd : dimL red n ≤ 8) : bdM (dimL red n) (lmF red (dimL red n) xs xs.length) := by
  unfold codL at h
  split at h
  · split at h
    · rename_i h2
      simp only [preL, decide_eq_true_eq] at h2
      exact lmF_bd hd _ h2
    · cases h
  · cases h
theorem dimL_le {red : Bool} {n : Int} {xs : List Int} (h : okW n xs = true) : dimL red n ≤ 8 := by
  have := okW_n h
  unfold dimL
  split <;> omega
theorem codL_ok {red : Bool} {n : Int} {xs : List Int} (h : codL red n xs = 0) : okW n xs = true := by
  unfold codL at h
  split at h
  · assumption
  · cases h
/-- what ReducedBurau and BurauOf answer -/
def RetL (red : Bool) (w : World) (n : Int) (xs : List Int) : Ending → World → Prop := fun e w' => ∃ v', e = .returned (.tuple #[v', .int .i64 (codL red n xs)]) ∧ Below w.heap.size w w' ∧ (codL red n xs = 0 → tabG 50 37 (Co 2) w' w.heap.size v' (plT (dimL red n) (dimL red n) (nfM 9223372036854775808 (lmF red (dimL red n) xs xs.length)))) ∧ (codL red n xs ≠ 0 → v' = .slice none 0 0)
end Go.Proofs.Ytikakoclmmmjdaa
