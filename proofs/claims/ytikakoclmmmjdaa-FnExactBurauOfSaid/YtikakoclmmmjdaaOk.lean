/- Letters' matrices behind a row: both sides agree. Conditions: as each theorem says. -/
import Derived.Test.YtikakoclmmmjdaaNg
import Derived.Test.YtikakoclmmmjdaaOf
namespace Go.Proofs.Ytikakoclmmmjdaa
open Go.RowKit
set_option linter.unusedSimpArgs false
set_option linter.unusedVariables false
open Go.RowKit
theorem sumT_one {h : Nat → Int} {n a : Nat} (ha : a < n) (h0 : ∀ i, i < n → i ≠ a → h i = 0) : sumT h n = h a := by
  rw [sumT_win (a := a) (len := 1) (by omega) (fun i hi hn => h0 i hi (by omega))]
  simp [sumT]
theorem sumT_two {h : Nat → Int} {n a b : Nat} (ha : a < n) (hb : b < n) (hab : a ≠ b) (h0 : ∀ i, i < n → i ≠ a → i ≠ b → h i = 0) : sumT h n = h a + h b := by
  have e : sumT h n = sumT (fun i => (if i = a then h i else 0) + (if i = a then 0 else h i)) n := sumT_ext fun i _ => by
    split <;> omega
  rw [e, sumT_add, sumT_one ha (fun i _ hn => if_neg hn), sumT_one (a := b) hb (fun i hi hn => by
    by_cases h1 : i = a
    · rw [if_pos h1]
    · rw [if_neg h1]; exact h0 i hi h1 hn)]
  show (if a = a then h a else 0) + (if b = a then 0 else h b) = h a + h b
  rw [if_pos rfl, if_neg (Ne.symm hab)]
theorem val_one (l c k : Int) : val (l, [c]) k = if k = l then c else 0 := by
  unfold val atP
  by_cases h : k = l
  · subst h
    rw [if_pos (by simp; omega), if_pos rfl, show (k - k).toNat = 0 by omega, nth_zero]
  · rw [if_neg (by simp; omega), if_neg h]
theorem val_two (l c d k : Int) : val (l, [c, d]) k = val (l, [c]) k + val (l + 1, [d]) k := by
  rw [val_one, val_one]
  unfold val atP
  by_cases h : k = l
  · subst h
    rw [if_pos (by simp; omega), if_pos rfl, if_neg (by omega), show (k - k).toNat = 0 by omega, nth_zero]; omega
  · by_cases h2 : k = l + 1
    · subst h2
      rw [if_pos (by simp; omega), if_neg h, if_pos rfl, show (l + 1 - l).toNat = 1 by omega, nth_succ, nth_zero]; omega
    · rw [if_neg (by simp; omega), if_neg h, if_neg h2]; rfl
theorem cvf_one {A : Nat} {f : Int → Int} (hf : sup f A) (l c z : Int) : cvf A f (val (l, [c])) z = c * f (z - l) := by
  unfold cvf
  by_cases h : -(A : Int) ≤ z - l ∧ z - l ≤ A
  · obtain ⟨a, ha⟩ : ∃ a : Nat, z - l + A = a := ⟨(z - l + A).toNat, by omega⟩
    rw [sumT_one (a := a) (by omega) (fun i _ hn => by rw [val_one, if_neg (by omega), Int.mul_zero]), val_one, if_pos (by omega), show (a : Int) - A = z - l by omega, Int.mul_comm]
  · rw [hf (z - l) (by omega), Int.mul_zero]
    exact sumT_zero fun i hi => by rw [val_one, if_neg (by omega), Int.mul_zero]
theorem cvf_nil (A : Nat) (f : Int → Int) (l z : Int) : cvf A f (val (l, [])) z = 0 := sumT_zero fun i _ => by rw [val_nil, Int.mul_zero]
theorem cvf_two {A : Nat} {f : Int → Int} (hf : sup f A) (l c d z : Int) : cvf A f (val (l, [c, d])) z = c * f (z - l) + d * f (z - (l + 1)) := by
  rw [← cvf_one hf, ← cvf_one hf]
  unfold cvf
  rw [← sumT_add]
  exact sumT_ext fun i _ => by rw [val_two, Int.mul_add]
/-- the reduced matrix of a letter behind a row -/
theorem stR_law {m : Nat} {F : Nat → Nat → Int → Int} {z : Int} {i j : Nat} (hF : ∀ q, q < m → sup (F i q) 1500) (hj : j < m) (hz0 : z ≠ 0) (hz : z.natAbs ≤ m) : mmF 1500 F (fun x y => val (stpP true z x y)) i j m = stR z (F i) j := by
  funext t
  obtain ⟨p, hp⟩ : ∃ p, z.natAbs = p + 1 := ⟨z.natAbs - 1, by omega⟩
  show sumT (fun q => cvf 1500 (F i q) (val (smallP z q j)) t) m = stR z (F i) j t
  have hq : ∀ q, q < m → q ≠ p → cvf 1500 (F i q) (val (smallP z q j)) t = if j = q then F i q t else 0 := fun q hqm hqp => by
    have e : smallP z q j = unitP q j := by
      unfold smallP setT
      rw [if_neg (by omega)]
    rw [e]
    unfold unitP
    by_cases h : j = q
    · rw [if_pos h, if_pos h, cvf_one (hF q hqm), Int.one_mul, Int.sub_zero]
    · rw [if_neg h, if_neg h, cvf_nil]
  have hpp : cvf 1500 (F i p) (val (smallP z p j)) t = if j = p then -F i p (t - sgn z) else if j + 1 = p then F i p (t - (if 0 < z then 1 else 0)) else if j = p + 1 then F i p (t - (if 0 < z then 0 else -1)) else 0 := by
    have e : smallP z p j = smallR z p j := by
      unfold smallP setT
      rw [if_pos (by omega), hp, Nat.add_sub_cancel]
    rw [e]
    unfold smallR sideA sideB
    by_cases h1 : j = p
    · rw [if_pos h1, if_pos h1, cvf_one (hF p (by omega)), Int.neg_mul, Int.one_mul]
    · rw [if_neg h1, if_neg h1]
      by_cases h2 : j + 1 = p
      · rw [if_pos h2, if_pos h2, cvf_one (hF p (by omega)), Int.one_mul]
      · rw [if_neg h2, if_neg h2]
        by_cases h3 : j = p + 1
        · rw [if_pos h3, if_pos h3, cvf_one (hF p (by omega)), Int.one_mul]
        · rw [if_neg h3, if_neg h3, cvf_nil]
  unfold stR
  rw [hp]
  by_cases h1 : j = p
  · rw [sumT_one (a := p) (by omega) (fun q hqm hqp => by rw [hq q hqm hqp, if_neg (by omega)]), hpp, if_pos h1, if_pos (show j + 1 = p + 1 by omega)]
    subst h1
    show -F i j (t - sgn z) = -F i j (t - (if 0 < z then 1 else -1))
    unfold sgn
    by_cases h : 0 < z
    · rw [if_pos h]
    · rw [if_neg h]
  · rw [sumT_two (a := p) (b := j) (by omega) hj (fun e => h1 e.symm) (fun q hqm hqp hqj => by rw [hq q hqm hqp, if_neg (fun e => hqj e.symm)]), hq j hj h1, if_pos rfl, hpp, if_neg h1, if_neg (show ¬ j + 1 = p + 1 by omega)]
    by_cases h2 : j + 1 = p
    · rw [if_pos h2, if_pos (show j + 2 = p + 1 by omega)]
      subst h2
      show F i (j + 1) (t - (if 0 < z then 1 else 0)) + F i j t = F i j t + (if 0 < z then shF 1 (F i (j + 1)) else F i (j + 1)) t
      by_cases h : 0 < z
      · rw [if_pos h, if_pos h]; show F i (j + 1) (t - 1) + F i j t = F i j t + F i (j + 1) (t - 1); omega
      · rw [if_neg h, if_neg h, Int.sub_zero]; omega
    · rw [if_neg h2, if_neg (show ¬ j + 2 = p + 1 by omega)]
      by_cases h3 : j = p + 1
      · rw [if_pos h3, if_pos h3]
        subst h3
        show F i p (t - (if 0 < z then 0 else -1)) + F i (p + 1) t = F i (p + 1) t + (if 0 < z then F i p else shF (-1) (F i p)) t
        by_cases h : 0 < z
        · rw [if_pos h, if_pos h, Int.sub_zero]; omega
        · rw [if_neg h, if_neg h]; show F i p (t - -1) + F i (p + 1) t = F i (p + 1) t + F i p (t - -1); omega
      · rw [if_neg h3, if_neg h3]; omega
/-- Burau's matrix of a letter behind a row -/
def stB (z : Int) (f : Nat → Int → Int) : Nat → Int → Int := fun j =>
  if j + 1 = z.natAbs then (if 0 < z then adF (adF (f j) (ngF (shF 1 (f j)))) (f (j + 1)) else shF (-1) (f (j + 1)))
  else if j = z.natAbs then (if 0 < z then shF 1 (f (j - 1)) else adF (adF (f (j - 1)) (f j)) (ngF (shF (-1) (f j))))
  else f j
theorem sup_stB {m N : Nat} {f : Nat → Int → Int} {z : Int} (h : supR m N f) (hz0 : z ≠ 0) (hz : z.natAbs + 1 ≤ m) : supR m (N + 1) (stB z f) := fun j hj => by
  unfold stB
  split
  · split
    · exact sup_adF (sup_adF (sup_le (h j hj) (by omega)) (sup_ngF (sup_shF (h j hj) (by decide) (by decide)))) (sup_le (h _ (by omega)) (by omega))
    · exact sup_shF (h _ (by omega)) (by decide) (by decide)
  · split
    · split
      · exact sup_shF (h _ (by omega)) (by decide) (by decide)
      · exact sup_adF (sup_adF (sup_le (h _ (by omega)) (by omega)) (sup_le (h j hj) (by omega))) (sup_ngF (sup_shF (h j hj) (by decide) (by decide)))
    · exact sup_le (h j hj) (by omega)
theorem stB_law {m : Nat} {F : Nat → Nat → Int → Int} {z : Int} {i j : Nat} (hF : ∀ q, q < m → sup (F i q) 1500) (hj : j < m) (hz0 : z ≠ 0) (hz : z.natAbs + 1 ≤ m) : mmF 1500 F (fun x y => val (stpP false z x y)) i j m = stB z (F i) j := by
  funext t
  obtain ⟨p, hp⟩ : ∃ p, z.natAbs = p + 1 := ⟨z.natAbs - 1, by omega⟩
  show sumT (fun q => cvf 1500 (F i q) (val (letterP z q j)) t) m = stB z (F i) j t
  have hq : ∀ q, q < m → q ≠ p → q ≠ p + 1 → cvf 1500 (F i q) (val (letterP z q j)) t = if j = q then F i q t else 0 := fun q hqm hqp hqp1 => by
    have e : letterP z q j = unitP q j := by
      unfold letterP setT
      rw [if_neg (by omega), if_neg (by omega)]
    rw [e]
    unfold unitP
    by_cases h : j = q
    · rw [if_pos h, if_pos h, cvf_one (hF q hqm), Int.one_mul, Int.sub_zero]
    · rw [if_neg h, if_neg h, cvf_nil]
  have e0 : letterP z p j = letR z p j := by
    unfold letterP setT
    rw [if_neg (by omega), if_pos (by omega), hp, Nat.add_sub_cancel]
  have e1 : letterP z (p + 1) j = letQ z p j := by
    unfold letterP setT
    rw [if_pos (by omega), hp, Nat.add_sub_cancel]
  unfold stB
  rw [hp]
  by_cases h1 : j = p
  · rw [sumT_two (a := p) (b := p + 1) (by omega) (by omega) (by omega) (fun q hqm hqp hqp1 => by rw [hq q hqm hqp hqp1, if_neg (by omega)]), e0, e1, if_pos (by omega)]
    unfold letR letQ
    rw [if_pos h1, if_pos h1]
    subst h1
    by_cases h : 0 < z
    · rw [if_pos h, if_pos h, if_pos h, cvf_two (hF j (by omega)), cvf_one (hF (j + 1) (by omega))]
      show 1 * F i j (t - 0) + -1 * F i j (t - (0 + 1)) + 1 * F i (j + 1) (t - 0) = F i j t + -F i j (t - 1) + F i (j + 1) t
      rw [Int.sub_zero, Int.zero_add]; omega
    · rw [if_neg h, if_neg h, if_neg h, cvf_nil, cvf_one (hF (j + 1) (by omega))]
      show 0 + 1 * F i (j + 1) (t - -1) = F i (j + 1) (t - -1)
      omega
  · by_cases h2 : j = p + 1
    · rw [sumT_two (a := p) (b := p + 1) (by omega) (by omega) (by omega) (fun q hqm hqp hqp1 => by rw [hq q hqm hqp hqp1, if_neg (by omega)]), e0, e1, if_neg (by omega), if_pos (by omega)]
      unfold letR letQ
      rw [if_neg h1, if_neg h1, if_pos h2, if_pos h2]
      subst h2
      by_cases h : 0 < z
      · rw [if_pos h, if_pos h, if_pos h, cvf_one (hF p (by omega)), cvf_nil]
        show 1 * F i p (t - 1) + 0 = F i p (t - 1)
        omega
      · rw [if_neg h, if_neg h, if_neg h, cvf_one (hF p (by omega)), cvf_two (hF (p + 1) (by omega))]
        show 1 * F i p (t - 0) + (-1 * F i (p + 1) (t - -1) + 1 * F i (p + 1) (t - (-1 + 1))) = F i p t + F i (p + 1) t + -F i (p + 1) (t - -1)
        rw [Int.sub_zero, show (-1 : Int) + 1 = 0 from rfl, Int.sub_zero]; omega
    · rw [if_neg (by omega), if_neg h2]
      rw [sumT_one (a := j) hj (fun q hqm hqj => by
        by_cases h3 : q = p
        · subst h3; rw [e0]; unfold letR; rw [if_neg h1, if_neg h2, cvf_nil]
        · by_cases h4 : q = p + 1
          · subst h4; rw [e1]; unfold letQ; rw [if_neg h1, if_neg h2, cvf_nil]
          · rw [hq q hqm h3 h4, if_neg (fun e => hqj e.symm)]), hq j hj h1 h2, if_pos rfl]
end Go.Proofs.Ytikakoclmmmjdaa
