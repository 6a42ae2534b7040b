/- Products and sums of polynomials: plain facts. Conditions: as each theorem says. -/
import Derived.Test.YtcipdgmimmngoaaZp
import Derived.Test.YtcipdgmimmngoaaZn
import Derived.Test.YtcipdgmimmngoaaW3
namespace Go.Proofs.Ytcipdgmimmngoaa
open Go.RowKit
set_option linter.unusedSimpArgs false
set_option linter.unusedVariables false
open Go.RowKit
/-- sums over 0, 1, .. -/
def sumT (f : Nat → Int) : Nat → Int
  | 0 => 0
  | n + 1 => sumT f n + f n
theorem sumT_ext {f g : Nat → Int} : ∀ {n : Nat}, (∀ i, i < n → f i = g i) → sumT f n = sumT g n
  | 0, _ => rfl
  | n + 1, h => by simp only [sumT]; rw [sumT_ext (fun i hi => h i (by omega)), h n (by omega)]
theorem sumT_zero {f : Nat → Int} : ∀ {n : Nat}, (∀ i, i < n → f i = 0) → sumT f n = 0
  | 0, _ => rfl
  | n + 1, h => by simp only [sumT]; rw [sumT_zero (fun i hi => h i (by omega)), h n (by omega)]; rfl
theorem sumT_add (f g : Nat → Int) : ∀ n, sumT (fun i => f i + g i) n = sumT f n + sumT g n
  | 0 => rfl
  | n + 1 => by simp only [sumT]; rw [sumT_add f g n]; omega
theorem sumT_mul (c : Int) (f : Nat → Int) : ∀ n, sumT (fun i => c * f i) n = c * sumT f n
  | 0 => by simp [sumT]
  | n + 1 => by simp only [sumT]; rw [sumT_mul c f n, Int.mul_add]
theorem sumT_shift (f : Nat → Int) : ∀ n, sumT f (n + 1) = f 0 + sumT (fun i => f (i + 1)) n
  | 0 => by simp [sumT]
  | n + 1 => by rw [sumT, sumT_shift f n]; simp only [sumT]; omega
theorem sumT_split (f : Nat → Int) (n : Nat) : ∀ d, sumT f (n + d) = sumT f n + sumT (fun i => f (n + i)) d
  | 0 => by simp [sumT]
  | d + 1 => by rw [show n + (d + 1) = (n + d) + 1 by omega, sumT, sumT_split f n d, sumT]; omega
theorem sumT_rev (f : Nat → Int) : ∀ n, sumT (fun i => f (n - i)) (n + 1) = sumT f (n + 1)
  | 0 => rfl
  | n + 1 => by
    rw [sumT_shift, sumT, Int.add_comm]
    congr 1
    rw [← sumT_rev f n]
    rw [sumT]
    congr 1
    · exact sumT_ext fun i hi => by rw [show n + 1 - (i + 1) = n - i by omega]
    · congr 1; omega
theorem cvR_sum (xs ys : List Int) (t : Nat) : ∀ i, cvR xs ys i t = sumT (fun j => if j ≤ t then nth xs j * nth ys (t - j) else 0) i
  | 0 => rfl
  | i + 1 => by rw [cvR, cvR_sum xs ys t i]; rfl
theorem cvR_full (xs ys : List Int) (t : Nat) : cvR xs ys xs.length t = sumT (fun j => nth xs j * nth ys (t - j)) (t + 1) := by
  rw [cvR_sum]
  rcases Nat.lt_or_ge t xs.length with h | h
  · obtain ⟨d, hd⟩ : ∃ d, xs.length = (t + 1) + d := ⟨xs.length - (t + 1), by omega⟩
    rw [hd, sumT_split, sumT_zero (f := fun i => if t + 1 + i ≤ t then _ else 0) (fun i _ => if_neg (by omega)), Int.add_zero]
    exact sumT_ext fun i hi => if_pos (by omega)
  · obtain ⟨d, hd⟩ : ∃ d, t + 1 = xs.length + d := ⟨t + 1 - xs.length, by omega⟩
    rw [hd, sumT_split, sumT_zero (f := fun i => nth xs (xs.length + i) * _) (fun i _ => by rw [nth_over (by omega), Int.zero_mul]), Int.add_zero]
    exact sumT_ext fun i hi => if_pos (by omega)
theorem cvR_comm (xs ys : List Int) (t : Nat) : cvR xs ys xs.length t = cvR ys xs ys.length t := by
  rw [cvR_full, cvR_full, ← sumT_rev]
  exact sumT_ext fun i hi => by rw [show t - (t - i) = i by omega, Int.mul_comm]
theorem mul_comm5 (n : Int) (xs : List Int) (m : Int) (ys : List Int) : mulLow n xs m ys = mulLow m ys n xs ∧ mulLst xs ys = mulLst ys xs := by
  by_cases h : xs.length = 0 ∨ ys.length = 0
  · have h' : ys.length = 0 ∨ xs.length = 0 := h.symm
    simp only [mulLow, mulLst, if_pos h, if_pos h', and_self]
  · have h' : ¬ (ys.length = 0 ∨ xs.length = 0) := fun e => h e.symm
    have e : lstI (xs.length + ys.length - 1) (cvR xs ys xs.length) = lstI (ys.length + xs.length - 1) (cvR ys xs ys.length) := by
      rw [Nat.add_comm xs.length]
      exact lstI_ext fun t _ => cvR_comm xs ys t
    simp only [mulLow, mulLst, if_neg h, if_neg h', e, Int.add_comm n m, and_self]
theorem mu_comm (n : Int) (xs : List Int) (m : Int) (ys : List Int) : muN n xs m ys = muN m ys n xs ∧ muL n xs m ys = muL m ys n xs ∧ muC n xs m ys = muC m ys n xs := by
  obtain ⟨e1, e2⟩ := mul_comm5 n xs m ys
  have e3 : (okL n xs = true ∧ okL m ys = true) = (okL m ys = true ∧ okL n xs = true) := propext ⟨fun h => h.symm, fun h => h.symm⟩
  simp only [muN, muL, muC, e1, e2, e3, and_self]
theorem add_comm5 {n : Int} {xs : List Int} {m : Int} {ys : List Int} (h1 : okL n xs = true) (h2 : okL m ys = true) : addLow n xs m ys = addLow m ys n xs ∧ addLst n xs m ys = addLst m ys n xs := by
  by_cases hx : xs.length = 0
  · by_cases hy : ys.length = 0
    · rw [okL_0 hx, decide_eq_true_eq] at h1
      rw [okL_0 hy, decide_eq_true_eq] at h2
      have ex := List.eq_nil_of_length_eq_zero hx
      have ey := List.eq_nil_of_length_eq_zero hy
      subst ex ey h1 h2
      exact ⟨rfl, rfl⟩
    · simp [addLow, addLst, hx, hy]
  · by_cases hy : ys.length = 0
    · simp [addLow, addLst, hx, hy]
    · have e1 : loP n m = loP m n := by unfold loP; split <;> split <;> omega
      have e2 : hiP n m xs ys = hiP m n ys xs := by unfold hiP; split <;> split <;> omega
      have e3 : sumP n xs m ys = sumP m ys n xs := by
        unfold sumP
        rw [e1, e2]
        exact List.map_congr_left fun i _ => Int.add_comm _ _
      simp only [addLow, addLst, if_neg hx, if_neg hy, e1, e3, and_self]
theorem ad_comm (n : Int) (xs : List Int) (m : Int) (ys : List Int) : adN n xs m ys = adN m ys n xs ∧ adL n xs m ys = adL m ys n xs ∧ adC n xs m ys = adC m ys n xs := by
  by_cases h : okL n xs = true ∧ okL m ys = true
  · obtain ⟨e1, e2⟩ := add_comm5 h.1 h.2
    have h' := h.symm
    simp only [adN, adL, adC, if_pos h, if_pos h', e1, e2, and_self]
  · have h' : ¬ (okL m ys = true ∧ okL n xs = true) := fun e => h e.symm
    simp only [adN, adL, adC, if_neg h, if_neg h', and_self]
/-- the sign of a power -/
def sgP (s z : Int) : Int := if s < 0 ∧ ¬ z.tmod 2 = 0 then -1 else 1
theorem tmod2 (z : Int) : z.tmod 2 = 0 ↔ z % 2 = 0 := by
  rw [Int.tmod_eq_emod]
  split
  · constructor <;> intro _ <;> omega
  · have : z % 2 = 0 ∨ z % 2 = 1 := by omega
    rename_i h
    simp only [not_or] at h
    omega
theorem sgP_add (s a b : Int) : sgP s (a + b) = sgP s a * sgP s b := by
  simp only [sgP, tmod2]
  by_cases hs : s < 0
  · by_cases ha : a % 2 = 0 <;> by_cases hb : b % 2 = 0
    · rw [if_neg (by omega), if_neg (by omega), if_neg (by omega)]; rfl
    · rw [if_pos (by omega), if_neg (by omega), if_pos (by omega)]; rfl
    · rw [if_pos (by omega), if_pos (by omega), if_neg (by omega)]; rfl
    · rw [if_neg (by omega), if_pos (by omega), if_pos (by omega)]; rfl
  · rw [if_neg (by omega), if_neg (by omega), if_neg (by omega)]; rfl
theorem sumV_sum (low s : Int) (xs : List Int) : ∀ k, sumV low s xs k = sumT (fun i => sgP s (low + i) * nth xs i) k
  | 0 => rfl
  | k + 1 => by
    simp only [sumV, sumT]
    rw [sumV_sum low s xs k]
    congr 1
    unfold sgP
    split
    · rw [Int.neg_mul, Int.one_mul]
    · rw [Int.one_mul]
/-- the value of a polynomial -/
def valP (low s : Int) (xs : List Int) : Int := sumT (fun i => sgP s (low + i) * nth xs i) xs.length
theorem val_long {low s : Int} {xs : List Int} {k : Nat} (h : xs.length ≤ k) : sumT (fun i => sgP s (low + i) * nth xs i) k = valP low s xs := by
  obtain ⟨d, rfl⟩ : ∃ d, k = xs.length + d := ⟨k - xs.length, by omega⟩
  rw [sumT_split, sumT_zero (f := fun i => _ * nth xs (xs.length + i)) (fun i _ => by rw [nth_over (by omega), Int.mul_zero]), Int.add_zero]
  rfl
theorem val_trim (low s : Int) (xs : List Int) : valP (trimLow low xs) s (trimLst xs) = valP low s xs := by
  by_cases hz : lzo xs = 0
  · have hx : ∀ i, nth xs i = 0 := fun i => by
      by_cases h : nth xs i = 0
      · exact h
      · have := lzo_nz h; omega
    unfold valP trimLow trimLst
    rw [if_pos hz, if_pos hz, sumT_zero (fun i hi => by cases hi), sumT_zero (fun i _ => by rw [hx, Int.mul_zero])]
  · obtain ⟨p, hp⟩ : ∃ p, lzo xs = p + 1 := ⟨lzo xs - 1, by omega⟩
    have hll := lzo_le xs
    have hf : ∀ i, i < fzo xs → nth xs i = 0 := fun i hi => by
      by_cases h : nth xs i = 0
      · exact h
      · have := fzo_nz h; omega
    have hl : ∀ i, lzo xs ≤ i → nth xs i = 0 := fun i hi => by
      by_cases h : nth xs i = 0
      · exact h
      · have := lzo_nz h; omega
    have hfl : fzo xs ≤ lzo xs := by
      rcases Nat.lt_or_ge (lzo xs) (fzo xs) with h | h
      · have h0 : ∀ i, nth xs i = 0 := fun i => by
          rcases Nat.lt_or_ge i (fzo xs) with h' | h'
          · exact hf i h'
          · exact hl i (by omega)
        exact absurd (lzo_zero h0) hz
      · exact h
    have e1 : trimLow low xs = low + fzo xs := by unfold trimLow; rw [if_neg hz]
    have e2 : trimLst xs = (xs.drop (fzo xs)).take (lzo xs - fzo xs) := by unfold trimLst; rw [if_neg hz]
    have e3 : (trimLst xs).length = lzo xs - fzo xs := by rw [e2, List.length_take, List.length_drop]; omega
    unfold valP
    rw [e3, e1]
    obtain ⟨d, hd⟩ : ∃ d, xs.length = fzo xs + ((lzo xs - fzo xs) + d) := ⟨xs.length - lzo xs, by omega⟩
    rw [hd, sumT_split, sumT_split, sumT_zero (f := fun i => sgP s (low + i) * nth xs i) (fun i hi => by rw [hf i hi, Int.mul_zero]), sumT_zero (f := fun i => sgP s (low + ((fzo xs + (lzo xs - fzo xs + i) : Nat) : Int)) * _) (fun i _ => by rw [hl _ (by omega), Int.mul_zero]), Int.zero_add, Int.add_zero]
    refine sumT_ext fun i hi => ?_
    rw [e2, nth_take hi, nth_drop, show low + (fzo xs : Int) + (i : Int) = low + ((fzo xs + i : Nat) : Int) by omega]
theorem sumT_from (h : Nat → Int) (i : Nat) : ∀ d, sumT (fun t => if i ≤ t then h (t - i) else 0) (i + d) = sumT h d
  | 0 => by rw [Nat.add_zero]; exact sumT_zero fun t ht => if_neg (by omega)
  | d + 1 => by rw [show i + (d + 1) = (i + d) + 1 by omega, sumT, sumT_from h i d, sumT, if_pos (by omega), show i + d - i = d by omega]
theorem val_rows (n m s : Int) (xs ys : List Int) : ∀ i, i ≤ xs.length → sumT (fun t => sgP s (n + m + t) * cvR xs ys i t) (xs.length + ys.length - 1) = sumT (fun j => sgP s (n + j) * nth xs j) i * valP m s ys
  | 0, _ => by
    rw [sumT_zero (fun t _ => by show _ * (0 : Int) = 0; rw [Int.mul_zero])]
    simp [sumT]
  | i + 1, hi => by
    have ih := val_rows n m s xs ys i (by omega)
    have e : sumT (fun t => sgP s (n + m + t) * cvR xs ys (i + 1) t) (xs.length + ys.length - 1) = sumT (fun t => sgP s (n + m + t) * cvR xs ys i t) (xs.length + ys.length - 1) + sumT (fun t => if i ≤ t then sgP s (n + i) * nth xs i * (sgP s (m + ((t - i : Nat) : Int)) * nth ys (t - i)) else 0) (xs.length + ys.length - 1) := by
      rw [← sumT_add]
      refine sumT_ext fun t _ => ?_
      rw [cvR, Int.mul_add]
      congr 1
      by_cases h : i ≤ t
      · rw [if_pos h, if_pos h, show n + m + (t : Int) = (n + i) + (m + ((t - i : Nat) : Int)) by omega, sgP_add]
        simp only [Int.mul_assoc, Int.mul_comm, Int.mul_left_comm]
      · rw [if_neg h, if_neg h, Int.mul_zero]
    rw [e, ih, sumT, Int.add_mul]
    congr 1
    obtain ⟨d, hd⟩ : ∃ d, xs.length + ys.length - 1 = i + d := ⟨xs.length + ys.length - 1 - i, by omega⟩
    rw [hd, sumT_from (fun j => sgP s (n + i) * nth xs i * (sgP s (m + (j : Int)) * nth ys j)) i d, sumT_mul, val_long (by omega)]
theorem val_mul (n : Int) (xs : List Int) (m : Int) (ys : List Int) (s : Int) : valP n s xs * valP m s ys = valP (mulLow n xs m ys) s (mulLst xs ys) := by
  by_cases h : xs.length = 0 ∨ ys.length = 0
  · simp only [mulLow, mulLst, if_pos h]
    have e : valP 0 s [] = 0 := rfl
    rw [e]
    rcases h with h | h
    · rw [show valP n s xs = 0 by unfold valP; rw [h]; rfl, Int.zero_mul]
    · rw [show valP m s ys = 0 by unfold valP; rw [h]; rfl, Int.mul_zero]
  · simp only [mulLow, mulLst, if_neg h]
    rw [val_trim]
    have := val_rows n m s xs ys xs.length (Nat.le_refl _)
    rw [show sumT (fun j => sgP s (n + j) * nth xs j) xs.length = valP n s xs from rfl] at this
    rw [← this]
    unfold valP
    rw [lstI_length]
    exact sumT_ext fun t ht => by rw [nth_lstI ht]
theorem sumV_val (low s : Int) (xs : List Int) : sumV low s xs xs.length = valP low s xs := sumV_sum low s xs xs.length
end Go.Proofs.Ytcipdgmimmngoaa
