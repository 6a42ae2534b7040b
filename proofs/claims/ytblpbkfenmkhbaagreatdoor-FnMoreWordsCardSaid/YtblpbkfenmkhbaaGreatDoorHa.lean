/- Texts of braids read again: plain facts. Conditions: as each theorem says. -/
import Derived.Test.YtblpbkfenmkhbaaGreatDoorDa
namespace Go.Proofs.YtblpbkfenmkhbaaGreatDoor
open Go.RowKit
set_option linter.unusedSimpArgs false
set_option linter.unusedVariables false
/-- cutting a text at a byte: the pieces that are done, and the piece under way -/
def stepS (c : UInt8) (s : List (List UInt8) × List UInt8) (b : UInt8) : List (List UInt8) × List UInt8 := if b = c then (s.1 ++ [s.2], []) else (s.1, s.2 ++ [b])
def foldS (c : UInt8) (l : List UInt8) : List (List UInt8) × List UInt8 := l.foldl (stepS c) ([], [])
def wordsS (c : UInt8) (l : List UInt8) : List (List UInt8) := (foldS c l).1 ++ [(foldS c l).2]
theorem foldS_snoc (c b : UInt8) (l : List UInt8) : foldS c (l ++ [b]) = stepS c (foldS c l) b := by simp [foldS]
theorem foldS_take {c : UInt8} {l : List UInt8} {k : Nat} (h : k < l.length) : foldS c (l.take (k + 1)) = stepS c (foldS c (l.take k)) l[k] := by
  rw [List.take_succ_eq_append_getElem h, foldS_snoc]
theorem foldS_len (c : UInt8) (l : List UInt8) : ∀ k, k ≤ l.length → (foldS c (l.take k)).2.length ≤ k ∧ (foldS c (l.take k)).2 = (l.take k).drop (k - (foldS c (l.take k)).2.length) := by
  intro k
  induction k with
  | zero => intro _; simp [foldS]
  | succ k ih =>
    intro hk
    obtain ⟨h1, h2⟩ := ih (by omega)
    rw [foldS_take (by omega)]
    unfold stepS
    by_cases h : l[k] = c
    · rw [if_pos h]
      refine ⟨by simp, ?_⟩
      simp only [List.length_nil, Nat.sub_zero]
      rw [List.drop_eq_nil_of_le (by rw [List.length_take]; omega)]
    · rw [if_neg h]
      refine ⟨by simp only [List.length_append, List.length_singleton]; omega, ?_⟩
      simp only [List.length_append, List.length_singleton]
      rw [List.take_succ_eq_append_getElem (by omega), List.drop_append_of_le_length (by rw [List.length_take]; omega), show k + 1 - ((foldS c (l.take k)).2.length + 1) = k - (foldS c (l.take k)).2.length by omega, ← h2]
theorem foldS_pieces (c : UInt8) (l : List UInt8) : ∀ k, k ≤ l.length → (foldS c (l.take k)).1.length ≤ k := by
  intro k
  induction k with
  | zero => intro _; simp [foldS]
  | succ k ih =>
    intro hk
    have := ih (by omega)
    rw [foldS_take (by omega)]
    unfold stepS
    split
    · simp only [List.length_append, List.length_singleton]; omega
    · simp only; omega
/-- the pieces joined again -/
theorem foldS_join (c : UInt8) (l : List UInt8) : (foldS c l).1.flatMap (fun w => w ++ [c]) ++ (foldS c l).2 = l := by
  have key : ∀ (r : List UInt8) (s : List (List UInt8) × List UInt8), (r.foldl (stepS c) s).1.flatMap (fun w => w ++ [c]) ++ (r.foldl (stepS c) s).2 = (s.1.flatMap (fun w => w ++ [c]) ++ s.2) ++ r := by
    intro r
    induction r with
    | nil => intro s; simp
    | cons b r ih =>
      intro s
      rw [List.foldl_cons, ih]
      unfold stepS
      by_cases h : b = c
      · rw [if_pos h]; subst h; simp
      · rw [if_neg h]; simp
  have := key l ([], [])
  simpa [foldS] using this
theorem join_shift (c : UInt8) : ∀ (P : List (List UInt8)) (u : List UInt8) (w : List UInt8) (ws : List (List UInt8)), P ++ [u] = w :: ws → P.flatMap (fun w => w ++ [c]) ++ u = w ++ ws.flatMap (fun w => c :: w)
  | [], u, w, ws, h => by
    simp only [List.nil_append, List.cons.injEq] at h
    obtain ⟨rfl, rfl⟩ := h
    simp
  | p :: P, u, w, ws, h => by
    simp only [List.cons_append, List.cons.injEq] at h
    obtain ⟨rfl, h⟩ := h
    cases ws with
    | nil => simp at h
    | cons w' ws' =>
      have := join_shift c P u w' ws' h
      simp only [List.flatMap_cons, List.append_assoc, this]
      simp
theorem wordsS_join {c : UInt8} {l w : List UInt8} {ws : List (List UInt8)} (h : wordsS c l = w :: ws) : l = w ++ ws.flatMap (fun w => c :: w) := by
  rw [← join_shift c _ _ w ws h, foldS_join]
theorem foldl_free (c : UInt8) : ∀ (r : List UInt8) (s : List (List UInt8) × List UInt8), c ∉ r → r.foldl (stepS c) s = (s.1, s.2 ++ r)
  | [], s, _ => by simp
  | b :: r, s, h => by
    have hb : ¬ b = c := fun e => h (by simp [e])
    rw [List.foldl_cons, foldl_free c r _ (fun hr => h (List.mem_cons_of_mem _ hr))]
    unfold stepS
    rw [if_neg hb]
    simp
theorem wordsS_one {c : UInt8} {w : List UInt8} (h : c ∉ w) : wordsS c w = [w] := by
  unfold wordsS foldS
  rw [foldl_free c w _ h]; simp
theorem wordsS_snoc {c : UInt8} {w : List UInt8} (t : List UInt8) (h : c ∉ w) : wordsS c (t ++ c :: w) = wordsS c t ++ [w] := by
  unfold wordsS foldS
  rw [List.foldl_append, List.foldl_cons, foldl_free c w _ h]
  unfold stepS
  rw [if_pos rfl]
  simp
theorem wordsS_ne (c : UInt8) (l : List UInt8) : wordsS c l ≠ [] := by unfold wordsS; simp
theorem digB_nat {m : Nat} (h : m ≤ 9) : (digB m).toNat = 48 + m := by unfold digB; rw [UInt8.toNat_ofNat']; omega
theorem digB_ne {m : Nat} {c : UInt8} (h : m ≤ 9) (hc : c.toNat < 48 ∨ 57 < c.toNat) : digB m ≠ c := by
  intro e
  have := digB_nat h
  rw [e] at this
  omega
theorem decL_free {x : Int} {c : UInt8} (h1 : -9 ≤ x) (h2 : x ≤ 9) (hc : c.toNat < 48 ∨ 57 < c.toNat) (h45 : c.toNat ≠ 45) : c ∉ decL x := by
  have hd := digB_ne (m := x.natAbs) (c := c) (by omega) hc
  have h3 : ¬ c = (45 : UInt8) := fun e => h45 (by rw [e]; rfl)
  have h4 : ¬ c = digB x.natAbs := fun e => hd e.symm
  unfold decL
  split <;> simp [h3, h4]
/-- the letters of a text, all of them at once -/
theorem lettersT_flat (xs : List Int) : ∀ k, k ≤ xs.length → lettersT xs k = ((xs.take k).map decL).flatMap (fun w => 32 :: w) := by
  intro k
  induction k with
  | zero => intro _; simp [lettersT]
  | succ k ih =>
    intro hk
    rw [List.take_succ_eq_append_getElem (by omega)]
    simp only [lettersT, ih (by omega), List.map_append, List.flatMap_append, List.map_cons, List.map_nil, List.flatMap_cons, List.flatMap_nil, List.append_nil]
    rw [show nth xs k = xs[k] by simp [nth, show k < xs.length by omega]]
def letS (n : Int) (xs : List Int) : Prop := (1 ≤ n ∧ n ≤ 8) ∧ ∀ k, k < xs.length → -9 ≤ nth xs k ∧ nth xs k ≤ 9
theorem text_words {n : Int} {xs : List Int} (h : letS n xs) : ∀ k, k ≤ xs.length → wordsS 32 (braidT n xs k) = (decL n ++ [58]) :: (xs.take k).map decL := by
  intro k
  induction k with
  | zero =>
    intro _
    have hn := h.1
    rw [show braidT n xs 0 = decL n ++ [58] by simp [braidT, lettersT]]
    rw [wordsS_one]
    · simp
    · intro hm
      rcases List.mem_append.1 hm with hm | hm
      · exact decL_free (by omega) (by omega) (.inl (by decide)) (by decide) hm
      · simp at hm
  | succ k ih =>
    intro hk
    have hx := h.2 k (by omega)
    rw [← braidT_succ, wordsS_snoc _ (decL_free (c := 32) hx.1 hx.2 (.inl (by decide)) (by decide)), ih (by omega), List.take_succ_eq_append_getElem (by omega)]
    rw [show nth xs k = xs[k] by simp [nth, show k < xs.length by omega], List.map_append]
    rfl
/-- a number in decimal, without leading zeros, of at most nine digits -/
def byteAt (l : List UInt8) (i : Nat) : Nat := (l.getD i 0).toNat
def numK (l : List UInt8) : Nat → Nat
  | 0 => 0
  | k + 1 => numK l k * 10 + (byteAt l k - 48)
def goodS (l : List UInt8) : Prop := 0 < l.length ∧ l.length ≤ 9 ∧ ¬ (1 < l.length ∧ byteAt l 0 = 48) ∧ ∀ i, i < l.length → 48 ≤ byteAt l i ∧ byteAt l i ≤ 57
open Classical in
noncomputable def numS (l : List UInt8) : Int := if goodS l then (numK l l.length : Int) else -1
theorem numS_good {l : List UInt8} (h : goodS l) : numS l = numK l l.length := by unfold numS; rw [if_pos h]
theorem numS_bad {l : List UInt8} (h : ¬ goodS l) : numS l = -1 := by unfold numS; rw [if_neg h]
theorem numK_lt {l : List UInt8} (h : ∀ i, i < l.length → byteAt l i ≤ 57) : ∀ k, k ≤ l.length → numK l k < 10 ^ k := by
  intro k
  induction k with
  | zero => intro _; simp [numK]
  | succ k ih =>
    intro hk
    have h1 := ih (by omega)
    have h2 := h k (by omega)
    simp only [numK, Nat.pow_succ]
    omega
theorem numS_le (l : List UInt8) : -1 ≤ numS l ∧ numS l < 1000000000 := by
  by_cases h : goodS l
  · rw [numS_good h]
    have h1 := numK_lt (fun i hi => (h.2.2.2 i hi).2) l.length (Nat.le_refl _)
    have h2 : 10 ^ l.length ≤ 10 ^ 9 := Nat.pow_le_pow_right (by decide) h.2.1
    omega
  · rw [numS_bad h]; omega
theorem numS_digit {l : List UInt8} (h1 : 0 ≤ numS l) (h2 : numS l ≤ 9) : l = [digB (numS l).toNat] := by
  by_cases h : goodS l
  · rw [numS_good h] at h1 h2 ⊢
    obtain ⟨g1, g2, g3, g4⟩ := h
    match l, g1 with
    | [b], _ =>
      have := g4 0 (by simp)
      simp only [byteAt, List.getD_cons_zero] at this
      have e : numK [b] [b].length = b.toNat - 48 := by simp [numK, byteAt]
      rw [e]
      congr 1
      apply UInt8.toNat_inj.1
      rw [show ((b.toNat - 48 : Nat) : Int).toNat = b.toNat - 48 by omega, digB_nat (by omega)]
      omega
    | a :: b :: r, _ =>
      exfalso
      have hk : ∀ k, 1 ≤ k → k ≤ (a :: b :: r).length → 1 ≤ numK (a :: b :: r) k := by
        intro k
        induction k with
        | zero => intro h; omega
        | succ k ih =>
          intro _ hk
          by_cases e : k = 0
          · subst e
            have := g4 0 (by simp)
            have h48 : ¬ byteAt (a :: b :: r) 0 = 48 := fun e => g3 ⟨by simp, e⟩
            simp only [numK]
            omega
          · have := ih (by omega) (by omega)
            simp only [numK]; omega
      have := hk (r.length + 1) (by omega) (by simp)
      have e : (a :: b :: r).length = (r.length + 1) + 1 := by simp
      rw [e, show numK (a :: b :: r) (r.length + 1 + 1) = numK (a :: b :: r) (r.length + 1) * 10 + (byteAt (a :: b :: r) (r.length + 1) - 48) from rfl] at h2
      omega
  · rw [numS_bad h] at h1; omega
theorem numS_dig {m : Nat} (h : m ≤ 9) : numS [digB m] = m := by
  have hd := digB_nat h
  have e : byteAt [digB m] 0 = 48 + m := by simp [byteAt, hd]
  have hg : goodS [digB m] := ⟨by simp, by simp, by simp, fun i hi => by
    have : i = 0 := by simpa using hi
    subst this; omega⟩
  rw [numS_good hg]
  show ((numK [digB m] 0 * 10 + (byteAt [digB m] 0 - 48) : Nat) : Int) = m
  rw [e]
  simp [numK]
/-- a letter's sign and what stands behind it -/
def minusS (w : List UInt8) : Bool := decide (0 < w.length ∧ byteAt w 0 = 45)
def bareS (w : List UInt8) : List UInt8 := if minusS w = true then w.drop 1 else w
def signS (w : List UInt8) : Int := if minusS w = true then -1 else 1
theorem letter_of {w : List UInt8} (h1 : 1 ≤ numS (bareS w)) (h2 : numS (bareS w) ≤ 9) : w = decL (signS w * numS (bareS w)) := by
  have hd := numS_digit (by omega) h2
  unfold bareS signS decL at *
  by_cases h : minusS w = true
  · simp only [if_pos h] at *
    have hm := h
    simp only [minusS, decide_eq_true_eq] at hm
    match w, hm with
    | b :: r, hm =>
      simp only [List.drop_succ_cons, List.drop_zero] at *
      have hb : b = 45 := UInt8.toNat_inj.1 hm.2
      rw [if_pos (by omega), hb, show (-1 * numS r).natAbs = (numS r).toNat by omega]
      rw [← hd]
  · simp only [if_neg h] at *
    rw [if_neg (by omega), show (1 * numS w).natAbs = (numS w).toNat by omega]
    exact hd
theorem of_letter {x : Int} (h0 : x ≠ 0) (h1 : -9 ≤ x) (h2 : x ≤ 9) : signS (decL x) * numS (bareS (decL x)) = x ∧ 1 ≤ numS (bareS (decL x)) := by
  unfold bareS signS decL
  by_cases h : x < 0
  · have hm : minusS [45, digB x.natAbs] = true := by unfold minusS; rw [decide_eq_true_eq]; exact ⟨by simp, rfl⟩
    simp only [if_pos h, if_pos hm, List.drop_succ_cons, List.drop_zero, numS_dig (show x.natAbs ≤ 9 by omega)]
    omega
  · have hm : ¬ minusS [digB x.natAbs] = true := by
      unfold minusS; rw [decide_eq_true_eq]
      rintro ⟨_, e⟩
      have := digB_nat (m := x.natAbs) (by omega)
      simp [byteAt, this] at e
      omega
    simp only [if_neg h, if_neg hm, numS_dig (show x.natAbs ≤ 9 by omega)]
    omega
end Go.Proofs.YtblpbkfenmkhbaaGreatDoor
