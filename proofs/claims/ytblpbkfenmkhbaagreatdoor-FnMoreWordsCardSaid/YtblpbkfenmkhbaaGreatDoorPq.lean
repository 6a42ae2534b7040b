/- Products, inverses, free forms, ends and crossings: plain facts. Conditions: as each theorem says. -/
import Derived.Test.YtblpbkfenmkhbaaGreatDoorMc
import Derived.Test.YtblpbkfenmkhbaaGreatDoorVa
import Derived.Test.YtblpbkfenmkhbaaGreatDoorVj
import Derived.Test.YtblpbkfenmkhbaaGreatDoorVd
import Derived.Test.YtblpbkfenmkhbaaGreatDoorHh
namespace Go.Proofs.YtblpbkfenmkhbaaGreatDoor
open Go.RowKit
set_option linter.unusedSimpArgs false
set_option linter.unusedVariables false
open Go.RowKit
theorem nth_app_right {xs ys : List Int} {k : Nat} : nth (xs ++ ys) (xs.length + k) = nth ys k := by
  simp [nth, List.getElem?_append_right]
/-! ### sums -/
theorem sumL_left {xs ys : List Int} : ∀ k, k ≤ xs.length → sumL (xs ++ ys) k = sumL xs k
  | 0, _ => rfl
  | k + 1, h => by simp only [sumL]; rw [sumL_left k (by omega), nth_append_left (by omega)]
theorem sumL_app (xs ys : List Int) : ∀ k, sumL (xs ++ ys) (xs.length + k) = sumL xs xs.length + sumL ys k
  | 0 => by rw [Nat.add_zero, sumL_left _ (Nat.le_refl _)]; simp [sumL]
  | k + 1 => by rw [← Nat.add_assoc]; simp only [sumL]; rw [sumL_app xs ys k, nth_app_right]; omega
/-! ### where the strands lie -/
theorem absL_app (xs ys : List Int) : absL (xs ++ ys) = absL xs ++ absL ys := by simp [absL]
theorem seqK_left {m : Nat} {xs ys : List Int} : ∀ k, k ≤ xs.length → seqK m (xs ++ ys) k = seqK m xs k
  | 0, _ => rfl
  | k + 1, h => by simp only [seqK]; rw [seqK_left k (by omega), nth_append_left (by omega)]
theorem seqK_app {m : Nat} {xs ys : List Int} (h : LetK m ys ys.length) : ∀ k, k ≤ ys.length → ∀ x, x < m → seqK m (xs ++ ys) (xs.length + k) x = seqK m xs xs.length (seqK m ys k x)
  | 0, _, x, hx => by
    rw [Nat.add_zero, seqK_left _ (Nat.le_refl _)]
    simp [seqK, idK, hx]
  | k + 1, hk, x, hx => by
    have hl := h k (by omega)
    rw [← Nat.add_assoc]
    simp only [seqK]
    rw [nth_app_right, swapK_exP, swapK_exP]
    exact seqK_app h k (by omega) _ (exP_lt (by omega) (by omega) hx)
/-- where a strand ends -/
def endF (m : Nat) (xs : List Int) : Nat → Nat := backK (seqK m (absL xs) xs.length) m
theorem endF_lt {m : Nat} {xs : List Int} (h : LetK m (absL xs) xs.length) : ∀ i, i < m → endF m xs i < m := back_lt (seq_perm _ h)
theorem endF_at {m : Nat} {xs : List Int} (h : LetK m (absL xs) xs.length) {p : Nat} (hp : p < m) : endF m xs (seqK m (absL xs) xs.length p) = p := backK_at m hp (seq_perm _ h).inj
theorem at_endF {m : Nat} {xs : List Int} (h : LetK m (absL xs) xs.length) {i : Nat} (hi : i < m) : seqK m (absL xs) xs.length (endF m xs i) = i := by
  obtain ⟨p, hp, rfl⟩ := (seq_perm _ h).has i hi
  rw [endF_at h hp]
theorem let_abs {m : Nat} {ys : List Int} (h : LetK m (absL ys) ys.length) : LetK m (absL ys) (absL ys).length := by rw [absL_length]; exact h
theorem let_app {m : Nat} {xs ys : List Int} (hx : LetK m (absL xs) xs.length) (hy : LetK m (absL ys) ys.length) : LetK m (absL (xs ++ ys)) (xs ++ ys).length := by
  intro j hj
  rw [absL_app]
  rcases Nat.lt_or_ge j xs.length with h | h
  · rw [nth_append_left (by rw [absL_length]; exact h)]; exact hx j h
  · rw [List.length_append] at hj
    obtain ⟨k, rfl⟩ : ∃ k, j = (absL xs).length + k := ⟨j - xs.length, by rw [absL_length]; omega⟩
    rw [nth_app_right]
    exact hy k (by rw [absL_length] at hj; omega)
theorem seq_at {m : Nat} {xs ys : List Int} (hy : LetK m (absL ys) ys.length) {k : Nat} (hk : k ≤ ys.length) {x : Nat} (hx : x < m) : seqK m (absL (xs ++ ys)) (xs.length + k) x = seqK m (absL xs) xs.length (seqK m (absL ys) k x) := by
  have h := seqK_app (m := m) (xs := absL xs) (let_abs hy) k (by rw [absL_length]; exact hk) x hx
  rw [absL_length] at h
  rw [absL_app]; exact h
/-- ends are composed -/
theorem endF_app {m : Nat} {xs ys : List Int} (hx : LetK m (absL xs) xs.length) (hy : LetK m (absL ys) ys.length) {i : Nat} (hi : i < m) : endF m (xs ++ ys) i = endF m ys (endF m xs i) := by
  have hxy := let_app hx hy
  have hp := seq_perm _ hxy
  obtain ⟨p, hp1, rfl⟩ := hp.has i hi
  have e1 : seqK m (absL (xs ++ ys)) (xs ++ ys).length p = seqK m (absL xs) xs.length (seqK m (absL ys) ys.length p) := by
    rw [List.length_append]; exact seq_at hy (Nat.le_refl _) hp1
  rw [endF_at hxy hp1, e1, endF_at hx ((seq_perm _ hy).lt p hp1), endF_at hy hp1]
/-! ### crossings -/
theorem wrap64_small {x : Int} (h : -1000000000 ≤ x ∧ x ≤ 1000000000) : wrap64 x = x := by unfold wrap64; omega
theorem add2_eq {f : Nat → Nat → Int} {b s : Int} {x y : Nat} (hb : ∀ i j, -b ≤ f i j ∧ f i j ≤ b) (hs : -1 ≤ s ∧ s ≤ 1) (hB : b ≤ 1000000) (i j : Nat) : add2 f x y s i j = f i j + (if i = x ∧ j = y then s else 0) := by
  unfold add2 put2
  by_cases h : i = x ∧ j = y
  · obtain ⟨rfl, rfl⟩ := h
    have := hb i j
    rw [if_pos ⟨rfl, rfl⟩, if_pos ⟨rfl, rfl⟩, wrap64_small (by omega)]
  · rw [if_neg h, if_neg h, Int.add_zero]
theorem add2_le {f : Nat → Nat → Int} {b s : Int} {x y : Nat} (hb : ∀ i j, -b ≤ f i j ∧ f i j ≤ b) (hs : -1 ≤ s ∧ s ≤ 1) (hB : b ≤ 1000000) (i j : Nat) : -(b + 1) ≤ add2 f x y s i j ∧ add2 f x y s i j ≤ b + 1 := by
  rw [add2_eq hb hs hB]
  have := hb i j
  split <;> omega
theorem sgn_le (z : Int) : -1 ≤ sgn z ∧ sgn z ≤ 1 := by unfold sgn; split <;> omega
theorem crossF_le (m : Nat) (xs : List Int) : ∀ k : Nat, k ≤ 400 → ∀ i j, -(2 * (k : Int)) ≤ crossF m xs k i j ∧ crossF m xs k i j ≤ 2 * (k : Int)
  | 0, _, i, j => by simp [crossF]
  | k + 1, hk, i, j => by
    have h := crossF_le m xs k (by omega)
    have h1 := add2_le (x := seqK m (absL xs) k ((nth xs k).natAbs - 1)) (y := seqK m (absL xs) k (nth xs k).natAbs) h (sgn_le (nth xs k)) (by omega)
    have h2 := add2_le (x := seqK m (absL xs) k (nth xs k).natAbs) (y := seqK m (absL xs) k ((nth xs k).natAbs - 1)) h1 (sgn_le (nth xs k)) (by omega) i j
    show -(2 * ((k + 1 : Nat) : Int)) ≤ cross2 _ _ _ _ i j ∧ cross2 _ _ _ _ i j ≤ _
    unfold cross2
    omega
theorem crossF_step {m : Nat} {xs : List Int} {k : Nat} (hk : k ≤ 300) (i j : Nat) : crossF m xs (k + 1) i j = crossF m xs k i j + (if i = seqK m (absL xs) k ((nth xs k).natAbs - 1) ∧ j = seqK m (absL xs) k (nth xs k).natAbs then sgn (nth xs k) else 0) + (if i = seqK m (absL xs) k (nth xs k).natAbs ∧ j = seqK m (absL xs) k ((nth xs k).natAbs - 1) then sgn (nth xs k) else 0) := by
  have h := crossF_le m xs k (by omega)
  have h1 := add2_le (x := seqK m (absL xs) k ((nth xs k).natAbs - 1)) (y := seqK m (absL xs) k (nth xs k).natAbs) h (sgn_le (nth xs k)) (by omega)
  show add2 (add2 _ _ _ _) _ _ _ i j = _
  rw [add2_eq h1 (sgn_le _) (by omega), add2_eq h (sgn_le _) (by omega)]
/-- crossings are symmetric -/
theorem crossF_symm {m : Nat} {xs : List Int} : ∀ k : Nat, k ≤ 300 → ∀ i j, crossF m xs k i j = crossF m xs k j i
  | 0, _, _, _ => rfl
  | k + 1, hk, i, j => by
    rw [crossF_step (by omega), crossF_step (by omega), crossF_symm k (by omega) i j]
    simp only [and_comm (b := i = _), Int.add_assoc]
    exact congrArg _ (Int.add_comm _ _)
theorem crossF_left {m : Nat} {xs ys : List Int} : ∀ k, k ≤ xs.length → crossF m (xs ++ ys) k = crossF m xs k
  | 0, _ => rfl
  | k + 1, h => by
    simp only [crossF]
    rw [crossF_left k (by omega), nth_append_left (by omega), absL_app, seqK_left k (by rw [absL_length]; omega)]
theorem crossF_app {m : Nat} {xs ys : List Int} (hx : LetK m (absL xs) xs.length) (hy : LetK m (absL ys) ys.length) (hl : xs.length + ys.length ≤ 200) : ∀ k, k ≤ ys.length → ∀ i j, i < m → j < m → crossF m (xs ++ ys) (xs.length + k) i j = crossF m xs xs.length i j + crossF m ys k (endF m xs i) (endF m xs j)
  | 0, _, i, j, _, _ => by
    rw [Nat.add_zero, crossF_left _ (Nat.le_refl _)]
    simp [crossF]
  | k + 1, hk, i, j, hi, hj => by
    have hlk := hy k (by omega)
    rw [nth_absL (by omega)] at hlk
    have e1 := seq_at (xs := xs) hy (k := k) (by omega) (x := (nth ys k).natAbs - 1) (by omega)
    have e2 := seq_at (xs := xs) hy (k := k) (by omega) (x := (nth ys k).natAbs) (by omega)
    have hpk := seq_perm k (hy.le (show k ≤ ys.length by omega))
    have key : ∀ i p, i < m → p < m → (i = seqK m (absL xs) xs.length (seqK m (absL ys) k p) ↔ endF m xs i = seqK m (absL ys) k p) := fun i p hi hp => by
      have hq := hpk.lt p hp
      constructor
      · intro e; rw [e]; exact endF_at hx hq
      · intro e; rw [← e]; exact (at_endF hx hi).symm
    rw [← Nat.add_assoc, crossF_step (by omega), crossF_step (by omega), nth_app_right, e1, e2, crossF_app hx hy hl k (by omega) i j hi hj]
    simp only [key i _ hi (show (nth ys k).natAbs - 1 < m by omega), key j _ hj (show (nth ys k).natAbs < m by omega), key i _ hi (show (nth ys k).natAbs < m by omega), key j _ hj (show (nth ys k).natAbs - 1 < m by omega)]
    omega
/-! ### undone -/
theorem negL_negL (xs : List Int) : (xs.map negL).map negL = xs := by
  rw [List.map_map]
  have : (negL ∘ negL) = id := by funext x; simp [negL]
  rw [this, List.map_id]
theorem inv_inv (xs : List Int) : (xs.reverse.map negL).reverse.map negL = xs := by
  rw [← List.map_reverse, List.reverse_reverse, negL_negL]
theorem ok_of {n : Int} {xs ys : List Int} (h : okW n xs = true) (hl : ys.length = xs.length) (hy : ∀ y ∈ ys, isL y n = true) : okW n ys = true := by
  obtain ⟨m, rfl, h1, h8, h2, h3⟩ := okW_true h
  have hb : inB (m : Int) 1 8 = true := by
    cases hb : inB (m : Int) 1 8 with
    | true => rfl
    | false => rw [okW_out hb] at h; cases h
  exact okW_good hb (by omega) fun i hi => hy _ (nth_mem hi)
theorem ok_mem {n : Int} {xs : List Int} (h : okW n xs = true) : ∀ x ∈ xs, isL x n = true := by
  obtain ⟨m, rfl, h1, h8, h2, h3⟩ := okW_true h
  intro x hx
  obtain ⟨i, hi, rfl⟩ := List.getElem_of_mem hx
  have := h3 i hi
  rwa [show nth xs i = xs[i] by simp [nth, hi]] at this
theorem isL_neg {x n : Int} (h : isL x n = true) : isL (negL x) n = true := by
  have h' : x ≠ 0 ∧ 1 - n ≤ x ∧ x ≤ n - 1 := of_decide_eq_true h
  exact decide_eq_true (show -x ≠ 0 ∧ 1 - n ≤ -x ∧ -x ≤ n - 1 from ⟨by omega, by omega, by omega⟩)
theorem isL_turn {x n : Int} (h : isL x n = true) : isL (turnL n x) n = true := by
  simp only [isL, decide_eq_true_eq] at h ⊢
  unfold turnL
  by_cases h0 : 0 < x
  · simp only [if_pos h0]; omega
  · simp only [if_neg h0]; omega
theorem ok_inv {n : Int} {xs : List Int} (h : okW n xs = true) : okW n (xs.reverse.map negL) = true := ok_of h (by simp) fun y hy => by
  obtain ⟨x, hx, rfl⟩ := List.mem_map.1 hy
  exact isL_neg (ok_mem h x (List.mem_reverse.1 hx))
theorem ok_neg {n : Int} {xs : List Int} (h : okW n xs = true) : okW n (xs.map negL) = true := ok_of h (by simp) fun y hy => by
  obtain ⟨x, hx, rfl⟩ := List.mem_map.1 hy
  exact isL_neg (ok_mem h x hx)
theorem ok_rev {n : Int} {xs : List Int} (h : okW n xs = true) : okW n xs.reverse = true := ok_of h (by simp) fun y hy => ok_mem h y (List.mem_reverse.1 hy)
theorem ok_turn {n : Int} {xs : List Int} (h : okW n xs = true) : okW n (xs.map (turnL n)) = true := ok_of h (by simp) fun y hy => by
  obtain ⟨x, hx, rfl⟩ := List.mem_map.1 hy
  exact isL_turn (ok_mem h x hx)
theorem turn_turn {n : Int} {xs : List Int} (h : okW n xs = true) : (xs.map (turnL n)).map (turnL n) = xs := by
  rw [List.map_map]
  have : xs.map (turnL n ∘ turnL n) = xs.map id := List.map_congr_left fun x hx => by
    have hl := ok_mem h x hx
    simp only [isL, decide_eq_true_eq] at hl
    show turnL n (turnL n x) = x
    unfold turnL
    by_cases h0 : 0 < x
    · rw [if_pos h0, if_pos (by omega)]; omega
    · rw [if_neg h0, if_neg (by omega)]; omega
  rw [this, List.map_id]
theorem ok_prod {n : Int} {xs ys : List Int} (hx : okW n xs = true) (hy : okW n ys = true) (hl : xs.length + ys.length ≤ 200) : okW n (xs ++ ys) = true := by
  obtain ⟨m, rfl, h1, h8, h2, h3⟩ := okW_true hx
  have hb : inB (m : Int) 1 8 = true := by
    cases hb : inB (m : Int) 1 8 with
    | true => rfl
    | false => rw [okW_out hb] at hx; cases hx
  refine okW_good hb (by rw [List.length_append]; omega) fun i hi => ?_
  have := nth_mem hi
  rcases List.mem_append.1 this with h | h
  · exact ok_mem hx _ h
  · exact ok_mem hy _ h
/-! ### free forms -/
/-- no letter beside its inverse -/
def Red : List Int → Prop
  | [] => True
  | [_] => True
  | x :: y :: r => y ≠ -x ∧ Red (y :: r)
theorem red_snoc : ∀ (l : List Int) (x : Int), Red (l ++ [x]) ↔ Red l ∧ (∀ y, l.getLast? = some y → x ≠ -y)
  | [], x => by simp [Red]
  | [a], x => by simp [Red]
  | a :: b :: r, x => by
    show b ≠ -a ∧ Red ((b :: r) ++ [x]) ↔ (b ≠ -a ∧ Red (b :: r)) ∧ _
    rw [red_snoc (b :: r) x, List.getLast?_cons_cons]
    exact ⟨fun h => ⟨⟨h.1, h.2.1⟩, h.2.2⟩, fun h => ⟨h.1.1, h.1.2, h.2⟩⟩
theorem freeStep_last {l : List Int} {x y : Int} (h : l.getLast? = some y) : freeStep l x = if y = -x then l.dropLast else l ++ [x] := by
  have hne : l ≠ [] := fun e => by rw [e] at h; cases h
  have hl : 0 < l.length := List.length_pos_iff.2 hne
  have e : nth l (l.length - 1) = y := by
    rw [List.getLast?_eq_getElem?] at h
    simp [nth, h]
  unfold freeStep
  rw [e]
  by_cases hy : y = -x
  · rw [if_pos ⟨hl, hy⟩, if_pos hy]
  · rw [if_neg (fun h' => hy h'.2), if_neg hy]
theorem freeStep_nil (x : Int) : freeStep [] x = [x] := by simp [freeStep]
theorem red_init {l : List Int} {x : Int} (h : Red (l ++ [x])) : Red l := ((red_snoc l x).1 h).1
theorem red_step {l : List Int} (h : Red l) (x : Int) : Red (freeStep l x) := by
  rcases List.eq_nil_or_concat l with rfl | ⟨m, y, rfl⟩
  · rw [freeStep_nil]; trivial
  · rw [List.concat_eq_append] at h ⊢
    rw [freeStep_last (y := y) (by simp)]
    split
    · rw [List.dropLast_concat]; exact red_init h
    · rename_i hy
      refine (red_snoc _ x).2 ⟨h, fun z hz => ?_⟩
      have hz' : y = z := by simpa using hz
      subst hz'
      intro e; exact hy (by omega)
theorem red_fold : ∀ (xs l : List Int), Red l → Red (xs.foldl freeStep l)
  | [], l, h => h
  | x :: r, l, h => red_fold r _ (red_step h x)
theorem free_undo {l : List Int} (h : Red l) {x : Int} : freeStep (freeStep l x) (-x) = l := by
  rcases List.eq_nil_or_concat l with rfl | ⟨m, y, rfl⟩
  · rw [freeStep_nil]
    rw [freeStep_last (y := x) rfl, if_pos (by omega)]
    rfl
  · rw [List.concat_eq_append] at h ⊢
    rw [freeStep_last (x := x) (y := y) (by simp)]
    split
    · rename_i hy
      rw [List.dropLast_concat]
      rcases List.eq_nil_or_concat m with rfl | ⟨q, z, rfl⟩
      · rw [freeStep_nil, hy]; rfl
      · rw [List.concat_eq_append] at h ⊢
        rw [freeStep_last (y := z) (by simp)]
        have := ((red_snoc _ y).1 h).2 z (by simp)
        rw [if_neg (by omega), hy]
    · rw [freeStep_last (y := x) (by simp), if_pos (by omega), List.dropLast_concat]
theorem free_back : ∀ (xs l : List Int), Red l → (xs.reverse.map negL).foldl freeStep (xs.foldl freeStep l) = l
  | [], l, _ => rfl
  | x :: r, l, h => by
    rw [List.reverse_cons, List.map_append, List.foldl_append, List.foldl_cons, free_back r _ (red_step h x)]
    exact free_undo h
theorem free_inv (xs : List Int) : freeK (xs ++ xs.reverse.map negL) (xs ++ xs.reverse.map negL).length = [] := by
  unfold freeK
  rw [List.take_length, List.foldl_append]
  exact free_back xs [] trivial
theorem free_red (xs : List Int) (k : Nat) : Red (freeK xs k) := red_fold _ _ trivial
/-! ### texts -/
theorem text_back {n : Int} {xs : List Int} (h : okW n xs = true) : parN (textL n xs) = n ∧ parL (textL n xs) = xs ∧ parC (textL n xs) = 0 := par_yes ⟨h, by show textL n xs = _; unfold textL; rw [if_pos h]⟩
theorem textL_len {n : Int} {xs : List Int} : (textL n xs).length ≤ 4000000000 := by
  unfold textL
  split
  · rename_i h
    have h1 := braidT_length n xs xs.length
    have h2 := okW_len h
    omega
  · simp
/-! ### products -/
theorem prod_ok {n m : Int} {xs ys : List Int} (h : codP n xs m ys = 0) : n = m ∧ okW n xs = true ∧ okW n ys = true ∧ xs.length + ys.length ≤ 200 ∧ goodP n xs m ys = true := by
  by_cases h1 : okW n xs = true ∧ okW m ys = true
  · by_cases h2 : n = m
    · subst h2
      by_cases h3 : xs.length + ys.length ≤ 200
      · exact ⟨rfl, h1.1, h1.2, h3, (pr_5 h1.1 h1.2 h3).1⟩
      · simp [codP, h1, h3] at h
    · simp [codP, h1, h2] at h
  · simp [codP, h1] at h
end Go.Proofs.YtblpbkfenmkhbaaGreatDoor
