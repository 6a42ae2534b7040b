/- Neighbours that change places: plain facts with no program in sight. Conditions: as each theorem says. -/
import Derived.Test.YtblpbkfenmkhbaaGreatDoorMa
namespace Go.Proofs.YtblpbkfenmkhbaaGreatDoor
set_option linter.unusedVariables false
set_option linter.unusedSimpArgs false

/-- the numbers at i - 1 and i change places -/
def swapK (c : Nat → Nat) (i : Nat) : Nat → Nat := updN (updN c (i - 1) (c i)) i (c (i - 1))
theorem swapK_at (c i x) : swapK c i x = if x = i then c (i - 1) else if x = i - 1 then c i else c x := rfl
theorem swapK_here (c i) : swapK c i i = c (i - 1) := by simp [swapK_at]
theorem swapK_left {c i} (h : 1 ≤ i) : swapK c i (i - 1) = c i := by
  have : i - 1 ≠ i := by omega
  simp [swapK_at, this]
theorem swapK_else {c i x} (h1 : x ≠ i) (h2 : x ≠ i - 1) : swapK c i x = c x := by simp [swapK_at, h1, h2]
/-- where a place goes -/
def exP (i x : Nat) : Nat := if x = i then i - 1 else if x = i - 1 then i else x
theorem swapK_exP (c i x) : swapK c i x = c (exP i x) := by
  rw [swapK_at]; unfold exP
  split
  · rfl
  · split <;> rfl
theorem exP_lt {i n x : Nat} (h1 : 1 ≤ i) (hi : i < n) (hx : x < n) : exP i x < n := by unfold exP; split; omega; split <;> omega
theorem exP_exP {i x : Nat} (h1 : 1 ≤ i) : exP i (exP i x) = x := by
  unfold exP
  by_cases h : x = i
  · have : i - 1 ≠ i := by omega
    simp [h, this]
  · by_cases h2 : x = i - 1
    · simp [h, h2]
    · simp [h, h2]
/-- a permutation of n numbers -/
structure Perm (n : Nat) (c : Nat → Nat) : Prop where
  lt : ∀ x, x < n → c x < n
  inj : ∀ x y, x < n → y < n → c x = c y → x = y
theorem Perm.swap {n c i} (h : Perm n c) (h1 : 1 ≤ i) (hi : i < n) : Perm n (swapK c i) := by
  constructor
  · intro x hx; rw [swapK_exP]; exact h.lt _ (exP_lt h1 hi hx)
  · intro x y hx hy e
    rw [swapK_exP, swapK_exP] at e
    have := h.inj _ _ (exP_lt h1 hi hx) (exP_lt h1 hi hy) e
    have e2 : exP i (exP i x) = exP i (exP i y) := by rw [this]
    rwa [exP_exP h1, exP_exP h1] at e2
theorem perm_good {n s} (h2 : n ≤ 8) (hg : GoodK n s 8) : Perm n s := ⟨good_le h2 hg, good_inj h2 hg⟩
theorem perm_id (n) : Perm n (idK n) := ⟨fun x hx => by simp [idK, hx], fun x y hx hy e => by simpa [idK, hx, hy] using e⟩

theorem sumN_upd {n i : Nat} (f : Nat → Nat) (v : Nat) (h : i < n) : sumN n (updN f i v) + f i = sumN n f + v := by
  induction n with
  | zero => omega
  | succ n ih =>
    rw [sumN_succ, sumN_succ]
    by_cases e : i = n
    · subst e
      rw [sumN_ext (g := f) fun j hj => by have : j ≠ i := by omega
                                           simp [updN, this]]
      simp [updN]; omega
    · have h1 := ih (by omega)
      have h2 : updN f i v n = f n := by have : n ≠ i := fun h => e h.symm
                                         simp [updN, this]
      omega
/-- what a swap makes greater or smaller -/
def mu (n : Nat) (c : Nat → Nat) : Nat := sumN n fun i => i * c i
theorem mu_ext {n} {c d : Nat → Nat} (h : ∀ i, i < n → c i = d i) : mu n c = mu n d := sumN_ext fun i hi => by rw [h i hi]
theorem mu_swap {n i : Nat} (c : Nat → Nat) (h1 : 1 ≤ i) (hi : i < n) : mu n (swapK c i) + c i = mu n c + c (i - 1) := by
  obtain ⟨k, rfl⟩ : ∃ k, i = k + 1 := ⟨i - 1, by omega⟩
  simp only [Nat.add_sub_cancel]
  have e : mu n (swapK c (k + 1)) = sumN n (updN (updN (fun i => i * c i) k (k * c (k + 1))) (k + 1) ((k + 1) * c k)) := by
    refine sumN_ext fun j _ => ?_
    simp only [swapK_at, updN, Nat.add_sub_cancel]
    by_cases a : j = k + 1
    · subst a; simp
    · by_cases b : j = k
      · subst b; simp [a]
      · simp [a, b]
  have s2 := sumN_upd (n := n) (updN (fun i => i * c i) k (k * c (k + 1))) ((k + 1) * c k) hi
  have s1 := sumN_upd (n := n) (fun i => i * c i) (k * c (k + 1)) (i := k) (by omega)
  have e3 : updN (fun i => i * c i) k (k * c (k + 1)) (k + 1) = (k + 1) * c (k + 1) := by simp [updN]
  rw [e3] at s2
  rw [e]
  have d1 : (k + 1) * c (k + 1) = k * c (k + 1) + c (k + 1) := Nat.succ_mul _ _
  have d2 : (k + 1) * c k = k * c k + c k := Nat.succ_mul _ _
  simp only [mu] at *
  omega
theorem mu_le {n} {c : Nat → Nat} (h2 : n ≤ 8) (hc : ∀ x, x < n → c x < n) : mu n c ≤ 512 := by
  have : mu n c ≤ n * 64 := sumN_le fun i hi => by
    have := hc i hi
    have : i * c i ≤ 8 * 8 := Nat.mul_le_mul (by omega) (by omega)
    omega
  omega

/-! ## arrays -/
/-- the exchange of two neighbours -/
def exK (n i : Nat) : Nat → Nat := swapK (idK n) i
theorem exK_at {n i x : Nat} (h1 : 1 ≤ i) (hi : i < n) (hx : x < n) : exK n i x = exP i x := by
  unfold exK; rw [swapK_exP]; simp [idK, exP_lt h1 hi hx]
theorem exK_lt {n i : Nat} (h1 : 1 ≤ i) (hi : i < n) : ∀ x, x < n → exK n i x < n := fun x hx => by rw [exK_at h1 hi hx]; exact exP_lt h1 hi hx
theorem then_ex {n i : Nat} {s : Nat → Nat} (h1 : 1 ≤ i) (hi : i < n) {x : Nat} (hx : x < n) : thenK (exK n i) s n x = swapK s i x := by
  simp only [thenK, if_pos hx]; rw [exK_at h1 hi hx, swapK_exP]
theorem then_ex' {n i : Nat} {s : Nat → Nat} (h1 : 1 ≤ i) (hi : i < n) (hz : ∀ x, n ≤ x → x < 8 → s x = 0) {x : Nat} (hx : x < 8) : thenK (exK n i) s n x = swapK s i x := by
  by_cases h : x < n
  · exact then_ex h1 hi h
  · have e1 : x ≠ i := by omega
    have e2 : x ≠ i - 1 := by omega
    simp [thenK, h, swapK_at, e1, e2, hz x (by omega) hx]
theorem backK_else {s : Nat → Nat} {x : Nat} : ∀ k, (∀ y, y < k → s y ≠ x) → backK s k x = 0
  | 0, _ => rfl
  | k + 1, h => by
    have h1 : x ≠ s k := fun e => h k (by omega) e.symm
    simp only [backK, updN, if_neg h1]
    exact backK_else k fun y hy => h y (by omega)
theorem backK_at {s : Nat → Nat} {p : Nat} : ∀ k, p < k → (∀ x y, x < k → y < k → s x = s y → x = y) → backK s k (s p) = p
  | 0, h, _ => by omega
  | k + 1, h, hi => by
    simp only [backK, updN]
    by_cases e : s p = s k
    · rw [if_pos e]; exact (hi p k (by omega) (by omega) e).symm
    · rw [if_neg e]
      have : p ≠ k := fun h' => e (by rw [h'])
      exact backK_at k (by omega) fun x y hx hy => hi x y (by omega) (by omega)
theorem Perm.has {n : Nat} {c : Nat → Nat} (h : Perm n c) : ∀ x, x < n → ∃ p, p < n ∧ c p = x := by
  intro x hx
  refine Classical.byContradiction fun hno => ?_
  have hno' : ∀ p, p < n → c p ≠ x := fun p hp e => hno ⟨p, hp, e⟩
  -- n numbers in n - 1 places
  have key : ∀ (m : Nat) (f : Nat → Nat) (k : Nat), (∀ i, i < k → f i < m) → (∀ i j, i < k → j < k → f i = f j → i = j) → k ≤ m := by
    intro m
    induction m with
    | zero => intro f k h1 _; rcases Nat.eq_zero_or_pos k with e | e; omega; have := h1 0 e; omega
    | succ m ih =>
      intro f k h1 h2
      by_cases he : ∃ q, q < k ∧ f q = m
      · obtain ⟨q, hq, hqm⟩ := he
        have : k - 1 ≤ m := ih (fun i => if i = q then f (k - 1) else f i) (k - 1)
          (fun i hi => by
            show (if i = q then f (k - 1) else f i) < m
            split
            · rename_i e
              have a := h1 (k - 1) (by omega)
              have b : f (k - 1) ≠ m := fun e' => by have := h2 (k - 1) q (by omega) hq (by rw [e', hqm]); omega
              omega
            · rename_i e
              have a := h1 i (by omega)
              have b : f i ≠ m := fun e' => e (h2 i q (by omega) hq (by rw [e', hqm]))
              omega)
          (fun i j hi hj e => by
            have e' : (if i = q then f (k - 1) else f i) = (if j = q then f (k - 1) else f j) := e
            split at e' <;> split at e'
            · omega
            · have := h2 _ _ (by omega) (by omega) e'; omega
            · have := h2 _ _ (by omega) (by omega) e'; omega
            · exact h2 _ _ (by omega) (by omega) e')
        omega
      · have := ih f k (fun i hi => by
            have a := h1 i hi
            have b : f i ≠ m := fun e => he ⟨i, hi, e⟩
            omega) h2
        omega
  have := key (n - 1) (fun p => if c p < x then c p else c p - 1) n
    (fun i hi => by
      have a := h.lt i hi
      have b := hno' i hi
      show (if c i < x then c i else c i - 1) < n - 1
      split <;> omega)
    (fun i j hi hj e => by
      have e' : (if c i < x then c i else c i - 1) = (if c j < x then c j else c j - 1) := e
      have a := hno' i hi
      have b := hno' j hj
      exact h.inj i j hi hj (by split at e' <;> split at e' <;> omega))
  omega
theorem back_lt {n : Nat} {c : Nat → Nat} (h : Perm n c) : ∀ x, x < n → backK c n x < n := by
  intro x hx
  obtain ⟨p, hp, rfl⟩ := h.has x hx
  rw [backK_at n hp h.inj]; exact hp
theorem back_out {n : Nat} {c : Nat → Nat} (h : Perm n c) {x : Nat} (hx : n ≤ x) : backK c n x = 0 :=
  backK_else n fun y hy e => by have := h.lt y hy; omega
theorem back_swap {n i : Nat} {c : Nat → Nat} (h : Perm n c) (h1 : 1 ≤ i) (hi : i < n) : thenK (backK c n) (exK n i) n = backK (swapK c i) n := by
  funext x
  have hs := h.swap h1 hi
  by_cases hx : x < n
  · obtain ⟨p, hp, rfl⟩ := h.has x hx
    simp only [thenK, if_pos hx]
    rw [backK_at n hp h.inj, exK_at h1 hi hp]
    have e : c p = swapK c i (exP i p) := by rw [swapK_exP, exP_exP h1]
    rw [e, backK_at n (exP_lt h1 hi hp) hs.inj]
  · rw [back_out hs (by omega)]
    simp [thenK, hx]
theorem back_id (n : Nat) : backK (idK n) n = idK n := by
  funext x
  by_cases hx : x < n
  · have e : idK n x = x := by simp [idK, hx]
    have := backK_at (s := idK n) n hx (perm_id n).inj
    rw [e] at this
    rw [this, e]
  · rw [back_out (perm_id n) (by omega)]; simp [idK, hx]

/-! ## the least word -/
/-- the least word of what is left, by so many steps at most -/
def wordK (n : Nat) : Nat → (Nat → Nat) → List Int
  | 0, _ => []
  | f + 1, s => match begK s n with
    | [] => []
    | i :: _ => i :: wordK n f (swapK s i.toNat)
theorem wordK_length (n) : ∀ f s, (wordK n f s).length ≤ f
  | 0, _ => Nat.zero_le _
  | f + 1, s => by
    simp only [wordK]
    split
    · exact Nat.zero_le _
    · simp only [List.length_cons]; have := wordK_length n f (swapK s (Int.toNat ‹Int›)); omega
theorem begK_mem {s : Nat → Nat} {n : Nat} {x : Int} (h : x ∈ begK s n) : ∃ i : Nat, x = i ∧ 1 ≤ i ∧ i < n ∧ s i < s (i - 1) := by
  simp only [begK, List.mem_map, List.mem_filter, List.mem_range, decide_eq_true_eq] at h
  obtain ⟨i, ⟨h1, h2, h3⟩, rfl⟩ := h
  exact ⟨i, rfl, h2, h1, h3⟩
theorem begK_nil {s : Nat → Nat} {n : Nat} (h : begK s n = []) : ∀ i, 1 ≤ i → i < n → ¬ s i < s (i - 1) := by
  intro i h1 hi hd
  have : (i : Int) ∈ begK s n := by
    simp only [begK, List.mem_map, List.mem_filter, List.mem_range, decide_eq_true_eq]
    exact ⟨i, ⟨hi, h1, hd⟩, rfl⟩
  rw [h] at this; cases this
theorem begK_ext {s t : Nat → Nat} {n : Nat} (h : ∀ i, i < n → s i = t i) : begK s n = begK t n := by
  unfold begK
  congr 1
  apply List.filter_congr
  intro i hi
  rw [List.mem_range] at hi
  congr 1
  apply propext
  by_cases h1 : 1 ≤ i
  · rw [h i hi, h (i - 1) (by omega)]
  · simp [h1]
theorem wordK_nil {n f s} (h : begK s n = []) : wordK n f s = [] := by
  cases f with
  | zero => rfl
  | succ f => simp [wordK, h]
theorem wordK_cons {n f s i l} (h : begK s n = i :: l) : wordK n (f + 1) s = i :: wordK n f (swapK s i.toNat) := by simp [wordK, h]
theorem wordK_ext {n : Nat} : ∀ (f : Nat) {s t : Nat → Nat}, (∀ i, i < n → s i = t i) → wordK n f s = wordK n f t
  | 0, _, _, _ => rfl
  | f + 1, s, t, h => by
    have hb := begK_ext h
    cases hs : begK s n with
    | nil => rw [wordK_nil hs, wordK_nil (by rw [← hb]; exact hs)]
    | cons x l =>
      obtain ⟨i, rfl, h1, hi, _⟩ := begK_mem (s := s) (n := n) (x := x) (by rw [hs]; exact List.mem_cons_self)
      rw [wordK_cons hs, wordK_cons (hb.symm.trans hs)]
      rw [wordK_ext f fun y hy => ?_]
      show swapK s i y = swapK t i y
      rw [swapK_exP, swapK_exP, h _ (exP_lt h1 hi hy)]
theorem Perm.ext {n : Nat} {s t : Nat → Nat} (hp : Perm n s) (h : ∀ i, i < n → t i = s i) : Perm n t :=
  ⟨fun x hx => by rw [h x hx]; exact hp.lt x hx, fun x y hx hy e => hp.inj x y hx hy (by rw [← h x hx, ← h y hy]; exact e)⟩

/-! ## a measure of what lies in memory -/
def natAt (w : World) (b i : Nat) : Nat := match w.cell? ⟨b, i, none⟩ with
  | some (.int _ v) => v.toNat
  | _ => 0
def muAt (n : Nat) (w : World) (b : Nat) : Nat := mu n (natAt w b)
theorem muAt_arr {n : Nat} {w : World} {b : Nat} {c : Nat → Nat} {T : TypeId} (h : w.heap[b]? = some (.cells (arrF .u8 8 (up c)) T)) (h2 : n ≤ 8) : muAt n w b = mu n c := by
  refine mu_ext fun i hi => ?_
  unfold natAt World.cell?
  rw [h]
  simp [arrF_get _ _ _ _ (show i < 8 by omega), up]
end Go.Proofs.YtblpbkfenmkhbaaGreatDoor
