/- The meet of two simple braids: neighbours change places as long as they may; in whatever order, the end is the same. Conditions: as each theorem says. -/
import Derived.Test.YtblpbkfenmkhbaaGreatDoorP4
namespace Go.Proofs.YtblpbkfenmkhbaaGreatDoor
set_option linter.unusedVariables false
set_option linter.unusedSimpArgs false

/-- one or more steps, or none -/
inductive Star {α : Type} (R : α → α → Prop) : α → α → Prop
  | refl (a) : Star R a a
  | head {a b c} : R a b → Star R b c → Star R a c
theorem Star.one {α : Type} {R : α → α → Prop} {a b : α} (h : R a b) : Star R a b := .head h (.refl _)
theorem Star.trans {α : Type} {R : α → α → Prop} {a b c : α} (h : Star R a b) (k : Star R b c) : Star R a c := by
  induction h with
  | refl => exact k
  | head h1 _ ih => exact .head h1 (ih k)
theorem Star.tail {α : Type} {R : α → α → Prop} {a b c : α} (h : Star R a b) (k : R b c) : Star R a c := h.trans (.one k)
/-- Newman's lemma, with a measure -/
theorem newman {α : Type} {R : α → α → Prop} (m : α → Nat) (hm : ∀ a b, R a b → m b < m a) (lc : ∀ a b c, R a b → R a c → ∃ d, Star R b d ∧ Star R c d) :
    ∀ k a, m a < k → ∀ b c, Star R a b → Star R a c → ∃ d, Star R b d ∧ Star R c d := by
  intro k
  induction k with
  | zero => intro a h; omega
  | succ k ih =>
    intro a ha b c hb hc
    cases hb with
    | refl => exact ⟨c, hc, .refl _⟩
    | head b1 b2 =>
      cases hc with
      | refl => exact ⟨b, .refl _, .head b1 b2⟩
      | head c1 c2 =>
        rename_i x y
        obtain ⟨d, d1, d2⟩ := lc _ _ _ b1 c1
        have hx := hm _ _ b1
        have hy := hm _ _ c1
        obtain ⟨e, e1, e2⟩ := ih x (by omega) _ _ b2 d1
        obtain ⟨f, f1, f2⟩ := ih y (by omega) _ _ c2 (d2.trans e2)
        exact ⟨f, e1.trans f2, f1⟩
/-- two ends are the same -/
theorem ends_same {α : Type} {R : α → α → Prop} (m : α → Nat) (hm : ∀ a b, R a b → m b < m a) (lc : ∀ a b c, R a b → R a c → ∃ d, Star R b d ∧ Star R c d)
    {a b c : α} (hb : Star R a b) (hc : Star R a c) (eb : ∀ x, ¬ R b x) (ec : ∀ x, ¬ R c x) : b = c := by
  obtain ⟨d, d1, d2⟩ := newman m hm lc (m a + 1) a (by omega) b c hb hc
  have e1 : b = d := by cases d1 with
    | refl => rfl
    | head h _ => exact absurd h (eb _)
  have e2 : c = d := by cases d2 with
    | refl => rfl
    | head h _ => exact absurd h (ec _)
  rw [e1, e2]

/-- a step: two neighbours that ascend, and that may cross, change places -/
def Step (C : Nat → Nat → Prop) (n : Nat) (c d : Nat → Nat) : Prop := ∃ i, 1 ≤ i ∧ i < n ∧ c (i - 1) < c i ∧ C (c (i - 1)) (c i) ∧ d = swapK c i
theorem Step.mu {C n c d} (h : Step C n c d) : mu n d < mu n c := by
  obtain ⟨i, h1, hi, hlt, _, rfl⟩ := h
  have := mu_swap c h1 hi
  omega
theorem swap_comm {c : Nat → Nat} {i j : Nat} (h1 : 1 ≤ i) (h : i + 1 < j) : swapK (swapK c i) j = swapK (swapK c j) i := by
  funext x
  simp only [swapK_at]
  have a1 : j ≠ i := by omega
  have a2 : j ≠ i - 1 := by omega
  have a3 : j - 1 ≠ i := by omega
  have a4 : j - 1 ≠ i - 1 := by omega
  have b1 : i ≠ j := by omega
  have b2 : i ≠ j - 1 := by omega
  have b3 : i - 1 ≠ j := by omega
  have b4 : i - 1 ≠ j - 1 := by omega
  simp only [a1, a2, a3, a4, b1, b2, b3, b4, if_false]
  by_cases e1 : x = j
  · subst e1; simp [a1, a2]
  · by_cases e2 : x = j - 1
    · subst e2; simp [a3, a4]
    · simp [e1, e2]
theorem swap_braid {c : Nat → Nat} {i : Nat} (h1 : 1 ≤ i) : swapK (swapK (swapK c i) (i + 1)) i = swapK (swapK (swapK c (i + 1)) i) (i + 1) := by
  obtain ⟨k, rfl⟩ : ∃ k, i = k + 1 := ⟨i - 1, by omega⟩
  funext x
  have n1 : ¬ (k + 1 + 1 = k) := by omega
  have n2 : ¬ (k = k + 1 + 1) := by omega
  simp only [swapK_at, Nat.add_sub_cancel]
  by_cases e1 : x = k
  · subst e1; simp [n1, n2]
  · by_cases e2 : x = k + 1
    · subst e2; simp [n1, n2]
    · by_cases e3 : x = k + 1 + 1
      · subst e3; simp [n1, n2]
      · simp [e1, e2, e3]
theorem step_at {C n} {c : Nat → Nat} {i : Nat} (h1 : 1 ≤ i) (hi : i < n) {x y : Nat} (hx : c (i - 1) = x) (hy : c i = y) (hlt : x < y) (hC : C x y) : Step C n c (swapK c i) :=
  ⟨i, h1, hi, by rw [hx, hy]; exact hlt, by rw [hx, hy]; exact hC, rfl⟩
theorem step_near {C n} (hT : ∀ x y z, x < y → y < z → C x y → C y z → C x z) {c : Nat → Nat} {i : Nat} (h1 : 1 ≤ i) (hi : i + 1 < n) (l1 : c (i - 1) < c i) (C1 : C (c (i - 1)) (c i)) (l2 : c i < c (i + 1)) (C2 : C (c i) (c (i + 1))) :
    ∃ d, Star (Step C n) (swapK c i) d ∧ Star (Step C n) (swapK c (i + 1)) d := by
  have l3 : c (i - 1) < c (i + 1) := by omega
  have C3 := hT _ _ _ l1 l2 C1 C2
  obtain ⟨k, rfl⟩ : ∃ k, i = k + 1 := ⟨i - 1, by omega⟩
  simp only [Nat.add_sub_cancel] at *
  have n1 : ¬ (k + 1 + 1 = k) := by omega
  have n2 : ¬ (k = k + 1 + 1) := by omega
  refine ⟨swapK (swapK (swapK c (k + 1)) (k + 1 + 1)) (k + 1), ?_, ?_⟩
  · refine .head (step_at (by omega) (by omega) (x := c k) (y := c (k + 1 + 1)) ?_ ?_ l3 C3) (.one (step_at (by omega) (by omega) (x := c (k + 1)) (y := c (k + 1 + 1)) ?_ ?_ l2 C2)) <;> simp [swapK_at, n1, n2]
  · rw [swap_braid (by omega)]
    refine .head (step_at (by omega) (by omega) (x := c k) (y := c (k + 1 + 1)) ?_ ?_ l3 C3) (.one (step_at (by omega) (by omega) (x := c k) (y := c (k + 1)) ?_ ?_ l1 C1)) <;> simp [swapK_at, n1, n2]
theorem step_far {C n} {c : Nat → Nat} {i j : Nat} (h1 : 1 ≤ i) (h : i + 1 < j) (hj : j < n) (l1 : c (i - 1) < c i) (C1 : C (c (i - 1)) (c i)) (l2 : c (j - 1) < c j) (C2 : C (c (j - 1)) (c j)) :
    ∃ d, Star (Step C n) (swapK c i) d ∧ Star (Step C n) (swapK c j) d := by
  have a1 : j ≠ i := by omega
  have a2 : j ≠ i - 1 := by omega
  have a3 : j - 1 ≠ i := by omega
  have a4 : j - 1 ≠ i - 1 := by omega
  have b1 : i ≠ j := by omega
  have b2 : i ≠ j - 1 := by omega
  have b3 : i - 1 ≠ j := by omega
  have b4 : i - 1 ≠ j - 1 := by omega
  refine ⟨swapK (swapK c i) j, .one (step_at (by omega) hj (swapK_else a3 a4) (swapK_else a1 a2) l2 C2), ?_⟩
  rw [swap_comm h1 h]
  exact .one (step_at h1 (by omega) (swapK_else b3 b4) (swapK_else b1 b2) l1 C1)
theorem step_local {C n} (hT : ∀ x y z, x < y → y < z → C x y → C y z → C x z) : ∀ a b c, Step C n a b → Step C n a c → ∃ d, Star (Step C n) b d ∧ Star (Step C n) c d := by
  rintro a b c ⟨i, h1, hi, l1, C1, rfl⟩ ⟨j, k1, kj, l2, C2, rfl⟩
  rcases Nat.lt_trichotomy i j with h | h | h
  · by_cases e : j = i + 1
    · subst e; rw [Nat.add_sub_cancel] at l2 C2; exact step_near hT h1 kj l1 C1 l2 C2
    · exact step_far h1 (by omega) kj l1 C1 l2 C2
  · subst h; exact ⟨_, .refl _, .refl _⟩
  · by_cases e : i = j + 1
    · subst e; rw [Nat.add_sub_cancel] at l1 C1
      obtain ⟨d, d1, d2⟩ := step_near hT k1 hi l2 C2 l1 C1
      exact ⟨d, d2, d1⟩
    · obtain ⟨d, d1, d2⟩ := step_far k1 (by omega) hi l2 C2 l1 C1
      exact ⟨d, d2, d1⟩
/-- the pairs that cross in both -/
def Both (a b : Nat → Nat) (x y : Nat) : Prop := a y < a x ∧ b y < b x
theorem both_trans {a b : Nat → Nat} : ∀ x y z, x < y → y < z → Both a b x y → Both a b y z → Both a b x z := fun x y z _ _ h k => ⟨by have := h.1; have := k.1; omega, by have := h.2; have := k.2; omega⟩
/-- c is reached, and no step is left -/
def Meets (a b : Nat → Nat) (n : Nat) (c : Nat → Nat) : Prop := Star (Step (Both a b) n) (idK n) c ∧ ∀ i, 1 ≤ i → i < n → ¬ (c (i - 1) < c i ∧ Both a b (c (i - 1)) (c i))
theorem meets_same {a b n c d} (h : Meets a b n c) (k : Meets a b n d) : c = d :=
  ends_same (mu n) (fun _ _ => Step.mu) (step_local both_trans) h.1 k.1 (fun x ⟨i, h1, hi, l, C, _⟩ => h.2 i h1 hi ⟨l, C⟩) (fun x ⟨i, h1, hi, l, C, _⟩ => k.2 i h1 hi ⟨l, C⟩)
theorem star_perm {C n} {c d : Nat → Nat} (h : Star (Step C n) c d) (hc : Perm n c) : Perm n d := by
  induction h with
  | refl => exact hc
  | head s _ ih =>
    obtain ⟨i, h1, hi, _, _, rfl⟩ := s
    exact ih (hc.swap h1 hi)
theorem exP_cases (i x : Nat) : (x = i ∧ exP i x = i - 1) ∨ (x = i - 1 ∧ x ≠ i ∧ exP i x = i) ∨ (x ≠ i ∧ x ≠ i - 1 ∧ exP i x = x) := by
  unfold exP
  by_cases h : x = i
  · exact .inl ⟨h, by simp [h]⟩
  · by_cases h2 : x = i - 1
    · exact .inr (.inl ⟨h2, h, by rw [if_neg h, if_pos h2]⟩)
    · exact .inr (.inr ⟨h, h2, by rw [if_neg h, if_neg h2]⟩)
/-- a pair that has changed places crosses in both -/
def Crossed (a b : Nat → Nat) (n : Nat) (c : Nat → Nat) : Prop := ∀ p q, p < q → q < n → c q < c p → Both a b (c q) (c p)
theorem crossed_id (a b n) : Crossed a b n (idK n) := by
  intro p q h hq hc
  have : p < n := by omega
  simp [idK, hq, this] at hc
  omega
theorem crossed_step {a b n} {c d : Nat → Nat} (h : Step (Both a b) n c d) (hc : Crossed a b n c) : Crossed a b n d := by
  obtain ⟨i, h1, hi, l, C, rfl⟩ := h
  intro p q hpq hq hlt
  rw [swapK_exP, swapK_exP] at *
  by_cases e : p = i - 1 ∧ q = i
  · have e1 : exP i p = i := by rw [e.1]; unfold exP; have : i - 1 ≠ i := by omega
                                simp [this]
    have e2 : exP i q = i - 1 := by rw [e.2]; simp [exP]
    rw [e1, e2] at *
    exact C
  · have h3 : exP i p < exP i q := by
      rcases exP_cases i p with ⟨a1, a2⟩ | ⟨a1, a2, a3⟩ | ⟨a1, a2, a3⟩ <;> rcases exP_cases i q with ⟨b1, b2⟩ | ⟨b1, b2, b3⟩ | ⟨b1, b2, b3⟩ <;> omega
    exact hc _ _ h3 (exP_lt h1 hi hq) hlt
theorem crossed_star {a b n} {c d : Nat → Nat} (h : Star (Step (Both a b) n) c d) (hc : Crossed a b n c) : Crossed a b n d := by
  induction h with
  | refl => exact hc
  | head s _ ih => exact ih (crossed_step s hc)
/-- where both descend, the pair has not changed places yet -/
theorem asc_of {a b n} {c : Nat → Nat} (hc : Crossed a b n c) (hp : Perm n c) {i : Nat} (h1 : 1 ≤ i) (hi : i < n) (ha : a (c i) < a (c (i - 1))) : c (i - 1) < c i := by
  rcases Nat.lt_trichotomy (c (i - 1)) (c i) with h | h | h
  · exact h
  · rw [h] at ha; omega
  · have := (hc (i - 1) i (by omega) hi h).1
    omega
/-- the pairs that cross in both, as bits -/
theorem both_bit {a b : Nat → Nat} {n x y : Nat} (h2 : n ≤ 8) (hxy : x < y) (hy : y < n) : (desK a n &&& desK b n) / 2 ^ (8 * x + y) % 2 = 1 ↔ Both a b x y := by
  have e1 : (8 * x + y) / 8 = x := by omega
  have e2 : (8 * x + y) % 8 = y := by omega
  have h : ((desK a n &&& desK b n) / 2 ^ (8 * x + y) % 2 = 1) ↔ (desK a n &&& desK b n).testBit (8 * x + y) = true := by
    rw [Nat.testBit_eq_decide_div_mod_eq, decide_eq_true_eq]
  rw [h, Nat.testBit_and, desK_bit n h2, desK_bit n h2, e1, e2]
  simp only [Bool.and_eq_true, decide_eq_true_eq]
  unfold Both
  omega
theorem both_bitAt {a b : Nat → Nat} {n x y : Nat} (h2 : n ≤ 8) (hxy : x < y) (hy : y < n) : bitAt (desK a n &&& desK b n) (8 * x + y) = 1 ↔ Both a b x y := both_bit h2 hxy hy
def boolOf : Value → Bool | .bool b => b | _ => false
/-- no neighbours ahead of i may change places -/
def Done (a b : Nat → Nat) (c : Nat → Nat) (i : Nat) : Prop := ∀ i', 1 ≤ i' → i' < i → ¬ (c (i' - 1) < c i' ∧ Both a b (c (i' - 1)) (c i'))
theorem done_one (a b c) : Done a b c 1 := fun i' h1 h2 => by omega
theorem done_step {a b c i} (h : Done a b c i) (hn : ¬ (c (i - 1) < c i ∧ Both a b (c (i - 1)) (c i))) : Done a b c (i + 1) := by
  intro i' h1 h2
  by_cases e : i' = i
  · rw [e]; exact hn
  · exact h i' h1 (by omega)
/-- the two braids read along c -/
def Along (n : Nat) (a c a' : Nat → Nat) : Prop := ∀ x, x < n → a' x = a (c x)
theorem along_id (n : Nat) (a : Nat → Nat) : Along n a (idK n) a := fun x hx => by simp [idK, hx]
theorem along_swap {n i : Nat} {a c a' : Nat → Nat} (h : Along n a c a') (h1 : 1 ≤ i) (hi : i < n) : Along n a (swapK c i) (thenK (exK n i) a' n) := by
  intro x hx
  rw [then_ex h1 hi hx, swapK_exP, swapK_exP, h _ (exP_lt h1 hi hx)]
def DoneS (a b : Nat → Nat) (c : Nat → Nat) (i : Nat) : Prop := ∀ i', 1 ≤ i' → i' < i → ¬ Both a b (c (i' - 1)) (c i')
theorem doneS_one (a b c) : DoneS a b c 1 := fun i' h1 h2 => by omega
theorem doneS_step {a b c i} (h : DoneS a b c i) (hn : ¬ Both a b (c (i - 1)) (c i)) : DoneS a b c (i + 1) := by
  intro i' h1 h2
  by_cases e : i' = i
  · rw [e]; exact hn
  · exact h i' h1 (by omega)
theorem doneS_done {a b c i} (h : DoneS a b c i) : Done a b c i := fun i' h1 h2 h3 => h i' h1 h2 h3.2
theorem along_both {n : Nat} {a b c a' b' : Nat → Nat} (ha : Along n a c a') (hb : Along n b c b') {x y : Nat} (hx : x < n) (hy : y < n) : Both a b (c x) (c y) ↔ (a' y < a' x ∧ b' y < b' x) := by
  unfold Both
  rw [ha x hx, ha y hy, hb x hx, hb y hy]
theorem step_of {a b c : Nat → Nat} {n i : Nat} (hs : Star (Step (Both a b) n) (idK n) c) (h1 : 1 ≤ i) (hi : i < n) (hB : Both a b (c (i - 1)) (c i)) : Star (Step (Both a b) n) (idK n) (swapK c i) :=
  hs.tail ⟨i, h1, hi, asc_of (crossed_star hs (crossed_id a b n)) (star_perm hs (perm_id n)) h1 hi hB.1, hB, rfl⟩
/-- the meet -/
noncomputable def meetK (a b : Nat → Nat) (n : Nat) : Nat → Nat := open Classical in if h : ∃ c, Meets a b n c then backK h.choose n else zeroN
theorem meetK_eq {a b n c} (h : Meets a b n c) : meetK a b n = backK c n := by
  have hx : ∃ c, Meets a b n c := ⟨c, h⟩
  unfold meetK
  rw [dif_pos hx, meets_same hx.choose_spec h]
end Go.Proofs.YtblpbkfenmkhbaaGreatDoor
