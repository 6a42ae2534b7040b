/- The lattice of simple braids: plain facts. Conditions: as each theorem says. -/
import Derived.Test.YtemegeiolpkapaaP7
namespace Go.Proofs.Ytemegeiolpkapaa
set_option linter.unusedVariables false
set_option linter.unusedSimpArgs false

/-- every pair that descends in a descends in b -/
def LeP (n : Nat) (a b : Nat → Nat) : Prop := ∀ p q, p < q → q < n → a q < a p → b q < b p
theorem withK_iff {n : Nat} {a b : Nat → Nat} (hb : Perm n b) : withK a b n = true ↔ LeP n a b := by
  simp only [withK, decide_eq_true_eq]
  constructor
  · intro h p q hpq hq ha
    have h1 := h q hq p hpq ha
    have h2 : b q ≠ b p := fun e => by have := hb.inj _ _ hq (by omega) e; omega
    omega
  · intro h q hq p hpq ha hlt
    have := h p q hpq hq ha
    omega
theorem LeP.trans {n : Nat} {a b c : Nat → Nat} (h : LeP n a b) (k : LeP n b c) : LeP n a c := fun p q h1 h2 h3 => k p q h1 h2 (h p q h1 h2 h3)
/-- the meet is a beginning of both -/
theorem meet_le (a b : Nat → Nat) (n : Nat) : LeP n (meetK a b n) a ∧ LeP n (meetK a b n) b := by
  obtain ⟨c, hc⟩ := meets_any a b n
  rw [meetK_eq hc]
  have hp := star_perm hc.1 (perm_id n)
  have hx := crossed_star hc.1 (crossed_id a b n)
  have key : ∀ p q, p < q → q < n → backK c n q < backK c n p → Both a b p q := by
    intro p q hpq hq hlt
    have h1 := back_lt hp p (by omega)
    have h2 := of_back hp (show p < n by omega)
    have h3 := of_back hp hq
    have := hx (backK c n q) (backK c n p) hlt h1 (by rw [h2, h3]; exact hpq)
    rwa [h2, h3] at this
  exact ⟨fun p q h1 h2 h3 => (key p q h1 h2 h3).1, fun p q h1 h2 h3 => (key p q h1 h2 h3).2⟩
/-- what descends in x or in m, and what follows -/
inductive JJ (n : Nat) (x m : Nat → Nat) : Nat → Nat → Prop
  | one {p q} : p < q → q < n → x q < x p → JJ n x m p q
  | two {p q} : p < q → q < n → m q < m p → JJ n x m p q
  | tr {p r q} : JJ n x m p r → JJ n x m r q → JJ n x m p q
theorem JJ.lt {n : Nat} {x m : Nat → Nat} {p q : Nat} (h : JJ n x m p q) : p < q ∧ q < n := by
  induction h with
  | one h1 h2 _ => exact ⟨h1, h2⟩
  | two h1 h2 _ => exact ⟨h1, h2⟩
  | tr _ _ h1 h2 => omega
theorem JJ.le {n : Nat} {x m a : Nat → Nat} (hx : LeP n x a) (hm : LeP n m a) {p q : Nat} (h : JJ n x m p q) : a q < a p := by
  induction h with
  | one h1 h2 h3 => exact hx _ _ h1 h2 h3
  | two h1 h2 h3 => exact hm _ _ h1 h2 h3
  | tr _ _ h1 h2 => omega
theorem JJ.co {n : Nat} {x m : Nat → Nat} (hx : Perm n x) (hm : Perm n m) {p q : Nat} (h : JJ n x m p q) : ∀ r, p < r → r < q → JJ n x m p r ∨ JJ n x m r q := by
  induction h with
  | @one p q h1 h2 h3 =>
    intro r hr1 hr2
    by_cases h : x r < x p
    · exact .inl (.one hr1 (by omega) h)
    · have : x r ≠ x p := fun e => by have := hx.inj r p (by omega) (by omega) e; omega
      exact .inr (.one hr2 h2 (by omega))
  | @two p q h1 h2 h3 =>
    intro r hr1 hr2
    by_cases h : m r < m p
    · exact .inl (.two hr1 (by omega) h)
    · have : m r ≠ m p := fun e => by have := hm.inj r p (by omega) (by omega) e; omega
      exact .inr (.two hr2 h2 (by omega))
  | @tr p s q h1 h2 ih1 ih2 =>
    intro r hr1 hr2
    rcases Nat.lt_trichotomy r s with h | h | h
    · rcases ih1 r hr1 h with h3 | h3
      · exact .inl h3
      · exact .inr (.tr h3 h2)
    · subst h; exact .inl h1
    · rcases ih2 r h hr2 with h3 | h3
      · exact .inl (.tr h1 h3)
      · exact .inr h3
/-- what is a beginning of both is one of the meet -/
theorem meet_most {n : Nat} {a b x : Nat → Nat} (hx : Perm n x) (ha : LeP n x a) (hb : LeP n x b) : LeP n x (meetK a b n) := by
  obtain ⟨c, hc⟩ := meets_any a b n
  have hle := meet_le a b n
  rw [meetK_eq hc] at hle ⊢
  have hp := star_perm hc.1 (perm_id n)
  have hm := back_perm hp
  obtain ⟨m, em⟩ : ∃ m, backK c n = m := ⟨_, rfl⟩
  have hcm : ∀ z, z < n → c (m z) = z := fun z hz => by rw [← em]; exact of_back hp hz
  have hmc : ∀ z, z < n → m (c z) = z := fun z hz => by rw [← em]; exact back_of hp hz
  rw [em] at hle hm ⊢
  have key : ∀ (d p q : Nat), m q - m p ≤ d → JJ n x m p q → m p < m q → False := by
    intro d
    induction d with
    | zero => intro p q hd _ hlt; omega
    | succ d ih =>
      intro p q hd hJ hlt
      obtain ⟨hpq, hq⟩ := hJ.lt
      have hmq := hm.lt q hq
      by_cases hadj : m q = m p + 1
      · have e1 := hcm p (by omega)
        have e2 := hcm q hq
        refine hc.2 (m q) (by omega) hmq ?_
        rw [show m q - 1 = m p by omega, e1, e2]
        exact ⟨hpq, hJ.le ha hle.1, hJ.le hb hle.2⟩
      · have hr1 : m p + 1 < n := by omega
        have hrn := hp.lt _ hr1
        have hmr := hmc _ hr1
        obtain ⟨r, er⟩ : ∃ r, c (m p + 1) = r := ⟨_, rfl⟩
        rw [er] at hrn hmr
        have n1 : r ≠ p := fun e => by rw [e] at hmr; omega
        have n2 : r ≠ q := fun e => by rw [e] at hmr; omega
        by_cases h1 : r < p
        · exact ih r q (by omega) (.tr (.two h1 (by omega) (by omega)) hJ) (by omega)
        · by_cases h2 : r < q
          · rcases hJ.co hx hm r (by omega) h2 with h3 | h3
            · exact ih p r (by omega) h3 (by omega)
            · exact ih r q (by omega) h3 (by omega)
          · exact ih p r (by omega) (.tr hJ (.two (by omega) hrn (by omega))) (by omega)
  intro p q hpq hq hxq
  have h1 : ¬ m p < m q := key _ p q (Nat.le_refl _) (.one hpq hq hxq)
  have h2 : m q ≠ m p := fun e => by have := hm.inj q p hq (by omega) e; omega
  omega
/-- the join, as it is reckoned -/
noncomputable def joinK (a b : Nat → Nat) (n : Nat) : Nat → Nat := thenK (meetK (thenK a (halfN n n) n) (thenK b (halfN n n) n) n) (halfN n n) n
theorem up_lt {n : Nat} {a : Nat → Nat} (h : Perm n a) {p q : Nat} (hp : p < n) (hq : q < n) : thenK a (halfN n n) n q < thenK a (halfN n n) n p ↔ a p < a q := by
  have l1 := h.lt p hp
  have l2 := h.lt q hq
  rw [thenK_in _ _ hp, thenK_in _ _ hq, halfN_in l1, halfN_in l2]
  omega
theorem join_ge {n : Nat} {a b : Nat → Nat} (ha : Perm n a) (hb : Perm n b) : LeP n a (joinK a b n) ∧ LeP n b (joinK a b n) := by
  have hM := perm_meet (thenK a (halfN n n) n) (thenK b (halfN n n) n) n
  obtain ⟨h1, h2⟩ := meet_le (thenK a (halfN n n) n) (thenK b (halfN n n) n) n
  unfold joinK
  obtain ⟨M, eM⟩ : ∃ M, meetK (thenK a (halfN n n) n) (thenK b (halfN n n) n) n = M := ⟨_, rfl⟩
  rw [eM] at hM h1 h2 ⊢
  have key : ∀ c, Perm n c → LeP n M (thenK c (halfN n n) n) → LeP n c (thenK M (halfN n n) n) := by
    intro c hc hle p q hpq hq hlt
    rw [up_lt hM (by omega) hq]
    rcases Nat.lt_trichotomy (M p) (M q) with h | h | h
    · exact h
    · have := hM.inj p q (by omega) hq h; omega
    · have := (up_lt hc (p := p) (q := q) (by omega) hq).1 (hle p q hpq hq h)
      omega
  exact ⟨key a ha h1, key b hb h2⟩
theorem join_perm {n : Nat} (a b : Nat → Nat) : Perm n (joinK a b n) := perm_then (perm_meet _ _ n) (perm_half n)
theorem meet_out (a b : Nat → Nat) {n i : Nat} (h : n ≤ i) : meetK a b n i = 0 := by
  obtain ⟨c, hc⟩ := meets_any a b n
  rw [meetK_eq hc]
  exact back_out (star_perm hc.1 (perm_id n)) h
theorem sumN_nought {n : Nat} {f : Nat → Nat} (h : sumN n f = 0) : ∀ i, i < n → f i = 0 := by
  induction n with
  | zero => intro i hi; omega
  | succ n ih =>
    rw [sumN_succ] at h
    intro i hi
    by_cases e : i = n
    · subst e; omega
    · exact ih (by omega) i (by omega)
theorem sum2_nought {n : Nat} {f : Nat → Nat → Nat} (h : sum2 n f = 0) : ∀ x y, x < n → y < n → f x y = 0 := fun x y hx hy => sumN_nought (sumN_nought h x hx) y hy
/-- a short product begins with its first part -/
theorem short_le {n : Nat} {a b : Nat → Nat} (ha : Perm n a) (hb : Perm n b) (h : lenK (thenK a b n) n = lenK a n + lenK b n) : LeP n a (thenK a b n) := by
  have e1 : lenK b n = sum2 n (fun p q => if a p < a q ∧ b (a q) < b (a p) then 1 else 0) := by
    rw [lenK_sum2, ← sum2_perm ha (fd b)]
    exact sum2_ext fun p q _ _ => rfl
  have e2 : sum2 n (fun p q => if a p < a q ∧ b (a q) < b (a p) then 1 else 0) = sum2 n (fun p q => (if p < q ∧ a p < a q ∧ b (a q) < b (a p) then 1 else 0) + (if p < q ∧ a q < a p ∧ b (a p) < b (a q) then 1 else 0)) := by
    rw [sum2_add, ← sum2_swap n (fun p q => if p < q ∧ a q < a p ∧ b (a p) < b (a q) then 1 else 0), ← sum2_add]
    refine sum2_ext fun p q hp hq => ?_
    rcases Nat.lt_trichotomy p q with h | h | h
    · have : ¬ q < p := by omega
      simp [h, this]
    · subst h; simp
    · have : ¬ p < q := by omega
      simp [h, this]
  have e3 : lenK a n + lenK b n = lenK (thenK a b n) n + (sum2 n (fun p q => if p < q ∧ a q < a p ∧ b (a p) < b (a q) then 1 else 0) + sum2 n (fun p q => if p < q ∧ a q < a p ∧ b (a p) < b (a q) then 1 else 0)) := by
    rw [e1, e2, lenK_sum2, lenK_sum2, ← sum2_add, ← sum2_add, ← sum2_add]
    refine sum2_ext fun p q hp hq => ?_
    simp only [fd, thenK_in _ _ hp, thenK_in _ _ hq]
    by_cases hpq : p < q
    · have n1 : a p ≠ a q := fun e => by have := ha.inj p q hp hq e; omega
      have n2 : b (a p) ≠ b (a q) := fun e => n1 (hb.inj _ _ (ha.lt p hp) (ha.lt q hq) e)
      by_cases c1 : a p < a q
      · have c2 : ¬ a q < a p := by omega
        simp [hpq, c1, c2]
      · have c2 : a q < a p := by omega
        by_cases c3 : b (a p) < b (a q)
        · have c4 : ¬ b (a q) < b (a p) := by omega
          simp [hpq, c1, c2, c3, c4]
        · have c4 : b (a q) < b (a p) := by omega
          simp [hpq, c1, c2, c3, c4]
    · simp [hpq]
  have e4 : sum2 n (fun p q => if p < q ∧ a q < a p ∧ b (a p) < b (a q) then 1 else 0) = 0 := by omega
  intro p q hpq hq hlt
  have h5 := sum2_nought e4 p q (by omega) hq
  rw [thenK_in _ _ hq, thenK_in _ _ (show p < n by omega)]
  have n1 : a p ≠ a q := by omega
  have n2 : b (a p) ≠ b (a q) := fun e => n1 (hb.inj _ _ (ha.lt p (by omega)) (ha.lt q hq) e)
  by_cases c : b (a p) < b (a q)
  · simp [hpq, hlt, c] at h5
  · omega
end Go.Proofs.Ytemegeiolpkapaa
