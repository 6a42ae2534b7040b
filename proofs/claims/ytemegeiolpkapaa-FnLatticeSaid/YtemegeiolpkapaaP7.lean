/- Lengths, inverses and products of simple braids: plain facts. Conditions: as each theorem says. -/
import Derived.Test.YtemegeiolpkapaaT7
import Derived.Test.YtemegeiolpkapaaP6
namespace Go.Proofs.Ytemegeiolpkapaa
set_option linter.unusedVariables false
set_option linter.unusedSimpArgs false

theorem sumN_single {n k : Nat} (g : Nat → Nat) (hk : k < n) : sumN n (fun v => if v = k then g v else 0) = g k := by
  induction n with
  | zero => omega
  | succ n ih =>
    rw [sumN_succ]
    by_cases e : k = n
    · subst e
      rw [sumN_none fun i hi => by have : i ≠ k := by omega
                                   simp [this]]
      simp
    · rw [ih (by omega)]
      have : n ≠ k := fun h => e h.symm
      simp [this]
theorem sumN_perm {n : Nat} {c : Nat → Nat} (h : Perm n c) (f : Nat → Nat) : sumN n (fun x => f (c x)) = sumN n f := by
  have e1 : sumN n (fun x => f (c x)) = sumN n (fun x => sumN n (fun v => if v = c x then f v else 0)) :=
    sumN_ext fun x hx => (sumN_single f (h.lt x hx)).symm
  rw [e1, sumN_swap]
  refine sumN_ext fun v hv => ?_
  obtain ⟨p, hp, rfl⟩ := h.has v hv
  have e2 : sumN n (fun x => if c p = c x then f (c p) else 0) = sumN n (fun x => if x = p then f (c p) else 0) := by
    refine sumN_ext fun x hx => ?_
    by_cases e : x = p
    · subst e; simp
    · have : c p ≠ c x := fun e' => e (h.inj _ _ hx hp e'.symm)
      simp [e, this]
  rw [e2]
  exact sumN_single (fun _ => f (c p)) hp
/-- over all pairs -/
def sum2 (n : Nat) (f : Nat → Nat → Nat) : Nat := sumN n fun x => sumN n fun y => f x y
theorem sum2_ext {n : Nat} {f g : Nat → Nat → Nat} (h : ∀ x y, x < n → y < n → f x y = g x y) : sum2 n f = sum2 n g :=
  sumN_ext fun x hx => sumN_ext fun y hy => h x y hx hy
theorem sum2_add (n : Nat) (f g : Nat → Nat → Nat) : sum2 n (fun x y => f x y + g x y) = sum2 n f + sum2 n g := by
  unfold sum2
  rw [← sumN_add]
  exact sumN_ext fun x _ => sumN_add n _ _
theorem sum2_perm {n : Nat} {c : Nat → Nat} (h : Perm n c) (f : Nat → Nat → Nat) : sum2 n (fun x y => f (c x) (c y)) = sum2 n f := by
  unfold sum2
  have e : ∀ x, sumN n (fun y => f (c x) (c y)) = sumN n (f (c x)) := fun x => sumN_perm h (f (c x))
  simp only [e]
  exact sumN_perm h (fun x => sumN n (f x))
theorem sum2_swap (n : Nat) (f : Nat → Nat → Nat) : sum2 n (fun x y => f y x) = sum2 n f := by
  unfold sum2
  rw [sumN_swap]
theorem sum2_single {n a b : Nat} (ha : a < n) (hb : b < n) : sum2 n (fun x y => if x = a ∧ y = b then 1 else 0) = 1 := by
  unfold sum2
  have e : ∀ x, sumN n (fun y => if x = a ∧ y = b then 1 else 0) = if x = a then 1 else 0 := by
    intro x
    by_cases h : x = a
    · simp only [h, true_and, if_true]
      exact sumN_single (fun _ => 1) hb
    · simp only [h, false_and, if_false]
      exact sumN_none fun _ _ => rfl
  simp only [e]
  exact sumN_single (fun _ => 1) ha
theorem lenK_sum2 (s : Nat → Nat) (n : Nat) : lenK s n = sum2 n (fd s) := rfl
theorem lenK_ext {s t : Nat → Nat} {n : Nat} (h : ∀ i, i < n → s i = t i) : lenK s n = lenK t n :=
  sum2_ext fun x y hx hy => by simp only [fd, h x hx, h y hy]
theorem fd_eq (s : Nat → Nat) (x y : Nat) : fd s x y = if x < y ∧ s y < s x then 1 else 0 := rfl
theorem back_of {n : Nat} {s : Nat → Nat} (h : Perm n s) {x : Nat} (hx : x < n) : backK s n (s x) = x := backK_at n hx h.inj
theorem of_back {n : Nat} {s : Nat → Nat} (h : Perm n s) {x : Nat} (hx : x < n) : s (backK s n x) = x := by
  obtain ⟨p, hp, rfl⟩ := h.has x hx
  rw [back_of h hp]
/-- the way back is as long -/
theorem lenK_back {n : Nat} {s : Nat → Nat} (h : Perm n s) : lenK (backK s n) n = lenK s n := by
  rw [lenK_sum2, lenK_sum2, ← sum2_perm (back_perm h) (fd s), ← sum2_swap n (fd (backK s n))]
  refine sum2_ext fun x y hx hy => ?_
  simp only [fd, of_back h hx, of_back h hy, and_comm]
theorem pairs_count {n : Nat} (h2 : n ≤ 8) : sum2 n (fun x y => if x < y then 1 else 0) = n * (n - 1) / 2 := by
  have : n = 0 ∨ n = 1 ∨ n = 2 ∨ n = 3 ∨ n = 4 ∨ n = 5 ∨ n = 6 ∨ n = 7 ∨ n = 8 := by omega
  rcases this with rfl | rfl | rfl | rfl | rfl | rfl | rfl | rfl | rfl <;> decide
/-- a simple braid and what follows it to the half turn -/
theorem len_comp {n : Nat} {s : Nat → Nat} (h : Perm n s) (h2 : n ≤ 8) : lenK s n + lenK (thenK (backK s n) (halfN n n) n) n = n * (n - 1) / 2 := by
  rw [← lenK_back h, lenK_sum2, lenK_sum2, ← sum2_add, ← pairs_count h2]
  refine sum2_ext fun x y hx hy => ?_
  have hb := back_perm h
  have l1 := hb.lt x hx
  have l2 := hb.lt y hy
  simp only [fd, thenK, if_pos hx, if_pos hy, halfN, if_pos l1, if_pos l2]
  by_cases hxy : x < y
  · have hne : backK s n x ≠ backK s n y := fun e => by have := hb.inj x y hx hy e; omega
    by_cases hlt : backK s n y < backK s n x
    · have h3 : ¬ n - 1 - backK s n y < n - 1 - backK s n x := by omega
      simp [hxy, hlt, h3]
    · have h3 : n - 1 - backK s n y < n - 1 - backK s n x := by omega
      simp [hxy, hlt, h3]
  · simp [hxy]
theorem good_of {n : Nat} {s : Nat → Nat} (h : Perm n s) (hz : ∀ i, n ≤ i → i < 8 → s i = 0) (h2 : n ≤ 8) : GoodK n s 8 := by
  intro x hx
  refine ⟨fun hn => hz x hn hx, fun hn => ⟨h.lt x hn, fun y hy e => ?_⟩⟩
  have := h.inj y x (by omega) hn e
  omega
theorem ok_of {n : Nat} {s : Nat → Nat} (h : Perm n s) (hz : ∀ i, n ≤ i → i < 8 → s i = 0) (h1 : 1 ≤ n) (h2 : n ≤ 8) : okB (n : Int) s = true :=
  okB_good (by simp [inB]; omega) (good_of h hz h2)
theorem thenK_out (a b : Nat → Nat) {n i : Nat} (h : n ≤ i) : thenK a b n i = 0 := by
  have : ¬ i < n := by omega
  simp [thenK, this]
theorem halfN_out {n i : Nat} (h : n ≤ i) : halfN n n i = 0 := by
  have : ¬ i < n := by omega
  simp [halfN, this]
theorem thenK_in (a b : Nat → Nat) {n i : Nat} (h : i < n) : thenK a b n i = b (a i) := by simp [thenK, h]
theorem halfN_in {n i : Nat} (h : i < n) : halfN n n i = n - 1 - i := by simp [halfN, h]
theorem u8_of {n : Nat} {s : Nat → Nat} (h : Perm n s) (hz : ∀ i, n ≤ i → i < 8 → s i = 0) (h2 : n ≤ 8) : ∀ i, i < 8 → s i < 256 := by
  intro i hi
  by_cases hn : i < n
  · have := h.lt i hn; omega
  · rw [hz i (by omega) hi]; omega
section
variable {n : Nat} {s : Nat → Nat}
/-- what follows s to the half turn -/
def compK (s : Nat → Nat) (n : Nat) : Nat → Nat := thenK (backK s n) (halfN n n) n
def leftK (s : Nat → Nat) (n : Nat) : Nat → Nat := thenK (halfN n n) (backK s n) n
def turnK (s : Nat → Nat) (n : Nat) : Nat → Nat := thenK (thenK (halfN n n) s n) (halfN n n) n
theorem comp_perm (h : Perm n s) : Perm n (compK s n) := perm_then (back_perm h) (perm_half n)
theorem left_perm (h : Perm n s) : Perm n (leftK s n) := perm_then (perm_half n) (back_perm h)
theorem comp_out {i : Nat} (hi : n ≤ i) : compK s n i = 0 := thenK_out _ _ hi
theorem left_out {i : Nat} (hi : n ≤ i) : leftK s n i = 0 := thenK_out _ _ hi
theorem comp_comp (h : Perm n s) : ∀ i, compK (compK s n) n i = turnK s n i := by
  intro i
  by_cases hi : i < n
  · have hr := comp_perm h
    have l1 : n - 1 - i < n := by omega
    have l2 := h.lt _ l1
    have e1 : compK s n (s (n - 1 - i)) = i := by
      unfold compK
      rw [thenK_in _ _ l2, back_of h l1, halfN_in l1]
      omega
    have e2 : backK (compK s n) n i = s (n - 1 - i) := by
      have := back_of hr l2
      rw [e1] at this
      exact this
    show thenK (backK (compK s n) n) (halfN n n) n i = turnK s n i
    unfold turnK
    rw [thenK_in _ _ hi, e2, thenK_in _ _ hi, thenK_in _ _ hi, halfN_in hi]
  · exact (comp_out (by omega)).trans (thenK_out _ _ (by omega)).symm
theorem then_comp (h : Perm n s) : ∀ i, thenK s (compK s n) n i = halfN n n i := by
  intro i
  by_cases hi : i < n
  · rw [thenK_in _ _ hi]
    unfold compK
    rw [thenK_in _ _ (h.lt i hi), back_of h hi]
  · rw [thenK_out _ _ (by omega), halfN_out (by omega)]
theorem left_then (h : Perm n s) : ∀ i, thenK (leftK s n) s n i = halfN n n i := by
  intro i
  by_cases hi : i < n
  · rw [thenK_in _ _ hi]
    unfold leftK
    have l1 := (perm_half n).lt i hi
    rw [thenK_in _ _ hi, of_back h l1]
  · rw [thenK_out _ _ (by omega), halfN_out (by omega)]
end
/-! ## words -/
theorem asc_id {n : Nat} {t : Nat → Nat} (h : Perm n t) (hb : begK t n = []) : ∀ x, x < n → t x = x := by
  have hn := begK_nil hb
  have ha : ∀ i, 1 ≤ i → i < n → t (i - 1) < t i := fun i h1 hi => by
    have := hn i h1 hi
    have hne : t i ≠ t (i - 1) := fun e => by have := h.inj i (i - 1) hi (by omega) e; omega
    omega
  have lo : ∀ x, x < n → x ≤ t x := by
    intro x
    induction x with
    | zero => intro _; omega
    | succ x ih =>
      intro hx
      have := ih (by omega)
      have := ha (x + 1) (by omega) hx
      simp only [Nat.add_sub_cancel] at this
      omega
  have hi : ∀ k x, x + k + 1 = n → t x ≤ x := by
    intro k
    induction k with
    | zero => intro x hx; have := h.lt x (by omega); omega
    | succ k ih =>
      intro x hx
      have := ih (x + 1) (by omega)
      have := ha (x + 1) (by omega) (by omega)
      simp only [Nat.add_sub_cancel] at this
      omega
  intro x hx
  have := lo x hx
  have := hi (n - 1 - x) x (by omega)
  omega
theorem lenK_none {n : Nat} {t : Nat → Nat} (h : Perm n t) (hb : begK t n = []) : lenK t n = 0 := by
  have e := asc_id h hb
  exact sumN_none fun x hx => sumN_none fun y hy => by
    simp only [fd, e x hx, e y hy]
    rw [if_neg (by omega)]
theorem exP_perm {n i : Nat} (h1 : 1 ≤ i) (hi : i < n) : Perm n (exP i) :=
  ⟨fun x hx => exP_lt h1 hi hx, fun x y _ _ e => by rw [← exP_exP (i := i) (x := x) h1, e, exP_exP h1]⟩
/-- a letter that begins t makes it longer by one -/
theorem lenK_swap {n i : Nat} {t : Nat → Nat} (h1 : 1 ≤ i) (hi : i < n) (hd : t i < t (i - 1)) : lenK (swapK t i) n + 1 = lenK t n := by
  rw [lenK_sum2, lenK_sum2, ← sum2_perm (exP_perm h1 hi) (fd (swapK t i)), ← sum2_single (n := n) (a := i - 1) (b := i) (by omega) hi, ← sum2_add]
  refine sum2_ext fun x y hx hy => ?_
  have ex : ∀ z, swapK t i (exP i z) = t z := fun z => by rw [swapK_exP, exP_exP h1]
  simp only [fd, ex]
  by_cases e : x = i - 1 ∧ y = i
  · obtain ⟨rfl, rfl⟩ := e
    have e1 : exP y (y - 1) = y := by unfold exP; have : y - 1 ≠ y := by omega
                                      simp [this]
    have e2 : exP y y = y - 1 := by simp [exP]
    rw [e1, e2, if_neg (by omega), if_pos ⟨rfl, rfl⟩, if_pos ⟨by omega, hd⟩]
  · rw [if_neg e, Nat.add_zero]
    by_cases hxy : x < y
    · have h3 : exP i x < exP i y := by
        rcases exP_cases i x with ⟨a1, a2⟩ | ⟨a1, a2, a3⟩ | ⟨a1, a2, a3⟩ <;> rcases exP_cases i y with ⟨b1, b2⟩ | ⟨b1, b2, b3⟩ | ⟨b1, b2, b3⟩ <;> omega
      simp [hxy, h3]
    · by_cases e2 : x = i ∧ y = i - 1
      · obtain ⟨rfl, rfl⟩ := e2
        rw [if_neg (by omega), if_neg (by omega)]
      · have h3 : ¬ exP i x < exP i y := by
          rcases exP_cases i x with ⟨a1, a2⟩ | ⟨a1, a2, a3⟩ | ⟨a1, a2, a3⟩ <;> rcases exP_cases i y with ⟨b1, b2⟩ | ⟨b1, b2, b3⟩ | ⟨b1, b2, b3⟩ <;> omega
        simp [hxy, h3]
theorem word_len {n : Nat} : ∀ (f : Nat) (t : Nat → Nat), Perm n t → lenK t n ≤ f → (wordK n f t).length = lenK t n
  | 0, t, _, h => by simp [wordK]; omega
  | f + 1, t, hp, h => by
    cases hb : begK t n with
    | nil => rw [wordK_nil hb, lenK_none hp hb]; rfl
    | cons x l =>
      obtain ⟨i, rfl, h1, hi, hd⟩ := begK_mem (s := t) (n := n) (x := x) (by rw [hb]; exact List.mem_cons_self)
      rw [wordK_cons hb]
      have e := lenK_swap h1 hi hd
      have ih := word_len f (swapK t i) (hp.swap h1 hi) (by omega)
      simp only [List.length_cons, Int.toNat_natCast, ih]
      omega
theorem nth_app (p : List Int) (x : Int) (r : List Int) : nth (p ++ x :: r) p.length = x := by simp [nth]
theorem seqK_app {n : Nat} {p r : List Int} : ∀ k, k ≤ p.length → seqK n (p ++ r) k = seqK n p k
  | 0, _ => rfl
  | k + 1, h => by
    show swapK (seqK n (p ++ r) k) (nth (p ++ r) k).toNat = swapK (seqK n p k) (nth p k).toNat
    rw [seqK_app k (by omega), nth_append_left (by omega)]
theorem seqK_snoc {n : Nat} (p : List Int) (x : Int) : seqK n (p ++ [x]) (p ++ [x]).length = swapK (seqK n p p.length) x.toNat := by
  rw [List.length_append]
  show swapK (seqK n (p ++ [x]) p.length) (nth (p ++ [x]) p.length).toNat = _
  rw [seqK_app _ (Nat.le_refl _), nth_append_here]
/-- the word of s, read on from p, leads to s -/
theorem word_seq {n : Nat} {s : Nat → Nat} : ∀ (f : Nat) (p : List Int) (t : Nat → Nat), Perm n t → lenK t n ≤ f → Along n s (seqK n p p.length) t →
    ∀ x, x < n → s (seqK n (p ++ wordK n f t) (p ++ wordK n f t).length x) = x
  | 0, p, t, hp, hl, ha, x, hx => by
    have hb : begK t n = [] := by
      cases hb : begK t n with
      | nil => rfl
      | cons y l =>
        obtain ⟨i, rfl, h1, hi, hd⟩ := begK_mem (s := t) (n := n) (x := y) (by rw [hb]; exact List.mem_cons_self)
        have := lenK_swap h1 hi hd
        omega
    rw [wordK_nil hb, List.append_nil, ← ha x hx]
    exact asc_id hp hb x hx
  | f + 1, p, t, hp, hl, ha, x, hx => by
    cases hb : begK t n with
    | nil =>
      rw [wordK_nil hb, List.append_nil, ← ha x hx]
      exact asc_id hp hb x hx
    | cons y l =>
      obtain ⟨i, rfl, h1, hi, hd⟩ := begK_mem (s := t) (n := n) (x := y) (by rw [hb]; exact List.mem_cons_self)
      rw [wordK_cons hb]
      have e := lenK_swap h1 hi hd
      have ha' : Along n s (seqK n (p ++ [(i : Int)]) (p ++ [(i : Int)]).length) (swapK t i) := by
        intro z hz
        rw [seqK_snoc, Int.toNat_natCast, swapK_exP, swapK_exP]
        exact ha _ (exP_lt h1 hi hz)
      have ih := word_seq f (p ++ [(i : Int)]) (swapK t i) (hp.swap h1 hi) (by omega) ha' x hx
      rw [List.append_assoc] at ih
      simpa using ih
theorem word_let {n : Nat} (f : Nat) (s : Nat → Nat) : LetK n (wordK n f s) (wordK n f s).length := by
  have key : ∀ (f : Nat) (s : Nat → Nat), ∀ x ∈ wordK n f s, 1 ≤ x ∧ x ≤ (n : Int) - 1 := by
    intro f
    induction f with
    | zero => intro s x h; simp [wordK] at h
    | succ f ih =>
      intro s x h
      cases hb : begK s n with
      | nil => rw [wordK_nil hb] at h; cases h
      | cons i l =>
        rw [wordK_cons hb] at h
        obtain ⟨j, hj, h1, hn, _⟩ := begK_mem (s := s) (n := n) (x := i) (by rw [hb]; exact List.mem_cons_self)
        rcases List.mem_cons.1 h with rfl | h
        · omega
        · exact ih _ x h
  intro j hj
  have : nth (wordK n f s) j ∈ wordK n f s := by
    simp only [nth, List.getD_eq_getElem?_getD, List.getElem?_eq_getElem hj, Option.getD_some]
    exact List.getElem_mem hj
  exact key f s _ this
/-- the word of s makes s -/
theorem word_makes {n : Nat} {s : Nat → Nat} (h : Perm n s) (hz : ∀ i, n ≤ i → i < 8 → s i = 0) (h1 : 1 ≤ n) (h2 : n ≤ 8) :
    sowR n (wordK n 1000 s) = .tuple #[.agg (arrF .u8 8 (up s)), .int .i64 0] ∧ (wordK n 1000 s).length = lenK s n := by
  have hl := lenK_le s h2
  have hw := word_len 1000 s h (by omega)
  have hlet := word_let (n := n) 1000 s
  have hs := word_seq (s := s) 1000 [] s h (by omega) (along_id n s)
  simp only [List.nil_append] at hs
  obtain ⟨c, hc⟩ : ∃ c, seqK n (wordK n 1000 s) (wordK n 1000 s).length = c := ⟨_, rfl⟩
  have hp := seq_perm _ hlet
  rw [hc] at hs hp
  have e : ∀ i, i < 8 → backK c n i = s i := by
    intro i hi
    by_cases hn : i < n
    · obtain ⟨p, hp', rfl⟩ := hp.has i hn
      rw [back_of hp hp', hs p hp']
    · rw [back_out hp (by omega), hz i (by omega) hi]
  have hb : inB (n : Int) 1 8 = true := by simp [inB]; omega
  refine ⟨?_, hw⟩
  rw [sow_good hb hlet (by rw [hc, lenK_ext (t := s) fun i hi => e i (by omega), hw]), hc]
  congr 2
  rw [arrF_ext (b := up s) fun i hi => by simp only [up, e i hi]]
end Go.Proofs.Ytemegeiolpkapaa
