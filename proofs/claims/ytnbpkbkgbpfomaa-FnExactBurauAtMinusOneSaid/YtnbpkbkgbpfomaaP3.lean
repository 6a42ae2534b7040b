/- Sums, and pairs kept as bits of a number. Conditions: as each theorem says. -/
import Derived.WalkKit
namespace Go.Proofs.Ytnbpkbkgbpfomaa
set_option linter.unusedVariables false
set_option linter.unusedSimpArgs false

/-- f 0 + .. + f (n - 1) -/
def sumN : Nat → (Nat → Nat) → Nat
  | 0, _ => 0
  | n + 1, f => sumN n f + f n
theorem sumN_zero (f) : sumN 0 f = 0 := rfl
theorem sumN_succ (n f) : sumN (n + 1) f = sumN n f + f n := rfl
theorem sumN_ext {n : Nat} {f g : Nat → Nat} (h : ∀ i, i < n → f i = g i) : sumN n f = sumN n g := by
  induction n with
  | zero => rfl
  | succ n ih => rw [sumN_succ, sumN_succ, ih fun i hi => h i (by omega), h n (by omega)]
theorem sumN_none {n : Nat} {f : Nat → Nat} (h : ∀ i, i < n → f i = 0) : sumN n f = 0 := by
  induction n with
  | zero => rfl
  | succ n ih => rw [sumN_succ, ih fun i hi => h i (by omega), h n (by omega)]
theorem sumN_add (n : Nat) (f g : Nat → Nat) : sumN n (fun i => f i + g i) = sumN n f + sumN n g := by
  induction n with
  | zero => rfl
  | succ n ih => simp only [sumN_succ, ih]; omega
theorem sumN_swap (n m : Nat) (f : Nat → Nat → Nat) : sumN n (fun x => sumN m (f x)) = sumN m (fun y => sumN n (fun x => f x y)) := by
  induction n with
  | zero => simp only [sumN_zero]; rw [sumN_none]; intros; rfl
  | succ n ih => simp only [sumN_succ, sumN_add, ih]
theorem sumN_more {n m : Nat} {f : Nat → Nat} (h : n ≤ m) (h0 : ∀ i, n ≤ i → i < m → f i = 0) : sumN m f = sumN n f := by
  induction m with
  | zero => obtain rfl : n = 0 := by omega
            rfl
  | succ m ih =>
    by_cases e : n = m + 1
    · rw [e]
    · rw [sumN_succ, h0 m (by omega) (by omega), ih (by omega) fun i h1 h2 => h0 i h1 (by omega)]; rfl
theorem sumN_le {n : Nat} {f : Nat → Nat} {c : Nat} (h : ∀ i, i < n → f i ≤ c) : sumN n f ≤ n * c := by
  induction n with
  | zero => simp [sumN_zero]
  | succ n ih =>
    have h1 := ih fun i hi => h i (by omega)
    have h2 := h n (by omega)
    rw [sumN_succ, Nat.succ_mul]
    omega
/-- one summand becomes greater by one -/
theorem sumN_one {n i : Nat} {f g : Nat → Nat} (hi : i < n) (h1 : g i = f i + 1) (h2 : ∀ j, j ≠ i → g j = f j) : sumN n g = sumN n f + 1 := by
  induction n with
  | zero => omega
  | succ n ih =>
    rw [sumN_succ, sumN_succ]
    by_cases e : i = n
    · subst e
      rw [h1, sumN_ext fun j hj => h2 j (by omega)]; omega
    · rw [ih (by omega), h2 n (Ne.symm e)]; omega

/-- how many bits are set -/
def pc (a : Nat) : Nat := sumN 64 fun i => (a.testBit i).toNat
theorem pc_zero : pc 0 = 0 := by
  unfold pc
  exact sumN_none fun i _ => by simp
theorem pc_le (a) : pc a ≤ 64 := by
  have := sumN_le (n := 64) (f := fun i => (a.testBit i).toNat) (c := 1) fun i _ => by cases a.testBit i <;> simp
  simpa [pc] using this
theorem pc_or {a i : Nat} (hi : i < 64) (h : a.testBit i = false) : pc (a ||| 2 ^ i) = pc a + 1 := by
  unfold pc
  refine sumN_one hi ?_ ?_
  · simp [Nat.testBit_or, h]
  · intro j hj
    have : (2 ^ i).testBit j = false := by rw [Nat.testBit_two_pow]; simp; omega
    simp [Nat.testBit_or, this]
theorem low_bit : ∀ b : Nat, 0 < b → ∃ l, b.testBit l = true ∧ ∀ i, (b &&& (b - 1)).testBit i = (b.testBit i && decide (i ≠ l)) := by
  intro b
  induction b using Nat.strongRecOn with
  | ind b ih =>
    intro hb
    by_cases ho : b % 2 = 1
    · refine ⟨0, by simp [Nat.testBit_zero, ho], fun i => ?_⟩
      rw [Nat.testBit_and]
      cases i with
      | zero =>
        have h0 : (b - 1) % 2 = 0 := by omega
        simp [Nat.testBit_zero, h0]
      | succ i =>
        have : (b - 1) / 2 = b / 2 := by omega
        simp [Nat.testBit_succ, this]
    · obtain ⟨l, h1, h2⟩ := ih (b / 2) (by omega) (by omega)
      refine ⟨l + 1, by rw [Nat.testBit_succ]; exact h1, fun i => ?_⟩
      cases i with
      | zero =>
        have : b % 2 = 0 := by omega
        simp [Nat.testBit_and, Nat.testBit_zero, this]
      | succ i =>
        have h3 := h2 i
        rw [Nat.testBit_and] at h3 ⊢
        have h4 : (b - 1) / 2 = b / 2 - 1 := by omega
        rw [Nat.testBit_succ, Nat.testBit_succ, h4, h3]
        simp
/-- a number without its lowest bit -/
def lowC (b : Nat) : Nat := b &&& (b - 1)
theorem lowC_lt {b : Nat} (h : 0 < b) : lowC b < b := by
  have := @Nat.and_le_right b (b - 1)
  unfold lowC
  omega
theorem pc_low {b : Nat} (h0 : 0 < b) (h : b < 18446744073709551616) : pc b = pc (lowC b) + 1 := by
  obtain ⟨l, h1, h2⟩ := low_bit b h0
  have hl : l < 64 := by
    rcases Nat.lt_or_ge l 64 with g | g
    · exact g
    · have := Nat.testBit_lt_two_pow (x := b) (i := l) (Nat.lt_of_lt_of_le h (by
        have : (18446744073709551616 : Nat) = 2 ^ 64 := by decide
        rw [this]; exact Nat.pow_le_pow_right (by decide) g))
      rw [this] at h1; cases h1
  unfold pc
  refine sumN_one hl ?_ ?_
  · show _ = ((b &&& (b - 1)).testBit l).toNat + 1
    rw [h2, h1]; simp
  · intro j hj
    show _ = ((b &&& (b - 1)).testBit j).toNat
    rw [h2]; simp [hj]

/-- the bit of a pair -/
def bit2 (x y : Nat) : Nat := 2 ^ (8 * x + y)
theorem bit2_lt {x y : Nat} (hx : x < 8) (hy : y < 8) : bit2 x y < 18446744073709551616 := by
  have : (18446744073709551616 : Nat) = 2 ^ 64 := by decide
  rw [this]
  exact Nat.pow_lt_pow_right (by decide) (by omega)
/-- the pairs (0, y) .. (k - 1, y) that descend, beside c -/
def desIn (s : Nat → Nat) (y c : Nat) : Nat → Nat
  | 0 => c
  | k + 1 => if s y < s k then desIn s y c k ||| bit2 k y else desIn s y c k
/-- the pairs below n that descend -/
def desK (s : Nat → Nat) : Nat → Nat
  | 0 => 0
  | y + 1 => desIn s y (desK s y) y
theorem desIn_zero (s y c) : desIn s y c 0 = c := rfl
theorem desIn_yes {s y c k} (h : s y < s k) : desIn s y c k ||| bit2 k y = desIn s y c (k + 1) := by simp [desIn, h]
theorem desIn_no {s y c k} (h : ¬ s y < s k) : desIn s y c k = desIn s y c (k + 1) := by simp [desIn, h]
theorem desK_zero (s) : desK s 0 = 0 := rfl
theorem desK_succ (s y) : desIn s y (desK s y) y = desK s (y + 1) := rfl
theorem bit2_bit {x y i : Nat} (hy : y < 8) : (bit2 x y).testBit i = decide (x = i / 8 ∧ y = i % 8) := by
  unfold bit2
  rw [Nat.testBit_two_pow]
  congr 1
  apply propext
  omega
theorem desIn_bit {s : Nat → Nat} {y c i : Nat} (hy : y < 8) : ∀ k, (desIn s y c k).testBit i = (c.testBit i || decide (y = i % 8 ∧ i / 8 < k ∧ s y < s (i / 8)))
  | 0 => by simp [desIn]
  | k + 1 => by
    have ih := desIn_bit (s := s) (c := c) (i := i) hy k
    simp only [desIn]
    split
    · rename_i h
      rw [Nat.testBit_or, ih, bit2_bit hy, Bool.or_assoc]
      congr 1
      rw [← Bool.decide_or]
      congr 1
      apply propext
      constructor
      · rintro (⟨h1, h2, h3⟩ | ⟨h1, h2⟩)
        · exact ⟨h1, by omega, h3⟩
        · exact ⟨h2, by omega, by rw [← h1]; exact h⟩
      · rintro ⟨h1, h2, h3⟩
        by_cases e : k = i / 8
        · exact .inr ⟨e, h1⟩
        · exact .inl ⟨h1, by omega, h3⟩
    · rename_i h
      rw [ih]
      congr 2
      apply propext
      constructor
      · rintro ⟨h1, h2, h3⟩; exact ⟨h1, by omega, h3⟩
      · rintro ⟨h1, h2, h3⟩
        refine ⟨h1, ?_, h3⟩
        by_cases e : i / 8 = k
        · rw [e] at h3; exact absurd h3 h
        · omega
theorem desK_bit {s : Nat → Nat} {i : Nat} : ∀ n, n ≤ 8 → (desK s n).testBit i = decide (i / 8 < i % 8 ∧ i % 8 < n ∧ s (i % 8) < s (i / 8))
  | 0, _ => by simp [desK]
  | n + 1, h => by
    rw [← desK_succ, desIn_bit (by omega), desK_bit n (by omega), ← Bool.decide_or]
    congr 1
    apply propext
    constructor
    · rintro (⟨h1, h2, h3⟩ | ⟨h1, h2, h3⟩)
      · exact ⟨h1, by omega, h3⟩
      · rw [h1] at h2 h3; exact ⟨h2, by omega, h3⟩
    · rintro ⟨h1, h2, h3⟩
      by_cases e : i % 8 = n
      · exact .inr ⟨e.symm, by omega, by rw [← e]; exact h3⟩
      · exact .inl ⟨h1, by omega, h3⟩
theorem lt64_of_bits {a : Nat} (h : ∀ i, 64 ≤ i → a.testBit i = false) : a < 18446744073709551616 := by
  have : (18446744073709551616 : Nat) = 2 ^ 64 := by decide
  rw [this]
  exact Nat.lt_pow_two_of_testBit a h
theorem desK_lt (s : Nat → Nat) {n : Nat} (h : n ≤ 8) : desK s n < 18446744073709551616 := by
  refine lt64_of_bits fun i hi => ?_
  rw [desK_bit n h]
  simp
  omega
theorem desIn_lt (s : Nat → Nat) {y k : Nat} (hy : y < 8) (hk : k ≤ y) : desIn s y (desK s y) k < 18446744073709551616 := by
  refine lt64_of_bits fun i hi => ?_
  rw [desIn_bit hy, desK_bit y (by omega), ← Bool.decide_or]
  simp
  omega
/-- does a pair descend? -/
def fd (s : Nat → Nat) (x y : Nat) : Nat := if x < y ∧ s y < s x then 1 else 0
theorem pc_desIn (s : Nat → Nat) {y : Nat} (hy : y < 8) : ∀ k, k ≤ y → pc (desIn s y (desK s y) k) = pc (desK s y) + sumN k fun x => fd s x y
  | 0, _ => by simp [desIn_zero, sumN_zero]
  | k + 1, hk => by
    have ih := pc_desIn s hy k (by omega)
    rw [sumN_succ]
    by_cases h : s y < s k
    · rw [← desIn_yes h, bit2, pc_or (by omega), ih]
      · have h1 : k < y := by omega
        simp [fd, h, h1]
        omega
      · rw [desIn_bit hy, desK_bit y (by omega), ← Bool.decide_or]
        have e1 : (8 * k + y) / 8 = k := by omega
        have e2 : (8 * k + y) % 8 = y := by omega
        rw [e1, e2]
        simp
    · rw [← desIn_no h, ih]
      simp [fd, h]
/-- how many pairs below n descend -/
def lenK (s : Nat → Nat) (n : Nat) : Nat := sumN n fun x => sumN n fun y => fd s x y
theorem pc_desK (s : Nat → Nat) : ∀ n, n ≤ 8 → pc (desK s n) = sumN n fun y => sumN y fun x => fd s x y
  | 0, _ => by rw [desK_zero, pc_zero, sumN_zero]
  | n + 1, h => by rw [← desK_succ, pc_desIn s (by omega) n (Nat.le_refl _), pc_desK s n (by omega), sumN_succ]
theorem pc_des (s : Nat → Nat) {n : Nat} (h : n ≤ 8) : pc (desK s n) = lenK s n := by
  rw [pc_desK s n h, lenK, sumN_swap]
  refine sumN_ext fun y hy => ?_
  rw [sumN_more (n := y) (m := n) (by omega)]
  intro x h1 h2
  have : ¬ x < y := by omega
  simp [fd, this]
theorem fd_le (s x y) : fd s x y ≤ 1 := by unfold fd; split <;> omega
theorem lenK_le (s : Nat → Nat) {n : Nat} (h : n ≤ 8) : lenK s n ≤ 64 := by
  have h1 : ∀ x, x < n → sumN n (fun y => fd s x y) ≤ n * 1 := fun x _ => sumN_le fun y _ => fd_le s x y
  have h2 := sumN_le (n := n) (f := fun x => sumN n fun y => fd s x y) (c := n * 1) h1
  have h3 : n * (n * 1) ≤ 8 * 8 := by rw [Nat.mul_one]; exact Nat.mul_le_mul h h
  unfold lenK
  omega
/-- the reference's count, when x rows are done, and k pairs of the next -/
def cntK (s : Nat → Nat) (n x k : Nat) : Nat := (sumN x fun x => sumN n fun y => fd s x y) + sumN k fun y => fd s x y
/-- .. when x rows are done -/
def rowK (s : Nat → Nat) (n x : Nat) : Nat := sumN x fun x => sumN n fun y => fd s x y
theorem rowK_zero (s n) : rowK s n 0 = 0 := rfl
theorem rowK_all (s n) : rowK s n n = lenK s n := rfl
theorem rowK_start (s n x) : cntK s n x (x + 1) = rowK s n x := by
  unfold cntK rowK
  rw [sumN_none (n := x + 1)]
  · rfl
  · intro y hy
    have : ¬ x < y := by omega
    simp [fd, this]
theorem rowK_end (s n x) : cntK s n x n = rowK s n (x + 1) := rfl
theorem cntK_yes {s n x k} (h : x < k) (hd : s k < s x) : cntK s n x k + 1 = cntK s n x (k + 1) := by
  simp only [cntK, sumN_succ, fd, h, hd]; simp; omega
theorem cntK_no {s n x k} (hd : ¬ s k < s x) : cntK s n x k = cntK s n x (k + 1) := by
  simp only [cntK, sumN_succ, fd, hd]; simp
theorem cntK_le {s : Nat → Nat} {n x k : Nat} (hn : n ≤ 8) (hx : x < 8) (hk : k ≤ 8) : cntK s n x k ≤ 100 := by
  have h1 : ∀ x, x < n → sumN n (fun y => fd s x y) ≤ n * 1 := fun x _ => sumN_le fun y _ => fd_le s x y
  have h2 := sumN_le (n := x) (f := fun x => sumN n fun y => fd s x y) (c := 8) fun i _ => by
    have := sumN_le (n := n) (f := fun y => fd s i y) (c := 1) fun y _ => fd_le s i y
    omega
  have h3 := sumN_le (n := k) (f := fun y => fd s x y) (c := 1) fun y _ => fd_le s x y
  unfold cntK
  omega

/-! ## what the machine's numbers are -/
theorem wrap_u64 {a : Nat} (h : a < 18446744073709551616) : IntKind.u64.wrap (a : Int) = a := by
  show (a : Int) % _ = _
  have : (2 : Int) ^ IntKind.u64.bits = 18446744073709551616 := by decide
  rw [this]
  omega
theorem ofInt_nat (a : Nat) : BitVec.ofInt 64 (a : Int) = BitVec.ofNat 64 a := by
  apply BitVec.eq_of_toNat_eq
  rw [BitVec.toNat_ofInt, BitVec.toNat_ofNat]
  omega
theorem or64 {a b : Nat} (ha : a < 18446744073709551616) (hb : b < 18446744073709551616) : bits .or .u64 (a : Int) (b : Int) = ((a ||| b : Nat) : Int) := by
  have h : a ||| b < 18446744073709551616 := Nat.or_lt_two_pow (n := 64) ha hb
  show IntKind.u64.wrap ((BitVec.ofInt 64 (a : Int) ||| BitVec.ofInt 64 (b : Int)).toNat : Int) = _
  rw [ofInt_nat, ofInt_nat, BitVec.toNat_or, BitVec.toNat_ofNat, BitVec.toNat_ofNat, Nat.mod_eq_of_lt (a := a) ha, Nat.mod_eq_of_lt (a := b) hb, wrap_u64 h]
@[go_sem] theorem and64 {a b : Nat} (ha : a < 18446744073709551616) (hb : b < 18446744073709551616) : bits .and .u64 (a : Int) (b : Int) = ((a &&& b : Nat) : Int) := by
  have h : a &&& b < 18446744073709551616 := Nat.lt_of_le_of_lt Nat.and_le_left ha
  show IntKind.u64.wrap ((BitVec.ofInt 64 (a : Int) &&& BitVec.ofInt 64 (b : Int)).toNat : Int) = _
  rw [ofInt_nat, ofInt_nat, BitVec.toNat_and, BitVec.toNat_ofNat, BitVec.toNat_ofNat, Nat.mod_eq_of_lt (a := a) ha, Nat.mod_eq_of_lt (a := b) hb, wrap_u64 h]
/-- the bits of a that b lacks -/
def notC (a b : Nat) : Nat := (BitVec.ofNat 64 a &&& ~~~ BitVec.ofNat 64 b).toNat
theorem notC_lt (a b) : notC a b < 18446744073709551616 := (BitVec.ofNat 64 a &&& ~~~ BitVec.ofNat 64 b).isLt
@[go_sem] theorem andNot64 (a b : Nat) : bits .andNot .u64 (a : Int) (b : Int) = ((notC a b : Nat) : Int) := by
  show IntKind.u64.wrap ((BitVec.ofInt 64 (a : Int) &&& ~~~ BitVec.ofInt 64 (b : Int)).toNat : Int) = _
  rw [ofInt_nat, ofInt_nat]
  exact wrap_u64 (notC_lt a b)
theorem notC_zero {a b : Nat} (ha : a < 18446744073709551616) : notC a b = 0 ↔ ∀ i, a.testBit i = true → b.testBit i = true := by
  constructor
  · intro h i hi
    have hi64 : i < 64 := by
      rcases Nat.lt_or_ge i 64 with g | g
      · exact g
      · have := Nat.testBit_lt_two_pow (x := a) (i := i) (Nat.lt_of_lt_of_le ha (by
          have : (18446744073709551616 : Nat) = 2 ^ 64 := by decide
          rw [this]; exact Nat.pow_le_pow_right (by decide) g))
        rw [this] at hi; cases hi
    have h2 : (BitVec.ofNat 64 a &&& ~~~ BitVec.ofNat 64 b).getLsbD i = false := by
      show (notC a b).testBit i = false
      rw [h]; simp
    rw [BitVec.getLsbD_and, BitVec.getLsbD_not, BitVec.getLsbD_ofNat, BitVec.getLsbD_ofNat] at h2
    simpa [hi64, hi] using h2
  · intro h
    apply Nat.eq_of_testBit_eq
    intro i
    show (BitVec.ofNat 64 a &&& ~~~ BitVec.ofNat 64 b).getLsbD i = _
    rw [BitVec.getLsbD_and, BitVec.getLsbD_not, BitVec.getLsbD_ofNat, BitVec.getLsbD_ofNat, Nat.zero_testBit]
    by_cases hi : i < 64
    · cases ha : a.testBit i with
      | false => simp
      | true => simp [h i ha, hi]
    · simp [hi]
/-- is every pair that descends in a descending in b? -/
def withK (a b : Nat → Nat) (n : Nat) : Bool := decide (∀ y, y < n → ∀ x, x < y → a y < a x → ¬ b x < b y)
theorem withK_yes {a b n} (h : ∀ x y, x < n → x < y → y < n → a y < a x → ¬ b x < b y) : withK a b n = true := by
  simp only [withK, decide_eq_true_eq]
  intro y hy x hx ha
  exact h x y (by omega) hx hy ha
theorem withK_no {a b : Nat → Nat} {n x y : Nat} (hx : x < y) (hy : y < n) (ha : a y < a x) (hb : b x < b y) : withK a b n = false := by
  simp only [withK, decide_eq_false_iff_not]
  intro h
  exact h y hy x hx ha hb
theorem withK_not {a b : Nat → Nat} {n : Nat} (h2 : n ≤ 8) (hb : ∀ i j, i < n → j < n → b i = b j → i = j) : decide (notC (desK a n) (desK b n) = 0) = withK a b n := by
  unfold withK
  rw [decide_eq_decide, notC_zero (desK_lt a h2)]
  constructor
  · intro h y hy x hx ha hb'
    have e1 : (8 * x + y) / 8 = x := by omega
    have e2 : (8 * x + y) % 8 = y := by omega
    have h3 := h (8 * x + y)
    rw [desK_bit n h2, desK_bit n h2, e1, e2] at h3
    simp only [decide_eq_true_eq] at h3
    have := (h3 ⟨hx, hy, ha⟩).2.2
    omega
  · intro h i hi
    rw [desK_bit n h2] at hi ⊢
    simp only [decide_eq_true_eq] at hi ⊢
    obtain ⟨h3, h4, h5⟩ := hi
    have h6 := h (i % 8) h4 (i / 8) h3 h5
    have h7 : b (i % 8) ≠ b (i / 8) := fun e => by have := hb _ _ h4 (by omega) e; omega
    exact ⟨h3, h4, by omega⟩
theorem withK_not' {a b : Nat → Nat} {n : Nat} (h2 : n ≤ 8) (hb : ∀ i j, i < n → j < n → b i = b j → i = j) : (((notC (desK a n) (desK b n) : Nat) : Int) == 0) = withK a b n := by
  rw [← withK_not h2 hb, Bool.eq_iff_iff]
  simp
@[go_sem] theorem or_bit (a x y : Nat) (ha : a < 18446744073709551616) (hx : x < 8) (hy : y < 8) : bits .or .u64 (a : Int) ((bit2 x y : Nat) : Int) = ((a ||| bit2 x y : Nat) : Int) := or64 ha (bit2_lt hx hy)
@[go_sem] theorem and_low (b : Nat) (h0 : 0 < b) (h : b < 18446744073709551616) : bits .and .u64 (b : Int) ((b : Int) - 1) = ((lowC b : Nat) : Int) := by
  have e : (b : Int) - 1 = ((b - 1 : Nat) : Int) := by omega
  rw [e, and64 h (by omega)]
  rfl
/-- one bit -/
def bitAt (m e : Nat) : Nat := m / 2 ^ e % 2
theorem bitAt_le (m e) : bitAt m e < 2 := Nat.mod_lt _ (by decide)
@[go_sem] theorem and_bit1 (m e : Nat) (h : m < 18446744073709551616) : bits .and .u64 ((m : Int) / 2 ^ e) 1 = ((bitAt m e : Nat) : Int) := by
  have e1 : (m : Int) / 2 ^ e = ((m / 2 ^ e : Nat) : Int) := by simp
  have h1 : m / 2 ^ e < 18446744073709551616 := Nat.lt_of_le_of_lt (Nat.div_le_self _ _) h
  have := and64 (a := m / 2 ^ e) (b := 1) h1 (by decide)
  rw [e1]
  rw [Nat.and_one_is_mod] at this
  exact this
@[go_sem] theorem wrap_bit (x y : Nat) (hx : x < 8) (hy : y < 8) : IntKind.u64.wrap ((2 : Int) ^ (8 * x + y)) = ((bit2 x y : Nat) : Int) := by
  have e2 : (2 : Int) ^ (8 * x + y) = ((bit2 x y : Nat) : Int) := by unfold bit2; simp
  rw [e2, wrap_u64 (bit2_lt hx hy)]
end Go.Proofs.Ytnbpkbkgbpfomaa
