/- Plain facts on permutations of at most eight numbers, with no program in sight. Conditions: as each theorem says. -/
import Derived.Test.YtfghanmcmjgonaaDoorKit
namespace Go.Proofs.YtfghanmcmjgonaaDoor
def inB (n lo hi : Int) : Bool := decide (lo ≤ n ∧ n ≤ hi)
theorem inB_true {n lo hi : Int} (h : inB n lo hi = true) : lo ≤ n ∧ n ≤ hi := by simpa [inB] using h
theorem inB_false {n lo hi : Int} (h : inB n lo hi = false) : ¬ (lo ≤ n ∧ n ≤ hi) := by simpa [inB] using h

/-- the first k numbers of the half turn of n strands -/
def halfN (n k : Nat) : Nat → Nat := fun i => if i < k then n - 1 - i else 0
theorem halfN_zero (n : Nat) : halfN n 0 = zeroN := by funext i; simp [halfN, zeroN]
theorem halfN_succ (n k : Nat) : updN (halfN n k) k (n - 1 - k) = halfN n (k + 1) := by
  funext i
  simp only [updN, halfN]
  by_cases h : i = k
  · subst h; simp
  · by_cases h2 : i < k
    · have : i < k + 1 := by omega
      simp [h, h2, this]
    · have : ¬ i < k + 1 := by omega
      simp [h, h2, this]
/-- the numbers 0 to k - 1 -/
def idK (k : Nat) : Nat → Nat := fun i => if i < k then i else 0
theorem idK_zero : idK 0 = zeroN := by funext i; simp [idK, zeroN]
theorem idK_succ (k : Nat) : updN (idK k) k k = idK (k + 1) := by
  funext i
  simp only [updN, idK]
  by_cases h : i = k
  · subst h; simp
  · by_cases h2 : i < k
    · have : i < k + 1 := by omega
      simp [h, h2, this]
    · have : ¬ i < k + 1 := by omega
      simp [h, h2, this]
/-- the first k numbers of a, then b -/
def thenK (a b : Nat → Nat) (k : Nat) : Nat → Nat := fun i => if i < k then b (a i) else 0
theorem thenK_zero (a b) : thenK a b 0 = zeroN := by funext i; simp [thenK, zeroN]
theorem thenK_succ (a b : Nat → Nat) (k : Nat) : updN (thenK a b k) k (b (a k)) = thenK a b (k + 1) := by
  funext i
  simp only [updN, thenK]
  by_cases h : i = k
  · subst h; simp
  · by_cases h2 : i < k
    · have : i < k + 1 := by omega
      simp [h, h2, this]
    · have : ¬ i < k + 1 := by omega
      simp [h, h2, this]
/-- the way back from the first k numbers -/
def backK (s : Nat → Nat) : Nat → Nat → Nat
  | 0 => zeroN
  | k + 1 => updN (backK s k) (s k) k
theorem backK_zero (s) : backK s 0 = zeroN := rfl
theorem backK_succ (s : Nat → Nat) (k : Nat) : updN (backK s k) (s k) k = backK s (k + 1) := rfl
theorem halfN_lt {n : Nat} (h2 : n ≤ 8) : ∀ i, i < n → halfN n n i < 8 := by
  intro i hi; simp only [halfN, if_pos hi]; omega
theorem halfN_ltn {n : Nat} : ∀ i, i < n → halfN n n i < n := by
  intro i hi; simp only [halfN, if_pos hi]; omega
theorem thenK_lt {n m : Nat} {a b : Nat → Nat} (ha : ∀ i, i < n → a i < n) (hb : ∀ i, i < n → b i < m) : ∀ i, i < n → thenK a b n i < m := by
  intro i hi; simp only [thenK, if_pos hi]; exact hb _ (ha i hi)
/-- the first k numbers are those of a permutation of n numbers, and 0 behind them -/
def GoodK (n : Nat) (s : Nat → Nat) (k : Nat) : Prop := ∀ x, x < k → (n ≤ x → s x = 0) ∧ (x < n → s x < n ∧ ∀ y, y < x → s y ≠ s x)
instance (n s k) : Decidable (GoodK n s k) := by unfold GoodK; infer_instance
/-- which numbers are among the first k ones -/
def seenK (n : Nat) (s : Nat → Nat) : Nat → Nat → Bool
  | 0 => noneO
  | k + 1 => if k < n then updO (seenK n s k) (s k) true else seenK n s k
theorem seenK_zero (n s) : seenK n s 0 = noneO := rfl
theorem seenK_lt {n s k} (h : k < n) : updO (seenK n s k) (s k) true = seenK n s (k + 1) := by simp [seenK, h]
theorem seenK_ge {n s k} (h : n ≤ k) : seenK n s k = seenK n s (k + 1) := by
  have : ¬ k < n := by omega
  simp [seenK, this]
theorem seenK_iff (n s) : ∀ k v, seenK n s k v = true ↔ ∃ x, x < k ∧ x < n ∧ s x = v
  | 0, v => by simp [seenK, noneO]
  | k + 1, v => by
    have ih := seenK_iff n s k v
    simp only [seenK]
    by_cases h : k < n
    · rw [if_pos h]
      simp only [updO]
      by_cases hv : v = s k
      · simp only [hv, if_true, true_iff]
        exact ⟨k, by omega, h, rfl⟩
      · rw [if_neg hv, ih]
        constructor
        · rintro ⟨x, h1, h2, h3⟩; exact ⟨x, by omega, h2, h3⟩
        · rintro ⟨x, h1, h2, h3⟩
          have : x ≠ k := fun e => hv (by rw [← h3, e])
          exact ⟨x, by omega, h2, h3⟩
    · rw [if_neg h, ih]
      constructor
      · rintro ⟨x, h1, h2, h3⟩; exact ⟨x, by omega, h2, h3⟩
      · rintro ⟨x, h1, h2, h3⟩; exact ⟨x, by omega, h2, h3⟩
theorem good_zero (n s) : GoodK n s 0 := fun x h => by omega
theorem good_ge {n s k} (h : n ≤ k) (hg : GoodK n s k) (h0 : s k = 0) : GoodK n s (k + 1) := by
  intro x hx
  by_cases e : x = k
  · subst e; exact ⟨fun _ => h0, fun h' => by omega⟩
  · exact hg x (by omega)
theorem good_lt {n s k} (h : k < n) (hg : GoodK n s k) (h0 : s k < n) (h1 : seenK n s k (s k) = false) : GoodK n s (k + 1) := by
  intro x hx
  by_cases e : x = k
  · subst e
    refine ⟨fun h' => by omega, fun _ => ⟨h0, fun y hy he => ?_⟩⟩
    have := (seenK_iff n s x (s x)).2 ⟨y, hy, by omega, he⟩
    rw [h1] at this; cases this
  · exact hg x (by omega)
theorem bad_ge {n s k} (hk : k < 8) (h : n ≤ k) (h0 : ¬ s k = 0) : ¬ GoodK n s 8 := fun hg => h0 ((hg k hk).1 h)
theorem bad_big {n s k} (hk : k < 8) (h : k < n) (h0 : n ≤ s k) : ¬ GoodK n s 8 := fun hg => by have := ((hg k hk).2 h).1; omega
theorem bad_twice {n s k} (hk : k < 8) (h : k < n) (h0 : seenK n s k (s k) = true) : ¬ GoodK n s 8 := fun hg => by
  obtain ⟨y, hy, hyn, he⟩ := (seenK_iff n s k (s k)).1 h0
  exact ((hg k hk).2 h).2 y hy he
/-- is s a simple braid of n strands? -/
def okB (n : Int) (s : Nat → Nat) : Bool := inB n 1 8 && decide (GoodK n.toNat s 8)
theorem okB_out {n s} (h : inB n 1 8 = false) : okB n s = false := by simp [okB, h]
theorem okB_bad {n : Nat} {s} (h : ¬ GoodK n s 8) : okB n s = false := by simp [okB, h]
theorem okB_good {n : Nat} {s} (h : inB n 1 8 = true) (hg : GoodK n s 8) : okB n s = true := by simp [okB, h, hg]
theorem okB_true {n : Int} {s} (h : okB n s = true) : ∃ m : Nat, n = m ∧ 1 ≤ m ∧ m ≤ 8 ∧ GoodK m s 8 := by
  simp only [okB, Bool.and_eq_true, decide_eq_true_eq] at h
  have := inB_true h.1
  exact ⟨n.toNat, by omega, by omega, by omega, h.2⟩
theorem good_le {n s} (h2 : n ≤ 8) (hg : GoodK n s 8) : ∀ i, i < n → s i < n := fun i hi => ((hg i (by omega)).2 hi).1
theorem good_inj {n s} (h2 : n ≤ 8) (hg : GoodK n s 8) : ∀ i j, i < n → j < n → s i = s j → i = j := by
  intro i j hi hj e
  rcases Nat.lt_trichotomy i j with h | h | h
  · exact absurd e (((hg j (by omega)).2 hj).2 i h)
  · exact h
  · exact absurd e.symm (((hg i (by omega)).2 hi).2 j h)
theorem good_zero_of {n s} (hg : GoodK n s 8) : ∀ i, n ≤ i → i < 8 → s i = 0 := fun i h h8 => (hg i h8).1 h
/-- the first k numbers of s -/
def copyK (s : Nat → Nat) (k : Nat) : Nat → Nat := fun i => if i < k then s i else 0
theorem copyK_zero (s) : copyK s 0 = zeroN := by funext i; simp [copyK, zeroN]
theorem copyK_succ (s : Nat → Nat) (k : Nat) : updN (copyK s k) k (s k) = copyK s (k + 1) := by
  funext i
  simp only [updN, copyK]
  by_cases h : i = k
  · subst h; simp
  · by_cases h2 : i < k
    · have : i < k + 1 := by omega
      simp [h, h2, this]
    · have : ¬ i < k + 1 := by omega
      simp [h, h2, this]
theorem copyK_all (s : Nat → Nat) : arrF .u8 8 (up (copyK s 8)) = arrF .u8 8 (up s) := arrF_ext fun i hi => by simp [up, copyK, hi]
theorem backK_lt (s : Nat → Nat) : ∀ k i, backK s k i < k ∨ backK s k i = 0
  | 0, i => .inr rfl
  | k + 1, i => by
    simp only [backK, updN]
    split
    · left; omega
    · rcases backK_lt s k i with h | h
      · left; omega
      · right; exact h
theorem backK_lt8 {n : Nat} (h2 : n ≤ 8) (s : Nat → Nat) : ∀ i, i < n → backK s n i < 8 := by
  intro i hi
  rcases backK_lt s n i with h | h <;> omega
theorem backK_ltn {n : Nat} (s : Nat → Nat) : ∀ i, i < n → backK s n i < n := by
  intro i hi
  rcases backK_lt s n i with h | h <;> omega
/-- the letters below k that begin s -/
def begK (s : Nat → Nat) (k : Nat) : List Int := ((List.range k).filter fun i => decide (1 ≤ i ∧ s i < s (i - 1))).map fun (i : Nat) => (i : Int)
theorem begK_one (s) : begK s 1 = [] := by simp [begK]
theorem begK_yes {s : Nat → Nat} {k : Nat} (h1 : 1 ≤ k) (h : s k < s (k - 1)) : begK s k ++ [(k : Int)] = begK s (k + 1) := by
  simp [begK, List.range_succ, List.filter_append, h1, h]
theorem begK_no {s : Nat → Nat} {k : Nat} (h : ¬ s k < s (k - 1)) : begK s k = begK s (k + 1) := by
  simp [begK, List.range_succ, List.filter_append, h]
theorem begK_length (s : Nat → Nat) (k : Nat) : (begK s k).length ≤ k := by
  simp only [begK, List.length_map]
  have := List.length_filter_le (fun i => decide (1 ≤ i ∧ s i < s (i - 1))) (List.range k)
  simpa using this
/-- an array beside a code -/
def rArr (b : Bool) (f : Nat → Nat) : Value := .tuple #[.agg (arrF .u8 8 (up (if b then f else zeroN))), .int .i64 (if b then 0 else 1)]
theorem rArr_no (f) : rArr false f = .tuple #[.agg (arrF .u8 8 (up zeroN)), .int .i64 1] := rfl
theorem rArr_yes (f) : rArr true f = .tuple #[.agg (arrF .u8 8 (up f)), .int .i64 0] := rfl
/-- a number beside a code -/
def rInt (b : Bool) (x : Int) : Value := .tuple #[.int .i64 (if b then x else 0), .int .i64 (if b then 0 else 1)]
theorem rInt_no (x) : rInt false x = .tuple #[.int .i64 0, .int .i64 1] := rfl
theorem rInt_yes (x) : rInt true x = .tuple #[.int .i64 x, .int .i64 0] := rfl
/-- a truth value beside a code -/
def rBool (b : Bool) (x : Bool) : Value := .tuple #[.bool (b && x), .int .i64 (if b then 0 else 1)]
theorem rBool_no (x) : rBool false x = .tuple #[.bool false, .int .i64 1] := rfl
theorem rBool_yes (x) : rBool true x = .tuple #[.bool x, .int .i64 0] := rfl
end Go.Proofs.YtfghanmcmjgonaaDoor
