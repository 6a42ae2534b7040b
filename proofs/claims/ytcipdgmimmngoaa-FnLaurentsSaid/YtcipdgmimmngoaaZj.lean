/- Wide numbers multiplied: words. Conditions: as each theorem says. -/
import Derived.Test.YtcipdgmimmngoaaZb
import Derived.Lib.Mul64
import Derived.Laws.Bits64b
namespace Go.Proofs.Ytcipdgmimmngoaa
open Go.RowKit
set_option linter.unusedSimpArgs false
set_option linter.unusedVariables false
open Go.RowKit
namespace Mu
theorem maskN (a : Nat) (ha : a < 18446744073709551616) : bits .and .u64 (a : Int) 4294967295 = ((a % 4294967296 : Nat) : Int) := by
  have h := bits_and_u64_nat a 4294967295 ha (by omega)
  have e : a &&& 4294967295 = a % 4294967296 := Nat.and_two_pow_sub_one_eq_mod a 32
  rw [e] at h
  exact h
theorem divN (a : Nat) : (a : Int) / 4294967296 = ((a / 4294967296 : Nat) : Int) := by omega
theorem mulN (a b : Nat) : (a : Int) * (b : Int) = ((a * b : Nat) : Int) := (Int.natCast_mul a b).symm
theorem addN (a b : Nat) : (a : Int) + (b : Int) = ((a + b : Nat) : Int) := (Int.natCast_add a b).symm
theorem wrapN (a : Nat) (ha : a < 18446744073709551616) : IntKind.u64.wrap (a : Int) = (a : Int) := by rw [IntKind.wrap_u64]; omega
theorem wrapM (a : Nat) : IntKind.u64.wrap (a : Int) = ((a % 18446744073709551616 : Nat) : Int) := by rw [IntKind.wrap_u64]; omega
end Mu
/-- one word of a product: what is carried -/
theorem qt_mul {Z P y a c : Int} {s k : Nat} (h : qt Z s = qt P s + a * qt y k + c) : qt Z (s + 1) = qt P (s + 1) + a * qt y (k + 1) + (wrd P s + a * wrd y k + c) / 18446744073709551616 ∧ wrd Z s = (wrd P s + a * wrd y k + c) % 18446744073709551616 := by
  have e1 : qt y k = 18446744073709551616 * qt y (k + 1) + wrd y k := by simp only [qt, wrd]; omega
  have e2 : a * qt y k = 18446744073709551616 * (a * qt y (k + 1)) + a * wrd y k := by rw [e1, Int.mul_add, Int.mul_left_comm]
  have e3 : qt P s = 18446744073709551616 * qt P (s + 1) + wrd P s := by simp only [qt, wrd]; omega
  have e4 : qt Z s = 18446744073709551616 * qt Z (s + 1) + wrd Z s := by simp only [qt, wrd]; omega
  have e5 := wrd_lt Z s
  rw [e2] at h
  generalize a * qt y (k + 1) = u at *
  generalize a * wrd y k = v at *
  constructor <;> omega
/-- 2^64 to the power i -/
def bp : Nat → Int
  | 0 => 1
  | i + 1 => bp i * 18446744073709551616
theorem qt_plus {P u : Int} {i : Nat} : qt (P + bp i * u) i = qt P i + u := by
  induction i generalizing P u with
  | zero => simp [qt, bp]
  | succ i ih =>
    simp only [qt, bp]
    rw [Int.mul_assoc, ih]
    omega
theorem wrd_under {P u : Int} {i j : Nat} (h : j < i) : wrd (P + bp i * u) j = wrd P j := by
  obtain ⟨d, rfl⟩ : ∃ d, i = j + 1 + d := ⟨i - (j + 1), by omega⟩
  have e : ∀ d, ∃ t, bp (j + 1 + d) = bp j * (18446744073709551616 * t) := by
    intro d
    induction d with
    | zero => exact ⟨1, by simp [bp]⟩
    | succ d ih =>
      obtain ⟨t, ht⟩ := ih
      refine ⟨t * 18446744073709551616, ?_⟩
      show bp (j + 1 + d) * 18446744073709551616 = _
      rw [ht]; simp only [Int.mul_assoc, Int.mul_comm, Int.mul_left_comm]
  obtain ⟨t, ht⟩ := e d
  unfold wrd
  rw [ht, Int.mul_assoc, qt_plus, Int.mul_assoc]
  omega
/-- behind a round of the outer loop -/
theorem mul_round {x y P : Int} {i : Nat} (h : x * y = P + bp i * (qt x i * y)) : x * y = (P + bp i * (wrd x i * y)) + bp (i + 1) * (qt x (i + 1) * y) := by
  have e : qt x i = wrd x i + 18446744073709551616 * qt x (i + 1) := by simp only [qt, wrd]; omega
  rw [h, bp, Int.add_assoc]
  congr 1
  rw [Int.mul_assoc, ← Int.mul_add]
  congr 1
  rw [← Int.mul_assoc, ← Int.add_mul, ← e]
/-- words of Z below n, of P from n on -/
def mixF (Z P : Int) (n : Nat) : Nat → Int := fun j => if j < n then wrd Z j else wrd P j
theorem mixF_step (Z P : Int) (n : Nat) : upd (mixF Z P n) n (wrd Z n) = mixF Z P (n + 1) := by
  funext j
  unfold upd mixF
  by_cases h : j = n
  · subst h; simp
  · by_cases h2 : j < n
    · have : j < n + 1 := by omega
      simp [h, h2, this]
    · have : ¬ j < n + 1 := by omega
      simp [h, h2, this]
theorem mixF_at (Z P : Int) (n : Nat) : mixF Z P n n = wrd P n := by simp [mixF]
theorem mixF_start {Z P : Int} {i : Nat} (h : ∀ j, j < i → wrd Z j = wrd P j) : mixF Z P i = wrd P := by
  funext j
  unfold mixF
  split
  · rename_i hj; exact h j hj
  · rfl
theorem mixF_four (Z P : Int) : arrF .u64 4 (mixF Z P 4) = arrF .u64 4 (wrd Z) := arrF_ext fun j hj => by simp [mixF, hj]
theorem mul_done {x y P : Int} (h : x * y = P + bp 4 * (qt x 4 * y)) : arrF .u64 4 (wrd P) = arrF .u64 4 (wrd (x * y)) := by
  rw [h]
  exact arrF_ext fun j hj => (wrd_under hj).symm
theorem mul_le {a b : Int} (ha0 : 0 ≤ a) (ha : a < 18446744073709551616) (hb0 : 0 ≤ b) (hb : b < 18446744073709551616) : 0 ≤ a * b ∧ a * b ≤ 340282366920938463426481119284349108225 :=
  ⟨Int.mul_nonneg ha0 hb0, Int.le_trans (Int.mul_le_mul (c := 18446744073709551615) (d := 18446744073709551615) (by omega) (by omega) hb0 (by omega)) (by decide)⟩
set_option maxHeartbeats 2000000 in
theorem mul64_nat (x y : Nat) (hx : x < 18446744073709551616) (hy : y < 18446744073709551616) (w : World) : Calls Try.prog 62 #[.int .u64 x, .int .u64 y] w fun e w' => e = .returned (.tuple #[.int .u64 ((x * y / 18446744073709551616 : Nat) : Int), .int .u64 ((x * y % 18446744073709551616 : Nat) : Int)]) ∧ w = w' := by
  obtain ⟨bd, bt, bw, hhi⟩ := Lib.mul64_hi x y hx hy
  have ba := Lib.half_mul_le (a := x / 4294967296) (b := y / 4294967296) (by omega) (by omega)
  have bb := Lib.half_mul_le (a := x / 4294967296) (b := y % 4294967296) (by omega) (by omega)
  have bc := Lib.half_mul_le (a := x % 4294967296) (b := y / 4294967296) (by omega) (by omega)
  have ba' : x / 4294967296 * (y / 4294967296) < 18446744073709551616 := by omega
  have bb' : x / 4294967296 * (y % 4294967296) < 18446744073709551616 := by omega
  have bc' : x % 4294967296 * (y / 4294967296) < 18446744073709551616 := by omega
  have bh1 : x / 4294967296 * (y / 4294967296) + (x / 4294967296 * (y % 4294967296) + x % 4294967296 * (y % 4294967296) / 4294967296) / 4294967296 < 18446744073709551616 := by omega
  have bh : x / 4294967296 * (y / 4294967296) + (x / 4294967296 * (y % 4294967296) + x % 4294967296 * (y % 4294967296) / 4294967296) / 4294967296 + ((x / 4294967296 * (y % 4294967296) + x % 4294967296 * (y % 4294967296) / 4294967296) % 4294967296 + x % 4294967296 * (y / 4294967296)) / 4294967296 < 18446744073709551616 := by omega
  go_enter Try.func62, Try.ntmps62
  go_wp2
  simp only [Mu.maskN x hx, Mu.maskN y hy, Mu.divN, Mu.mulN, Mu.addN, Mu.wrapN _ bd, Mu.wrapN _ bb', Mu.wrapN _ bt, Mu.maskN _ bt, Mu.wrapN _ bc', Mu.wrapN _ bw, Mu.wrapN _ ba', Mu.wrapN _ bh1, Mu.wrapN _ bh, Mu.wrapM (x * y)]
  rw [hhi]
  go_ret2
  exact ⟨rfl, rfl⟩
theorem mul64_any (x y : Int) (hx0 : 0 ≤ x) (hx : x < 18446744073709551616) (hy0 : 0 ≤ y) (hy : y < 18446744073709551616) (w : World) : Calls Try.prog 62 #[.int .u64 x, .int .u64 y] w fun e w' => e = .returned (.tuple #[.int .u64 (x * y / 18446744073709551616), .int .u64 (x * y % 18446744073709551616)]) ∧ w = w' := by
  obtain ⟨X, rfl⟩ := Int.eq_ofNat_of_zero_le hx0
  obtain ⟨Y, rfl⟩ := Int.eq_ofNat_of_zero_le hy0
  have h := mul64_nat X Y (by omega) (by omega) w
  simpa using h
end Go.Proofs.Ytcipdgmimmngoaa
