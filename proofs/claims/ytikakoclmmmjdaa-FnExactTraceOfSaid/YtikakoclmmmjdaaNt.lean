/- Traces. Conditions: as each theorem says. -/
import Derived.Test.YtikakoclmmmjdaaNk
import Derived.Test.YtikakoclmmmjdaaMb
namespace Go.Proofs.Ytikakoclmmmjdaa
open Go.RowKit
set_option linter.unusedSimpArgs false
set_option linter.unusedVariables false
open Go.RowKit
/-- the sum of the first k entries of the diagonal -/
def trF (F : Nat → Nat → Int → Int) (k : Nat) : Int → Int := fun z => sumT (fun q => F q q z) k
theorem trF_succ (F : Nat → Nat → Int → Int) (k : Nat) : trF F (k + 1) = fun z => trF F k z + 1 * F k k z := by
  funext z
  rw [Int.one_mul]; rfl
theorem trF_sup {m : Nat} {F : Nat → Nat → Int → Int} (h : bdM m F) : ∀ k, k ≤ m → sup (trF F k) 1000
  | 0, _ => fun z _ => rfl
  | k + 1, hk => fun z hz => by
    have h1 : sumT (fun q => F q q z) k = 0 := trF_sup h k (by omega) z hz
    have h2 := (h k (by omega) k (by omega)).1 z hz
    show sumT (fun q => F q q z) k + F k k z = 0
    rw [h1, h2]; rfl
noncomputable def trM (n : Int) (xs : List Int) : Pol := nf 9223372036854775808 (trF (lmF true (dimL true n) xs xs.length) (dimL true n))
noncomputable def trN (n : Int) (xs : List Int) : Int := if codL true n xs = 0 then laN (trM n xs).1 (trM n xs).2 else 0
noncomputable def trL (n : Int) (xs : List Int) : List Int := if codL true n xs = 0 then laL (trM n xs).1 (trM n xs).2 else []
noncomputable def trC (n : Int) (xs : List Int) : Int := if codL true n xs = 0 then laC (trM n xs).1 (trM n xs).2 else codL true n xs
theorem own_blockB {e t : TypeId} {w w' : World} {k B : Nat} {c : Array Value} (ht : t ≠ e) (hk : w.heap[k]? = some (.cells c t (0, 0))) (hg : w.grownBy w' (some k)) {v : Value} {xs : List Int} (h : own e w B v xs) : own e w' B v xs := own.apart h hg fun q hq he => by
  cases he
  obtain ⟨c2, h2⟩ := own_block h hq
  exact block_ne ht hk h2 rfl
end Go.Proofs.Ytikakoclmmmjdaa
