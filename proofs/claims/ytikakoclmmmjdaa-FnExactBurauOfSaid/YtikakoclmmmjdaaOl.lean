/- matrixOf: plain facts. Conditions: as each theorem says. -/
import Derived.Test.YtikakoclmmmjdaaOk
import Derived.Test.YtikakoclmmmjdaaOi
import Derived.Test.YtikakoclmmmjdaaNk
import Derived.Test.YtikakoclmmmjdaaYc
namespace Go.Proofs.Ytikakoclmmmjdaa
open Go.RowKit
set_option linter.unusedSimpArgs false
set_option linter.unusedVariables false
open Go.RowKit
theorem nf_two {f : Int → Int} {N : Nat} (hs : sup f N) (hb : ∀ k, -24008000000000000 ≤ f k ∧ f k ≤ 24008000000000000) : nf 57896044618658097711785492504343953926634992332820282019728792003956564819968 f = nf 9223372036854775808 f := by
  have a := nf_is (h := 57896044618658097711785492504343953926634992332820282019728792003956564819968) (by decide) hs
  have b := nf_is (h := 9223372036854775808) (by decide) hs
  refine isT_eq a.t b.t fun k => ?_
  have := hb k
  rw [a.v, b.v, rho_in (Int.le_trans (by decide) this.1) (Int.lt_of_le_of_lt this.2 (by decide)), rho_in (Int.le_trans (by decide) this.1) (Int.lt_of_le_of_lt this.2 (by decide))]
theorem bdM_two {m : Nat} {F : Nat → Nat → Int → Int} (h : bdM m F) {i j : Nat} (hi : i < m) (hj : j < m) : nfM 57896044618658097711785492504343953926634992332820282019728792003956564819968 F i j = nfM 9223372036854775808 F i j :=
  nf_two (h i hi j hj).1 fun k => by have := (h i hi j hj).2 k; omega
theorem lmF_two {red : Bool} {m : Nat} (hm : m ≤ 8) {zs : List Int} {k : Nat} (hF : bdM m (lmF red m zs k)) {i j : Nat} (hi : i < m) (hj : j < m) : nfM 57896044618658097711785492504343953926634992332820282019728792003956564819968 (lmF red m zs (k + 1)) i j = nfM 9223372036854775808 (lmF red m zs (k + 1)) i j :=
  nf_two (sup_mmF (A := 1500) (F := lmF red m zs k) (i := i) (sup_stp red m (nth zs k)) hj m (Nat.le_refl _)) fun t => lmF_rho hm hF hi hj t
theorem allM_two {m : Nat} {F G : Nat → Nat → Pol} (h : ∀ i, i < m → ∀ j, j < m → F i j = G i j) : allM m F = allM m G := by
  unfold allM
  congr 1
  exact propext ⟨fun h' i hi j hj => by rw [← h i hi j hj]; exact h' i hi j hj, fun h' i hi j hj => by rw [h i hi j hj]; exact h' i hi j hj⟩
theorem tgP_two {m : Nat} {τ : Nat → Nat → Int} {F G : Nat → Nat → Pol} (h : ∀ i, i < m → ∀ j, j < m → F i j = G i j) : plT m m (tgP τ F) = plT m m (tgP τ G) := plT_eq fun i j hi hj => by
  show ((F i j).1, τ i j :: (F i j).2) = ((G i j).1, τ i j :: (G i j).2)
  rw [h i hi j hj]
theorem allM_unit (m : Nat) (H : Int) (h0 : 2 ≤ H) : allM m (nfM H (fun i j => val (unitP i j))) = true := allM_good fun i _ j _ => by
  rw [show nfM H (fun i j => val (unitP i j)) i j = unitP i j from (tiny_unit i j).nf h0]
  unfold unitP
  split <;> decide
theorem nfM_unit4 : nfM 57896044618658097711785492504343953926634992332820282019728792003956564819968 (fun i j => val (unitP i j)) = unitP := by
  funext i j
  exact (tiny_unit i j).nf (by decide)
theorem tabW.mono {S T : TypeId} {C : Cont} {w : World} {B B' : Nat} {v : Value} {M : List (List Pol)} {vs : List Value} (h : tabW S T C w B v M vs) (hB : B' ≤ B) : tabW S T C w B' v M vs := by
  obtain ⟨h1, h2, h3, h4⟩ := h
  refine ⟨h1, ⟨h2.1, ?_⟩, fun i hi => (h3 i hi).mono hB fun x xs h => h, h4⟩
  rcases h2.2 with h5 | ⟨g, cap, cur, hv, hg, r⟩
  · exact .inl h5
  · exact .inr ⟨g, cap, cur, hv, Nat.le_trans hB hg, r⟩
/-- rows of two matrices, those of the second first -/
def mixR (F G : Nat → Nat → Pol) (r : Nat) : Nat → Nat → Pol := fun x => if x < r then G x else F x
theorem mixR_0 (F G : Nat → Nat → Pol) : mixR F G 0 = F := by
  funext x
  exact if_neg (by omega)
theorem mixR_all {F G : Nat → Nat → Pol} {m : Nat} : plT m m (mixR F G m) = plT m m G := plT_eq fun i j hi _ => by
  show (if i < m then G i else F i) j = G i j
  rw [if_pos hi]
theorem mixR_set {F G : Nat → Nat → Pol} {m r : Nat} : plT m m (setT (mixR F G r) r (G r)) = plT m m (mixR F G (r + 1)) := plT_eq fun i j _ _ => by
  show (if i = r then G r else (if i < r then G i else F i)) j = (if i < r + 1 then G i else F i) j
  by_cases h : i = r
  · subst h; rw [if_pos rfl, if_pos (by omega)]
  · by_cases h2 : i < r
    · rw [if_neg h, if_pos h2, if_pos (by omega)]
    · rw [if_neg h, if_neg h2, if_neg (by omega)]
/-- what matrixOf answers -/
def RetMx (red : Bool) (w : World) (m : Nat) (zs : List Int) : Ending → World → Prop := fun e w' => ∃ v', e = .returned (.tuple #[v', .int .i64 (if preL red m zs = true then 0 else 3)]) ∧ Below w.heap.size w w' ∧ (preL red m zs = true → ∃ τ, tabG 50 37 (Ctag 2 w.heap.size) w' w.heap.size v' (plT m m (tgP τ (nfM 9223372036854775808 (lmF red m zs zs.length)))) ∧ TagsOk m τ m 0 w'.heap.size) ∧ (preL red m zs = false → v' = .slice none 0 0)
theorem retLa_form {w w' : World} {m : Nat} {F : Nat → Nat → Pol} {e : Ending} (h : RetLa w m F e w') : ∃ v', e = .returned (.tuple #[v', .int .i64 (if allM m F = true then 0 else 3)]) ∧ Below w.heap.size w w' ∧ (allM m F = true → ∃ τ, tabG 50 37 (Ctag 2 w.heap.size) w' w.heap.size v' (plT m m (tgP τ F)) ∧ TagsOk m τ m 0 w'.heap.size) ∧ (allM m F = false → v' = .slice none 0 0) := h
end Go.Proofs.Ytikakoclmmmjdaa
