/- Tables of polynomials: numbering them (plain facts). Conditions: as each theorem says. -/
import Derived.Test.YtikakoclmmmjdaaOs
import Derived.Test.YtikakoclmmmjdaaNd
namespace Go.Proofs.Ytikakoclmmmjdaa
open Go.RowKit
set_option linter.unusedSimpArgs false
set_option linter.unusedVariables false
open Go.RowKit
/-- entries compared: where they lie -/
theorem grid_readsM {w : World} {B m g c : Nat} {kb ck : Nat → Nat} {sv : Nat → Nat → Value} {G : Nat → Nat → Pol} (h : Grid w B m g kb ck sv G) : readsM w (.slice (some ⟨g, 0, none⟩) m c) m G := by
  obtain ⟨cg, hg⟩ := h.tg
  refine ⟨_, c, rfl, .inr ⟨g, rfl, lt_of_block hg, fun i hi => ?_⟩⟩
  obtain ⟨cur, hk⟩ := h.tk i hi
  refine ⟨kb i, ck i, h.cr i hi, lt_of_block hk, fun j hj => ?_⟩
  have ho : reads w (sv i j) (G i j).2 := own.reads (h.ow i hi j hj)
  have h1 := h.c1 i hi j hj
  obtain ⟨sa, sc, he⟩ := readsL_form ho
  rw [he] at ho h1
  exact ⟨sa, sc, h.c0 i hi j hj, h1, ho⟩
/-- how many numbers the first j entries of a row take -/
def offR (f : Nat → Pol) : Nat → Nat
  | 0 => 0
  | j + 1 => offR f j + 1 + (f j).2.length
def offG (m : Nat) (G : Nat → Nat → Pol) : Nat → Nat
  | 0 => 0
  | i + 1 => offG m G i + offR (G i) m
theorem offR_le {f : Nat → Pol} : ∀ {j : Nat}, (∀ y, y < j → (f y).2.length ≤ 3000) → offR f j ≤ 3001 * j
  | 0, _ => by simp [offR]
  | j + 1, h => by
    have := offR_le (j := j) (fun y hy => h y (by omega))
    have := h j (by omega)
    simp only [offR]; omega
theorem offR_ext {f f' : Nat → Pol} : ∀ {j : Nat}, (∀ y, y < j → (f y).2.length = (f' y).2.length) → offR f j = offR f' j
  | 0, _ => rfl
  | j + 1, h => by simp only [offR]; rw [offR_ext (j := j) (fun y hy => h y (by omega)), h j (by omega)]
theorem offG_le {m : Nat} (h8 : m ≤ 8) {G : Nat → Nat → Pol} : ∀ {i : Nat}, (∀ x, x < i → ∀ y, y < m → (G x y).2.length ≤ 3000) → offG m G i ≤ 24008 * i
  | 0, _ => by simp [offG]
  | i + 1, h => by
    have h1 := offG_le h8 (i := i) (fun x hx => h x (by omega))
    have h2 := offR_le (f := G i) (j := m) (h i (by omega))
    simp only [offG]; omega
theorem offG_ext {m : Nat} {G G' : Nat → Nat → Pol} : ∀ {i : Nat}, (∀ x, x < i → ∀ y, y < m → (G x y).2.length = (G' x y).2.length) → offG m G i = offG m G' i
  | 0, _ => rfl
  | i + 1, h => by simp only [offG]; rw [offG_ext (i := i) (fun x hx => h x (by omega)), offR_ext (h i (by omega))]
/-- an entry numbered from k on -/
def mkP (k : Int) (q : Pol) : Pol := (k, marks (k + 1) q.2.length)
/-- the first j entries of row i numbered -/
def mkR (G : Nat → Nat → Pol) (i : Nat) (k0 : Int) (j : Nat) : Nat → Nat → Pol := fun x y => if x = i ∧ y < j then mkP (k0 + offR (G i) y) (G i y) else G x y
theorem mkR_0 (G : Nat → Nat → Pol) (i : Nat) (k0 : Int) : mkR G i k0 0 = G := by
  funext x y
  exact if_neg (by omega)
theorem mkR_at (G : Nat → Nat → Pol) (i : Nat) (k0 : Int) (j : Nat) : mkR G i k0 j i j = G i j := if_neg (by omega)
theorem mkR_step (G : Nat → Nat → Pol) (i : Nat) (k0 : Int) (j : Nat) : updG (mkR G i k0 j) i j (mkP (k0 + offR (G i) j) (G i j)) = mkR G i k0 (j + 1) := by
  funext x y
  by_cases e : x = i ∧ y = j
  · obtain ⟨rfl, rfl⟩ := e
    rw [updG_at]
    exact (if_pos ⟨rfl, by omega⟩).symm
  · rw [updG_ne _ _ e]
    show (if x = i ∧ y < j then _ else _) = (if x = i ∧ y < j + 1 then _ else _)
    by_cases h : x = i ∧ y < j
    · rw [if_pos h, if_pos ⟨h.1, by omega⟩]
    · rw [if_neg h, if_neg (fun h' => h ⟨h'.1, by have := h'.2; have := fun h3 => e ⟨h'.1, h3⟩; omega⟩)]
theorem marks_len (k : Int) (n : Nat) : (marks k n).length = n := by simp [marks]
theorem updG_two (G : Nat → Nat → Pol) (i j : Nat) (a b : Pol) : updG (updG G i j a) i j b = updG G i j b := by
  funext x y
  by_cases e : x = i ∧ y = j
  · obtain ⟨rfl, rfl⟩ := e; rw [updG_at, updG_at]
  · rw [updG_ne _ _ e, updG_ne _ _ e, updG_ne _ _ e]
/-- the first i rows numbered -/
def mkT (m : Nat) (G : Nat → Nat → Pol) (k0 : Int) (i : Nat) : Nat → Nat → Pol := fun x y => if x < i ∧ y < m then mkP (k0 + offG m G x + offR (G x) y) (G x y) else G x y
theorem mkT_0 (m : Nat) (G : Nat → Nat → Pol) (k0 : Int) : mkT m G k0 0 = G := by
  funext x y
  exact if_neg (by omega)
theorem mkT_row (m : Nat) (G : Nat → Nat → Pol) (k0 : Int) (i : Nat) : mkT m G k0 i i = G i := by
  funext y
  exact if_neg (by omega)
theorem mkT_len (m : Nat) (G : Nat → Nat → Pol) (k0 : Int) (i x y : Nat) : (mkT m G k0 i x y).2.length = (G x y).2.length := by
  show (if x < i ∧ y < m then mkP _ _ else _).2.length = _
  split
  · exact marks_len _ _
  · rfl
end Go.Proofs.Ytikakoclmmmjdaa
