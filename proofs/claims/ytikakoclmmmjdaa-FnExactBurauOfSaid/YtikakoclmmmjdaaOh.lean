/- Matrices of the program's polynomials, read; lists with their blocks' numbers. Conditions: as each theorem says. -/
import Derived.Test.YtikakoclmmmjdaaOd
import Derived.Test.YtikakoclmmmjdaaNd
import Derived.Test.YtikakoclmmmjdaaNf
namespace Go.Proofs.Ytikakoclmmmjdaa
open Go.RowKit
set_option linter.unusedSimpArgs false
set_option linter.unusedVariables false
open Go.RowKit
/-- lists that carry their block's number ahead -/
def Ctag (e : TypeId) (B : Nat) : Cont := fun w v ys => ∃ t xs, ys = t :: xs ∧ own e w B v xs ∧ ∀ k, v.ownBlock = some k → t = (k : Int)
theorem Ctag_mono {e : TypeId} {B B' : Nat} {w : World} (hB : B' ≤ B) : ∀ x xs, Ctag e B w x xs → Ctag e B' w x xs := fun _ _ ⟨t, xs, h1, h2, h3⟩ => ⟨t, xs, h1, h2.mono hB, h3⟩
theorem Ctag_below {e : TypeId} {X : Nat} {w w' : World} (hb : Below w.heap.size w w') : ∀ x xs, Ctag e X w x xs → Ctag e X w' x xs := fun _ _ ⟨t, xs, h1, h2, h3⟩ => ⟨t, xs, h1, own.kept h2 hb, h3⟩
theorem Ctag_of {e T : TypeId} {X : Nat} {w w' : World} {row : Option Nat} (hg : w.grownBy w' row) (hT : T ≠ e) (hr : ∀ k, row = some k → ∃ c, w.heap[k]? = some (.cells c T (0, 0))) : ∀ x xs, Ctag e X w x xs → Ctag e X w' x xs := fun _ _ ⟨t, xs, h1, h2, h3⟩ => ⟨t, xs, h1, own.apart h2 hg (fun q hq he => by
  obtain ⟨c, hk⟩ := hr q he
  obtain ⟨c2, hk2⟩ := own_block h2 hq
  exact block_ne hT hk hk2 rfl), h3⟩
theorem Ctag_row {e T : TypeId} {X : Nat} {C : Cont} {w w' : World} {B : Nat} {v : Value} {ps : List Pol} (ht : T ≠ e) (h : rowG T C w B v ps) (hg : w.grownBy w' v.ownBlock) : ∀ x xs, Ctag e X w x xs → Ctag e X w' x xs := Ctag_of hg ht fun _ hk => h.block hk
theorem Ctag_tab {e S T : TypeId} {X : Nat} {C : Cont} {w w' : World} {B : Nat} {v : Value} {M : List (List Pol)} (ht : S ≠ e) (h : tabG S T C w B v M) (hg : w.grownBy w' v.ownBlock) : ∀ x xs, Ctag e X w x xs → Ctag e X w' x xs := Ctag_of hg ht fun _ hk => h.block hk
theorem rowG.keepT {T e : TypeId} {X : Nat} {w w' : World} {B : Nat} {v : Value} {ps : List Pol} (h : rowG T (Ctag e X) w B v ps) (hb : Below w.heap.size w w') : rowG T (Ctag e X) w' B v ps := h.below hb (Ctag_below hb)
theorem tabG.keepT {S T e : TypeId} {X : Nat} {w w' : World} {B : Nat} {v : Value} {M : List (List Pol)} (h : tabG S T (Ctag e X) w B v M) (hb : Below w.heap.size w w') : tabG S T (Ctag e X) w' B v M := h.below hb (Ctag_below hb)
/-- entries with their lists' block numbers -/
def tgP (τ : Nat → Nat → Int) (F : Nat → Nat → Pol) : Nat → Nat → Pol := fun i j => ((F i j).1, τ i j :: (F i j).2)
theorem rowG.untag {T e : TypeId} {X : Nat} {w : World} {B : Nat} {v : Value} {m : Nat} {τ : Nat → Int} {f : Nat → Pol} (h : rowG T (Ctag e X) w B v (plL m fun j => ((f j).1, τ j :: (f j).2))) : rowG T (Co e) w B v (plL m f) := by
  obtain ⟨qs, h1, h2, h3⟩ := h
  rw [plL_length] at h1 h2 h3
  refine ⟨qs, by rw [plL_length]; exact h1, by rw [plL_length]; exact h2, fun i hi => ?_⟩
  rw [plL_length] at hi
  obtain ⟨h4, t, xs, h5, h6, _⟩ := h3 i hi
  rw [pAt_plL hi] at h4 h5 ⊢
  cases h5
  exact ⟨h4, h6.mono (Nat.zero_le _)⟩
theorem tabG.untag {S T e : TypeId} {X : Nat} {w : World} {B : Nat} {v : Value} {m k : Nat} {τ : Nat → Nat → Int} {F : Nat → Nat → Pol} (h : tabG S T (Ctag e X) w B v (plT m k (tgP τ F))) : tabG S T (Co e) w B v (plT m k F) := by
  obtain ⟨vs, h1, h2, h3, h4⟩ := h
  rw [plT_length] at h1 h2 h3 h4
  refine ⟨vs, by rw [plT_length]; exact h1, by rw [plT_length]; exact h2, fun i hi => ?_, fun i j hi hj => h4 i j (by rwa [plT_length] at hi) (by rwa [plT_length] at hj)⟩
  rw [plT_length] at hi
  have := h3 i hi
  rw [prow_plT hi] at this ⊢
  exact this.untag
/-- the numbers that are told are apart, and below n -/
structure TagsOk (m : Nat) (τ : Nat → Nat → Int) (i j : Nat) (n : Nat) : Prop where
  r : ∀ x y, y < m → (x < i ∨ (x = i ∧ y < j)) → (0 ≤ τ x y ∧ τ x y < n) ∨ τ x y = -1 - (8 * (x : Int) + y)
  d : ∀ x y x' y', y < m → (x < i ∨ (x = i ∧ y < j)) → y' < m → (x' < i ∨ (x' = i ∧ y' < j)) → τ x y = τ x' y' → x = x' ∧ y = y'
theorem TagsOk.start (m : Nat) (τ : Nat → Nat → Int) (n : Nat) : TagsOk m τ 0 0 n := ⟨fun x y _ h => by omega, fun x y x' y' _ h => by omega⟩
theorem TagsOk.mono {m : Nat} {τ : Nat → Nat → Int} {i j n n' : Nat} (h : TagsOk m τ i j n) (hn : n ≤ n') : TagsOk m τ i j n' := ⟨fun x y hy hx => by have := h.r x y hy hx; omega, h.d⟩
theorem TagsOk.row {m : Nat} {τ : Nat → Nat → Int} {i n : Nat} (h : TagsOk m τ i m n) : TagsOk m τ (i + 1) 0 n := ⟨fun x y hy hx => h.r x y hy (by omega), fun x y x' y' hy hx hy' hx' e => h.d x y x' y' hy (by omega) hy' (by omega) e⟩
def updT (τ : Nat → Nat → Int) (i j : Nat) (t : Int) : Nat → Nat → Int := fun x y => if x = i ∧ y = j then t else τ x y
theorem TagsOk.push {m : Nat} (h8 : m ≤ 8) {τ : Nat → Nat → Int} {i j n n' : Nat} (h : TagsOk m τ i j n) (hj : j < m) {t : Int} (hn : n ≤ n') (ht : ((n : Int) ≤ t ∧ t < n') ∨ t = -1 - (8 * (i : Int) + j)) : TagsOk m (updT τ i j t) i (j + 1) n' := by
  have e1 : updT τ i j t i j = t := if_pos ⟨rfl, rfl⟩
  have e2 : ∀ x y, ¬ (x = i ∧ y = j) → updT τ i j t x y = τ x y := fun x y h => if_neg h
  refine ⟨fun x y hy hx => ?_, fun x y x' y' hy hx hy' hx' e => ?_⟩
  · by_cases hh : x = i ∧ y = j
    · obtain ⟨rfl, rfl⟩ := hh
      rw [e1]; omega
    · rw [e2 x y hh]
      have := h.r x y hy (by omega)
      omega
  · by_cases hh : x = i ∧ y = j
    · obtain ⟨rfl, rfl⟩ := hh
      by_cases hh' : x' = x ∧ y' = y
      · exact ⟨hh'.1.symm, hh'.2.symm⟩
      · exfalso
        rw [e1, e2 _ _ hh'] at e
        have := h.r x' y' hy' (by omega)
        omega
    · by_cases hh' : x' = i ∧ y' = j
      · exfalso
        obtain ⟨rfl, rfl⟩ := hh'
        rw [e1, e2 _ _ hh] at e
        have := h.r x y hy (by omega)
        omega
      · rw [e2 _ _ hh, e2 _ _ hh'] at e
        exact h.d x y x' y' hy (by omega) hy' (by omega) e
theorem tgP_upd {m i j : Nat} {τ : Nat → Nat → Int} {t : Int} {F : Nat → Nat → Pol} : plT m i (tgP τ F) = plT m i (tgP (updT τ i j t) F) := by
  unfold plT
  apply List.map_congr_left
  intro x hx
  have hx : x < i := by simpa using hx
  exact plL_ext fun y _ => by
    show ((F x y).1, τ x y :: (F x y).2) = ((F x y).1, updT τ i j t x y :: (F x y).2)
    rw [show updT τ i j t x y = τ x y from if_neg (by omega)]
theorem tgR_upd {i j : Nat} {τ : Nat → Nat → Int} {t : Int} {F : Nat → Nat → Pol} : plL j (tgP τ F i) = plL j (tgP (updT τ i j t) F i) := plL_ext fun y hy => by
  show ((F i y).1, τ i y :: (F i y).2) = ((F i y).1, updT τ i j t i y :: (F i y).2)
  rw [show updT τ i j t i y = τ i y from if_neg (by omega)]
/-- a square matrix of polynomials of the program's that is only read -/
def rdM (w : World) (v : Value) (m : Nat) (F : Nat → Nat → Pol) : Prop :=
  ∃ a c, v = .slice a m c ∧ (m = 0 ∨ ∃ b, a = some ⟨b, 0, none⟩ ∧ b < w.heap.size ∧ ∀ i, i < m → ∃ rb rc, w.cell? ⟨b, i, none⟩ = some (.slice (some ⟨rb, 0, none⟩) m rc) ∧ rb < w.heap.size ∧
    ∀ j, j < m → ∃ sa sc, w.cell? ⟨rb, j * 2, none⟩ = some (.int .i64 (F i j).1) ∧ w.cell? ⟨rb, j * 2 + 1, none⟩ = some (.slice sa (F i j).2.length sc) ∧ rdW 78 w (.slice sa (F i j).2.length sc) (F i j).2)
theorem rdM.kept {w w' : World} {v : Value} {m : Nat} {F : Nat → Nat → Pol} (h : rdM w v m F) (hb : Below w.heap.size w w') : rdM w' v m F := by
  obtain ⟨a, c, hv, h⟩ := h
  refine ⟨a, c, hv, ?_⟩
  rcases h with h | ⟨b, ha, hbl, h⟩
  · exact .inl h
  · refine .inr ⟨b, ha, Nat.lt_of_lt_of_le hbl hb.size, fun i hi => ?_⟩
    obtain ⟨rb, rc, h1, h2, h3⟩ := h i hi
    refine ⟨rb, rc, by rw [hb.cell (p := ⟨b, i, none⟩) hbl]; exact h1, Nat.lt_of_lt_of_le h2 hb.size, fun j hj => ?_⟩
    obtain ⟨sa, sc, h4, h5, h6⟩ := h3 j hj
    exact ⟨sa, sc, by rw [hb.cell (p := ⟨rb, j * 2, none⟩) h2]; exact h4, by rw [hb.cell (p := ⟨rb, j * 2 + 1, none⟩) h2]; exact h5, h6.kept hb⟩
/-- a matrix of the program's can be read -/
theorem tabG.rdM {S T : TypeId} {w : World} {B : Nat} {v : Value} {m : Nat} {F : Nat → Nat → Pol} (hST : S ≠ T) (h : tabG S T (Cw 78) w B v (plT m m F)) : rdM w v m F := by
  obtain ⟨a, c, hv⟩ := h.len
  rw [plT_length] at hv
  refine ⟨a, c, hv, ?_⟩
  rcases Nat.eq_zero_or_pos m with h0 | h0
  · exact .inl h0
  · obtain ⟨g, c2, rv, hv2, _, hg, _, _, _⟩ := h.wrote hST (i := 0) (by rw [plT_length]; exact h0)
    rw [hv, plT_length] at hv2
    cases hv2
    refine .inr ⟨g, rfl, hg, fun i hi => ?_⟩
    obtain ⟨g2, c3, rv, hv3, _, hg2, hc, hr, _⟩ := h.wrote hST (i := i) (by rw [plT_length]; exact hi)
    rw [hv, plT_length] at hv3
    cases hv3
    rw [prow_plT hi] at hr
    obtain ⟨rb, rc, sv, hrv, _, hrb, _, _, _⟩ := hr.at (i := 0) (by rw [plL_length]; exact h0)
    rw [plL_length] at hrv
    subst hrv
    refine ⟨rb, rc, hc, hrb, fun j hj => ?_⟩
    obtain ⟨rb2, rc2, sv, hrv, _, _, h4, h5, h6⟩ := hr.at (i := j) (by rw [plL_length]; exact hj)
    rw [plL_length] at hrv
    cases hrv
    rw [pAt_plL hj] at h4 h6
    have h7 : rdW 78 w sv (F i j).2 := h6
    obtain ⟨sa, sc, rfl⟩ := rdW_form h7
    exact ⟨sa, sc, h4, h5, h7⟩
end Go.Proofs.Ytikakoclmmmjdaa
