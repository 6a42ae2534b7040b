/- Strands of a braid, by the program. Conditions: as each theorem says. -/
import Derived.Test.YtnbpkbkgbpfomaaVg
import Derived.BigRegion
import Derived.Deep.Cut
namespace Go.Proofs.Ytnbpkbkgbpfomaa
open Go.RowKit
set_option linter.unusedSimpArgs false
set_option linter.unusedVariables false
/-- the numbers of a function's first m values -/
def lstOf (m : Nat) (s : Nat → Nat) : List Int := (List.range m).map fun i => (s i : Int)
theorem lstOf_length (m s) : (lstOf m s).length = m := by simp [lstOf]
theorem nth_lstOf {m s i} (h : i < m) : nth (lstOf m s) i = (s i : Int) := by simp [nth, lstOf, h]
theorem lstOf_succ (s : Nat → Nat) (k : Nat) : lstOf k s ++ [(s k : Int)] = lstOf (k + 1) s := by simp [lstOf, List.range_succ]
theorem lstOf_ext {m : Nat} {s t : Nat → Nat} (h : ∀ i, i < m → s i = t i) : lstOf m s = lstOf m t :=
  ext_nth (by simp [lstOf]) fun i hi => by rw [lstOf_length] at hi; rw [nth_lstOf hi, nth_lstOf hi, h i hi]
theorem lstOf_set {m : Nat} (s : Nat → Nat) (i v : Nat) : (lstOf m s).set i (v : Int) = lstOf m (updN s i v) := by
  refine ext_nth (by simp [lstOf]) fun j hj => ?_
  rw [List.length_set, lstOf_length] at hj
  rw [nth_lstOf hj]
  unfold nth
  by_cases e : i = j
  · subst e; simp [lstOf_length, hj, updN]
  · rw [List.getD_eq_getElem?_getD, List.getElem?_set_ne e, ← List.getD_eq_getElem?_getD]
    have := nth_lstOf (s := s) hj
    unfold nth at this
    rw [this]
    have : ¬ j = i := fun h => e h.symm
    simp [updN, this]
theorem swap_steps2 (c : Nat → Nat) (p : Nat) : updN (updN c p (c (p + 1))) (p + 1) (c p) = swapK c (p + 1) := by
  funext j
  simp only [swapK_at, updN, Nat.add_sub_cancel]
theorem own_cells {e : TypeId} {w : World} {B g n c : Nat} {xs : List Int} (h : own e w B (.slice (some ⟨g, 0, none⟩) n c) xs) {i : Nat} (hi : i < xs.length) : ∀ d', (w.drewN d').cell? ⟨g, i, none⟩ = some (.int .i64 (nth xs i)) := fun _ => h.cell hi
theorem own_heap {e : TypeId} {w w' : World} {B : Nat} {v : Value} {xs : List Int} (hh : w.heap = w'.heap) (h : own e w B v xs) : own e w' B v xs := by
  obtain ⟨h1, h2⟩ := h
  refine ⟨h1, ?_⟩
  rcases h2 with h2 | ⟨g, cap, cur, hv, hg, hw, r⟩
  · exact .inl h2
  · exact .inr ⟨g, cap, cur, hv, hg, by rw [← hh]; exact hw, r⟩
theorem below_two {B : Nat} {w : World} {n g i j : Nat} {a b : Value} (hB : B ≤ g) (hs : B ≤ w.heap.size) : Below B w (((w.drewN n).setCell ⟨g, i, none⟩ a).setCell ⟨g, j, none⟩ b) :=
  ⟨rfl, rfl, rfl, by simp, fun k hk => by
    rw [heap_setCell_other _ _ k b (by show k ≠ g; omega), heap_setCell_other _ _ k a (by show k ≠ g; omega)]; rfl⟩
theorem own.drewN {e : TypeId} {w : World} {B : Nat} {v : Value} {xs : List Int} (h : own e w B v xs) (n : Nat) : own e (w.drewN n) B v xs := h
theorem size_any (x : Int) (w : World) (h1 : -1000 ≤ x) (h2 : x ≤ 1000) : Calls Try.prog 21 #[.int .i64 x] w fun e w' => e = .returned (.int .i64 (x.natAbs : Int)) ∧ w = w' := by
  by_cases h : x < -x
  · have e := Lib.hid (show (x.natAbs : Int) = -x by omega)
    go_enter Try.func21, Try.ntmps21
    go_wp2
    go_ret
    exact ⟨by rw [e.out]; rfl, rfl⟩
  · have e := Lib.hid (show (x.natAbs : Int) = x by omega)
    have h' : -x ≤ x := by omega
    go_enter Try.func21, Try.ntmps21
    go_wp2
    go_ret
    exact ⟨by rw [e.out]; rfl, rfl⟩
end Go.Proofs.Ytnbpkbkgbpfomaa
