/- Letters turned, one by one, by the reference. Conditions: as each theorem says. -/
import Derived.Test.YtfghanmcmjgonaaDoorU4
import Derived.Test.YtfghanmcmjgonaaDoorBx
namespace Go.Proofs.YtfghanmcmjgonaaDoor
open Go.RowKit
set_option linter.unusedSimpArgs false
set_option linter.unusedVariables false
theorem own_far {e : TypeId} {X Y : World} {B B' : Nat} {J J' : List Obj} {d d' : Nat} {v : Value} {xs : List Int} (h : own e (plus X J d) B v xs) (hs : X.heap.size = Y.heap.size) (hB : X.heap.size ≤ B) (hB' : B' ≤ B) (hp : J <+: J') : own e (plus Y J' d') B' v xs := by
  obtain ⟨K, rfl⟩ := hp
  exact (own_plus (d := d') (own_swap hs hB h)).mono hB'
/-- letters of at most eight strands -/
def Sm (xs : List Int) : Prop := ∀ i, i < xs.length → -7 ≤ nth xs i ∧ nth xs i ≤ 7
theorem okW_sm {n : Int} {xs : List Int} (h : okW n xs = true) : Sm xs := by
  obtain ⟨m, rfl, h1, h8, _, h2⟩ := okW_true h
  intro i hi
  have := h2 i hi
  simp only [isL, decide_eq_true_eq] at this
  omega
theorem okW_n {n : Int} {xs : List Int} (h : okW n xs = true) : 1 ≤ n ∧ n ≤ 8 := by
  obtain ⟨m, rfl, h1, h8, _, h2⟩ := okW_true h
  omega
theorem nth_mem {xs : List Int} {i : Nat} (h : i < xs.length) : nth xs i ∈ xs := by
  have : nth xs i = xs[i] := by simp [nth, h]
  rw [this]; exact List.getElem_mem h
theorem mem_nth {xs : List Int} {x : Int} (h : x ∈ xs) : ∃ i, i < xs.length ∧ nth xs i = x := by
  obtain ⟨i, hi, e⟩ := List.mem_iff_getElem.1 h
  exact ⟨i, hi, by rw [← e]; simp [nth, hi]⟩
theorem Sm_iff {xs : List Int} : Sm xs ↔ ∀ x ∈ xs, -7 ≤ x ∧ x ≤ 7 :=
  ⟨fun h x hx => by obtain ⟨i, hi, rfl⟩ := mem_nth hx; exact h i hi, fun h i hi => h _ (nth_mem hi)⟩
theorem Sm.reverse {xs : List Int} (h : Sm xs) : Sm xs.reverse := Sm_iff.2 fun x hx => Sm_iff.1 h x (List.mem_reverse.1 hx)
theorem take_map_step {xs : List Int} {k : Nat} (g : Int → Int) (h : k < xs.length) : (xs.take k).map g ++ [g (nth xs k)] = (xs.take (k + 1)).map g := by
  have e : nth xs k = xs[k] := by simp [nth, h]
  rw [List.take_succ_eq_append_getElem h, List.map_append, e]; rfl
theorem drop_map_step {xs : List Int} {m : Nat} (g : Int → Int) (h : m < xs.length) : ((xs.drop (m + 1)).reverse).map g ++ [g (nth xs m)] = ((xs.drop m).reverse).map g := by
  have e : nth xs m = xs[m] := by simp [nth, h]
  rw [List.drop_eq_getElem_cons h, List.reverse_cons, List.map_append, e]; rfl
/-- what the letters are turned into -/
def negL (x : Int) : Int := -x
def turnL (n x : Int) : Int := if 0 < x then n - x else -n - x
def shiftL (k x : Int) : Int := if 0 < x then x + k else x - k
theorem turnL_pos {n x : Int} (h : 0 < x) : turnL n x = n - x := if_pos h
theorem turnL_neg {n x : Int} (h : ¬ 0 < x) : turnL n x = -n - x := if_neg h
theorem shiftL_pos {n x : Int} (h : 0 < x) : shiftL n x = x + n := if_pos h
theorem shiftL_neg {n x : Int} (h : ¬ 0 < x) : shiftL n x = x - n := if_neg h
end Go.Proofs.YtfghanmcmjgonaaDoor
