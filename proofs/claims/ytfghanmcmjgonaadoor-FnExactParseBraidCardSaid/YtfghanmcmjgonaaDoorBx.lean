/- Boxes: blocks of two cells. Conditions: as each theorem says. -/
import Derived.Test.YtfghanmcmjgonaaDoorI2
namespace Go.Proofs.YtfghanmcmjgonaaDoor
open Go.RowKit
set_option linter.unusedSimpArgs false
set_option linter.unusedVariables false
/-- a braid in a box: a block of two cells -/
def boxed (w : World) (b : Nat) (T : TypeId) (n : Int) (v : Value) : Prop := w.heap[b]? = some (.cells #[.int .i64 n, v] T)
theorem heap_lt {w : World} {b : Nat} {o : Obj} (h : w.heap[b]? = some o) : b < w.heap.size := by
  rcases Nat.lt_or_ge b w.heap.size with h' | h'
  · exact h'
  · rw [Array.getElem?_eq_none h'] at h; cases h
theorem boxed.lt {w b T n v} (h : boxed w b T n v) : b < w.heap.size := heap_lt h
theorem boxed.c0 {w b T n v} (h : boxed w b T n v) : w.cell? ⟨b, 0, none⟩ = some (.int .i64 n) := by
  unfold boxed at h; simp [World.cell?, h]
theorem boxed.c1 {w b T n v} (h : boxed w b T n v) : w.cell? ⟨b, 1, none⟩ = some v := by
  unfold boxed at h; simp [World.cell?, h]
theorem boxed.kept {w w' b T n v} (h : boxed w b T n v) (hb : Below w.heap.size w w') : boxed w' b T n v := by
  unfold boxed; rw [hb.block b h.lt]; exact h
theorem boxed.grown {w w' b T n v} {row : Option Nat} (h : boxed w b T n v) (hg : w.grownBy w' row) (hne : row ≠ some b) : boxed w' b T n v := by
  unfold boxed; rw [hg.block b h.lt (fun e => hne e.symm)]; exact h
theorem below_of_alloc {w w' : World} {o : Obj} (h : Below (w.alloc o).heap.size (w.alloc o) w') : Below w.heap.size w w' :=
  ((Below.refl _ _).alloc (Nat.le_refl _) o).trans (h.mono (by rw [World.size_alloc]; omega))
theorem reads_built {w : World} {e : TypeId} {b n : Nat} {c : Array Value} {xs : List Int} (hb : b = w.heap.size) (hn : n = xs.length) (hc : c = (xs.map (Value.int .i64)).toArray) : reads (w.alloc (.cells c e)) (.slice (some ⟨b, 0, none⟩) n n) xs := by
  subst hb hn hc
  refine ⟨_, _, rfl, .inr ⟨w.heap.size, 0, rfl, fun i hi => ?_⟩⟩
  simp only [World.cell?, heap_alloc_last]
  simp [nth, hi]
theorem kept_of {w w' : World} {b : Nat} {o : Obj} (h : w.heap[b]? = some o) (hb : Below w.heap.size w w') : w'.heap[b]? = some o := (hb.block b (heap_lt h)).trans h
theorem grown_of {w w' : World} {b : Nat} {o : Obj} {row : Option Nat} (h : w.heap[b]? = some o) (hg : w.grownBy w' row) (hne : row ≠ some b) : w'.heap[b]? = some o := (hg.block b (heap_lt h) (fun e => hne e.symm)).trans h
theorem cell_of {w : World} {b i : Nat} {c : Array Value} {T : TypeId} {fz : Nat × Nat} (h : w.heap[b]? = some (.cells c T fz)) : w.cell? ⟨b, i, none⟩ = c[i]? := by simp [World.cell?, h]
theorem ne_row {o : Option Nat} {b : Nat} (h : ∀ k, o = some k → k ≠ b) : o ≠ some b := fun e => h b e rfl
end Go.Proofs.YtfghanmcmjgonaaDoor
