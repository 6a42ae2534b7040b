/- Where strands end, by the program. Conditions: as each theorem says. -/
import Derived.Test.YthapkppnlomclaaVh
import Derived.Test.YthapkppnlomclaaI3
namespace Go.Proofs.Ythapkppnlomclaa
open Go.RowKit
set_option linter.unusedSimpArgs false
set_option linter.unusedVariables false
theorem own_ne {e T : TypeId} {w : World} {B b : Nat} {c : Array Value} {v : Value} {xs : List Int} (h : own e w B v xs) (hb : w.heap[b]? = some (.cells c T)) (hT : T ≠ e) : v.ownBlock ≠ some b := by
  intro hv
  rcases h.2 with ⟨rfl, _⟩ | ⟨g, cap, cur, rfl, hg, hh, _⟩
  · cases hv
  · simp only [Value.ownBlock, Option.some.injEq] at hv
    subst hv
    rw [hh] at hb
    cases hb
    exact hT rfl
theorem own_made_under {e : TypeId} {w : World} {B b m : Nat} {c : Array Value} {o : Obj} (hb : b = w.heap.size) (hB : B ≤ w.heap.size) (hm : m ≤ maxLen) (hc : c.size = m) : own e ((w.alloc (.cells c e)).alloc o) B (.slice (some ⟨b, 0, none⟩) 0 m) [] :=
  hb ▸ (own_made hB hm hc).kept (Below.alloc (Below.refl _ _) (Nat.le_refl _) o)
theorem reads_one {w : World} {e : TypeId} {b : Nat} {u : Int} (hb : b = w.heap.size) : reads (w.alloc (.cells #[.int .i64 u] e)) (.slice (some ⟨b, 0, none⟩) 1 1) [u] := by
  refine ⟨_, 1, rfl, .inr ⟨b, 0, rfl, fun i hi => ?_⟩⟩
  have : i = 0 := by simp at hi; omega
  subst this
  rw [World.cell?_alloc_at _ _ _ _ (by omega)]; rfl
theorem kept_grown {w w' : World} {o : Obj} {row : Option Nat} {b : Nat} {x : Obj} (h : w.heap[b]? = some x) (hg : (w.alloc o).grownBy w' row) (hne : row ≠ some b) : w'.heap[b]? = some x := by
  rw [hg.block b (by rw [World.size_alloc]; exact Nat.lt_succ_of_lt (heap_lt h)) (fun e => hne e.symm)]
  rw [Below.heap_alloc w o b (heap_lt h)]; exact h
theorem arr_cell {w : World} {b n : Nat} {T : TypeId} {k : IntKind} {f : Nat → Int} (h : w.heap[b]? = some (.cells (arrF k n f) T)) {i : Nat} (hi : i < n) : w.cell? ⟨b, i, none⟩ = some (.int k (f i)) := by
  simp [World.cell?, h, arrF_get k n f i hi]
end Go.Proofs.Ythapkppnlomclaa
