/- Lists of wide numbers. Conditions: as each theorem says. -/
import Derived.Test.YtcipdgmimmngoaaZ6
namespace Go.Proofs.Ytcipdgmimmngoaa
open Go.RowKit
set_option linter.unusedSimpArgs false
set_option linter.unusedVariables false
/-- the cells of a list of wide numbers -/
def wcells (xs : List Int) : List Value := xs.flatMap fun x => [.int .u64 (wrd x 0), .int .u64 (wrd x 1), .int .u64 (wrd x 2), .int .u64 (wrd x 3)]
theorem wcells_length (xs : List Int) : (wcells xs).length = 4 * xs.length := by
  induction xs with
  | nil => rfl
  | cons x xs ih => simp [wcells] at ih ⊢; omega
theorem wcells_append (xs ys : List Int) : wcells (xs ++ ys) = wcells xs ++ wcells ys := by simp [wcells]
theorem wcells_at {xs : List Int} {i j : Nat} (hi : i < xs.length) (hj : j < 4) : (wcells xs)[4 * i + j]? = some (.int .u64 (wrd (nth xs i) j)) := by
  induction xs generalizing i with
  | nil => cases hi
  | cons x xs ih =>
    have hc : wcells (x :: xs) = [.int .u64 (wrd x 0), .int .u64 (wrd x 1), .int .u64 (wrd x 2), .int .u64 (wrd x 3)] ++ wcells xs := rfl
    rw [hc]
    cases i with
    | zero =>
      match j, hj with
      | 0, _ => rfl
      | 1, _ => rfl
      | 2, _ => rfl
      | 3, _ => rfl
    | succ i =>
      rw [List.getElem?_append_right (by simp; omega)]
      have e : 4 * (i + 1) + j - [Value.int .u64 (wrd x 0), .int .u64 (wrd x 1), .int .u64 (wrd x 2), .int .u64 (wrd x 3)].length = 4 * i + j := by simp; omega
      rw [e, ih (by simpa using hi)]
      rfl
/-- a list of wide numbers of the call's own -/
def ownW (e : TypeId) (w : World) (B : Nat) (v : Value) (xs : List Int) : Prop := w.ownsRow B e 4 v xs.length (wcells xs)
/-- .. that is only read -/
def readsW (w : World) (v : Value) (xs : List Int) : Prop :=
  ∃ a cap, v = .slice a xs.length cap ∧ (xs = [] ∨ ∃ b o, a = some ⟨b, o, none⟩ ∧ ∀ i, i < xs.length → ∀ j, j < 4 → w.cell? ⟨b, o + 4 * i + j, none⟩ = some (.int .u64 (wrd (nth xs i) j)))
theorem ownW_nil (e : TypeId) (w : World) (B : Nat) : ownW e w B (.slice none 0 0) [] := World.ownsRow_nil w B e 4
theorem ownW.kept {e : TypeId} {w w' : World} {B : Nat} {v : Value} {xs : List Int} (h : ownW e w B v xs) (hb : Below w.heap.size w w') : ownW e w' B v xs := by
  refine World.ownsRow.kept (row := none) h ⟨hb.os, hb.tape, hb.output, hb.size, fun k hk _ => hb.block k hk⟩ ?_
  cases v.ownBlock <;> simp
theorem ownW.lt {e : TypeId} {w : World} {B : Nat} {v : Value} {xs : List Int} (h : ownW e w B v xs) : ∀ k, v.ownBlock = some k → B ≤ k ∧ k < w.heap.size := World.ownsRow.lt h
theorem ownW.reads {e : TypeId} {w : World} {B : Nat} {v : Value} {xs : List Int} (h : ownW e w B v xs) : readsW w v xs := by
  rcases h.2 with ⟨rfl, hn⟩ | ⟨g, cap, cur, rfl, _⟩
  · exact ⟨none, 0, by rw [hn], .inl (List.eq_nil_of_length_eq_zero hn)⟩
  · refine ⟨_, cap, rfl, .inr ⟨g, 0, rfl, fun i hi j hj => ?_⟩⟩
    have := World.ownsRow.cells h (g := g) rfl (4 * i + j) _ (wcells_at hi hj)
    have e : (⟨g, 0, none⟩ : Addr).add (4 * i + j) = ⟨g, 0 + (4 * i + j), none⟩ := by unfold Addr.add; split <;> simp_all
    rw [e] at this
    rw [show 0 + 4 * i + j = 0 + (4 * i + j) by omega]
    exact this
theorem readsW.kept {w w' : World} {v : Value} {xs : List Int} (h : readsW w v xs) (hb : Below w.heap.size w w') : readsW w' v xs := by
  obtain ⟨a, cap, hv, h⟩ := h
  refine ⟨a, cap, hv, ?_⟩
  rcases h with h | ⟨b, o, ha, hc⟩
  · exact .inl h
  · refine .inr ⟨b, o, ha, fun i hi j hj => ?_⟩
    have h1 := hc i hi j hj
    rw [hb.cell (p := ⟨b, o + 4 * i + j, none⟩) (World.block_lt_of_cell? w _ h1)]
    exact h1
end Go.Proofs.Ytcipdgmimmngoaa
