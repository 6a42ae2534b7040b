/- A wide number appended. Conditions: as each theorem says. -/
import Derived.Test.YtcipdgmimmngoaaZ7
namespace Go.Proofs.Ytcipdgmimmngoaa
open Go.RowKit
set_option linter.unusedSimpArgs false
set_option linter.unusedVariables false
open Go.RowKit
/-- one wide number is appended to a list of the call's own -/
theorem wpList_appendWide {P : Program} {ops : Array Oper} {rest : List Oper} {o : Oper} {a : Act} {w : World} {Q : Exit → Act → World → Prop} (hgd : o.guard = none) (s x : Operand) (t : TypeId)
    (ho : o.op = .call { callee := .builtin .append, args := #[s, x], argTypes := #[t, t] }) (e : TypeId) (z : Value) (ht : P.underlying t = some (.slice e)) (hi : (P.info? e).map (fun i => (i.zero, i.size, i.bytes)) = some (some z, 4, 32)) (hz : z.cells.size = 4)
    (B : Nat) (v : Value) (xs : List Int) (hs : a.eval s = v) (b c : Nat) (hx : a.eval x = .slice (some ⟨b, 0, none⟩) 1 c) (u : Int) (hu : ∀ j, j < 4 → w.cell? ⟨b, j, none⟩ = some (.int .u64 (wrd u j)))
    (hown : ownW e w B v xs) (hlen : xs.length < 1000000000) (hB : B ≤ w.heap.size)
    (h : ∀ v' w', ownW e w' B v' (xs ++ [u]) → Below B w w' → w.grownBy w' v.ownBlock → wpList P ops Q rest (a.put o.dst v') w') : wpList P ops Q (o :: rest) a w := by
  obtain ⟨i, h1, h2, h3, h4⟩ := info_parts hi
  refine wpList_append_own w hgd s x t ho B e i z 4 32 ht h1 h2 h3 h4 hz (by decide) v _ _ hs hown ⟨b, 0, none⟩ 1 c (wcells [u]) hx (by simp [wcells]) ?_ ?_ (by unfold maxLen; omega) (by omega) hB ?_
  · intro j y hj
    have hj4 : j < 4 := by
      rcases Nat.lt_or_ge j 4 with h' | h'
      · exact h'
      · rw [List.getElem?_eq_none (by simp [wcells]; omega)] at hj; cases hj
    have e1 := wcells_at (xs := [u]) (i := 0) (j := j) (by simp) hj4
    rw [Nat.mul_zero, Nat.zero_add] at e1
    rw [e1] at hj
    cases hj
    have e2 : (⟨b, 0, none⟩ : Addr).add j = ⟨b, 0 + j, none⟩ := by unfold Addr.add; split <;> simp_all
    rw [e2, Nat.zero_add]
    exact hu j hj4
  · intro y hy
    simp [wcells] at hy
    rcases hy with rfl | rfl | rfl | rfl <;> rfl
  · intro v' w' h5 h6 _
    refine h v' w' ?_ (below_of_grown h6 hB fun k hk => (hown.lt k hk).1) h6
    unfold ownW
    rw [wcells_append]
    simpa using h5
end Go.Proofs.Ytcipdgmimmngoaa
