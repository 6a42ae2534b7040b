/- Slices of numbers: made with noughts, copied; an argument that is one. Conditions: as each theorem says. -/
import Derived.Test.YtoelchljmaoklaaIn
import Derived.Test.YtoelchljmaoklaaRk
namespace Go.Proofs.Ytoelchljmaoklaa
open Go.ChangeShapes Go.WideShapes Go.ChangeAt Go.RowKit
set_option linter.unusedVariables false
set_option linter.unusedSimpArgs false

theorem made_ints (n : Nat) : (madeCells (Value.int .i64 0).cells (n * 1)).toList = (List.replicate n (0 : Int)).map (Value.int .i64) := by
  rw [Nat.mul_one, List.map_replicate]
  exact toList_madeCells_one _ _
/-- n noughts are made -/
theorem wpList_make_ints {P : Program} (w : World) {ops : Array Oper} {rest : List Oper} {o : Oper} {a : Act} {Q : Exit → Act → World → Prop} (hg : o.guard = none) (l c : Operand) (t : TypeId) (hop : o.op = Op.makeSlice t l c)
    (e : TypeId) (h1 : P.underlying t = some (.slice e)) (hi : (P.info? e).map (fun i => (i.zero, i.size, i.bytes)) = some (some (.int .i64 0), 1, 8)) (n : Nat) (hl : a.eval l = .int .i64 n) (hc : a.eval c = .int .i64 n) (hn : n ≤ 1000000000)
    (hK : ∀ w', own e w' w.heap.size (.slice (some ⟨w.heap.size, 0, none⟩) n n) (List.replicate n 0) → Below w.heap.size w w' → wpList P ops Q rest (a.put o.dst (.slice (some ⟨w.heap.size, 0, none⟩) n n)) w') : wpList P ops Q (o :: rest) a w := by
  obtain ⟨i, g1, g2, g3, g4⟩ := info_parts hi
  refine wpList_make_full w hg l c t hop w.heap.size e i (.int .i64 0) 1 h1 g1 g2 g3 .i64 .i64 n n n hl hc rfl rfl (by rw [g4]; omega) (by unfold maxLen; omega) (Nat.le_refl _) fun w' r1 r2 => ?_
  rw [made_ints] at r1
  refine hK w' ?_ (below_of_grown r2 (Nat.le_refl _) fun k hk => by cases hk)
  unfold own
  rw [List.length_replicate]
  exact r1
theorem own.cell {e : TypeId} {w : World} {B g n c : Nat} {xs : List Int} (h : own e w B (.slice (some ⟨g, 0, none⟩) n c) xs) {i : Nat} (hi : i < xs.length) : w.cell? ⟨g, i, none⟩ = some (.int .i64 (nth xs i)) := by
  obtain ⟨a, cap, hv, hr⟩ := h.reads
  rcases hr with hr | ⟨b, o, ha, hr⟩
  · rw [hr] at hi; cases hi
  · subst ha
    have e1 := hr i hi
    have e2 : (⟨g, 0, none⟩ : Addr) = ⟨b, o, none⟩ := by
      simp only [Value.slice.injEq, Option.some.injEq] at hv
      exact hv.1
    simp only [Addr.mk.injEq] at e2
    rw [← e2.1, ← e2.2.1, Nat.zero_add] at e1
    exact e1
/-- xs, its first i numbers; 0 behind them -/
def copied (xs : List Int) (i : Nat) : List Int := (List.range xs.length).map fun j => if j < i then nth xs j else 0
theorem copied_length (xs i) : (copied xs i).length = xs.length := by simp [copied]
theorem nth_copied {xs i j} (h : j < xs.length) : nth (copied xs i) j = if j < i then nth xs j else 0 := by
  show (copied xs i).getD j 0 = _
  simp [copied, h]
theorem copied_zero (xs) : copied xs 0 = List.replicate xs.length 0 := by
  refine ext_nth (by simp [copied]) fun i hi => ?_
  rw [copied_length] at hi
  rw [nth_copied hi]
  simp [nth, hi]
theorem copied_all (xs) : copied xs xs.length = xs := by
  refine ext_nth (copied_length _ _) fun i hi => ?_
  rw [copied_length] at hi
  rw [nth_copied hi, if_pos hi]
theorem copied_set {xs : List Int} {i : Nat} (h : i < xs.length) : (copied xs i).set i (nth xs i) = copied xs (i + 1) := by
  refine ext_nth (by simp [copied_length]) fun j hj => ?_
  rw [List.length_set, copied_length] at hj
  rw [nth_copied hj]
  unfold nth
  by_cases e : i = j
  · subst e
    simp [copied_length, hj]
  · rw [List.getD_eq_getElem?_getD, List.getElem?_set_ne e, ← List.getD_eq_getElem?_getD]
    have := nth_copied (i := i) hj
    unfold nth at this
    rw [this]
    by_cases h1 : j < i
    · have : j < i + 1 := by omega
      simp [h1, this]
    · have : ¬ j < i + 1 := by omega
      simp [h1, this]
/-- every number fits -/
def Fits (xs : List Int) : Prop := ∀ x ∈ xs, -9223372036854775808 ≤ x ∧ x < 9223372036854775808
theorem fits_nth {xs : List Int} (h : Fits xs) {i : Nat} (hi : i < xs.length) : -9223372036854775808 ≤ nth xs i ∧ nth xs i < 9223372036854775808 := by
  have : nth xs i = xs[i] := by simp [nth, hi]
  rw [this]
  exact h _ (List.getElem_mem hi)
section
variable {H : Type} {enc : TypeId × Value → H} {P : Program} {w : World} {base : Nat} {spare : Nat → Bool} {held : Bool}
/-- an argument that is a slice of numbers -/
theorem open_list {r : Reach} {b0 : Nat} {t e : TypeId} {v : Value} {d : DataW H} {p : List MemPlace} (ht : P.underlying t = some (.slice e)) (he : P.underlying e = some (.int .i64)) (hc : P.cellsOf e = 1)
    (hv : Value.okWide P w r b0 t v) (h : DataW.Trod enc P w base spare held t v d p) : ∃ xs, reads w v xs ∧ Fits xs := by
  obtain ⟨a0, len, cap, rfl⟩ := okWide_slice ht hv
  obtain ⟨fuel, hf⟩ := h
  rcases open_ints ht he hc hf with ⟨hcs, hx⟩ | ⟨a, len', cap', zs, hcs, _, hl, hm, hz, hx, hcell, hwz⟩
  · have e1 : Value.slice a0 len cap = Value.slice none 0 0 := by simpa [Value.cells] using hcs
    cases e1
    exact ⟨[], ⟨none, 0, rfl, .inl rfl⟩, fun x hx => by cases hx⟩
  · have e1 : Value.slice a0 len cap = Value.slice (some a) len' cap' := by simpa [Value.cells] using hcs
    cases e1
    have hlen : len ≤ zs.length := by rw [hz]; split <;> omega
    refine ⟨zs.take len, ⟨some a, cap, by rw [List.length_take, Nat.min_eq_left hlen], ?_⟩, fun x hx => ?_⟩
    · by_cases h0 : len = 0
      · subst h0; exact .inl (by simp)
      · obtain ⟨b, o, rfl, hcl⟩ := ints_at hcell (by omega)
        refine .inr ⟨b, o, rfl, fun i hi => ?_⟩
        rw [List.length_take, Nat.min_eq_left hlen] at hi
        rw [hcl i (by omega)]
        simp [nth, hi]
    · have := hwz x (List.mem_of_mem_take hx)
      simp [Lit.wf] at this
      have e1 : IntKind.i64.min = -9223372036854775808 := by decide
      omega
end
end Go.Proofs.Ytoelchljmaoklaa
