/- Slices of numbers: made with noughts, copied; an argument that is one. Conditions: as each theorem says. -/
import Derived.Test.YtfghanmcmjgonaaDoorIn
import Derived.Test.YtfghanmcmjgonaaDoorRk
namespace Go.Proofs.YtfghanmcmjgonaaDoor
open Go.ChangeShapes Go.WideShapes Go.ChangeAt Go.RowKit
set_option linter.unusedVariables false
set_option linter.unusedSimpArgs false

theorem made_ints (n : Nat) : (madeCells (Value.int .i64 0).cells (n * 1)).toList = (List.replicate n (0 : Int)).map (Value.int .i64) := by
  rw [Nat.mul_one, List.map_replicate]
  exact toList_madeCells_one _ _
/-- n noughts are made -/
theorem wpList_make_ints {P : Program} (w : World) {ops : Array Oper} {rest : List Oper} {o : Oper} {a : Act} {Q : Exit → Act → World → Prop} (hg : o.guard = none) (l c : Operand) (t : TypeId) (hop : o.op = Op.makeSlice t l c)
    (e : TypeId) (h1 : P.underlying t = some (.slice e)) (hi : (P.info? e).map (fun i => (i.zero, i.size, i.bytes)) = some (some (.int .i64 0), 1, 8)) (n : Nat) (hl : a.eval l = .int .i64 n) (hc : a.eval c = .int .i64 n) (hn : n ≤ 1000000000)
    (hK : ∀ w', own e w' w.heap.size (.slice (some ⟨w.heap.size, 0, none⟩) n n) (List.replicate n 0) → Below w.heap.size w w' → wpList P ops Q rest (a.put o.dst (.slice (some ⟨w.heap.size, 0, none⟩) n n)) w') : wpList P ops Q (o :: rest) a w := by
  obtain ⟨i, g1, g2, g3, g4⟩ := info_parts hi
  refine wpList_make_full w hg l c t hop w.heap.size e i (.int .i64 0) 1 h1 g1 g2 g3 .i64 .i64 n n n hl hc rfl rfl (by rw [g4]; omega) (by unfold maxLen; omega) (Nat.le_refl _) fun w' r1 r2 => ?_
  rw [made_ints] at r1
  refine hK w' ?_ (below_of_grown r2 (Nat.le_refl _) fun k hk => by cases hk)
  unfold own
  rw [List.length_replicate]
  exact r1
theorem own.cell {e : TypeId} {w : World} {B g n c : Nat} {xs : List Int} (h : own e w B (.slice (some ⟨g, 0, none⟩) n c) xs) {i : Nat} (hi : i < xs.length) : w.cell? ⟨g, i, none⟩ = some (.int .i64 (nth xs i)) := by
  obtain ⟨a, cap, hv, hr⟩ := h.reads
  rcases hr with hr | ⟨b, o, ha, hr⟩
  · rw [hr] at hi; cases hi
  · subst ha
    have e1 := hr i hi
    have e2 : (⟨g, 0, none⟩ : Addr) = ⟨b, o, none⟩ := by
      simp only [Value.slice.injEq, Option.some.injEq] at hv
      exact hv.1
    simp only [Addr.mk.injEq] at e2
    rw [← e2.1, ← e2.2.1, Nat.zero_add] at e1
    exact e1
/-- xs, its first i numbers; 0 behind them -/
def copied (xs : List Int) (i : Nat) : List Int := (List.range xs.length).map fun j => if j < i then nth xs j else 0
theorem copied_length (xs i) : (copied xs i).length = xs.length := by simp [copied]
theorem nth_copied {xs i j} (h : j < xs.length) : nth (copied xs i) j = if j < i then nth xs j else 0 := by
  show (copied xs i).getD j 0 = _
  simp [copied, h]
theorem copied_zero (xs) : copied xs 0 = List.replicate xs.length 0 := by
  refine ext_nth (by simp [copied]) fun i hi => ?_
  rw [copied_length] at hi
  rw [nth_copied hi]
  simp [nth, hi]
theorem copied_all (xs) : copied xs xs.length = xs := by
  refine ext_nth (copied_length _ _) fun i hi => ?_
  rw [copied_length] at hi
  rw [nth_copied hi, if_pos hi]
theorem copied_set {xs : List Int} {i : Nat} (h : i < xs.length) : (copied xs i).set i (nth xs i) = copied xs (i + 1) := by
  refine ext_nth (by simp [copied_length]) fun j hj => ?_
  rw [List.length_set, copied_length] at hj
  rw [nth_copied hj]
  unfold nth
  by_cases e : i = j
  · subst e
    simp [copied_length, hj]
  · rw [List.getD_eq_getElem?_getD, List.getElem?_set_ne e, ← List.getD_eq_getElem?_getD]
    have := nth_copied (i := i) hj
    unfold nth at this
    rw [this]
    by_cases h1 : j < i
    · have : j < i + 1 := by omega
      simp [h1, this]
    · have : ¬ j < i + 1 := by omega
      simp [h1, this]
theorem grown_trans' {w w' w'' : World} {row : Option Nat} (h : Below w.heap.size w w') (g : w'.grownBy w'' row) : w.grownBy w'' row :=
  ⟨g.os.trans h.os, g.tape.trans h.tape, g.output.trans h.output, Nat.le_trans h.size g.size, fun k hk hr => (g.block k (Nat.lt_of_lt_of_le hk h.size) hr).trans (h.block k hk)⟩
/-- what lies below the block may turn -/
theorem own_swap {e : TypeId} {X Y : World} {B : Nat} {j : List Obj} {d d' : Nat} {v : Value} {xs : List Int} (hs : X.heap.size = Y.heap.size) (hB : X.heap.size ≤ B) (h : own e (plus X j d) B v xs) : own e (plus Y j d') B v xs := by
  obtain ⟨h1, h2⟩ := h
  refine ⟨h1, ?_⟩
  rcases h2 with h2 | ⟨g, cap, cur, hv, hg, hh, r⟩
  · exact .inl h2
  · refine .inr ⟨g, cap, cur, hv, hg, ?_, r⟩
    rw [← hh]
    show (Y.heap ++ j.toArray)[g]? = (X.heap ++ j.toArray)[g]?
    rw [Array.getElem?_append_right (by omega), Array.getElem?_append_right (by omega), hs]
/-- every number fits -/
def Fits (xs : List Int) : Prop := ∀ x ∈ xs, -9223372036854775808 ≤ x ∧ x < 9223372036854775808
theorem fits_nth {xs : List Int} (h : Fits xs) {i : Nat} (hi : i < xs.length) : -9223372036854775808 ≤ nth xs i ∧ nth xs i < 9223372036854775808 := by
  have : nth xs i = xs[i] := by simp [nth, hi]
  rw [this]
  exact h _ (List.getElem_mem hi)
section
variable {H : Type} {enc : TypeId × Value → H} {P : Program} {w : World} {base : Nat} {spare : Nat → Bool} {held : Bool}
theorem open_list' {t e : TypeId} {fuel : Nat} {cs : List Value} {x : DataW H × List MemPlace} (ht : P.underlying t = some (.slice e)) (he : P.underlying e = some (.int .i64)) (hc : P.cellsOf e = 1)
    (hf : DataW.trod enc P w base spare held fuel t cs = some x) : ∃ v xs, cs = [v] ∧ reads w v xs ∧ Fits xs ∧ xs.length ≤ 9223372036854775807 := by
  rcases open_ints ht he hc hf with ⟨hcs, hx⟩ | ⟨a, len, cap, zs, hcs, _, hl, hm, hz, hx, hcell, hwz⟩
  · exact ⟨_, [], hcs, ⟨none, 0, rfl, .inl rfl⟩, (fun x hx => by cases hx), by simp⟩
  · have hlen : len ≤ zs.length := by rw [hz]; split <;> omega
    unfold maxLen at hm
    refine ⟨_, zs.take len, hcs, ⟨some a, cap, by rw [List.length_take, Nat.min_eq_left hlen], ?_⟩, fun x hx => ?_, by rw [List.length_take]; omega⟩
    · by_cases h0 : len = 0
      · subst h0; exact .inl (by simp)
      · obtain ⟨b, o, rfl, hcl⟩ := ints_at hcell (by omega)
        refine .inr ⟨b, o, rfl, fun i hi => ?_⟩
        rw [List.length_take, Nat.min_eq_left hlen] at hi
        rw [hcl i (by omega)]
        simp [nth, hi]
    · have := hwz x (List.mem_of_mem_take hx)
      simp [Lit.wf] at this
      have e1 : IntKind.i64.min = -9223372036854775808 := by decide
      omega
/-- an argument that is a slice of numbers -/
theorem open_list {r : Reach} {b0 : Nat} {t e : TypeId} {v : Value} {d : DataW H} {p : List MemPlace} (ht : P.underlying t = some (.slice e)) (he : P.underlying e = some (.int .i64)) (hc : P.cellsOf e = 1)
    (hv : Value.okWide P w r b0 t v) (h : DataW.Trod enc P w base spare held t v d p) : ∃ xs, reads w v xs ∧ Fits xs := by
  obtain ⟨a0, len, cap, rfl⟩ := okWide_slice ht hv
  obtain ⟨fuel, hf⟩ := h
  obtain ⟨v, xs, hcs, h1, h2, _⟩ := open_list' ht he hc hf
  have e1 : Value.slice a0 len cap = v := by simpa [Value.cells] using hcs
  subst e1
  exact ⟨xs, h1, h2⟩
/-- an argument that is a number beside a slice of numbers -/
theorem open_rec {r : Reach} {b0 : Nat} {t e : TypeId} {f0 f1 : Field} {v : Value} {d : DataW H} {p : List MemPlace} (ht : P.underlying t = some (.struct #[f0, f1])) (o0 : f0.offset = 0) (o1 : f1.offset = 1) (h0 : P.underlying f0.type = some (.int .i64)) (c0 : P.cellsOf f0.type = 1)
    (h1 : P.underlying f1.type = some (.slice e)) (c1 : P.cellsOf f1.type = 1) (he : P.underlying e = some (.int .i64)) (hc : P.cellsOf e = 1) (hC : P.cellsOf t = 2)
    (hv : Value.okWide P w r b0 t v) (h : DataW.Trod enc P w base spare held t v d p) : ∃ n v' xs, v = .agg #[.int .i64 n, v'] ∧ reads w v' xs ∧ Fits xs ∧ xs.length ≤ 9223372036854775807 := by
  obtain ⟨cs, rfl, hsz⟩ := okWide_struct ht hv
  obtain ⟨fuel, hf⟩ := h
  obtain ⟨y0, y1, m, _, hl, e0, e1⟩ := trod_struct2 ht hf
  rw [o0, c0] at e0
  rw [o1, c1] at e1
  obtain ⟨n, hn, _, _⟩ := DataW.trod_int h0 e0
  obtain ⟨v', xs, hcs, r1, r2, r3⟩ := open_list' h1 he hc e1
  refine ⟨n, v', xs, ?_, r1, r2, r3⟩
  have hcl : (Value.agg cs).cells.toList = cs.toList := rfl
  rw [hcl] at hn hcs
  rw [hC] at hsz
  have hlen : cs.toList.length = 2 := by simpa using hsz
  congr 1
  match hl2 : cs.toList, hlen with
  | [u0, u1], _ =>
    rw [hl2] at hn hcs
    simp at hn hcs
    apply Array.ext'
    rw [hl2, hn, hcs]
end
end Go.Proofs.YtfghanmcmjgonaaDoor
