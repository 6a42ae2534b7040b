/- Rows and tables of polynomials: a slice of pairs (a number, a slice), and a slice of such slices, all in memory of the call's own; what the inner slices hold is told by a predicate C. Conditions: as each theorem says. -/
import Derived.Test.YtnbpkbkgbpfomaaTb
import Derived.Test.YtnbpkbkgbpfomaaI8
import Derived.OwnWalk
namespace Go.Proofs.Ytnbpkbkgbpfomaa
open Go.RowKit
set_option linter.unusedVariables false
set_option linter.unusedSimpArgs false
abbrev Pol := Int × List Int
abbrev Cont := World → Value → List Int → Prop
def lcells (qs : List (Int × Value)) : List Value := qs.flatMap fun q => [.int .i64 q.1, q.2]
def qAt (qs : List (Int × Value)) (i : Nat) : Int × Value := qs.getD i (0, .slice none 0 0)
def pAt (ps : List Pol) (i : Nat) : Pol := ps.getD i (0, [])
def prow (M : List (List Pol)) (i : Nat) : List Pol := M.getD i []
def qCell (q : Int × Value) (j : Nat) : Value := if j = 0 then .int .i64 q.1 else q.2
theorem lcells_length (qs : List (Int × Value)) : (lcells qs).length = 2 * qs.length := by
  induction qs with
  | nil => rfl
  | cons q qs ih => simp [lcells] at ih ⊢; omega
theorem lcells_append (xs ys : List (Int × Value)) : lcells (xs ++ ys) = lcells xs ++ lcells ys := by simp [lcells]
theorem lcells_at {qs : List (Int × Value)} {i j : Nat} (hi : i < qs.length) (hj : j < 2) : (lcells qs)[2 * i + j]? = some (qCell (qAt qs i) j) := by
  induction qs generalizing i with
  | nil => cases hi
  | cons q qs ih =>
    have hc : lcells (q :: qs) = [.int .i64 q.1, q.2] ++ lcells qs := rfl
    rw [hc]
    cases i with
    | zero =>
      match j, hj with
      | 0, _ => rfl
      | 1, _ => rfl
    | succ i =>
      rw [List.getElem?_append_right (by simp; omega)]
      have e : 2 * (i + 1) + j - [Value.int .i64 q.1, q.2].length = 2 * i + j := by simp; omega
      rw [e, ih (by simpa using hi)]
      rfl
theorem qAt_set_same {qs : List (Int × Value)} {i : Nat} {q : Int × Value} (h : i < qs.length) : qAt (qs.set i q) i = q := by simp [qAt, h]
theorem qAt_set_other {qs : List (Int × Value)} {i j : Nat} {q : Int × Value} (h : i ≠ j) : qAt (qs.set i q) j = qAt qs j := by simp [qAt, h]
theorem pAt_set_same {qs : List Pol} {i : Nat} {q : Pol} (h : i < qs.length) : pAt (qs.set i q) i = q := by simp [pAt, h]
theorem pAt_set_other {qs : List Pol} {i j : Nat} {q : Pol} (h : i ≠ j) : pAt (qs.set i q) j = pAt qs j := by simp [pAt, h]
theorem qAt_app {qs rs : List (Int × Value)} {i : Nat} (h : i < qs.length) : qAt (qs ++ rs) i = qAt qs i := by simp [qAt, List.getElem?_append_left h]
theorem pAt_app {qs rs : List Pol} {i : Nat} (h : i < qs.length) : pAt (qs ++ rs) i = pAt qs i := by simp [pAt, List.getElem?_append_left h]
theorem qAt_last {qs : List (Int × Value)} {q : Int × Value} : qAt (qs ++ [q]) qs.length = q := by simp [qAt]
theorem pAt_last {qs : List Pol} {q : Pol} : pAt (qs ++ [q]) qs.length = q := by simp [pAt]
/-! ## A row -/
def rowG (T : TypeId) (C : Cont) (w : World) (B : Nat) (v : Value) (ps : List Pol) : Prop :=
  ∃ qs : List (Int × Value), qs.length = ps.length ∧ w.ownsRow B T 2 v ps.length (lcells qs) ∧ ∀ i, i < ps.length → (qAt qs i).1 = (pAt ps i).1 ∧ C w (qAt qs i).2 (pAt ps i).2
theorem rowG.lt {T C w B v ps} (h : rowG T C w B v ps) : ∀ k, v.ownBlock = some k → B ≤ k ∧ k < w.heap.size := by
  obtain ⟨qs, h1, h2, h3⟩ := h
  exact h2.lt
theorem rowG.block {T C w B v ps} (h : rowG T C w B v ps) {k : Nat} (hk : v.ownBlock = some k) : ∃ cur, w.heap[k]? = some (.cells cur T (0, 0)) := by
  obtain ⟨qs, h1, h2, h3⟩ := h
  exact row_block h2 hk
theorem rowG.kept {T : TypeId} {C : Cont} {w w' : World} {B : Nat} {v : Value} {ps : List Pol} {row : Option Nat} (h : rowG T C w B v ps) (hg : w.grownBy w' row) (hne : ∀ k, v.ownBlock = some k → row ≠ some k) (hC : ∀ x xs, C w x xs → C w' x xs) : rowG T C w' B v ps := by
  obtain ⟨qs, h1, h2, h3⟩ := h
  refine ⟨qs, h1, h2.kept hg ?_, fun i hi => ⟨(h3 i hi).1, hC _ _ (h3 i hi).2⟩⟩
  cases hv : v.ownBlock with
  | none => exact .inl rfl
  | some k => exact .inr fun he => hne k hv he.symm
theorem rowG.below {T : TypeId} {C : Cont} {w w' : World} {B : Nat} {v : Value} {ps : List Pol} (h : rowG T C w B v ps) (hb : Below w.heap.size w w') (hC : ∀ x xs, C w x xs → C w' x xs) : rowG T C w' B v ps :=
  h.kept (row := none) ⟨hb.os, hb.tape, hb.output, hb.size, fun k hk _ => hb.block k hk⟩ (fun k _ e => by cases e) hC
theorem rowG.mono {T : TypeId} {C C' : Cont} {w : World} {B B' : Nat} {v : Value} {ps : List Pol} (h : rowG T C w B v ps) (hB : B' ≤ B) (hC : ∀ x xs, C w x xs → C' w x xs) : rowG T C' w B' v ps := by
  obtain ⟨qs, h1, h2, h3⟩ := h
  refine ⟨qs, h1, ⟨h2.1, ?_⟩, fun i hi => ⟨(h3 i hi).1, hC _ _ (h3 i hi).2⟩⟩
  rcases h2.2 with h5 | ⟨g, cap, cur, hv, hg, r⟩
  · exact .inl h5
  · exact .inr ⟨g, cap, cur, hv, Nat.le_trans hB hg, r⟩
theorem rowG.len {T C w B v ps} (h : rowG T C w B v ps) : ∃ a c, v = .slice a ps.length c := by
  obtain ⟨qs, h1, h2, h3⟩ := h
  rcases h2.2 with ⟨rfl, hn⟩ | ⟨g, cap, cur, rfl, _⟩
  · exact ⟨none, 0, by rw [hn]⟩
  · exact ⟨_, cap, rfl⟩
theorem rowG_nil (T : TypeId) (C : Cont) (w : World) (B : Nat) : rowG T C w B (.slice none 0 0) [] := ⟨[], rfl, World.ownsRow_nil w B T 2, fun i hi => by cases hi⟩
theorem rowG_made {T : TypeId} {C : Cont} {w : World} {B b m : Nat} {c : Array Value} (hb : b = w.heap.size) (hB : B ≤ w.heap.size) (hm : m ≤ maxLen) (hc : c.size = m * 2) : rowG T C (w.alloc (.cells c T)) B (.slice (some ⟨b, 0, none⟩) 0 m) [] :=
  ⟨[], rfl, hb ▸ World.ownsRow_made (e := T) (size := 2) w c m hB hm hc, fun i hi => (by cases hi)⟩
/-- an entry of a row: where it lies -/
theorem rowG.at {T C w B v ps} (h : rowG T C w B v ps) {i : Nat} (hi : i < ps.length) :
    ∃ g c sv, v = .slice (some ⟨g, 0, none⟩) ps.length c ∧ B ≤ g ∧ g < w.heap.size ∧ w.cell? ⟨g, i * 2, none⟩ = some (.int .i64 (pAt ps i).1) ∧ w.cell? ⟨g, i * 2 + 1, none⟩ = some sv ∧ C w sv (pAt ps i).2 := by
  obtain ⟨qs, h1, h2, h3⟩ := h
  have hl := h2.lt
  have hlc := fun g hg => World.ownsRow.cells h2 (g := g) hg
  rcases h2.2 with ⟨rfl, hn⟩ | ⟨g, cap, cur, rfl, hg, hh, _⟩
  · omega
  · refine ⟨g, cap, (qAt qs i).2, rfl, (hl g rfl).1, (hl g rfl).2, ?_, ?_, (h3 i hi).2⟩
    · have := hlc g rfl (2 * i + 0) _ (lcells_at (by omega) (by decide))
      have e : (⟨g, 0, none⟩ : Addr).add (2 * i + 0) = ⟨g, i * 2, none⟩ := by unfold Addr.add; split <;> simp_all <;> omega
      rw [e] at this
      rw [this, ← (h3 i hi).1]; rfl
    · have := hlc g rfl (2 * i + 1) _ (lcells_at (by omega) (by decide))
      have e : (⟨g, 0, none⟩ : Addr).add (2 * i + 1) = ⟨g, i * 2 + 1, none⟩ := by unfold Addr.add; split <;> simp_all <;> omega
      rw [e] at this
      exact this
/-- an entry of a row is written -/
theorem rowG.put {T : TypeId} {C : Cont} {w : World} {B g n c : Nat} {ps : List Pol} (h : rowG T C w B (.slice (some ⟨g, 0, none⟩) n c) ps) {t : Nat} (ht : t < ps.length) (l : Int) (sv : Value) (xs : List Int) :
    ∃ cur, w.heap[g]? = some (.cells cur T (0, 0)) ∧ t * 2 + (#[.int .i64 l, sv] : Array Value).size ≤ cur.size ∧ w.grownBy (w.setRow g (putA cur (t * 2) #[.int .i64 l, sv])) (some g) ∧
      ((∀ x ys, C w x ys → C (w.setRow g (putA cur (t * 2) #[.int .i64 l, sv])) x ys) → C (w.setRow g (putA cur (t * 2) #[.int .i64 l, sv])) sv xs → rowG T C (w.setRow g (putA cur (t * 2) #[.int .i64 l, sv])) B (.slice (some ⟨g, 0, none⟩) n c) (ps.set t (l, xs))) := by
  obtain ⟨qs, h1, ⟨h2, h4⟩, h3⟩ := h
  rcases h4 with ⟨h4, _⟩ | ⟨g', cap', cur, hv, hg, hh, hn, hm, hs, hk⟩
  · cases h4
  · simp only [Value.slice.injEq, Option.some.injEq, Addr.mk.injEq] at hv
    obtain ⟨⟨rfl, _⟩, rfl, rfl⟩ := hv
    have hz : (#[.int .i64 l, sv] : Array Value).size = 2 := rfl
    have hle : t * 2 + (#[.int .i64 l, sv] : Array Value).size ≤ cur.size := by rw [hz, hs]; omega
    refine ⟨cur, hh, hle, ⟨rfl, rfl, rfl, by simp, fun k _ hk => setRow_other _ _ k _ (fun e => hk (by rw [e]))⟩, fun hC hx => ⟨qs.set t (l, sv), by rw [List.length_set, List.length_set, h1], ⟨by rw [lcells_length, List.length_set, List.length_set]; omega, .inr ⟨g, c, _, by rw [List.length_set], hg, setRow_heap _ _ _ _ _ _ hh, by rw [List.length_set]; exact hn, hm, by rw [putA_size hle]; exact hs, ?_⟩⟩, fun i hi => ?_⟩⟩
    · rw [List.length_set]
      apply List.ext_getElem?
      intro j
      by_cases hj : j < ps.length * 2
      · have e : j = 2 * (j / 2) + j % 2 := by omega
        have g1 : j / 2 < (qs.set t (l, sv)).length := by rw [List.length_set]; omega
        have g2 := lcells_at g1 (show j % 2 < 2 by omega)
        rw [← e] at g2
        rw [g2, List.getElem?_take_of_lt hj, Array.getElem?_toList, putA_get hle, hz]
        by_cases ej : j / 2 = t
        · rw [if_pos (by omega), ej, qAt_set_same (by omega)]
          rcases (show j % 2 = 0 ∨ j % 2 = 1 by omega) with e0 | e0
          · rw [e0, show j - t * 2 = 0 by omega]; rfl
          · rw [e0, show j - t * 2 = 1 by omega]; rfl
        · rw [if_neg (by omega), qAt_set_other (fun e => ej e.symm)]
          have g3 := lcells_at (qs := qs) (i := j / 2) (j := j % 2) (by omega) (by omega)
          rw [← e, ← hk, List.getElem?_take_of_lt hj, Array.getElem?_toList] at g3
          exact g3
      · rw [List.getElem?_eq_none (by rw [List.length_take]; omega), List.getElem?_eq_none (by rw [lcells_length, List.length_set]; omega)]
    · rw [List.length_set] at hi
      by_cases e : t = i
      · subst e
        rw [qAt_set_same (by omega), pAt_set_same hi]
        exact ⟨rfl, hx⟩
      · rw [qAt_set_other e, pAt_set_other e]
        exact ⟨(h3 i hi).1, hC _ _ (h3 i hi).2⟩
theorem made_pols (n : Nat) : (madeCells (Value.agg #[.int .i64 0, .slice none 0 0]).cells (n * 2)).toList = lcells (List.replicate n (0, .slice none 0 0)) := by
  have hc : (Value.agg #[.int .i64 0, .slice none 0 0]).cells = #[.int .i64 0, .slice none 0 0] := rfl
  rw [hc]
  apply List.ext_getElem?
  intro j
  by_cases hj : j < n * 2
  · have e : j = 2 * (j / 2) + j % 2 := by omega
    have h1 : j / 2 < (List.replicate n ((0 : Int), Value.slice none 0 0)).length := by rw [List.length_replicate]; omega
    have h2 := lcells_at h1 (show j % 2 < 2 by omega)
    rw [← e] at h2
    have h3 : qAt (List.replicate n ((0 : Int), Value.slice none 0 0)) (j / 2) = (0, .slice none 0 0) := by
      rw [List.length_replicate] at h1
      simp [qAt, h1]
    rw [h2, h3]
    have h4 : (Array.range (n * 2)).toList[j]? = some j := by simp [hj]
    simp only [madeCells, Array.toList_map, List.getElem?_map, h4, Option.map_some]
    have h5 : (#[Value.int .i64 0, .slice none 0 0] : Array Value).size = 2 := rfl
    rw [h5]
    rcases (show j % 2 = 0 ∨ j % 2 = 1 by omega) with e0 | e0 <;> rw [e0] <;> rfl
  · rw [List.getElem?_eq_none (by simp [madeCells]; omega), List.getElem?_eq_none (by rw [lcells_length, List.length_replicate]; omega)]
/-- n empty polynomials are made -/
theorem wpList_make_pols {P : Program} (w : World) {ops : Array Oper} {rest : List Oper} {o : Oper} {a : Act} {Q : Exit → Act → World → Prop} (hg : o.guard = none) (l c : Operand) (t : TypeId) (hop : o.op = Op.makeSlice t l c)
    (T : TypeId) (h1 : P.underlying t = some (.slice T)) (hi : (P.info? T).map (fun i => (i.zero, i.size, i.bytes)) = some (some (.agg #[.int .i64 0, .slice none 0 0]), 2, 32)) (n : Nat) (hl : a.eval l = .int .i64 n) (hc : a.eval c = .int .i64 n) (hn : n ≤ 1000000000) (C : Cont) (hC : ∀ w, C w (.slice none 0 0) [])
    (hK : ∀ w', rowG T C w' w.heap.size (.slice (some ⟨w.heap.size, 0, none⟩) n n) (List.replicate n (0, [])) → Below w.heap.size w w' → w.grownBy w' none → wpList P ops Q rest (a.put o.dst (.slice (some ⟨w.heap.size, 0, none⟩) n n)) w') : wpList P ops Q (o :: rest) a w := by
  obtain ⟨i, g1, g2, g3, g4⟩ := info_parts hi
  refine wpList_make_full w hg l c t hop w.heap.size T i _ 2 h1 g1 g2 g3 .i64 .i64 n n n hl hc rfl rfl (by rw [g4]; omega) (by unfold maxLen; omega) (Nat.le_refl _) fun w' r1 r2 => ?_
  rw [made_pols] at r1
  refine hK w' ⟨List.replicate n (0, .slice none 0 0), by rw [List.length_replicate, List.length_replicate], by rw [List.length_replicate]; exact r1, fun i hi => ?_⟩ (below_of_grown r2 (Nat.le_refl _) fun k hk => by cases hk) r2
  rw [List.length_replicate] at hi
  have e1 : qAt (List.replicate n ((0 : Int), Value.slice none 0 0)) i = (0, .slice none 0 0) := by simp [qAt, hi]
  have e2 : pAt (List.replicate n ((0 : Int), ([] : List Int))) i = (0, []) := by simp [pAt, hi]
  rw [e1, e2]
  exact ⟨rfl, hC _⟩
/-- one polynomial is appended to a row of the call's own -/
theorem wpList_appendPol {P : Program} {ops : Array Oper} {rest : List Oper} {o : Oper} {a : Act} {w : World} {Q : Exit → Act → World → Prop} (hgd : o.guard = none) (s x : Operand) (t : TypeId)
    (ho : o.op = .call { callee := .builtin .append, args := #[s, x], argTypes := #[t, t] }) (T : TypeId) (ht : P.underlying t = some (.slice T)) (hi : (P.info? T).map (fun i => (i.zero, i.size, i.bytes)) = some (some (.agg #[.int .i64 0, .slice none 0 0]), 2, 32))
    (C : Cont) (B : Nat) (v : Value) (ps : List Pol) (hs : a.eval s = v) (b c : Nat) (hx : a.eval x = .slice (some ⟨b, 0, none⟩) 1 c) (l : Int) (sv : Value) (xs : List Int) (hone : sv.oneCell' = true) (hu0 : w.cell? ⟨b, 0, none⟩ = some (.int .i64 l)) (hu1 : w.cell? ⟨b, 1, none⟩ = some sv)
    (hown : rowG T C w B v ps) (hsv : C w sv xs) (hC : ∀ w' x ys, w.grownBy w' v.ownBlock → C w x ys → C w' x ys) (hlen : ps.length < 1000000000) (hB : B ≤ w.heap.size)
    (h : ∀ v' w', rowG T C w' B v' (ps ++ [(l, xs)]) → Below B w w' → w.grownBy w' v.ownBlock → wpList P ops Q rest (a.put o.dst v') w') : wpList P ops Q (o :: rest) a w := by
  obtain ⟨i, h1, h2, h3, h4⟩ := info_parts hi
  obtain ⟨qs, q1, q2, q3⟩ := hown
  refine wpList_append_own w hgd s x t ho B T i (.agg #[.int .i64 0, .slice none 0 0]) 2 32 ht h1 h2 h3 h4 rfl (by decide) v _ _ hs q2 ⟨b, 0, none⟩ 1 c (lcells [(l, sv)]) hx (by simp [lcells]) ?_ ?_ (by unfold maxLen; omega) (by omega) hB ?_
  · intro j y hj
    match j, hj with
    | 0, hj => simp [lcells] at hj; subst hj; simpa [Addr.add] using hu0
    | 1, hj => simp [lcells] at hj; subst hj; simpa [Addr.add] using hu1
    | j + 2, hj => simp [lcells] at hj
  · intro y hy
    simp [lcells] at hy
    rcases hy with rfl | rfl
    · rfl
    · exact hone
  · intro v' w' h5 h6 _
    refine h v' w' ⟨qs ++ [(l, sv)], by simp [q1], by rw [lcells_append]; simpa using h5, fun i hi => ?_⟩ (below_of_grown h6 hB fun k hk => (q2.lt k hk).1) h6
    rw [List.length_append, List.length_singleton] at hi
    by_cases e : i = ps.length
    · subst e
      rw [pAt_last, ← q1, qAt_last]
      exact ⟨rfl, hC w' _ _ h6 hsv⟩
    · rw [qAt_app (by omega), pAt_app (by omega)]
      exact ⟨(q3 i (by omega)).1, hC w' _ _ h6 (q3 i (by omega)).2⟩
/-! ## A table -/
def tabG (S T : TypeId) (C : Cont) (w : World) (B : Nat) (v : Value) (M : List (List Pol)) : Prop :=
  ∃ vs : List Value, vs.length = M.length ∧ w.ownsRow B S 1 v M.length vs ∧ (∀ i, i < M.length → rowG T C w B (slot vs i) (prow M i)) ∧ (∀ i j, i < M.length → j < M.length → i ≠ j → ∀ k, (slot vs i).ownBlock = some k → (slot vs j).ownBlock ≠ some k)
theorem tabG_nil (S T : TypeId) (C : Cont) (w : World) (B : Nat) : tabG S T C w B (.slice none 0 0) [] := ⟨[], rfl, World.ownsRow_nil w B S 1, fun i hi => (by cases hi), fun i j hi => (by cases hi)⟩
theorem tabG_made {S T : TypeId} {C : Cont} {w : World} {B b m : Nat} {c : Array Value} (hb : b = w.heap.size) (hB : B ≤ w.heap.size) (hm : m ≤ maxLen) (hc : c.size = m) : tabG S T C (w.alloc (.cells c S)) B (.slice (some ⟨b, 0, none⟩) 0 m) [] :=
  ⟨[], rfl, hb ▸ World.ownsRow_made (e := S) (size := 1) w c m hB hm (by omega), fun i hi => (by cases hi), fun i j hi => (by cases hi)⟩
theorem tabG.lt {S T C w B v M} (h : tabG S T C w B v M) : ∀ k, v.ownBlock = some k → B ≤ k ∧ k < w.heap.size := by
  obtain ⟨vs, h1, h2, h3, h4⟩ := h
  exact h2.lt
theorem tabG.block {S T C w B v M} (h : tabG S T C w B v M) {k : Nat} (hk : v.ownBlock = some k) : ∃ cur, w.heap[k]? = some (.cells cur S (0, 0)) := by
  obtain ⟨vs, h1, h2, h3, h4⟩ := h
  exact row_block h2 hk
theorem tabG.len {S T C w B v M} (h : tabG S T C w B v M) : ∃ a c, v = .slice a M.length c := by
  obtain ⟨vs, h1, h2, h3, h4⟩ := h
  rcases h2.2 with ⟨rfl, hn⟩ | ⟨g, cap, cur, rfl, _⟩
  · exact ⟨none, 0, by rw [hn]⟩
  · exact ⟨_, cap, rfl⟩
theorem tabG.mono {S T : TypeId} {C C' : Cont} {w : World} {B B' : Nat} {v : Value} {M : List (List Pol)} (h : tabG S T C w B v M) (hB : B' ≤ B) (hC : ∀ x xs, C w x xs → C' w x xs) : tabG S T C' w B' v M := by
  obtain ⟨vs, h1, h2, h3, h4⟩ := h
  refine ⟨vs, h1, ⟨h2.1, ?_⟩, fun i hi => (h3 i hi).mono hB hC, h4⟩
  rcases h2.2 with h5 | ⟨g, cap, cur, hv, hg, r⟩
  · exact .inl h5
  · exact .inr ⟨g, cap, cur, hv, Nat.le_trans hB hg, r⟩
/-- a block outside the table is written -/
theorem tabG.apart {S T : TypeId} {C : Cont} {w w' : World} {B : Nat} {v : Value} {M : List (List Pol)} {row : Option Nat} (h : tabG S T C w B v M) (hg : w.grownBy w' row) (hr : ∀ k, row = some k → k < B ∨ w.heap.size ≤ k) (hC : ∀ x xs, C w x xs → C w' x xs) : tabG S T C w' B v M := by
  obtain ⟨vs, h1, h2, h3, h4⟩ := h
  refine ⟨vs, h1, h2.kept hg ?_, fun i hi => (h3 i hi).kept hg (fun k hk e => ?_) hC, h4⟩
  · cases hv : v.ownBlock with
    | none => exact .inl rfl
    | some k => exact .inr fun e => by have := h2.lt k hv; have := hr k e.symm; omega
  · have := (h3 i hi).lt k hk; have := hr k e; omega
theorem tabG.below {S T : TypeId} {C : Cont} {w w' : World} {B : Nat} {v : Value} {M : List (List Pol)} (h : tabG S T C w B v M) (hb : Below w.heap.size w w') (hC : ∀ x xs, C w x xs → C w' x xs) : tabG S T C w' B v M :=
  h.apart (row := none) ⟨hb.os, hb.tape, hb.output, hb.size, fun k hk _ => hb.block k hk⟩ (fun k hk => by cases hk) hC
theorem prow_set_same {M : List (List Pol)} {i : Nat} {r : List Pol} (hi : i < M.length) : prow (M.set i r) i = r := by simp [prow, hi]
theorem prow_set_other {M : List (List Pol)} {i j : Nat} {r : List Pol} (hij : i ≠ j) : prow (M.set i r) j = prow M j := by simp [prow, hij]
/-- a row of a table: where it lies, and what follows when it is written -/
theorem tabG.wrote {S T : TypeId} {C : Cont} {w : World} {B : Nat} {v : Value} {M : List (List Pol)} (hST : S ≠ T) (h : tabG S T C w B v M) {i : Nat} (hi : i < M.length) :
    ∃ g c rv, v = .slice (some ⟨g, 0, none⟩) M.length c ∧ B ≤ g ∧ g < w.heap.size ∧ w.cell? ⟨g, i, none⟩ = some rv ∧ rowG T C w B rv (prow M i) ∧ ∀ w' r, w.grownBy w' rv.ownBlock → (∀ x xs, C w x xs → C w' x xs) → rowG T C w' B rv r → tabG S T C w' B v (M.set i r) := by
  obtain ⟨vs, h1, h2, h3, h4⟩ := h
  have hcell : ∃ g c, v = .slice (some ⟨g, 0, none⟩) M.length c ∧ B ≤ g ∧ g < w.heap.size ∧ w.cell? ⟨g, i, none⟩ = some (slot vs i) := by
    have hl := h2.lt
    have hlc := fun g hg => World.ownsRow.cells h2 (g := g) hg
    rcases h2.2 with ⟨rfl, hn⟩ | ⟨g, cap, cur, rfl, hg, hh, _⟩
    · omega
    · refine ⟨g, cap, rfl, (hl g rfl).1, (hl g rfl).2, ?_⟩
      have := hlc g rfl i (slot vs i) (slot_get (by omega))
      have e : (⟨g, 0, none⟩ : Addr).add i = ⟨g, 0 + i, none⟩ := by unfold Addr.add; split <;> simp_all
      rw [e, Nat.zero_add] at this
      exact this
  obtain ⟨g, c, hv, hgB, hg, hc⟩ := hcell
  refine ⟨g, c, slot vs i, hv, hgB, hg, hc, h3 i hi, fun w' r hgr hC hr => ⟨vs, by rw [List.length_set]; exact h1, ?_, fun j hj => ?_, fun a b ha hb => h4 a b (by rwa [List.length_set] at ha) (by rwa [List.length_set] at hb)⟩⟩
  · rw [List.length_set]
    refine h2.kept hgr ?_
    cases hvo : v.ownBlock with
    | none => exact .inl rfl
    | some k =>
      refine .inr fun e => ?_
      obtain ⟨c1, hk⟩ := row_block h2 hvo
      obtain ⟨c2, hk2⟩ := (h3 i hi).block e.symm
      exact block_ne hST hk hk2 rfl
  · rw [List.length_set] at hj
    by_cases hij : i = j
    · subst hij
      rw [prow_set_same hi]
      exact hr
    · rw [prow_set_other hij]
      exact (h3 j hj).kept hgr (fun k hk e => h4 i j hi hj hij k e hk) hC
/-- the rows of a table lie below what comes later -/
theorem tabG.rows_lt {S T C w B v M} (h : tabG S T C w B v M) {vs : List Value} (h2 : w.ownsRow B S 1 v M.length vs) : ∀ i, i < M.length → ∀ k, (slot vs i).ownBlock = some k → B ≤ k ∧ k < w.heap.size := by
  obtain ⟨vs', h1, h2', h3, h4⟩ := h
  have e : vs = vs' := by
    rcases h2.2 with ⟨rfl, hn⟩ | ⟨g, cap, cur, rfl, hg, hh, hn, hm, hs, ht⟩
    · have l1 := h2.1; have l2 := h2'.1
      rw [hn] at l1 l2
      rw [List.eq_nil_of_length_eq_zero (by omega : vs.length = 0), List.eq_nil_of_length_eq_zero (by omega : vs'.length = 0)]
    · rcases h2'.2 with ⟨hv, _⟩ | ⟨g', cap', cur', hv, hg', hh', hn', hm', hs', ht'⟩
      · cases hv
      · cases hv
        rw [hh] at hh'
        cases hh'
        rw [← ht, ← ht']
  subst e
  exact fun i hi k hk => (h3 i hi).lt k hk
/-- append of a row that lies alone in the block that was made last -/
theorem wpList_appendTab {P : Program} {ops : Array Oper} {rest : List Oper} {o : Oper} {a : Act} {w : World} {Q : Exit → Act → World → Prop} (hgd : o.guard = none) (s x : Operand) (t : TypeId)
    (ho : o.op = .call { callee := .builtin .append, args := #[s, x], argTypes := #[t, t] }) (S T : TypeId) (ht : P.underlying t = some (.slice S)) (hi : (P.info? S).map (fun i => (i.zero, i.size, i.bytes)) = some (some (.slice none 0 0), 1, 24)) (hST : S ≠ T) (C : Cont)
    (B : Nat) (v : Value) (M : List (List Pol)) (hs : a.eval s = v) (b : Nat) (hx : a.eval x = .slice (some ⟨b, 0, none⟩) 1 1) (rv : Value) (r : List Pol) (hu : w.cell? ⟨b, 0, none⟩ = some rv)
    (hown : tabG S T C w B v M) (hr : rowG T C w B rv r) (hfar : ∀ k, rv.ownBlock = some k → ∀ vs : List Value, w.ownsRow B S 1 v M.length vs → ∀ i, i < M.length → (slot vs i).ownBlock ≠ some k) (hC : ∀ w' x ys, w.grownBy w' v.ownBlock → C w x ys → C w' x ys) (hlen : M.length < 1000000000) (hB : B ≤ w.heap.size)
    (h : ∀ v' w', tabG S T C w' B v' (M ++ [r]) → w.grownBy w' v.ownBlock → Below B w w' → wpList P ops Q rest (a.put o.dst v') w') : wpList P ops Q (o :: rest) a w := by
  obtain ⟨i, h1, h2, h3, h4⟩ := info_parts hi
  obtain ⟨vs, g1, g2, g3, g4⟩ := id hown
  have hone : rv.oneCell' = true := by
    obtain ⟨a', c', he⟩ := hr.len
    rw [he]; rfl
  refine wpList_append_own w hgd s x t ho B S i (.slice none 0 0) 1 24 ht h1 h2 h3 h4 rfl (by decide) v _ _ hs g2 ⟨b, 0, none⟩ 1 1 [rv] hx rfl ?_ ?_ (by unfold maxLen; omega) (by omega) hB ?_
  · intro j y hj
    match j, hj with
    | 0, hj => simp at hj; subst hj; simpa [Addr.add] using hu
  · intro y hy
    simp at hy
    subst hy
    exact hone
  · intro v' w' h5 h6 _
    have s1 : ∀ i, i < M.length → slot (vs ++ [rv]) i = slot vs i := fun i hi => by simp [slot, List.getElem?_append_left (show i < vs.length by omega)]
    have s2 : slot (vs ++ [rv]) M.length = rv := by rw [← g1]; simp [slot]
    have r1 : ∀ i, i < M.length → prow (M ++ [r]) i = prow M i := fun i hi => by simp [prow, List.getElem?_append_left hi]
    have r2 : prow (M ++ [r]) M.length = r := by simp [prow]
    have key : ∀ x y, rowG T C w B x y → rowG T C w' B x y := fun x y hx => hx.kept h6 (fun k hk he => by
      obtain ⟨c1, hk1⟩ := row_block g2 he
      obtain ⟨c2, hk2⟩ := hx.block hk
      exact block_ne hST hk1 hk2 rfl) (fun x ys => hC w' x ys h6)
    have hf := fun i hi k hk hk2 => hfar k hk2 vs g2 i hi hk
    refine h v' w' ⟨vs ++ [rv], by simp [g1], by simpa using h5, fun i hi => ?_, fun i j hi hj hij => ?_⟩ h6 (below_of_grown h6 hB fun k hk => (g2.lt k hk).1)
    · rw [List.length_append, List.length_singleton] at hi
      by_cases e : i = M.length
      · subst e
        rw [s2, r2]
        exact key _ _ hr
      · rw [s1 i (by omega), r1 i (by omega)]
        exact key _ _ (g3 i (by omega))
    · rw [List.length_append, List.length_singleton] at hi hj
      intro k hk
      by_cases e : i = M.length
      · subst e
        rw [s2] at hk
        rw [s1 j (by omega)]
        intro hk2
        exact hf j (by omega) k hk2 hk
      · rw [s1 i (by omega)] at hk
        by_cases e2 : j = M.length
        · subst e2
          rw [s2]
          exact hf i (by omega) k hk
        · rw [s1 j (by omega)]
          exact g4 i j (by omega) (by omega) hij k hk
/-! ## Lists of numbers in typed blocks -/
def Co (e : TypeId) : Cont := fun w v xs => own e w 0 v xs
theorem Co_nil (e : TypeId) : ∀ w, Co e w (.slice none 0 0) [] := fun w => own_nil e w 0
theorem Co_below {e : TypeId} {w w' : World} (hb : Below w.heap.size w w') : ∀ x xs, Co e w x xs → Co e w' x xs := fun x xs h => own.kept h hb
theorem Co_block {e t : TypeId} {w w' : World} {k : Nat} {c : Array Value} (ht : t ≠ e) (hk : w.heap[k]? = some (.cells c t (0, 0))) (hg : w.grownBy w' (some k)) : ∀ x xs, Co e w x xs → Co e w' x xs := fun x xs h => own.apart h hg fun q hq he => by
  cases he
  obtain ⟨c2, h2⟩ := own_block h hq
  exact block_ne ht hk h2 rfl
theorem Co_row {e T : TypeId} {C : Cont} {w w' : World} {B : Nat} {v : Value} {ps : List Pol} (ht : T ≠ e) (h : rowG T C w B v ps) (hg : w.grownBy w' v.ownBlock) : ∀ x xs, Co e w x xs → Co e w' x xs := by
  cases hv : v.ownBlock with
  | none => rw [hv] at hg; exact fun x xs h => own.apart h hg fun q hq he => by cases he
  | some k => obtain ⟨c, hk⟩ := h.block hv; rw [hv] at hg; exact Co_block ht hk hg
theorem Co_tab {e S T : TypeId} {C : Cont} {w w' : World} {B : Nat} {v : Value} {M : List (List Pol)} (ht : S ≠ e) (h : tabG S T C w B v M) (hg : w.grownBy w' v.ownBlock) : ∀ x xs, Co e w x xs → Co e w' x xs := by
  cases hv : v.ownBlock with
  | none => rw [hv] at hg; exact fun x xs h => own.apart h hg fun q hq he => by cases he
  | some k => obtain ⟨c, hk⟩ := h.block hv; rw [hv] at hg; exact Co_block ht hk hg
theorem rowG.keep {T e : TypeId} {w w' : World} {B : Nat} {v : Value} {ps : List Pol} (h : rowG T (Co e) w B v ps) (hb : Below w.heap.size w w') : rowG T (Co e) w' B v ps := h.below hb (Co_below hb)
theorem tabG.keep {S T e : TypeId} {w w' : World} {B : Nat} {v : Value} {M : List (List Pol)} (h : tabG S T (Co e) w B v M) (hb : Below w.heap.size w w') : tabG S T (Co e) w' B v M := h.below hb (Co_below hb)
end Go.Proofs.Ytnbpkbkgbpfomaa
