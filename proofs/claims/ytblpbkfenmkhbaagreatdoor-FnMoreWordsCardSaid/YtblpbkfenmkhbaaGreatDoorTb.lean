/- Tables: a slice of slices of numbers, all in memory of the call's own. Conditions: as each theorem says. -/
import Derived.Test.YtblpbkfenmkhbaaGreatDoorMa
import Derived.Maps.AppendAt
namespace Go.Proofs.YtblpbkfenmkhbaaGreatDoor
open Go.RowKit
set_option linter.unusedVariables false
set_option linter.unusedSimpArgs false
/-- a row of a list -/
def rowOf (M : List (List Int)) (i : Nat) : List Int := M.getD i []
def slot (vs : List Value) (i : Nat) : Value := vs.getD i undef
/-- a table of the call's own -/
def tab (E e : TypeId) (w : World) (B : Nat) (v : Value) (M : List (List Int)) : Prop :=
  ∃ vs : List Value, vs.length = M.length ∧ w.ownsRow B E 1 v M.length vs ∧ (∀ i, i < M.length → own e w B (slot vs i) (rowOf M i)) ∧ (∀ i j, i < M.length → j < M.length → i ≠ j → ∀ k, (slot vs i).ownBlock = some k → (slot vs j).ownBlock ≠ some k)
theorem slot_get {vs : List Value} {i : Nat} (h : i < vs.length) : vs[i]? = some (slot vs i) := by simp [slot, h]
theorem own_block {e : TypeId} {w : World} {B : Nat} {v : Value} {xs : List Int} (h : own e w B v xs) {k : Nat} (hk : v.ownBlock = some k) : ∃ cur, w.heap[k]? = some (.cells cur e (0, 0)) := by
  rcases h.2 with ⟨h1, _⟩ | ⟨g, cap, cur, hv, hg, hh, _⟩
  · rw [h1] at hk; simp [Value.ownBlock] at hk
  · rw [hv] at hk
    have : g = k := by simpa [Value.ownBlock] using hk
    subst this
    exact ⟨cur, hh⟩
theorem row_block {e : TypeId} {w : World} {B n s : Nat} {v : Value} {xs : List Value} (h : w.ownsRow B e s v n xs) {k : Nat} (hk : v.ownBlock = some k) : ∃ cur, w.heap[k]? = some (.cells cur e (0, 0)) := by
  rcases h.2 with ⟨h1, _⟩ | ⟨g, cap, cur, hv, hg, hh, _⟩
  · rw [h1] at hk; simp [Value.ownBlock] at hk
  · rw [hv] at hk
    have : g = k := by simpa [Value.ownBlock] using hk
    subst this
    exact ⟨cur, hh⟩
theorem block_ne {w : World} {E e : TypeId} (hE : E ≠ e) {k l : Nat} {c d : Array Value} (h : w.heap[k]? = some (.cells c E (0, 0))) (h' : w.heap[l]? = some (.cells d e (0, 0))) : k ≠ l := by
  rintro rfl
  rw [h] at h'
  simp only [Option.some.injEq, Obj.cells.injEq] at h'
  exact hE h'.2.1
theorem tab_nil (E e : TypeId) (w : World) (B : Nat) : tab E e w B (.slice none 0 0) [] := ⟨[], rfl, World.ownsRow_nil w B E 1, fun i hi => (by cases hi), fun i j hi => (by cases hi)⟩
theorem tab_made {E e : TypeId} {w : World} {B b m : Nat} {c : Array Value} (hb : b = w.heap.size) (hB : B ≤ w.heap.size) (hm : m ≤ maxLen) (hc : c.size = m) : tab E e (w.alloc (.cells c E)) B (.slice (some ⟨b, 0, none⟩) 0 m) [] :=
  ⟨[], rfl, hb ▸ World.ownsRow_made (e := E) (size := 1) w c m hB hm (by omega), fun i hi => (by cases hi), fun i j hi => (by cases hi)⟩
theorem tab.mono {E e : TypeId} {w : World} {B B' : Nat} {v : Value} {M : List (List Int)} (h : tab E e w B v M) (hB : B' ≤ B) : tab E e w B' v M := by
  obtain ⟨vs, h1, h2, h3, h4⟩ := h
  refine ⟨vs, h1, ⟨h2.1, ?_⟩, fun i hi => (h3 i hi).mono hB, h4⟩
  rcases h2.2 with h5 | ⟨g, cap, cur, hv, hg, r⟩
  · exact .inl h5
  · exact .inr ⟨g, cap, cur, hv, Nat.le_trans hB hg, r⟩
/-- a block outside the table is written -/
theorem tab.apart {E e : TypeId} {w w' : World} {B : Nat} {v : Value} {M : List (List Int)} {row : Option Nat} (h : tab E e w B v M) (hg : w.grownBy w' row) (hr : ∀ k, row = some k → k < B ∨ w.heap.size ≤ k) : tab E e w' B v M := by
  obtain ⟨vs, h1, h2, h3, h4⟩ := h
  refine ⟨vs, h1, h2.kept hg ?_, fun i hi => (h3 i hi).apart hg fun k hk e => ?_, h4⟩
  · cases hv : v.ownBlock with
    | none => exact .inl rfl
    | some k => exact .inr fun e => by have := h2.lt k hv; have := hr k e.symm; omega
  · have := (h3 i hi).lt k hk; have := hr k e; omega
theorem tab.kept {E e : TypeId} {w w' : World} {B : Nat} {v : Value} {M : List (List Int)} (h : tab E e w B v M) (hb : Below w.heap.size w w') : tab E e w' B v M :=
  h.apart (row := none) ⟨hb.os, hb.tape, hb.output, hb.size, fun k hk _ => hb.block k hk⟩ (fun k hk => by cases hk)
/-- what lies below the table is written, and more is made -/
theorem tab.len {E e : TypeId} {w : World} {B : Nat} {v : Value} {M : List (List Int)} (h : tab E e w B v M) : ∃ a c, v = .slice a M.length c := by
  obtain ⟨vs, h1, h2, h3, h4⟩ := h
  rcases h2.2 with ⟨rfl, hn⟩ | ⟨g, cap, cur, rfl, _⟩
  · exact ⟨none, 0, by rw [hn]⟩
  · exact ⟨_, cap, rfl⟩
/-- a row of a table: where it lies -/
theorem tab.row {E e : TypeId} {w : World} {B : Nat} {v : Value} {M : List (List Int)} (h : tab E e w B v M) {i : Nat} (hi : i < M.length) :
    ∃ g c rv, v = .slice (some ⟨g, 0, none⟩) M.length c ∧ g < w.heap.size ∧ w.cell? ⟨g, i, none⟩ = some rv ∧ own e w B rv (rowOf M i) := by
  obtain ⟨vs, h1, h2, h3, h4⟩ := h
  rcases h2.2 with ⟨rfl, hn⟩ | ⟨g, cap, cur, rfl, hg, hh, _⟩
  · omega
  · refine ⟨g, cap, slot vs i, rfl, (h2.lt g rfl).2, ?_, h3 i hi⟩
    have := World.ownsRow.cells h2 (g := g) rfl i (slot vs i) (slot_get (by omega))
    have e : (⟨g, 0, none⟩ : Addr).add i = ⟨g, 0 + i, none⟩ := by unfold Addr.add; split <;> simp_all
    rw [e, Nat.zero_add] at this
    exact this
theorem rowOf_set_same {M : List (List Int)} {i : Nat} {r : List Int} (hi : i < M.length) : rowOf (M.set i r) i = r := by simp [rowOf, hi]
theorem rowOf_set_other {M : List (List Int)} {i j : Nat} {r : List Int} (hij : i ≠ j) : rowOf (M.set i r) j = rowOf M j := by simp [rowOf, hij]
/-- a row of a table is written as a whole -/
theorem tab.wrote {E e : TypeId} {w : World} {B : Nat} {v : Value} {M : List (List Int)} (hE : E ≠ e) (h : tab E e w B v M) {i : Nat} (hi : i < M.length) :
    ∃ g c rv, v = .slice (some ⟨g, 0, none⟩) M.length c ∧ g < w.heap.size ∧ w.cell? ⟨g, i, none⟩ = some rv ∧ own e w B rv (rowOf M i) ∧ ∀ w' r, w.grownBy w' rv.ownBlock → own e w' B rv r → tab E e w' B v (M.set i r) := by
  obtain ⟨vs, h1, h2, h3, h4⟩ := h
  have hcell : ∃ g c, v = .slice (some ⟨g, 0, none⟩) M.length c ∧ g < w.heap.size ∧ w.cell? ⟨g, i, none⟩ = some (slot vs i) := by
    rcases h2.2 with ⟨rfl, hn⟩ | ⟨g, cap, cur, rfl, hg, hh, _⟩
    · omega
    · refine ⟨g, cap, rfl, (h2.lt g rfl).2, ?_⟩
      have := World.ownsRow.cells h2 (g := g) rfl i (slot vs i) (slot_get (by omega))
      have e : (⟨g, 0, none⟩ : Addr).add i = ⟨g, 0 + i, none⟩ := by unfold Addr.add; split <;> simp_all
      rw [e, Nat.zero_add] at this
      exact this
  obtain ⟨g, c, hv, hg, hc⟩ := hcell
  refine ⟨g, c, slot vs i, hv, hg, hc, h3 i hi, fun w' r hgr hr => ⟨vs, by rw [List.length_set]; exact h1, ?_, fun j hj => ?_, fun a b ha hb => h4 a b (by rwa [List.length_set] at ha) (by rwa [List.length_set] at hb)⟩⟩
  · rw [List.length_set]
    refine h2.kept hgr ?_
    cases hvo : v.ownBlock with
    | none => exact .inl rfl
    | some k =>
      refine .inr fun e => ?_
      obtain ⟨c1, hk⟩ := row_block h2 hvo
      obtain ⟨c2, hk2⟩ := own_block (h3 i hi) e.symm
      exact block_ne hE hk hk2 rfl
  · rw [List.length_set] at hj
    by_cases hij : i = j
    · subst hij
      rw [rowOf_set_same hi]
      exact hr
    · rw [rowOf_set_other hij]
      exact (h3 j hj).apart hgr fun k hk e => h4 i j hi hj hij k e hk
/-- a row is put behind a table -/
theorem tab.push {E e : TypeId} {w w' : World} {B : Nat} {v v' rv : Value} {M : List (List Int)} {r : List Int} (hE : E ≠ e) (h : tab E e w B v M) (hr : own e w B rv r) (hnew : ∀ vs : List Value, w.ownsRow B E 1 v M.length vs → w'.ownsRow B E 1 v' (M.length + 1) (vs ++ [rv]))
    (hgr : w.grownBy w' v.ownBlock) (hfar : ∀ vs : List Value, w.ownsRow B E 1 v M.length vs → ∀ i, i < M.length → ∀ k, (slot vs i).ownBlock = some k → rv.ownBlock ≠ some k) : tab E e w' B v' (M ++ [r]) := by
  obtain ⟨vs, h1, h2, h3, h4⟩ := h
  have hf := hfar vs h2
  have s1 : ∀ i, i < M.length → slot (vs ++ [rv]) i = slot vs i := fun i hi => by simp [slot, List.getElem?_append_left (show i < vs.length by omega)]
  have s2 : slot (vs ++ [rv]) M.length = rv := by rw [← h1]; simp [slot]
  have r1 : ∀ i, i < M.length → rowOf (M ++ [r]) i = rowOf M i := fun i hi => by simp [rowOf, List.getElem?_append_left hi]
  have r2 : rowOf (M ++ [r]) M.length = r := by simp [rowOf]
  have key : ∀ x y, own e w B x y → own e w' B x y := fun x y hx => hx.apart hgr fun k hk he => by
    obtain ⟨c1, hk1⟩ := row_block h2 he
    obtain ⟨c2, hk2⟩ := own_block hx hk
    exact block_ne hE hk1 hk2 rfl
  refine ⟨vs ++ [rv], by simp [h1], by simpa using hnew vs h2, fun i hi => ?_, fun i j hi hj hij => ?_⟩
  · rw [List.length_append, List.length_singleton] at hi
    by_cases e : i = M.length
    · subst e
      rw [s2, r2]
      exact key _ _ hr
    · rw [s1 i (by omega), r1 i (by omega)]
      exact key _ _ (h3 i (by omega))
  · rw [List.length_append, List.length_singleton] at hi hj
    intro k hk
    by_cases e : i = M.length
    · subst e
      rw [s2] at hk
      rw [s1 j (by omega)]
      intro hk2
      exact hf j (by omega) k hk2 hk
    · rw [s1 i (by omega)] at hk
      by_cases e2 : j = M.length
      · subst e2
        rw [s2]
        exact hf i (by omega) k hk
      · rw [s1 j (by omega)]
        exact h4 i j (by omega) (by omega) hij k hk
/-- the rows of a table lie below what comes later -/
theorem tab.rows_lt {E e : TypeId} {w : World} {B : Nat} {v : Value} {M : List (List Int)} (h : tab E e w B v M) {vs : List Value} (h2 : w.ownsRow B E 1 v M.length vs) : ∀ i, i < M.length → ∀ k, (slot vs i).ownBlock = some k → B ≤ k ∧ k < w.heap.size := by
  obtain ⟨vs', h1, h2', h3, h4⟩ := h
  have e : vs = vs' := by
    rcases h2.2 with ⟨rfl, hn⟩ | ⟨g, cap, cur, rfl, hg, hh, hn, hm, hs, ht⟩
    · have l1 := h2.1; have l2 := h2'.1
      rw [hn] at l1 l2
      rw [List.eq_nil_of_length_eq_zero (by omega : vs.length = 0), List.eq_nil_of_length_eq_zero (by omega : vs'.length = 0)]
    · rcases h2'.2 with ⟨hv, _⟩ | ⟨g', cap', cur', hv, hg', hh', hn', hm', hs', ht'⟩
      · cases hv
      · cases hv
        rw [hh] at hh'
        cases hh'
        rw [← ht, ← ht']
  subst e
  exact fun i hi k hk => (h3 i hi).lt k hk
/-- append of a row that lies alone in the block that was made last -/
theorem wpList_appendT {P : Program} {ops : Array Oper} {rest : List Oper} {o : Oper} {a : Act} {w : World} {Q : Exit → Act → World → Prop} (hgd : o.guard = none) (s x : Operand) (t : TypeId)
    (ho : o.op = .call { callee := .builtin .append, args := #[s, x], argTypes := #[t, t] }) (E e : TypeId) (ht : P.underlying t = some (.slice E)) (hi : (P.info? E).map (fun i => (i.zero, i.size, i.bytes)) = some (some (.slice none 0 0), 1, 24)) (hE : E ≠ e)
    (B : Nat) (v : Value) (M : List (List Int)) (hs : a.eval s = v) (b : Nat) (hx : a.eval x = .slice (some ⟨b, 0, none⟩) 1 1) (rv : Value) (r : List Int) (hu : w.cell? ⟨b, 0, none⟩ = some rv)
    (hown : tab E e w B v M) (hr : own e w B rv r) (hfar : ∀ k, rv.ownBlock = some k → ∀ vs : List Value, w.ownsRow B E 1 v M.length vs → ∀ i, i < M.length → (slot vs i).ownBlock ≠ some k) (hlen : M.length < 1000000000) (hB : B ≤ w.heap.size)
    (h : ∀ v' w', tab E e w' B v' (M ++ [r]) → w.grownBy w' v.ownBlock → Below B w w' → wpList P ops Q rest (a.put o.dst v') w') : wpList P ops Q (o :: rest) a w := by
  obtain ⟨i, h1, h2, h3, h4⟩ := info_parts hi
  obtain ⟨vs, g1, g2, g3, g4⟩ := id hown
  have hone : rv.oneCell' = true := by
    obtain ⟨a', c', he, _⟩ := hr.reads
    rw [he]; rfl
  refine wpList_append_own w hgd s x t ho B E i (.slice none 0 0) 1 24 ht h1 h2 h3 h4 rfl (by decide) v _ _ hs g2 ⟨b, 0, none⟩ 1 1 [rv] hx rfl ?_ ?_ (by unfold maxLen; omega) (by omega) hB ?_
  · intro j y hj
    match j, hj with
    | 0, hj => simp at hj; subst hj; simpa [Addr.add] using hu
  · intro y hy
    simp at hy
    subst hy
    exact hone
  · intro v' w' h5 h6 _
    refine h v' w' (hown.push hE hr ?_ h6 fun vs' hvs i hi k hk hk2 => hfar k hk2 vs' hvs i hi hk) h6 (below_of_grown h6 hB fun k hk => (g2.lt k hk).1)
    intro vs' hvs
    have e : vs' = vs := by
      rcases hvs.2 with ⟨rfl, hn⟩ | ⟨g, cap, cur, rfl, hg, hh, hn, hm, hs, ht⟩
      · have l1 := hvs.1; have l2 := g2.1
        rw [hn] at l1 l2
        rw [List.eq_nil_of_length_eq_zero (by omega : vs'.length = 0), List.eq_nil_of_length_eq_zero (by omega : vs.length = 0)]
      · rcases g2.2 with ⟨hv, _⟩ | ⟨g', cap', cur', hv, hg', hh', hn', hm', hs', ht'⟩
        · cases hv
        · cases hv
          rw [hh] at hh'
          cases hh'
          rw [← ht, ← ht']
    subst e
    exact h5
/-- a table that is only read -/
def readsT (w : World) (v : Value) (M : List (List Int)) : Prop :=
  ∃ a cap, v = .slice a M.length cap ∧ (M = [] ∨ ∃ b o, a = some ⟨b, o, none⟩ ∧ b < w.heap.size ∧ ∀ i, i < M.length → ∃ rv, w.cell? ⟨b, o + i, none⟩ = some rv ∧ reads w rv (rowOf M i))
theorem tab.reads {E e : TypeId} {w : World} {B : Nat} {v : Value} {M : List (List Int)} (h : tab E e w B v M) : readsT w v M := by
  cases M with
  | nil => obtain ⟨a, c, rfl⟩ := h.len; exact ⟨a, c, rfl, .inl rfl⟩
  | cons r M =>
    obtain ⟨g, c, rv, hv, hg, _, _⟩ := h.row (i := 0) (by simp)
    refine ⟨_, c, hv, .inr ⟨g, 0, rfl, hg, fun i hi => ?_⟩⟩
    obtain ⟨g', c', rv', hv', hg', hc', ho⟩ := h.row hi
    rw [hv] at hv'
    cases hv'
    exact ⟨rv', by rw [Nat.zero_add]; exact hc', ho.reads⟩
theorem readsT.kept {w w' : World} {v : Value} {M : List (List Int)} (h : readsT w v M) (hb : Below w.heap.size w w') : readsT w' v M := by
  obtain ⟨a, cap, hv, h⟩ := h
  refine ⟨a, cap, hv, ?_⟩
  rcases h with h | ⟨b, o, ha, hl, hc⟩
  · exact .inl h
  · refine .inr ⟨b, o, ha, Nat.lt_of_lt_of_le hl hb.size, fun i hi => ?_⟩
    obtain ⟨rv, h1, h2⟩ := hc i hi
    exact ⟨rv, by rw [hb.cell (p := ⟨b, o + i, none⟩) hl]; exact h1, h2.kept hb⟩
end Go.Proofs.YtblpbkfenmkhbaaGreatDoor
