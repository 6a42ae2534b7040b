/- Slices of numbers: what a call owns ('own'), what can be read ('reads'), one number appended, one number stored. Conditions: as each theorem says. -/
import Derived.Test.YtfghanmcmjgonaaDoorGi
namespace Go.Proofs.YtfghanmcmjgonaaDoor
open Go.RowKit
set_option linter.unusedVariables false
set_option linter.unusedSimpArgs false

/-- a number of a list; 0 behind its end -/
def nth (xs : List Int) (i : Nat) : Int := xs.getD i 0
theorem nth_get {xs : List Int} {i : Nat} (h : i < xs.length) : xs[i]? = some (nth xs i) := by simp [nth, h]
theorem nth_append_left {xs ys : List Int} {i : Nat} (h : i < xs.length) : nth (xs ++ ys) i = nth xs i := by simp [nth, List.getElem?_append_left h]
theorem nth_append_here {xs : List Int} {y : Int} : nth (xs ++ [y]) xs.length = y := by simp [nth]
theorem ext_nth {xs ys : List Int} (hl : xs.length = ys.length) (h : ∀ i, i < xs.length → nth xs i = nth ys i) : xs = ys := by
  apply List.ext_getElem hl
  intro i h1 h2
  have := h i h1
  simpa [nth, h1, h2] using this

/-- the slice v is the call's own, from block B on, and holds xs -/
def own (e : TypeId) (w : World) (B : Nat) (v : Value) (xs : List Int) : Prop := w.ownsRow B e 1 v xs.length (xs.map (Value.int .i64))
/-- the slice v reads as xs -/
def reads (w : World) (v : Value) (xs : List Int) : Prop :=
  ∃ a cap, v = .slice a xs.length cap ∧ (xs = [] ∨ ∃ b o, a = some ⟨b, o, none⟩ ∧ ∀ i, i < xs.length → w.cell? ⟨b, o + i, none⟩ = some (.int .i64 (nth xs i)))

theorem own_nil (e : TypeId) (w : World) (B : Nat) : own e w B (.slice none 0 0) [] := World.ownsRow_nil w B e 1
theorem own_made {e : TypeId} {w : World} {B : Nat} {c : Array Value} {m : Nat} (hB : B ≤ w.heap.size) (hm : m ≤ maxLen) (hc : c.size = m) : own e (w.alloc (.cells c e)) B (.slice (some ⟨w.heap.size, 0, none⟩) 0 m) [] :=
  World.ownsRow_made (e := e) (size := 1) w c m hB hm (by omega)
theorem own.kept {e : TypeId} {w w' : World} {B : Nat} {v : Value} {xs : List Int} (h : own e w B v xs) (hb : Below w.heap.size w w') : own e w' B v xs := by
  refine World.ownsRow.kept (row := none) h ⟨hb.os, hb.tape, hb.output, hb.size, fun k hk _ => hb.block k hk⟩ ?_
  cases v.ownBlock <;> simp
theorem own.mono {e : TypeId} {w : World} {B B' : Nat} {v : Value} {xs : List Int} (h : own e w B v xs) (hB : B' ≤ B) : own e w B' v xs := by
  obtain ⟨h1, h2⟩ := h
  refine ⟨h1, ?_⟩
  rcases h2 with h2 | ⟨g, cap, cur, hv, hg, r⟩
  · exact .inl h2
  · exact .inr ⟨g, cap, cur, hv, Nat.le_trans hB hg, r⟩
theorem own.lt {e : TypeId} {w : World} {B : Nat} {v : Value} {xs : List Int} (h : own e w B v xs) : ∀ k, v.ownBlock = some k → B ≤ k ∧ k < w.heap.size := World.ownsRow.lt h
theorem own.reads {e : TypeId} {w : World} {B : Nat} {v : Value} {xs : List Int} (h : own e w B v xs) : reads w v xs := by
  rcases h.2 with ⟨rfl, hn⟩ | ⟨g, cap, cur, rfl, _⟩
  · exact ⟨none, 0, by rw [hn], .inl (List.eq_nil_of_length_eq_zero hn)⟩
  · refine ⟨_, cap, rfl, .inr ⟨g, 0, rfl, fun i hi => ?_⟩⟩
    have := World.ownsRow.cells h (g := g) rfl i (.int .i64 (nth xs i)) (by rw [List.getElem?_map, nth_get hi]; rfl)
    have e : (⟨g, 0, none⟩ : Addr).add i = ⟨g, 0 + i, none⟩ := by unfold Addr.add; split <;> simp_all
    rw [e] at this
    exact this
theorem reads.kept {w w' : World} {v : Value} {xs : List Int} (h : reads w v xs) (hb : Below w.heap.size w w') : reads w' v xs := by
  obtain ⟨a, cap, hv, h⟩ := h
  refine ⟨a, cap, hv, ?_⟩
  rcases h with h | ⟨b, o, ha, hc⟩
  · exact .inl h
  · refine .inr ⟨b, o, ha, fun i hi => ?_⟩
    have h1 := hc i hi
    rw [hb.cell (p := ⟨b, o + i, none⟩) (World.block_lt_of_cell? w _ h1)]
    exact h1
/-- one number is stored -/
theorem own.set {e : TypeId} {w : World} {B g cap n : Nat} {xs : List Int} (h : own e w B (.slice (some ⟨g, 0, none⟩) n cap) xs) (i : Nat) (u : Int) : own e (w.setCell ⟨g, i, none⟩ (.int .i64 u)) B (.slice (some ⟨g, 0, none⟩) n cap) (xs.set i u) := by
  obtain ⟨h1, h2⟩ := h
  rcases h2 with ⟨h2, _⟩ | ⟨g', cap', cur, hv, hg, hh, hn, hm, hs, ht⟩
  · cases h2
  · cases hv
    refine ⟨by simp, .inr ⟨g, cap, cur.setIfInBounds i (.int .i64 u), by simp, hg, heap_setCell_same w g i cur e _ hh, by simpa using hn, hm, by simpa using hs, ?_⟩⟩
    simp only [List.length_set, Array.toList_setIfInBounds, List.map_set]
    rw [← ht, List.take_set]
theorem own.free {e : TypeId} {w : World} {B g cap n : Nat} {xs : List Int} (h : own e w B (.slice (some ⟨g, 0, none⟩) n cap) xs) (i : Nat) : w.frozen? ⟨g, i, none⟩ = false := by
  rcases h.2 with ⟨h2, _⟩ | ⟨g', cap', cur, hv, hg, hh, _⟩
  · cases h2
  · cases hv
    exact frozen_of_row w g i cur e hh
theorem grownBy_setCell (w : World) (g i : Nat) (u : Value) : w.grownBy (w.setCell ⟨g, i, none⟩ u) (some g) :=
  ⟨rfl, rfl, rfl, by simp, fun k _ hk => heap_setCell_other w _ k u (fun e => hk (by rw [e]))⟩
theorem grownBy_trans {a b c : World} {row : Option Nat} (h : a.grownBy b row) (k : b.grownBy c row) : a.grownBy c row :=
  ⟨k.os.trans h.os, k.tape.trans h.tape, k.output.trans h.output, Nat.le_trans h.size k.size, fun i hi hr => (k.block i (Nat.lt_of_lt_of_le hi h.size) hr).trans (h.block i hi hr)⟩
theorem below_of_grown {B : Nat} {w w' : World} {row : Option Nat} (h : w.grownBy w' row) (hB : B ≤ w.heap.size) (hr : ∀ k, row = some k → B ≤ k) : Below B w w' := (Below.refl B w).grown h hB hr
/-- another slice stays what it was while one block is written -/
theorem own.apart {e : TypeId} {w w' : World} {B : Nat} {v : Value} {xs : List Int} {row : Option Nat} (h : own e w B v xs) (hg : w.grownBy w' row) (hne : ∀ k, v.ownBlock = some k → row ≠ some k) : own e w' B v xs := by
  refine World.ownsRow.kept h hg ?_
  cases hv : v.ownBlock with
  | none => exact .inl rfl
  | some k => exact .inr fun he => hne k hv he.symm

/-- one number is appended to a slice of the call's own; the number lies alone in the block that was made last -/
theorem wpList_append1 {P : Program} {ops : Array Oper} {rest : List Oper} {o : Oper} {a : Act} {w : World} {Q : Exit → Act → World → Prop} (hgd : o.guard = none) (s x : Operand) (t : TypeId)
    (ho : o.op = .call { callee := .builtin .append, args := #[s, x], argTypes := #[t, t] }) (e : TypeId) (ht : P.underlying t = some (.slice e)) (hi : (P.info? e).map (fun i => (i.zero, i.size, i.bytes)) = some (some (.int .i64 0), 1, 8))
    (B : Nat) (v : Value) (xs : List Int) (hs : a.eval s = v) (b : Nat) (hx : a.eval x = .slice (some ⟨b, 0, none⟩) 1 1) (u : Int) (hu : w.cell? ⟨b, 0, none⟩ = some (.int .i64 u))
    (hown : own e w B v xs) (hlen : xs.length < 1000000000) (hB : B ≤ w.heap.size)
    (h : ∀ v' w', own e w' B v' (xs ++ [u]) → Below B w w' → wpList P ops Q rest (a.put o.dst v') w') : wpList P ops Q (o :: rest) a w := by
  obtain ⟨i, h1, h2, h3, h4⟩ := info_parts hi
  refine wpList_append_own w hgd s x t ho B e i (.int .i64 0) 1 8 ht h1 h2 h3 h4 rfl (by decide) v _ _ hs hown ⟨b, 0, none⟩ 1 1 [.int .i64 u] hx rfl ?_ ?_ (by unfold maxLen; omega) (by omega) hB ?_
  · intro j y hj
    match j, hj with
    | 0, hj => simp at hj; subst hj; simpa [Addr.add] using hu
  · intro y hy
    simp at hy
    subst hy
    rfl
  · intro v' w' h5 h6 _
    refine h v' w' ?_ (below_of_grown h6 hB fun k hk => (hown.lt k hk).1)
    show w'.ownsRow B e 1 v' (xs ++ [u]).length ((xs ++ [u]).map (Value.int .i64))
    simpa using h5

/-- the same in a world that is W with further blocks -/
theorem wpList_append1p {P : Program} {ops : Array Oper} {rest : List Oper} {o : Oper} {a : Act} {W : World} {j : List Obj} {d : Nat} {u : Int} {e : TypeId} {Q : Exit → Act → World → Prop} (hgd : o.guard = none) (s x : Operand) (t : TypeId)
    (ho : o.op = .call { callee := .builtin .append, args := #[s, x], argTypes := #[t, t] }) (ht : P.underlying t = some (.slice e)) (hi : (P.info? e).map (fun i => (i.zero, i.size, i.bytes)) = some (some (.int .i64 0), 1, 8))
    (v : Value) (hs : a.eval s = v) (b : Nat) (hx : a.eval x = .slice (some ⟨b, 0, none⟩) 1 1) (hb : b = (plus W j d).heap.size) {xs : List Int}
    (hown : own e (plus W j d) W.heap.size v xs) (hlen : xs.length < 1000000000)
    (h : ∀ v' j' d', own e (plus W j' d') W.heap.size v' (xs ++ [u]) → wpList P ops Q rest (a.put o.dst v') (plus W j' d')) : wpList P ops Q (o :: rest) a ((plus W j d).alloc (.cells #[.int .i64 u] e)) := by
  have hW : W.heap.size ≤ (plus W j d).heap.size := by rw [plus_size]; omega
  refine wpList_append1 hgd s x t ho e ht hi W.heap.size v xs hs b hx u ?_ (hown.kept ((Below.refl _ _).alloc (Nat.le_refl _) _)) hlen (by rw [World.size_alloc]; omega) ?_
  · rw [World.cell?_alloc_at _ _ _ _ hb]; rfl
  · intro v' w' h1 h2
    have h3 : Below W.heap.size W w' := ((below_plus (Below.refl _ _) (Nat.le_refl _) j d).alloc hW _).trans h2
    obtain ⟨j', d', rfl⟩ := plus_of_below h3
    exact h v' j' d' h1
/-- .. with what else is kept -/
theorem wpList_append1h {P : Program} {ops : Array Oper} {rest : List Oper} {o : Oper} {a : Act} {W : World} {j : List Obj} {d : Nat} {u : Int} {e : TypeId} {Q : Exit → Act → World → Prop} (hgd : o.guard = none) (s x : Operand) (t : TypeId)
    (ho : o.op = .call { callee := .builtin .append, args := #[s, x], argTypes := #[t, t] }) (ht : P.underlying t = some (.slice e)) (hi : (P.info? e).map (fun i => (i.zero, i.size, i.bytes)) = some (some (.int .i64 0), 1, 8))
    (v : Value) (hs : a.eval s = v) (b : Nat) (hx : a.eval x = .slice (some ⟨b, 0, none⟩) 1 1) (hb : b = (plus W j d).heap.size) {xs : List Int}
    (hown : own e (plus W j d) W.heap.size v xs) (hlen : xs.length < 1000000000)
    (h : ∀ v' j' d', own e (plus W j' d') W.heap.size v' (xs ++ [u]) → ((plus W j d).alloc (.cells #[.int .i64 u] e)).grownBy (plus W j' d') v.ownBlock → wpList P ops Q rest (a.put o.dst v') (plus W j' d')) : wpList P ops Q (o :: rest) a ((plus W j d).alloc (.cells #[.int .i64 u] e)) := by
  have hW : W.heap.size ≤ (plus W j d).heap.size := by rw [plus_size]; omega
  have hk : own e ((plus W j d).alloc (.cells #[.int .i64 u] e)) W.heap.size v xs := hown.kept ((Below.refl _ _).alloc (Nat.le_refl _) _)
  have hu : ((plus W j d).alloc (.cells #[.int .i64 u] e)).cell? ⟨b, 0, none⟩ = some (.int .i64 u) := by rw [World.cell?_alloc_at _ _ _ _ hb]; rfl
  obtain ⟨i, h1, h2, h3, h4⟩ := info_parts hi
  refine wpList_append_own _ hgd s x t ho W.heap.size e i (.int .i64 0) 1 8 ht h1 h2 h3 h4 rfl (by decide) v _ _ hs hk ⟨b, 0, none⟩ 1 1 [.int .i64 u] hx rfl ?_ ?_ (by unfold maxLen; omega) (by omega) (by rw [World.size_alloc]; omega) ?_
  · intro j y hj
    match j, hj with
    | 0, hj => simp at hj; subst hj; simpa [Addr.add] using hu
  · intro y hy
    simp at hy
    subst hy
    rfl
  · intro v' w' h5 h6 _
    have h7 : Below W.heap.size W w' := ((below_plus (Below.refl _ _) (Nat.le_refl _) j d).alloc hW _).trans (below_of_grown h6 (by rw [World.size_alloc]; omega) fun k hk' => (hk.lt k hk').1)
    obtain ⟨j', d', rfl⟩ := plus_of_below h7
    refine h v' j' d' ?_ h6
    show World.ownsRow _ W.heap.size e 1 v' (xs ++ [u]).length ((xs ++ [u]).map (Value.int .i64))
    simpa using h5
/-- what a function answers that hands a list of numbers back in memory of its own -/
def RetInts (e : TypeId) (w : World) (xs : List Int) : Ending → World → Prop := fun en w' => ∃ v, en = .returned v ∧ Below w.heap.size w w' ∧ own e w' w.heap.size v xs
/-- .. beside a code -/
def RetInts2 (e : TypeId) (w : World) (xs : List Int) (c : Int) : Ending → World → Prop := fun en w' => ∃ v, en = .returned (.tuple #[v, .int .i64 c]) ∧ Below w.heap.size w w' ∧ own e w' w.heap.size v xs
theorem own_plus {e : TypeId} {W : World} {j j' : List Obj} {d d' B : Nat} {v : Value} {xs : List Int} (h : own e (plus W j d) B v xs) : own e (plus W (j ++ j') d') B v xs := by
  rw [← plus_plus (d := d)]
  exact h.kept (below_plus (Below.refl _ _) (Nat.le_refl _) j' d')
theorem below_drewN' {B : Nat} {a w : World} (h : Below B a w) (n : Nat) : Below B a (w.drewN n) := ⟨h.os, h.tape, h.output, h.size, h.block⟩
theorem base_of_grown {W w' : World} {j : List Obj} {d : Nat} {row : Option Nat} (hg : (plus W j d).grownBy w' row) (hr : ∀ k, row = some k → W.heap.size ≤ k) : Below W.heap.size W w' :=
  (below_plus (Below.refl _ _) (Nat.le_refl _) j d).trans (below_of_grown hg (by rw [plus_size]; omega) hr)
/-- a list that reads so: where its numbers lie -/
theorem reads_cons {w : World} {v : Value} {x : Int} {l : List Int} (h : reads w v (x :: l)) : ∃ b o cap, v = .slice (some ⟨b, o, none⟩) (l.length + 1) cap ∧ w.cell? ⟨b, o, none⟩ = some (.int .i64 x) ∧ b < w.heap.size := by
  obtain ⟨a, cap, rfl, h⟩ := h
  rcases h with h | ⟨b, o, rfl, h⟩
  · cases h
  · have h0 := h 0 (by simp)
    rw [Nat.add_zero] at h0
    exact ⟨b, o, cap, rfl, by simpa [nth] using h0, World.block_lt_of_cell? w _ h0⟩
theorem reads_nil {w : World} {v : Value} (h : reads w v []) : ∃ a cap, v = .slice a 0 cap := by
  obtain ⟨a, cap, rfl, _⟩ := h
  exact ⟨a, cap, rfl⟩
/-- .. when a block ahead of all of them is written -/
theorem own_base {e T : TypeId} {w : World} {c c' : Array Value} {j : List Obj} {d d' : Nat} {v : Value} {xs : List Int} (h : own e (plus (w.alloc (.cells c T)) j d) (w.alloc (.cells c T)).heap.size v xs) : own e (plus (w.alloc (.cells c' T)) j d') (w.alloc (.cells c' T)).heap.size v xs := by
  rw [World.size_alloc] at h ⊢
  refine World.ownsRow.kept (row := some w.heap.size) h ⟨rfl, rfl, rfl, by simp [plus_size, World.size_alloc], fun k hk hne => ?_⟩ ?_
  · have hne' : k ≠ w.heap.size := fun e => hne (by rw [e])
    by_cases hlt : k < w.heap.size
    · rw [plus_heap _ _ _ _ (by rw [World.size_alloc]; omega), plus_heap _ _ _ _ (by rw [World.size_alloc]; omega), Below.heap_alloc _ _ _ hlt, Below.heap_alloc _ _ _ hlt]
    · show ((w.heap.push _) ++ j.toArray)[k]? = ((w.heap.push _) ++ j.toArray)[k]?
      rw [Array.getElem?_append_right (by simp; omega), Array.getElem?_append_right (by simp; omega)]
      simp
  · cases hv : v.ownBlock with
    | none => exact .inl rfl
    | some k =>
      refine .inr fun he => ?_
      have := (h.lt k hv).1
      cases he
      omega
/-- a number that lies apart from the slice that something was appended to -/
theorem cell_append {w w' : World} {o : Obj} {row : Option Nat} {b i : Nat} {x : Value} (g : w.cell? ⟨b, i, none⟩ = some x) (hg : (w.alloc o).grownBy w' row) (hne : row ≠ some b) : w'.cell? ⟨b, i, none⟩ = some x := by
  have hb : b < w.heap.size := World.block_lt_of_cell? w _ g
  rw [World.cell?_of_block (w := w) (a := ⟨b, i, none⟩)]
  · exact g
  · rw [hg.block b (by rw [World.size_alloc]; omega) (fun e => hne e.symm)]
    exact Below.heap_alloc w o b hb
theorem one_lo : (0 : Int) ≤ 1 := by decide
theorem one_hi : (1 : Int) ≤ 1000000000 := by decide
theorem below_base {W w' : World} {j : List Obj} {d : Nat} (hB : Below (plus W j d).heap.size (plus W j d) w') : Below W.heap.size W w' :=
  (below_plus (Below.refl _ _) (Nat.le_refl _) j d).trans (hB.mono (by rw [plus_size]; omega))
/-- a list that was made empty, over one block ahead of it -/
theorem own_start {e f : TypeId} {w : World} {c : Array Value} : own e (plus (w.alloc (.cells c f)) [.cells #[] e] w.drawn) (w.alloc (.cells c f)).heap.size (.slice (some ⟨w.heap.size + 1, 0, none⟩) 0 0) [] := by
  have h := own_made (e := e) (w := w.alloc (.cells c f)) (B := (w.alloc (.cells c f)).heap.size) (c := #[]) (m := 0) (Nat.le_refl _) (by decide) rfl
  rw [World.size_alloc] at h ⊢
  exact h
end Go.Proofs.YtfghanmcmjgonaaDoor
