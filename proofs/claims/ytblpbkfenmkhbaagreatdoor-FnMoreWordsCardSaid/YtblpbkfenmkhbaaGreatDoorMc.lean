/- Words that serve all later texts: several texts in one. Conditions: as each theorem says. -/
import Derived.Test.YtblpbkfenmkhbaaGreatDoorTb
import Derived.Test.YtblpbkfenmkhbaaGreatDoorVh
import Derived.OneCell
import Derived.Deep.RegionWith
import Derived.Deep.Cut
namespace Go.Proofs.YtblpbkfenmkhbaaGreatDoor
open Go.RowKit
set_option linter.unusedSimpArgs false
set_option linter.unusedVariables false
theorem infoS : (Tryz.prog.info? 24).map (fun i => (i.zero, i.size, i.bytes)) = some (some (.slice none 0 0), 1, 24) := by kernel_rfl
theorem tab_far {E e : TypeId} {w w0 : World} {B b n c : Nat} {v : Value} {M : List (List Int)} (h : tab E e w0 B v M) (hb : w0.heap.size ≤ b) (hm : ∀ vs : List Value, w.ownsRow B E 1 v M.length vs → w0.ownsRow B E 1 v M.length vs) : ∀ k, (Value.slice (some ⟨b, 0, none⟩) n c).ownBlock = some k → ∀ vs : List Value, w.ownsRow B E 1 v M.length vs → ∀ i, i < M.length → (slot vs i).ownBlock ≠ some k := by
  intro k hk vs hvs i hi he
  have := h.rows_lt (hm vs hvs) i hi k he
  have e : b = k := by simpa [Value.ownBlock] using hk
  omega
theorem row_back {E : TypeId} {w w0 : World} {B n : Nat} {v : Value} {vs : List Value} (hb : Below w0.heap.size w0 w) (hl : ∀ k, v.ownBlock = some k → k < w0.heap.size) (h : w.ownsRow B E 1 v n vs) : w0.ownsRow B E 1 v n vs := by
  obtain ⟨h1, h2⟩ := h
  refine ⟨h1, ?_⟩
  rcases h2 with h2 | ⟨g, cap, cur, hv, hg, hh, r⟩
  · exact .inl h2
  · refine .inr ⟨g, cap, cur, hv, hg, ?_, r⟩
    rw [← hb.block g (hl g (by rw [hv]; rfl))]; exact hh
theorem tab.lt {E e : TypeId} {w : World} {B : Nat} {v : Value} {M : List (List Int)} (h : tab E e w B v M) : ∀ k, v.ownBlock = some k → B ≤ k ∧ k < w.heap.size := by
  obtain ⟨vs, h1, h2, h3, h4⟩ := h
  exact h2.lt
/-- what a function answers that hands a table back in memory of its own -/
def RetTab (E e : TypeId) (w : World) (M : List (List Int)) : Ending → World → Prop := fun en w' => ∃ v, en = .returned v ∧ Below w.heap.size w w' ∧ tab E e w' w.heap.size v M
def RetTab2 (E e : TypeId) (w : World) (M : List (List Int)) (c : Int) : Ending → World → Prop := fun en w' => ∃ v, en = .returned (.tuple #[v, .int .i64 c]) ∧ Below w.heap.size w w' ∧ tab E e w' w.heap.size v M
end Go.Proofs.YtblpbkfenmkhbaaGreatDoor
namespace Go.Proofs.YtblpbkfenmkhbaaGreatDoor
open Go.RowKit
set_option linter.unusedSimpArgs false
set_option linter.unusedVariables false
/-- a table whose memory lies below T -/
def tabU (E e : TypeId) (w : World) (B T : Nat) (v : Value) (M : List (List Int)) : Prop :=
  ∃ vs : List Value, vs.length = M.length ∧ w.ownsRow B E 1 v M.length vs ∧ (∀ i, i < M.length → own e w B (slot vs i) (rowOf M i)) ∧ (∀ i j, i < M.length → j < M.length → i ≠ j → ∀ k, (slot vs i).ownBlock = some k → (slot vs j).ownBlock ≠ some k) ∧ (∀ k, v.ownBlock = some k → k < T) ∧ (∀ i, i < M.length → ∀ k, (slot vs i).ownBlock = some k → k < T)
theorem tab.upto {E e : TypeId} {w : World} {B : Nat} {v : Value} {M : List (List Int)} (h : tab E e w B v M) : tabU E e w B w.heap.size v M := by
  obtain ⟨vs, h1, h2, h3, h4⟩ := h
  exact ⟨vs, h1, h2, h3, h4, fun k hk => (h2.lt k hk).2, fun i hi k hk => ((h3 i hi).lt k hk).2⟩
theorem tabU.tab {E e : TypeId} {w : World} {B T : Nat} {v : Value} {M : List (List Int)} (h : tabU E e w B T v M) : tab E e w B v M := by
  obtain ⟨vs, h1, h2, h3, h4, _⟩ := h
  exact ⟨vs, h1, h2, h3, h4⟩
/-- only blocks from B on and below T are written -/
def Within (B T : Nat) (w w' : World) : Prop := w'.os = w.os ∧ w'.tape = w.tape ∧ w'.output = w.output ∧ w.heap.size ≤ w'.heap.size ∧ ∀ k, k < w.heap.size → (k < B ∨ T ≤ k) → w'.heap[k]? = w.heap[k]?
theorem Within.trans {B T : Nat} {a b c : World} (h : Within B T a b) (k : Within B T b c) : Within B T a c :=
  ⟨k.1.trans h.1, k.2.1.trans h.2.1, k.2.2.1.trans h.2.2.1, Nat.le_trans h.2.2.2.1 k.2.2.2.1, fun i hi ho => (k.2.2.2.2 i (Nat.lt_of_lt_of_le hi h.2.2.2.1) ho).trans (h.2.2.2.2 i hi ho)⟩
theorem Within.below {B T : Nat} {w w' : World} (h : Within B T w w') (hB : B ≤ w.heap.size) : Below B w w' := ⟨h.1, h.2.1, h.2.2.1, h.2.2.2.1, fun k hk => h.2.2.2.2 k (by omega) (.inl hk)⟩
theorem Within.of_below {B T : Nat} {w w' : World} (h : Below w.heap.size w w') : Within B T w w' := ⟨h.os, h.tape, h.output, h.size, fun k hk _ => h.block k hk⟩
theorem Within.of_grown {B T : Nat} {w w' : World} {row : Option Nat} (h : w.grownBy w' row) (hr : ∀ k, row = some k → B ≤ k ∧ k < T) : Within B T w w' :=
  ⟨h.os, h.tape, h.output, h.size, fun k hk ho => h.block k hk fun e => by have := hr k e.symm; omega⟩
/-- a list outside stays -/
theorem own.within {e : TypeId} {w w' : World} {B0 B T : Nat} {v : Value} {xs : List Int} (h : own e w B0 v xs) (hw : Within B T w w') (hT : T ≤ B0) : own e w' B0 v xs := by
  obtain ⟨h1, h2⟩ := h
  refine ⟨h1, ?_⟩
  rcases h2 with h2 | ⟨g, cap, cur, hv, hg, hh, r⟩
  · exact .inl h2
  · refine .inr ⟨g, cap, cur, hv, hg, ?_, r⟩
    rw [hw.2.2.2.2 g ?_ (.inr (Nat.le_trans hT hg))]
    · exact hh
    · rcases Nat.lt_or_ge g w.heap.size with h' | h'
      · exact h'
      · rw [Array.getElem?_eq_none h'] at hh; cases hh
theorem tabU.within0 {E e : TypeId} {w w' : World} {B T B' T' : Nat} {v : Value} {M : List (List Int)} (h : tabU E e w B T v M) (hw : Within B' T' w w') (hT : T ≤ B' ∨ T' ≤ B) : tabU E e w' B T v M := by
  obtain ⟨vs, h1, h2, h3, h4, h5, h6⟩ := h
  have key : ∀ g, B ≤ g → g < T → g < w.heap.size → w'.heap[g]? = w.heap[g]? := fun g k1 k2 k3 => hw.2.2.2.2 g k3 (by omega)
  refine ⟨vs, h1, ⟨h2.1, ?_⟩, fun i hi => ⟨(h3 i hi).1, ?_⟩, h4, h5, h6⟩
  · rcases h2.2 with h7 | ⟨g, cap, cur, hv, hg, hh, r⟩
    · exact .inl h7
    · refine .inr ⟨g, cap, cur, hv, hg, ?_, r⟩
      rw [key g hg (h5 g (by rw [hv]; rfl)) (h2.lt g (by rw [hv]; rfl)).2]; exact hh
  · rcases (h3 i hi).2 with h7 | ⟨g, cap, cur, hv, hg, hh, r⟩
    · exact .inl h7
    · refine .inr ⟨g, cap, cur, hv, hg, ?_, r⟩
      rw [key g hg (h6 i hi g (by rw [hv]; rfl)) ((h3 i hi).lt g (by rw [hv]; rfl)).2]; exact hh
theorem tabU.kept {E e : TypeId} {w w' : World} {B T : Nat} {v : Value} {M : List (List Int)} (h : tabU E e w B T v M) (hb : Below w.heap.size w w') : tabU E e w' B T v M :=
  h.within0 (B' := T) (T' := T) (Within.of_below hb) (.inl (Nat.le_refl _))
theorem tabU.len {E e : TypeId} {w : World} {B T : Nat} {v : Value} {M : List (List Int)} (h : tabU E e w B T v M) : ∃ a c, v = .slice a M.length c := h.tab.len
/-- a row of a table is written as a whole -/
theorem tabU.wrote {E e : TypeId} {w : World} {B T : Nat} {v : Value} {M : List (List Int)} (hE : E ≠ e) (h : tabU E e w B T v M) {i : Nat} (hi : i < M.length) :
    ∃ g c rv, v = .slice (some ⟨g, 0, none⟩) M.length c ∧ g < w.heap.size ∧ g < T ∧ w.cell? ⟨g, i, none⟩ = some rv ∧ own e w B rv (rowOf M i) ∧ (∀ k, rv.ownBlock = some k → k < T ∧ k ≠ g) ∧ ∀ w' r, w.grownBy w' rv.ownBlock → own e w' B rv r → tabU E e w' B T v (M.set i r) := by
  obtain ⟨vs, h1, h2, h3, h4, h5, h6⟩ := h
  have hcell : ∃ g c, v = .slice (some ⟨g, 0, none⟩) M.length c ∧ g < w.heap.size ∧ w.cell? ⟨g, i, none⟩ = some (slot vs i) := by
    rcases h2.2 with ⟨rfl, hn⟩ | ⟨g, cap, cur, rfl, hg, hh, _⟩
    · omega
    · refine ⟨g, cap, rfl, (h2.lt g rfl).2, ?_⟩
      have := World.ownsRow.cells h2 (g := g) rfl i (slot vs i) (slot_get (by omega))
      have e : (⟨g, 0, none⟩ : Addr).add i = ⟨g, 0 + i, none⟩ := by unfold Addr.add; split <;> simp_all
      rw [e, Nat.zero_add] at this
      exact this
  obtain ⟨g, c, hv, hg, hc⟩ := hcell
  have hne : ∀ k, (slot vs i).ownBlock = some k → v.ownBlock ≠ some k := fun k hk e => by
    obtain ⟨c1, hk1⟩ := row_block h2 e
    obtain ⟨c2, hk2⟩ := own_block (h3 i hi) hk
    exact block_ne hE hk1 hk2 rfl
  refine ⟨g, c, slot vs i, hv, hg, h5 g (by rw [hv]; rfl), hc, h3 i hi, fun k hk => ⟨h6 i hi k hk, fun e => hne k hk (by rw [hv, e]; rfl)⟩, fun w' r hgr hr => ⟨vs, by rw [List.length_set]; exact h1, ?_, fun j hj => ?_, fun a b ha hb => h4 a b (by rwa [List.length_set] at ha) (by rwa [List.length_set] at hb), h5, fun j hj => h6 j (by rwa [List.length_set] at hj)⟩⟩
  · rw [List.length_set]
    refine h2.kept hgr ?_
    cases hvo : v.ownBlock with
    | none => exact .inl rfl
    | some k => exact .inr fun e => hne k e.symm hvo
  · rw [List.length_set] at hj
    by_cases hij : i = j
    · subst hij
      rw [rowOf_set_same hi]
      exact hr
    · rw [rowOf_set_other hij]
      exact (h3 j hj).apart hgr fun k hk e => h4 i j hi hj hij k e hk
/-- the numbers of a function of two places -/
def tabL (m : Nat) (f : Nat → Nat → Int) : List (List Int) := (List.range m).map fun i => (List.range m).map fun j => f i j
theorem tabL_length (m f) : (tabL m f).length = m := by simp [tabL]
theorem rowOf_tabL {m f i} (h : i < m) : rowOf (tabL m f) i = (List.range m).map (f i) := by simp [rowOf, tabL, h]
theorem rowOf_len {m f i} (h : i < m) : (rowOf (tabL m f) i).length = m := by rw [rowOf_tabL h]; simp
theorem nth_row {m f i j} (hi : i < m) (hj : j < m) : nth (rowOf (tabL m f) i) j = f i j := by rw [rowOf_tabL hi]; simp [nth, hj]
theorem tabL_zero (m : Nat) : List.replicate m (List.replicate m (0 : Int)) = tabL m (fun _ _ => 0) := by
  apply List.ext_getElem (by simp [tabL])
  intro i h1 h2
  simp only [tabL, List.getElem_replicate, List.getElem_map]
  apply List.ext_getElem (by simp)
  intro j h3 h4
  simp
def put2 (f : Nat → Nat → Int) (x y : Nat) (u : Int) : Nat → Nat → Int := fun i j => if i = x ∧ j = y then u else f i j
theorem tabL_put {m f x y} (u : Int) (hx : x < m) : (tabL m f).set x ((rowOf (tabL m f) x).set y u) = tabL m (put2 f x y u) := by
  apply List.ext_getElem (by simp [tabL])
  intro i h1 h2
  rw [List.length_set, tabL_length] at h1
  rw [List.getElem_set]
  by_cases e : x = i
  · subst e
    rw [if_pos rfl, rowOf_tabL hx]
    apply List.ext_getElem (by simp [tabL])
    intro j h3 h4
    rw [List.getElem_set]
    by_cases e2 : y = j
    · subst e2; simp [tabL, put2]
    · have : ¬ j = y := fun h => e2 h.symm
      simp [tabL, put2, e2, this]
  · have : ¬ i = x := fun h => e h.symm
    simp [tabL, put2, e, this]
def add2 (f : Nat → Nat → Int) (x y : Nat) (s : Int) : Nat → Nat → Int := put2 f x y (wrap64 (f x y + s))
theorem grown_set_plus (w : World) (g i : Nat) (u : Value) (j : List Obj) (d : Nat) : w.grownBy (plus (w.setCell ⟨g, i, none⟩ u) j d) (some g) := by
  have h : Below (w.setCell ⟨g, i, none⟩ u).heap.size (w.setCell ⟨g, i, none⟩ u) (plus (w.setCell ⟨g, i, none⟩ u) j d) := below_plus (Below.refl _ _) (Nat.le_refl _) j d
  exact grownBy_trans (grownBy_setCell w g i u) ⟨h.os, h.tape, h.output, h.size, fun k hk _ => h.block k hk⟩
/-- a crossing of two strands -/
def cross2 (f : Nat → Nat → Int) (x y : Nat) (s : Int) : Nat → Nat → Int := add2 (add2 f x y s) y x s
/-- the crossings of the first letters -/
def crossF (m : Nat) (xs : List Int) : Nat → Nat → Nat → Int
  | 0 => fun _ _ => 0
  | k + 1 => cross2 (crossF m xs k) (seqK m (absL xs) k ((nth xs k).natAbs - 1)) (seqK m (absL xs) k (nth xs k).natAbs) (sgn (nth xs k))
end Go.Proofs.YtblpbkfenmkhbaaGreatDoor
namespace Go.Proofs.YtblpbkfenmkhbaaGreatDoor
open Go.RowKit
set_option linter.unusedSimpArgs false
set_option linter.unusedVariables false
theorem Within.then_below {B T : Nat} {w a b : World} (h : Within B T w a) (k : Below w.heap.size a b) : Within B T w b :=
  ⟨k.os.trans h.1, k.tape.trans h.2.1, k.output.trans h.2.2.1, Nat.le_trans h.2.2.2.1 k.size, fun i hi ho => (k.block i hi).trans (h.2.2.2.2 i hi ho)⟩
theorem Within.mono {B T : Nat} {w0 w a : World} (h : Within B T w a) (k : Below w0.heap.size w0 w) : Within B T w0 a :=
  ⟨h.1.trans k.os, h.2.1.trans k.tape, h.2.2.1.trans k.output, Nat.le_trans k.size h.2.2.2.1, fun i hi ho => (h.2.2.2.2 i (Nat.lt_of_lt_of_le hi k.size) ho).trans (k.block i hi)⟩
theorem Within.refl (B T : Nat) (w : World) : Within B T w w := ⟨rfl, rfl, rfl, Nat.le_refl _, fun _ _ _ => rfl⟩
theorem within_two (w : World) (n g i j : Nat) (a b : Value) : Within g (g + 1) w (((w.drewN n).setCell ⟨g, i, none⟩ a).setCell ⟨g, j, none⟩ b) :=
  ⟨rfl, rfl, rfl, by simp, fun k hk ho => by
    rw [heap_setCell_other _ _ k b (by show k ≠ g; omega), heap_setCell_other _ _ k a (by show k ≠ g; omega)]; rfl⟩
theorem crossF_succ {m k p : Nat} {xs : List Int} {z : Int} (hz : nth xs k = z) (hp : z.natAbs = p + 1) : crossF m xs (k + 1) = cross2 (crossF m xs k) (seqK m (absL xs) k p) (seqK m (absL xs) k (p + 1)) (sgn z) := by
  show cross2 (crossF m xs k) (seqK m (absL xs) k ((nth xs k).natAbs - 1)) (seqK m (absL xs) k (nth xs k).natAbs) (sgn (nth xs k)) = _
  rw [hz, hp, Nat.add_sub_cancel]
end Go.Proofs.YtblpbkfenmkhbaaGreatDoor
namespace Go.Proofs.YtblpbkfenmkhbaaGreatDoor
open Go.RowKit
set_option linter.unusedSimpArgs false
set_option linter.unusedVariables false
/-- the crossings of a word -/
def crossL (n : Int) (xs : List Int) : List (List Int) := if okW n xs = true then tabL n.toNat (crossF n.toNat xs xs.length) else []
theorem crossL_le {n : Int} {xs : List Int} : (crossL n xs).length ≤ 8 := by
  unfold crossL
  split
  · rename_i h
    have := okW_n h
    rw [tabL_length]; omega
  · simp
theorem crossL_row {n : Int} {xs : List Int} {i : Nat} : (rowOf (crossL n xs) i).length ≤ 8 := by
  unfold crossL
  split
  · rename_i h
    have := okW_n h
    by_cases hi : i < n.toNat
    · rw [rowOf_len hi]; omega
    · simp only [rowOf, tabL, List.getD_eq_getElem?_getD, List.getElem?_map]
      rw [List.getElem?_eq_none (by simp; omega)]
      simp
  · simp [rowOf]
end Go.Proofs.YtblpbkfenmkhbaaGreatDoor
