/- Crossings by the program. Conditions: as each theorem says. -/
import Derived.Test.YtgkpdklkeajipaaGreatDoorX1
import Derived.OneCell
import Derived.Deep.RegionWith
import Derived.Deep.Cut
namespace Go.Proofs.YtgkpdklkeajipaaGreatDoor
open Go.RowKit
set_option linter.unusedSimpArgs false
set_option linter.unusedVariables false
/-- a table whose memory lies below T -/
def tabU (E e : TypeId) (w : World) (B T : Nat) (v : Value) (M : List (List Int)) : Prop :=
  ∃ vs : List Value, vs.length = M.length ∧ w.ownsRow B E 1 v M.length vs ∧ (∀ i, i < M.length → own e w B (slot vs i) (rowOf M i)) ∧ (∀ i j, i < M.length → j < M.length → i ≠ j → ∀ k, (slot vs i).ownBlock = some k → (slot vs j).ownBlock ≠ some k) ∧ (∀ k, v.ownBlock = some k → k < T) ∧ (∀ i, i < M.length → ∀ k, (slot vs i).ownBlock = some k → k < T)
theorem tab.upto {E e : TypeId} {w : World} {B : Nat} {v : Value} {M : List (List Int)} (h : tab E e w B v M) : tabU E e w B w.heap.size v M := by
  obtain ⟨vs, h1, h2, h3, h4⟩ := h
  exact ⟨vs, h1, h2, h3, h4, fun k hk => (h2.lt k hk).2, fun i hi k hk => ((h3 i hi).lt k hk).2⟩
theorem tabU.tab {E e : TypeId} {w : World} {B T : Nat} {v : Value} {M : List (List Int)} (h : tabU E e w B T v M) : tab E e w B v M := by
  obtain ⟨vs, h1, h2, h3, h4, _⟩ := h
  exact ⟨vs, h1, h2, h3, h4⟩
/-- only blocks from B on and below T are written -/
def Within (B T : Nat) (w w' : World) : Prop := w'.os = w.os ∧ w'.tape = w.tape ∧ w'.output = w.output ∧ w.heap.size ≤ w'.heap.size ∧ ∀ k, k < w.heap.size → (k < B ∨ T ≤ k) → w'.heap[k]? = w.heap[k]?
theorem Within.trans {B T : Nat} {a b c : World} (h : Within B T a b) (k : Within B T b c) : Within B T a c :=
  ⟨k.1.trans h.1, k.2.1.trans h.2.1, k.2.2.1.trans h.2.2.1, Nat.le_trans h.2.2.2.1 k.2.2.2.1, fun i hi ho => (k.2.2.2.2 i (Nat.lt_of_lt_of_le hi h.2.2.2.1) ho).trans (h.2.2.2.2 i hi ho)⟩
theorem Within.below {B T : Nat} {w w' : World} (h : Within B T w w') (hB : B ≤ w.heap.size) : Below B w w' := ⟨h.1, h.2.1, h.2.2.1, h.2.2.2.1, fun k hk => h.2.2.2.2 k (by omega) (.inl hk)⟩
theorem Within.of_below {B T : Nat} {w w' : World} (h : Below w.heap.size w w') : Within B T w w' := ⟨h.os, h.tape, h.output, h.size, fun k hk _ => h.block k hk⟩
theorem Within.of_grown {B T : Nat} {w w' : World} {row : Option Nat} (h : w.grownBy w' row) (hr : ∀ k, row = some k → B ≤ k ∧ k < T) : Within B T w w' :=
  ⟨h.os, h.tape, h.output, h.size, fun k hk ho => h.block k hk fun e => by have := hr k e.symm; omega⟩
/-- a list outside stays -/
theorem own.within {e : TypeId} {w w' : World} {B0 B T : Nat} {v : Value} {xs : List Int} (h : own e w B0 v xs) (hw : Within B T w w') (hT : T ≤ B0) : own e w' B0 v xs := by
  obtain ⟨h1, h2⟩ := h
  refine ⟨h1, ?_⟩
  rcases h2 with h2 | ⟨g, cap, cur, hv, hg, hh, r⟩
  · exact .inl h2
  · refine .inr ⟨g, cap, cur, hv, hg, ?_, r⟩
    rw [hw.2.2.2.2 g ?_ (.inr (Nat.le_trans hT hg))]
    · exact hh
    · rcases Nat.lt_or_ge g w.heap.size with h' | h'
      · exact h'
      · rw [Array.getElem?_eq_none h'] at hh; cases hh
theorem tabU.within0 {E e : TypeId} {w w' : World} {B T B' T' : Nat} {v : Value} {M : List (List Int)} (h : tabU E e w B T v M) (hw : Within B' T' w w') (hT : T ≤ B' ∨ T' ≤ B) : tabU E e w' B T v M := by
  obtain ⟨vs, h1, h2, h3, h4, h5, h6⟩ := h
  have key : ∀ g, B ≤ g → g < T → g < w.heap.size → w'.heap[g]? = w.heap[g]? := fun g k1 k2 k3 => hw.2.2.2.2 g k3 (by omega)
  refine ⟨vs, h1, ⟨h2.1, ?_⟩, fun i hi => ⟨(h3 i hi).1, ?_⟩, h4, h5, h6⟩
  · rcases h2.2 with h7 | ⟨g, cap, cur, hv, hg, hh, r⟩
    · exact .inl h7
    · refine .inr ⟨g, cap, cur, hv, hg, ?_, r⟩
      rw [key g hg (h5 g (by rw [hv]; rfl)) (h2.lt g (by rw [hv]; rfl)).2]; exact hh
  · rcases (h3 i hi).2 with h7 | ⟨g, cap, cur, hv, hg, hh, r⟩
    · exact .inl h7
    · refine .inr ⟨g, cap, cur, hv, hg, ?_, r⟩
      rw [key g hg (h6 i hi g (by rw [hv]; rfl)) ((h3 i hi).lt g (by rw [hv]; rfl)).2]; exact hh
theorem tabU.kept {E e : TypeId} {w w' : World} {B T : Nat} {v : Value} {M : List (List Int)} (h : tabU E e w B T v M) (hb : Below w.heap.size w w') : tabU E e w' B T v M :=
  h.within0 (B' := T) (T' := T) (Within.of_below hb) (.inl (Nat.le_refl _))
theorem tabU.len {E e : TypeId} {w : World} {B T : Nat} {v : Value} {M : List (List Int)} (h : tabU E e w B T v M) : ∃ a c, v = .slice a M.length c := h.tab.len
/-- a row of a table is written as a whole -/
theorem tabU.wrote {E e : TypeId} {w : World} {B T : Nat} {v : Value} {M : List (List Int)} (hE : E ≠ e) (h : tabU E e w B T v M) {i : Nat} (hi : i < M.length) :
    ∃ g c rv, v = .slice (some ⟨g, 0, none⟩) M.length c ∧ g < w.heap.size ∧ g < T ∧ w.cell? ⟨g, i, none⟩ = some rv ∧ own e w B rv (rowOf M i) ∧ (∀ k, rv.ownBlock = some k → k < T ∧ k ≠ g) ∧ ∀ w' r, w.grownBy w' rv.ownBlock → own e w' B rv r → tabU E e w' B T v (M.set i r) := by
  obtain ⟨vs, h1, h2, h3, h4, h5, h6⟩ := h
  have hcell : ∃ g c, v = .slice (some ⟨g, 0, none⟩) M.length c ∧ g < w.heap.size ∧ w.cell? ⟨g, i, none⟩ = some (slot vs i) := by
    rcases h2.2 with ⟨rfl, hn⟩ | ⟨g, cap, cur, rfl, hg, hh, _⟩
    · omega
    · refine ⟨g, cap, rfl, (h2.lt g rfl).2, ?_⟩
      have := World.ownsRow.cells h2 (g := g) rfl i (slot vs i) (slot_get (by omega))
      have e : (⟨g, 0, none⟩ : Addr).add i = ⟨g, 0 + i, none⟩ := by unfold Addr.add; split <;> simp_all
      rw [e, Nat.zero_add] at this
      exact this
  obtain ⟨g, c, hv, hg, hc⟩ := hcell
  have hne : ∀ k, (slot vs i).ownBlock = some k → v.ownBlock ≠ some k := fun k hk e => by
    obtain ⟨c1, hk1⟩ := row_block h2 e
    obtain ⟨c2, hk2⟩ := own_block (h3 i hi) hk
    exact block_ne hE hk1 hk2 rfl
  refine ⟨g, c, slot vs i, hv, hg, h5 g (by rw [hv]; rfl), hc, h3 i hi, fun k hk => ⟨h6 i hi k hk, fun e => hne k hk (by rw [hv, e]; rfl)⟩, fun w' r hgr hr => ⟨vs, by rw [List.length_set]; exact h1, ?_, fun j hj => ?_, fun a b ha hb => h4 a b (by rwa [List.length_set] at ha) (by rwa [List.length_set] at hb), h5, fun j hj => h6 j (by rwa [List.length_set] at hj)⟩⟩
  · rw [List.length_set]
    refine h2.kept hgr ?_
    cases hvo : v.ownBlock with
    | none => exact .inl rfl
    | some k => exact .inr fun e => hne k e.symm hvo
  · rw [List.length_set] at hj
    by_cases hij : i = j
    · subst hij
      rw [rowOf_set_same hi]
      exact hr
    · rw [rowOf_set_other hij]
      exact (h3 j hj).apart hgr fun k hk e => h4 i j hi hj hij k e hk
/-- the numbers of a function of two places -/
def tabL (m : Nat) (f : Nat → Nat → Int) : List (List Int) := (List.range m).map fun i => (List.range m).map fun j => f i j
theorem tabL_length (m f) : (tabL m f).length = m := by simp [tabL]
theorem rowOf_tabL {m f i} (h : i < m) : rowOf (tabL m f) i = (List.range m).map (f i) := by simp [rowOf, tabL, h]
theorem rowOf_len {m f i} (h : i < m) : (rowOf (tabL m f) i).length = m := by rw [rowOf_tabL h]; simp
theorem nth_row {m f i j} (hi : i < m) (hj : j < m) : nth (rowOf (tabL m f) i) j = f i j := by rw [rowOf_tabL hi]; simp [nth, hj]
theorem tabL_zero (m : Nat) : List.replicate m (List.replicate m (0 : Int)) = tabL m (fun _ _ => 0) := by
  apply List.ext_getElem (by simp [tabL])
  intro i h1 h2
  simp only [tabL, List.getElem_replicate, List.getElem_map]
  apply List.ext_getElem (by simp)
  intro j h3 h4
  simp
def put2 (f : Nat → Nat → Int) (x y : Nat) (u : Int) : Nat → Nat → Int := fun i j => if i = x ∧ j = y then u else f i j
theorem tabL_put {m f x y} (u : Int) (hx : x < m) : (tabL m f).set x ((rowOf (tabL m f) x).set y u) = tabL m (put2 f x y u) := by
  apply List.ext_getElem (by simp [tabL])
  intro i h1 h2
  rw [List.length_set, tabL_length] at h1
  rw [List.getElem_set]
  by_cases e : x = i
  · subst e
    rw [if_pos rfl, rowOf_tabL hx]
    apply List.ext_getElem (by simp [tabL])
    intro j h3 h4
    rw [List.getElem_set]
    by_cases e2 : y = j
    · subst e2; simp [tabL, put2]
    · have : ¬ j = y := fun h => e2 h.symm
      simp [tabL, put2, e2, this]
  · have : ¬ i = x := fun h => e h.symm
    simp [tabL, put2, e, this]
def add2 (f : Nat → Nat → Int) (x y : Nat) (s : Int) : Nat → Nat → Int := put2 f x y (wrap64 (f x y + s))
theorem grown_set_plus (w : World) (g i : Nat) (u : Value) (j : List Obj) (d : Nat) : w.grownBy (plus (w.setCell ⟨g, i, none⟩ u) j d) (some g) := by
  have h : Below (w.setCell ⟨g, i, none⟩ u).heap.size (w.setCell ⟨g, i, none⟩ u) (plus (w.setCell ⟨g, i, none⟩ u) j d) := below_plus (Below.refl _ _) (Nat.le_refl _) j d
  exact grownBy_trans (grownBy_setCell w g i u) ⟨h.os, h.tape, h.output, h.size, fun k hk _ => h.block k hk⟩
/-- a crossing of two strands -/
def cross2 (f : Nat → Nat → Int) (x y : Nat) (s : Int) : Nat → Nat → Int := add2 (add2 f x y s) y x s
/-- the crossings of the first letters -/
def crossF (m : Nat) (xs : List Int) : Nat → Nat → Nat → Int
  | 0 => fun _ _ => 0
  | k + 1 => cross2 (crossF m xs k) (seqK m (absL xs) k ((nth xs k).natAbs - 1)) (seqK m (absL xs) k (nth xs k).natAbs) (sgn (nth xs k))
set_option maxHeartbeats 4000000 in
theorem crossC_any (m x y b B T : Nat) (z : Int) (v : Value) (f : Nat → Nat → Int) (w : World) (hx : x < m) (hy : y < m) (h8 : m ≤ 8) (ht : tabU 24 2 w B T v (tabL m f)) (hb : w.heap[b]? = some (.cells #[v] 37)) (hbT : T ≤ b) : Calls Tryz.prog 40 #[.int .i64 x, .int .i64 y, .int .i64 z, .pointer (some ⟨b, 0, none⟩)] w fun e w' => e = .returned (.tuple #[]) ∧ tabU 24 2 w' B T v (tabL m (cross2 f x y (sgn z))) ∧ Within B T w w' := by
  go_enter Tryz.func40, Tryz.ntmps40
  obtain ⟨g, c, rv, hv, hg, hgT, hc, ho, hrT, hw⟩ := ht.wrote (by decide) (show x < (tabL m f).length by rw [tabL_length]; omega)
  obtain ⟨k, cx, rfl, hkB, hkl, hkc⟩ := own_some ho (by rw [rowOf_len (by omega)]; omega)
  have hd := ho.cell (i := y) (by rw [rowOf_len (by omega)]; omega)
  have hf := ho.free y
  have hkT := hrT k rfl
  rw [rowOf_len (by omega)] at hc
  rw [nth_row (by omega) (by omega)] at hd
  rw [tabL_length] at hv
  have hbl := lt_of_block hb
  have hbc : w.cell? ⟨b, 0, none⟩ = some v := (by simp [World.cell?, hb])
  rw [hv] at hbc
  go_wp2_with fail
  refine region_plus_tail 10 (by kernel_rfl) (by kernel_rfl) ?_
  simp only [List.take_succ_cons, List.take_zero, List.drop_succ_cons, List.drop_zero]
  repeat (go_big_quiet_step (first | (go_at_call 37; exact calls_plus0 (sign_any _ _))))
  refine wpQuiet_nil ?_
  intro _ hw'
  obtain ⟨q, hw''⟩ := hw'
  subst hw''
  rw [plusq_eq]
  generalize q.j = j
  generalize q.d = d
  clear q
  go_wp2_with fail
  have hG := grown_set_plus w k y (.int .i64 (wrap64 (f x y + sgn z))) j d
  have hO := (ho.set y (wrap64 (f x y + sgn z))).kept (below_plus (Below.refl _ _) (Nat.le_refl _) j d)
  have hb1 := (hG.block b hbl (by rintro ⟨⟩; omega)).trans hb
  have hW := Within.of_grown (B := B) (T := T) hG (fun k' hk' => (by cases hk'; exact ⟨hkB, hkT.1⟩))
  have ht1 := hw _ _ hG hO
  rw [tabL_put _ (by omega)] at ht1
  obtain ⟨w1, hw1⟩ : ∃ w1, plus (w.setCell ⟨k, y, none⟩ (.int .i64 (wrap64 (f x y + sgn z)))) j d = w1 := ⟨_, rfl⟩
  rw [hw1] at hb1 hW ht1 ⊢
  clear hw1 hO hG hw hrT hkT hf hd ho hc hgT hg hkB hkl hkc hbl hbc hb ht
  have ht := ht1
  have hb := hb1
  have hW0 := hW
  clear ht1 hb1 hW hv
  obtain ⟨g, c, rv, hv, hg, hgT, hc, ho, hrT, hw⟩ := ht.wrote (by decide) (show y < (tabL m (add2 f x y (sgn z))).length by rw [tabL_length]; omega)
  obtain ⟨k, cx, rfl, hkB, hkl, hkc⟩ := own_some ho (by rw [rowOf_len (by omega)]; omega)
  have hd := ho.cell (i := x) (by rw [rowOf_len (by omega)]; omega)
  have hf := ho.free x
  have hkT := hrT k rfl
  rw [rowOf_len (by omega)] at hc
  rw [nth_row (by omega) (by omega)] at hd
  rw [tabL_length] at hv
  have hbl := lt_of_block hb
  have hbc : w1.cell? ⟨b, 0, none⟩ = some v := (by simp [World.cell?, hb])
  rw [hv] at hbc
  refine region_plus_tail 10 (by kernel_rfl) (by kernel_rfl) ?_
  simp only [List.take_succ_cons, List.take_zero, List.drop_succ_cons, List.drop_zero]
  repeat (go_big_quiet_step (first | (go_at_call 37; exact calls_plus0 (sign_any _ _))))
  refine wpQuiet_nil ?_
  intro _ hw'
  obtain ⟨q, hw''⟩ := hw'
  subst hw''
  rw [plusq_eq]
  generalize q.j = j
  generalize q.d = d
  clear q
  go_wp2_with fail
  have hG := grown_set_plus w1 k x (.int .i64 (wrap64 ((add2 f x y (sgn z)) y x + sgn z))) j d
  have hO := (ho.set x (wrap64 ((add2 f x y (sgn z)) y x + sgn z))).kept (below_plus (Below.refl _ _) (Nat.le_refl _) j d)
  have hb1 := (hG.block b hbl (by rintro ⟨⟩; omega)).trans hb
  have hW := Within.of_grown (B := B) (T := T) hG (fun k' hk' => (by cases hk'; exact ⟨hkB, hkT.1⟩))
  have ht1 := hw _ _ hG hO
  rw [tabL_put _ (by omega)] at ht1
  go_end0
  exact ⟨rfl, ht1, hW0.trans hW⟩
end Go.Proofs.YtgkpdklkeajipaaGreatDoor
