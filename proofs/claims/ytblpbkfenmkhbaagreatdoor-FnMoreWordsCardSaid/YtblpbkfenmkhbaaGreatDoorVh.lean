/- Strands of a braid, by the program. Conditions: as each theorem says. -/
import Derived.Test.YtblpbkfenmkhbaaGreatDoorVg
import Derived.BigRegion
import Derived.Deep.Cut
namespace Go.Proofs.YtblpbkfenmkhbaaGreatDoor
open Go.RowKit
set_option linter.unusedSimpArgs false
set_option linter.unusedVariables false
/-- the numbers of a function's first m values -/
def lstOf (m : Nat) (s : Nat → Nat) : List Int := (List.range m).map fun i => (s i : Int)
theorem lstOf_length (m s) : (lstOf m s).length = m := by simp [lstOf]
theorem nth_lstOf {m s i} (h : i < m) : nth (lstOf m s) i = (s i : Int) := by simp [nth, lstOf, h]
theorem lstOf_succ (s : Nat → Nat) (k : Nat) : lstOf k s ++ [(s k : Int)] = lstOf (k + 1) s := by simp [lstOf, List.range_succ]
theorem lstOf_ext {m : Nat} {s t : Nat → Nat} (h : ∀ i, i < m → s i = t i) : lstOf m s = lstOf m t :=
  ext_nth (by simp [lstOf]) fun i hi => by rw [lstOf_length] at hi; rw [nth_lstOf hi, nth_lstOf hi, h i hi]
theorem lstOf_set {m : Nat} (s : Nat → Nat) (i v : Nat) : (lstOf m s).set i (v : Int) = lstOf m (updN s i v) := by
  refine ext_nth (by simp [lstOf]) fun j hj => ?_
  rw [List.length_set, lstOf_length] at hj
  rw [nth_lstOf hj]
  unfold nth
  by_cases e : i = j
  · subst e; simp [lstOf_length, hj, updN]
  · rw [List.getD_eq_getElem?_getD, List.getElem?_set_ne e, ← List.getD_eq_getElem?_getD]
    have := nth_lstOf (s := s) hj
    unfold nth at this
    rw [this]
    have : ¬ j = i := fun h => e h.symm
    simp [updN, this]
theorem swap_steps2 (c : Nat → Nat) (p : Nat) : updN (updN c p (c (p + 1))) (p + 1) (c p) = swapK c (p + 1) := by
  funext j
  simp only [swapK_at, updN, Nat.add_sub_cancel]
theorem own_cells {e : TypeId} {w : World} {B g n c : Nat} {xs : List Int} (h : own e w B (.slice (some ⟨g, 0, none⟩) n c) xs) {i : Nat} (hi : i < xs.length) : ∀ d', (w.drewN d').cell? ⟨g, i, none⟩ = some (.int .i64 (nth xs i)) := fun _ => h.cell hi
theorem own_heap {e : TypeId} {w w' : World} {B : Nat} {v : Value} {xs : List Int} (hh : w.heap = w'.heap) (h : own e w B v xs) : own e w' B v xs := by
  obtain ⟨h1, h2⟩ := h
  refine ⟨h1, ?_⟩
  rcases h2 with h2 | ⟨g, cap, cur, hv, hg, hw, r⟩
  · exact .inl h2
  · exact .inr ⟨g, cap, cur, hv, hg, by rw [← hh]; exact hw, r⟩
theorem below_two {B : Nat} {w : World} {n g i j : Nat} {a b : Value} (hB : B ≤ g) (hs : B ≤ w.heap.size) : Below B w (((w.drewN n).setCell ⟨g, i, none⟩ a).setCell ⟨g, j, none⟩ b) :=
  ⟨rfl, rfl, rfl, by simp, fun k hk => by
    rw [heap_setCell_other _ _ k b (by show k ≠ g; omega), heap_setCell_other _ _ k a (by show k ≠ g; omega)]; rfl⟩
theorem own.drewN {e : TypeId} {w : World} {B : Nat} {v : Value} {xs : List Int} (h : own e w B v xs) (n : Nat) : own e (w.drewN n) B v xs := h
set_option maxHeartbeats 400000 in
theorem strandsOf_any (m : Nat) (w : World) (h8 : m ≤ 8) : Calls Tryz.prog 76 #[.int .i64 m] w (RetInts 2 w (lstOf m (idK m))) := by
  go_enter Tryz.func76, Tryz.ntmps76
  go_wp2
  go_loopw [3, 7] (fun vo sl wr => ∃ (v0 : Value) (k : Nat) (j : List Obj) (d : Nat), v0 = vo ∧ k ≤ m ∧ sl = .int .i64 k ∧ wr = plus w j d ∧ own 2 (plus w j d) w.heap.size v0 (lstOf k (fun i => i))) (fun _ sl _ => m - (intOf sl).toNat)
  case atStart => exact ⟨_, 0, [.cells #[] 2], w.drawn, rfl, by omega, rfl, rfl, own_made (Nat.le_refl _) (by decide) rfl⟩
  case round =>
    obtain ⟨v, k, j, d, rfl, hk, rfl, rfl, hown⟩ := hrel
    by_cases hlt : k < m
    · have hll : (lstOf k fun i => i).length < 1000000000 := by rw [lstOf_length]; omega
      go_wp2_with (first | (at_builtin; go_loud (refine wpList_append1p rfl _ _ 24 rfl Tryz.underlying24 infoI _ rfl _ rfl ?_ hown ?_ ?_; ((try simp only [plus_size, World.size_alloc, World.size_drew, World.size_setCell, size_setRow, World.heap_drewN, List.length_append]) <;> omega); (exact hll); intro v' j' d' hown'; clear hown)))
      go_roundw
      case rel => exact ⟨_, k + 1, _, _, rfl, by omega, by go_num, rfl, by rw [← lstOf_succ]; exact hown'⟩
      case measure => simp [intOf]; omega
    · obtain rfl : m = k := by omega
      go_wp2
      go_ret
      exact ⟨_, rfl, by (repeat (first | (with_reducible exact Below.refl _ _) | (with_reducible assumption) | (with_reducible refine below_plus' ?_ ?_; ((try simp only [plus_size, World.size_alloc, World.size_drew, World.size_setCell, size_setRow, World.heap_drewN, List.length_append]) <;> omega)) | (with_reducible refine below_alloc' ?_ ?_; ((try simp only [plus_size, World.size_alloc, World.size_drew, World.size_setCell, size_setRow, World.heap_drewN, List.length_append]) <;> omega)) | with_reducible refine Below.drew ?_ | (with_reducible refine below_drewN' ?_ _) | exact Below.refl _ _)), by rw [lstOf_ext (t := fun i => i) (fun i hi => by simp [idK, hi])]; exact hown⟩
theorem size_any (x : Int) (w : World) (h1 : -1000 ≤ x) (h2 : x ≤ 1000) : Calls Tryz.prog 35 #[.int .i64 x] w fun e w' => e = .returned (.int .i64 (x.natAbs : Int)) ∧ w = w' := by
  by_cases h : x < -x
  · have e := Lib.hid (show (x.natAbs : Int) = -x by omega)
    go_enter Tryz.func35, Tryz.ntmps35
    go_wp2
    go_ret
    exact ⟨by rw [e.out]; rfl, rfl⟩
  · have e := Lib.hid (show (x.natAbs : Int) = x by omega)
    have h' : -x ≤ x := by omega
    go_enter Tryz.func35, Tryz.ntmps35
    go_wp2
    go_ret
    exact ⟨by rw [e.out]; rfl, rfl⟩
theorem none_any (x y z : Int) (w : World) : Calls Tryz.prog 67 #[.int .i64 x, .int .i64 y, .int .i64 z] w fun e w' => e = .returned (.tuple #[]) ∧ w = w' := by
  go_enter Tryz.func67, Tryz.ntmps67
  go_wp2
  go_end0
  exact ⟨rfl, rfl⟩
set_option maxHeartbeats 1000000 in
theorem follow_any (m : Nat) (v : Value) (xs : List Int) (w : World) (h : reads w v xs) (h1 : 1 ≤ m) (h2 : m ≤ 8) (hlen : xs.length ≤ 200) (hlet : LetK m (absL xs) xs.length) : Calls Tryz.prog 66 #[.agg #[.int .i64 m, v], .func (.func 67) #[] #[]] w (RetInts 2 w (lstOf m (seqK m (absL xs) xs.length))) := by
  obtain ⟨a, c, rfl, h⟩ := h
  have Hr := Lib.hid (show 0 < xs.length → ∃ b o, a = some ⟨b, o, none⟩ ∧ b < w.heap.size ∧ ∀ i, i < xs.length → w.cell? ⟨b, o + i, none⟩ = some (.int .i64 (nth xs i)) from fun hp => by
    rcases h with h | ⟨b, o, rfl, m⟩
    · rw [h] at hp; cases hp
    · exact ⟨b, o, rfl, World.block_lt_of_cell? w _ (m 0 hp), m⟩)
  clear h
  have Hlet := Lib.hid hlet
  clear hlet
  go_enter Tryz.func66, Tryz.ntmps66
  go_wp2_with (first | (go_at_call 76; refine Calls.mono (strandsOf_any _ _ h2) ?_; rintro e w' ⟨vo, rfl, hB, ho⟩; obtain ⟨g, ca, rfl, hgB, hgl, hcap⟩ := own_some ho (by rw [lstOf_length]; omega); (simp only [lstOf_length] at ho hcap ⊢); obtain ⟨j0, d0, rfl⟩ := plus_of_below hB; clear hB))
  go_loopw [15] (fun sl wr => ∃ k : Nat, k ≤ xs.length ∧ sl = .int .i64 k ∧ own 2 wr (w.alloc (.cells #[.int .i64 m, .slice a xs.length c] 26)).heap.size (.slice (some ⟨g, 0, none⟩) m ca) (lstOf m (seqK m (absL xs) k)) ∧ Below (w.alloc (.cells #[.int .i64 m, .slice a xs.length c] 26)).heap.size (w.alloc (.cells #[.int .i64 m, .slice a xs.length c] 26)) wr) (fun sl _ => xs.length - (intOf sl).toNat)
  case atStart => exact ⟨0, by omega, rfl, ho.mono (by ((try simp only [plus_size, World.size_alloc, World.size_drew, World.size_setCell, size_setRow, World.heap_drewN, List.length_append]) <;> omega)), by (repeat (first | (with_reducible exact Below.refl _ _) | (with_reducible assumption) | (with_reducible refine below_plus' ?_ ?_; ((try simp only [plus_size, World.size_alloc, World.size_drew, World.size_setCell, size_setRow, World.heap_drewN, List.length_append]) <;> omega)) | (with_reducible refine below_alloc' ?_ ?_; ((try simp only [plus_size, World.size_alloc, World.size_drew, World.size_setCell, size_setRow, World.heap_drewN, List.length_append]) <;> omega)) | with_reducible refine Below.drew ?_ | (with_reducible refine below_drewN' ?_ _) | exact Below.refl _ _))⟩
  case round =>
    clear ho
    obtain ⟨k, hk, rfl, hown, hbel⟩ := hrel
    by_cases hlt : k < xs.length
    · obtain ⟨b, o, rfl, hbk, mm⟩ := Hr.out (by omega)
      have g0 := mm k hlt
      have g1 : wr.cell? ⟨b, o + k, none⟩ = some (.int .i64 (nth xs k)) := by
        rw [hbel.cell (p := ⟨b, o + k, none⟩) (by ((try simp only [plus_size, World.size_alloc, World.size_drew, World.size_setCell, size_setRow, World.heap_drewN, List.length_append]) <;> omega)), World.cell?_alloc_past _ _ _ (by ((try simp only [plus_size, World.size_alloc, World.size_drew, World.size_setCell, size_setRow, World.heap_drewN, List.length_append]) <;> omega))]; exact g0
      obtain ⟨p, hp, hx, hs⟩ := letter_cases Hlet.out hlt
      have HS := Lib.hid (show swapK (seqK m (absL xs) k) (p + 1) = seqK m (absL xs) (k + 1) from (funext hs).symm)
      have c1 := hown.cell (i := p) (by rw [lstOf_length]; omega)
      have c2 := hown.cell (i := p + 1) (by rw [lstOf_length]; omega)
      rw [nth_lstOf (by omega)] at c1 c2
      have f1 := hown.free p
      have f2 := hown.free (p + 1)
      have hp8 : p < 8 := by omega
      have hpm : p < m := by omega
      have hpw : IntKind.i64.wrap (p : Int) = p := by rw [IntKind.wrap_i64]; omega
      have hgl := (hown.lt g rfl).2
      clear mm Hr hs g0
      rcases hx with hx | hx
      · rw [hx] at g1
        clear hx
        have hab : ((((p : Int) + 1) : Int).natAbs : Int) = (p : Int) + 1 := by omega
        go_upto_region 6 with (first | (go_at_call 35; refine (size_any _ _ (by omega) (by omega)).mono ?_; rw [hab]; rintro e w' ⟨rfl, rfl⟩))
        go_quiet ((go_at_call 67; refine (none_any _ _ _ _).mono ?_; rintro e w'' ⟨rfl, rfl⟩; exact ⟨rfl, _, rfl⟩))
        go_wp2
        go_region
        go_wp2
        refine ⟨⟨k + 1, by omega, by go_num, ?_, ?_⟩, ?_⟩
        · have e := (hown.set p ((seqK m (absL xs) k (p + 1) : Nat) : Int)).set (p + 1) ((seqK m (absL xs) k p : Nat) : Int)
          rw [lstOf_set, lstOf_set, swap_steps2, HS.out] at e
          exact own_heap rfl e
        · exact hbel.trans (below_two (Nat.le_trans (Nat.le_refl _) hgB) hbel.size)
        · simp [intOf]; omega
      · rw [hx] at g1
        clear hx
        have hab : (((-((p : Int) + 1)) : Int).natAbs : Int) = (p : Int) + 1 := by omega
        go_upto_region 6 with (first | (go_at_call 35; refine (size_any _ _ (by omega) (by omega)).mono ?_; rw [hab]; rintro e w' ⟨rfl, rfl⟩))
        go_quiet ((go_at_call 67; refine (none_any _ _ _ _).mono ?_; rintro e w'' ⟨rfl, rfl⟩; exact ⟨rfl, _, rfl⟩))
        go_wp2
        go_region
        go_wp2
        refine ⟨⟨k + 1, by omega, by go_num, ?_, ?_⟩, ?_⟩
        · have e := (hown.set p ((seqK m (absL xs) k (p + 1) : Nat) : Int)).set (p + 1) ((seqK m (absL xs) k p : Nat) : Int)
          rw [lstOf_set, lstOf_set, swap_steps2, HS.out] at e
          exact own_heap rfl e
        · exact hbel.trans (below_two (Nat.le_trans (Nat.le_refl _) hgB) hbel.size)
        · simp [intOf]; omega
    · obtain rfl : k = xs.length := by omega
      go_wp2
      go_ret
      exact ⟨_, rfl, Below.trans (show Below w.heap.size w (w.alloc (.cells #[.int .i64 m, .slice a xs.length c] 26)) by (repeat (first | (with_reducible exact Below.refl _ _) | (with_reducible assumption) | (with_reducible refine below_plus' ?_ ?_; ((try simp only [plus_size, World.size_alloc, World.size_drew, World.size_setCell, size_setRow, World.heap_drewN, List.length_append]) <;> omega)) | (with_reducible refine below_alloc' ?_ ?_; ((try simp only [plus_size, World.size_alloc, World.size_drew, World.size_setCell, size_setRow, World.heap_drewN, List.length_append]) <;> omega)) | with_reducible refine Below.drew ?_ | (with_reducible refine below_drewN' ?_ _) | exact Below.refl _ _))) (hbel.mono (by ((try simp only [plus_size, World.size_alloc, World.size_drew, World.size_setCell, size_setRow, World.heap_drewN, List.length_append]) <;> omega))), hown.mono (by ((try simp only [plus_size, World.size_alloc, World.size_drew, World.size_setCell, size_setRow, World.heap_drewN, List.length_append]) <;> omega))⟩
end Go.Proofs.YtblpbkfenmkhbaaGreatDoor
