/- Burau's matrix at -1, by the program. Conditions: as each theorem says. -/
import Derived.Test.YtnbpkbkgbpfomaaYd
import Derived.Test.YtnbpkbkgbpfomaaX2
import Derived.Deep.RegionWith
import Derived.BigRegion
import Derived.Deep.Cut
import Derived.Deep.CutRange
namespace Go.Proofs.Ytnbpkbkgbpfomaa
open Go.RowKit
set_option linter.unusedSimpArgs false
set_option linter.unusedVariables false
open Go.RowKit
/-- ones on the first places of the diagonal -/
def diagF (k : Nat) : Nat → Nat → Int := fun i j => if j = i ∧ i < k then 1 else 0
theorem diagF_succ (k : Nat) : put2 (diagF k) k k 1 = diagF (k + 1) := by
  funext i j
  simp only [put2, diagF]
  by_cases h : i = k ∧ j = k
  · obtain ⟨rfl, rfl⟩ := h
    rw [if_pos ⟨rfl, rfl⟩, if_pos ⟨rfl, by omega⟩]
  · rw [if_neg h]
    by_cases h2 : j = i ∧ i < k
    · rw [if_pos h2, if_pos ⟨h2.1, by omega⟩]
    · rw [if_neg h2, if_neg (by omega)]
theorem tabL_ext {m : Nat} {f g : Nat → Nat → Int} (h : ∀ i, i < m → ∀ j, j < m → f i j = g i j) : tabL m f = tabL m g := by
  apply List.map_congr_left
  intro i hi
  apply List.map_congr_left
  intro j hj
  exact h i (by simpa using hi) j (by simpa using hj)
theorem diagF_0 (m : Nat) : List.replicate m (List.replicate m (0 : Int)) = tabL m (diagF 0) := by
  rw [tabL_zero]
  exact tabL_ext fun i _ j _ => by simp [diagF]
theorem diagF_all (r : Nat) (xs : List Int) : tabL r (diagF r) = tabL r (burF xs 0) := tabL_ext fun i hi j _ => by simp [diagF, burF, hi]
/-- the first rows of G, the others of F -/
def mixF (F G : Nat → Nat → Int) (k : Nat) : Nat → Nat → Int := fun i j => if i < k then G i j else F i j
theorem mixF_0 (F G) : mixF F G 0 = F := by funext i j; simp [mixF]
theorem mixF_all (r : Nat) (F G : Nat → Nat → Int) : tabL r (mixF F G r) = tabL r G := tabL_ext fun i hi j _ => by simp [mixF, hi]
theorem mixF_row (F G : Nat → Nat → Int) (i : Nat) : mixF F G i i = F i := by funext j; simp [mixF]
/-- what stands to the left of the letter -/
def leftF (M : Nat → Nat → Int) (i p : Nat) (u : Int) : Nat → Nat → Int := if 1 ≤ p then put2 M i (p - 1) u else M
def rightF (r : Nat) (M : Nat → Nat → Int) (i p : Nat) (u : Int) : Nat → Nat → Int := if p + 1 < r then put2 M i (p + 1) u else M
theorem leftF_yes {M i p u} (h : 1 ≤ p) : leftF M i p u = put2 M i (p - 1) u := if_pos h
theorem leftF_no {M i p u} (h : ¬ 1 ≤ p) : leftF M i p u = M := if_neg h
theorem rightF_yes {r M i p u} (h : p + 1 < r) : rightF r M i p u = put2 M i (p + 1) u := if_pos h
theorem rightF_no {r M i p u} (h : ¬ p + 1 < r) : rightF r M i p u = M := if_neg h
theorem leftF_at {M i p u} (j : Nat) (h : p ≤ j) : leftF M i p u i j = M i j := by
  unfold leftF; split
  · simp [put2, show ¬ j = p - 1 by omega]
  · rfl
theorem both_mix {r p : Nat} {F : Nat → Nat → Int} {s : Int} {i : Nat} (hi : i < r) : tabL r (rightF r (leftF (mixF F (stepF F p s) i) i p (F i (p - 1) - F i p * s)) i p (F i (p + 1) + F i p * s)) = tabL r (mixF F (stepF F p s) (i + 1)) := by
  refine tabL_ext fun i' hi' j hj => ?_
  have key : ∀ M : Nat → Nat → Int, (∀ j, M i j = F i j) → rightF r (leftF M i p (F i (p - 1) - F i p * s)) i p (F i (p + 1) + F i p * s) i' j = if i' = i then stepF F p s i j else M i' j := by
    intro M hM
    unfold rightF leftF stepF
    by_cases e : i' = i
    · subst e
      rw [if_pos rfl]
      by_cases h1 : 1 ≤ p
      · by_cases h2 : p + 1 < r
        · rw [if_pos h2, if_pos h1]
          simp only [put2]
          by_cases j1 : j = p + 1
          · rw [if_pos (by exact ⟨trivial, j1⟩), if_neg (by omega), if_pos j1, j1]
          · rw [if_neg (by omega)]
            by_cases j2 : j = p - 1
            · rw [if_pos (by exact ⟨trivial, j2⟩), if_pos (by omega), j2]
            · rw [if_neg (by omega), if_neg (by omega), if_neg j1, hM]
        · rw [if_neg h2, if_pos h1]
          simp only [put2]
          by_cases j2 : j = p - 1
          · rw [if_pos (by exact ⟨trivial, j2⟩), if_pos (by omega), j2]
          · rw [if_neg (by omega), if_neg (by omega), if_neg (by omega), hM]
      · by_cases h2 : p + 1 < r
        · rw [if_pos h2, if_neg h1]
          simp only [put2]
          by_cases j1 : j = p + 1
          · rw [if_pos (by exact ⟨trivial, j1⟩), if_neg (by omega), if_pos j1, j1]
          · rw [if_neg (by omega), if_neg (by omega), if_neg j1, hM]
        · rw [if_neg h2, if_neg h1, if_neg (by omega), if_neg (by omega), hM]
    · rw [if_neg e]
      split <;> split <;> simp [put2, e]
  rw [key _ (fun j => by rw [mixF_row])]
  simp only [mixF]
  by_cases e : i' = i
  · subst e; simp
  · rw [if_neg e]
    have e2 : (i' < i) = (i' < i + 1) := propext ⟨by omega, by omega⟩
    simp only [e2]
/-- a row of a table, known by where it lies: what it holds, and what a write into it leaves -/
theorem tab_step {E' e : TypeId} {w : World} {B g c kb cx r : Nat} {M : Nat → Nat → Int} (hE : E' ≠ e) (h : tab E' e w B (.slice (some ⟨g, 0, none⟩) r c) (tabL r M)) {i : Nat} (hi : i < r) (hB : B ≤ w.heap.size) (hc : w.cell? ⟨g, i, none⟩ = some (.slice (some ⟨kb, 0, none⟩) r cx)) :
    own e w B (.slice (some ⟨kb, 0, none⟩) r cx) ((List.range r).map (M i)) ∧ g < w.heap.size ∧ kb < w.heap.size ∧ B ≤ kb ∧ (∀ y, y < r → w.cell? ⟨kb, y, none⟩ = some (.int .i64 (M i y))) ∧ (∀ y u w', Below (w.setCell ⟨kb, y, none⟩ (.int .i64 u)).heap.size (w.setCell ⟨kb, y, none⟩ (.int .i64 u)) w' → tab E' e w' B (.slice (some ⟨g, 0, none⟩) r c) (tabL r (put2 M i y u)) ∧ w'.cell? ⟨g, i, none⟩ = some (.slice (some ⟨kb, 0, none⟩) r cx) ∧ Below B w w') := by
  obtain ⟨vs, _, h2, _⟩ := id h
  obtain ⟨g1, c1, rv, hv, hg, hc1, ho, hw⟩ := h.wrote hE (i := i) (by rw [tabL_length]; exact hi)
  rw [tabL_length] at hv h2
  cases hv
  rw [hc] at hc1
  cases hc1
  rw [rowOf_tabL hi] at ho
  have hlen : ((List.range r).map (M i)).length = r := by simp
  obtain ⟨kb1, cx1, hk, hkB, hkl, _⟩ := own_some ho (by rw [hlen]; omega)
  rw [hlen] at hk
  cases hk
  refine ⟨ho, hg, hkl, hkB, fun y hy => ?_, fun y u w' hb => ?_⟩
  · have := ho.cell (i := y) (by rw [hlen]; exact hy)
    rw [this, ← rowOf_tabL hi, nth_row hi hy]
  · have hG := grownBy_setCell w kb y (.int .i64 u)
    have hG2 : w.grownBy w' (some kb) := grownBy_trans hG ⟨hb.os, hb.tape, hb.output, hb.size, fun k hk _ => hb.block k hk⟩
    have hO := (ho.set y u).kept hb
    have ht := hw w' _ hG2 hO
    rw [← rowOf_tabL hi, tabL_put u hi] at ht
    refine ⟨ht, ?_, below_of_grown hG2 hB (at_le hkB)⟩
    have hne : g ≠ kb := by
      rintro rfl
      obtain ⟨c1, hk1⟩ := row_block h2 (k := g) rfl
      obtain ⟨c2, hk2⟩ := own_block ho (k := g) rfl
      exact block_ne hE hk1 hk2 rfl
    have : w'.heap[g]? = w.heap[g]? := hG2.block g hg (by rintro ⟨⟩; exact hne rfl)
    simp only [World.cell?] at hc ⊢
    rw [this]; exact hc
theorem wrap64_of {x : Int} (h1 : -9223372036854775808 ≤ x) (h2 : x < 9223372036854775808) : wrap64 x = x := by unfold wrap64; omega
theorem mul_sgn (v z : Int) (h : -1000000000000 ≤ v ∧ v ≤ 1000000000000) : -1000000000000 ≤ v * sgn z ∧ v * sgn z ≤ 1000000000000 := by
  unfold sgn
  split
  · omega
  · omega
theorem allC_row {r : Nat} {G : Nat → Int} : allC ((List.range r).map G) = decide (∀ j, j < r → inB (G j) (-1000000000000) 1000000000000 = true) := by
  unfold allC
  congr 1
  simp only [List.length_map, List.length_range]
  refine propext ⟨fun h j hj => ?_, fun h j hj => ?_⟩
  · have := h j hj
    rwa [show nth ((List.range r).map G) j = G j by simp [nth, hj]] at this
  · rw [show nth ((List.range r).map G) j = G j by simp [nth, hj]]
    exact h j hj
theorem farB_any (x : Int) (w : World) : Calls Try.prog 24 #[.int .i64 x] w fun e w' => e = .returned (.bool (!inB x (-1000000000000) 1000000000000)) ∧ w = w' := by
  go_enter Try.func24, Try.ntmps24
  go_wp2_with (first | (go_at_call 25; refine (within_any _ _ _ _).mono ?_; rintro e w' ⟨rfl, rfl⟩))
  go_ret
  exact ⟨rfl, rfl⟩
set_option maxHeartbeats 400000 in
theorem indexB_any (v : Value) (xs : List Int) (w : World) (h : reads w v xs) (hlen : xs.length ≤ 2001) : Calls Try.prog 33 #[v, .func (.func 24) #[] #[]] w fun e w' => (∃ r : Int, e = .returned (.int .i64 r) ∧ decide (0 ≤ r) = !allC xs) ∧ Below w.heap.size w w' := by
  obtain ⟨a, c, rfl, h⟩ := h
  have Hr := Lib.hid (show 0 < xs.length → ∃ b o, a = some ⟨b, o, none⟩ ∧ b < w.heap.size ∧ ∀ i, i < xs.length → w.cell? ⟨b, o + i, none⟩ = some (.int .i64 (nth xs i)) from fun hp => by
    rcases h with h | ⟨b, o, rfl, m⟩
    · rw [h] at hp; cases hp
    · exact ⟨b, o, rfl, World.block_lt_of_cell? w _ (m 0 hp), m⟩)
  clear h
  go_enter Try.func33, Try.ntmps33
  go_wp2
  go_loop [8] (fun sl => ∃ k : Nat, k ≤ xs.length ∧ sl = .int .i64 k ∧ Hid (∀ i, i < k → inB (nth xs i) (-1000000000000) 1000000000000 = true)) (fun sl => xs.length - (intOf sl).toNat)
  case atStart => exact ⟨0, by omega, rfl, Lib.hid (fun i hi => by omega)⟩
  case round =>
    obtain ⟨k, hk, rfl, Hl⟩ := hrel
    by_cases hlt : k < xs.length
    · obtain ⟨b, o, rfl, hbk, mm⟩ := Hr.out (by omega)
      have g1 := mm k hlt
      clear mm Hr
      cases hin : inB (nth xs k) (-1000000000000) 1000000000000 with
      | false =>
        have HO := Lib.hid (allC_bad hlt hin)
        have hf := fun w => farB_any (nth xs k) w
        simp only [hin] at hf
        have Hf := Lib.hid hf
        clear hf hin
        go_wp2_with (first | (go_at_call 24; refine (Hf.out _).mono ?_; rintro e w' ⟨rfl, rfl⟩))
        go_ret
        exact ⟨⟨k, rfl, by rw [HO.out]; simp⟩, by (repeat (first | (with_reducible exact Below.refl _ _) | (with_reducible assumption) | (with_reducible refine below_plus' ?_ ?_; ((try simp only [plus_size, World.size_alloc, World.size_drew, World.size_setCell, size_setRow, World.heap_drewN, List.length_append]) <;> omega)) | (with_reducible refine below_alloc' ?_ ?_; ((try simp only [plus_size, World.size_alloc, World.size_drew, World.size_setCell, size_setRow, World.heap_drewN, List.length_append]) <;> omega)) | with_reducible refine Below.drew ?_ | (with_reducible refine below_drewN' ?_ _) | exact Below.refl _ _))⟩
      | true =>
        have HI := Lib.hid hin
        have hf := fun w => farB_any (nth xs k) w
        simp only [hin] at hf
        have Hf := Lib.hid hf
        clear hf hin
        go_wp2_with (first | (go_at_call 24; refine (Hf.out _).mono ?_; rintro e w' ⟨rfl, rfl⟩))
        go_round
        case rel => exact ⟨k + 1, by omega, by go_num, Lib.hid (fun i hi => by by_cases e : i = k; (· rw [e]; exact HI.out); (· exact Hl.out i (by omega)))⟩
        case measure => simp [intOf]; omega
    · obtain rfl : k = xs.length := by omega
      have HO := Lib.hid (allC_good Hl.out)
      go_wp2
      go_ret
      exact ⟨⟨-1, rfl, by rw [HO.out]; rfl⟩, by (repeat (first | (with_reducible exact Below.refl _ _) | (with_reducible assumption) | (with_reducible refine below_plus' ?_ ?_; ((try simp only [plus_size, World.size_alloc, World.size_drew, World.size_setCell, size_setRow, World.heap_drewN, List.length_append]) <;> omega)) | (with_reducible refine below_alloc' ?_ ?_; ((try simp only [plus_size, World.size_alloc, World.size_drew, World.size_setCell, size_setRow, World.heap_drewN, List.length_append]) <;> omega)) | with_reducible refine Below.drew ?_ | (with_reducible refine below_drewN' ?_ _) | exact Below.refl _ _))⟩
set_option maxHeartbeats 400000 in
theorem containsB_any (v : Value) (xs : List Int) (w : World) (h : reads w v xs) (hlen : xs.length ≤ 2001) : Calls Try.prog 23 #[v, .func (.func 24) #[] #[]] w fun e w' => e = .returned (.bool (!allC xs)) ∧ Below w.heap.size w w' := by
  have HI := Lib.hid (fun w' (hb : Below w.heap.size w w') => indexB_any v xs w' (h.kept hb) hlen)
  clear h
  go_enter Try.func23, Try.ntmps23
  go_wp2_with (first | (go_at_call 33; refine Calls.mono (HI.out _ ?_) ?_; (repeat (first | (with_reducible exact Below.refl _ _) | (with_reducible assumption) | (with_reducible refine below_plus' ?_ ?_; ((try simp only [plus_size, World.size_alloc, World.size_drew, World.size_setCell, size_setRow, World.heap_drewN, List.length_append]) <;> omega)) | (with_reducible refine below_alloc' ?_ ?_; ((try simp only [plus_size, World.size_alloc, World.size_drew, World.size_setCell, size_setRow, World.heap_drewN, List.length_append]) <;> omega)) | with_reducible refine Below.drew ?_ | (with_reducible refine below_drewN' ?_ _) | exact Below.refl _ _)); rintro e w' ⟨⟨r, rfl, hr⟩, hB⟩; obtain ⟨j, d, rfl⟩ := plus_of_below hB; clear hB))
  go_ret
  exact ⟨by rw [← hr]; rfl, by (repeat (first | (with_reducible exact Below.refl _ _) | (with_reducible assumption) | (with_reducible refine below_plus' ?_ ?_; ((try simp only [plus_size, World.size_alloc, World.size_drew, World.size_setCell, size_setRow, World.heap_drewN, List.length_append]) <;> omega)) | (with_reducible refine below_alloc' ?_ ?_; ((try simp only [plus_size, World.size_alloc, World.size_drew, World.size_setCell, size_setRow, World.heap_drewN, List.length_append]) <;> omega)) | with_reducible refine Below.drew ?_ | (with_reducible refine below_drewN' ?_ _) | exact Below.refl _ _))⟩
set_option maxRecDepth 20000 in
set_option maxHeartbeats 8000000 in
theorem impl_BurauAtMinusOne (n : Int) (v : Value) (xs : List Int) (w : World) (h : reads w v xs) (hlen : xs.length ≤ 1000000000) (hfit : Fits xs) : Calls Try.prog 7 #[.agg #[.int .i64 n, v]] w (RetTab2 22 2 w (burL n xs) (burC n xs)) := by
  unfold burL burC
  have hI := fun w' (hb : Below w.heap.size w w') => impl_IsBraid n v xs w' (h.kept hb) hlen hfit
  cases hok : okW n xs with
  | false =>
    simp only [hok] at hI
    have HI := Lib.hid hI
    clear hI h hfit hok
    go_enter Try.func7, Try.ntmps7
    go_wp2_with (first | (go_at_call 19; refine Calls.mono (HI.out _ ?_) ?_; (repeat (first | (with_reducible exact Below.refl _ _) | (with_reducible assumption) | (with_reducible refine below_plus' ?_ ?_; ((try simp only [plus_size, World.size_alloc, World.size_drew, World.size_setCell, size_setRow, World.heap_drewN, List.length_append]) <;> omega)) | (with_reducible refine below_alloc' ?_ ?_; ((try simp only [plus_size, World.size_alloc, World.size_drew, World.size_setCell, size_setRow, World.heap_drewN, List.length_append]) <;> omega)) | with_reducible refine Below.drew ?_ | (with_reducible refine below_drewN' ?_ _) | exact Below.refl _ _)); rintro e w' ⟨rfl, hB⟩; obtain ⟨j, d, rfl⟩ := plus_of_below hB; clear hB))
    go_ret2
    exact ⟨_, rfl, by (repeat (first | (with_reducible exact Below.refl _ _) | (with_reducible assumption) | (with_reducible refine below_plus' ?_ ?_; ((try simp only [plus_size, World.size_alloc, World.size_drew, World.size_setCell, size_setRow, World.heap_drewN, List.length_append]) <;> omega)) | (with_reducible refine below_alloc' ?_ ?_; ((try simp only [plus_size, World.size_alloc, World.size_drew, World.size_setCell, size_setRow, World.heap_drewN, List.length_append]) <;> omega)) | with_reducible refine Below.drew ?_ | (with_reducible refine below_drewN' ?_ _) | exact Below.refl _ _)), tab_nil _ _ _ _⟩
  | true =>
    simp only [hok] at hI
    have HI := Lib.hid hI
    have h200 := okW_len hok
    have hn1 := (okW_n hok).1
    have hn8 := (okW_n hok).2
    have HLET := Lib.hid (fun k (hk : k < xs.length) => let_b hok hk)
    clear hI hfit hok
    obtain ⟨r, hr1⟩ : ∃ r : Nat, n - 1 = r := ⟨(n - 1).toNat, by omega⟩
    have h8 : r ≤ 8 := by omega
    simp only [if_true, show n.toNat - 1 = r by omega]
    obtain ⟨a, c, rfl, hrd⟩ := h
    have HX := Lib.hid (show ∀ k, k < xs.length → ∃ b o, a = some ⟨b, o, none⟩ ∧ b < w.heap.size ∧ w.cell? ⟨b, o + k, none⟩ = some (.int .i64 (nth xs k)) from fun k hk => by
      rcases hrd with h | ⟨b, o, rfl, m⟩
      · rw [h] at hk; cases hk
      · exact ⟨b, o, rfl, World.block_lt_of_cell? w _ (m k hk), m k hk⟩)
    clear hrd
    go_enter Try.func7, Try.ntmps7
    go_wp2_with (first | (go_at_call 19; refine Calls.mono (HI.out _ ?_) ?_; (repeat (first | (with_reducible exact Below.refl _ _) | (with_reducible assumption) | (with_reducible refine below_plus' ?_ ?_; ((try simp only [plus_size, World.size_alloc, World.size_drew, World.size_setCell, size_setRow, World.heap_drewN, List.length_append]) <;> omega)) | (with_reducible refine below_alloc' ?_ ?_; ((try simp only [plus_size, World.size_alloc, World.size_drew, World.size_setCell, size_setRow, World.heap_drewN, List.length_append]) <;> omega)) | with_reducible refine Below.drew ?_ | (with_reducible refine below_drewN' ?_ _) | exact Below.refl _ _)); rintro e w' ⟨rfl, hB⟩; obtain ⟨j, d, rfl⟩ := plus_of_below hB; clear hB)
                                        | (go_at_call 20; refine Calls.mono (zeroRows_any r _ h8) ?_; rintro e w1 ⟨vt, rfl, hB1, ht1⟩; rw [diagF_0] at ht1; obtain ⟨at1, ct1, rfl⟩ := ht1.len; rw [tabL_length] at ht1 ⊢; obtain ⟨W0, hB0, ht0, hW0, hbx⟩ : ∃ W0 : World, Below W0.heap.size W0 w1 ∧ tab 22 2 w1 W0.heap.size (.slice at1 r ct1) (tabL r (diagF 0)) ∧ Below w.heap.size w W0 ∧ boxed W0 w.heap.size 29 n (.slice a xs.length c) := ⟨_, hB1, ht1, by (repeat (first | (with_reducible exact Below.refl _ _) | (with_reducible assumption) | (with_reducible refine below_plus' ?_ ?_; ((try simp only [plus_size, World.size_alloc, World.size_drew, World.size_setCell, size_setRow, World.heap_drewN, List.length_append]) <;> omega)) | (with_reducible refine below_alloc' ?_ ?_; ((try simp only [plus_size, World.size_alloc, World.size_drew, World.size_setCell, size_setRow, World.heap_drewN, List.length_append]) <;> omega)) | with_reducible refine Below.drew ?_ | (with_reducible refine below_drewN' ?_ _) | exact Below.refl _ _)), by unfold boxed; (repeat (first | (refine heap_at _ _ _ ?_; ((try simp only [plus_size, World.size_alloc, World.size_drew, World.size_setCell, size_setRow, World.heap_drewN, List.length_append]) <;> omega)) | (refine heap_past' ?_ ?_; ((try simp only [plus_size, World.size_alloc, World.size_drew, World.size_setCell, size_setRow, World.heap_drewN, List.length_append]) <;> omega)) | (refine heap_plus' ?_ ?_; ((try simp only [plus_size, World.size_alloc, World.size_drew, World.size_setCell, size_setRow, World.heap_drewN, List.length_append]) <;> omega)) | assumption))⟩; clear hB1 ht1))
    go_loopw [22] (fun sl wr => ∃ (k : Nat), k ≤ r ∧ sl = .int .i64 k ∧ Below W0.heap.size W0 wr ∧ tab 22 2 wr W0.heap.size (.slice at1 r ct1) (tabL r (diagF k))) (fun sl _ => r - (intOf sl).toNat)
    case atStart => exact ⟨0, by omega, rfl, hB0, ht0⟩
    case round =>
      clear ht0 hB0
      obtain ⟨k, hk, rfl, hbel, ht⟩ := hrel
      have hbs := hbel.size
      by_cases hlt : k < r
      · obtain ⟨g, c1, rv, hv, hg, hc, ho, _⟩ := ht.wrote (by decide) (i := k) (by rw [tabL_length]; exact hlt)
        rw [tabL_length] at hv
        cases hv
        obtain ⟨kb, cx, rfl, hkB, hkl, _⟩ := own_some ho (by rw [rowOf_len hlt]; omega)
        rw [rowOf_len hlt] at hc
        obtain ⟨_, _, _, _, hcl, hst⟩ := tab_step (by decide) ht hlt hbs hc
        have hd := hcl k hlt
        have hf := ho.free k
        clear hcl ho
        go_wp2
        go_roundw
        case rel =>
          obtain ⟨h1, h2, h3⟩ := hst k 1 _ (Below.refl _ _)
          rw [diagF_succ] at h1
          exact ⟨k + 1, by omega, by go_num, hbel.trans (h3.mono (Nat.le_refl _)), h1⟩
        case measure => simp [intOf]; omega
      · obtain rfl : r = k := by omega
        rw [diagF_all r xs] at ht
        have hbx' := hbx.kept hbel
        have c0 := hbx'.c0
        have c1 := hbx'.c1
        have l0 := hbx'.lt
        go_wp2
        go_loopw [35] (fun sl wr => ∃ (k : Nat), k ≤ xs.length ∧ sl = .int .i64 k ∧ Below W0.heap.size W0 wr ∧ goodB r xs k = true ∧ tab 22 2 wr W0.heap.size (.slice at1 r ct1) (tabL r (burF xs k))) (fun sl _ => xs.length - (intOf sl).toNat)
        case atStart => exact ⟨0, by omega, rfl, hbel, rfl, ht⟩
        case round =>
          clear hbel ht hbs hlt hk
          obtain ⟨k, hk, rfl, hbel, hgd, ht⟩ := hrel
          obtain ⟨wB, ew⟩ : ∃ wB, wB = wr := ⟨wr, rfl⟩
          subst ew
          have hbs := hbel.size
          by_cases hlt : k < xs.length
          · obtain ⟨b, o, rfl, hbl, g1⟩ := HX.out k hlt
            replace g1 := ((hW0.trans (hbel.mono hW0.size)).cell (p := ⟨b, o + k, none⟩) hbl).trans g1
            have hbl2 : b < wB.heap.size := by have := hW0.size; omega
            obtain ⟨hz0, hza, hzb⟩ := HLET.out k hlt
            have hBad := fun i j (hi : i < r) (hj : j < r) (hb : inB (burF xs (k + 1) i j) (-1000000000000) 1000000000000 = false) => goodB_bad (okF_no hi hj hb) hlt
            have HO := Lib.hid (fun i t (hi : i < r) (ht : t < r) => okF_at (goodB_ok hgd) hi ht)
            obtain ⟨F1, hF2⟩ : ∃ F1, burF xs (k + 1) = F1 := ⟨_, rfl⟩
            rw [hF2] at hBad
            have HBAD := Lib.hid hBad
            clear hBad
            have hF1 : stepF (burF xs k) ((nth xs k).natAbs - 1) (sgn (nth xs k)) = F1 := hF2
            generalize nth xs k = z at *
            generalize burF xs k = F at *
            obtain ⟨p, hp⟩ : ∃ p, z.natAbs = p + 1 := ⟨z.natAbs - 1, by omega⟩
            rw [hp, Nat.add_sub_cancel] at hF1
            have hpr : p + 1 ≤ r := by omega
            have hab : (z.natAbs : Int) = (p : Int) + 1 := by omega
            have hpw : IntKind.i64.wrap (p : Int) = p := by rw [IntKind.wrap_i64]; omega
            go_wp2_with (first | (go_at_call 21; refine (size_any _ _ (by omega) (by omega)).mono ?_; rw [hab]; rintro e w' ⟨rfl, rfl⟩))
            go_loopw [43] (fun sl w3 => ∃ (i : Nat), i ≤ r ∧ sl = .int .i64 i ∧ Below W0.heap.size W0 w3 ∧ tab 22 2 w3 W0.heap.size (.slice at1 r ct1) (tabL r (mixF F F1 i)) ∧ Hid (∀ i', i' < i → ∀ j, j < r → inB (F1 i' j) (-1000000000000) 1000000000000 = true)) (fun sl _ => r - (intOf sl).toNat)
            case atStart => exact ⟨0, by omega, rfl, by (repeat (first | (with_reducible exact Below.refl _ _) | (with_reducible assumption) | (with_reducible refine below_plus' ?_ ?_; ((try simp only [plus_size, World.size_alloc, World.size_drew, World.size_setCell, size_setRow, World.heap_drewN, List.length_append]) <;> omega)) | (with_reducible refine below_alloc' ?_ ?_; ((try simp only [plus_size, World.size_alloc, World.size_drew, World.size_setCell, size_setRow, World.heap_drewN, List.length_append]) <;> omega)) | with_reducible refine Below.drew ?_ | (with_reducible refine below_drewN' ?_ _) | exact Below.refl _ _)), by rw [mixF_0]; exact ht, Lib.hid (fun i hi => by omega)⟩
            case round =>
              clear ht hbel hbs g1
              obtain ⟨i, hi, rfl, hb3, ht, HI3⟩ := hrel
              obtain ⟨w3, ew⟩ : ∃ w3, w3 = wr := ⟨wr, rfl⟩
              subst ew
              have hs3 := hb3.size
              by_cases hlt3 : i < r
              · obtain ⟨g, c1, rv, hv, hg, hci, ho, _⟩ := ht.wrote (by decide) (i := i) (by rw [tabL_length]; exact hlt3)
                rw [tabL_length] at hv
                cases hv
                obtain ⟨kb, cx, rfl, hkB, hkl, _⟩ := own_some ho (by rw [rowOf_len hlt3]; omega)
                rw [rowOf_len hlt3] at hci
                clear ho hkB hkl hg
                obtain ⟨ho, hgl, hkl, hkB, hcl, hst⟩ := tab_step (by decide) ht hlt3 hs3 hci
                have hd := hcl p (by omega)
                rw [mixF_row] at hd
                obtain ⟨hv1, hv2⟩ := mul_sgn (F i p) z (HO.out i p hlt3 (by omega))
                have ht0 := HO.out i p hlt3 (by omega)
                subst hF1
                go_upto_if 53 with (fail)
                go_cut [11] from 44 to 80 (fun s11 wc => s11 = .slice (some ⟨kb, 0, none⟩) r cx ∧ Below W0.heap.size W0 wc ∧ tab 22 2 wc W0.heap.size (.slice (some ⟨g, 0, none⟩) r ct1) (tabL r (leftF (mixF F (stepF F p (sgn z)) i) i p (F i (p - 1) - F i p * sgn z))) ∧ wc.cell? ⟨g, i, none⟩ = some (.slice (some ⟨kb, 0, none⟩) r cx))
                case first =>
                  by_cases hp1 : 1 ≤ p
                  · obtain ⟨q, hq⟩ : ∃ q : Nat, p = q + 1 := ⟨p - 1, by omega⟩
                    have hqw : IntKind.i64.wrap ((p : Int) + 1 - 2) = q := by rw [IntKind.wrap_i64]; omega
                    have hd2 := hcl q (by omega)
                    rw [mixF_row] at hd2
                    have ht2 := HO.out i q hlt3 (by omega)
                    have hf2 := ho.free q
                    clear hcl
                    go_wp2_with fail
                    refine region_plus_tail 11 (by kernel_rfl) (by kernel_rfl) ?_
                    simp only [List.take_succ_cons, List.take_zero, List.drop_succ_cons, List.drop_zero]
                    repeat (go_big_quiet_step (first | (go_at_call 22; exact calls_plus0 (sign_any _ _))))
                    refine wpQuiet_nil ?_
                    intro _ hw'
                    obtain ⟨q, hw''⟩ := hw'
                    subst hw''
                    rw [plusq_eq]
                    generalize q.j = j
                    generalize q.d = d
                    clear q
                    go_wp2_with fail
                    go_meet
                    case rel =>
                      obtain rfl : q = p - 1 := by omega
                      rw [show p - 1 + 1 = p by omega]
                      have e0 : wrap64 (F i p * sgn z) = F i p * sgn z := wrap64_of (by omega) (by omega)
                      try rw [e0]
                      have e1 : wrap64 (F i (p - 1) - F i p * sgn z) = F i (p - 1) - F i p * sgn z := wrap64_of (by omega) (by omega)
                      try rw [e1]
                      obtain ⟨h1, h2, h3⟩ := hst (p - 1) (F i (p - 1) - F i p * sgn z) _ (below_plus (Below.refl _ _) (Nat.le_refl _) j d)
                      exact ⟨rfl, hb3.trans (h3.mono (Nat.le_refl _)), by rw [leftF_yes hp1]; exact h1, h2⟩
                  · go_wp2_with fail
                    go_meet
                    case rel => exact ⟨rfl, hb3, by rw [leftF_no hp1]; exact ht, hci⟩
                case rest =>
                  obtain ⟨rfl, hb4, ht4, hci4⟩ := hcut
                  have hs4 := hb4.size
                  clear ht hci hst hcl ho hgl hkl hkB
                  obtain ⟨ho, hgl, hkl, hkB, hcl, hst⟩ := tab_step (by decide) ht4 hlt3 hs4 hci4
                  go_upto_if 67 with (fail)
                  go_cut [11] from 44 to 80 (fun s11 wc => s11 = .slice (some ⟨kb, 0, none⟩) r cx ∧ Below W0.heap.size W0 wc ∧ tab 22 2 wc W0.heap.size (.slice (some ⟨g, 0, none⟩) r ct1) (tabL r (rightF r (leftF (mixF F (stepF F p (sgn z)) i) i p (F i (p - 1) - F i p * sgn z)) i p (F i (p + 1) + F i p * sgn z))) ∧ wc.cell? ⟨g, i, none⟩ = some (.slice (some ⟨kb, 0, none⟩) r cx))
                  case first =>
                    by_cases hp1 : p + 1 < r
                    · have hd2 := hcl (p + 1) hp1
                      rw [leftF_at (p + 1) (by omega), mixF_row] at hd2
                      have hpw2 : IntKind.i64.wrap ((p : Int) + 1) = ((p + 1 : Nat) : Int) := by rw [IntKind.wrap_i64]; omega
                      have ht2 := HO.out i (p + 1) hlt3 hp1
                      have hf2 := ho.free (p + 1)
                      clear hcl
                      go_wp2_with fail
                      refine region_plus_tail 10 (by kernel_rfl) (by kernel_rfl) ?_
                      simp only [List.take_succ_cons, List.take_zero, List.drop_succ_cons, List.drop_zero]
                      repeat (go_big_quiet_step (first | (go_at_call 22; exact calls_plus0 (sign_any _ _))))
                      refine wpQuiet_nil ?_
                      intro _ hw'
                      obtain ⟨q, hw''⟩ := hw'
                      subst hw''
                      rw [plusq_eq]
                      generalize q.j = j
                      generalize q.d = d
                      clear q
                      go_wp2_with fail
                      go_meet
                      case rel =>
                        have e0 : wrap64 (F i p * sgn z) = F i p * sgn z := wrap64_of (by omega) (by omega)
                        try rw [e0]
                        have e1 : wrap64 (F i (p + 1) + F i p * sgn z) = F i (p + 1) + F i p * sgn z := wrap64_of (by omega) (by omega)
                        try rw [e1]
                        obtain ⟨h1, h2, h3⟩ := hst (p + 1) (F i (p + 1) + F i p * sgn z) _ (below_plus (Below.refl _ _) (Nat.le_refl _) j d)
                        exact ⟨rfl, hb4.trans (h3.mono (Nat.le_refl _)), by rw [rightF_yes hp1]; exact h1, h2⟩
                    · go_wp2_with fail
                      go_meet
                      case rel => exact ⟨rfl, hb4, by rw [rightF_no hp1]; exact ht4, hci4⟩
                  case rest =>
                    obtain ⟨rfl, hb5, ht5, hci5⟩ := hcut
                    have hs5 := hb5.size
                    have hs0 := hW0.size
                    rw [both_mix hlt3] at ht5
                    clear ht4 hci4 hst hcl ho
                    obtain ⟨ho, hgl5, hkl5, _, _, _⟩ := tab_step (by decide) ht5 hlt3 hs5 hci5
                    have hL1 : ((List.range r).map (stepF F p (sgn z) i)).length = r := by simp
                    have hL : ((List.range r).map (stepF F p (sgn z) i)).length ≤ 2001 := by omega
                    have hrow : mixF F (stepF F p (sgn z)) (i + 1) i = stepF F p (sgn z) i := by funext j; simp [mixF]
                    rw [hrow] at ho
                    clear hrow hd ht0 hv1 hv2
                    have hc := fun w' (hb : Below wc.heap.size wc w') => containsB_any _ _ w' (ho.kept hb).reads hL
                    rw [allC_row] at hc
                    by_cases hall : ∀ j, j < r → inB (stepF F p (sgn z) i j) (-1000000000000) 1000000000000 = true
                    · rw [decide_eq_true hall] at hc
                      have HC := Lib.hid hc
                      have HA := Lib.hid hall
                      clear hc hall ho hL hL1
                      go_wp2_with (first | (go_at_call 23; refine Calls.mono (HC.out _ ?_) ?_; (repeat (first | (with_reducible exact Below.refl _ _) | (with_reducible assumption) | (with_reducible refine below_plus' ?_ ?_; ((try simp only [plus_size, World.size_alloc, World.size_drew, World.size_setCell, size_setRow, World.heap_drewN, List.length_append]) <;> omega)) | (with_reducible refine below_alloc' ?_ ?_; ((try simp only [plus_size, World.size_alloc, World.size_drew, World.size_setCell, size_setRow, World.heap_drewN, List.length_append]) <;> omega)) | with_reducible refine Below.drew ?_ | (with_reducible refine below_drewN' ?_ _) | exact Below.refl _ _)); rintro e w' ⟨rfl, hB⟩; obtain ⟨j, d, rfl⟩ := plus_of_below hB; clear hB))
                      go_roundw
                      case rel => exact ⟨i + 1, by omega, by go_num, hb5.trans (show Below W0.heap.size wc _ by (repeat (first | (with_reducible exact Below.refl _ _) | (with_reducible assumption) | (with_reducible refine below_plus' ?_ ?_; ((try simp only [plus_size, World.size_alloc, World.size_drew, World.size_setCell, size_setRow, World.heap_drewN, List.length_append]) <;> omega)) | (with_reducible refine below_alloc' ?_ ?_; ((try simp only [plus_size, World.size_alloc, World.size_drew, World.size_setCell, size_setRow, World.heap_drewN, List.length_append]) <;> omega)) | with_reducible refine Below.drew ?_ | (with_reducible refine below_drewN' ?_ _) | exact Below.refl _ _))), ht5.kept (by (repeat (first | (with_reducible exact Below.refl _ _) | (with_reducible assumption) | (with_reducible refine below_plus' ?_ ?_; ((try simp only [plus_size, World.size_alloc, World.size_drew, World.size_setCell, size_setRow, World.heap_drewN, List.length_append]) <;> omega)) | (with_reducible refine below_alloc' ?_ ?_; ((try simp only [plus_size, World.size_alloc, World.size_drew, World.size_setCell, size_setRow, World.heap_drewN, List.length_append]) <;> omega)) | with_reducible refine Below.drew ?_ | (with_reducible refine below_drewN' ?_ _) | exact Below.refl _ _))), Lib.hid (fun i' hi' => by by_cases e : i' = i; (· subst e; exact HA.out); (· exact HI3.out i' (by omega)))⟩
                      case measure => simp [intOf]; omega
                    · rw [decide_eq_false hall] at hc
                      have HC := Lib.hid hc
                      have hgood : goodB r xs xs.length = false := by
                        refine Decidable.byContradiction fun hne => hall fun j hj => ?_
                        cases hb : inB (stepF F p (sgn z) i j) (-1000000000000) 1000000000000 with
                        | true => rfl
                        | false => exact (hne (HBAD.out i j hlt3 hj hb)).elim
                      clear hc hall ho hL hL1
                      go_wp2_with (first | (go_at_call 23; refine Calls.mono (HC.out _ ?_) ?_; (repeat (first | (with_reducible exact Below.refl _ _) | (with_reducible assumption) | (with_reducible refine below_plus' ?_ ?_; ((try simp only [plus_size, World.size_alloc, World.size_drew, World.size_setCell, size_setRow, World.heap_drewN, List.length_append]) <;> omega)) | (with_reducible refine below_alloc' ?_ ?_; ((try simp only [plus_size, World.size_alloc, World.size_drew, World.size_setCell, size_setRow, World.heap_drewN, List.length_append]) <;> omega)) | with_reducible refine Below.drew ?_ | (with_reducible refine below_drewN' ?_ _) | exact Below.refl _ _)); rintro e w' ⟨rfl, hB⟩; obtain ⟨j, d, rfl⟩ := plus_of_below hB; clear hB))
                      go_ret2
                      rw [show burD r xs = 3 by simp [burD, hgood], show burM r xs = [] by simp [burM, hgood]]
                      exact ⟨_, rfl, (hW0.trans (hb5.mono hW0.size)).trans (show Below w.heap.size wc _ by (repeat (first | (with_reducible exact Below.refl _ _) | (with_reducible assumption) | (with_reducible refine below_plus' ?_ ?_; ((try simp only [plus_size, World.size_alloc, World.size_drew, World.size_setCell, size_setRow, World.heap_drewN, List.length_append]) <;> omega)) | (with_reducible refine below_alloc' ?_ ?_; ((try simp only [plus_size, World.size_alloc, World.size_drew, World.size_setCell, size_setRow, World.heap_drewN, List.length_append]) <;> omega)) | with_reducible refine Below.drew ?_ | (with_reducible refine below_drewN' ?_ _) | exact Below.refl _ _))), tab_nil _ _ _ _⟩
              · obtain rfl : r = i := by omega
                go_wp2
                go_roundw
                case rel => exact ⟨k + 1, by omega, by go_num, hb3, goodB_succ hgd (by rw [hF2]; exact okF_yes HI3.out), by rw [hF2, ← mixF_all r F F1]; exact ht⟩
                case measure => simp [intOf]; omega
          · obtain rfl : xs.length = k := by omega
            go_wp2
            go_ret2
            rw [show burD r xs = 0 by simp [burD, hgd], show burM r xs = tabL r (burF xs xs.length) by simp [burM, hgd]]
            exact ⟨_, rfl, hW0.trans (hbel.mono hW0.size), ht.mono hW0.size⟩
end Go.Proofs.Ytnbpkbkgbpfomaa
