/- Tables in laws. Conditions: as each theorem says. -/
import Derived.Test.YtnbpkbkgbpfomaaX2
namespace Go.Proofs.Ytnbpkbkgbpfomaa
open Go.RowKit
set_option linter.unusedSimpArgs false
set_option linter.unusedVariables false
def offT (M : List (List Int)) (i : Nat) : Nat := ((M.take i).map List.length).sum
theorem offT_zero (M : List (List Int)) : offT M 0 = 0 := by simp [offT]
theorem offT_succ {M : List (List Int)} {i : Nat} (h : i < M.length) : offT M (i + 1) = offT M i + (rowOf M i).length := by
  simp only [offT, rowOf, List.take_add_one, List.getElem?_eq_getElem h, Option.toList_some, List.map_append, List.map_cons, List.map_nil, List.sum_append, List.sum_cons, List.sum_nil, List.getD_eq_getElem?_getD, Option.getD_some, Nat.add_zero]
theorem offT_mono {M : List (List Int)} : ∀ {i j : Nat}, i ≤ j → j ≤ M.length → offT M i ≤ offT M j := by
  intro i j
  induction j with
  | zero => intro h _; rw [Nat.le_zero.1 h]; exact Nat.le_refl _
  | succ j ih =>
    intro h hj
    rw [offT_succ (by omega)]
    by_cases e : i = j + 1
    · subst e; rw [offT_succ (by omega)]; exact Nat.le_refl _
    · have := ih (by omega) (by omega); omega
/-- the first i rows numbered -/
def numU (k : Int) (M : List (List Int)) (i : Nat) : List (List Int) := (List.range M.length).map fun j => if j < i then marks (k + offT M j) (rowOf M j).length else rowOf M j
theorem numU_length (k M i) : (numU k M i).length = M.length := by simp [numU]
theorem rowOf_numU {k M i j} (h : j < M.length) : rowOf (numU k M i) j = if j < i then marks (k + offT M j) (rowOf M j).length else rowOf M j := by simp [rowOf, numU, h]
theorem numU_zero (k M) : numU k M 0 = M := by
  apply List.ext_getElem (numU_length _ _ _)
  intro j h1 h2
  simp [numU, rowOf, h2]
theorem numU_set {k M i} (h : i < M.length) : (numU k M i).set i (marks (k + offT M i) (rowOf M i).length) = numU k M (i + 1) := by
  apply List.ext_getElem (by simp [numU])
  intro j h1 h2
  rw [numU_length] at h2
  rw [List.getElem_set]
  by_cases e : i = j
  · subst e; simp [numU]
  · rw [if_neg e]
    simp only [numU, List.getElem_map, List.getElem_range]
    by_cases h3 : j < i
    · have : j < i + 1 := by omega
      simp [h3, this]
    · have : ¬ j < i + 1 := by omega
      simp [h3, this]
theorem readsT.row {w : World} {v : Value} {M : List (List Int)} (h : readsT w v M) {i : Nat} (hi : i < M.length) : ∃ b o c rv, v = .slice (some ⟨b, o, none⟩) M.length c ∧ b < w.heap.size ∧ w.cell? ⟨b, o + i, none⟩ = some rv ∧ reads w rv (rowOf M i) := by
  obtain ⟨a, c, rfl, h⟩ := h
  rcases h with rfl | ⟨b, o, rfl, hb, hc⟩
  · cases hi
  · obtain ⟨rv, h1, h2⟩ := hc i hi
    exact ⟨b, o, c, rv, rfl, hb, h1, h2⟩
set_option maxHeartbeats 1000000 in
theorem eqTab_same (v1 v2 : Value) (M : List (List Int)) (w : World) (h1 : readsT w v1 M) (h2 : readsT w v2 M) (hM : M.length ≤ 1000000000) (hR : ∀ i, (rowOf M i).length ≤ 1000000000) : Calls Try.prog 8 #[v1, v2] w fun e w' => e = .returned (.bool true) ∧ Below w.heap.size w w' := by
  have H1 := Lib.hid (fun i (hi : i < M.length) => h1.row hi)
  have H2 := Lib.hid (fun i (hi : i < M.length) => h2.row hi)
  obtain ⟨a1, c1, rfl, _⟩ := h1
  obtain ⟨a2, c2, rfl, _⟩ := h2
  obtain ⟨n, hn⟩ : ∃ n, M.length = n := ⟨_, rfl⟩
  rw [hn] at H1 H2 hM ⊢
  have HR := Lib.hid hR
  clear hn hR
  go_enter Try.func8, Try.ntmps8
  go_wp2
  go_loopw [5] (fun sl wr => ∃ (k : Nat), k ≤ n ∧ sl = .int .i64 k ∧ Below w.heap.size w wr) (fun sl _ => n - (intOf sl).toNat)
  case atStart => exact ⟨0, by omega, rfl, by (repeat (first | (with_reducible exact Below.refl _ _) | (with_reducible assumption) | (with_reducible refine below_plus' ?_ ?_; ((try simp only [plus_size, World.size_alloc, World.size_drew, World.size_setCell, size_setRow, World.heap_drewN, List.length_append]) <;> omega)) | (with_reducible refine below_alloc' ?_ ?_; ((try simp only [plus_size, World.size_alloc, World.size_drew, World.size_setCell, size_setRow, World.heap_drewN, List.length_append]) <;> omega)) | with_reducible refine Below.drew ?_ | (with_reducible refine below_drewN' ?_ _) | exact Below.refl _ _))⟩
  case round =>
    obtain ⟨k, hk, rfl, hbel⟩ := hrel
    by_cases hlt : k < n
    · obtain ⟨b1, o1, _, rv1, hv1, hb1, hc1, hr1⟩ := H1.out k hlt
      obtain ⟨b2, o2, _, rv2, hv2, hb2, hc2, hr2⟩ := H2.out k hlt
      cases hv1
      cases hv2
      have hz := hbel.size
      have k1 : b1 < wr.heap.size := by omega
      have k2 : b2 < wr.heap.size := by omega
      have m1 := (hbel.cell (p := ⟨b1, o1 + k, none⟩) hb1).trans hc1
      have m2 := (hbel.cell (p := ⟨b2, o2 + k, none⟩) hb2).trans hc2
      have hl := HR.out k
      have Hr1 := Lib.hid (fun w' (hb : Below w.heap.size w w') => hr1.kept hb)
      have Hr2 := Lib.hid (fun w' (hb : Below w.heap.size w w') => hr2.kept hb)
      obtain ⟨x1, y1, rfl, _⟩ := id hr1
      obtain ⟨x2, y2, rfl, _⟩ := id hr2
      clear hr1 hr2
      go_upto_region 6 with (fail)
      go_wp2_with fail
      refine region_plus (by kernel_rfl) (by kernel_rfl) ?_
      repeat (go_big_quiet_step (first | (go_at_call 26; exact calls_plus (eqInts_same _ _ (rowOf M k) _ (Hr1.out _ (by rw [plusq_eq]; (repeat (first | (with_reducible exact Below.refl _ _) | (with_reducible assumption) | (with_reducible refine below_plus' ?_ ?_; ((try simp only [plus_size, World.size_alloc, World.size_drew, World.size_setCell, size_setRow, World.heap_drewN, List.length_append]) <;> omega)) | (with_reducible refine below_alloc' ?_ ?_; ((try simp only [plus_size, World.size_alloc, World.size_drew, World.size_setCell, size_setRow, World.heap_drewN, List.length_append]) <;> omega)) | with_reducible refine Below.drew ?_ | (with_reducible refine below_drewN' ?_ _) | exact Below.refl _ _)))) (Hr2.out _ (by rw [plusq_eq]; (repeat (first | (with_reducible exact Below.refl _ _) | (with_reducible assumption) | (with_reducible refine below_plus' ?_ ?_; ((try simp only [plus_size, World.size_alloc, World.size_drew, World.size_setCell, size_setRow, World.heap_drewN, List.length_append]) <;> omega)) | (with_reducible refine below_alloc' ?_ ?_; ((try simp only [plus_size, World.size_alloc, World.size_drew, World.size_setCell, size_setRow, World.heap_drewN, List.length_append]) <;> omega)) | with_reducible refine Below.drew ?_ | (with_reducible refine below_drewN' ?_ _) | exact Below.refl _ _)))) hl))))
      refine wpQuiet_nil ?_
      intro _ hw'
      obtain ⟨q, hw''⟩ := hw'
      subst hw''
      rw [plusq_eq]
      generalize q.j = j
      generalize q.d = d
      clear q
      go_wp2
      go_roundw
      case rel => exact ⟨k + 1, by omega, by go_num, by (repeat (first | (with_reducible exact Below.refl _ _) | (with_reducible assumption) | (with_reducible refine below_plus' ?_ ?_; ((try simp only [plus_size, World.size_alloc, World.size_drew, World.size_setCell, size_setRow, World.heap_drewN, List.length_append]) <;> omega)) | (with_reducible refine below_alloc' ?_ ?_; ((try simp only [plus_size, World.size_alloc, World.size_drew, World.size_setCell, size_setRow, World.heap_drewN, List.length_append]) <;> omega)) | with_reducible refine Below.drew ?_ | (with_reducible refine below_drewN' ?_ _) | exact Below.refl _ _))⟩
      case measure => simp [intOf]; omega
    · obtain rfl : k = n := by omega
      go_wp2
      go_ret
      exact ⟨rfl, hbel⟩
set_option maxHeartbeats 1000000 in
theorem heldTab_any (v : Value) (M : List (List Int)) (k0 : Int) (w : World) (h : readsT w v (numU k0 M M.length)) (hk0 : 0 ≤ k0) (hk1 : k0 ≤ 1000000) (hM : M.length ≤ 1000000) (hR : offT M M.length ≤ 1000000) : Calls Try.prog 12 #[v, .int .i64 k0] w fun e w' => e = .returned (.int .i64 (k0 + offT M M.length)) ∧ Below w.heap.size w w' := by
  have H1 : Hid (∀ i, i < M.length → ∃ b o c rv, v = .slice (some ⟨b, o, none⟩) M.length c ∧ b < w.heap.size ∧ w.cell? ⟨b, o + i, none⟩ = some rv ∧ reads w rv (rowOf (numU k0 M M.length) i)) := Lib.hid (fun i hi => by have t := h.row (i := i) (by rw [numU_length]; exact hi); rw [numU_length] at t; exact t)
  obtain ⟨a1, c1, rfl, _⟩ := h
  rw [numU_length] at H1 ⊢
  have HO := Lib.hid (fun k (hk : k < M.length) => offT_succ hk)
  have HM := Lib.hid (fun k (hk : k ≤ M.length) => offT_mono (i := k) (j := M.length) hk (Nat.le_refl _))
  have HN := Lib.hid (fun k (hk : k < M.length) => (rowOf_numU (k := k0) (i := M.length) hk).trans (if_pos hk))
  obtain ⟨n, hn⟩ : ∃ n, M.length = n := ⟨_, rfl⟩
  rw [hn] at H1 hM HO HM HN hR ⊢
  clear hn
  go_enter Try.func12, Try.ntmps12
  go_wp2
  go_loopw [5, 1] (fun sl s1 wr => ∃ (k : Nat), k ≤ n ∧ sl = .int .i64 k ∧ s1 = .int .i64 (k0 + offT M k) ∧ Below w.heap.size w wr) (fun sl _ _ => n - (intOf sl).toNat)
  case atStart => exact ⟨0, by omega, rfl, by simp [offT_zero], by (repeat (first | (with_reducible exact Below.refl _ _) | (with_reducible assumption) | (with_reducible refine below_plus' ?_ ?_; ((try simp only [plus_size, World.size_alloc, World.size_drew, World.size_setCell, size_setRow, World.heap_drewN, List.length_append]) <;> omega)) | (with_reducible refine below_alloc' ?_ ?_; ((try simp only [plus_size, World.size_alloc, World.size_drew, World.size_setCell, size_setRow, World.heap_drewN, List.length_append]) <;> omega)) | with_reducible refine Below.drew ?_ | (with_reducible refine below_drewN' ?_ _) | exact Below.refl _ _))⟩
  case round =>
    obtain ⟨k, hk, rfl, rfl, hbel⟩ := hrel
    by_cases hlt : k < n
    · obtain ⟨b1, o1, _, rv1, hv1, hb1, hc1, hr1⟩ := H1.out k hlt
      cases hv1
      rw [HN.out k hlt] at hr1
      have hz := hbel.size
      have k1 : b1 < wr.heap.size := by omega
      have m1 := (hbel.cell (p := ⟨b1, o1 + k, none⟩) hb1).trans hc1
      have hr2 := hr1.kept hbel
      have h3 := HO.out k hlt
      have h4 := HM.out (k + 1) (by omega)
      have h5 := HM.out k (by omega)
      have h6 : k0 + (offT M k : Int) + ((rowOf M k).length : Int) = k0 + ((offT M (k + 1) : Nat) : Int) := by omega
      clear h3
      have h7 : ¬ k0 + ((offT M (k + 1) : Nat) : Int) < 0 := by omega
      obtain ⟨x1, y1, rfl, _⟩ := id hr1
      clear hr1
      go_wp2_with (first | (go_at_call 28; refine Calls.mono (heldInts_any _ (rowOf M k).length (k0 + offT M k) _ hr2 (by omega) (by omega) (by omega)) ?_; rw [h6]; rintro e w' ⟨rfl, hB⟩; obtain ⟨j, d, rfl⟩ := plus_of_below hB; clear hB))
      go_roundw
      case rel => exact ⟨k + 1, by omega, by go_num, rfl, by (repeat (first | (with_reducible exact Below.refl _ _) | (with_reducible assumption) | (with_reducible refine below_plus' ?_ ?_; ((try simp only [plus_size, World.size_alloc, World.size_drew, World.size_setCell, size_setRow, World.heap_drewN, List.length_append]) <;> omega)) | (with_reducible refine below_alloc' ?_ ?_; ((try simp only [plus_size, World.size_alloc, World.size_drew, World.size_setCell, size_setRow, World.heap_drewN, List.length_append]) <;> omega)) | with_reducible refine Below.drew ?_ | (with_reducible refine below_drewN' ?_ _) | exact Below.refl _ _))⟩
      case measure => simp [intOf]; omega
    · obtain rfl : k = n := by omega
      go_wp2
      go_ret
      exact ⟨rfl, hbel⟩
set_option maxHeartbeats 1000000 in
theorem markTab_any (v : Value) (M : List (List Int)) (B : Nat) (k0 : Int) (w : World) (h : tab 22 2 w B v M) (hB : B ≤ w.heap.size) (hk0 : 0 ≤ k0) (hk1 : k0 ≤ 1000000) (hM : M.length ≤ 1000000) (hR : offT M M.length ≤ 1000000) : Calls Try.prog 11 #[v, .int .i64 k0] w fun e w' => e = .returned (.int .i64 (k0 + offT M M.length)) ∧ tab 22 2 w' B v (numU k0 M M.length) ∧ Below B w w' := by
  have HO := Lib.hid (fun k (hk : k < M.length) => offT_succ hk)
  have HM := Lib.hid (fun k (hk : k ≤ M.length) => offT_mono (i := k) (j := M.length) hk (Nat.le_refl _))
  have HS := Lib.hid (fun k (hk : k < M.length) => numU_set (k := k0) hk)
  have HN := Lib.hid (fun k (hk : k < M.length) => (rowOf_numU (k := k0) (i := k) hk).trans (if_neg (Nat.lt_irrefl k)))
  have HL := Lib.hid (fun k => numU_length k0 M k)
  obtain ⟨a1, c1, rfl⟩ := h.len
  rw [← numU_zero k0 M] at h
  rw [numU_length] at h
  obtain ⟨n, hn⟩ : ∃ n, M.length = n := ⟨_, rfl⟩
  rw [hn] at h hM HO HM HN HS HL hR ⊢
  clear hn
  go_enter Try.func11, Try.ntmps11
  go_wp2
  go_loopw [5, 1] (fun sl s1 wr => ∃ (k : Nat), k ≤ n ∧ sl = .int .i64 k ∧ s1 = .int .i64 (k0 + offT M k) ∧ tab 22 2 wr B (.slice a1 n c1) (numU k0 M k) ∧ Below B w wr) (fun sl _ _ => n - (intOf sl).toNat)
  case atStart => exact ⟨0, by omega, rfl, by simp [offT_zero], h.kept (by (repeat (first | (with_reducible exact Below.refl _ _) | (with_reducible assumption) | (with_reducible refine below_plus' ?_ ?_; ((try simp only [plus_size, World.size_alloc, World.size_drew, World.size_setCell, size_setRow, World.heap_drewN, List.length_append]) <;> omega)) | (with_reducible refine below_alloc' ?_ ?_; ((try simp only [plus_size, World.size_alloc, World.size_drew, World.size_setCell, size_setRow, World.heap_drewN, List.length_append]) <;> omega)) | with_reducible refine Below.drew ?_ | (with_reducible refine below_drewN' ?_ _) | exact Below.refl _ _))), by (repeat (first | (with_reducible exact Below.refl _ _) | (with_reducible assumption) | (with_reducible refine below_plus' ?_ ?_; ((try simp only [plus_size, World.size_alloc, World.size_drew, World.size_setCell, size_setRow, World.heap_drewN, List.length_append]) <;> omega)) | (with_reducible refine below_alloc' ?_ ?_; ((try simp only [plus_size, World.size_alloc, World.size_drew, World.size_setCell, size_setRow, World.heap_drewN, List.length_append]) <;> omega)) | with_reducible refine Below.drew ?_ | (with_reducible refine below_drewN' ?_ _) | exact Below.refl _ _))⟩
  case round =>
    clear h
    obtain ⟨k, hk, rfl, rfl, ht, hbel⟩ := hrel
    by_cases hlt : k < n
    · obtain ⟨g, c, rv, hv, hg, hc, ho, hw⟩ := ht.wrote (by decide) (i := k) (by rw [HL.out]; exact hlt)
      rw [HL.out] at hv
      cases hv
      rw [HN.out k hlt] at ho
      have h3 := HO.out k hlt
      have h4 := HM.out (k + 1) (by omega)
      have h5 := HM.out k (by omega)
      have h6 : k0 + (offT M k : Int) + ((rowOf M k).length : Int) = k0 + ((offT M (k + 1) : Nat) : Int) := by omega
      clear h3
      obtain ⟨x1, y1, rfl, _⟩ := id ho.reads
      go_wp2_with (first | (go_at_call 27; refine Calls.mono (markInts_any _ (rowOf M k) B (k0 + offT M k) _ ho (by omega) (by omega) (by omega)) ?_; rw [h6]; rintro e w' ⟨rfl, ho', hgr⟩))
      have ht2 := hw _ _ hgr ho'
      rw [HS.out k hlt] at ht2
      have hB2 := below_of_grown hgr (Nat.le_trans hB hbel.size) (fun q hq => (ho.lt q hq).1)
      go_roundw
      case rel => exact ⟨k + 1, by omega, by go_num, rfl, ht2, hbel.trans hB2⟩
      case measure => simp [intOf]; omega
    · obtain rfl : k = n := by omega
      go_wp2
      go_ret
      exact ⟨rfl, ht, hbel⟩
end Go.Proofs.Ytnbpkbkgbpfomaa
