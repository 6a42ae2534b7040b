/- Lists of numbers: equal ones, marked ones, held marks. Conditions: as each theorem says. -/
import Derived.Test.YtfghanmcmjgonaaDoorIn
import Derived.Test.YtfghanmcmjgonaaDoorProg
import Derived.KernelRfl
namespace Go.Proofs.YtfghanmcmjgonaaDoor
open Go.RowKit
set_option linter.unusedSimpArgs false
set_option linter.unusedVariables false
set_option maxHeartbeats 400000 in
theorem eqInts_same (v1 v2 : Value) (xs : List Int) (w : World) (h1 : reads w v1 xs) (h2 : reads w v2 xs) (hlen : xs.length ≤ 1000000000) : Calls Tryd.prog 14 #[v1, v2] w fun e w' => e = .returned (.bool true) ∧ Below w.heap.size w w' := by
  obtain ⟨a1, c1, rfl, h1⟩ := h1
  obtain ⟨a2, c2, rfl, h2⟩ := h2
  by_cases hx : xs = []
  · subst hx
    clear h1 h2
    go_enter Tryd.func14, Tryd.ntmps14
    go_wp2
    refine wp_loop_rounds 1 ?_
    rw [rounds_succ]
    go_wp2
    go_ret
    exact ⟨rfl, by (repeat (first | (with_reducible exact Below.refl _ _) | (with_reducible assumption) | (with_reducible refine below_plus' ?_ ?_; ((try simp only [plus_size, World.size_alloc, World.size_drew, World.size_setCell, size_setRow, World.heap_drewN, List.length_append]) <;> omega)) | (with_reducible refine below_alloc' ?_ ?_; ((try simp only [plus_size, World.size_alloc, World.size_drew, World.size_setCell, size_setRow, World.heap_drewN, List.length_append]) <;> omega)) | with_reducible refine Below.drew ?_ | exact Below.refl _ _))⟩
  · obtain ⟨b1, o1, rfl, m1⟩ := h1.resolve_left hx
    obtain ⟨b2, o2, rfl, m2⟩ := h2.resolve_left hx
    have hp : 0 < xs.length := List.length_pos_iff.2 hx
    have k1 : b1 < w.heap.size := World.block_lt_of_cell? w _ (m1 0 hp)
    have k2 : b2 < w.heap.size := World.block_lt_of_cell? w _ (m2 0 hp)
    have H1 := Lib.hid m1
    have H2 := Lib.hid m2
    clear m1 m2 h1 h2 hx
    generalize hn : xs.length = n at *
    have Hn := Lib.hid hn
    clear hn
    go_enter Tryd.func14, Tryd.ntmps14
    go_wp2
    go_loopw [5] (fun sl wr => ∃ k d : Nat, k ≤ n ∧ sl = .int .i64 k ∧ wr = plus w [] d) (fun sl _ => n - (intOf sl).toNat)
    case atStart => exact ⟨0, _, by omega, rfl, (plus_nil _).symm⟩
    case round =>
      obtain ⟨k, d, hk, rfl, rfl⟩ := hrel
      by_cases hlt : k < n
      · have g1 := H1.out k hlt
        have g2 := H2.out k hlt
        go_wp2
        go_quiet (fail)
        go_wp2
        go_roundw
        case rel => exact ⟨k + 1, _, by omega, by go_num, rfl⟩
        case measure => simp [intOf]; omega
      · obtain rfl : k = n := by omega
        go_wp2
        go_ret
        exact ⟨rfl, by (repeat (first | (with_reducible exact Below.refl _ _) | (with_reducible assumption) | (with_reducible refine below_plus' ?_ ?_; ((try simp only [plus_size, World.size_alloc, World.size_drew, World.size_setCell, size_setRow, World.heap_drewN, List.length_append]) <;> omega)) | (with_reducible refine below_alloc' ?_ ?_; ((try simp only [plus_size, World.size_alloc, World.size_drew, World.size_setCell, size_setRow, World.heap_drewN, List.length_append]) <;> omega)) | with_reducible refine Below.drew ?_ | exact Below.refl _ _))⟩
/-- k, k + 1, .. -/
def marks (k : Int) (n : Nat) : List Int := (List.range n).map fun (i : Nat) => k + (i : Int)
theorem marks_length (k n) : (marks k n).length = n := by simp [marks]
theorem nth_marks {k : Int} {n i : Nat} (h : i < n) : nth (marks k n) i = k + i := by simp [nth, marks, h]
set_option maxHeartbeats 400000 in
theorem heldInts_any (v : Value) (n : Nat) (k0 : Int) (w : World) (h : reads w v (marks k0 n)) (hk0 : 0 ≤ k0) (hk1 : k0 ≤ 1000000000) (hlen : n ≤ 1000000000) : Calls Tryd.prog 16 #[v, .int .i64 k0] w fun e w' => e = .returned (.int .i64 (k0 + n)) ∧ Below w.heap.size w w' := by
  obtain ⟨a, c, rfl, h⟩ := h
  rw [marks_length]
  by_cases hx : n = 0
  · subst hx
    clear h
    go_enter Tryd.func16, Tryd.ntmps16
    go_wp2
    refine wp_loop_rounds 1 ?_
    rw [rounds_succ]
    go_wp2
    go_ret
    exact ⟨by simp, by (repeat (first | (with_reducible exact Below.refl _ _) | (with_reducible assumption) | (with_reducible refine below_plus' ?_ ?_; ((try simp only [plus_size, World.size_alloc, World.size_drew, World.size_setCell, size_setRow, World.heap_drewN, List.length_append]) <;> omega)) | (with_reducible refine below_alloc' ?_ ?_; ((try simp only [plus_size, World.size_alloc, World.size_drew, World.size_setCell, size_setRow, World.heap_drewN, List.length_append]) <;> omega)) | with_reducible refine Below.drew ?_ | exact Below.refl _ _))⟩
  · have hp : 0 < n := by omega
    obtain ⟨b, o, rfl, m⟩ := h.resolve_left (fun e => by have := marks_length k0 n; rw [e] at this; simp at this; omega)
    rw [marks_length] at m
    have h' : ∀ i, i < n → w.cell? ⟨b, o + i, none⟩ = some (.int .i64 (k0 + i)) := fun i hi => by rw [m i hi, nth_marks hi]
    have H := Lib.hid h'
    clear h h' m hx
    go_enter Tryd.func16, Tryd.ntmps16
    go_wp2
    go_loop [5, 1] (fun sl s1 => ∃ k : Nat, k ≤ n ∧ sl = .int .i64 k ∧ s1 = .int .i64 (k0 + k)) (fun sl _ => n - (intOf sl).toNat)
    case atStart => exact ⟨0, by omega, rfl, by simp⟩
    case round =>
      obtain ⟨k, hk, rfl, rfl⟩ := hrel
      by_cases hlt : k < n
      · have g1 := H.out k hlt
        go_wp2
        go_round
        case rel => exact ⟨k + 1, by omega, by go_num, by go_num⟩
        case measure => simp [intOf]; omega
      · obtain rfl : k = n := by omega
        go_wp2
        go_ret
        exact ⟨rfl, by (repeat (first | (with_reducible exact Below.refl _ _) | (with_reducible assumption) | (with_reducible refine below_plus' ?_ ?_; ((try simp only [plus_size, World.size_alloc, World.size_drew, World.size_setCell, size_setRow, World.heap_drewN, List.length_append]) <;> omega)) | (with_reducible refine below_alloc' ?_ ?_; ((try simp only [plus_size, World.size_alloc, World.size_drew, World.size_setCell, size_setRow, World.heap_drewN, List.length_append]) <;> omega)) | with_reducible refine Below.drew ?_ | exact Below.refl _ _))⟩
/-- xs, its first i numbers marked -/
def marked (xs : List Int) (k : Int) (i : Nat) : List Int := (List.range xs.length).map fun j => if j < i then k + (j : Int) else nth xs j
theorem marked_length (xs k i) : (marked xs k i).length = xs.length := by simp [marked]
theorem nth_marked {xs k i j} (h : j < xs.length) : nth (marked xs k i) j = if j < i then k + (j : Int) else nth xs j := by
  show (marked xs k i).getD j 0 = _
  simp [marked, h]
theorem marked_zero (xs k) : marked xs k 0 = xs := by
  refine ext_nth (marked_length _ _ _) fun i hi => ?_
  rw [marked_length] at hi
  rw [nth_marked hi]; simp
theorem marked_all (xs k) : marked xs k xs.length = marks k xs.length := by
  refine ext_nth (by rw [marked_length, marks_length]) fun i hi => ?_
  rw [marked_length] at hi
  rw [nth_marked hi, nth_marks hi, if_pos hi]
theorem marked_set {xs : List Int} {k : Int} {i : Nat} (h : i < xs.length) : (marked xs k i).set i (k + i) = marked xs k (i + 1) := by
  refine ext_nth (by simp [marked_length]) fun j hj => ?_
  rw [List.length_set, marked_length] at hj
  rw [nth_marked hj]
  unfold nth
  by_cases e : i = j
  · subst e
    simp [marked_length, hj]
  · rw [List.getD_eq_getElem?_getD, List.getElem?_set_ne e, ← List.getD_eq_getElem?_getD]
    have := nth_marked (k := k) (i := i) hj
    unfold nth at this
    rw [this]
    by_cases h1 : j < i
    · have : j < i + 1 := by omega
      simp [h1, this]
    · have : ¬ j < i + 1 := by omega
      simp [h1, this]
set_option maxHeartbeats 400000 in
theorem markInts_any (v : Value) (xs : List Int) (B : Nat) (k0 : Int) (w : World) (h : own 2 w B v xs) (hk0 : 0 ≤ k0) (hk1 : k0 ≤ 1000000000) (hlen : xs.length ≤ 1000000000) : Calls Tryd.prog 15 #[v, .int .i64 k0] w fun e w' => e = .returned (.int .i64 (k0 + xs.length)) ∧ own 2 w' B v (marks k0 xs.length) ∧ w.grownBy w' v.ownBlock := by
  rw [← marked_all]
  by_cases hx : xs.length = 0
  · have hv : ∃ a c, v = .slice a 0 c := by obtain ⟨a, c, e, _⟩ := h.reads; exact ⟨a, c, by rw [e, hx]⟩
    obtain ⟨a, c, rfl⟩ := hv
    rw [hx, marked_zero]
    have H := Lib.hid h
    clear h
    go_enter Tryd.func15, Tryd.ntmps15
    go_wp2
    refine wp_loop_rounds 1 ?_
    rw [rounds_succ]
    go_wp2
    go_ret
    exact ⟨by simp, H.out, World.grownBy.refl _ _⟩
  · have hp : 0 < xs.length := by omega
    have hv : ∃ b c, v = .slice (some ⟨b, 0, none⟩) xs.length c := by
      rcases h.2 with ⟨_, e⟩ | ⟨g, cap, cur, e, _⟩
      · omega
      · exact ⟨g, cap, e⟩
    obtain ⟨b, c, rfl⟩ := hv
    have Hm := Lib.hid (marked_length xs k0)
    have Hl : ∃ n, n = xs.length := ⟨_, rfl⟩
    obtain ⟨n, hn⟩ := Hl
    rw [← hn] at h hlen hp hx ⊢
    have H := Lib.hid h
    have Hn := Lib.hid hn
    clear h hn hx
    go_enter Tryd.func15, Tryd.ntmps15
    go_wp2
    go_loopw [5, 1] (fun sl s1 wr => ∃ k : Nat, k ≤ n ∧ sl = .int .i64 k ∧ s1 = .int .i64 (k0 + k) ∧ own 2 wr B (.slice (some ⟨b, 0, none⟩) n c) (marked xs k0 k) ∧ w.grownBy wr (some b)) (fun sl _ _ => n - (intOf sl).toNat)
    case atStart => exact ⟨0, by omega, rfl, by simp, by rw [marked_zero]; exact H.out, World.grownBy.refl _ _⟩
    case round =>
      obtain ⟨k, hk, rfl, rfl, ho, hg⟩ := hrel
      by_cases hlt : k < n
      · have g1 : wr.cell? ⟨b, k, none⟩ = some (.int .i64 (nth (marked xs k0 k) k)) := by
          obtain ⟨a', c', e, hr⟩ := ho.reads
          have hl : (marked xs k0 k).length = n := by rw [Hm.out, Hn.out]
          rcases hr with hr | ⟨b', o', e', hr⟩
          · rw [hr] at hl; simp at hl; omega
          · simp only [Value.slice.injEq, Option.some.injEq, Addr.mk.injEq] at e
            have := hr k (by omega)
            cases e'
            have e1 := e.1
            simp only [Option.some.injEq, Addr.mk.injEq] at e1
            rw [← e1.1, ← e1.2.1, Nat.zero_add] at this
            exact this
        have g2 := ho.free k
        have g3 := ho.set k (k0 + k)
        rw [marked_set (by rw [← Hn.out]; exact hlt)] at g3
        have G3 := Lib.hid g3
        have G4 := Lib.hid (grownBy_trans hg (grownBy_setCell wr b k (.int .i64 (k0 + k))))
        clear g3 ho hg
        go_wp2
        go_roundw
        case rel => exact ⟨k + 1, by omega, by go_num, by go_num, G3.out, G4.out⟩
        case measure => simp [intOf]; omega
      · obtain rfl : k = n := by omega
        have Ho := Lib.hid ho
        have Hg := Lib.hid hg
        clear ho hg
        go_wp2
        go_ret
        exact ⟨rfl, Ho.out, Hg.out⟩
end Go.Proofs.YtfghanmcmjgonaaDoor
