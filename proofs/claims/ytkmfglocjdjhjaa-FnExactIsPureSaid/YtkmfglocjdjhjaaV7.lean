/- Half turns beside a code. Conditions: as each theorem says. -/
import Derived.Test.YtkmfglocjdjhjaaV6
namespace Go.Proofs.Ytkmfglocjdjhjaa
open Go.RowKit
set_option linter.unusedSimpArgs false
set_option linter.unusedVariables false
/-- what is answered for so many strands -/
def halfL (n : Int) : List Int := if inB n 1 8 = true then halfW (n.toNat - 1) else []
def halfC (n : Int) : Int := if inB n 1 8 = true then 0 else 2
def halfN' (n : Int) : Int := if inB n 1 8 = true then n else 0
theorem halfL_le (n : Int) : (halfL n).length ≤ 49 := by
  unfold halfL
  split
  · rename_i h
    have := inB_true h
    have := halfW_le (n.toNat - 1) (by omega)
    omega
  · simp
theorem half_yes {n : Int} (h : inB n 1 8 = true) : ∃ m : Nat, n = (m : Int) + 1 ∧ m ≤ 7 ∧ halfL n = halfW m ∧ halfC n = 0 ∧ halfN' n = n := by
  have h' := inB_true h
  refine ⟨n.toNat - 1, by omega, by omega, by simp [halfL, h], by simp [halfC, h], by simp [halfN', h]⟩
theorem half_no {n : Int} (h : inB n 1 8 = false) : halfL n = [] ∧ halfC n = 2 ∧ halfN' n = 0 := by simp [halfL, halfC, halfN', h]
set_option maxHeartbeats 1000000 in
theorem spec_HalfTurnBraid (n : Int) (w : World) : Calls Try.prog 24 #[.int .i64 n] w (RetB2 2 w (halfN' n) (halfL n) (halfC n)) := by
  cases hb : inB n 1 8 with
  | false =>
    obtain ⟨e1, e2, e3⟩ := half_no hb
    rw [e1, e2, e3]
    clear e1 e2 e3
    go_enter Try.func24, Try.ntmps24
    go_wp2_with (first | (go_at_call 65; refine (l01In_any _ _ _ _).mono ?_; rintro e w' ⟨rfl, rfl⟩))
    refine bodyPost_ret (v := .tuple #[.agg #[.int .i64 0, .slice none 0 0], .int .i64 2]) (by simp [results, Try.results24, go_sem]) rfl ?_
    exact ⟨_, rfl, by (repeat (first | (with_reducible exact Below.refl _ _) | (with_reducible assumption) | (with_reducible refine below_plus' ?_ ?_; ((try simp only [plus_size, World.size_alloc, World.size_drew, World.size_setCell, size_setRow, World.heap_drewN, List.length_append]) <;> omega)) | (with_reducible refine below_alloc' ?_ ?_; ((try simp only [plus_size, World.size_alloc, World.size_drew, World.size_setCell, size_setRow, World.heap_drewN, List.length_append]) <;> omega)) | with_reducible refine Below.drew ?_ | (with_reducible refine below_drewN' ?_ _) | exact Below.refl _ _)), own_nil _ _ _⟩
  | true =>
    obtain ⟨m, rfl, hm, e1, e2, e3⟩ := half_yes hb
    rw [e1, e2, e3]
    clear e1 e2 e3
    go_enter Try.func24, Try.ntmps24
    go_wp2_with (first | (go_at_call 65; refine (l01In_any _ _ _ _).mono ?_; rintro e w' ⟨rfl, rfl⟩) | (go_at_call 66; refine Calls.mono (l01Half_any m _ hm) ?_; rintro e w' ⟨vo, rfl, hB, ho⟩; obtain ⟨ao, co, rfl, hs⟩ := id ho.reads; clear hs; obtain ⟨j, d, rfl⟩ := plus_of_below hB; clear hB))
    refine bodyPost_ret (v := .tuple #[.agg #[.int .i64 ((m : Int) + 1), .slice ao (halfW m).length co], .int .i64 0]) (by simp [results, Try.results24, go_sem]) rfl ?_
    exact ⟨_, rfl, by (repeat (first | (with_reducible exact Below.refl _ _) | (with_reducible assumption) | (with_reducible refine below_plus' ?_ ?_; ((try simp only [plus_size, World.size_alloc, World.size_drew, World.size_setCell, size_setRow, World.heap_drewN, List.length_append]) <;> omega)) | (with_reducible refine below_alloc' ?_ ?_; ((try simp only [plus_size, World.size_alloc, World.size_drew, World.size_setCell, size_setRow, World.heap_drewN, List.length_append]) <;> omega)) | with_reducible refine Below.drew ?_ | (with_reducible refine below_drewN' ?_ _) | exact Below.refl _ _)), by ((try simp only [plus_plus] at ho ⊢); exact own_far ho (by ((try simp only [plus_size, World.size_alloc, World.size_drew, World.size_setCell, size_setRow, World.heap_drewN, List.length_append]) <;> omega)) (by ((try simp only [plus_size, World.size_alloc, World.size_drew, World.size_setCell, size_setRow, World.heap_drewN, List.length_append]) <;> omega)) (by ((try simp only [plus_size, World.size_alloc, World.size_drew, World.size_setCell, size_setRow, World.heap_drewN, List.length_append]) <;> omega)) (by (repeat (first | (with_reducible exact List.prefix_rfl) | (with_reducible exact List.nil_prefix) | (refine List.IsPrefix.trans ?_ (List.prefix_append _ _))))))⟩
set_option maxHeartbeats 1000000 in
theorem impl_HalfTurnBraid (n : Int) (w : World) : Calls Try.prog 25 #[.int .i64 n] w (RetB2 2 w (halfN' n) (halfL n) (halfC n)) := by
  cases hb : inB n 1 8 with
  | false =>
    obtain ⟨e1, e2, e3⟩ := half_no hb
    rw [e1, e2, e3]
    clear e1 e2 e3
    go_enter Try.func25, Try.ntmps25
    go_wp2_with (first | (go_at_call 63; refine (isCount_any _ _).mono ?_; rintro e w' ⟨rfl, rfl⟩))
    refine bodyPost_ret (v := .tuple #[.agg #[.int .i64 0, .slice none 0 0], .int .i64 2]) (by simp [results, Try.results25, go_sem]) rfl ?_
    exact ⟨_, rfl, by (repeat (first | (with_reducible exact Below.refl _ _) | (with_reducible assumption) | (with_reducible refine below_plus' ?_ ?_; ((try simp only [plus_size, World.size_alloc, World.size_drew, World.size_setCell, size_setRow, World.heap_drewN, List.length_append]) <;> omega)) | (with_reducible refine below_alloc' ?_ ?_; ((try simp only [plus_size, World.size_alloc, World.size_drew, World.size_setCell, size_setRow, World.heap_drewN, List.length_append]) <;> omega)) | with_reducible refine Below.drew ?_ | (with_reducible refine below_drewN' ?_ _) | exact Below.refl _ _)), own_nil _ _ _⟩
  | true =>
    obtain ⟨m, rfl, hm, e1, e2, e3⟩ := half_yes hb
    rw [e1, e2, e3]
    clear e1 e2 e3
    have hT : (halfW m).length ≤ 49 := by have := halfW_le m hm; omega
    go_enter Try.func25, Try.ntmps25
    go_wp2_with (first | (go_at_call 63; refine (isCount_any _ _).mono ?_; rintro e w' ⟨rfl, rfl⟩))
    go_loopw [5] (fun sk wr => ∃ (vo : Value) (l : List Int) (k : Nat) (j : List Obj) (d : Nat), Hid (l ++ halfW k = halfW m) ∧ k ≤ m ∧ sk = .int .i64 k ∧ wr = plus ((w.alloc (.cells #[.int .i64 0, .slice none 0 0] 28)).alloc (.cells #[.int .i64 ((m : Int) + 1), vo] 28)) j d ∧ own 2 (plus ((w.alloc (.cells #[.int .i64 0, .slice none 0 0] 28)).alloc (.cells #[.int .i64 ((m : Int) + 1), vo] 28)) j d) ((w.alloc (.cells #[.int .i64 0, .slice none 0 0] 28)).alloc (.cells #[.int .i64 ((m : Int) + 1), vo] 28)).heap.size vo l) (fun sk _ => (intOf sk).toNat)
    case atStart => exact ⟨_, [], m, [], w.drawn, Lib.hid rfl, Nat.le_refl _, by go_num, (plus_nil _).symm, own_nil _ _ _⟩
    case round =>
      obtain ⟨vo, l, k, j, d, HLl, hk, rfl, rfl, hown⟩ := hrel
      obtain ⟨ao, co, rfl, hs⟩ := id hown.reads
      clear hs
      by_cases hlt : 0 < k
      · have HL0 := Lib.hid (half_step hlt HLl.out)
        have hp1 : ((k - 1 : Nat) : Int) = (k : Int) - 1 := by omega
        have hk1 : 1 ≤ (k : Int) := by omega
        clear HLl
        go_wp2
        go_loopw [6] (fun si wr => ∃ (vo : Value) (l : List Int) (i c : Nat) (j : List Obj) (d : Nat), Hid (l ++ (rowR i c ++ halfW (k - 1)) = halfW m) ∧ i + c = k + 1 ∧ si = .int .i64 i ∧ wr = plus ((w.alloc (.cells #[.int .i64 0, .slice none 0 0] 28)).alloc (.cells #[.int .i64 ((m : Int) + 1), vo] 28)) j d ∧ own 2 (plus ((w.alloc (.cells #[.int .i64 0, .slice none 0 0] 28)).alloc (.cells #[.int .i64 ((m : Int) + 1), vo] 28)) j d) ((w.alloc (.cells #[.int .i64 0, .slice none 0 0] 28)).alloc (.cells #[.int .i64 ((m : Int) + 1), vo] 28)).heap.size vo l) (fun si _ => k + 1 - (intOf si).toNat)
        case atStart => exact ⟨_, l, 1, k, j, d, HL0, by omega, rfl, rfl, hown⟩
        case round =>
          clear hown HL0
          obtain ⟨vo, l, i, c, j, d, HLl, hic, rfl, rfl, hown⟩ := hrel
          obtain ⟨ao, co, rfl, hs⟩ := id hown.reads
          clear hs
          by_cases hc : 0 < c
          · obtain ⟨c, rfl⟩ : ∃ c', c = c' + 1 := ⟨c - 1, by omega⟩
            have hll : l.length < 1000000000 := by have := le_of_total HLl.out hT; omega
            have HB := Lib.hid (row_step HLl.out)
            have hi1 : (i : Int) ≤ (k : Int) := by omega
            go_wp2_with (first | (at_builtin; go_loud (refine wpList_append1p (W := ((w.alloc (.cells #[.int .i64 0, .slice none 0 0] 28)).alloc (.cells #[.int .i64 ((m : Int) + 1), .slice ao l.length co] 28))) rfl _ _ 23 rfl Try.underlying23 infoI _ rfl _ rfl ?_ hown ?_ ?_; ((try simp only [plus_size, World.size_alloc, World.size_drew, World.size_setCell, size_setRow, World.heap_drewN, List.length_append]) <;> omega); (omega); intro v' j' d' hown'; clear hown; obtain ⟨av, cv, rfl, hs⟩ := id hown'.reads; clear hs)))
            have hL : (l ++ [(i : Int)]).length = l.length + 1 := by simp
            rw [hL] at hown'
            go_roundw
            case rel => exact ⟨.slice av (l.length + 1) cv, _, i + 1, c, _, _, HB, by omega, by go_num, rfl, own_far hown' (by ((try simp only [plus_size, World.size_alloc, World.size_drew, World.size_setCell, size_setRow, World.heap_drewN, List.length_append]) <;> omega)) (by ((try simp only [plus_size, World.size_alloc, World.size_drew, World.size_setCell, size_setRow, World.heap_drewN, List.length_append]) <;> omega)) (by ((try simp only [plus_size, World.size_alloc, World.size_drew, World.size_setCell, size_setRow, World.heap_drewN, List.length_append]) <;> omega)) List.prefix_rfl⟩
            case measure => simp [intOf]; omega
          · obtain rfl : c = 0 := by omega
            have HB := Lib.hid (row_end HLl.out)
            have hi1 : ¬ (i : Int) ≤ (k : Int) := by omega
            go_wp2
            go_roundw
            case rel => exact ⟨_, _, k - 1, _, _, HB, by omega, by rw [hp1], rfl, hown⟩
            case measure => simp [intOf]; omega
      · obtain rfl : k = 0 := by omega
        have HE := Lib.hid (show l = halfW m by rw [← HLl.out]; simp [halfW])
        have hk1 : ¬ 1 ≤ ((0 : Nat) : Int) := by omega
        go_wp2
        refine bodyPost_ret (v := .tuple #[.agg #[.int .i64 ((m : Int) + 1), .slice ao l.length co], .int .i64 0]) (by simp [results, Try.results25, go_sem]) rfl ?_
        exact ⟨_, rfl, by (repeat (first | (with_reducible exact Below.refl _ _) | (with_reducible assumption) | (with_reducible refine below_plus' ?_ ?_; ((try simp only [plus_size, World.size_alloc, World.size_drew, World.size_setCell, size_setRow, World.heap_drewN, List.length_append]) <;> omega)) | (with_reducible refine below_alloc' ?_ ?_; ((try simp only [plus_size, World.size_alloc, World.size_drew, World.size_setCell, size_setRow, World.heap_drewN, List.length_append]) <;> omega)) | with_reducible refine Below.drew ?_ | (with_reducible refine below_drewN' ?_ _) | exact Below.refl _ _)), by rw [← HE.out]; ((try simp only [plus_plus] at hown ⊢); exact own_far hown (by ((try simp only [plus_size, World.size_alloc, World.size_drew, World.size_setCell, size_setRow, World.heap_drewN, List.length_append]) <;> omega)) (by ((try simp only [plus_size, World.size_alloc, World.size_drew, World.size_setCell, size_setRow, World.heap_drewN, List.length_append]) <;> omega)) (by ((try simp only [plus_size, World.size_alloc, World.size_drew, World.size_setCell, size_setRow, World.heap_drewN, List.length_append]) <;> omega)) (by (repeat (first | (with_reducible exact List.prefix_rfl) | (with_reducible exact List.nil_prefix) | (refine List.IsPrefix.trans ?_ (List.prefix_append _ _))))))⟩
end Go.Proofs.Ytkmfglocjdjhjaa
