/- Products. Conditions: as each theorem says. -/
import Derived.Test.YtblpbkfenmkhbaaGreatDoorMb
namespace Go.Proofs.YtblpbkfenmkhbaaGreatDoor
open Go.RowKit
set_option linter.unusedSimpArgs false
set_option linter.unusedVariables false
/-- what is answered for two braids -/
def goodP (n : Int) (xs : List Int) (m : Int) (ys : List Int) : Bool := okW n xs && okW m ys && decide (n = m) && decide (xs.length + ys.length ≤ 200)
def codP (n : Int) (xs : List Int) (m : Int) (ys : List Int) : Int := if okW n xs = true ∧ okW m ys = true then (if n = m then (if xs.length + ys.length ≤ 200 then 0 else 3) else 2) else 1
theorem pr_1 {n m xs ys} (h : okW n xs = false) : goodP n xs m ys = false ∧ codP n xs m ys = 1 := by simp [goodP, codP, h]
theorem pr_2 {n m xs ys} (h : okW m ys = false) : goodP n xs m ys = false ∧ codP n xs m ys = 1 := by simp [goodP, codP, h]
theorem pr_3 {n m xs ys} (h1 : okW n xs = true) (h2 : okW m ys = true) (h : ¬ n = m) : goodP n xs m ys = false ∧ codP n xs m ys = 2 := by simp [goodP, codP, h1, h2, h]
theorem pr_4 {n xs ys} (h1 : okW n xs = true) (h2 : okW n ys = true) (h : ¬ xs.length + ys.length ≤ 200) : goodP n xs n ys = false ∧ codP n xs n ys = 3 := by
  simp only [goodP, codP, h1, h2, h]; simp
theorem pr_5 {n xs ys} (h1 : okW n xs = true) (h2 : okW n ys = true) (h : xs.length + ys.length ≤ 200) : goodP n xs n ys = true ∧ codP n xs n ys = 0 := by
  simp only [goodP, codP, h1, h2, h]; simp
theorem goodP_le {n m xs ys} (h : goodP n xs m ys = true) : (xs ++ ys).length ≤ 200 := by
  simp only [goodP, Bool.and_eq_true, decide_eq_true_eq] at h
  rw [List.length_append]; exact h.2
set_option maxHeartbeats 1000000 in
theorem impl_ProductOf (n : Int) (v1 : Value) (xs : List Int) (m : Int) (v2 : Value) (ys : List Int) (w : World) (h1 : reads w v1 xs) (h2 : reads w v2 ys) (hlen1 : xs.length ≤ 1000000000) (hlen2 : ys.length ≤ 1000000000) (hfit1 : Fits xs) (hfit2 : Fits ys) : Calls Tryz.prog 9 #[.agg #[.int .i64 n, v1], .agg #[.int .i64 m, v2]] w (RetB2 2 w (if goodP n xs m ys = true then n else 0) (if goodP n xs m ys = true then xs ++ ys else []) (codP n xs m ys)) := by
  have hIA := fun w' (hb : Below w.heap.size w w') => impl_IsBraid n v1 xs w' (h1.kept hb) hlen1 hfit1
  have hIB := fun w' (hb : Below w.heap.size w w') => impl_IsBraid m v2 ys w' (h2.kept hb) hlen2 hfit2
  clear hfit1 hfit2
  cases hA : okW n xs with
  | false =>
    obtain ⟨e1, e2⟩ := pr_1 (m := m) (ys := ys) hA
    simp only [hA] at hIA
    have HA := Lib.hid hIA
    have HB := Lib.hid hIB
    clear hIA hIB hA
    simp only [e1, e2, Bool.false_eq_true, if_false]
    clear e1 e2 h1 h2
    go_enter Tryz.func9, Tryz.ntmps9
    go_wp2_with (first | (go_at_call 33; with_reducible refine Calls.mono (HA.out _ ?_) ?_; (repeat (first | (with_reducible exact Below.refl _ _) | (with_reducible assumption) | (with_reducible refine below_plus' ?_ ?_; ((try simp only [plus_size, World.size_alloc, World.size_drew, World.size_setCell, size_setRow, World.heap_drewN, List.length_append]) <;> omega)) | (with_reducible refine below_alloc' ?_ ?_; ((try simp only [plus_size, World.size_alloc, World.size_drew, World.size_setCell, size_setRow, World.heap_drewN, List.length_append]) <;> omega)) | with_reducible refine Below.drew ?_ | (with_reducible refine below_drewN' ?_ _) | exact Below.refl _ _)); rintro e w' ⟨rfl, hB⟩; obtain ⟨j, d, rfl⟩ := plus_of_below hB; clear hB) | (go_at_call 33; with_reducible refine Calls.mono (HB.out _ ?_) ?_; (repeat (first | (with_reducible exact Below.refl _ _) | (with_reducible assumption) | (with_reducible refine below_plus' ?_ ?_; ((try simp only [plus_size, World.size_alloc, World.size_drew, World.size_setCell, size_setRow, World.heap_drewN, List.length_append]) <;> omega)) | (with_reducible refine below_alloc' ?_ ?_; ((try simp only [plus_size, World.size_alloc, World.size_drew, World.size_setCell, size_setRow, World.heap_drewN, List.length_append]) <;> omega)) | with_reducible refine Below.drew ?_ | (with_reducible refine below_drewN' ?_ _) | exact Below.refl _ _)); rintro e w' ⟨rfl, hB⟩; obtain ⟨j, d, rfl⟩ := plus_of_below hB; clear hB))
    refine bodyPost_ret (v := .tuple #[.agg #[.int .i64 0, .slice none 0 0], .int .i64 1]) (by simp [results, Tryz.results9, go_sem]) rfl ?_
    exact ⟨_, rfl, by (repeat (first | (with_reducible exact Below.refl _ _) | (with_reducible assumption) | (with_reducible refine below_plus' ?_ ?_; ((try simp only [plus_size, World.size_alloc, World.size_drew, World.size_setCell, size_setRow, World.heap_drewN, List.length_append]) <;> omega)) | (with_reducible refine below_alloc' ?_ ?_; ((try simp only [plus_size, World.size_alloc, World.size_drew, World.size_setCell, size_setRow, World.heap_drewN, List.length_append]) <;> omega)) | with_reducible refine Below.drew ?_ | (with_reducible refine below_drewN' ?_ _) | exact Below.refl _ _)), own_nil _ _ _⟩
    
  | true =>
    simp only [hA] at hIA
    have HA := Lib.hid hIA
    clear hIA
    cases hB : okW m ys with
    | false =>
      obtain ⟨e1, e2⟩ := pr_2 (n := n) (xs := xs) hB
      simp only [hB] at hIB
      have HB := Lib.hid hIB
      clear hIB hA hB
      simp only [e1, e2, Bool.false_eq_true, if_false]
      clear e1 e2 h1 h2
      go_enter Tryz.func9, Tryz.ntmps9
      go_wp2_with (first | (go_at_call 33; with_reducible refine Calls.mono (HA.out _ ?_) ?_; (repeat (first | (with_reducible exact Below.refl _ _) | (with_reducible assumption) | (with_reducible refine below_plus' ?_ ?_; ((try simp only [plus_size, World.size_alloc, World.size_drew, World.size_setCell, size_setRow, World.heap_drewN, List.length_append]) <;> omega)) | (with_reducible refine below_alloc' ?_ ?_; ((try simp only [plus_size, World.size_alloc, World.size_drew, World.size_setCell, size_setRow, World.heap_drewN, List.length_append]) <;> omega)) | with_reducible refine Below.drew ?_ | (with_reducible refine below_drewN' ?_ _) | exact Below.refl _ _)); rintro e w' ⟨rfl, hB⟩; obtain ⟨j, d, rfl⟩ := plus_of_below hB; clear hB) | (go_at_call 33; with_reducible refine Calls.mono (HB.out _ ?_) ?_; (repeat (first | (with_reducible exact Below.refl _ _) | (with_reducible assumption) | (with_reducible refine below_plus' ?_ ?_; ((try simp only [plus_size, World.size_alloc, World.size_drew, World.size_setCell, size_setRow, World.heap_drewN, List.length_append]) <;> omega)) | (with_reducible refine below_alloc' ?_ ?_; ((try simp only [plus_size, World.size_alloc, World.size_drew, World.size_setCell, size_setRow, World.heap_drewN, List.length_append]) <;> omega)) | with_reducible refine Below.drew ?_ | (with_reducible refine below_drewN' ?_ _) | exact Below.refl _ _)); rintro e w' ⟨rfl, hB⟩; obtain ⟨j, d, rfl⟩ := plus_of_below hB; clear hB))
      refine bodyPost_ret (v := .tuple #[.agg #[.int .i64 0, .slice none 0 0], .int .i64 1]) (by simp [results, Tryz.results9, go_sem]) rfl ?_
      exact ⟨_, rfl, by (repeat (first | (with_reducible exact Below.refl _ _) | (with_reducible assumption) | (with_reducible refine below_plus' ?_ ?_; ((try simp only [plus_size, World.size_alloc, World.size_drew, World.size_setCell, size_setRow, World.heap_drewN, List.length_append]) <;> omega)) | (with_reducible refine below_alloc' ?_ ?_; ((try simp only [plus_size, World.size_alloc, World.size_drew, World.size_setCell, size_setRow, World.heap_drewN, List.length_append]) <;> omega)) | with_reducible refine Below.drew ?_ | (with_reducible refine below_drewN' ?_ _) | exact Below.refl _ _)), own_nil _ _ _⟩
      
    | true =>
      simp only [hB] at hIB
      have HB := Lib.hid hIB
      clear hIB
      have l1 := okW_len hA
      have l2 := okW_len hB
      by_cases hnm : n = m
      · subst hnm
        by_cases hl : xs.length + ys.length ≤ 200
        · obtain ⟨e1, e2⟩ := pr_5 hA hB hl
          simp only [e1, e2, if_true]
          clear e1 e2
          have hl1 : xs.length ≤ 200 := by omega
          have hl2 : ys.length ≤ 200 := by omega
          have hli : ¬ (200 : Int) < (xs.length : Int) + (ys.length : Int) := by omega
          have hnn : (n != n) = false := by simp
          clear hA hB
          obtain ⟨a1, c1, rfl, hs⟩ := id h1
          obtain ⟨a2, c2, rfl, hs⟩ := id h2
          clear hs
          go_enter Tryz.func9, Tryz.ntmps9
          go_wp2_with (first | (go_at_call 33; with_reducible refine Calls.mono (HA.out _ ?_) ?_; (repeat (first | (with_reducible exact Below.refl _ _) | (with_reducible assumption) | (with_reducible refine below_plus' ?_ ?_; ((try simp only [plus_size, World.size_alloc, World.size_drew, World.size_setCell, size_setRow, World.heap_drewN, List.length_append]) <;> omega)) | (with_reducible refine below_alloc' ?_ ?_; ((try simp only [plus_size, World.size_alloc, World.size_drew, World.size_setCell, size_setRow, World.heap_drewN, List.length_append]) <;> omega)) | with_reducible refine Below.drew ?_ | (with_reducible refine below_drewN' ?_ _) | exact Below.refl _ _)); rintro e w' ⟨rfl, hB⟩; obtain ⟨j, d, rfl⟩ := plus_of_below hB; clear hB)
                                                  | (go_at_call 33; with_reducible refine Calls.mono (HB.out _ ?_) ?_; (repeat (first | (with_reducible exact Below.refl _ _) | (with_reducible assumption) | (with_reducible refine below_plus' ?_ ?_; ((try simp only [plus_size, World.size_alloc, World.size_drew, World.size_setCell, size_setRow, World.heap_drewN, List.length_append]) <;> omega)) | (with_reducible refine below_alloc' ?_ ?_; ((try simp only [plus_size, World.size_alloc, World.size_drew, World.size_setCell, size_setRow, World.heap_drewN, List.length_append]) <;> omega)) | with_reducible refine Below.drew ?_ | (with_reducible refine below_drewN' ?_ _) | exact Below.refl _ _)); rintro e w' ⟨rfl, hB⟩; obtain ⟨j, d, rfl⟩ := plus_of_below hB; clear hB)
                                                  | (go_at_call 37; refine Calls.mono (joined_any _ _ _ _ xs ys _ ?_ ?_ (by omega)) ?_; exact h1.kept (by (repeat (first | (with_reducible exact Below.refl _ _) | (with_reducible assumption) | (with_reducible refine below_plus' ?_ ?_; ((try simp only [plus_size, World.size_alloc, World.size_drew, World.size_setCell, size_setRow, World.heap_drewN, List.length_append]) <;> omega)) | (with_reducible refine below_alloc' ?_ ?_; ((try simp only [plus_size, World.size_alloc, World.size_drew, World.size_setCell, size_setRow, World.heap_drewN, List.length_append]) <;> omega)) | with_reducible refine Below.drew ?_ | (with_reducible refine below_drewN' ?_ _) | exact Below.refl _ _))); exact h2.kept (by (repeat (first | (with_reducible exact Below.refl _ _) | (with_reducible assumption) | (with_reducible refine below_plus' ?_ ?_; ((try simp only [plus_size, World.size_alloc, World.size_drew, World.size_setCell, size_setRow, World.heap_drewN, List.length_append]) <;> omega)) | (with_reducible refine below_alloc' ?_ ?_; ((try simp only [plus_size, World.size_alloc, World.size_drew, World.size_setCell, size_setRow, World.heap_drewN, List.length_append]) <;> omega)) | with_reducible refine Below.drew ?_ | (with_reducible refine below_drewN' ?_ _) | exact Below.refl _ _))); rintro e w' ⟨vo, rfl, hB, hown⟩; obtain ⟨ao, co, rfl, hs⟩ := id hown.reads; clear hs; obtain ⟨j, d, rfl⟩ := plus_of_below hB; clear hB))
          refine bodyPost_ret (v := .tuple #[.agg #[.int .i64 n, .slice ao (xs ++ ys).length co], .int .i64 0]) (by simp [results, Tryz.results9, go_sem]) rfl ?_
          exact ⟨_, rfl, by (repeat (first | (with_reducible exact Below.refl _ _) | (with_reducible assumption) | (with_reducible refine below_plus' ?_ ?_; ((try simp only [plus_size, World.size_alloc, World.size_drew, World.size_setCell, size_setRow, World.heap_drewN, List.length_append]) <;> omega)) | (with_reducible refine below_alloc' ?_ ?_; ((try simp only [plus_size, World.size_alloc, World.size_drew, World.size_setCell, size_setRow, World.heap_drewN, List.length_append]) <;> omega)) | with_reducible refine Below.drew ?_ | (with_reducible refine below_drewN' ?_ _) | exact Below.refl _ _)), by ((try simp only [plus_plus] at hown ⊢); exact own_far hown (by ((try simp only [plus_size, World.size_alloc, World.size_drew, World.size_setCell, size_setRow, World.heap_drewN, List.length_append]) <;> omega)) (by ((try simp only [plus_size, World.size_alloc, World.size_drew, World.size_setCell, size_setRow, World.heap_drewN, List.length_append]) <;> omega)) (by ((try simp only [plus_size, World.size_alloc, World.size_drew, World.size_setCell, size_setRow, World.heap_drewN, List.length_append]) <;> omega)) (by (repeat (first | (with_reducible exact List.prefix_rfl) | (with_reducible exact List.nil_prefix) | (refine List.IsPrefix.trans ?_ (List.prefix_append _ _))))))⟩
          
        · obtain ⟨e1, e2⟩ := pr_4 hA hB hl
          have hli : (200 : Int) < (xs.length : Int) + (ys.length : Int) := by omega
          have hnn : (n != n) = false := by simp
          clear hA hB
          obtain ⟨a1, c1, rfl, hs⟩ := id h1
          obtain ⟨a2, c2, rfl, hs⟩ := id h2
          clear hs
          simp only [e1, e2, Bool.false_eq_true, if_false]
          clear e1 e2 h1 h2
          go_enter Tryz.func9, Tryz.ntmps9
          go_wp2_with (first | (go_at_call 33; with_reducible refine Calls.mono (HA.out _ ?_) ?_; (repeat (first | (with_reducible exact Below.refl _ _) | (with_reducible assumption) | (with_reducible refine below_plus' ?_ ?_; ((try simp only [plus_size, World.size_alloc, World.size_drew, World.size_setCell, size_setRow, World.heap_drewN, List.length_append]) <;> omega)) | (with_reducible refine below_alloc' ?_ ?_; ((try simp only [plus_size, World.size_alloc, World.size_drew, World.size_setCell, size_setRow, World.heap_drewN, List.length_append]) <;> omega)) | with_reducible refine Below.drew ?_ | (with_reducible refine below_drewN' ?_ _) | exact Below.refl _ _)); rintro e w' ⟨rfl, hB⟩; obtain ⟨j, d, rfl⟩ := plus_of_below hB; clear hB) | (go_at_call 33; with_reducible refine Calls.mono (HB.out _ ?_) ?_; (repeat (first | (with_reducible exact Below.refl _ _) | (with_reducible assumption) | (with_reducible refine below_plus' ?_ ?_; ((try simp only [plus_size, World.size_alloc, World.size_drew, World.size_setCell, size_setRow, World.heap_drewN, List.length_append]) <;> omega)) | (with_reducible refine below_alloc' ?_ ?_; ((try simp only [plus_size, World.size_alloc, World.size_drew, World.size_setCell, size_setRow, World.heap_drewN, List.length_append]) <;> omega)) | with_reducible refine Below.drew ?_ | (with_reducible refine below_drewN' ?_ _) | exact Below.refl _ _)); rintro e w' ⟨rfl, hB⟩; obtain ⟨j, d, rfl⟩ := plus_of_below hB; clear hB))
          refine bodyPost_ret (v := .tuple #[.agg #[.int .i64 0, .slice none 0 0], .int .i64 3]) (by simp [results, Tryz.results9, go_sem]) rfl ?_
          exact ⟨_, rfl, by (repeat (first | (with_reducible exact Below.refl _ _) | (with_reducible assumption) | (with_reducible refine below_plus' ?_ ?_; ((try simp only [plus_size, World.size_alloc, World.size_drew, World.size_setCell, size_setRow, World.heap_drewN, List.length_append]) <;> omega)) | (with_reducible refine below_alloc' ?_ ?_; ((try simp only [plus_size, World.size_alloc, World.size_drew, World.size_setCell, size_setRow, World.heap_drewN, List.length_append]) <;> omega)) | with_reducible refine Below.drew ?_ | (with_reducible refine below_drewN' ?_ _) | exact Below.refl _ _)), own_nil _ _ _⟩
          
      · obtain ⟨e1, e2⟩ := pr_3 hA hB hnm
        have hnb : (n != m) = true := by simp [hnm]
        clear hA hB
        simp only [e1, e2, Bool.false_eq_true, if_false]
        clear e1 e2 h1 h2
        go_enter Tryz.func9, Tryz.ntmps9
        go_wp2_with (first | (go_at_call 33; with_reducible refine Calls.mono (HA.out _ ?_) ?_; (repeat (first | (with_reducible exact Below.refl _ _) | (with_reducible assumption) | (with_reducible refine below_plus' ?_ ?_; ((try simp only [plus_size, World.size_alloc, World.size_drew, World.size_setCell, size_setRow, World.heap_drewN, List.length_append]) <;> omega)) | (with_reducible refine below_alloc' ?_ ?_; ((try simp only [plus_size, World.size_alloc, World.size_drew, World.size_setCell, size_setRow, World.heap_drewN, List.length_append]) <;> omega)) | with_reducible refine Below.drew ?_ | (with_reducible refine below_drewN' ?_ _) | exact Below.refl _ _)); rintro e w' ⟨rfl, hB⟩; obtain ⟨j, d, rfl⟩ := plus_of_below hB; clear hB) | (go_at_call 33; with_reducible refine Calls.mono (HB.out _ ?_) ?_; (repeat (first | (with_reducible exact Below.refl _ _) | (with_reducible assumption) | (with_reducible refine below_plus' ?_ ?_; ((try simp only [plus_size, World.size_alloc, World.size_drew, World.size_setCell, size_setRow, World.heap_drewN, List.length_append]) <;> omega)) | (with_reducible refine below_alloc' ?_ ?_; ((try simp only [plus_size, World.size_alloc, World.size_drew, World.size_setCell, size_setRow, World.heap_drewN, List.length_append]) <;> omega)) | with_reducible refine Below.drew ?_ | (with_reducible refine below_drewN' ?_ _) | exact Below.refl _ _)); rintro e w' ⟨rfl, hB⟩; obtain ⟨j, d, rfl⟩ := plus_of_below hB; clear hB))
        refine bodyPost_ret (v := .tuple #[.agg #[.int .i64 0, .slice none 0 0], .int .i64 2]) (by simp [results, Tryz.results9, go_sem]) rfl ?_
        exact ⟨_, rfl, by (repeat (first | (with_reducible exact Below.refl _ _) | (with_reducible assumption) | (with_reducible refine below_plus' ?_ ?_; ((try simp only [plus_size, World.size_alloc, World.size_drew, World.size_setCell, size_setRow, World.heap_drewN, List.length_append]) <;> omega)) | (with_reducible refine below_alloc' ?_ ?_; ((try simp only [plus_size, World.size_alloc, World.size_drew, World.size_setCell, size_setRow, World.heap_drewN, List.length_append]) <;> omega)) | with_reducible refine Below.drew ?_ | (with_reducible refine below_drewN' ?_ _) | exact Below.refl _ _)), own_nil _ _ _⟩
        
end Go.Proofs.YtblpbkfenmkhbaaGreatDoor
