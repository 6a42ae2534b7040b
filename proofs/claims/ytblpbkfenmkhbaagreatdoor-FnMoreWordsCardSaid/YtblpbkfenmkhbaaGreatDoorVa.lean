/- Free forms beside a code. Conditions: as each theorem says. -/
import Derived.Test.YtblpbkfenmkhbaaGreatDoorMb
namespace Go.Proofs.YtblpbkfenmkhbaaGreatDoor
open Go.RowKit
set_option linter.unusedSimpArgs false
set_option linter.unusedVariables false
set_option maxHeartbeats 1000000 in
theorem spec_FreeForm (n : Int) (v : Value) (xs : List Int) (w : World) (h : reads w v xs) (hlen : xs.length ≤ 1000000000) (hfit : Fits xs) : Calls Tryz.prog 12 #[.agg #[.int .i64 n, v]] w (RetB2 2 w (if okW n xs = true then n else 0) (if okW n xs = true then freeK xs xs.length else []) (if okW n xs = true then 0 else 1)) := by
  have hI := fun w' (hb : Below w.heap.size w w') => spec_Is n v xs w' (h.kept hb) hlen hfit
  cases hok : okW n xs with
  | false =>
    simp only [hok] at hI
    have HI := Lib.hid hI
    clear hI h hfit hok
    go_enter Tryz.func12, Tryz.ntmps12
    go_wp2_with (first | (go_at_call 38; refine Calls.mono (HI.out _ ?_) ?_; (repeat (first | (with_reducible exact Below.refl _ _) | (with_reducible assumption) | (with_reducible refine below_plus' ?_ ?_; ((try simp only [plus_size, World.size_alloc, World.size_drew, World.size_setCell, size_setRow, World.heap_drewN, List.length_append]) <;> omega)) | (with_reducible refine below_alloc' ?_ ?_; ((try simp only [plus_size, World.size_alloc, World.size_drew, World.size_setCell, size_setRow, World.heap_drewN, List.length_append]) <;> omega)) | with_reducible refine Below.drew ?_ | (with_reducible refine below_drewN' ?_ _) | exact Below.refl _ _)); rintro e w' ⟨rfl, hB⟩; obtain ⟨j, d, rfl⟩ := plus_of_below hB; clear hB))
    refine bodyPost_ret (v := .tuple #[.agg #[.int .i64 0, .slice none 0 0], .int .i64 1]) (by simp [results, Tryz.results12, go_sem]) rfl ?_
    exact ⟨_, by simp, by (repeat (first | (with_reducible exact Below.refl _ _) | (with_reducible assumption) | (with_reducible refine below_plus' ?_ ?_; ((try simp only [plus_size, World.size_alloc, World.size_drew, World.size_setCell, size_setRow, World.heap_drewN, List.length_append]) <;> omega)) | (with_reducible refine below_alloc' ?_ ?_; ((try simp only [plus_size, World.size_alloc, World.size_drew, World.size_setCell, size_setRow, World.heap_drewN, List.length_append]) <;> omega)) | with_reducible refine Below.drew ?_ | (with_reducible refine below_drewN' ?_ _) | exact Below.refl _ _)), own_nil _ _ _⟩
  | true =>
    simp only [hok] at hI
    have HI := Lib.hid hI
    have h200 := okW_len hok
    have hsm := okW_sm hok
    have hn1 := (okW_n hok).1
    have hn8 := (okW_n hok).2
    clear hI hfit hok
    simp only [if_true]
    have HC := Lib.hid (fun w' (hb : Below w.heap.size w w') => l01Free_any v xs w' (h.kept hb) h200 hsm)
    clear h hsm
    obtain ⟨L, hLE⟩ : ∃ L, freeK xs xs.length = L := ⟨_, rfl⟩
    simp only [hLE] at HC ⊢
    clear hLE
    go_enter Tryz.func12, Tryz.ntmps12
    go_wp2_with (first | (go_at_call 38; refine Calls.mono (HI.out _ ?_) ?_; (repeat (first | (with_reducible exact Below.refl _ _) | (with_reducible assumption) | (with_reducible refine below_plus' ?_ ?_; ((try simp only [plus_size, World.size_alloc, World.size_drew, World.size_setCell, size_setRow, World.heap_drewN, List.length_append]) <;> omega)) | (with_reducible refine below_alloc' ?_ ?_; ((try simp only [plus_size, World.size_alloc, World.size_drew, World.size_setCell, size_setRow, World.heap_drewN, List.length_append]) <;> omega)) | with_reducible refine Below.drew ?_ | (with_reducible refine below_drewN' ?_ _) | exact Below.refl _ _)); rintro e w' ⟨rfl, hB⟩; obtain ⟨j, d, rfl⟩ := plus_of_below hB; clear hB))
    refine region_ghost [4, 5, 6, 7] (by kernel_rfl) (by kernel_rfl) (by kernel_rfl) ?_
    repeat (refine wpPlain_step (fun K hK => ?_); go_simp; first | (refine hK _ ?_; clear hK K) | (apply Exists.intro; refine ⟨fun _ => ?_, hK _ ?_⟩; (fail); clear hK K))
    refine wpPlain_nil ?_
    intro j d
    refine gchain_cons _ rfl ?_
    go_wp2_with (first | (go_at_call 42; refine Calls.mono (HC.out _ ?_) ?_; (repeat (first | (with_reducible exact Below.refl _ _) | (with_reducible assumption) | (with_reducible refine below_plus' ?_ ?_; ((try simp only [plus_size, World.size_alloc, World.size_drew, World.size_setCell, size_setRow, World.heap_drewN, List.length_append]) <;> omega)) | (with_reducible refine below_alloc' ?_ ?_; ((try simp only [plus_size, World.size_alloc, World.size_drew, World.size_setCell, size_setRow, World.heap_drewN, List.length_append]) <;> omega)) | with_reducible refine Below.drew ?_ | (with_reducible refine below_drewN' ?_ _) | exact Below.refl _ _)); rintro e w' ⟨vo, rfl, hB, ho⟩; have hro := ho.reads; obtain ⟨ao, co, rfl, hs⟩ := id hro; clear hs; obtain ⟨j, d, rfl⟩ := plus_of_below hB; clear hB))
    refine gExit_normal ⟨.inr (later_of_below (by (repeat (first | (with_reducible exact Below.refl _ _) | (with_reducible assumption) | (with_reducible refine below_plus' ?_ ?_; ((try simp only [plus_size, World.size_alloc, World.size_drew, World.size_setCell, size_setRow, World.heap_drewN, List.length_append]) <;> omega)) | (with_reducible refine below_alloc' ?_ ?_; ((try simp only [plus_size, World.size_alloc, World.size_drew, World.size_setCell, size_setRow, World.heap_drewN, List.length_append]) <;> omega)) | with_reducible refine Below.drew ?_ | (with_reducible refine below_drewN' ?_ _) | exact Below.refl _ _)))), fun j d => ?_⟩
    refine gchain_cons _ rfl ?_
    go_wp2
    refine gExit_normal ⟨.inr (later_of_below (by (repeat (first | (with_reducible exact Below.refl _ _) | (with_reducible assumption) | (with_reducible refine below_plus' ?_ ?_; ((try simp only [plus_size, World.size_alloc, World.size_drew, World.size_setCell, size_setRow, World.heap_drewN, List.length_append]) <;> omega)) | (with_reducible refine below_alloc' ?_ ?_; ((try simp only [plus_size, World.size_alloc, World.size_drew, World.size_setCell, size_setRow, World.heap_drewN, List.length_append]) <;> omega)) | with_reducible refine Below.drew ?_ | (with_reducible refine below_drewN' ?_ _) | exact Below.refl _ _)))), fun j d => ?_⟩
    refine gchain_cons _ rfl ?_
    go_wp2
    refine gExit_normal ⟨.inl (by kernel_rfl), fun j d => ?_⟩
    refine gchain_cons _ rfl ?_
    go_wp2
    refine gExit_normal ⟨.inl (by kernel_rfl), fun j d => ?_⟩
    refine gchain_nil ?_
    go_wp2
    refine bodyPost_ret (v := .tuple #[.agg #[.int .i64 n, .slice ao L.length co], .int .i64 0]) (by simp [results, Tryz.results12, go_sem]) rfl ?_
    exact ⟨_, rfl, by (repeat (first | (with_reducible exact Below.refl _ _) | (with_reducible assumption) | (with_reducible refine below_plus' ?_ ?_; ((try simp only [plus_size, World.size_alloc, World.size_drew, World.size_setCell, size_setRow, World.heap_drewN, List.length_append]) <;> omega)) | (with_reducible refine below_alloc' ?_ ?_; ((try simp only [plus_size, World.size_alloc, World.size_drew, World.size_setCell, size_setRow, World.heap_drewN, List.length_append]) <;> omega)) | with_reducible refine Below.drew ?_ | (with_reducible refine below_drewN' ?_ _) | exact Below.refl _ _)), by ((try simp only [plus_plus] at ho ⊢); exact own_far ho (by ((try simp only [plus_size, World.size_alloc, World.size_drew, World.size_setCell, size_setRow, World.heap_drewN, List.length_append]) <;> omega)) (by ((try simp only [plus_size, World.size_alloc, World.size_drew, World.size_setCell, size_setRow, World.heap_drewN, List.length_append]) <;> omega)) (by ((try simp only [plus_size, World.size_alloc, World.size_drew, World.size_setCell, size_setRow, World.heap_drewN, List.length_append]) <;> omega)) (by (repeat (first | (with_reducible exact List.prefix_rfl) | (with_reducible exact List.nil_prefix) | (refine List.IsPrefix.trans ?_ (List.prefix_append _ _))))))⟩
set_option maxHeartbeats 1000000 in
theorem impl_FreeForm (n : Int) (v : Value) (xs : List Int) (w : World) (h : reads w v xs) (hlen : xs.length ≤ 1000000000) (hfit : Fits xs) : Calls Tryz.prog 11 #[.agg #[.int .i64 n, v]] w (RetB2 2 w (if okW n xs = true then n else 0) (if okW n xs = true then freeK xs xs.length else []) (if okW n xs = true then 0 else 1)) := by
  have hI := fun w' (hb : Below w.heap.size w w') => impl_IsBraid n v xs w' (h.kept hb) hlen hfit
  cases hok : okW n xs with
  | false =>
    simp only [hok] at hI
    have HI := Lib.hid hI
    clear hI h hfit hok
    go_enter Tryz.func11, Tryz.ntmps11
    go_wp2_with (first | (go_at_call 33; refine Calls.mono (HI.out _ ?_) ?_; (repeat (first | (with_reducible exact Below.refl _ _) | (with_reducible assumption) | (with_reducible refine below_plus' ?_ ?_; ((try simp only [plus_size, World.size_alloc, World.size_drew, World.size_setCell, size_setRow, World.heap_drewN, List.length_append]) <;> omega)) | (with_reducible refine below_alloc' ?_ ?_; ((try simp only [plus_size, World.size_alloc, World.size_drew, World.size_setCell, size_setRow, World.heap_drewN, List.length_append]) <;> omega)) | with_reducible refine Below.drew ?_ | (with_reducible refine below_drewN' ?_ _) | exact Below.refl _ _)); rintro e w' ⟨rfl, hB⟩; obtain ⟨j, d, rfl⟩ := plus_of_below hB; clear hB))
    refine bodyPost_ret (v := .tuple #[.agg #[.int .i64 0, .slice none 0 0], .int .i64 1]) (by simp [results, Tryz.results11, go_sem]) rfl ?_
    exact ⟨_, by simp, by (repeat (first | (with_reducible exact Below.refl _ _) | (with_reducible assumption) | (with_reducible refine below_plus' ?_ ?_; ((try simp only [plus_size, World.size_alloc, World.size_drew, World.size_setCell, size_setRow, World.heap_drewN, List.length_append]) <;> omega)) | (with_reducible refine below_alloc' ?_ ?_; ((try simp only [plus_size, World.size_alloc, World.size_drew, World.size_setCell, size_setRow, World.heap_drewN, List.length_append]) <;> omega)) | with_reducible refine Below.drew ?_ | (with_reducible refine below_drewN' ?_ _) | exact Below.refl _ _)), own_nil _ _ _⟩
  | true =>
    simp only [hok] at hI
    have HI := Lib.hid hI
    have h200 := okW_len hok
    have hsm := okW_sm hok
    have hn1 := (okW_n hok).1
    have hn8 := (okW_n hok).2
    clear hI hfit hok
    simp only [if_true]
    replace hsm := Lib.hid hsm
    obtain ⟨a, c, rfl, hrd⟩ := h
    have Hr := Lib.hid (show 0 < xs.length → ∃ b o, a = some ⟨b, o, none⟩ ∧ b < w.heap.size ∧ ∀ i, i < xs.length → w.cell? ⟨b, o + i, none⟩ = some (.int .i64 (nth xs i)) from fun hp => by
      rcases hrd with h | ⟨b, o, rfl, m⟩
      · rw [h] at hp; cases hp
      · exact ⟨b, o, rfl, World.block_lt_of_cell? w _ (m 0 hp), m⟩)
    clear hrd
    go_enter Tryz.func11, Tryz.ntmps11
    go_wp2_with (first | (go_at_call 33; refine Calls.mono (HI.out _ ?_) ?_; (repeat (first | (with_reducible exact Below.refl _ _) | (with_reducible assumption) | (with_reducible refine below_plus' ?_ ?_; ((try simp only [plus_size, World.size_alloc, World.size_drew, World.size_setCell, size_setRow, World.heap_drewN, List.length_append]) <;> omega)) | (with_reducible refine below_alloc' ?_ ?_; ((try simp only [plus_size, World.size_alloc, World.size_drew, World.size_setCell, size_setRow, World.heap_drewN, List.length_append]) <;> omega)) | with_reducible refine Below.drew ?_ | (with_reducible refine below_drewN' ?_ _) | exact Below.refl _ _)); rintro e w' ⟨rfl, hB⟩; obtain ⟨j0, d0, rfl⟩ := plus_of_below hB; clear hB))
    go_loopw [18] (fun sl wr => ∃ (vo : Value) (l : List Int) (k : Nat) (j : List Obj) (d : Nat), Hid (l = freeK xs k) ∧ k ≤ xs.length ∧ sl = .int .i64 k ∧ wr = plus ((plus ((w.alloc (.cells #[.int .i64 n, .slice a xs.length c] 26)).alloc (.cells #[.int .i64 0, .slice none 0 0] 26)) j0 d0).alloc (.cells #[.int .i64 n, vo] 26)) j d ∧ own 2 (plus ((plus ((w.alloc (.cells #[.int .i64 n, .slice a xs.length c] 26)).alloc (.cells #[.int .i64 0, .slice none 0 0] 26)) j0 d0).alloc (.cells #[.int .i64 n, vo] 26)) j d) ((plus ((w.alloc (.cells #[.int .i64 n, .slice a xs.length c] 26)).alloc (.cells #[.int .i64 0, .slice none 0 0] 26)) j0 d0).alloc (.cells #[.int .i64 n, vo] 26)).heap.size vo l) (fun sl _ => xs.length - (intOf sl).toNat)
    case atStart => exact ⟨_, [], 0, [], d0, Lib.hid rfl, by omega, rfl, (plus_nil _).symm, own_nil _ _ _⟩
    case round =>
      obtain ⟨vo, l, k, j, d, HLl, hk, rfl, rfl, hown⟩ := hrel
      obtain ⟨ao, co, rfl, hs⟩ := id hown.reads
      clear hs
      by_cases hlt : k < xs.length
      · obtain ⟨b, o, rfl, hbk, mm⟩ := Hr.out (by omega)
        have g1 := mm k hlt
        have hs7 := hsm.out k hlt
        have hll : l.length < 1000000000 := by have h1 := congrArg List.length HLl.out; have h2 := freeK_le xs k hk; omega
        have hb1 : b < w.heap.size + 1 := by omega
        have hb2 : b < w.heap.size + 1 + 1 := by omega
        have hb3 : b < w.heap.size + 1 + 1 + j0.length := by omega
        have hb4 : b < w.heap.size + 1 + 1 + j0.length + 1 := by omega
        clear mm Hr
        by_cases hz : l.length = 0
        · have HB := Lib.hid (show l ++ [nth xs k] = freeK xs (k + 1) by rw [← freeK_succ hlt, ← HLl.out, fs_nil hz])
          simp only [hz] at hown ⊢
          go_wp2_with (first | (at_builtin; go_loud (refine wpList_append1p (W := ((plus ((w.alloc (.cells #[.int .i64 n, .slice (some ⟨b, o, none⟩) xs.length c] 26)).alloc (.cells #[.int .i64 0, .slice none 0 0] 26)) j0 d0).alloc (.cells #[.int .i64 n, .slice ao 0 co] 26))) rfl _ _ 24 rfl Tryz.underlying24 infoI _ rfl _ rfl ?_ hown ?_ ?_; ((try simp only [plus_size, World.size_alloc, World.size_drew, World.size_setCell, size_setRow, World.heap_drewN, List.length_append]) <;> omega); (omega); intro v' j' d' hown'; clear hown; obtain ⟨av, cv, rfl, hs⟩ := id hown'.reads; clear hs)))
          have hL : (l ++ [nth xs k]).length = 1 := by simp [hz]
          rw [hL] at hown'
          go_roundw
          case rel => exact ⟨.slice av 1 cv, _, k + 1, _, _, HB, by omega, by go_num, rfl, own_far hown' (by ((try simp only [plus_size, World.size_alloc, World.size_drew, World.size_setCell, size_setRow, World.heap_drewN, List.length_append]) <;> omega)) (by ((try simp only [plus_size, World.size_alloc, World.size_drew, World.size_setCell, size_setRow, World.heap_drewN, List.length_append]) <;> omega)) (by ((try simp only [plus_size, World.size_alloc, World.size_drew, World.size_setCell, size_setRow, World.heap_drewN, List.length_append]) <;> omega)) List.prefix_rfl⟩
          case measure => simp [intOf]; omega
        · obtain ⟨g, c2, hv, hgB, hgl, hcap⟩ := own_some hown (by omega)
          simp only [Value.slice.injEq, true_and] at hv
          obtain ⟨rfl, rfl⟩ := hv
          obtain ⟨p, hp⟩ : ∃ p, l.length = p + 1 := ⟨l.length - 1, by omega⟩
          obtain ⟨q, hq⟩ : ∃ q, l.length = q := ⟨_, rfl⟩
          have c0 := hown.cell (i := p) (by omega)
          have c1 : ∀ d', (plus ((plus ((w.alloc (.cells #[.int .i64 n, .slice (some ⟨b, o, none⟩) xs.length c] 26)).alloc (.cells #[.int .i64 0, .slice none 0 0] 26)) j0 d0).alloc (.cells #[.int .i64 n, .slice (some ⟨g, 0, none⟩) q co] 26)) j d').cell? ⟨g, p, none⟩ = some (.int .i64 (nth l p)) := fun d' => by rw [← hq]; exact c0
          clear c0
          have hq0 : 0 < q := by omega
          have hq1 : (0 : Int) < (q : Int) := by omega
          have hdq : decide (0 < q) = true := by simp [hq0]
          have hpq : p < q := by omega
          have hpc : p ≤ co := by omega
          have hqb : q < 1000000000 := by omega
          have hpw : IntKind.i64.wrap ((q : Int) - 1) = p := by rw [IntKind.wrap_i64]; omega
          simp only [hq] at hown ⊢
          by_cases hd : nth l p = -nth xs k
          · have hd1 : (nth l p == -nth xs k) = true := by simp [hd]
            have hd2 : decide (nth l p = -nth xs k) = true := by simp [hd]
            have HB := Lib.hid (show l.dropLast = freeK xs (k + 1) by rw [← freeK_succ hlt, ← HLl.out, fs_yes hp hd])
            have hown' := own_drop hown hp
            go_wp2
            go_roundw
            case rel => exact ⟨.slice (some ⟨g, 0, none⟩) p co, _, k + 1, _, _, HB, by omega, by go_num, rfl, own_far hown' (by ((try simp only [plus_size, World.size_alloc, World.size_drew, World.size_setCell, size_setRow, World.heap_drewN, List.length_append]) <;> omega)) (by ((try simp only [plus_size, World.size_alloc, World.size_drew, World.size_setCell, size_setRow, World.heap_drewN, List.length_append]) <;> omega)) (by ((try simp only [plus_size, World.size_alloc, World.size_drew, World.size_setCell, size_setRow, World.heap_drewN, List.length_append]) <;> omega)) List.prefix_rfl⟩
            case measure => simp [intOf]; omega
          · have hd1 : (nth l p == -nth xs k) = false := by simp [hd]
            have hd2 : decide (nth l p = -nth xs k) = false := by simp [hd]
            have HB := Lib.hid (show l ++ [nth xs k] = freeK xs (k + 1) by rw [← freeK_succ hlt, ← HLl.out, fs_no hp hd])
            go_wp2_with (first | (at_builtin; go_loud (refine wpList_append1p (W := ((plus ((w.alloc (.cells #[.int .i64 n, .slice (some ⟨b, o, none⟩) xs.length c] 26)).alloc (.cells #[.int .i64 0, .slice none 0 0] 26)) j0 d0).alloc (.cells #[.int .i64 n, .slice (some ⟨g, 0, none⟩) q co] 26))) rfl _ _ 24 rfl Tryz.underlying24 infoI _ rfl _ rfl ?_ hown ?_ ?_; ((try simp only [plus_size, World.size_alloc, World.size_drew, World.size_setCell, size_setRow, World.heap_drewN, List.length_append]) <;> omega); (omega); intro v' j' d' hown'; clear hown; obtain ⟨av, cv, rfl, hs⟩ := id hown'.reads; clear hs)))
            have hL : (l ++ [nth xs k]).length = p + 1 + 1 := by simp [hp]
            rw [hL] at hown'
            go_roundw
            case rel => exact ⟨.slice av (p + 1 + 1) cv, _, k + 1, _, _, HB, by omega, by go_num, rfl, own_far hown' (by ((try simp only [plus_size, World.size_alloc, World.size_drew, World.size_setCell, size_setRow, World.heap_drewN, List.length_append]) <;> omega)) (by ((try simp only [plus_size, World.size_alloc, World.size_drew, World.size_setCell, size_setRow, World.heap_drewN, List.length_append]) <;> omega)) (by ((try simp only [plus_size, World.size_alloc, World.size_drew, World.size_setCell, size_setRow, World.heap_drewN, List.length_append]) <;> omega)) List.prefix_rfl⟩
            case measure => simp [intOf]; omega
      · obtain rfl : k = xs.length := by omega
        have HE := Lib.hid HLl.out
        go_wp2
        refine bodyPost_ret (v := .tuple #[.agg #[.int .i64 n, .slice ao l.length co], .int .i64 0]) (by simp [results, Tryz.results11, go_sem]) rfl ?_
        exact ⟨_, rfl, by (repeat (first | (with_reducible exact Below.refl _ _) | (with_reducible assumption) | (with_reducible refine below_plus' ?_ ?_; ((try simp only [plus_size, World.size_alloc, World.size_drew, World.size_setCell, size_setRow, World.heap_drewN, List.length_append]) <;> omega)) | (with_reducible refine below_alloc' ?_ ?_; ((try simp only [plus_size, World.size_alloc, World.size_drew, World.size_setCell, size_setRow, World.heap_drewN, List.length_append]) <;> omega)) | with_reducible refine Below.drew ?_ | (with_reducible refine below_drewN' ?_ _) | exact Below.refl _ _)), by rw [← HE.out]; ((try simp only [plus_plus] at hown ⊢); exact own_far hown (by ((try simp only [plus_size, World.size_alloc, World.size_drew, World.size_setCell, size_setRow, World.heap_drewN, List.length_append]) <;> omega)) (by ((try simp only [plus_size, World.size_alloc, World.size_drew, World.size_setCell, size_setRow, World.heap_drewN, List.length_append]) <;> omega)) (by ((try simp only [plus_size, World.size_alloc, World.size_drew, World.size_setCell, size_setRow, World.heap_drewN, List.length_append]) <;> omega)) (by (repeat (first | (with_reducible exact List.prefix_rfl) | (with_reducible exact List.nil_prefix) | (refine List.IsPrefix.trans ?_ (List.prefix_append _ _))))))⟩
end Go.Proofs.YtblpbkfenmkhbaaGreatDoor
