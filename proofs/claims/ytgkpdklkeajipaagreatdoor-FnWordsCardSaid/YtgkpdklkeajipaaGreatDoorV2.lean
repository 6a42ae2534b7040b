/- Braids beside a code: the reference, loops. Conditions: as each theorem says. -/
import Derived.Test.YtgkpdklkeajipaaGreatDoorV1
namespace Go.Proofs.YtgkpdklkeajipaaGreatDoor
open Go.RowKit
set_option linter.unusedSimpArgs false
set_option linter.unusedVariables false
set_option maxHeartbeats 1000000 in
theorem spec_MirrorOf (n : Int) (v : Value) (xs : List Int) (w : World) (h : reads w v xs) (hlen : xs.length ≤ 1000000000) (hfit : Fits xs) : Calls Tryz.prog 18 #[.agg #[.int .i64 n, v]] w (RetB2 2 w (if okW n xs = true then n else 0) (if okW n xs = true then xs.map (negL) else []) (if okW n xs = true then 0 else 1)) := by
  have hI := fun w' (hb : Below w.heap.size w w') => spec_Is n v xs w' (h.kept hb) hlen hfit
  cases hok : okW n xs with
  | false =>
    simp only [hok] at hI
    have HI := Lib.hid hI
    clear hI h hfit hok
    go_enter Tryz.func18, Tryz.ntmps18
    go_wp2_with (first | (go_at_call 31; refine Calls.mono (HI.out _ ?_) ?_; (repeat (first | (with_reducible exact Below.refl _ _) | (with_reducible assumption) | (with_reducible refine below_plus' ?_ ?_; ((try simp only [plus_size, World.size_alloc, World.size_drew, World.size_setCell, size_setRow, World.heap_drewN, List.length_append]) <;> omega)) | (with_reducible refine below_alloc' ?_ ?_; ((try simp only [plus_size, World.size_alloc, World.size_drew, World.size_setCell, size_setRow, World.heap_drewN, List.length_append]) <;> omega)) | with_reducible refine Below.drew ?_ | (with_reducible refine below_drewN' ?_ _) | exact Below.refl _ _)); rintro e w' ⟨rfl, hB⟩; obtain ⟨j, d, rfl⟩ := plus_of_below hB; clear hB))
    refine bodyPost_ret (v := .tuple #[.agg #[.int .i64 0, .slice none 0 0], .int .i64 1]) (by simp [results, Tryz.results18, go_sem]) rfl ?_
    exact ⟨_, by simp, by (repeat (first | (with_reducible exact Below.refl _ _) | (with_reducible assumption) | (with_reducible refine below_plus' ?_ ?_; ((try simp only [plus_size, World.size_alloc, World.size_drew, World.size_setCell, size_setRow, World.heap_drewN, List.length_append]) <;> omega)) | (with_reducible refine below_alloc' ?_ ?_; ((try simp only [plus_size, World.size_alloc, World.size_drew, World.size_setCell, size_setRow, World.heap_drewN, List.length_append]) <;> omega)) | with_reducible refine Below.drew ?_ | (with_reducible refine below_drewN' ?_ _) | exact Below.refl _ _)), own_nil _ _ _⟩
  | true =>
    simp only [hok] at hI
    have HI := Lib.hid hI
    have h200 := okW_len hok
    have hsm := okW_sm hok
    have hn1 := (okW_n hok).1
    have hn8 := (okW_n hok).2
    clear hI hfit hok
    simp only [if_true]
    replace hsm := Lib.hid hsm
    obtain ⟨a, c, rfl, hrd⟩ := h
    have Hr := Lib.hid (show 0 < xs.length → ∃ b o, a = some ⟨b, o, none⟩ ∧ b < w.heap.size ∧ ∀ i, i < xs.length → w.cell? ⟨b, o + i, none⟩ = some (.int .i64 (nth xs i)) from fun hp => by
      rcases hrd with h | ⟨b, o, rfl, m⟩
      · rw [h] at hp; cases hp
      · exact ⟨b, o, rfl, World.block_lt_of_cell? w _ (m 0 hp), m⟩)
    clear hrd
    go_enter Tryz.func18, Tryz.ntmps18
    go_wp2_with (first | (go_at_call 31; refine Calls.mono (HI.out _ ?_) ?_; (repeat (first | (with_reducible exact Below.refl _ _) | (with_reducible assumption) | (with_reducible refine below_plus' ?_ ?_; ((try simp only [plus_size, World.size_alloc, World.size_drew, World.size_setCell, size_setRow, World.heap_drewN, List.length_append]) <;> omega)) | (with_reducible refine below_alloc' ?_ ?_; ((try simp only [plus_size, World.size_alloc, World.size_drew, World.size_setCell, size_setRow, World.heap_drewN, List.length_append]) <;> omega)) | with_reducible refine Below.drew ?_ | (with_reducible refine below_drewN' ?_ _) | exact Below.refl _ _)); rintro e w' ⟨rfl, hB⟩; obtain ⟨j0, d0, rfl⟩ := plus_of_below hB; clear hB))
    go_loopw [5] (fun sl wr => ∃ (vo : Value) (l : List Int) (k : Nat) (j : List Obj) (d : Nat), Hid (l = (xs.take k).map (negL)) ∧ k ≤ xs.length ∧ sl = .int .i64 k ∧ wr = plus ((plus ((w.alloc (.cells #[.int .i64 n, .slice a xs.length c] 26)).alloc (.cells #[.int .i64 0, .slice none 0 0] 26)) j0 d0).alloc (.cells #[.int .i64 n, vo] 26)) j d ∧ own 2 (plus ((plus ((w.alloc (.cells #[.int .i64 n, .slice a xs.length c] 26)).alloc (.cells #[.int .i64 0, .slice none 0 0] 26)) j0 d0).alloc (.cells #[.int .i64 n, vo] 26)) j d) ((plus ((w.alloc (.cells #[.int .i64 n, .slice a xs.length c] 26)).alloc (.cells #[.int .i64 0, .slice none 0 0] 26)) j0 d0).alloc (.cells #[.int .i64 n, vo] 26)).heap.size vo l) (fun sl _ => xs.length - (intOf sl).toNat)
    case atStart => exact ⟨_, [], 0, [], d0, Lib.hid (by rfl), by omega, rfl, (plus_nil _).symm, own_nil _ _ _⟩
    case round =>
      obtain ⟨vo, l, k, j, d, HLl, hk, rfl, rfl, hown⟩ := hrel
      obtain ⟨ao, co, rfl, hs⟩ := id hown.reads
      clear hs
      by_cases hlt : k < xs.length
      · obtain ⟨b, o, rfl, hbk, mm⟩ := Hr.out (by omega)
        have hmx : k < xs.length := by omega
        have g1 := mm k hmx
        have hs7 := hsm.out k hmx
        have hll : l.length < 1000000000 := by have := congrArg List.length HLl.out; simp at this; omega
        have hb1 : b < w.heap.size + 1 := by omega
        have hb2 : b < w.heap.size + 1 + 1 := by omega
        have hb3 : b < w.heap.size + 1 + 1 + j0.length := by omega
        have hb4 : b < w.heap.size + 1 + 1 + j0.length + 1 := by omega
        have HB := Lib.hid (show l ++ [-nth xs k] = (xs.take (k + 1)).map (negL) by rw [HLl.out, ← take_map_step _ hlt]; rfl)
        clear mm Hr
        go_wp2
        refine region_ghostW (W := ((plus ((w.alloc (.cells #[.int .i64 n, .slice (some ⟨b, o, none⟩) xs.length c] 26)).alloc (.cells #[.int .i64 0, .slice none 0 0] 26)) j0 d0).alloc (.cells #[.int .i64 n, .slice ao l.length co] 26))) [8, 9, 11] (by kernel_rfl) (by kernel_rfl) (by kernel_rfl) ?_
        repeat (refine wpPlain_step (fun K hK => ?_); go_simp; first | (refine hK _ ?_; clear hK K) | (apply Exists.intro; refine ⟨fun _ => ?_, hK _ ?_⟩; (fail); clear hK K))
        refine wpPlain_nil ?_
        intro j1 d1
        rw [plus_plus]
        have hown1 := own_plus (j' := j1) (d' := d1) hown
        refine gchain_cons _ rfl ?_
        go_wp2
        refine gExit_normal ⟨.inr (later_of_below (by (repeat (first | (with_reducible exact Below.refl _ _) | (with_reducible assumption) | (with_reducible refine below_plus' ?_ ?_; ((try simp only [plus_size, World.size_alloc, World.size_drew, World.size_setCell, size_setRow, World.heap_drewN, List.length_append]) <;> omega)) | (with_reducible refine below_alloc' ?_ ?_; ((try simp only [plus_size, World.size_alloc, World.size_drew, World.size_setCell, size_setRow, World.heap_drewN, List.length_append]) <;> omega)) | with_reducible refine Below.drew ?_ | (with_reducible refine below_drewN' ?_ _) | exact Below.refl _ _)))), fun j2 d2 => ?_⟩
        refine gchain_cons _ rfl ?_
        refine wpList_append1 rfl _ _ 24 rfl 2 Tryz.underlying24 infoI ((plus ((w.alloc (.cells #[.int .i64 n, .slice (some ⟨b, o, none⟩) xs.length c] 26)).alloc (.cells #[.int .i64 0, .slice none 0 0] 26)) j0 d0).alloc (.cells #[.int .i64 n, .slice ao l.length co] 26)).heap.size (.slice ao l.length co) l rfl _ rfl (-nth xs k) ?_ (hown1.kept (by (repeat (first | (with_reducible exact Below.refl _ _) | (with_reducible assumption) | (with_reducible refine below_plus' ?_ ?_; ((try simp only [plus_size, World.size_alloc, World.size_drew, World.size_setCell, size_setRow, World.heap_drewN, List.length_append]) <;> omega)) | (with_reducible refine below_alloc' ?_ ?_; ((try simp only [plus_size, World.size_alloc, World.size_drew, World.size_setCell, size_setRow, World.heap_drewN, List.length_append]) <;> omega)) | with_reducible refine Below.drew ?_ | (with_reducible refine below_drewN' ?_ _) | exact Below.refl _ _)))) hll (by ((try simp only [plus_size, World.size_alloc, World.size_drew, World.size_setCell, size_setRow, World.heap_drewN, List.length_append]) <;> omega)) ?_
        · rw [plus_cell _ _ _ _ _ (by ((try simp only [plus_size, World.size_alloc, World.size_drew, World.size_setCell, size_setRow, World.heap_drewN, List.length_append]) <;> omega)), World.cell?_alloc_at _ _ _ _ (by ((try simp only [plus_size, World.size_alloc, World.size_drew, World.size_setCell, size_setRow, World.heap_drewN, List.length_append]) <;> omega))]; rfl
        intro v' w3 hown2 hB
        go_wp2
        have hW3 : Below ((plus ((w.alloc (.cells #[.int .i64 n, .slice (some ⟨b, o, none⟩) xs.length c] 26)).alloc (.cells #[.int .i64 0, .slice none 0 0] 26)) j0 d0).alloc (.cells #[.int .i64 n, .slice ao l.length co] 26)).heap.size ((plus ((w.alloc (.cells #[.int .i64 n, .slice (some ⟨b, o, none⟩) xs.length c] 26)).alloc (.cells #[.int .i64 0, .slice none 0 0] 26)) j0 d0).alloc (.cells #[.int .i64 n, .slice ao l.length co] 26)) w3 := Below.trans (by (repeat (first | (with_reducible exact Below.refl _ _) | (with_reducible assumption) | (with_reducible refine below_plus' ?_ ?_; ((try simp only [plus_size, World.size_alloc, World.size_drew, World.size_setCell, size_setRow, World.heap_drewN, List.length_append]) <;> omega)) | (with_reducible refine below_alloc' ?_ ?_; ((try simp only [plus_size, World.size_alloc, World.size_drew, World.size_setCell, size_setRow, World.heap_drewN, List.length_append]) <;> omega)) | with_reducible refine Below.drew ?_ | (with_reducible refine below_drewN' ?_ _) | exact Below.refl _ _))) hB
        obtain ⟨ja, da, rfl⟩ := plus_of_below hW3
        refine gExit_normal ⟨.inr (later_of_below hW3), fun j3 d3 => ?_⟩
        obtain ⟨av, cv, rfl, hs⟩ := id hown2.reads
        clear hs
        have hown3 := own_plus (j' := j3) (d' := d3) hown2
        have hL : (l ++ [-nth xs k]).length = l.length + 1 := by simp
        rw [hL] at hown3
        clear hL
        rw [plus_plus]
        refine gchain_cons _ rfl ?_
        go_wp2
        refine gExit_normal ⟨.inl (by kernel_rfl), fun j4 d4 => ?_⟩
        refine gchain_nil ?_
        go_wp2
        
        refine ⟨⟨.slice av (l.length + 1) cv, l ++ [-nth xs k], k + 1, (ja ++ j3) ++ j4, d4, HB, by omega, by go_num, by rw [plus_plus], own_plus (d := d3) ((own_swap (X := ((plus ((w.alloc (.cells #[.int .i64 n, .slice (some ⟨b, o, none⟩) xs.length c] 26)).alloc (.cells #[.int .i64 0, .slice none 0 0] 26)) j0 d0).alloc (.cells #[.int .i64 n, .slice ao l.length co] 26))) (Y := ((plus ((w.alloc (.cells #[.int .i64 n, .slice (some ⟨b, o, none⟩) xs.length c] 26)).alloc (.cells #[.int .i64 0, .slice none 0 0] 26)) j0 d0).alloc (.cells #[.int .i64 n, .slice av (l.length + 1) cv] 26))) (by ((try simp only [plus_size, World.size_alloc, World.size_drew, World.size_setCell, size_setRow, World.heap_drewN, List.length_append]) <;> omega)) (Nat.le_refl _) hown3).mono (by ((try simp only [plus_size, World.size_alloc, World.size_drew, World.size_setCell, size_setRow, World.heap_drewN, List.length_append]) <;> omega)))⟩, ?_⟩
        simp [intOf]; omega
      · obtain rfl : k = xs.length := by omega
        have HE := Lib.hid (show l = xs.map (negL) by rw [HLl.out]; simp)
        go_wp2
        refine bodyPost_ret (v := .tuple #[.agg #[.int .i64 n, .slice ao l.length co], .int .i64 0]) (by simp [results, Tryz.results18, go_sem]) rfl ?_
        exact ⟨_, rfl, by (repeat (first | (with_reducible exact Below.refl _ _) | (with_reducible assumption) | (with_reducible refine below_plus' ?_ ?_; ((try simp only [plus_size, World.size_alloc, World.size_drew, World.size_setCell, size_setRow, World.heap_drewN, List.length_append]) <;> omega)) | (with_reducible refine below_alloc' ?_ ?_; ((try simp only [plus_size, World.size_alloc, World.size_drew, World.size_setCell, size_setRow, World.heap_drewN, List.length_append]) <;> omega)) | with_reducible refine Below.drew ?_ | (with_reducible refine below_drewN' ?_ _) | exact Below.refl _ _)), by rw [← HE.out]; ((try simp only [plus_plus] at hown ⊢); exact own_far hown (by ((try simp only [plus_size, World.size_alloc, World.size_drew, World.size_setCell, size_setRow, World.heap_drewN, List.length_append]) <;> omega)) (by ((try simp only [plus_size, World.size_alloc, World.size_drew, World.size_setCell, size_setRow, World.heap_drewN, List.length_append]) <;> omega)) (by ((try simp only [plus_size, World.size_alloc, World.size_drew, World.size_setCell, size_setRow, World.heap_drewN, List.length_append]) <;> omega)) (by (repeat (first | (with_reducible exact List.prefix_rfl) | (with_reducible exact List.nil_prefix) | (refine List.IsPrefix.trans ?_ (List.prefix_append _ _))))))⟩
set_option maxHeartbeats 1000000 in
theorem spec_ReverseOf (n : Int) (v : Value) (xs : List Int) (w : World) (h : reads w v xs) (hlen : xs.length ≤ 1000000000) (hfit : Fits xs) : Calls Tryz.prog 20 #[.agg #[.int .i64 n, v]] w (RetB2 2 w (if okW n xs = true then n else 0) (if okW n xs = true then xs.reverse else []) (if okW n xs = true then 0 else 1)) := by
  have hI := fun w' (hb : Below w.heap.size w w') => spec_Is n v xs w' (h.kept hb) hlen hfit
  cases hok : okW n xs with
  | false =>
    simp only [hok] at hI
    have HI := Lib.hid hI
    clear hI h hfit hok
    go_enter Tryz.func20, Tryz.ntmps20
    go_wp2_with (first | (go_at_call 31; refine Calls.mono (HI.out _ ?_) ?_; (repeat (first | (with_reducible exact Below.refl _ _) | (with_reducible assumption) | (with_reducible refine below_plus' ?_ ?_; ((try simp only [plus_size, World.size_alloc, World.size_drew, World.size_setCell, size_setRow, World.heap_drewN, List.length_append]) <;> omega)) | (with_reducible refine below_alloc' ?_ ?_; ((try simp only [plus_size, World.size_alloc, World.size_drew, World.size_setCell, size_setRow, World.heap_drewN, List.length_append]) <;> omega)) | with_reducible refine Below.drew ?_ | (with_reducible refine below_drewN' ?_ _) | exact Below.refl _ _)); rintro e w' ⟨rfl, hB⟩; obtain ⟨j, d, rfl⟩ := plus_of_below hB; clear hB))
    refine bodyPost_ret (v := .tuple #[.agg #[.int .i64 0, .slice none 0 0], .int .i64 1]) (by simp [results, Tryz.results20, go_sem]) rfl ?_
    exact ⟨_, by simp, by (repeat (first | (with_reducible exact Below.refl _ _) | (with_reducible assumption) | (with_reducible refine below_plus' ?_ ?_; ((try simp only [plus_size, World.size_alloc, World.size_drew, World.size_setCell, size_setRow, World.heap_drewN, List.length_append]) <;> omega)) | (with_reducible refine below_alloc' ?_ ?_; ((try simp only [plus_size, World.size_alloc, World.size_drew, World.size_setCell, size_setRow, World.heap_drewN, List.length_append]) <;> omega)) | with_reducible refine Below.drew ?_ | (with_reducible refine below_drewN' ?_ _) | exact Below.refl _ _)), own_nil _ _ _⟩
  | true =>
    simp only [hok] at hI
    have HI := Lib.hid hI
    have h200 := okW_len hok
    have hsm := okW_sm hok
    have hn1 := (okW_n hok).1
    have hn8 := (okW_n hok).2
    clear hI hfit hok
    simp only [if_true]
    replace hsm := Lib.hid hsm
    obtain ⟨a, c, rfl, hrd⟩ := h
    have Hr := Lib.hid (show 0 < xs.length → ∃ b o, a = some ⟨b, o, none⟩ ∧ b < w.heap.size ∧ ∀ i, i < xs.length → w.cell? ⟨b, o + i, none⟩ = some (.int .i64 (nth xs i)) from fun hp => by
      rcases hrd with h | ⟨b, o, rfl, m⟩
      · rw [h] at hp; cases hp
      · exact ⟨b, o, rfl, World.block_lt_of_cell? w _ (m 0 hp), m⟩)
    clear hrd
    go_enter Tryz.func20, Tryz.ntmps20
    go_wp2_with (first | (go_at_call 31; refine Calls.mono (HI.out _ ?_) ?_; (repeat (first | (with_reducible exact Below.refl _ _) | (with_reducible assumption) | (with_reducible refine below_plus' ?_ ?_; ((try simp only [plus_size, World.size_alloc, World.size_drew, World.size_setCell, size_setRow, World.heap_drewN, List.length_append]) <;> omega)) | (with_reducible refine below_alloc' ?_ ?_; ((try simp only [plus_size, World.size_alloc, World.size_drew, World.size_setCell, size_setRow, World.heap_drewN, List.length_append]) <;> omega)) | with_reducible refine Below.drew ?_ | (with_reducible refine below_drewN' ?_ _) | exact Below.refl _ _)); rintro e w' ⟨rfl, hB⟩; obtain ⟨j0, d0, rfl⟩ := plus_of_below hB; clear hB))
    go_loopw [5] (fun sl wr => ∃ (vo : Value) (l : List Int) (k : Nat) (j : List Obj) (d : Nat), Hid (l = (xs.drop k).reverse) ∧ k ≤ xs.length ∧ sl = .int .i64 ((k : Int) - 1) ∧ wr = plus ((plus ((w.alloc (.cells #[.int .i64 n, .slice a xs.length c] 26)).alloc (.cells #[.int .i64 0, .slice none 0 0] 26)) j0 d0).alloc (.cells #[.int .i64 n, vo] 26)) j d ∧ own 2 (plus ((plus ((w.alloc (.cells #[.int .i64 n, .slice a xs.length c] 26)).alloc (.cells #[.int .i64 0, .slice none 0 0] 26)) j0 d0).alloc (.cells #[.int .i64 n, vo] 26)) j d) ((plus ((w.alloc (.cells #[.int .i64 n, .slice a xs.length c] 26)).alloc (.cells #[.int .i64 0, .slice none 0 0] 26)) j0 d0).alloc (.cells #[.int .i64 n, vo] 26)).heap.size vo l) (fun sl _ => (intOf sl + 1).toNat)
    case atStart => exact ⟨_, [], xs.length, [], d0, Lib.hid (by rw [List.drop_length]; rfl), by omega, by go_num, (plus_nil _).symm, own_nil _ _ _⟩
    case round =>
      obtain ⟨vo, l, k, j, d, HLl, hk, rfl, rfl, hown⟩ := hrel
      obtain ⟨ao, co, rfl, hs⟩ := id hown.reads
      clear hs
      by_cases hlt : 0 < k
      · obtain ⟨m, rfl⟩ : ∃ m, k = m + 1 := ⟨k - 1, by omega⟩
        obtain ⟨b, o, rfl, hbk, mm⟩ := Hr.out (by omega)
        have hmx : m < xs.length := by omega
        have g1 := mm m hmx
        have hs7 := hsm.out m hmx
        have hll : l.length < 1000000000 := by have := congrArg List.length HLl.out; simp at this; omega
        have hb1 : b < w.heap.size + 1 := by omega
        have hb2 : b < w.heap.size + 1 + 1 := by omega
        have hb3 : b < w.heap.size + 1 + 1 + j0.length := by omega
        have hb4 : b < w.heap.size + 1 + 1 + j0.length + 1 := by omega
        have HB := Lib.hid (show l ++ [nth xs m] = (xs.drop m).reverse by rw [HLl.out, ← rev_step hmx])
        clear mm Hr
        go_wp2
        refine region_ghostW (W := ((plus ((w.alloc (.cells #[.int .i64 n, .slice (some ⟨b, o, none⟩) xs.length c] 26)).alloc (.cells #[.int .i64 0, .slice none 0 0] 26)) j0 d0).alloc (.cells #[.int .i64 n, .slice ao l.length co] 26))) [7, 8, 10] (by kernel_rfl) (by kernel_rfl) (by kernel_rfl) ?_
        repeat (refine wpPlain_step (fun K hK => ?_); go_simp; first | (refine hK _ ?_; clear hK K) | (apply Exists.intro; refine ⟨fun _ => ?_, hK _ ?_⟩; (fail); clear hK K))
        refine wpPlain_nil ?_
        intro j1 d1
        rw [plus_plus]
        have hown1 := own_plus (j' := j1) (d' := d1) hown
        refine gchain_cons _ rfl ?_
        go_wp2
        refine gExit_normal ⟨.inr (later_of_below (by (repeat (first | (with_reducible exact Below.refl _ _) | (with_reducible assumption) | (with_reducible refine below_plus' ?_ ?_; ((try simp only [plus_size, World.size_alloc, World.size_drew, World.size_setCell, size_setRow, World.heap_drewN, List.length_append]) <;> omega)) | (with_reducible refine below_alloc' ?_ ?_; ((try simp only [plus_size, World.size_alloc, World.size_drew, World.size_setCell, size_setRow, World.heap_drewN, List.length_append]) <;> omega)) | with_reducible refine Below.drew ?_ | (with_reducible refine below_drewN' ?_ _) | exact Below.refl _ _)))), fun j2 d2 => ?_⟩
        refine gchain_cons _ rfl ?_
        refine wpList_append1 rfl _ _ 24 rfl 2 Tryz.underlying24 infoI ((plus ((w.alloc (.cells #[.int .i64 n, .slice (some ⟨b, o, none⟩) xs.length c] 26)).alloc (.cells #[.int .i64 0, .slice none 0 0] 26)) j0 d0).alloc (.cells #[.int .i64 n, .slice ao l.length co] 26)).heap.size (.slice ao l.length co) l rfl _ rfl (nth xs m) ?_ (hown1.kept (by (repeat (first | (with_reducible exact Below.refl _ _) | (with_reducible assumption) | (with_reducible refine below_plus' ?_ ?_; ((try simp only [plus_size, World.size_alloc, World.size_drew, World.size_setCell, size_setRow, World.heap_drewN, List.length_append]) <;> omega)) | (with_reducible refine below_alloc' ?_ ?_; ((try simp only [plus_size, World.size_alloc, World.size_drew, World.size_setCell, size_setRow, World.heap_drewN, List.length_append]) <;> omega)) | with_reducible refine Below.drew ?_ | (with_reducible refine below_drewN' ?_ _) | exact Below.refl _ _)))) hll (by ((try simp only [plus_size, World.size_alloc, World.size_drew, World.size_setCell, size_setRow, World.heap_drewN, List.length_append]) <;> omega)) ?_
        · rw [plus_cell _ _ _ _ _ (by ((try simp only [plus_size, World.size_alloc, World.size_drew, World.size_setCell, size_setRow, World.heap_drewN, List.length_append]) <;> omega)), World.cell?_alloc_at _ _ _ _ (by ((try simp only [plus_size, World.size_alloc, World.size_drew, World.size_setCell, size_setRow, World.heap_drewN, List.length_append]) <;> omega))]; rfl
        intro v' w3 hown2 hB
        go_wp2
        have hW3 : Below ((plus ((w.alloc (.cells #[.int .i64 n, .slice (some ⟨b, o, none⟩) xs.length c] 26)).alloc (.cells #[.int .i64 0, .slice none 0 0] 26)) j0 d0).alloc (.cells #[.int .i64 n, .slice ao l.length co] 26)).heap.size ((plus ((w.alloc (.cells #[.int .i64 n, .slice (some ⟨b, o, none⟩) xs.length c] 26)).alloc (.cells #[.int .i64 0, .slice none 0 0] 26)) j0 d0).alloc (.cells #[.int .i64 n, .slice ao l.length co] 26)) w3 := Below.trans (by (repeat (first | (with_reducible exact Below.refl _ _) | (with_reducible assumption) | (with_reducible refine below_plus' ?_ ?_; ((try simp only [plus_size, World.size_alloc, World.size_drew, World.size_setCell, size_setRow, World.heap_drewN, List.length_append]) <;> omega)) | (with_reducible refine below_alloc' ?_ ?_; ((try simp only [plus_size, World.size_alloc, World.size_drew, World.size_setCell, size_setRow, World.heap_drewN, List.length_append]) <;> omega)) | with_reducible refine Below.drew ?_ | (with_reducible refine below_drewN' ?_ _) | exact Below.refl _ _))) hB
        obtain ⟨ja, da, rfl⟩ := plus_of_below hW3
        refine gExit_normal ⟨.inr (later_of_below hW3), fun j3 d3 => ?_⟩
        obtain ⟨av, cv, rfl, hs⟩ := id hown2.reads
        clear hs
        have hown3 := own_plus (j' := j3) (d' := d3) hown2
        have hL : (l ++ [nth xs m]).length = l.length + 1 := by simp
        rw [hL] at hown3
        clear hL
        rw [plus_plus]
        refine gchain_cons _ rfl ?_
        go_wp2
        refine gExit_normal ⟨.inl (by kernel_rfl), fun j4 d4 => ?_⟩
        refine gchain_nil ?_
        go_wp2
        
        refine ⟨⟨.slice av (l.length + 1) cv, l ++ [nth xs m], m, (ja ++ j3) ++ j4, d4, HB, by omega, by go_num, by rw [plus_plus], own_plus (d := d3) ((own_swap (X := ((plus ((w.alloc (.cells #[.int .i64 n, .slice (some ⟨b, o, none⟩) xs.length c] 26)).alloc (.cells #[.int .i64 0, .slice none 0 0] 26)) j0 d0).alloc (.cells #[.int .i64 n, .slice ao l.length co] 26))) (Y := ((plus ((w.alloc (.cells #[.int .i64 n, .slice (some ⟨b, o, none⟩) xs.length c] 26)).alloc (.cells #[.int .i64 0, .slice none 0 0] 26)) j0 d0).alloc (.cells #[.int .i64 n, .slice av (l.length + 1) cv] 26))) (by ((try simp only [plus_size, World.size_alloc, World.size_drew, World.size_setCell, size_setRow, World.heap_drewN, List.length_append]) <;> omega)) (Nat.le_refl _) hown3).mono (by ((try simp only [plus_size, World.size_alloc, World.size_drew, World.size_setCell, size_setRow, World.heap_drewN, List.length_append]) <;> omega)))⟩, ?_⟩
        simp [intOf]
      · obtain rfl : k = 0 := by omega
        have HE := Lib.hid (show l = xs.reverse by rw [HLl.out]; simp)
        go_wp2
        refine bodyPost_ret (v := .tuple #[.agg #[.int .i64 n, .slice ao l.length co], .int .i64 0]) (by simp [results, Tryz.results20, go_sem]) rfl ?_
        exact ⟨_, rfl, by (repeat (first | (with_reducible exact Below.refl _ _) | (with_reducible assumption) | (with_reducible refine below_plus' ?_ ?_; ((try simp only [plus_size, World.size_alloc, World.size_drew, World.size_setCell, size_setRow, World.heap_drewN, List.length_append]) <;> omega)) | (with_reducible refine below_alloc' ?_ ?_; ((try simp only [plus_size, World.size_alloc, World.size_drew, World.size_setCell, size_setRow, World.heap_drewN, List.length_append]) <;> omega)) | with_reducible refine Below.drew ?_ | (with_reducible refine below_drewN' ?_ _) | exact Below.refl _ _)), by rw [← HE.out]; ((try simp only [plus_plus] at hown ⊢); exact own_far hown (by ((try simp only [plus_size, World.size_alloc, World.size_drew, World.size_setCell, size_setRow, World.heap_drewN, List.length_append]) <;> omega)) (by ((try simp only [plus_size, World.size_alloc, World.size_drew, World.size_setCell, size_setRow, World.heap_drewN, List.length_append]) <;> omega)) (by ((try simp only [plus_size, World.size_alloc, World.size_drew, World.size_setCell, size_setRow, World.heap_drewN, List.length_append]) <;> omega)) (by (repeat (first | (with_reducible exact List.prefix_rfl) | (with_reducible exact List.nil_prefix) | (refine List.IsPrefix.trans ?_ (List.prefix_append _ _))))))⟩
end Go.Proofs.YtgkpdklkeajipaaGreatDoor
