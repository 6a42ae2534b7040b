/- Letters turned by a function that is handed over. Conditions: as each theorem says. -/
import Derived.Test.YtblpbkfenmkhbaaGreatDoorMa
namespace Go.Proofs.YtblpbkfenmkhbaaGreatDoor
open Go.RowKit
set_option linter.unusedSimpArgs false
set_option linter.unusedVariables false
theorem opposite_any (x : Int) (w : World) (h1 : -7 ≤ x) (h2 : x ≤ 7) : Calls Tryz.prog 65 #[.int .i64 x] w fun e w' => e = .returned (.int .i64 (negL x)) ∧ w = w' := by
  go_enter Tryz.func65, Tryz.ntmps65
  go_wp2
  go_ret
  exact ⟨rfl, rfl⟩
theorem shiftC_any (x n : Int) (b : Nat) (w : World) (h1 : -7 ≤ x) (h2 : x ≤ 7) (hn1 : 0 ≤ n) (hn2 : n ≤ 8) (hb : b < w.heap.size) (hc : w.cell? ⟨b, 0, none⟩ = some (.int .i64 n)) : Calls Tryz.prog 46 #[.int .i64 x, .pointer (some ⟨b, 0, none⟩)] w fun e w' => e = .returned (.int .i64 (shiftL n x)) ∧ w = w' := by
  by_cases hp : 0 < x
  · rw [shiftL_pos hp]
    go_enter Tryz.func46, Tryz.ntmps46
    go_wp2
    go_ret
    exact ⟨rfl, rfl⟩
  · rw [shiftL_neg hp]
    go_enter Tryz.func46, Tryz.ntmps46
    go_wp2
    go_ret
    exact ⟨rfl, rfl⟩
set_option maxHeartbeats 1000000 in
theorem letterBy_neg (n : Int) (v : Value) (xs : List Int) (w : World) (h : reads w v xs) (hlen : xs.length ≤ 200) (hsm : Sm xs) : Calls Tryz.prog 45 #[.agg #[.int .i64 n, v], .func (.func 65) #[] #[]] w (RetB 2 w n (xs.map (negL))) := by
  obtain ⟨a, c, rfl, h⟩ := h
  have Hr := Lib.hid (show 0 < xs.length → ∃ b o, a = some ⟨b, o, none⟩ ∧ b < w.heap.size ∧ ∀ i, i < xs.length → w.cell? ⟨b, o + i, none⟩ = some (.int .i64 (nth xs i)) from fun hp => by
    rcases h with h | ⟨b, o, rfl, m⟩
    · rw [h] at hp; cases hp
    · exact ⟨b, o, rfl, World.block_lt_of_cell? w _ (m 0 hp), m⟩)
  clear h
  have Hsm := Lib.hid hsm
  clear hsm
  have HC := Lib.hid (fun (x : Int) (h1 : -7 ≤ x) (h2 : x ≤ 7) (w' : World) (hb : Below w.heap.size w w') => opposite_any x w' h1 h2)
  go_enter Tryz.func45, Tryz.ntmps45
  go_wp2
  go_loopw [14] (fun sl wr => ∃ (vo : Value) (l : List Int) (k : Nat) (j : List Obj) (d : Nat), Hid (l = (xs.take k).map (negL)) ∧ k ≤ xs.length ∧ sl = .int .i64 k ∧ wr = plus (((w.alloc (.cells #[.int .i64 n, .slice a xs.length c] 26)).alloc (.cells #[.int .i64 0, .slice none 0 0] 26)).alloc (.cells #[.int .i64 n, vo] 26)) j d ∧ own 2 (plus (((w.alloc (.cells #[.int .i64 n, .slice a xs.length c] 26)).alloc (.cells #[.int .i64 0, .slice none 0 0] 26)).alloc (.cells #[.int .i64 n, vo] 26)) j d) (((w.alloc (.cells #[.int .i64 n, .slice a xs.length c] 26)).alloc (.cells #[.int .i64 0, .slice none 0 0] 26)).alloc (.cells #[.int .i64 n, vo] 26)).heap.size vo l) (fun sl _ => xs.length - (intOf sl).toNat)
  case atStart => exact ⟨_, [], 0, [], w.drawn, Lib.hid rfl, by omega, rfl, (plus_nil _).symm, own_nil _ _ _⟩
  case round =>
    obtain ⟨vo, l, k, j, d, HLl, hk, rfl, rfl, hown⟩ := hrel
    obtain ⟨ao, co, rfl, hs⟩ := id hown.reads
    clear hs
    by_cases hlt : k < xs.length
    · obtain ⟨b, o, rfl, hbk, mm⟩ := Hr.out (by omega)
      have g1 := mm k hlt
      have hs7 := Hsm.out k hlt
      have hll : l.length < 1000000000 := by have := congrArg List.length HLl.out; simp at this; omega
      have hb3 : b < w.heap.size + 1 + 1 + 1 := by omega
      have hb1 : b < w.heap.size + 1 := by omega
      have hb2 : b < w.heap.size + 1 + 1 := by omega
      have HB := Lib.hid (show l ++ [negL (nth xs k)] = (xs.take (k + 1)).map (negL) by rw [HLl.out, ← take_map_step _ hlt])
      clear mm Hr
      go_wp2
      refine region_ghostW (W := (((w.alloc (.cells #[.int .i64 n, .slice (some ⟨b, o, none⟩) xs.length c] 26)).alloc (.cells #[.int .i64 0, .slice none 0 0] 26)).alloc (.cells #[.int .i64 n, .slice ao l.length co] 26))) [5, 6, 8] (by kernel_rfl) (by kernel_rfl) (by kernel_rfl) ?_
      repeat (refine wpPlain_step (fun K hK => ?_); go_simp; first | (refine hK _ ?_; clear hK K) | (apply Exists.intro; refine ⟨fun _ => ?_, hK _ ?_⟩; (go_at_call 65; refine Calls.mono (HC.out _ hs7.1 hs7.2 _ ?_) ?_; rw [plusq_eq]; (repeat (first | (with_reducible exact Below.refl _ _) | (with_reducible assumption) | (with_reducible refine below_plus' ?_ ?_; ((try simp only [plus_size, World.size_alloc, World.size_drew, World.size_setCell, size_setRow, World.heap_drewN, List.length_append]) <;> omega)) | (with_reducible refine below_alloc' ?_ ?_; ((try simp only [plus_size, World.size_alloc, World.size_drew, World.size_setCell, size_setRow, World.heap_drewN, List.length_append]) <;> omega)) | with_reducible refine Below.drew ?_ | (with_reducible refine below_drewN' ?_ _) | exact Below.refl _ _)); rintro e w'' ⟨he, rfl⟩; exact ⟨he, Below.refl _ _⟩); clear hK K))
      refine wpPlain_nil ?_
      intro j1 d1
      rw [plus_plus]
      have hown1 := own_plus (j' := j1) (d' := d1) hown
      refine gchain_cons _ rfl ?_
      go_wp2
      refine gExit_normal ⟨.inr (later_of_below (by (repeat (first | (with_reducible exact Below.refl _ _) | (with_reducible assumption) | (with_reducible refine below_plus' ?_ ?_; ((try simp only [plus_size, World.size_alloc, World.size_drew, World.size_setCell, size_setRow, World.heap_drewN, List.length_append]) <;> omega)) | (with_reducible refine below_alloc' ?_ ?_; ((try simp only [plus_size, World.size_alloc, World.size_drew, World.size_setCell, size_setRow, World.heap_drewN, List.length_append]) <;> omega)) | with_reducible refine Below.drew ?_ | (with_reducible refine below_drewN' ?_ _) | exact Below.refl _ _)))), fun j2 d2 => ?_⟩
      refine gchain_cons _ rfl ?_
      refine wpList_append1 rfl _ _ 24 rfl 2 Tryz.underlying24 infoI (((w.alloc (.cells #[.int .i64 n, .slice (some ⟨b, o, none⟩) xs.length c] 26)).alloc (.cells #[.int .i64 0, .slice none 0 0] 26)).alloc (.cells #[.int .i64 n, .slice ao l.length co] 26)).heap.size (.slice ao l.length co) l rfl _ rfl (negL (nth xs k)) ?_ (hown1.kept (by (repeat (first | (with_reducible exact Below.refl _ _) | (with_reducible assumption) | (with_reducible refine below_plus' ?_ ?_; ((try simp only [plus_size, World.size_alloc, World.size_drew, World.size_setCell, size_setRow, World.heap_drewN, List.length_append]) <;> omega)) | (with_reducible refine below_alloc' ?_ ?_; ((try simp only [plus_size, World.size_alloc, World.size_drew, World.size_setCell, size_setRow, World.heap_drewN, List.length_append]) <;> omega)) | with_reducible refine Below.drew ?_ | (with_reducible refine below_drewN' ?_ _) | exact Below.refl _ _)))) hll (by ((try simp only [plus_size, World.size_alloc, World.size_drew, World.size_setCell, size_setRow, World.heap_drewN, List.length_append]) <;> omega)) ?_
      · rw [plus_cell _ _ _ _ _ (by ((try simp only [plus_size, World.size_alloc, World.size_drew, World.size_setCell, size_setRow, World.heap_drewN, List.length_append]) <;> omega)), World.cell?_alloc_at _ _ _ _ (by ((try simp only [plus_size, World.size_alloc, World.size_drew, World.size_setCell, size_setRow, World.heap_drewN, List.length_append]) <;> omega))]; rfl
      intro v' w3 hown2 hB
      go_wp2
      have hW3 : Below (((w.alloc (.cells #[.int .i64 n, .slice (some ⟨b, o, none⟩) xs.length c] 26)).alloc (.cells #[.int .i64 0, .slice none 0 0] 26)).alloc (.cells #[.int .i64 n, .slice ao l.length co] 26)).heap.size (((w.alloc (.cells #[.int .i64 n, .slice (some ⟨b, o, none⟩) xs.length c] 26)).alloc (.cells #[.int .i64 0, .slice none 0 0] 26)).alloc (.cells #[.int .i64 n, .slice ao l.length co] 26)) w3 := Below.trans (by (repeat (first | (with_reducible exact Below.refl _ _) | (with_reducible assumption) | (with_reducible refine below_plus' ?_ ?_; ((try simp only [plus_size, World.size_alloc, World.size_drew, World.size_setCell, size_setRow, World.heap_drewN, List.length_append]) <;> omega)) | (with_reducible refine below_alloc' ?_ ?_; ((try simp only [plus_size, World.size_alloc, World.size_drew, World.size_setCell, size_setRow, World.heap_drewN, List.length_append]) <;> omega)) | with_reducible refine Below.drew ?_ | (with_reducible refine below_drewN' ?_ _) | exact Below.refl _ _))) hB
      obtain ⟨ja, da, rfl⟩ := plus_of_below hW3
      refine gExit_normal ⟨.inr (later_of_below hW3), fun j3 d3 => ?_⟩
      obtain ⟨av, cv, rfl, hs⟩ := id hown2.reads
      clear hs
      have hown3 := own_plus (j' := j3) (d' := d3) hown2
      have hL : (l ++ [negL (nth xs k)]).length = l.length + 1 := by simp
      rw [hL] at hown3
      clear hL
      rw [plus_plus]
      refine gchain_cons _ rfl ?_
      go_wp2
      refine gExit_normal ⟨.inl (by kernel_rfl), fun j4 d4 => ?_⟩
      refine gchain_nil ?_
      go_wp2
      
      refine ⟨⟨.slice av (l.length + 1) cv, l ++ [negL (nth xs k)], k + 1, (ja ++ j3) ++ j4, d4, HB, by omega, by go_num, by rw [plus_plus], own_plus (d := d3) ((own_swap (X := (((w.alloc (.cells #[.int .i64 n, .slice (some ⟨b, o, none⟩) xs.length c] 26)).alloc (.cells #[.int .i64 0, .slice none 0 0] 26)).alloc (.cells #[.int .i64 n, .slice ao l.length co] 26))) (Y := (((w.alloc (.cells #[.int .i64 n, .slice (some ⟨b, o, none⟩) xs.length c] 26)).alloc (.cells #[.int .i64 0, .slice none 0 0] 26)).alloc (.cells #[.int .i64 n, .slice av (l.length + 1) cv] 26))) (by ((try simp only [plus_size, World.size_alloc, World.size_drew, World.size_setCell, size_setRow, World.heap_drewN, List.length_append]) <;> omega)) (Nat.le_refl _) hown3).mono (by ((try simp only [plus_size, World.size_alloc, World.size_drew, World.size_setCell, size_setRow, World.heap_drewN, List.length_append]) <;> omega)))⟩, ?_⟩
      simp [intOf]; omega
    · obtain rfl : k = xs.length := by omega
      have HE := Lib.hid (show l = xs.map (negL) by rw [HLl.out, List.take_length])
      go_wp2
      refine bodyPost_ret (v := .agg #[.int .i64 n, .slice ao l.length co]) (by simp [results, Tryz.results45, go_sem]) rfl ?_
      exact ⟨_, rfl, by (repeat (first | (with_reducible exact Below.refl _ _) | (with_reducible assumption) | (with_reducible refine below_plus' ?_ ?_; ((try simp only [plus_size, World.size_alloc, World.size_drew, World.size_setCell, size_setRow, World.heap_drewN, List.length_append]) <;> omega)) | (with_reducible refine below_alloc' ?_ ?_; ((try simp only [plus_size, World.size_alloc, World.size_drew, World.size_setCell, size_setRow, World.heap_drewN, List.length_append]) <;> omega)) | with_reducible refine Below.drew ?_ | (with_reducible refine below_drewN' ?_ _) | exact Below.refl _ _)), by rw [← HE.out]; exact (own_swap (by ((try simp only [plus_size, World.size_alloc, World.size_drew, World.size_setCell, size_setRow, World.heap_drewN, List.length_append]) <;> omega)) (Nat.le_refl _) hown).mono (by ((try simp only [plus_size, World.size_alloc, World.size_drew, World.size_setCell, size_setRow, World.heap_drewN, List.length_append]) <;> omega))⟩
set_option maxHeartbeats 1000000 in
theorem letterBy_shift (n : Int) (v : Value) (xs : List Int) (m : Int) (bb : Nat) (w : World) (h : reads w v xs) (hlen : xs.length ≤ 200) (hsm : Sm xs) (hm1 : 0 ≤ m) (hm2 : m ≤ 8) (hbb : bb < w.heap.size) (hbc : w.cell? ⟨bb, 0, none⟩ = some (.int .i64 m)) : Calls Tryz.prog 45 #[.agg #[.int .i64 n, v], .func (.func 46) #[] #[.pointer (some ⟨bb, 0, none⟩)]] w (RetB 2 w n (xs.map (shiftL m))) := by
  obtain ⟨a, c, rfl, h⟩ := h
  have Hr := Lib.hid (show 0 < xs.length → ∃ b o, a = some ⟨b, o, none⟩ ∧ b < w.heap.size ∧ ∀ i, i < xs.length → w.cell? ⟨b, o + i, none⟩ = some (.int .i64 (nth xs i)) from fun hp => by
    rcases h with h | ⟨b, o, rfl, m⟩
    · rw [h] at hp; cases hp
    · exact ⟨b, o, rfl, World.block_lt_of_cell? w _ (m 0 hp), m⟩)
  clear h
  have Hsm := Lib.hid hsm
  clear hsm
  have HC := Lib.hid (fun (x : Int) (h1 : -7 ≤ x) (h2 : x ≤ 7) (w' : World) (hb : Below w.heap.size w w') => shiftC_any x m bb w' h1 h2 hm1 hm2 (Nat.lt_of_lt_of_le hbb hb.size) (by rw [hb.cell (p := ⟨bb, 0, none⟩) hbb]; exact hbc))
  clear hbb hbc hm1 hm2
  go_enter Tryz.func45, Tryz.ntmps45
  go_wp2
  go_loopw [14] (fun sl wr => ∃ (vo : Value) (l : List Int) (k : Nat) (j : List Obj) (d : Nat), Hid (l = (xs.take k).map (shiftL m)) ∧ k ≤ xs.length ∧ sl = .int .i64 k ∧ wr = plus (((w.alloc (.cells #[.int .i64 n, .slice a xs.length c] 26)).alloc (.cells #[.int .i64 0, .slice none 0 0] 26)).alloc (.cells #[.int .i64 n, vo] 26)) j d ∧ own 2 (plus (((w.alloc (.cells #[.int .i64 n, .slice a xs.length c] 26)).alloc (.cells #[.int .i64 0, .slice none 0 0] 26)).alloc (.cells #[.int .i64 n, vo] 26)) j d) (((w.alloc (.cells #[.int .i64 n, .slice a xs.length c] 26)).alloc (.cells #[.int .i64 0, .slice none 0 0] 26)).alloc (.cells #[.int .i64 n, vo] 26)).heap.size vo l) (fun sl _ => xs.length - (intOf sl).toNat)
  case atStart => exact ⟨_, [], 0, [], w.drawn, Lib.hid rfl, by omega, rfl, (plus_nil _).symm, own_nil _ _ _⟩
  case round =>
    obtain ⟨vo, l, k, j, d, HLl, hk, rfl, rfl, hown⟩ := hrel
    obtain ⟨ao, co, rfl, hs⟩ := id hown.reads
    clear hs
    by_cases hlt : k < xs.length
    · obtain ⟨b, o, rfl, hbk, mm⟩ := Hr.out (by omega)
      have g1 := mm k hlt
      have hs7 := Hsm.out k hlt
      have hll : l.length < 1000000000 := by have := congrArg List.length HLl.out; simp at this; omega
      have hb3 : b < w.heap.size + 1 + 1 + 1 := by omega
      have hb1 : b < w.heap.size + 1 := by omega
      have hb2 : b < w.heap.size + 1 + 1 := by omega
      have HB := Lib.hid (show l ++ [shiftL m (nth xs k)] = (xs.take (k + 1)).map (shiftL m) by rw [HLl.out, ← take_map_step _ hlt])
      clear mm Hr
      go_wp2
      refine region_ghostW (W := (((w.alloc (.cells #[.int .i64 n, .slice (some ⟨b, o, none⟩) xs.length c] 26)).alloc (.cells #[.int .i64 0, .slice none 0 0] 26)).alloc (.cells #[.int .i64 n, .slice ao l.length co] 26))) [5, 6, 8] (by kernel_rfl) (by kernel_rfl) (by kernel_rfl) ?_
      repeat (refine wpPlain_step (fun K hK => ?_); go_simp; first | (refine hK _ ?_; clear hK K) | (apply Exists.intro; refine ⟨fun _ => ?_, hK _ ?_⟩; (go_at_call 46; refine Calls.mono (HC.out _ hs7.1 hs7.2 _ ?_) ?_; rw [plusq_eq]; (repeat (first | (with_reducible exact Below.refl _ _) | (with_reducible assumption) | (with_reducible refine below_plus' ?_ ?_; ((try simp only [plus_size, World.size_alloc, World.size_drew, World.size_setCell, size_setRow, World.heap_drewN, List.length_append]) <;> omega)) | (with_reducible refine below_alloc' ?_ ?_; ((try simp only [plus_size, World.size_alloc, World.size_drew, World.size_setCell, size_setRow, World.heap_drewN, List.length_append]) <;> omega)) | with_reducible refine Below.drew ?_ | (with_reducible refine below_drewN' ?_ _) | exact Below.refl _ _)); rintro e w'' ⟨he, rfl⟩; exact ⟨he, Below.refl _ _⟩); clear hK K))
      refine wpPlain_nil ?_
      intro j1 d1
      rw [plus_plus]
      have hown1 := own_plus (j' := j1) (d' := d1) hown
      refine gchain_cons _ rfl ?_
      go_wp2
      refine gExit_normal ⟨.inr (later_of_below (by (repeat (first | (with_reducible exact Below.refl _ _) | (with_reducible assumption) | (with_reducible refine below_plus' ?_ ?_; ((try simp only [plus_size, World.size_alloc, World.size_drew, World.size_setCell, size_setRow, World.heap_drewN, List.length_append]) <;> omega)) | (with_reducible refine below_alloc' ?_ ?_; ((try simp only [plus_size, World.size_alloc, World.size_drew, World.size_setCell, size_setRow, World.heap_drewN, List.length_append]) <;> omega)) | with_reducible refine Below.drew ?_ | (with_reducible refine below_drewN' ?_ _) | exact Below.refl _ _)))), fun j2 d2 => ?_⟩
      refine gchain_cons _ rfl ?_
      refine wpList_append1 rfl _ _ 24 rfl 2 Tryz.underlying24 infoI (((w.alloc (.cells #[.int .i64 n, .slice (some ⟨b, o, none⟩) xs.length c] 26)).alloc (.cells #[.int .i64 0, .slice none 0 0] 26)).alloc (.cells #[.int .i64 n, .slice ao l.length co] 26)).heap.size (.slice ao l.length co) l rfl _ rfl (shiftL m (nth xs k)) ?_ (hown1.kept (by (repeat (first | (with_reducible exact Below.refl _ _) | (with_reducible assumption) | (with_reducible refine below_plus' ?_ ?_; ((try simp only [plus_size, World.size_alloc, World.size_drew, World.size_setCell, size_setRow, World.heap_drewN, List.length_append]) <;> omega)) | (with_reducible refine below_alloc' ?_ ?_; ((try simp only [plus_size, World.size_alloc, World.size_drew, World.size_setCell, size_setRow, World.heap_drewN, List.length_append]) <;> omega)) | with_reducible refine Below.drew ?_ | (with_reducible refine below_drewN' ?_ _) | exact Below.refl _ _)))) hll (by ((try simp only [plus_size, World.size_alloc, World.size_drew, World.size_setCell, size_setRow, World.heap_drewN, List.length_append]) <;> omega)) ?_
      · rw [plus_cell _ _ _ _ _ (by ((try simp only [plus_size, World.size_alloc, World.size_drew, World.size_setCell, size_setRow, World.heap_drewN, List.length_append]) <;> omega)), World.cell?_alloc_at _ _ _ _ (by ((try simp only [plus_size, World.size_alloc, World.size_drew, World.size_setCell, size_setRow, World.heap_drewN, List.length_append]) <;> omega))]; rfl
      intro v' w3 hown2 hB
      go_wp2
      have hW3 : Below (((w.alloc (.cells #[.int .i64 n, .slice (some ⟨b, o, none⟩) xs.length c] 26)).alloc (.cells #[.int .i64 0, .slice none 0 0] 26)).alloc (.cells #[.int .i64 n, .slice ao l.length co] 26)).heap.size (((w.alloc (.cells #[.int .i64 n, .slice (some ⟨b, o, none⟩) xs.length c] 26)).alloc (.cells #[.int .i64 0, .slice none 0 0] 26)).alloc (.cells #[.int .i64 n, .slice ao l.length co] 26)) w3 := Below.trans (by (repeat (first | (with_reducible exact Below.refl _ _) | (with_reducible assumption) | (with_reducible refine below_plus' ?_ ?_; ((try simp only [plus_size, World.size_alloc, World.size_drew, World.size_setCell, size_setRow, World.heap_drewN, List.length_append]) <;> omega)) | (with_reducible refine below_alloc' ?_ ?_; ((try simp only [plus_size, World.size_alloc, World.size_drew, World.size_setCell, size_setRow, World.heap_drewN, List.length_append]) <;> omega)) | with_reducible refine Below.drew ?_ | (with_reducible refine below_drewN' ?_ _) | exact Below.refl _ _))) hB
      obtain ⟨ja, da, rfl⟩ := plus_of_below hW3
      refine gExit_normal ⟨.inr (later_of_below hW3), fun j3 d3 => ?_⟩
      obtain ⟨av, cv, rfl, hs⟩ := id hown2.reads
      clear hs
      have hown3 := own_plus (j' := j3) (d' := d3) hown2
      have hL : (l ++ [shiftL m (nth xs k)]).length = l.length + 1 := by simp
      rw [hL] at hown3
      clear hL
      rw [plus_plus]
      refine gchain_cons _ rfl ?_
      go_wp2
      refine gExit_normal ⟨.inl (by kernel_rfl), fun j4 d4 => ?_⟩
      refine gchain_nil ?_
      go_wp2
      
      refine ⟨⟨.slice av (l.length + 1) cv, l ++ [shiftL m (nth xs k)], k + 1, (ja ++ j3) ++ j4, d4, HB, by omega, by go_num, by rw [plus_plus], own_plus (d := d3) ((own_swap (X := (((w.alloc (.cells #[.int .i64 n, .slice (some ⟨b, o, none⟩) xs.length c] 26)).alloc (.cells #[.int .i64 0, .slice none 0 0] 26)).alloc (.cells #[.int .i64 n, .slice ao l.length co] 26))) (Y := (((w.alloc (.cells #[.int .i64 n, .slice (some ⟨b, o, none⟩) xs.length c] 26)).alloc (.cells #[.int .i64 0, .slice none 0 0] 26)).alloc (.cells #[.int .i64 n, .slice av (l.length + 1) cv] 26))) (by ((try simp only [plus_size, World.size_alloc, World.size_drew, World.size_setCell, size_setRow, World.heap_drewN, List.length_append]) <;> omega)) (Nat.le_refl _) hown3).mono (by ((try simp only [plus_size, World.size_alloc, World.size_drew, World.size_setCell, size_setRow, World.heap_drewN, List.length_append]) <;> omega)))⟩, ?_⟩
      simp [intOf]; omega
    · obtain rfl : k = xs.length := by omega
      have HE := Lib.hid (show l = xs.map (shiftL m) by rw [HLl.out, List.take_length])
      go_wp2
      refine bodyPost_ret (v := .agg #[.int .i64 n, .slice ao l.length co]) (by simp [results, Tryz.results45, go_sem]) rfl ?_
      exact ⟨_, rfl, by (repeat (first | (with_reducible exact Below.refl _ _) | (with_reducible assumption) | (with_reducible refine below_plus' ?_ ?_; ((try simp only [plus_size, World.size_alloc, World.size_drew, World.size_setCell, size_setRow, World.heap_drewN, List.length_append]) <;> omega)) | (with_reducible refine below_alloc' ?_ ?_; ((try simp only [plus_size, World.size_alloc, World.size_drew, World.size_setCell, size_setRow, World.heap_drewN, List.length_append]) <;> omega)) | with_reducible refine Below.drew ?_ | (with_reducible refine below_drewN' ?_ _) | exact Below.refl _ _)), by rw [← HE.out]; exact (own_swap (by ((try simp only [plus_size, World.size_alloc, World.size_drew, World.size_setCell, size_setRow, World.heap_drewN, List.length_append]) <;> omega)) (Nat.le_refl _) hown).mono (by ((try simp only [plus_size, World.size_alloc, World.size_drew, World.size_setCell, size_setRow, World.heap_drewN, List.length_append]) <;> omega))⟩
end Go.Proofs.YtblpbkfenmkhbaaGreatDoor
