/- Letters appended, one by one. Conditions: as each theorem says. -/
import Derived.Test.YtcfofdjdbojadaaU4
namespace Go.Proofs.Ytcfofdjdbojadaa
open Go.RowKit
set_option linter.unusedSimpArgs false
set_option linter.unusedVariables false
theorem rev_step {xs : List Int} {m : Nat} (h : m < xs.length) : (xs.drop (m + 1)).reverse ++ [nth xs m] = (xs.drop m).reverse := by
  have e : nth xs m = xs[m] := by simp [nth, h]
  rw [List.drop_eq_getElem_cons h, List.reverse_cons, e]
set_option maxHeartbeats 1000000 in
theorem impl_reversed (n : Int) (v : Value) (xs : List Int) (w : World) (h : reads w v xs) (hlen : xs.length ≤ 200) : Calls Try.prog 21 #[.agg #[.int .i64 n, v]] w (RetB 2 w n xs.reverse) := by
  obtain ⟨a, c, rfl, h⟩ := h
  have Hr := Lib.hid (show 0 < xs.length → ∃ b o, a = some ⟨b, o, none⟩ ∧ b < w.heap.size ∧ ∀ i, i < xs.length → w.cell? ⟨b, o + i, none⟩ = some (.int .i64 (nth xs i)) from fun hp => by
    rcases h with h | ⟨b, o, rfl, m⟩
    · rw [h] at hp; cases hp
    · exact ⟨b, o, rfl, World.block_lt_of_cell? w _ (m 0 hp), m⟩)
  clear h
  go_enter Try.func21, Try.ntmps21
  go_wp2
  go_loopw [4] (fun sl wr => ∃ (vo : Value) (l : List Int) (i : Nat) (j : List Obj) (d : Nat), Hid (l = (xs.drop i).reverse) ∧ i ≤ xs.length ∧ sl = .int .i64 ((i : Int) - 1) ∧ wr = plus (((w.alloc (.cells #[.int .i64 n, .slice a xs.length c] 47)).alloc (.cells #[.int .i64 0, .slice none 0 0] 47)).alloc (.cells #[.int .i64 n, vo] 47)) j d ∧ own 2 (plus (((w.alloc (.cells #[.int .i64 n, .slice a xs.length c] 47)).alloc (.cells #[.int .i64 0, .slice none 0 0] 47)).alloc (.cells #[.int .i64 n, vo] 47)) j d) (((w.alloc (.cells #[.int .i64 n, .slice a xs.length c] 47)).alloc (.cells #[.int .i64 0, .slice none 0 0] 47)).alloc (.cells #[.int .i64 n, vo] 47)).heap.size vo l) (fun sl _ => (intOf sl + 1).toNat)
  case atStart => exact ⟨_, [], xs.length, [], w.drawn, Lib.hid (by rw [List.drop_length]; rfl), by omega, by go_num, (plus_nil _).symm, own_nil _ _ _⟩
  case round =>
    obtain ⟨vo, l, i, j, d, HLl, hk, rfl, rfl, hown⟩ := hrel
    obtain ⟨ao, co, rfl, hs⟩ := id hown.reads
    clear hs
    by_cases hlt : 0 < i
    · obtain ⟨m, rfl⟩ : ∃ m, i = m + 1 := ⟨i - 1, by omega⟩
      obtain ⟨b, o, rfl, hbk, mm⟩ := Hr.out (by omega)
      have hmx : m < xs.length := by omega
      have g1 := mm m hmx
      have hll : l.length < 1000000000 := by have := congrArg List.length HLl.out; simp at this; omega
      have hb3 : b < w.heap.size + 1 + 1 + 1 := by omega
      have hb1 : b < w.heap.size + 1 := by omega
      have hb2 : b < w.heap.size + 1 + 1 := by omega
      clear mm Hr
      go_wp2
      refine region_ghostW (W := (((w.alloc (.cells #[.int .i64 n, .slice (some ⟨b, o, none⟩) xs.length c] 47)).alloc (.cells #[.int .i64 0, .slice none 0 0] 47)).alloc (.cells #[.int .i64 n, .slice ao l.length co] 47))) [7, 8, 10] (by kernel_rfl) (by kernel_rfl) (by kernel_rfl) ?_
      repeat (refine wpPlain_step (fun K hK => ?_); go_simp; first | (refine hK _ ?_; clear hK K) | (apply Exists.intro; refine ⟨fun _ => ?_, hK _ ?_⟩; fail; clear hK K))
      refine wpPlain_nil ?_
      intro j1 d1
      rw [plus_plus]
      have hown1 := own_plus (j' := j1) (d' := d1) hown
      refine gchain_cons _ rfl ?_
      go_wp2
      refine gExit_normal ⟨.inr (later_of_below (by (repeat (first | (with_reducible exact Below.refl _ _) | (with_reducible assumption) | (with_reducible refine below_plus' ?_ ?_; ((try simp only [plus_size, World.size_alloc, World.size_drew, World.size_setCell, size_setRow, World.heap_drewN, List.length_append]) <;> omega)) | (with_reducible refine below_alloc' ?_ ?_; ((try simp only [plus_size, World.size_alloc, World.size_drew, World.size_setCell, size_setRow, World.heap_drewN, List.length_append]) <;> omega)) | with_reducible refine Below.drew ?_ | (with_reducible refine below_drewN' ?_ _) | exact Below.refl _ _)))), fun j2 d2 => ?_⟩
      refine gchain_cons _ rfl ?_
      refine wpList_append1 rfl _ _ 26 rfl 2 Try.underlying26 infoI (((w.alloc (.cells #[.int .i64 n, .slice (some ⟨b, o, none⟩) xs.length c] 47)).alloc (.cells #[.int .i64 0, .slice none 0 0] 47)).alloc (.cells #[.int .i64 n, .slice ao l.length co] 47)).heap.size (.slice ao l.length co) l rfl _ rfl (nth xs m) ?_ (hown1.kept (by (repeat (first | (with_reducible exact Below.refl _ _) | (with_reducible assumption) | (with_reducible refine below_plus' ?_ ?_; ((try simp only [plus_size, World.size_alloc, World.size_drew, World.size_setCell, size_setRow, World.heap_drewN, List.length_append]) <;> omega)) | (with_reducible refine below_alloc' ?_ ?_; ((try simp only [plus_size, World.size_alloc, World.size_drew, World.size_setCell, size_setRow, World.heap_drewN, List.length_append]) <;> omega)) | with_reducible refine Below.drew ?_ | (with_reducible refine below_drewN' ?_ _) | exact Below.refl _ _)))) hll (by ((try simp only [plus_size, World.size_alloc, World.size_drew, World.size_setCell, size_setRow, World.heap_drewN, List.length_append]) <;> omega)) ?_
      · rw [plus_cell _ _ _ _ _ (by ((try simp only [plus_size, World.size_alloc, World.size_drew, World.size_setCell, size_setRow, World.heap_drewN, List.length_append]) <;> omega)), World.cell?_alloc_at _ _ _ _ (by ((try simp only [plus_size, World.size_alloc, World.size_drew, World.size_setCell, size_setRow, World.heap_drewN, List.length_append]) <;> omega))]; rfl
      intro v' w3 hown2 hB
      go_wp2
      have hW3 : Below (((w.alloc (.cells #[.int .i64 n, .slice (some ⟨b, o, none⟩) xs.length c] 47)).alloc (.cells #[.int .i64 0, .slice none 0 0] 47)).alloc (.cells #[.int .i64 n, .slice ao l.length co] 47)).heap.size (((w.alloc (.cells #[.int .i64 n, .slice (some ⟨b, o, none⟩) xs.length c] 47)).alloc (.cells #[.int .i64 0, .slice none 0 0] 47)).alloc (.cells #[.int .i64 n, .slice ao l.length co] 47)) w3 := Below.trans (by (repeat (first | (with_reducible exact Below.refl _ _) | (with_reducible assumption) | (with_reducible refine below_plus' ?_ ?_; ((try simp only [plus_size, World.size_alloc, World.size_drew, World.size_setCell, size_setRow, World.heap_drewN, List.length_append]) <;> omega)) | (with_reducible refine below_alloc' ?_ ?_; ((try simp only [plus_size, World.size_alloc, World.size_drew, World.size_setCell, size_setRow, World.heap_drewN, List.length_append]) <;> omega)) | with_reducible refine Below.drew ?_ | (with_reducible refine below_drewN' ?_ _) | exact Below.refl _ _))) hB
      obtain ⟨ja, da, rfl⟩ := plus_of_below hW3
      refine gExit_normal ⟨.inr (later_of_below hW3), fun j3 d3 => ?_⟩
      obtain ⟨av, cv, rfl, hs⟩ := id hown2.reads
      clear hs
      have hown3 := own_plus (j' := j3) (d' := d3) hown2
      have hL : (l ++ [nth xs m]).length = l.length + 1 := by simp
      rw [hL] at hown3
      clear hL
      rw [plus_plus]
      refine gchain_cons _ rfl ?_
      go_wp2
      refine gExit_normal ⟨.inl (by kernel_rfl), fun j4 d4 => ?_⟩
      refine gchain_nil ?_
      go_wp2
      
      refine ⟨⟨.slice av (l.length + 1) cv, l ++ [nth xs m], m, (ja ++ j3) ++ j4, d4, Lib.hid (by rw [HLl.out]; exact rev_step hmx), by omega, rfl, by rw [plus_plus], own_plus (d := d3) ((own_swap (X := (((w.alloc (.cells #[.int .i64 n, .slice (some ⟨b, o, none⟩) xs.length c] 47)).alloc (.cells #[.int .i64 0, .slice none 0 0] 47)).alloc (.cells #[.int .i64 n, .slice ao l.length co] 47))) (Y := (((w.alloc (.cells #[.int .i64 n, .slice (some ⟨b, o, none⟩) xs.length c] 47)).alloc (.cells #[.int .i64 0, .slice none 0 0] 47)).alloc (.cells #[.int .i64 n, .slice av (l.length + 1) cv] 47))) (by ((try simp only [plus_size, World.size_alloc, World.size_drew, World.size_setCell, size_setRow, World.heap_drewN, List.length_append]) <;> omega)) (Nat.le_refl _) hown3).mono (by ((try simp only [plus_size, World.size_alloc, World.size_drew, World.size_setCell, size_setRow, World.heap_drewN, List.length_append]) <;> omega)))⟩, ?_⟩
      simp [intOf]
    · obtain rfl : i = 0 := by omega
      have HE := Lib.hid (show l = xs.reverse by rw [HLl.out]; simp)
      go_wp2
      refine bodyPost_ret (v := .agg #[.int .i64 n, .slice ao l.length co]) (by simp [results, Try.results21, go_sem]) rfl ?_
      exact ⟨_, rfl, by (repeat (first | (with_reducible exact Below.refl _ _) | (with_reducible assumption) | (with_reducible refine below_plus' ?_ ?_; ((try simp only [plus_size, World.size_alloc, World.size_drew, World.size_setCell, size_setRow, World.heap_drewN, List.length_append]) <;> omega)) | (with_reducible refine below_alloc' ?_ ?_; ((try simp only [plus_size, World.size_alloc, World.size_drew, World.size_setCell, size_setRow, World.heap_drewN, List.length_append]) <;> omega)) | with_reducible refine Below.drew ?_ | (with_reducible refine below_drewN' ?_ _) | exact Below.refl _ _)), by rw [← HE.out]; exact (own_swap (by ((try simp only [plus_size, World.size_alloc, World.size_drew, World.size_setCell, size_setRow, World.heap_drewN, List.length_append]) <;> omega)) (Nat.le_refl _) hown).mono (by ((try simp only [plus_size, World.size_alloc, World.size_drew, World.size_setCell, size_setRow, World.heap_drewN, List.length_append]) <;> omega))⟩
end Go.Proofs.Ytcfofdjdbojadaa
