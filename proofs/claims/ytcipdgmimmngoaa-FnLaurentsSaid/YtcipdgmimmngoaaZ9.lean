/- Polynomials without limits. Conditions: as each theorem says. -/
import Derived.Test.YtcipdgmimmngoaaZ8
namespace Go.Proofs.Ytcipdgmimmngoaa
open Go.RowKit
set_option linter.unusedSimpArgs false
set_option linter.unusedVariables false
open Go.RowKit
theorem ownW_plus {e : TypeId} {W : World} {j j' : List Obj} {d d' B : Nat} {v : Value} {xs : List Int} (h : ownW e (plus W j d) B v xs) : ownW e (plus W (j ++ j') d') B v xs := by
  rw [← plus_plus (d := d)]
  exact h.kept (below_plus (Below.refl _ _) (Nat.le_refl _) j' d')
theorem ownW.mono {e : TypeId} {w : World} {B B' : Nat} {v : Value} {xs : List Int} (h : ownW e w B v xs) (hB : B' ≤ B) : ownW e w B' v xs := by
  obtain ⟨h1, h2⟩ := h
  refine ⟨h1, ?_⟩
  rcases h2 with h2 | ⟨g, cap, cur, hv, hg, r⟩
  · exact .inl h2
  · exact .inr ⟨g, cap, cur, hv, Nat.le_trans hB hg, r⟩
theorem ownW_swap {e : TypeId} {X Y : World} {B : Nat} {j : List Obj} {d d' : Nat} {v : Value} {xs : List Int} (hs : X.heap.size = Y.heap.size) (hB : X.heap.size ≤ B) (h : ownW e (plus X j d) B v xs) : ownW e (plus Y j d') B v xs := by
  obtain ⟨h1, h2⟩ := h
  refine ⟨h1, ?_⟩
  rcases h2 with h2 | ⟨g, cap, cur, hv, hg, hh, r⟩
  · exact .inl h2
  · refine .inr ⟨g, cap, cur, hv, hg, ?_, r⟩
    rw [← hh]
    show (Y.heap ++ j.toArray)[g]? = (X.heap ++ j.toArray)[g]?
    rw [Array.getElem?_append_right (by omega), Array.getElem?_append_right (by omega), hs]
theorem take_snoc {xs : List Int} {k : Nat} (h : k < xs.length) : xs.take k ++ [nth xs k] = xs.take (k + 1) := by
  rw [List.take_add_one, List.getElem?_eq_getElem h]
  simp [nth, h]
theorem infoW : (Try.prog.info? 68).map (fun i => (i.zero, i.size, i.bytes)) = some (some (.agg (arrF .u64 4 zeroF)), 4, 32) := by kernel_rfl
set_option maxHeartbeats 2000000 in
theorem polyOf_any (low : Int) (v : Value) (xs : List Int) (w : World) (h : reads w v xs) (hlen : xs.length ≤ 3000) (hfit : Fits xs) : Calls Try.prog 32 #[.agg #[.int .i64 low, v]] w fun e w' => ∃ v', e = .returned (.agg #[.int .i64 low, v']) ∧ Below w.heap.size w w' ∧ ownW 68 w' w.heap.size v' xs := by
  obtain ⟨a, c, rfl, h⟩ := h
  have Hr := Lib.hid (show 0 < xs.length → ∃ b o, a = some ⟨b, o, none⟩ ∧ b < w.heap.size ∧ ∀ i, i < xs.length → w.cell? ⟨b, o + i, none⟩ = some (.int .i64 (nth xs i)) from fun hp => by
    rcases h with h | ⟨b, o, rfl, m⟩
    · rw [h] at hp; cases hp
    · exact ⟨b, o, rfl, World.block_lt_of_cell? w _ (m 0 hp), m⟩)
  clear h
  have Hf := Lib.hid (fun k (hk : k < xs.length) => fits_nth hfit hk)
  clear hfit
  go_enter Try.func32, Try.ntmps32
  go_wp2
  go_loopw [12] (fun sl wr => ∃ (vo : Value) (l : List Int) (k : Nat) (j : List Obj) (d : Nat), Hid (l = xs.take k) ∧ k ≤ xs.length ∧ sl = .int .i64 k ∧ wr = plus (((w.alloc (.cells #[.int .i64 low, .slice a xs.length c] 26)).alloc (.cells #[.int .i64 0, .slice none 0 0] 48)).alloc (.cells #[.int .i64 low, vo] 48)) j d ∧ ownW 68 (plus (((w.alloc (.cells #[.int .i64 low, .slice a xs.length c] 26)).alloc (.cells #[.int .i64 0, .slice none 0 0] 48)).alloc (.cells #[.int .i64 low, vo] 48)) j d) (((w.alloc (.cells #[.int .i64 low, .slice a xs.length c] 26)).alloc (.cells #[.int .i64 0, .slice none 0 0] 48)).alloc (.cells #[.int .i64 low, vo] 48)).heap.size vo l) (fun sl _ => xs.length - (intOf sl).toNat)
  case atStart => exact ⟨_, [], 0, [], w.drawn, Lib.hid rfl, by omega, rfl, (plus_nil _).symm, ownW_nil _ _ _⟩
  case round =>
    obtain ⟨vo, l, k, j, d, HLl, hk, rfl, rfl, hown⟩ := hrel
    obtain ⟨ao, co, rfl, hs⟩ := id hown.reads
    clear hs
    by_cases hlt : k < xs.length
    · obtain ⟨b, o, rfl, hbk, mm⟩ := Hr.out (by omega)
      have g1 := mm k hlt
      have hf1 := (Hf.out k hlt).1
      have hf2 := (Hf.out k hlt).2
      have hll : l.length < 1000000000 := by have := congrArg List.length HLl.out; simp at this; omega
      have hb3 : b < w.heap.size + 1 + 1 + 1 := by omega
      have hb1 : b < w.heap.size + 1 := by omega
      have hb2 : b < w.heap.size + 1 + 1 := by omega
      have HBx := Lib.hid (show l ++ [nth xs k] = xs.take (k + 1) by rw [HLl.out, take_snoc hlt])
      clear mm Hr
      go_wp2
      refine region_ghostW (W := (((w.alloc (.cells #[.int .i64 low, .slice (some ⟨b, o, none⟩) xs.length c] 26)).alloc (.cells #[.int .i64 0, .slice none 0 0] 48)).alloc (.cells #[.int .i64 low, .slice ao l.length co] 48))) [4, 5, 7] (by kernel_rfl) (by kernel_rfl) (by kernel_rfl) ?_
      repeat (refine wpPlain_step (fun K hK => ?_); go_simp; first | (refine hK _ ?_; clear hK K) | (apply Exists.intro; refine ⟨fun _ => ?_, hK _ ?_⟩; (go_at_call 53; refine Calls.mono (wideOf_any _ _ hf1 hf2) ?_; rintro e w'' ⟨he, hB⟩; exact ⟨he, hB⟩); clear hK K))
      refine wpPlain_nil ?_
      intro j1 d1
      rw [plus_plus]
      have hown1 := ownW_plus (j' := j1) (d' := d1) hown
      refine gchain_cons _ rfl ?_
      go_wp2
      refine gExit_normal ⟨.inr (later_of_below (by (repeat (first | (with_reducible exact Below.refl _ _) | (with_reducible assumption) | (with_reducible refine below_plus' ?_ ?_; ((try simp only [plus_size, World.size_alloc, World.size_drew, World.size_setCell, size_setRow, World.heap_drewN, List.length_append]) <;> omega)) | (with_reducible refine below_alloc' ?_ ?_; ((try simp only [plus_size, World.size_alloc, World.size_drew, World.size_setCell, size_setRow, World.heap_drewN, List.length_append]) <;> omega)) | with_reducible refine Below.drew ?_ | (with_reducible refine below_drewN' ?_ _) | exact Below.refl _ _)))), fun j2 d2 => ?_⟩
      refine gchain_cons _ rfl ?_
      refine wpList_appendWide rfl _ _ 46 rfl 68 _ Try.underlying46 infoW rfl (((w.alloc (.cells #[.int .i64 low, .slice (some ⟨b, o, none⟩) xs.length c] 26)).alloc (.cells #[.int .i64 0, .slice none 0 0] 48)).alloc (.cells #[.int .i64 low, .slice ao l.length co] 48)).heap.size (.slice ao l.length co) l rfl _ 1 rfl (nth xs k) ?_ (hown1.kept (by (repeat (first | (with_reducible exact Below.refl _ _) | (with_reducible assumption) | (with_reducible refine below_plus' ?_ ?_; ((try simp only [plus_size, World.size_alloc, World.size_drew, World.size_setCell, size_setRow, World.heap_drewN, List.length_append]) <;> omega)) | (with_reducible refine below_alloc' ?_ ?_; ((try simp only [plus_size, World.size_alloc, World.size_drew, World.size_setCell, size_setRow, World.heap_drewN, List.length_append]) <;> omega)) | with_reducible refine Below.drew ?_ | (with_reducible refine below_drewN' ?_ _) | exact Below.refl _ _)))) hll (by ((try simp only [plus_size, World.size_alloc, World.size_drew, World.size_setCell, size_setRow, World.heap_drewN, List.length_append]) <;> omega)) ?_
      · intro j hj
        rw [plus_cell _ _ _ _ _ (by ((try simp only [plus_size, World.size_alloc, World.size_drew, World.size_setCell, size_setRow, World.heap_drewN, List.length_append]) <;> omega)), World.cell?_alloc_at _ _ _ _ (by ((try simp only [plus_size, World.size_alloc, World.size_drew, World.size_setCell, size_setRow, World.heap_drewN, List.length_append]) <;> omega))]
        exact arrF_get _ _ _ _ hj
      intro v' w3 hown2 hB _
      go_wp2
      have hW3 : Below (((w.alloc (.cells #[.int .i64 low, .slice (some ⟨b, o, none⟩) xs.length c] 26)).alloc (.cells #[.int .i64 0, .slice none 0 0] 48)).alloc (.cells #[.int .i64 low, .slice ao l.length co] 48)).heap.size (((w.alloc (.cells #[.int .i64 low, .slice (some ⟨b, o, none⟩) xs.length c] 26)).alloc (.cells #[.int .i64 0, .slice none 0 0] 48)).alloc (.cells #[.int .i64 low, .slice ao l.length co] 48)) w3 := Below.trans (by (repeat (first | (with_reducible exact Below.refl _ _) | (with_reducible assumption) | (with_reducible refine below_plus' ?_ ?_; ((try simp only [plus_size, World.size_alloc, World.size_drew, World.size_setCell, size_setRow, World.heap_drewN, List.length_append]) <;> omega)) | (with_reducible refine below_alloc' ?_ ?_; ((try simp only [plus_size, World.size_alloc, World.size_drew, World.size_setCell, size_setRow, World.heap_drewN, List.length_append]) <;> omega)) | with_reducible refine Below.drew ?_ | (with_reducible refine below_drewN' ?_ _) | exact Below.refl _ _))) hB
      obtain ⟨ja, da, rfl⟩ := plus_of_below hW3
      refine gExit_normal ⟨.inr (later_of_below hW3), fun j3 d3 => ?_⟩
      obtain ⟨av, cv, rfl, hs⟩ := id hown2.reads
      clear hs
      have hown3 := ownW_plus (j' := j3) (d' := d3) hown2
      have hL : (l ++ [nth xs k]).length = l.length + 1 := by simp
      rw [hL] at hown3
      clear hL
      rw [plus_plus]
      refine gchain_cons _ rfl ?_
      go_wp2
      refine gExit_normal ⟨.inl (by kernel_rfl), fun j4 d4 => ?_⟩
      refine gchain_nil ?_
      go_wp2
      
      refine ⟨⟨.slice av (l.length + 1) cv, l ++ [nth xs k], k + 1, (ja ++ j3) ++ j4, d4, HBx, by omega, by go_num, by rw [plus_plus], ownW_plus (d := d3) ((ownW_swap (X := (((w.alloc (.cells #[.int .i64 low, .slice (some ⟨b, o, none⟩) xs.length c] 26)).alloc (.cells #[.int .i64 0, .slice none 0 0] 48)).alloc (.cells #[.int .i64 low, .slice ao l.length co] 48))) (Y := (((w.alloc (.cells #[.int .i64 low, .slice (some ⟨b, o, none⟩) xs.length c] 26)).alloc (.cells #[.int .i64 0, .slice none 0 0] 48)).alloc (.cells #[.int .i64 low, .slice av (l.length + 1) cv] 48))) (by ((try simp only [plus_size, World.size_alloc, World.size_drew, World.size_setCell, size_setRow, World.heap_drewN, List.length_append]) <;> omega)) (Nat.le_refl _) hown3).mono (by ((try simp only [plus_size, World.size_alloc, World.size_drew, World.size_setCell, size_setRow, World.heap_drewN, List.length_append]) <;> omega)))⟩, ?_⟩
      simp [intOf]; omega
    · obtain rfl : k = xs.length := by omega
      have HE := Lib.hid (show l = xs by rw [HLl.out, List.take_length])
      go_wp2
      refine bodyPost_ret (v := .agg #[.int .i64 low, .slice ao l.length co]) (by simp [results, Try.results32, go_sem]) rfl ?_
      exact ⟨_, rfl, by (repeat (first | (with_reducible exact Below.refl _ _) | (with_reducible assumption) | (with_reducible refine below_plus' ?_ ?_; ((try simp only [plus_size, World.size_alloc, World.size_drew, World.size_setCell, size_setRow, World.heap_drewN, List.length_append]) <;> omega)) | (with_reducible refine below_alloc' ?_ ?_; ((try simp only [plus_size, World.size_alloc, World.size_drew, World.size_setCell, size_setRow, World.heap_drewN, List.length_append]) <;> omega)) | with_reducible refine Below.drew ?_ | (with_reducible refine below_drewN' ?_ _) | exact Below.refl _ _)), by rw [← HE.out]; exact (ownW_swap (by ((try simp only [plus_size, World.size_alloc, World.size_drew, World.size_setCell, size_setRow, World.heap_drewN, List.length_append]) <;> omega)) (Nat.le_refl _) hown).mono (by ((try simp only [plus_size, World.size_alloc, World.size_drew, World.size_setCell, size_setRow, World.heap_drewN, List.length_append]) <;> omega))⟩
end Go.Proofs.Ytcipdgmimmngoaa
