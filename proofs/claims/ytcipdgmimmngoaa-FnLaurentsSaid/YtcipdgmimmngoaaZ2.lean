/- Wide numbers added. Conditions: as each theorem says. -/
import Derived.Test.YtcipdgmimmngoaaZ1
import Derived.Test.YtcipdgmimmngoaaBx
import Derived.OneCell
import Derived.Deep.Cut
import Derived.Deep.CutRange
import Derived.Deep.RegionWith
namespace Go.Proofs.Ytcipdgmimmngoaa
open Go.RowKit
set_option linter.unusedSimpArgs false
set_option linter.unusedVariables false
theorem info68 : (Try.prog.info? 68).map (·.size) = some 4 := by kernel_rfl
@[go_sem] theorem arrF_zero4 (k : IntKind) : (#[.int k 0, .int k 0, .int k 0, .int k 0] : Array Value) = arrF k 4 zeroF := by rfl
theorem cellsF_at {w : World} {b n o : Nat} {T : TypeId} {k : IntKind} {F : Nat → Int} (h : w.heap[b]? = some (.cells (arrF k n F) T)) (ho : o < n) : w.cell? ⟨b, o, none⟩ = some (.int k (F o)) := by
  simp only [World.cell?, h]
  exact arrF_get k n F o ho
theorem cellsF_put {w : World} {b n o : Nat} {T : TypeId} {k : IntKind} {F : Nat → Int} {u : Int} (h : w.heap[b]? = some (.cells (arrF k n F) T)) : (w.setCell ⟨b, o, none⟩ (.int k u)).heap[b]? = some (.cells (arrF k n (upd F o u)) T) := by
  rw [heap_setCell_same w b o _ T _ h, arrF_set]
set_option maxHeartbeats 1000000 in
theorem plus_any (x y : Int) (w : World) : Calls Try.prog 55 #[.agg (arrF .u64 4 (wrd x)), .agg (arrF .u64 4 (wrd y))] w fun e w' => e = .returned (.agg (arrF .u64 4 (wrd (x + y)))) ∧ Below w.heap.size w w' := by
  go_enter Try.func55, Try.ntmps55
  go_wp2_with (first | ((with_reducible apply wpList_store_arr rfl rfl 68 _ _ rfl _ rfl _ rfl 4 info68); (repeat (first | (refine heap_at _ _ _ ?_; ((try simp only [plus_size, World.size_alloc, World.size_drew, World.size_setCell, size_setRow, World.heap_drewN, List.length_append]) <;> omega)) | (refine heap_past' ?_ ?_; ((try simp only [plus_size, World.size_alloc, World.size_drew, World.size_setCell, size_setRow, World.heap_drewN, List.length_append]) <;> omega)) | (refine heap_plus' ?_ ?_; ((try simp only [plus_size, World.size_alloc, World.size_drew, World.size_setCell, size_setRow, World.heap_drewN, List.length_append]) <;> omega)) | assumption)); (simp only [arrF_size, arrO_size]); (simp only [arrF_size, arrO_size]); (first | exact arrF_one _ _ _ | exact arrO_one _ _); (repeat (first | (refine setRow_at' ?_; ((try simp only [plus_size, World.size_alloc, World.size_drew, World.size_setCell, size_setRow, World.heap_drewN, List.length_append]) <;> omega)) | (apply setRow_past'; ((try simp only [plus_size, World.size_alloc, World.size_drew, World.size_setCell, size_setRow, World.heap_drewN, List.length_append]) <;> omega)) | (apply setRow_plus'; ((try simp only [plus_size, World.size_alloc, World.size_drew, World.size_setCell, size_setRow, World.heap_drewN, List.length_append]) <;> omega)) | exact rfl))))
  go_loopw [9, 6] (fun sl sc wr => ∃ (k c : Nat) (j : List Obj) (d : Nat), k ≤ 4 ∧ c ≤ 1 ∧ sl = .int .i64 k ∧ sc = .int .u64 c ∧ qt (x + y) k = qt x k + qt y k + c ∧ wr = plus ((w.alloc (.cells (arrF .u64 4 (wrd x)) 68)).alloc (.cells (arrF .u64 4 (wrd y)) 68)) j d ∧ wr.heap[w.heap.size + 1 + 1]? = some (.cells (arrF .u64 4 zeroF) 68) ∧ wr.heap[w.heap.size + 1 + 1 + 1]? = some (.cells (arrF .u64 4 (wrdK (x + y) k)) 68)) (fun sl _ _ => 4 - (intOf sl).toNat)
  case atStart => exact ⟨0, 0, [.cells (arrF .u64 4 zeroF) 68, .cells (arrF .u64 4 zeroF) 68], w.drawn, by omega, by omega, rfl, rfl, by simp [qt], by first | rfl | simp [plus], by (repeat (first | (refine heap_at _ _ _ ?_; ((try simp only [plus_size, World.size_alloc, World.size_drew, World.size_setCell, size_setRow, World.heap_drewN, List.length_append]) <;> omega)) | (refine heap_past' ?_ ?_; ((try simp only [plus_size, World.size_alloc, World.size_drew, World.size_setCell, size_setRow, World.heap_drewN, List.length_append]) <;> omega)) | (refine heap_plus' ?_ ?_; ((try simp only [plus_size, World.size_alloc, World.size_drew, World.size_setCell, size_setRow, World.heap_drewN, List.length_append]) <;> omega)) | assumption)), by rw [wrdK_zero]; (repeat (first | (refine heap_at _ _ _ ?_; ((try simp only [plus_size, World.size_alloc, World.size_drew, World.size_setCell, size_setRow, World.heap_drewN, List.length_append]) <;> omega)) | (refine heap_past' ?_ ?_; ((try simp only [plus_size, World.size_alloc, World.size_drew, World.size_setCell, size_setRow, World.heap_drewN, List.length_append]) <;> omega)) | (refine heap_plus' ?_ ?_; ((try simp only [plus_size, World.size_alloc, World.size_drew, World.size_setCell, size_setRow, World.heap_drewN, List.length_append]) <;> omega)) | assumption))⟩
  case round =>
    obtain ⟨k, c, j, d, hk, hc, rfl, rfl, hq, rfl, h4, h5⟩ := hrel
    have l4 := lt_of_block h4
    have l5 := lt_of_block h5
    by_cases hlt : k < 4
    · have c5 := cellsF_at h5 (o := k) hlt
      have f5 := frozen_of_row (plus ((w.alloc (.cells (arrF .u64 4 (wrd x)) 68)).alloc (.cells (arrF .u64 4 (wrd y)) 68)) j d) _ k _ 68 h5
      have ha := (wrd_lt x k).1
      have hb := (wrd_lt y k).1
      have hc0 : (0 : Int) ≤ (c : Int) := by omega
      have hc1 : (c : Int) ≤ 1 := by omega
      have hqq := Lib.hid (qt_add hq)
      clear hq
      go_upto_region 5 with (fail)
      go_wp2_with fail
      refine region_ghostW (W := ((w.alloc (.cells (arrF .u64 4 (wrd x)) 68)).alloc (.cells (arrF .u64 4 (wrd y)) 68))) [13] (by kernel_rfl) (by kernel_rfl) (by kernel_rfl) ?_
      repeat (refine wpPlain_step (fun K hK => ?_); go_simp; first | (refine hK _ ?_; clear hK K) | (apply Exists.intro; refine ⟨fun _ => ?_, hK _ ?_⟩; (fail); clear hK K))
      refine wpPlain_nil ?_
      intro j1 d1
      rw [plus_plus]
      have h4' : (plus ((w.alloc (.cells (arrF .u64 4 (wrd x)) 68)).alloc (.cells (arrF .u64 4 (wrd y)) 68)) (j ++ j1) d1).heap[w.heap.size + 1 + 1]? = some (.cells (arrF .u64 4 zeroF) 68) := by
        rw [← plus_plus (d := d)]
        exact kept_of h4 (below_plus (Below.refl _ _) (Nat.le_refl _) j1 d1)
      have h5' : (plus ((w.alloc (.cells (arrF .u64 4 (wrd x)) 68)).alloc (.cells (arrF .u64 4 (wrd y)) 68)) (j ++ j1) d1).heap[w.heap.size + 1 + 1 + 1]? = some (.cells (arrF .u64 4 (wrdK (x + y) k)) 68) := by
        rw [← plus_plus (d := d)]
        exact kept_of h5 (below_plus (Below.refl _ _) (Nat.le_refl _) j1 d1)
      have c5' := cellsF_at h5' (o := k) hlt
      have f5' := frozen_of_row (plus ((w.alloc (.cells (arrF .u64 4 (wrd x)) 68)).alloc (.cells (arrF .u64 4 (wrd y)) 68)) (j ++ j1) d1) _ k _ 68 h5'
      have l5' := lt_of_block h5'
      refine gchain_cons _ rfl ?_
      go_wp2
      obtain ⟨w3, hw3⟩ : ∃ w3, (plus ((w.alloc (.cells (arrF .u64 4 (wrd x)) 68)).alloc (.cells (arrF .u64 4 (wrd y)) 68)) (j ++ j1) d1).setCell ⟨w.heap.size + 1 + 1 + 1, k, none⟩ (.int .u64 ((wrd x k + wrd y k + (c : Int)) % 18446744073709551616)) = w3 := ⟨_, rfl⟩
      have h5'' : w3.heap[w.heap.size + 1 + 1 + 1]? = some (.cells (arrF .u64 4 (wrdK (x + y) (k + 1))) 68) := by
        rw [← hw3, ← wrdK_succ, hqq.out.2]; exact cellsF_put h5'
      have h4'' : w3.heap[w.heap.size + 1 + 1]? = some (.cells (arrF .u64 4 zeroF) 68) := by
        rw [← hw3]; exact (heap_setCell_other _ _ _ _ (show w.heap.size + 1 + 1 ≠ w.heap.size + 1 + 1 + 1 by omega)).trans h4'
      have hW3 : Below ((w.alloc (.cells (arrF .u64 4 (wrd x)) 68)).alloc (.cells (arrF .u64 4 (wrd y)) 68)).heap.size ((w.alloc (.cells (arrF .u64 4 (wrd x)) 68)).alloc (.cells (arrF .u64 4 (wrd y)) 68)) w3 := by
        rw [← hw3]; exact (below_plus (Below.refl _ _) (Nat.le_refl _) _ _).trans (below_of_grown (grownBy_setCell _ _ _ _) (by ((try simp only [plus_size, World.size_alloc, World.size_drew, World.size_setCell, size_setRow, World.heap_drewN, List.length_append]) <;> omega)) (fun q hq => by cases hq; ((try simp only [plus_size, World.size_alloc, World.size_drew, World.size_setCell, size_setRow, World.heap_drewN, List.length_append]) <;> omega)))
      rw [hw3]
      clear hw3
      obtain ⟨ja, da, rfl⟩ := plus_of_below hW3
      refine gExit_normal ⟨.inr (later_of_below hW3), fun j3 d3 => ?_⟩
      have h4 := kept_of h4'' (below_plus (Below.refl _ _) (Nat.le_refl _) j3 d3)
      have h5 := kept_of h5'' (below_plus (Below.refl _ _) (Nat.le_refl _) j3 d3)
      rw [plus_plus] at h4 h5 ⊢
      refine gchain_nil ?_
      go_wp2
      have hx2 := (wrd_lt x k).2
      have hy2 := (wrd_lt y k).2
      go_roundw
      case rel => exact ⟨k + 1, ((wrd x k + wrd y k + (c : Int)) / 18446744073709551616).toNat, _, _, by omega, by omega, by go_num, by rw [Int.toNat_of_nonneg (by omega)], by rw [Int.toNat_of_nonneg (by omega)]; exact hqq.out.1, rfl, h4, h5⟩
      case measure => simp [intOf]; omega
    · obtain rfl : k = 4 := by omega
      rw [wrdK_four] at h5
      go_wp2_with (first | ((with_reducible apply wpList_load_arr rfl 68 _ rfl _ rfl 4 66 Try.underlying68 info68); (repeat (first | (refine heap_at _ _ _ ?_; ((try simp only [plus_size, World.size_alloc, World.size_drew, World.size_setCell, size_setRow, World.heap_drewN, List.length_append]) <;> omega)) | (refine heap_past' ?_ ?_; ((try simp only [plus_size, World.size_alloc, World.size_drew, World.size_setCell, size_setRow, World.heap_drewN, List.length_append]) <;> omega)) | (refine heap_plus' ?_ ?_; ((try simp only [plus_size, World.size_alloc, World.size_drew, World.size_setCell, size_setRow, World.heap_drewN, List.length_append]) <;> omega)) | assumption)); (simp only [arrF_size, arrO_size]))
                                        | ((with_reducible apply wpList_store_arr rfl rfl 68 _ _ rfl _ rfl _ rfl 4 info68); (repeat (first | (refine heap_at _ _ _ ?_; ((try simp only [plus_size, World.size_alloc, World.size_drew, World.size_setCell, size_setRow, World.heap_drewN, List.length_append]) <;> omega)) | (refine heap_past' ?_ ?_; ((try simp only [plus_size, World.size_alloc, World.size_drew, World.size_setCell, size_setRow, World.heap_drewN, List.length_append]) <;> omega)) | (refine heap_plus' ?_ ?_; ((try simp only [plus_size, World.size_alloc, World.size_drew, World.size_setCell, size_setRow, World.heap_drewN, List.length_append]) <;> omega)) | assumption)); (simp only [arrF_size, arrO_size]); (simp only [arrF_size, arrO_size]); (first | exact arrF_one _ _ _ | exact arrO_one _ _); (repeat (first | (refine setRow_at' ?_; ((try simp only [plus_size, World.size_alloc, World.size_drew, World.size_setCell, size_setRow, World.heap_drewN, List.length_append]) <;> omega)) | (apply setRow_past'; ((try simp only [plus_size, World.size_alloc, World.size_drew, World.size_setCell, size_setRow, World.heap_drewN, List.length_append]) <;> omega)) | (apply setRow_plus'; ((try simp only [plus_size, World.size_alloc, World.size_drew, World.size_setCell, size_setRow, World.heap_drewN, List.length_append]) <;> omega)) | exact rfl))))
      exact ret_arr rfl 4 66 Try.underlying68 info68 _ _ _ (0, 0) rfl (setRow_heap _ _ _ (arrF .u64 4 (wrd (x + y))) _ _ h4) (by simp [arrF_size]) rfl ⟨rfl, (show Below w.heap.size w (plus ((w.alloc (.cells (arrF .u64 4 (wrd x)) 68)).alloc (.cells (arrF .u64 4 (wrd y)) 68)) j d) by (repeat (first | (with_reducible exact Below.refl _ _) | (with_reducible assumption) | (with_reducible refine below_plus' ?_ ?_; ((try simp only [plus_size, World.size_alloc, World.size_drew, World.size_setCell, size_setRow, World.heap_drewN, List.length_append]) <;> omega)) | (with_reducible refine below_alloc' ?_ ?_; ((try simp only [plus_size, World.size_alloc, World.size_drew, World.size_setCell, size_setRow, World.heap_drewN, List.length_append]) <;> omega)) | with_reducible refine Below.drew ?_ | (with_reducible refine below_drewN' ?_ _) | exact Below.refl _ _))).trans ⟨rfl, rfl, rfl, by simp, fun k hk => setRow_other _ _ k _ (by omega)⟩⟩
end Go.Proofs.Ytcipdgmimmngoaa
