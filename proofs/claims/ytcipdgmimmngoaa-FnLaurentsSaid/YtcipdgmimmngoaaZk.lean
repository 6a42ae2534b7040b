/- Wide numbers multiplied. Conditions: as each theorem says. -/
import Derived.Test.YtcipdgmimmngoaaZj
import Derived.OneCell
namespace Go.Proofs.Ytcipdgmimmngoaa
open Go.RowKit
set_option linter.unusedSimpArgs false
set_option linter.unusedVariables false
open Go.RowKit
@[go_sem] theorem index_arrW (k : IntKind) (a : Nat → Int) (i : Nat) (h : i < 4) (w : World) : (Instr.index 68 (.agg (arrF k 4 a)) (.int .i64 (i : Int))).run Try.prog w = .ok (.int k (a i)) w := by
  have h1 : (i : Int) < 4 := by omega
  simp [Instr.index, asIntOf, Sem.run_bind, run_underlying Try.underlying68, Try.sizeOf66, h1, part, Try.isAgg66, arrF_get k 4 a i h]
  omega
theorem arr_zeroP : arrF .u64 4 zeroF = arrF .u64 4 (wrd 0) := arrF_ext fun i _ => (wrd_zero i).symm
set_option maxHeartbeats 4000000 in
theorem times_any (x y : Int) (w : World) : Calls Try.prog 58 #[.agg (arrF .u64 4 (wrd x)), .agg (arrF .u64 4 (wrd y))] w fun e w' => e = .returned (.agg (arrF .u64 4 (wrd (x * y)))) ∧ Below w.heap.size w w' := by
  go_enter Try.func58, Try.ntmps58
  go_wp2_with (first | ((with_reducible apply wpList_store_arr rfl rfl 68 _ _ rfl _ rfl _ rfl 4 info68); (repeat (first | (refine heap_at _ _ _ ?_; ((try simp only [plus_size, World.size_alloc, World.size_drew, World.size_setCell, size_setRow, World.heap_drewN, List.length_append]) <;> omega)) | (refine heap_past' ?_ ?_; ((try simp only [plus_size, World.size_alloc, World.size_drew, World.size_setCell, size_setRow, World.heap_drewN, List.length_append]) <;> omega)) | (refine heap_plus' ?_ ?_; ((try simp only [plus_size, World.size_alloc, World.size_drew, World.size_setCell, size_setRow, World.heap_drewN, List.length_append]) <;> omega)) | assumption)); (simp only [arrF_size, arrO_size]); (simp only [arrF_size, arrO_size]); (first | exact arrF_one _ _ _ | exact arrO_one _ _); (repeat (first | (refine setRow_at' ?_; ((try simp only [plus_size, World.size_alloc, World.size_drew, World.size_setCell, size_setRow, World.heap_drewN, List.length_append]) <;> omega)) | (apply setRow_past'; ((try simp only [plus_size, World.size_alloc, World.size_drew, World.size_setCell, size_setRow, World.heap_drewN, List.length_append]) <;> omega)) | (apply setRow_plus'; ((try simp only [plus_size, World.size_alloc, World.size_drew, World.size_setCell, size_setRow, World.heap_drewN, List.length_append]) <;> omega)) | exact rfl)))
                                        | ((with_reducible apply wpList_load_arr rfl 68 _ rfl _ rfl 4 66 Try.underlying68 info68); (repeat (first | (refine heap_at _ _ _ ?_; ((try simp only [plus_size, World.size_alloc, World.size_drew, World.size_setCell, size_setRow, World.heap_drewN, List.length_append]) <;> omega)) | (refine heap_past' ?_ ?_; ((try simp only [plus_size, World.size_alloc, World.size_drew, World.size_setCell, size_setRow, World.heap_drewN, List.length_append]) <;> omega)) | (refine heap_plus' ?_ ?_; ((try simp only [plus_size, World.size_alloc, World.size_drew, World.size_setCell, size_setRow, World.heap_drewN, List.length_append]) <;> omega)) | assumption)); (simp only [arrF_size, arrO_size])))
  go_loopw [16] (fun sl wr => ∃ (i : Nat) (P : Int) (j : List Obj) (d : Nat), i ≤ 4 ∧ sl = .int .i64 i ∧ Hid (x * y = P + bp i * (qt x i * y)) ∧ wr = plus ((w.alloc (.cells (arrF .u64 4 (wrd x)) 68)).alloc (.cells (arrF .u64 4 (wrd y)) 68)) j d ∧ wr.heap[w.heap.size + 1 + 1]? = some (.cells (arrF .u64 4 zeroF) 68) ∧ wr.heap[w.heap.size + 1 + 1 + 1]? = some (.cells (arrF .u64 4 (wrd P)) 68)) (fun sl _ => 4 - (intOf sl).toNat)
  case atStart => exact ⟨0, 0, [.cells (arrF .u64 4 zeroF) 68, .cells (arrF .u64 4 zeroF) 68], w.drawn, by omega, rfl, Lib.hid (by simp [bp, qt]), by first | rfl | simp [plus], by (repeat (first | (refine heap_at _ _ _ ?_; ((try simp only [plus_size, World.size_alloc, World.size_drew, World.size_setCell, size_setRow, World.heap_drewN, List.length_append]) <;> omega)) | (refine heap_past' ?_ ?_; ((try simp only [plus_size, World.size_alloc, World.size_drew, World.size_setCell, size_setRow, World.heap_drewN, List.length_append]) <;> omega)) | (refine heap_plus' ?_ ?_; ((try simp only [plus_size, World.size_alloc, World.size_drew, World.size_setCell, size_setRow, World.heap_drewN, List.length_append]) <;> omega)) | assumption)), by rw [← arr_zeroP]; (repeat (first | (refine heap_at _ _ _ ?_; ((try simp only [plus_size, World.size_alloc, World.size_drew, World.size_setCell, size_setRow, World.heap_drewN, List.length_append]) <;> omega)) | (refine heap_past' ?_ ?_; ((try simp only [plus_size, World.size_alloc, World.size_drew, World.size_setCell, size_setRow, World.heap_drewN, List.length_append]) <;> omega)) | (refine heap_plus' ?_ ?_; ((try simp only [plus_size, World.size_alloc, World.size_drew, World.size_setCell, size_setRow, World.heap_drewN, List.length_append]) <;> omega)) | assumption))⟩
  case round =>
    obtain ⟨i, P, j, d, hi, rfl, HX, rfl, h4, h5⟩ := hrel
    have l4 := lt_of_block h4
    have l5 := lt_of_block h5
    by_cases hlt : i < 4
    · have hx0 := (wrd_lt x i).1
      have hx1 := (wrd_lt x i).2
      obtain ⟨Z, hZ⟩ : ∃ Z, P + bp i * (wrd x i * y) = Z := ⟨_, rfl⟩
      have HZ0 := Lib.hid (show ∀ j, j < i → wrd Z j = wrd P j from fun j hj => by rw [← hZ]; exact wrd_under hj)
      have HQ0 := Lib.hid (show qt Z i = qt P i + wrd x i * y from by rw [← hZ]; exact qt_plus)
      have HX2 := Lib.hid (show x * y = Z + bp (i + 1) * (qt x (i + 1) * y) from by rw [← hZ]; exact mul_round HX.out)
      clear hZ
      have hi4 : (i : Int) < 4 := by omega
      go_wp2
      go_loopw [9, 8] (fun sl sc wr => ∃ (k : Nat) (c : Int) (j : List Obj) (d : Nat), i + k ≤ 4 ∧ 0 ≤ c ∧ c < 18446744073709551616 ∧ sl = .int .i64 k ∧ sc = .int .u64 c ∧ Hid (qt Z (i + k) = qt P (i + k) + wrd x i * qt y k + c) ∧ wr = plus ((w.alloc (.cells (arrF .u64 4 (wrd x)) 68)).alloc (.cells (arrF .u64 4 (wrd y)) 68)) j d ∧ wr.heap[w.heap.size + 1 + 1]? = some (.cells (arrF .u64 4 zeroF) 68) ∧ wr.heap[w.heap.size + 1 + 1 + 1]? = some (.cells (arrF .u64 4 (mixF Z P (i + k))) 68)) (fun sl _ _ => 4 - (intOf sl).toNat)
      case atStart => exact ⟨0, 0, j, d, by omega, by omega, by omega, by go_num, by go_num, Lib.hid (by have := HQ0.out; simpa [qt] using this), rfl, h4, by rw [show mixF Z P (i + 0) = wrd P from mixF_start HZ0.out]; exact h5⟩
      case round =>
        clear h4 h5 l4 l5
        obtain ⟨k, c, j, d, hk, hc0, hc1, rfl, rfl, HQ, rfl, h4, h5⟩ := hrel
        have l4 := lt_of_block h4
        have l5 := lt_of_block h5
        by_cases hlk : i + k < 4
        · have hk4 : k < 4 := by omega
          have hlk2 : (i : Int) + (k : Int) < 4 := by omega
          have hy0 := (wrd_lt y k).1
          have hy1 := (wrd_lt y k).2
          have hf0 := (wrd_lt P (i + k)).1
          have hf1 := (wrd_lt P (i + k)).2
          have hmb := mul_le hx0 hx1 hy0 hy1
          have hm := mul64_any (wrd x i) (wrd y k) hx0 hx1 hy0 hy1
          have hqm := qt_mul HQ.out
          obtain ⟨p, hp⟩ : ∃ p, wrd x i * wrd y k = p := ⟨_, rfl⟩
          rw [hp] at hmb hqm
          simp only [hp] at hm
          obtain ⟨H, hH⟩ : ∃ H, p / 18446744073709551616 = H := ⟨_, rfl⟩
          obtain ⟨L, hL⟩ : ∃ L, p % 18446744073709551616 = L := ⟨_, rfl⟩
          simp only [hH, hL] at hm
          have HM := Lib.hid hm
          have u1 : 0 ≤ L := by omega
          have u2 : 0 ≤ (L + c) % 18446744073709551616 := by omega
          have u3 : H + (L + c) / 18446744073709551616 < 18446744073709551616 := by omega
          have u4 : 0 ≤ H + (L + c) / 18446744073709551616 := by omega
          have u5 : 0 ≤ H + (L + c) / 18446744073709551616 + ((L + c) % 18446744073709551616 + wrd P (i + k)) / 18446744073709551616 := by omega
          have u6 : H + (L + c) / 18446744073709551616 + ((L + c) % 18446744073709551616 + wrd P (i + k)) / 18446744073709551616 < 18446744073709551616 := by omega
          have HC := Lib.hid (show qt Z (i + k + 1) = qt P (i + k + 1) + wrd x i * qt y (k + 1) + (H + (L + c) / 18446744073709551616 + ((L + c) % 18446744073709551616 + wrd P (i + k)) / 18446744073709551616) ∧ wrd Z (i + k) = ((L + c) % 18446744073709551616 + wrd P (i + k)) % 18446744073709551616 from by
            obtain ⟨q1, q2⟩ := hqm
            generalize wrd x i * qt y (k + 1) = t at q1 ⊢
            constructor <;> omega)
          have c5 := cellsF_at h5 (o := i + k) hlk
          rw [mixF_at] at c5
          have f5 := frozen_of_row _ _ (i + k) _ 68 h5
          clear hm hp hH hL hmb hqm
          go_wp2_with (first | (go_at_call 62; refine (HM.out _).mono ?_; rintro e w' ⟨rfl, rfl⟩))
          have hW3 : Below ((w.alloc (.cells (arrF .u64 4 (wrd x)) 68)).alloc (.cells (arrF .u64 4 (wrd y)) 68)).heap.size ((w.alloc (.cells (arrF .u64 4 (wrd x)) 68)).alloc (.cells (arrF .u64 4 (wrd y)) 68)) ((plus ((w.alloc (.cells (arrF .u64 4 (wrd x)) 68)).alloc (.cells (arrF .u64 4 (wrd y)) 68)) j d).setCell ⟨w.heap.size + 1 + 1 + 1, i + k, none⟩ (.int .u64 (wrd Z (i + k)))) := (below_plus (Below.refl _ _) (Nat.le_refl _) _ _).trans (below_of_grown (grownBy_setCell _ _ _ _) (by ((try simp only [plus_size, World.size_alloc, World.size_drew, World.size_setCell, size_setRow, World.heap_drewN, List.length_append]) <;> omega)) (fun q hq => by cases hq; ((try simp only [plus_size, World.size_alloc, World.size_drew, World.size_setCell, size_setRow, World.heap_drewN, List.length_append]) <;> omega)))
          have h5' : ((plus ((w.alloc (.cells (arrF .u64 4 (wrd x)) 68)).alloc (.cells (arrF .u64 4 (wrd y)) 68)) j d).setCell ⟨w.heap.size + 1 + 1 + 1, i + k, none⟩ (.int .u64 (wrd Z (i + k)))).heap[w.heap.size + 1 + 1 + 1]? = some (.cells (arrF .u64 4 (mixF Z P (i + k + 1))) 68) := by
            rw [← mixF_step]; exact cellsF_put h5
          have h4' : ((plus ((w.alloc (.cells (arrF .u64 4 (wrd x)) 68)).alloc (.cells (arrF .u64 4 (wrd y)) 68)) j d).setCell ⟨w.heap.size + 1 + 1 + 1, i + k, none⟩ (.int .u64 (wrd Z (i + k)))).heap[w.heap.size + 1 + 1]? = some (.cells (arrF .u64 4 zeroF) 68) := (heap_setCell_other _ _ _ _ (show w.heap.size + 1 + 1 ≠ w.heap.size + 1 + 1 + 1 by omega)).trans h4
          rw [HC.out.2, show ((L + c) % 18446744073709551616 + wrd P (i + k)) % 18446744073709551616 = (L + c + wrd P (i + k)) % 18446744073709551616 by omega] at hW3 h5' h4'
          obtain ⟨ja, da, hja⟩ := plus_of_below hW3
          refine ⟨⟨k + 1, _, ja, da, by omega, u5, u6, by go_num, rfl, Lib.hid HC.out.1, hja, h4', h5'⟩, ?_⟩
          simp [intOf]; omega
        · have hk4 : i + k = 4 := by omega
          rw [hk4, mixF_four] at h5
          have hlk2 : ¬ (i : Int) + (k : Int) < 4 := by omega
          go_wp2
          refine ⟨⟨i + 1, Z, j, d, by omega, by go_num, HX2, rfl, h4, h5⟩, ?_⟩
          simp [intOf]; omega
    · obtain rfl : i = 4 := by omega
      rw [mul_done HX.out] at h5
      go_wp2_with (first | ((with_reducible apply wpList_load_arr rfl 68 _ rfl _ rfl 4 66 Try.underlying68 info68); (repeat (first | (refine heap_at _ _ _ ?_; ((try simp only [plus_size, World.size_alloc, World.size_drew, World.size_setCell, size_setRow, World.heap_drewN, List.length_append]) <;> omega)) | (refine heap_past' ?_ ?_; ((try simp only [plus_size, World.size_alloc, World.size_drew, World.size_setCell, size_setRow, World.heap_drewN, List.length_append]) <;> omega)) | (refine heap_plus' ?_ ?_; ((try simp only [plus_size, World.size_alloc, World.size_drew, World.size_setCell, size_setRow, World.heap_drewN, List.length_append]) <;> omega)) | assumption)); (simp only [arrF_size, arrO_size]))
                                        | ((with_reducible apply wpList_store_arr rfl rfl 68 _ _ rfl _ rfl _ rfl 4 info68); (repeat (first | (refine heap_at _ _ _ ?_; ((try simp only [plus_size, World.size_alloc, World.size_drew, World.size_setCell, size_setRow, World.heap_drewN, List.length_append]) <;> omega)) | (refine heap_past' ?_ ?_; ((try simp only [plus_size, World.size_alloc, World.size_drew, World.size_setCell, size_setRow, World.heap_drewN, List.length_append]) <;> omega)) | (refine heap_plus' ?_ ?_; ((try simp only [plus_size, World.size_alloc, World.size_drew, World.size_setCell, size_setRow, World.heap_drewN, List.length_append]) <;> omega)) | assumption)); (simp only [arrF_size, arrO_size]); (simp only [arrF_size, arrO_size]); (first | exact arrF_one _ _ _ | exact arrO_one _ _); (repeat (first | (refine setRow_at' ?_; ((try simp only [plus_size, World.size_alloc, World.size_drew, World.size_setCell, size_setRow, World.heap_drewN, List.length_append]) <;> omega)) | (apply setRow_past'; ((try simp only [plus_size, World.size_alloc, World.size_drew, World.size_setCell, size_setRow, World.heap_drewN, List.length_append]) <;> omega)) | (apply setRow_plus'; ((try simp only [plus_size, World.size_alloc, World.size_drew, World.size_setCell, size_setRow, World.heap_drewN, List.length_append]) <;> omega)) | exact rfl))))
      exact ret_arr rfl 4 66 Try.underlying68 info68 _ _ _ (0, 0) rfl (setRow_heap _ _ _ (arrF .u64 4 (wrd (x * y))) _ _ h4) (by simp [arrF_size]) rfl ⟨rfl, (show Below w.heap.size w (plus ((w.alloc (.cells (arrF .u64 4 (wrd x)) 68)).alloc (.cells (arrF .u64 4 (wrd y)) 68)) j d) by (repeat (first | (with_reducible exact Below.refl _ _) | (with_reducible assumption) | (with_reducible refine below_plus' ?_ ?_; ((try simp only [plus_size, World.size_alloc, World.size_drew, World.size_setCell, size_setRow, World.heap_drewN, List.length_append]) <;> omega)) | (with_reducible refine below_alloc' ?_ ?_; ((try simp only [plus_size, World.size_alloc, World.size_drew, World.size_setCell, size_setRow, World.heap_drewN, List.length_append]) <;> omega)) | with_reducible refine Below.drew ?_ | (with_reducible refine below_drewN' ?_ _) | exact Below.refl _ _))).trans ⟨rfl, rfl, rfl, by simp, fun k hk => setRow_other _ _ k _ (by omega)⟩⟩
end Go.Proofs.Ytcipdgmimmngoaa
