/- Wide numbers subtracted. Conditions: as each theorem says. -/
import Derived.Test.YtikakoclmmmjdaaMb
namespace Go.Proofs.Ytikakoclmmmjdaa
open Go.RowKit
set_option linter.unusedSimpArgs false
set_option linter.unusedVariables false
theorem qt_sub {x y c : Int} {i : Nat} (h : qt (x - y) i = qt x i - qt y i - c) : qt (x - y) (i + 1) = qt x (i + 1) - qt y (i + 1) - -((wrd x i - wrd y i - c) / 18446744073709551616) ∧ wrd (x - y) i = (wrd x i - wrd y i - c) % 18446744073709551616 := by
  simp only [qt, wrd, h]
  constructor <;> omega
def sub64Entry : Array Value → Sem Value := fun args => do
  let (x, y, b) ← Extern.MathBitsCarry.three "Sub64" args
  pure (Extern.MathBitsCarry.pair ((x + Extern.MathBitsCarry.m64 - y - b) % Extern.MathBitsCarry.m64) (if x < y + b then 1 else 0))
theorem run_sub64 {P : Program} (x y c : Int) (hx : 0 ≤ x) (hy : 0 ≤ y) (hc0 : 0 ≤ c) (hc : c ≤ 1) (hx1 : x < 18446744073709551616) (hy1 : y < 18446744073709551616) (w : World) :
    (sub64Entry #[.int .u64 x, .int .u64 y, .int .u64 c]).run P w = .ok (.tuple #[.int .u64 ((x - y - c) % 18446744073709551616), .int .u64 (-((x - y - c) / 18446744073709551616))]) w := by
  have key : ∀ k : Nat, k ≤ 1 → (sub64Entry #[.int .u64 x, .int .u64 y, .int .u64 (k : Int)]).run P w =
      .ok (Extern.MathBitsCarry.pair ((x.toNat + Extern.MathBitsCarry.m64 - y.toNat - k) % Extern.MathBitsCarry.m64) (if x.toNat < y.toNat + k then 1 else 0)) w := by
    intro k hk
    have : k = 0 ∨ k = 1 := by omega
    rcases this with rfl | rfl <;> rfl
  obtain ⟨k, rfl⟩ := Int.eq_ofNat_of_zero_le hc0
  rw [key k (by omega)]
  obtain ⟨X, rfl⟩ := Int.eq_ofNat_of_zero_le hx
  obtain ⟨Y, rfl⟩ := Int.eq_ofNat_of_zero_le hy
  have e1 : Int.ofNat ((X + 18446744073709551616 - Y - k) % 18446744073709551616) = ((X : Int) - Y - k) % 18446744073709551616 := by
    simp only [Int.ofNat_eq_natCast]
    omega
  have e2 : Int.ofNat (if X < Y + k then 1 else 0) = -(((X : Int) - Y - k) / 18446744073709551616) := by
    simp only [Int.ofNat_eq_natCast]
    split <;> omega
  simp only [Extern.MathBitsCarry.pair, Extern.MathBitsCarry.m64, Int.toNat_natCast]
  rw [show (2 : Nat) ^ 64 = 18446744073709551616 from rfl, e1, e2]
@[go_sem] theorem sub64_call (x y c : Int) (hx : 0 ≤ x) (hy : 0 ≤ y) (hc0 : 0 ≤ c) (hc : c ≤ 1) (hx1 : x < 18446744073709551616) (hy1 : y < 18446744073709551616) (w : World) : (callFunc 69 #[.int .u64 x, .int .u64 y, .int .u64 c]).run Try.prog w = .ok (.value (.tuple #[.int .u64 ((x - y - c) % 18446744073709551616), .int .u64 (-((x - y - c) / 18446744073709551616))])) w := by
  rw [run_callFunc_extern Try.func69 (by kernel_rfl) (by kernel_rfl) (by kernel_rfl) (e := sub64Entry) (by kernel_rfl), run_sub64 x y c hx hy hc0 hc hx1 hy1]
  rfl
set_option maxHeartbeats 1000000 in
theorem minus_any (x y : Int) (w : World) : Calls Try.prog 65 #[.agg (arrF .u64 4 (wrd x)), .agg (arrF .u64 4 (wrd y))] w fun e w' => e = .returned (.agg (arrF .u64 4 (wrd (x - y)))) ∧ Below w.heap.size w w' := by
  go_enter Try.func65, Try.ntmps65
  go_wp2_with (first | ((with_reducible apply wpList_store_arr rfl rfl 78 _ _ rfl _ rfl _ rfl 4 info78); (repeat (first | (refine heap_at _ _ _ ?_; ((try simp only [plus_size, World.size_alloc, World.size_drew, World.size_setCell, size_setRow, World.heap_drewN, List.length_append]) <;> omega)) | (refine heap_past' ?_ ?_; ((try simp only [plus_size, World.size_alloc, World.size_drew, World.size_setCell, size_setRow, World.heap_drewN, List.length_append]) <;> omega)) | (refine heap_plus' ?_ ?_; ((try simp only [plus_size, World.size_alloc, World.size_drew, World.size_setCell, size_setRow, World.heap_drewN, List.length_append]) <;> omega)) | assumption)); (simp only [arrF_size, arrO_size]); (simp only [arrF_size, arrO_size]); (first | exact arrF_one _ _ _ | exact arrO_one _ _); (repeat (first | (refine setRow_at' ?_; ((try simp only [plus_size, World.size_alloc, World.size_drew, World.size_setCell, size_setRow, World.heap_drewN, List.length_append]) <;> omega)) | (apply setRow_past'; ((try simp only [plus_size, World.size_alloc, World.size_drew, World.size_setCell, size_setRow, World.heap_drewN, List.length_append]) <;> omega)) | (apply setRow_plus'; ((try simp only [plus_size, World.size_alloc, World.size_drew, World.size_setCell, size_setRow, World.heap_drewN, List.length_append]) <;> omega)) | exact rfl))))
  go_loopw [9, 6] (fun sl sc wr => ∃ (k c : Nat) (j : List Obj) (d : Nat), k ≤ 4 ∧ c ≤ 1 ∧ sl = .int .i64 k ∧ sc = .int .u64 c ∧ qt (x - y) k = qt x k - qt y k - c ∧ wr = plus ((w.alloc (.cells (arrF .u64 4 (wrd x)) 78)).alloc (.cells (arrF .u64 4 (wrd y)) 78)) j d ∧ wr.heap[w.heap.size + 1 + 1]? = some (.cells (arrF .u64 4 zeroF) 78) ∧ wr.heap[w.heap.size + 1 + 1 + 1]? = some (.cells (arrF .u64 4 (wrdK (x - y) k)) 78)) (fun sl _ _ => 4 - (intOf sl).toNat)
  case atStart => exact ⟨0, 0, [.cells (arrF .u64 4 zeroF) 78, .cells (arrF .u64 4 zeroF) 78], w.drawn, by omega, by omega, rfl, rfl, by simp [qt], by first | rfl | simp [plus], by (repeat (first | (refine heap_at _ _ _ ?_; ((try simp only [plus_size, World.size_alloc, World.size_drew, World.size_setCell, size_setRow, World.heap_drewN, List.length_append]) <;> omega)) | (refine heap_past' ?_ ?_; ((try simp only [plus_size, World.size_alloc, World.size_drew, World.size_setCell, size_setRow, World.heap_drewN, List.length_append]) <;> omega)) | (refine heap_plus' ?_ ?_; ((try simp only [plus_size, World.size_alloc, World.size_drew, World.size_setCell, size_setRow, World.heap_drewN, List.length_append]) <;> omega)) | assumption)), by rw [wrdK_zero]; (repeat (first | (refine heap_at _ _ _ ?_; ((try simp only [plus_size, World.size_alloc, World.size_drew, World.size_setCell, size_setRow, World.heap_drewN, List.length_append]) <;> omega)) | (refine heap_past' ?_ ?_; ((try simp only [plus_size, World.size_alloc, World.size_drew, World.size_setCell, size_setRow, World.heap_drewN, List.length_append]) <;> omega)) | (refine heap_plus' ?_ ?_; ((try simp only [plus_size, World.size_alloc, World.size_drew, World.size_setCell, size_setRow, World.heap_drewN, List.length_append]) <;> omega)) | assumption))⟩
  case round =>
    obtain ⟨k, c, j, d, hk, hc, rfl, rfl, hq, rfl, h4, h5⟩ := hrel
    have l4 := lt_of_block h4
    have l5 := lt_of_block h5
    by_cases hlt : k < 4
    · have c5 := cellsF_at h5 (o := k) hlt
      have f5 := frozen_of_row (plus ((w.alloc (.cells (arrF .u64 4 (wrd x)) 78)).alloc (.cells (arrF .u64 4 (wrd y)) 78)) j d) _ k _ 78 h5
      have ha := (wrd_lt x k).1
      have hb := (wrd_lt y k).1
      have ha9 := (wrd_lt x k).2
      have hb9 := (wrd_lt y k).2
      have hc0 : (0 : Int) ≤ (c : Int) := by omega
      have hc1 : (c : Int) ≤ 1 := by omega
      have hqq := Lib.hid (qt_sub hq)
      clear hq
      go_upto_region 5 with (fail)
      go_wp2_with fail
      refine region_ghostW (W := ((w.alloc (.cells (arrF .u64 4 (wrd x)) 78)).alloc (.cells (arrF .u64 4 (wrd y)) 78))) [13] (by kernel_rfl) (by kernel_rfl) (by kernel_rfl) ?_
      repeat (refine wpPlain_step (fun K hK => ?_); go_simp; first | (refine hK _ ?_; clear hK K) | (apply Exists.intro; refine ⟨fun _ => ?_, hK _ ?_⟩; (fail); clear hK K))
      refine wpPlain_nil ?_
      intro j1 d1
      rw [plus_plus]
      have h4' : (plus ((w.alloc (.cells (arrF .u64 4 (wrd x)) 78)).alloc (.cells (arrF .u64 4 (wrd y)) 78)) (j ++ j1) d1).heap[w.heap.size + 1 + 1]? = some (.cells (arrF .u64 4 zeroF) 78) := by
        rw [← plus_plus (d := d)]
        exact kept_of h4 (below_plus (Below.refl _ _) (Nat.le_refl _) j1 d1)
      have h5' : (plus ((w.alloc (.cells (arrF .u64 4 (wrd x)) 78)).alloc (.cells (arrF .u64 4 (wrd y)) 78)) (j ++ j1) d1).heap[w.heap.size + 1 + 1 + 1]? = some (.cells (arrF .u64 4 (wrdK (x - y) k)) 78) := by
        rw [← plus_plus (d := d)]
        exact kept_of h5 (below_plus (Below.refl _ _) (Nat.le_refl _) j1 d1)
      have c5' := cellsF_at h5' (o := k) hlt
      have f5' := frozen_of_row (plus ((w.alloc (.cells (arrF .u64 4 (wrd x)) 78)).alloc (.cells (arrF .u64 4 (wrd y)) 78)) (j ++ j1) d1) _ k _ 78 h5'
      have l5' := lt_of_block h5'
      refine gchain_cons _ rfl ?_
      go_wp2
      obtain ⟨w3, hw3⟩ : ∃ w3, (plus ((w.alloc (.cells (arrF .u64 4 (wrd x)) 78)).alloc (.cells (arrF .u64 4 (wrd y)) 78)) (j ++ j1) d1).setCell ⟨w.heap.size + 1 + 1 + 1, k, none⟩ (.int .u64 ((wrd x k - wrd y k - (c : Int)) % 18446744073709551616)) = w3 := ⟨_, rfl⟩
      have h5'' : w3.heap[w.heap.size + 1 + 1 + 1]? = some (.cells (arrF .u64 4 (wrdK (x - y) (k + 1))) 78) := by
        rw [← hw3, ← wrdK_succ, hqq.out.2]; exact cellsF_put h5'
      have h4'' : w3.heap[w.heap.size + 1 + 1]? = some (.cells (arrF .u64 4 zeroF) 78) := by
        rw [← hw3]; exact (heap_setCell_other _ _ _ _ (show w.heap.size + 1 + 1 ≠ w.heap.size + 1 + 1 + 1 by omega)).trans h4'
      have hW3 : Below ((w.alloc (.cells (arrF .u64 4 (wrd x)) 78)).alloc (.cells (arrF .u64 4 (wrd y)) 78)).heap.size ((w.alloc (.cells (arrF .u64 4 (wrd x)) 78)).alloc (.cells (arrF .u64 4 (wrd y)) 78)) w3 := by
        rw [← hw3]; exact (below_plus (Below.refl _ _) (Nat.le_refl _) _ _).trans (below_of_grown (grownBy_setCell _ _ _ _) (by ((try simp only [plus_size, World.size_alloc, World.size_drew, World.size_setCell, size_setRow, World.heap_drewN, List.length_append]) <;> omega)) (fun q hq => by cases hq; ((try simp only [plus_size, World.size_alloc, World.size_drew, World.size_setCell, size_setRow, World.heap_drewN, List.length_append]) <;> omega)))
      rw [hw3]
      clear hw3
      obtain ⟨ja, da, rfl⟩ := plus_of_below hW3
      refine gExit_normal ⟨.inr (later_of_below hW3), fun j3 d3 => ?_⟩
      have h4 := kept_of h4'' (below_plus (Below.refl _ _) (Nat.le_refl _) j3 d3)
      have h5 := kept_of h5'' (below_plus (Below.refl _ _) (Nat.le_refl _) j3 d3)
      rw [plus_plus] at h4 h5 ⊢
      refine gchain_nil ?_
      go_wp2
      have hx2 := (wrd_lt x k).2
      have hy2 := (wrd_lt y k).2
      go_roundw
      case rel => exact ⟨k + 1, (-((wrd x k - wrd y k - (c : Int)) / 18446744073709551616)).toNat, _, _, by omega, by omega, by go_num, by rw [Int.toNat_of_nonneg (by omega)], by rw [Int.toNat_of_nonneg (by omega)]; exact hqq.out.1, rfl, h4, h5⟩
      case measure => simp [intOf]; omega
    · obtain rfl : k = 4 := by omega
      rw [wrdK_four] at h5
      go_wp2_with (first | ((with_reducible apply wpList_load_arr rfl 78 _ rfl _ rfl 4 76 Try.underlying78 info78); (repeat (first | (refine heap_at _ _ _ ?_; ((try simp only [plus_size, World.size_alloc, World.size_drew, World.size_setCell, size_setRow, World.heap_drewN, List.length_append]) <;> omega)) | (refine heap_past' ?_ ?_; ((try simp only [plus_size, World.size_alloc, World.size_drew, World.size_setCell, size_setRow, World.heap_drewN, List.length_append]) <;> omega)) | (refine heap_plus' ?_ ?_; ((try simp only [plus_size, World.size_alloc, World.size_drew, World.size_setCell, size_setRow, World.heap_drewN, List.length_append]) <;> omega)) | assumption)); (simp only [arrF_size, arrO_size]))
                                        | ((with_reducible apply wpList_store_arr rfl rfl 78 _ _ rfl _ rfl _ rfl 4 info78); (repeat (first | (refine heap_at _ _ _ ?_; ((try simp only [plus_size, World.size_alloc, World.size_drew, World.size_setCell, size_setRow, World.heap_drewN, List.length_append]) <;> omega)) | (refine heap_past' ?_ ?_; ((try simp only [plus_size, World.size_alloc, World.size_drew, World.size_setCell, size_setRow, World.heap_drewN, List.length_append]) <;> omega)) | (refine heap_plus' ?_ ?_; ((try simp only [plus_size, World.size_alloc, World.size_drew, World.size_setCell, size_setRow, World.heap_drewN, List.length_append]) <;> omega)) | assumption)); (simp only [arrF_size, arrO_size]); (simp only [arrF_size, arrO_size]); (first | exact arrF_one _ _ _ | exact arrO_one _ _); (repeat (first | (refine setRow_at' ?_; ((try simp only [plus_size, World.size_alloc, World.size_drew, World.size_setCell, size_setRow, World.heap_drewN, List.length_append]) <;> omega)) | (apply setRow_past'; ((try simp only [plus_size, World.size_alloc, World.size_drew, World.size_setCell, size_setRow, World.heap_drewN, List.length_append]) <;> omega)) | (apply setRow_plus'; ((try simp only [plus_size, World.size_alloc, World.size_drew, World.size_setCell, size_setRow, World.heap_drewN, List.length_append]) <;> omega)) | exact rfl))))
      exact ret_arr rfl 4 76 Try.underlying78 info78 _ _ _ (0, 0) rfl (setRow_heap _ _ _ (arrF .u64 4 (wrd (x - y))) _ _ h4) (by simp [arrF_size]) rfl ⟨rfl, (show Below w.heap.size w (plus ((w.alloc (.cells (arrF .u64 4 (wrd x)) 78)).alloc (.cells (arrF .u64 4 (wrd y)) 78)) j d) by (repeat (first | (with_reducible exact Below.refl _ _) | (with_reducible assumption) | (with_reducible refine below_plus' ?_ ?_; ((try simp only [plus_size, World.size_alloc, World.size_drew, World.size_setCell, size_setRow, World.heap_drewN, List.length_append]) <;> omega)) | (with_reducible refine below_alloc' ?_ ?_; ((try simp only [plus_size, World.size_alloc, World.size_drew, World.size_setCell, size_setRow, World.heap_drewN, List.length_append]) <;> omega)) | with_reducible refine Below.drew ?_ | (with_reducible refine below_drewN' ?_ _) | exact Below.refl _ _))).trans ⟨rfl, rfl, rfl, by simp, fun k hk => setRow_other _ _ k _ (by omega)⟩⟩
end Go.Proofs.Ytikakoclmmmjdaa
