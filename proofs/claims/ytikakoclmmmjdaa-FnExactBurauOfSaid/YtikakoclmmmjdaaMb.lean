/- Words that serve all later texts: several texts in one. Conditions: as each theorem says. -/
import Derived.Test.YtikakoclmmmjdaaMa
import Derived.Laws.Externs
import Derived.OneCell
import Derived.Deep.Cut
import Derived.Deep.CutRange
import Derived.Deep.RegionWith
import Derived.Laws.StructEq
import Derived.Stop.BytesEq
import Derived.BigRegion
namespace Go.Proofs.Ytikakoclmmmjdaa
open Go.RowKit
set_option linter.unusedSimpArgs false
set_option linter.unusedVariables false
/-- x divided i times by 2^64 -/
def qt (x : Int) : Nat → Int
  | 0 => x
  | i + 1 => qt x i / 18446744073709551616
/-- the words of x -/
def wrd (x : Int) (i : Nat) : Int := qt x i % 18446744073709551616
theorem wrd_lt (x : Int) (i : Nat) : 0 ≤ wrd x i ∧ wrd x i < 18446744073709551616 := by unfold wrd; omega
theorem qt_add {x y c : Int} {i : Nat} (h : qt (x + y) i = qt x i + qt y i + c) : qt (x + y) (i + 1) = qt x (i + 1) + qt y (i + 1) + (wrd x i + wrd y i + c) / 18446744073709551616 ∧ wrd (x + y) i = (wrd x i + wrd y i + c) % 18446744073709551616 := by
  simp only [qt, wrd, h]
  constructor <;> omega
/-- the first i words of x; noughts behind them -/
def wrdK (x : Int) (k : Nat) : Nat → Int := fun i => if i < k then wrd x i else 0
theorem wrdK_zero (x : Int) : wrdK x 0 = zeroF := by funext i; simp [wrdK, zeroF]
theorem wrdK_succ (x : Int) (k : Nat) : upd (wrdK x k) k (wrd x k) = wrdK x (k + 1) := by
  funext i
  unfold upd wrdK
  by_cases h : i = k
  · subst h; simp
  · by_cases h2 : i < k
    · have : i < k + 1 := by omega
      simp [h, h2, this]
    · have : ¬ i < k + 1 := by omega
      simp [h, h2, this]
theorem wrdK_four (x : Int) : arrF .u64 4 (wrdK x 4) = arrF .u64 4 (wrd x) := arrF_ext fun i hi => by simp [wrdK, hi]
theorem qt_small {x : Int} (h1 : -9223372036854775808 ≤ x) (h2 : x < 9223372036854775808) : ∀ i, qt x (i + 1) = if x < 0 then -1 else 0 := by
  intro i
  induction i with
  | zero => simp only [qt]; split <;> omega
  | succ i ih => rw [qt, ih]; split <;> omega
theorem wrd_small {x : Int} (h1 : -9223372036854775808 ≤ x) (h2 : x < 9223372036854775808) (i : Nat) : wrd x (i + 1) = if x < 0 then 18446744073709551615 else 0 := by
  unfold wrd
  rw [qt_small h1 h2]
  split <;> rfl
theorem wrd_zero (i : Nat) : wrd 0 i = 0 := by
  cases i with
  | zero => rfl
  | succ i => rw [wrd_small (by decide) (by decide)]; rfl
/-- the words tell the number -/
theorem wrd_inj {x y : Int} (hx1 : -57896044618658097711785492504343953926634992332820282019728792003956564819968 ≤ x) (hx2 : x < 57896044618658097711785492504343953926634992332820282019728792003956564819968)
    (hy1 : -57896044618658097711785492504343953926634992332820282019728792003956564819968 ≤ y) (hy2 : y < 57896044618658097711785492504343953926634992332820282019728792003956564819968) (h : ∀ i, i < 4 → wrd x i = wrd y i) : x = y := by
  have h0 := h 0 (by decide)
  have h1 := h 1 (by decide)
  have h2 := h 2 (by decide)
  have h3 := h 3 (by decide)
  simp only [wrd, qt] at h0 h1 h2 h3
  omega
@[go_sem] theorem add64_call (x y c : Int) (hx : 0 ≤ x) (hy : 0 ≤ y) (hc0 : 0 ≤ c) (hc : c ≤ 1) (w : World) : (callFunc 66 #[.int .u64 x, .int .u64 y, .int .u64 c]).run Try.prog w = .ok (.value (.tuple #[.int .u64 ((x + y + c) % 18446744073709551616), .int .u64 ((x + y + c) / 18446744073709551616)])) w := by
  rw [run_callFunc_extern Try.func66 (by kernel_rfl) (by kernel_rfl) (by kernel_rfl) (e := add64Entry) (by kernel_rfl), run_add64 x y c hx hy hc0 hc]
  rfl
end Go.Proofs.Ytikakoclmmmjdaa
namespace Go.Proofs.Ytikakoclmmmjdaa
open Go.RowKit
set_option linter.unusedSimpArgs false
set_option linter.unusedVariables false
/-- a braid in a box: a block of two cells -/
def boxed (w : World) (b : Nat) (T : TypeId) (n : Int) (v : Value) : Prop := w.heap[b]? = some (.cells #[.int .i64 n, v] T)
theorem heap_lt {w : World} {b : Nat} {o : Obj} (h : w.heap[b]? = some o) : b < w.heap.size := by
  rcases Nat.lt_or_ge b w.heap.size with h' | h'
  · exact h'
  · rw [Array.getElem?_eq_none h'] at h; cases h
theorem boxed.lt {w b T n v} (h : boxed w b T n v) : b < w.heap.size := heap_lt h
theorem boxed.c0 {w b T n v} (h : boxed w b T n v) : w.cell? ⟨b, 0, none⟩ = some (.int .i64 n) := by
  unfold boxed at h; simp [World.cell?, h]
theorem boxed.c1 {w b T n v} (h : boxed w b T n v) : w.cell? ⟨b, 1, none⟩ = some v := by
  unfold boxed at h; simp [World.cell?, h]
theorem boxed.kept {w w' b T n v} (h : boxed w b T n v) (hb : Below w.heap.size w w') : boxed w' b T n v := by
  unfold boxed; rw [hb.block b h.lt]; exact h
theorem boxed.grown {w w' b T n v} {row : Option Nat} (h : boxed w b T n v) (hg : w.grownBy w' row) (hne : row ≠ some b) : boxed w' b T n v := by
  unfold boxed; rw [hg.block b h.lt (fun e => hne e.symm)]; exact h
theorem below_of_alloc {w w' : World} {o : Obj} (h : Below (w.alloc o).heap.size (w.alloc o) w') : Below w.heap.size w w' :=
  ((Below.refl _ _).alloc (Nat.le_refl _) o).trans (h.mono (by rw [World.size_alloc]; omega))
theorem reads_built {w : World} {e : TypeId} {b n : Nat} {c : Array Value} {xs : List Int} (hb : b = w.heap.size) (hn : n = xs.length) (hc : c = (xs.map (Value.int .i64)).toArray) : reads (w.alloc (.cells c e)) (.slice (some ⟨b, 0, none⟩) n n) xs := by
  subst hb hn hc
  refine ⟨_, _, rfl, .inr ⟨w.heap.size, 0, rfl, fun i hi => ?_⟩⟩
  simp only [World.cell?, heap_alloc_last]
  simp [nth, hi]
theorem kept_of {w w' : World} {b : Nat} {o : Obj} (h : w.heap[b]? = some o) (hb : Below w.heap.size w w') : w'.heap[b]? = some o := (hb.block b (heap_lt h)).trans h
theorem grown_of {w w' : World} {b : Nat} {o : Obj} {row : Option Nat} (h : w.heap[b]? = some o) (hg : w.grownBy w' row) (hne : row ≠ some b) : w'.heap[b]? = some o := (hg.block b (heap_lt h) (fun e => hne e.symm)).trans h
theorem cell_of {w : World} {b i : Nat} {c : Array Value} {T : TypeId} {fz : Nat × Nat} (h : w.heap[b]? = some (.cells c T fz)) : w.cell? ⟨b, i, none⟩ = c[i]? := by simp [World.cell?, h]
theorem ne_row {o : Option Nat} {b : Nat} (h : ∀ k, o = some k → k ≠ b) : o ≠ some b := fun e => h b e rfl
end Go.Proofs.Ytikakoclmmmjdaa
namespace Go.Proofs.Ytikakoclmmmjdaa
open Go.RowKit
set_option linter.unusedSimpArgs false
set_option linter.unusedVariables false
theorem info78 : (Try.prog.info? 78).map (·.size) = some 4 := by kernel_rfl
@[go_sem] theorem arrF_zero4 (k : IntKind) : (#[.int k 0, .int k 0, .int k 0, .int k 0] : Array Value) = arrF k 4 zeroF := by rfl
theorem cellsF_at {w : World} {b n o : Nat} {T : TypeId} {k : IntKind} {F : Nat → Int} (h : w.heap[b]? = some (.cells (arrF k n F) T)) (ho : o < n) : w.cell? ⟨b, o, none⟩ = some (.int k (F o)) := by
  simp only [World.cell?, h]
  exact arrF_get k n F o ho
theorem cellsF_put {w : World} {b n o : Nat} {T : TypeId} {k : IntKind} {F : Nat → Int} {u : Int} (h : w.heap[b]? = some (.cells (arrF k n F) T)) : (w.setCell ⟨b, o, none⟩ (.int k u)).heap[b]? = some (.cells (arrF k n (upd F o u)) T) := by
  rw [heap_setCell_same w b o _ T _ h, arrF_set]
set_option maxHeartbeats 1000000 in
theorem plus_any (x y : Int) (w : World) : Calls Try.prog 57 #[.agg (arrF .u64 4 (wrd x)), .agg (arrF .u64 4 (wrd y))] w fun e w' => e = .returned (.agg (arrF .u64 4 (wrd (x + y)))) ∧ Below w.heap.size w w' := by
  go_enter Try.func57, Try.ntmps57
  go_wp2_with (first | ((with_reducible apply wpList_store_arr rfl rfl 78 _ _ rfl _ rfl _ rfl 4 info78); (repeat (first | (refine heap_at _ _ _ ?_; ((try simp only [plus_size, World.size_alloc, World.size_drew, World.size_setCell, size_setRow, World.heap_drewN, List.length_append]) <;> omega)) | (refine heap_past' ?_ ?_; ((try simp only [plus_size, World.size_alloc, World.size_drew, World.size_setCell, size_setRow, World.heap_drewN, List.length_append]) <;> omega)) | (refine heap_plus' ?_ ?_; ((try simp only [plus_size, World.size_alloc, World.size_drew, World.size_setCell, size_setRow, World.heap_drewN, List.length_append]) <;> omega)) | assumption)); (simp only [arrF_size, arrO_size]); (simp only [arrF_size, arrO_size]); (first | exact arrF_one _ _ _ | exact arrO_one _ _); (repeat (first | (refine setRow_at' ?_; ((try simp only [plus_size, World.size_alloc, World.size_drew, World.size_setCell, size_setRow, World.heap_drewN, List.length_append]) <;> omega)) | (apply setRow_past'; ((try simp only [plus_size, World.size_alloc, World.size_drew, World.size_setCell, size_setRow, World.heap_drewN, List.length_append]) <;> omega)) | (apply setRow_plus'; ((try simp only [plus_size, World.size_alloc, World.size_drew, World.size_setCell, size_setRow, World.heap_drewN, List.length_append]) <;> omega)) | exact rfl))))
  go_loopw [9, 6] (fun sl sc wr => ∃ (k c : Nat) (j : List Obj) (d : Nat), k ≤ 4 ∧ c ≤ 1 ∧ sl = .int .i64 k ∧ sc = .int .u64 c ∧ qt (x + y) k = qt x k + qt y k + c ∧ wr = plus ((w.alloc (.cells (arrF .u64 4 (wrd x)) 78)).alloc (.cells (arrF .u64 4 (wrd y)) 78)) j d ∧ wr.heap[w.heap.size + 1 + 1]? = some (.cells (arrF .u64 4 zeroF) 78) ∧ wr.heap[w.heap.size + 1 + 1 + 1]? = some (.cells (arrF .u64 4 (wrdK (x + y) k)) 78)) (fun sl _ _ => 4 - (intOf sl).toNat)
  case atStart => exact ⟨0, 0, [.cells (arrF .u64 4 zeroF) 78, .cells (arrF .u64 4 zeroF) 78], w.drawn, by omega, by omega, rfl, rfl, by simp [qt], by first | rfl | simp [plus], by (repeat (first | (refine heap_at _ _ _ ?_; ((try simp only [plus_size, World.size_alloc, World.size_drew, World.size_setCell, size_setRow, World.heap_drewN, List.length_append]) <;> omega)) | (refine heap_past' ?_ ?_; ((try simp only [plus_size, World.size_alloc, World.size_drew, World.size_setCell, size_setRow, World.heap_drewN, List.length_append]) <;> omega)) | (refine heap_plus' ?_ ?_; ((try simp only [plus_size, World.size_alloc, World.size_drew, World.size_setCell, size_setRow, World.heap_drewN, List.length_append]) <;> omega)) | assumption)), by rw [wrdK_zero]; (repeat (first | (refine heap_at _ _ _ ?_; ((try simp only [plus_size, World.size_alloc, World.size_drew, World.size_setCell, size_setRow, World.heap_drewN, List.length_append]) <;> omega)) | (refine heap_past' ?_ ?_; ((try simp only [plus_size, World.size_alloc, World.size_drew, World.size_setCell, size_setRow, World.heap_drewN, List.length_append]) <;> omega)) | (refine heap_plus' ?_ ?_; ((try simp only [plus_size, World.size_alloc, World.size_drew, World.size_setCell, size_setRow, World.heap_drewN, List.length_append]) <;> omega)) | assumption))⟩
  case round =>
    obtain ⟨k, c, j, d, hk, hc, rfl, rfl, hq, rfl, h4, h5⟩ := hrel
    have l4 := lt_of_block h4
    have l5 := lt_of_block h5
    by_cases hlt : k < 4
    · have c5 := cellsF_at h5 (o := k) hlt
      have f5 := frozen_of_row (plus ((w.alloc (.cells (arrF .u64 4 (wrd x)) 78)).alloc (.cells (arrF .u64 4 (wrd y)) 78)) j d) _ k _ 78 h5
      have ha := (wrd_lt x k).1
      have hb := (wrd_lt y k).1
      have hc0 : (0 : Int) ≤ (c : Int) := by omega
      have hc1 : (c : Int) ≤ 1 := by omega
      have hqq := Lib.hid (qt_add hq)
      clear hq
      go_upto_region 5 with (fail)
      go_wp2_with fail
      refine region_ghostW (W := ((w.alloc (.cells (arrF .u64 4 (wrd x)) 78)).alloc (.cells (arrF .u64 4 (wrd y)) 78))) [13] (by kernel_rfl) (by kernel_rfl) (by kernel_rfl) ?_
      repeat (refine wpPlain_step (fun K hK => ?_); go_simp; first | (refine hK _ ?_; clear hK K) | (apply Exists.intro; refine ⟨fun _ => ?_, hK _ ?_⟩; (fail); clear hK K))
      refine wpPlain_nil ?_
      intro j1 d1
      rw [plus_plus]
      have h4' : (plus ((w.alloc (.cells (arrF .u64 4 (wrd x)) 78)).alloc (.cells (arrF .u64 4 (wrd y)) 78)) (j ++ j1) d1).heap[w.heap.size + 1 + 1]? = some (.cells (arrF .u64 4 zeroF) 78) := by
        rw [← plus_plus (d := d)]
        exact kept_of h4 (below_plus (Below.refl _ _) (Nat.le_refl _) j1 d1)
      have h5' : (plus ((w.alloc (.cells (arrF .u64 4 (wrd x)) 78)).alloc (.cells (arrF .u64 4 (wrd y)) 78)) (j ++ j1) d1).heap[w.heap.size + 1 + 1 + 1]? = some (.cells (arrF .u64 4 (wrdK (x + y) k)) 78) := by
        rw [← plus_plus (d := d)]
        exact kept_of h5 (below_plus (Below.refl _ _) (Nat.le_refl _) j1 d1)
      have c5' := cellsF_at h5' (o := k) hlt
      have f5' := frozen_of_row (plus ((w.alloc (.cells (arrF .u64 4 (wrd x)) 78)).alloc (.cells (arrF .u64 4 (wrd y)) 78)) (j ++ j1) d1) _ k _ 78 h5'
      have l5' := lt_of_block h5'
      refine gchain_cons _ rfl ?_
      go_wp2
      obtain ⟨w3, hw3⟩ : ∃ w3, (plus ((w.alloc (.cells (arrF .u64 4 (wrd x)) 78)).alloc (.cells (arrF .u64 4 (wrd y)) 78)) (j ++ j1) d1).setCell ⟨w.heap.size + 1 + 1 + 1, k, none⟩ (.int .u64 ((wrd x k + wrd y k + (c : Int)) % 18446744073709551616)) = w3 := ⟨_, rfl⟩
      have h5'' : w3.heap[w.heap.size + 1 + 1 + 1]? = some (.cells (arrF .u64 4 (wrdK (x + y) (k + 1))) 78) := by
        rw [← hw3, ← wrdK_succ, hqq.out.2]; exact cellsF_put h5'
      have h4'' : w3.heap[w.heap.size + 1 + 1]? = some (.cells (arrF .u64 4 zeroF) 78) := by
        rw [← hw3]; exact (heap_setCell_other _ _ _ _ (show w.heap.size + 1 + 1 ≠ w.heap.size + 1 + 1 + 1 by omega)).trans h4'
      have hW3 : Below ((w.alloc (.cells (arrF .u64 4 (wrd x)) 78)).alloc (.cells (arrF .u64 4 (wrd y)) 78)).heap.size ((w.alloc (.cells (arrF .u64 4 (wrd x)) 78)).alloc (.cells (arrF .u64 4 (wrd y)) 78)) w3 := by
        rw [← hw3]; exact (below_plus (Below.refl _ _) (Nat.le_refl _) _ _).trans (below_of_grown (grownBy_setCell _ _ _ _) (by ((try simp only [plus_size, World.size_alloc, World.size_drew, World.size_setCell, size_setRow, World.heap_drewN, List.length_append]) <;> omega)) (fun q hq => by cases hq; ((try simp only [plus_size, World.size_alloc, World.size_drew, World.size_setCell, size_setRow, World.heap_drewN, List.length_append]) <;> omega)))
      rw [hw3]
      clear hw3
      obtain ⟨ja, da, rfl⟩ := plus_of_below hW3
      refine gExit_normal ⟨.inr (later_of_below hW3), fun j3 d3 => ?_⟩
      have h4 := kept_of h4'' (below_plus (Below.refl _ _) (Nat.le_refl _) j3 d3)
      have h5 := kept_of h5'' (below_plus (Below.refl _ _) (Nat.le_refl _) j3 d3)
      rw [plus_plus] at h4 h5 ⊢
      refine gchain_nil ?_
      go_wp2
      have hx2 := (wrd_lt x k).2
      have hy2 := (wrd_lt y k).2
      go_roundw
      case rel => exact ⟨k + 1, ((wrd x k + wrd y k + (c : Int)) / 18446744073709551616).toNat, _, _, by omega, by omega, by go_num, by rw [Int.toNat_of_nonneg (by omega)], by rw [Int.toNat_of_nonneg (by omega)]; exact hqq.out.1, rfl, h4, h5⟩
      case measure => simp [intOf]; omega
    · obtain rfl : k = 4 := by omega
      rw [wrdK_four] at h5
      go_wp2_with (first | ((with_reducible apply wpList_load_arr rfl 78 _ rfl _ rfl 4 76 Try.underlying78 info78); (repeat (first | (refine heap_at _ _ _ ?_; ((try simp only [plus_size, World.size_alloc, World.size_drew, World.size_setCell, size_setRow, World.heap_drewN, List.length_append]) <;> omega)) | (refine heap_past' ?_ ?_; ((try simp only [plus_size, World.size_alloc, World.size_drew, World.size_setCell, size_setRow, World.heap_drewN, List.length_append]) <;> omega)) | (refine heap_plus' ?_ ?_; ((try simp only [plus_size, World.size_alloc, World.size_drew, World.size_setCell, size_setRow, World.heap_drewN, List.length_append]) <;> omega)) | assumption)); (simp only [arrF_size, arrO_size]))
                                        | ((with_reducible apply wpList_store_arr rfl rfl 78 _ _ rfl _ rfl _ rfl 4 info78); (repeat (first | (refine heap_at _ _ _ ?_; ((try simp only [plus_size, World.size_alloc, World.size_drew, World.size_setCell, size_setRow, World.heap_drewN, List.length_append]) <;> omega)) | (refine heap_past' ?_ ?_; ((try simp only [plus_size, World.size_alloc, World.size_drew, World.size_setCell, size_setRow, World.heap_drewN, List.length_append]) <;> omega)) | (refine heap_plus' ?_ ?_; ((try simp only [plus_size, World.size_alloc, World.size_drew, World.size_setCell, size_setRow, World.heap_drewN, List.length_append]) <;> omega)) | assumption)); (simp only [arrF_size, arrO_size]); (simp only [arrF_size, arrO_size]); (first | exact arrF_one _ _ _ | exact arrO_one _ _); (repeat (first | (refine setRow_at' ?_; ((try simp only [plus_size, World.size_alloc, World.size_drew, World.size_setCell, size_setRow, World.heap_drewN, List.length_append]) <;> omega)) | (apply setRow_past'; ((try simp only [plus_size, World.size_alloc, World.size_drew, World.size_setCell, size_setRow, World.heap_drewN, List.length_append]) <;> omega)) | (apply setRow_plus'; ((try simp only [plus_size, World.size_alloc, World.size_drew, World.size_setCell, size_setRow, World.heap_drewN, List.length_append]) <;> omega)) | exact rfl))))
      exact ret_arr rfl 4 76 Try.underlying78 info78 _ _ _ (0, 0) rfl (setRow_heap _ _ _ (arrF .u64 4 (wrd (x + y))) _ _ h4) (by simp [arrF_size]) rfl ⟨rfl, (show Below w.heap.size w (plus ((w.alloc (.cells (arrF .u64 4 (wrd x)) 78)).alloc (.cells (arrF .u64 4 (wrd y)) 78)) j d) by (repeat (first | (with_reducible exact Below.refl _ _) | (with_reducible assumption) | (with_reducible refine below_plus' ?_ ?_; ((try simp only [plus_size, World.size_alloc, World.size_drew, World.size_setCell, size_setRow, World.heap_drewN, List.length_append]) <;> omega)) | (with_reducible refine below_alloc' ?_ ?_; ((try simp only [plus_size, World.size_alloc, World.size_drew, World.size_setCell, size_setRow, World.heap_drewN, List.length_append]) <;> omega)) | with_reducible refine Below.drew ?_ | (with_reducible refine below_drewN' ?_ _) | exact Below.refl _ _))).trans ⟨rfl, rfl, rfl, by simp, fun k hk => setRow_other _ _ k _ (by omega)⟩⟩
end Go.Proofs.Ytikakoclmmmjdaa
namespace Go.Proofs.Ytikakoclmmmjdaa
open Go.RowKit
set_option linter.unusedSimpArgs false
set_option linter.unusedVariables false
@[go_sem] theorem arrF_first4 (k : IntKind) (a : Int) : (#[.int k a, .int k 0, .int k 0, .int k 0] : Array Value) = arrF k 4 (upd zeroF 0 a) := by
  apply Array.ext'
  simp [arrF, upd, zeroF, List.range_succ]
@[go_sem] theorem upd_zeroF : upd zeroF 0 0 = zeroF := by
  funext i
  unfold upd zeroF
  split <;> rfl
set_option maxHeartbeats 1000000 in
theorem wideOf_any (x : Int) (w : World) (h1 : -9223372036854775808 ≤ x) (h2 : x < 9223372036854775808) : Calls Try.prog 59 #[.int .i64 x] w fun e w' => e = .returned (.agg (arrF .u64 4 (wrd x))) ∧ Below w.heap.size w w' := by
  go_enter Try.func59, Try.ntmps59
  go_wp2_with (first | ((with_reducible apply wpList_store_arr rfl rfl 78 _ _ rfl _ rfl _ rfl 4 info78); (repeat (first | (refine heap_at _ _ _ ?_; ((try simp only [plus_size, World.size_alloc, World.size_drew, World.size_setCell, size_setRow, World.heap_drewN, List.length_append]) <;> omega)) | (refine heap_past' ?_ ?_; ((try simp only [plus_size, World.size_alloc, World.size_drew, World.size_setCell, size_setRow, World.heap_drewN, List.length_append]) <;> omega)) | (refine heap_plus' ?_ ?_; ((try simp only [plus_size, World.size_alloc, World.size_drew, World.size_setCell, size_setRow, World.heap_drewN, List.length_append]) <;> omega)) | assumption)); (simp only [arrF_size, arrO_size]); (simp only [arrF_size, arrO_size]); (first | exact arrF_one _ _ _ | exact arrO_one _ _); (repeat (first | (refine setRow_at' ?_; ((try simp only [plus_size, World.size_alloc, World.size_drew, World.size_setCell, size_setRow, World.heap_drewN, List.length_append]) <;> omega)) | (apply setRow_past'; ((try simp only [plus_size, World.size_alloc, World.size_drew, World.size_setCell, size_setRow, World.heap_drewN, List.length_append]) <;> omega)) | (apply setRow_plus'; ((try simp only [plus_size, World.size_alloc, World.size_drew, World.size_setCell, size_setRow, World.heap_drewN, List.length_append]) <;> omega)) | exact rfl))))
  all_goals
    refine ret_arr rfl 4 76 Try.underlying78 info78 _ _ _ (0, 0) rfl (by (repeat (first | (refine heap_at _ _ _ ?_; ((try simp only [plus_size, World.size_alloc, World.size_drew, World.size_setCell, size_setRow, World.heap_drewN, List.length_append]) <;> omega)) | (refine heap_past' ?_ ?_; ((try simp only [plus_size, World.size_alloc, World.size_drew, World.size_setCell, size_setRow, World.heap_drewN, List.length_append]) <;> omega)) | (refine heap_plus' ?_ ?_; ((try simp only [plus_size, World.size_alloc, World.size_drew, World.size_setCell, size_setRow, World.heap_drewN, List.length_append]) <;> omega)) | assumption))) (by simp [arrF_size]) rfl ⟨congrArg (fun c => Ending.returned (.agg c)) (arrF_ext fun i hi => ?_), by (repeat (first | (with_reducible exact Below.refl _ _) | (with_reducible assumption) | (with_reducible refine below_plus' ?_ ?_; ((try simp only [plus_size, World.size_alloc, World.size_drew, World.size_setCell, size_setRow, World.heap_drewN, List.length_append]) <;> omega)) | (with_reducible refine below_alloc' ?_ ?_; ((try simp only [plus_size, World.size_alloc, World.size_drew, World.size_setCell, size_setRow, World.heap_drewN, List.length_append]) <;> omega)) | with_reducible refine Below.drew ?_ | (with_reducible refine below_drewN' ?_ _) | exact Below.refl _ _))⟩
    have hz := wrd_small h1 h2
    match i, hi with
    | 0, _ => simp [upd, zeroF, wrd, qt, IntKind.wrap, IntKind.min, IntKind.max, IntKind.bits, IntKind.signed]; try omega
    | 1, _ => rw [hz 0]; simp [upd, zeroF, *]
    | 2, _ => rw [hz 1]; simp [upd, zeroF, *]
    | 3, _ => rw [hz 2]; simp [upd, zeroF, *]
end Go.Proofs.Ytikakoclmmmjdaa
namespace Go.Proofs.Ytikakoclmmmjdaa
open Go.RowKit
set_option linter.unusedSimpArgs false
set_option linter.unusedVariables false
/-- two arrays of numbers: are they equal? -/
theorem run_equalIn_arrF {P : Program} (w : World) (d : Nat) (t e : TypeId) (n : Nat) (k : IntKind) (ht : P.underlying t = some (.array n e)) (he : P.underlying e = some (.int k)) (hsz : ∀ w, (sizeOf e).run P w = .ok 1 w) (F G : Nat → Int) :
    (Op.equalIn (d + 2) t (.agg (arrF k n F)) (.agg (arrF k n G))).run P w = .ok ((List.range n).all fun i => F i == G i) w := by
  rw [List.range_eq_range', Op.equalIn]
  simp only [Sem.run_bind, run_underlying ht, Result.andThen_ok, hsz, Std.Legacy.Range.forIn_eq_forIn_range', Std.Legacy.Range.size, Nat.sub_zero, Nat.add_sub_cancel, Nat.div_one]
  have hl : ∀ i ∈ List.range' 0 n 1, i < n := fun i hi => by simpa using (List.mem_range'_1.1 hi).2
  generalize List.range' 0 n 1 = l at hl ⊢
  induction l with
  | nil => simp
  | cons i l ih =>
    have hi : i < n := hl i (by simp)
    have px : ∀ H : Nat → Int, (part e (arrF k n H) (i * 1)).run P w = .ok (.int k (H i)) w := fun H => by
      simp [part, isAgg, run_underlying he, arrF_get k n H i hi]
    have pe := run_equalIn_int (P := P) w d e k k (F i) (G i) he
    have ih' := ih (fun j hj => hl j (List.mem_cons_of_mem _ hj))
    simp only [List.forIn'_cons, List.forIn_cons, Sem.run_bind, px, Result.andThen_ok, pe, List.all_cons]
    cases hb : (F i == G i) with
    | false => simp
    | true => simpa using ih'
theorem eql_arrF {P : Program} (w : World) (t e : TypeId) (n : Nat) (k : IntKind) (ht : P.underlying t = some (.array n e)) (he : P.underlying e = some (.int k)) (hsz : ∀ w, (sizeOf e).run P w = .ok 1 w) (F G : Nat → Int) :
    (binOp .eql t (.agg (arrF k n F)) (.agg (arrF k n G))).run P w = .ok (.bool ((List.range n).all fun i => F i == G i)) w := by
  rw [run_eql_struct, run_equalIn_arrF w 9998 t e n k ht he hsz F G]
  rfl
end Go.Proofs.Ytikakoclmmmjdaa
namespace Go.Proofs.Ytikakoclmmmjdaa
open Go.RowKit
set_option linter.unusedSimpArgs false
set_option linter.unusedVariables false
theorem wrap_wrd0 (x : Int) : wrap64 (wrd x 0) = wrap64 x := by
  simp only [wrap64, wrd, qt]
  omega
theorem wrap_fits (x : Int) : -9223372036854775808 ≤ wrap64 x ∧ wrap64 x < 9223372036854775808 := by
  unfold wrap64; omega
/-- does it fit into 64 bits? -/
def fitB (x : Int) : Bool := decide (-9223372036854775808 ≤ x ∧ x < 9223372036854775808)
theorem small_eq {x : Int} (h1 : -57896044618658097711785492504343953926634992332820282019728792003956564819968 ≤ x) (h2 : x < 57896044618658097711785492504343953926634992332820282019728792003956564819968) : ((List.range 4).all fun i => wrd (wrap64 x) i == wrd x i) = fitB x := by
  have hf := wrap_fits x
  rw [Bool.eq_iff_iff]
  simp only [List.all_eq_true, List.mem_range, beq_iff_eq, fitB, decide_eq_true_eq]
  constructor
  · intro h
    have e := wrd_inj (by omega) (by omega) h1 h2 h
    omega
  · intro h i hi
    rw [show wrap64 x = x by unfold wrap64; omega]
end Go.Proofs.Ytikakoclmmmjdaa
namespace Go.Proofs.Ytikakoclmmmjdaa
open Go.RowKit
set_option linter.unusedSimpArgs false
set_option linter.unusedVariables false
@[go_sem] theorem arrF_wrd4 (x : Int) : (#[.int .u64 (wrd x 0), .int .u64 (wrd x 1), .int .u64 (wrd x 2), .int .u64 (wrd x 3)] : Array Value) = arrF .u64 4 (wrd x) := by
  apply Array.ext'
  simp [arrF, List.range_succ]
set_option maxHeartbeats 1000000 in
theorem small_any (x : Int) (w : World) (h1 : -57896044618658097711785492504343953926634992332820282019728792003956564819968 ≤ x) (h2 : x < 57896044618658097711785492504343953926634992332820282019728792003956564819968) : Calls Try.prog 60 #[.agg (arrF .u64 4 (wrd x))] w fun e w' => e = .returned (.tuple #[.int .i64 (wrap64 x), .bool (fitB x)]) ∧ Below w.heap.size w w' := by
  have hE := eql_arrF (P := Try.prog) (t := 78) (e := 76) (n := 4) (k := .u64) (ht := Try.underlying78) (he := Try.underlying76) (hsz := fun w => by simp [Try.sizeOf76]) (F := wrd (wrap64 x)) (G := wrd x)
  rw [small_eq h1 h2] at hE
  have hw0 := wrap_wrd0 x
  have hf := wrap_fits x
  have hlo := (wrd_lt x 0).1
  have hhi := (wrd_lt x 0).2
  clear h1 h2
  go_enter Try.func60, Try.ntmps60
  go_upto_region 2 with (fail)
  rw [hw0]
  refine region_plus (by kernel_rfl) (by kernel_rfl) ?_
  repeat (go_big_quiet_step (first | (go_at_call 59; exact calls_plus (wideOf_any _ _ hf.1 hf.2))))
  refine wpQuiet_nil ?_
  intro _ hw'
  obtain ⟨q, hw''⟩ := hw'
  subst hw''
  rw [plusq_eq]
  generalize q.j = j
  generalize q.d = d
  clear q
  go_wp2
  go_ret2
  exact ⟨rfl, by (repeat (first | (with_reducible exact Below.refl _ _) | (with_reducible assumption) | (with_reducible refine below_plus' ?_ ?_; ((try simp only [plus_size, World.size_alloc, World.size_drew, World.size_setCell, size_setRow, World.heap_drewN, List.length_append]) <;> omega)) | (with_reducible refine below_alloc' ?_ ?_; ((try simp only [plus_size, World.size_alloc, World.size_drew, World.size_setCell, size_setRow, World.heap_drewN, List.length_append]) <;> omega)) | with_reducible refine Below.drew ?_ | (with_reducible refine below_drewN' ?_ _) | exact Below.refl _ _))⟩
end Go.Proofs.Ytikakoclmmmjdaa
namespace Go.Proofs.Ytikakoclmmmjdaa
open Go.RowKit
set_option linter.unusedSimpArgs false
set_option linter.unusedVariables false
/-- the cells of a list of wide numbers -/
def wcells (xs : List Int) : List Value := xs.flatMap fun x => [.int .u64 (wrd x 0), .int .u64 (wrd x 1), .int .u64 (wrd x 2), .int .u64 (wrd x 3)]
theorem wcells_length (xs : List Int) : (wcells xs).length = 4 * xs.length := by
  induction xs with
  | nil => rfl
  | cons x xs ih => simp [wcells] at ih ⊢; omega
theorem wcells_append (xs ys : List Int) : wcells (xs ++ ys) = wcells xs ++ wcells ys := by simp [wcells]
theorem wcells_at {xs : List Int} {i j : Nat} (hi : i < xs.length) (hj : j < 4) : (wcells xs)[4 * i + j]? = some (.int .u64 (wrd (nth xs i) j)) := by
  induction xs generalizing i with
  | nil => cases hi
  | cons x xs ih =>
    have hc : wcells (x :: xs) = [.int .u64 (wrd x 0), .int .u64 (wrd x 1), .int .u64 (wrd x 2), .int .u64 (wrd x 3)] ++ wcells xs := rfl
    rw [hc]
    cases i with
    | zero =>
      match j, hj with
      | 0, _ => rfl
      | 1, _ => rfl
      | 2, _ => rfl
      | 3, _ => rfl
    | succ i =>
      rw [List.getElem?_append_right (by simp; omega)]
      have e : 4 * (i + 1) + j - [Value.int .u64 (wrd x 0), .int .u64 (wrd x 1), .int .u64 (wrd x 2), .int .u64 (wrd x 3)].length = 4 * i + j := by simp; omega
      rw [e, ih (by simpa using hi)]
      rfl
/-- a list of wide numbers of the call's own -/
def ownW (e : TypeId) (w : World) (B : Nat) (v : Value) (xs : List Int) : Prop := w.ownsRow B e 4 v xs.length (wcells xs)
/-- .. that is only read -/
def readsW (w : World) (v : Value) (xs : List Int) : Prop :=
  ∃ a cap, v = .slice a xs.length cap ∧ (xs = [] ∨ ∃ b o, a = some ⟨b, o, none⟩ ∧ ∀ i, i < xs.length → ∀ j, j < 4 → w.cell? ⟨b, o + 4 * i + j, none⟩ = some (.int .u64 (wrd (nth xs i) j)))
theorem ownW_nil (e : TypeId) (w : World) (B : Nat) : ownW e w B (.slice none 0 0) [] := World.ownsRow_nil w B e 4
theorem ownW.kept {e : TypeId} {w w' : World} {B : Nat} {v : Value} {xs : List Int} (h : ownW e w B v xs) (hb : Below w.heap.size w w') : ownW e w' B v xs := by
  refine World.ownsRow.kept (row := none) h ⟨hb.os, hb.tape, hb.output, hb.size, fun k hk _ => hb.block k hk⟩ ?_
  cases v.ownBlock <;> simp
theorem ownW.lt {e : TypeId} {w : World} {B : Nat} {v : Value} {xs : List Int} (h : ownW e w B v xs) : ∀ k, v.ownBlock = some k → B ≤ k ∧ k < w.heap.size := World.ownsRow.lt h
theorem ownW.reads {e : TypeId} {w : World} {B : Nat} {v : Value} {xs : List Int} (h : ownW e w B v xs) : readsW w v xs := by
  rcases h.2 with ⟨rfl, hn⟩ | ⟨g, cap, cur, rfl, _⟩
  · exact ⟨none, 0, by rw [hn], .inl (List.eq_nil_of_length_eq_zero hn)⟩
  · refine ⟨_, cap, rfl, .inr ⟨g, 0, rfl, fun i hi j hj => ?_⟩⟩
    have := World.ownsRow.cells h (g := g) rfl (4 * i + j) _ (wcells_at hi hj)
    have e : (⟨g, 0, none⟩ : Addr).add (4 * i + j) = ⟨g, 0 + (4 * i + j), none⟩ := by unfold Addr.add; split <;> simp_all
    rw [e] at this
    rw [show 0 + 4 * i + j = 0 + (4 * i + j) by omega]
    exact this
theorem readsW.kept {w w' : World} {v : Value} {xs : List Int} (h : readsW w v xs) (hb : Below w.heap.size w w') : readsW w' v xs := by
  obtain ⟨a, cap, hv, h⟩ := h
  refine ⟨a, cap, hv, ?_⟩
  rcases h with h | ⟨b, o, ha, hc⟩
  · exact .inl h
  · refine .inr ⟨b, o, ha, fun i hi j hj => ?_⟩
    have h1 := hc i hi j hj
    rw [hb.cell (p := ⟨b, o + 4 * i + j, none⟩) (World.block_lt_of_cell? w _ h1)]
    exact h1
end Go.Proofs.Ytikakoclmmmjdaa
namespace Go.Proofs.Ytikakoclmmmjdaa
open Go.RowKit
set_option linter.unusedSimpArgs false
set_option linter.unusedVariables false
open Go.RowKit
/-- one wide number is appended to a list of the call's own -/
theorem wpList_appendWide {P : Program} {ops : Array Oper} {rest : List Oper} {o : Oper} {a : Act} {w : World} {Q : Exit → Act → World → Prop} (hgd : o.guard = none) (s x : Operand) (t : TypeId)
    (ho : o.op = .call { callee := .builtin .append, args := #[s, x], argTypes := #[t, t] }) (e : TypeId) (z : Value) (ht : P.underlying t = some (.slice e)) (hi : (P.info? e).map (fun i => (i.zero, i.size, i.bytes)) = some (some z, 4, 32)) (hz : z.cells.size = 4)
    (B : Nat) (v : Value) (xs : List Int) (hs : a.eval s = v) (b c : Nat) (hx : a.eval x = .slice (some ⟨b, 0, none⟩) 1 c) (u : Int) (hu : ∀ j, j < 4 → w.cell? ⟨b, j, none⟩ = some (.int .u64 (wrd u j)))
    (hown : ownW e w B v xs) (hlen : xs.length < 1000000000) (hB : B ≤ w.heap.size)
    (h : ∀ v' w', ownW e w' B v' (xs ++ [u]) → Below B w w' → w.grownBy w' v.ownBlock → wpList P ops Q rest (a.put o.dst v') w') : wpList P ops Q (o :: rest) a w := by
  obtain ⟨i, h1, h2, h3, h4⟩ := info_parts hi
  refine wpList_append_own w hgd s x t ho B e i z 4 32 ht h1 h2 h3 h4 hz (by decide) v _ _ hs hown ⟨b, 0, none⟩ 1 c (wcells [u]) hx (by simp [wcells]) ?_ ?_ (by unfold maxLen; omega) (by omega) hB ?_
  · intro j y hj
    have hj4 : j < 4 := by
      rcases Nat.lt_or_ge j 4 with h' | h'
      · exact h'
      · rw [List.getElem?_eq_none (by simp [wcells]; omega)] at hj; cases hj
    have e1 := wcells_at (xs := [u]) (i := 0) (j := j) (by simp) hj4
    rw [Nat.mul_zero, Nat.zero_add] at e1
    rw [e1] at hj
    cases hj
    have e2 : (⟨b, 0, none⟩ : Addr).add j = ⟨b, 0 + j, none⟩ := by unfold Addr.add; split <;> simp_all
    rw [e2, Nat.zero_add]
    exact hu j hj4
  · intro y hy
    simp [wcells] at hy
    rcases hy with rfl | rfl | rfl | rfl <;> rfl
  · intro v' w' h5 h6 _
    refine h v' w' ?_ (below_of_grown h6 hB fun k hk => (hown.lt k hk).1) h6
    unfold ownW
    rw [wcells_append]
    simpa using h5
end Go.Proofs.Ytikakoclmmmjdaa
namespace Go.Proofs.Ytikakoclmmmjdaa
open Go.RowKit
set_option linter.unusedSimpArgs false
set_option linter.unusedVariables false
open Go.RowKit
theorem ownW_plus {e : TypeId} {W : World} {j j' : List Obj} {d d' B : Nat} {v : Value} {xs : List Int} (h : ownW e (plus W j d) B v xs) : ownW e (plus W (j ++ j') d') B v xs := by
  rw [← plus_plus (d := d)]
  exact h.kept (below_plus (Below.refl _ _) (Nat.le_refl _) j' d')
theorem ownW.mono {e : TypeId} {w : World} {B B' : Nat} {v : Value} {xs : List Int} (h : ownW e w B v xs) (hB : B' ≤ B) : ownW e w B' v xs := by
  obtain ⟨h1, h2⟩ := h
  refine ⟨h1, ?_⟩
  rcases h2 with h2 | ⟨g, cap, cur, hv, hg, r⟩
  · exact .inl h2
  · exact .inr ⟨g, cap, cur, hv, Nat.le_trans hB hg, r⟩
theorem ownW_swap {e : TypeId} {X Y : World} {B : Nat} {j : List Obj} {d d' : Nat} {v : Value} {xs : List Int} (hs : X.heap.size = Y.heap.size) (hB : X.heap.size ≤ B) (h : ownW e (plus X j d) B v xs) : ownW e (plus Y j d') B v xs := by
  obtain ⟨h1, h2⟩ := h
  refine ⟨h1, ?_⟩
  rcases h2 with h2 | ⟨g, cap, cur, hv, hg, hh, r⟩
  · exact .inl h2
  · refine .inr ⟨g, cap, cur, hv, hg, ?_, r⟩
    rw [← hh]
    show (Y.heap ++ j.toArray)[g]? = (X.heap ++ j.toArray)[g]?
    rw [Array.getElem?_append_right (by omega), Array.getElem?_append_right (by omega), hs]
theorem take_snoc {xs : List Int} {k : Nat} (h : k < xs.length) : xs.take k ++ [nth xs k] = xs.take (k + 1) := by
  rw [List.take_add_one, List.getElem?_eq_getElem h]
  simp [nth, h]
theorem infoW : (Try.prog.info? 78).map (fun i => (i.zero, i.size, i.bytes)) = some (some (.agg (arrF .u64 4 zeroF)), 4, 32) := by kernel_rfl
set_option maxHeartbeats 2000000 in
theorem polyOf_any (low : Int) (v : Value) (xs : List Int) (w : World) (h : reads w v xs) (hlen : xs.length ≤ 3000) (hfit : Fits xs) : Calls Try.prog 38 #[.agg #[.int .i64 low, v]] w fun e w' => ∃ v', e = .returned (.agg #[.int .i64 low, v']) ∧ Below w.heap.size w w' ∧ ownW 78 w' w.heap.size v' xs := by
  obtain ⟨a, c, rfl, h⟩ := h
  have Hr := Lib.hid (show 0 < xs.length → ∃ b o, a = some ⟨b, o, none⟩ ∧ b < w.heap.size ∧ ∀ i, i < xs.length → w.cell? ⟨b, o + i, none⟩ = some (.int .i64 (nth xs i)) from fun hp => by
    rcases h with h | ⟨b, o, rfl, m⟩
    · rw [h] at hp; cases hp
    · exact ⟨b, o, rfl, World.block_lt_of_cell? w _ (m 0 hp), m⟩)
  clear h
  have Hf := Lib.hid (fun k (hk : k < xs.length) => fits_nth hfit hk)
  clear hfit
  go_enter Try.func38, Try.ntmps38
  go_wp2
  go_loopw [12] (fun sl wr => ∃ (vo : Value) (l : List Int) (k : Nat) (j : List Obj) (d : Nat), Hid (l = xs.take k) ∧ k ≤ xs.length ∧ sl = .int .i64 k ∧ wr = plus (((w.alloc (.cells #[.int .i64 low, .slice a xs.length c] 37)).alloc (.cells #[.int .i64 0, .slice none 0 0] 57)).alloc (.cells #[.int .i64 low, vo] 57)) j d ∧ ownW 78 (plus (((w.alloc (.cells #[.int .i64 low, .slice a xs.length c] 37)).alloc (.cells #[.int .i64 0, .slice none 0 0] 57)).alloc (.cells #[.int .i64 low, vo] 57)) j d) (((w.alloc (.cells #[.int .i64 low, .slice a xs.length c] 37)).alloc (.cells #[.int .i64 0, .slice none 0 0] 57)).alloc (.cells #[.int .i64 low, vo] 57)).heap.size vo l) (fun sl _ => xs.length - (intOf sl).toNat)
  case atStart => exact ⟨_, [], 0, [], w.drawn, Lib.hid rfl, by omega, rfl, (plus_nil _).symm, ownW_nil _ _ _⟩
  case round =>
    obtain ⟨vo, l, k, j, d, HLl, hk, rfl, rfl, hown⟩ := hrel
    obtain ⟨ao, co, rfl, hs⟩ := id hown.reads
    clear hs
    by_cases hlt : k < xs.length
    · obtain ⟨b, o, rfl, hbk, mm⟩ := Hr.out (by omega)
      have g1 := mm k hlt
      have hf1 := (Hf.out k hlt).1
      have hf2 := (Hf.out k hlt).2
      have hll : l.length < 1000000000 := by have := congrArg List.length HLl.out; simp at this; omega
      have hb3 : b < w.heap.size + 1 + 1 + 1 := by omega
      have hb1 : b < w.heap.size + 1 := by omega
      have hb2 : b < w.heap.size + 1 + 1 := by omega
      have HBx := Lib.hid (show l ++ [nth xs k] = xs.take (k + 1) by rw [HLl.out, take_snoc hlt])
      clear mm Hr
      go_wp2
      refine region_ghostW (W := (((w.alloc (.cells #[.int .i64 low, .slice (some ⟨b, o, none⟩) xs.length c] 37)).alloc (.cells #[.int .i64 0, .slice none 0 0] 57)).alloc (.cells #[.int .i64 low, .slice ao l.length co] 57))) [4, 5, 7] (by kernel_rfl) (by kernel_rfl) (by kernel_rfl) ?_
      repeat (refine wpPlain_step (fun K hK => ?_); go_simp; first | (refine hK _ ?_; clear hK K) | (apply Exists.intro; refine ⟨fun _ => ?_, hK _ ?_⟩; (go_at_call 59; refine Calls.mono (wideOf_any _ _ hf1 hf2) ?_; rintro e w'' ⟨he, hB⟩; exact ⟨he, hB⟩); clear hK K))
      refine wpPlain_nil ?_
      intro j1 d1
      rw [plus_plus]
      have hown1 := ownW_plus (j' := j1) (d' := d1) hown
      refine gchain_cons _ rfl ?_
      go_wp2
      refine gExit_normal ⟨.inr (later_of_below (by (repeat (first | (with_reducible exact Below.refl _ _) | (with_reducible assumption) | (with_reducible refine below_plus' ?_ ?_; ((try simp only [plus_size, World.size_alloc, World.size_drew, World.size_setCell, size_setRow, World.heap_drewN, List.length_append]) <;> omega)) | (with_reducible refine below_alloc' ?_ ?_; ((try simp only [plus_size, World.size_alloc, World.size_drew, World.size_setCell, size_setRow, World.heap_drewN, List.length_append]) <;> omega)) | with_reducible refine Below.drew ?_ | (with_reducible refine below_drewN' ?_ _) | exact Below.refl _ _)))), fun j2 d2 => ?_⟩
      refine gchain_cons _ rfl ?_
      refine wpList_appendWide rfl _ _ 55 rfl 78 _ Try.underlying55 infoW rfl (((w.alloc (.cells #[.int .i64 low, .slice (some ⟨b, o, none⟩) xs.length c] 37)).alloc (.cells #[.int .i64 0, .slice none 0 0] 57)).alloc (.cells #[.int .i64 low, .slice ao l.length co] 57)).heap.size (.slice ao l.length co) l rfl _ 1 rfl (nth xs k) ?_ (hown1.kept (by (repeat (first | (with_reducible exact Below.refl _ _) | (with_reducible assumption) | (with_reducible refine below_plus' ?_ ?_; ((try simp only [plus_size, World.size_alloc, World.size_drew, World.size_setCell, size_setRow, World.heap_drewN, List.length_append]) <;> omega)) | (with_reducible refine below_alloc' ?_ ?_; ((try simp only [plus_size, World.size_alloc, World.size_drew, World.size_setCell, size_setRow, World.heap_drewN, List.length_append]) <;> omega)) | with_reducible refine Below.drew ?_ | (with_reducible refine below_drewN' ?_ _) | exact Below.refl _ _)))) hll (by ((try simp only [plus_size, World.size_alloc, World.size_drew, World.size_setCell, size_setRow, World.heap_drewN, List.length_append]) <;> omega)) ?_
      · intro j hj
        rw [plus_cell _ _ _ _ _ (by ((try simp only [plus_size, World.size_alloc, World.size_drew, World.size_setCell, size_setRow, World.heap_drewN, List.length_append]) <;> omega)), World.cell?_alloc_at _ _ _ _ (by ((try simp only [plus_size, World.size_alloc, World.size_drew, World.size_setCell, size_setRow, World.heap_drewN, List.length_append]) <;> omega))]
        exact arrF_get _ _ _ _ hj
      intro v' w3 hown2 hB _
      go_wp2
      have hW3 : Below (((w.alloc (.cells #[.int .i64 low, .slice (some ⟨b, o, none⟩) xs.length c] 37)).alloc (.cells #[.int .i64 0, .slice none 0 0] 57)).alloc (.cells #[.int .i64 low, .slice ao l.length co] 57)).heap.size (((w.alloc (.cells #[.int .i64 low, .slice (some ⟨b, o, none⟩) xs.length c] 37)).alloc (.cells #[.int .i64 0, .slice none 0 0] 57)).alloc (.cells #[.int .i64 low, .slice ao l.length co] 57)) w3 := Below.trans (by (repeat (first | (with_reducible exact Below.refl _ _) | (with_reducible assumption) | (with_reducible refine below_plus' ?_ ?_; ((try simp only [plus_size, World.size_alloc, World.size_drew, World.size_setCell, size_setRow, World.heap_drewN, List.length_append]) <;> omega)) | (with_reducible refine below_alloc' ?_ ?_; ((try simp only [plus_size, World.size_alloc, World.size_drew, World.size_setCell, size_setRow, World.heap_drewN, List.length_append]) <;> omega)) | with_reducible refine Below.drew ?_ | (with_reducible refine below_drewN' ?_ _) | exact Below.refl _ _))) hB
      obtain ⟨ja, da, rfl⟩ := plus_of_below hW3
      refine gExit_normal ⟨.inr (later_of_below hW3), fun j3 d3 => ?_⟩
      obtain ⟨av, cv, rfl, hs⟩ := id hown2.reads
      clear hs
      have hown3 := ownW_plus (j' := j3) (d' := d3) hown2
      have hL : (l ++ [nth xs k]).length = l.length + 1 := by simp
      rw [hL] at hown3
      clear hL
      rw [plus_plus]
      refine gchain_cons _ rfl ?_
      go_wp2
      refine gExit_normal ⟨.inl (by kernel_rfl), fun j4 d4 => ?_⟩
      refine gchain_nil ?_
      go_wp2
      
      refine ⟨⟨.slice av (l.length + 1) cv, l ++ [nth xs k], k + 1, (ja ++ j3) ++ j4, d4, HBx, by omega, by go_num, by rw [plus_plus], ownW_plus (d := d3) ((ownW_swap (X := (((w.alloc (.cells #[.int .i64 low, .slice (some ⟨b, o, none⟩) xs.length c] 37)).alloc (.cells #[.int .i64 0, .slice none 0 0] 57)).alloc (.cells #[.int .i64 low, .slice ao l.length co] 57))) (Y := (((w.alloc (.cells #[.int .i64 low, .slice (some ⟨b, o, none⟩) xs.length c] 37)).alloc (.cells #[.int .i64 0, .slice none 0 0] 57)).alloc (.cells #[.int .i64 low, .slice av (l.length + 1) cv] 57))) (by ((try simp only [plus_size, World.size_alloc, World.size_drew, World.size_setCell, size_setRow, World.heap_drewN, List.length_append]) <;> omega)) (Nat.le_refl _) hown3).mono (by ((try simp only [plus_size, World.size_alloc, World.size_drew, World.size_setCell, size_setRow, World.heap_drewN, List.length_append]) <;> omega)))⟩, ?_⟩
      simp [intOf]; omega
    · obtain rfl : k = xs.length := by omega
      have HE := Lib.hid (show l = xs by rw [HLl.out, List.take_length])
      go_wp2
      refine bodyPost_ret (v := .agg #[.int .i64 low, .slice ao l.length co]) (by simp [results, Try.results38, go_sem]) rfl ?_
      exact ⟨_, rfl, by (repeat (first | (with_reducible exact Below.refl _ _) | (with_reducible assumption) | (with_reducible refine below_plus' ?_ ?_; ((try simp only [plus_size, World.size_alloc, World.size_drew, World.size_setCell, size_setRow, World.heap_drewN, List.length_append]) <;> omega)) | (with_reducible refine below_alloc' ?_ ?_; ((try simp only [plus_size, World.size_alloc, World.size_drew, World.size_setCell, size_setRow, World.heap_drewN, List.length_append]) <;> omega)) | with_reducible refine Below.drew ?_ | (with_reducible refine below_drewN' ?_ _) | exact Below.refl _ _)), by rw [← HE.out]; exact (ownW_swap (by ((try simp only [plus_size, World.size_alloc, World.size_drew, World.size_setCell, size_setRow, World.heap_drewN, List.length_append]) <;> omega)) (Nat.le_refl _) hown).mono (by ((try simp only [plus_size, World.size_alloc, World.size_drew, World.size_setCell, size_setRow, World.heap_drewN, List.length_append]) <;> omega))⟩
end Go.Proofs.Ytikakoclmmmjdaa
namespace Go.Proofs.Ytikakoclmmmjdaa
open Go.RowKit
set_option linter.unusedSimpArgs false
set_option linter.unusedVariables false
open Go.RowKit
/-- the coefficient of a polynomial at a power -/
def atP (low : Int) (xs : List Int) (k : Int) : Int := if low ≤ k ∧ k < low + xs.length then nth xs (k - low).toNat else 0
theorem atP_out {low : Int} {xs : List Int} {k : Int} (h : inB k low (low + xs.length - 1) = false) : atP low xs k = 0 := by
  unfold atP
  rw [if_neg]
  intro ⟨h1, h2⟩
  have : inB k low (low + xs.length - 1) = true := by simp [inB]; omega
  rw [h] at this; cases this
theorem atP_in {low : Int} {xs : List Int} {i : Nat} (h : i < xs.length) : atP low xs (low + i) = nth xs i := by
  unfold atP
  rw [if_pos (by omega), show (low + i - low).toNat = i by omega]
theorem arr_zero : arrF .u64 4 zeroF = arrF .u64 4 (wrd 0) := arrF_ext fun i _ => (wrd_zero i).symm
set_option maxHeartbeats 1000000 in
theorem at_any (low : Int) (v : Value) (xs : List Int) (k : Int) (w : World) (h : readsW w v xs) (hlen : xs.length ≤ 100000) (hl1 : -100000 ≤ low) (hl2 : low ≤ 100000) (hk1 : -1000000 ≤ k) (hk2 : k ≤ 1000000) : Calls Try.prog 56 #[.agg #[.int .i64 low, v], .int .i64 k] w fun e w' => e = .returned (.agg (arrF .u64 4 (wrd (atP low xs k)))) ∧ Below w.heap.size w w' := by
  obtain ⟨a, c, rfl, hr⟩ := h
  cases hin : inB k low (low + xs.length - 1) with
  | false =>
    rw [atP_out hin, ← arr_zero]
    clear hr
    go_enter Try.func56, Try.ntmps56
    go_wp2_with (first | (go_at_call 61; refine (within_any _ _ _ _).mono ?_; rw [hin]; rintro e w' ⟨rfl, rfl⟩) | ((with_reducible apply wpList_store_arr rfl rfl 78 _ _ rfl _ rfl _ rfl 4 info78); (repeat (first | (refine heap_at _ _ _ ?_; ((try simp only [plus_size, World.size_alloc, World.size_drew, World.size_setCell, size_setRow, World.heap_drewN, List.length_append]) <;> omega)) | (refine heap_past' ?_ ?_; ((try simp only [plus_size, World.size_alloc, World.size_drew, World.size_setCell, size_setRow, World.heap_drewN, List.length_append]) <;> omega)) | (refine heap_plus' ?_ ?_; ((try simp only [plus_size, World.size_alloc, World.size_drew, World.size_setCell, size_setRow, World.heap_drewN, List.length_append]) <;> omega)) | assumption)); (simp only [arrF_size, arrO_size]); (simp only [arrF_size, arrO_size]); (first | exact arrF_one _ _ _ | exact arrO_one _ _); (repeat (first | (refine setRow_at' ?_; ((try simp only [plus_size, World.size_alloc, World.size_drew, World.size_setCell, size_setRow, World.heap_drewN, List.length_append]) <;> omega)) | (apply setRow_past'; ((try simp only [plus_size, World.size_alloc, World.size_drew, World.size_setCell, size_setRow, World.heap_drewN, List.length_append]) <;> omega)) | (apply setRow_plus'; ((try simp only [plus_size, World.size_alloc, World.size_drew, World.size_setCell, size_setRow, World.heap_drewN, List.length_append]) <;> omega)) | exact rfl))))
    exact ret_arr rfl 4 76 Try.underlying78 info78 _ _ _ (0, 0) rfl (by (repeat (first | (refine heap_at _ _ _ ?_; ((try simp only [plus_size, World.size_alloc, World.size_drew, World.size_setCell, size_setRow, World.heap_drewN, List.length_append]) <;> omega)) | (refine heap_past' ?_ ?_; ((try simp only [plus_size, World.size_alloc, World.size_drew, World.size_setCell, size_setRow, World.heap_drewN, List.length_append]) <;> omega)) | (refine heap_plus' ?_ ?_; ((try simp only [plus_size, World.size_alloc, World.size_drew, World.size_setCell, size_setRow, World.heap_drewN, List.length_append]) <;> omega)) | assumption))) (by simp [arrF_size]) rfl ⟨rfl, by (repeat (first | (with_reducible exact Below.refl _ _) | (with_reducible assumption) | (with_reducible refine below_plus' ?_ ?_; ((try simp only [plus_size, World.size_alloc, World.size_drew, World.size_setCell, size_setRow, World.heap_drewN, List.length_append]) <;> omega)) | (with_reducible refine below_alloc' ?_ ?_; ((try simp only [plus_size, World.size_alloc, World.size_drew, World.size_setCell, size_setRow, World.heap_drewN, List.length_append]) <;> omega)) | with_reducible refine Below.drew ?_ | (with_reducible refine below_drewN' ?_ _) | exact Below.refl _ _))⟩
  | true =>
    have hb := inB_true hin
    obtain ⟨i, rfl⟩ : ∃ i : Nat, k = low + i := ⟨(k - low).toNat, by omega⟩
    have hi : i < xs.length := by omega
    obtain ⟨b, q, rfl, mm⟩ := hr.resolve_left (fun e => by rw [e] at hi; simp at hi)
    have hbk : b < w.heap.size := World.block_lt_of_cell? w _ (mm i hi 0 (by decide))
    have c0 := mm i hi 0 (by decide)
    have c1 := mm i hi 1 (by decide)
    have c2 := mm i hi 2 (by decide)
    have c3 := mm i hi 3 (by decide)
    rw [Nat.add_zero] at c0
    rw [Nat.mul_comm] at c0 c1 c2 c3
    rw [atP_in hi]
    have hs : low + (i : Int) - low = i := by omega
    clear mm hr hin
    have hin : inB (low + i) low (low + xs.length - 1) = true := by simp [inB]; omega
    go_enter Try.func56, Try.ntmps56
    go_wp2_with (first | (go_at_call 61; refine (within_any _ _ _ _).mono ?_; rw [hin]; rintro e w' ⟨rfl, rfl⟩) | ((with_reducible apply wpList_store_arr rfl rfl 78 _ _ rfl _ rfl _ rfl 4 info78); (repeat (first | (refine heap_at _ _ _ ?_; ((try simp only [plus_size, World.size_alloc, World.size_drew, World.size_setCell, size_setRow, World.heap_drewN, List.length_append]) <;> omega)) | (refine heap_past' ?_ ?_; ((try simp only [plus_size, World.size_alloc, World.size_drew, World.size_setCell, size_setRow, World.heap_drewN, List.length_append]) <;> omega)) | (refine heap_plus' ?_ ?_; ((try simp only [plus_size, World.size_alloc, World.size_drew, World.size_setCell, size_setRow, World.heap_drewN, List.length_append]) <;> omega)) | assumption)); (simp only [arrF_size, arrO_size]); (simp only [arrF_size, arrO_size]); (first | exact arrF_one _ _ _ | exact arrO_one _ _); (repeat (first | (refine setRow_at' ?_; ((try simp only [plus_size, World.size_alloc, World.size_drew, World.size_setCell, size_setRow, World.heap_drewN, List.length_append]) <;> omega)) | (apply setRow_past'; ((try simp only [plus_size, World.size_alloc, World.size_drew, World.size_setCell, size_setRow, World.heap_drewN, List.length_append]) <;> omega)) | (apply setRow_plus'; ((try simp only [plus_size, World.size_alloc, World.size_drew, World.size_setCell, size_setRow, World.heap_drewN, List.length_append]) <;> omega)) | exact rfl))))
    exact ret_arr rfl 4 76 Try.underlying78 info78 _ _ _ (0, 0) rfl (by (repeat (first | (refine heap_at _ _ _ ?_; ((try simp only [plus_size, World.size_alloc, World.size_drew, World.size_setCell, size_setRow, World.heap_drewN, List.length_append]) <;> omega)) | (refine heap_past' ?_ ?_; ((try simp only [plus_size, World.size_alloc, World.size_drew, World.size_setCell, size_setRow, World.heap_drewN, List.length_append]) <;> omega)) | (refine heap_plus' ?_ ?_; ((try simp only [plus_size, World.size_alloc, World.size_drew, World.size_setCell, size_setRow, World.heap_drewN, List.length_append]) <;> omega)) | assumption))) (by simp [arrF_size]) rfl ⟨rfl, by (repeat (first | (with_reducible exact Below.refl _ _) | (with_reducible assumption) | (with_reducible refine below_plus' ?_ ?_; ((try simp only [plus_size, World.size_alloc, World.size_drew, World.size_setCell, size_setRow, World.heap_drewN, List.length_append]) <;> omega)) | (with_reducible refine below_alloc' ?_ ?_; ((try simp only [plus_size, World.size_alloc, World.size_drew, World.size_setCell, size_setRow, World.heap_drewN, List.length_append]) <;> omega)) | with_reducible refine Below.drew ?_ | (with_reducible refine below_drewN' ?_ _) | exact Below.refl _ _))⟩
end Go.Proofs.Ytikakoclmmmjdaa
namespace Go.Proofs.Ytikakoclmmmjdaa
open Go.RowKit
set_option linter.unusedSimpArgs false
set_option linter.unusedVariables false
open Go.RowKit
/-- a list of integers that stay far inside of 256 bits -/
def Fw (xs : List Int) : Prop := ∀ i, i < xs.length → -57896044618658097711785492504343953926634992332820282019728792003956564819968 ≤ nth xs i ∧ nth xs i < 57896044618658097711785492504343953926634992332820282019728792003956564819968
/-- noughts ahead of the first other number -/
def fzo : List Int → Nat
  | [] => 0
  | x :: xs => if x = 0 then fzo xs + 1 else 0
/-- the place behind the last number that is no nought -/
def lzo : List Int → Nat
  | [] => 0
  | x :: xs => if lzo xs = 0 then (if x = 0 then 0 else 1) else lzo xs + 1
theorem nth_succ (x : Int) (xs : List Int) (i : Nat) : nth (x :: xs) (i + 1) = nth xs i := by simp [nth]
theorem nth_zero (x : Int) (xs : List Int) : nth (x :: xs) 0 = x := by simp [nth]
theorem nth_nil (i : Nat) : nth [] i = 0 := by simp [nth]
theorem nth_over {xs : List Int} {i : Nat} (h : xs.length ≤ i) : nth xs i = 0 := by simp [nth, List.getElem?_eq_none h]
theorem fzo_eq {xs : List Int} {a : Nat} (h1 : ∀ i, i < a → nth xs i = 0) (h2 : nth xs a ≠ 0) : fzo xs = a := by
  induction xs generalizing a with
  | nil => exact absurd (nth_nil a) h2
  | cons x xs ih =>
    cases a with
    | zero => rw [nth_zero] at h2; simp [fzo, h2]
    | succ a =>
      have h0 := h1 0 (by omega)
      rw [nth_zero] at h0
      rw [nth_succ] at h2
      have := ih (a := a) (fun i hi => by rw [← nth_succ x]; exact h1 (i + 1) (by omega)) h2
      simp [fzo, h0, this]
theorem lzo_zero {xs : List Int} (h : ∀ i, nth xs i = 0) : lzo xs = 0 := by
  induction xs with
  | nil => rfl
  | cons x xs ih =>
    have h0 := h 0
    rw [nth_zero] at h0
    have := ih (fun i => by rw [← nth_succ x]; exact h (i + 1))
    simp [lzo, this, h0]
theorem lzo_eq {xs : List Int} {p : Nat} (h1 : ∀ i, p + 1 ≤ i → nth xs i = 0) (h2 : nth xs p ≠ 0) : lzo xs = p + 1 := by
  induction xs generalizing p with
  | nil => exact absurd (nth_nil p) h2
  | cons x xs ih =>
    cases p with
    | zero =>
      rw [nth_zero] at h2
      have : lzo xs = 0 := lzo_zero fun i => by rw [← nth_succ x]; exact h1 (i + 1) (by omega)
      simp [lzo, this, h2]
    | succ p =>
      rw [nth_succ] at h2
      have := ih (p := p) (fun i hi => by rw [← nth_succ x]; exact h1 (i + 1) (by omega)) h2
      simp [lzo, this]
/-- a polynomial without noughts at its ends -/
def trimLow (low : Int) (xs : List Int) : Int := if lzo xs = 0 then 0 else low + fzo xs
def trimLst (xs : List Int) : List Int := if lzo xs = 0 then [] else (xs.drop (fzo xs)).take (lzo xs - fzo xs)
theorem trim_is {low : Int} {xs : List Int} {a m : Nat} (h1 : ∀ i, i < a → nth xs i = 0) (h2 : ∀ i, a + m ≤ i → nth xs i = 0) (h3 : m = 0 ∨ (nth xs a ≠ 0 ∧ nth xs (a + m - 1) ≠ 0)) : trimLow low xs = (if m = 0 then 0 else low + a) ∧ trimLst xs = (xs.drop a).take m := by
  by_cases hm : m = 0
  · subst hm
    have : lzo xs = 0 := lzo_zero fun i => by
      by_cases hi : i < a
      · exact h1 i hi
      · exact h2 i (by omega)
    simp [trimLow, trimLst, this]
  · obtain ⟨h3, h4⟩ := h3.resolve_left hm
    have e1 := fzo_eq h1 h3
    have e2 : lzo xs = a + m := by
      have := lzo_eq (xs := xs) (p := a + m - 1) (fun i hi => h2 i (by omega)) h4
      omega
    have e3 : ¬ a + m = 0 := by omega
    constructor
    · simp only [trimLow, e1, e2, if_neg e3, if_neg hm]
    · simp only [trimLst, e1, e2, if_neg e3]
      congr 1
      omega
theorem zero_eq {x : Int} (h1 : -57896044618658097711785492504343953926634992332820282019728792003956564819968 ≤ x) (h2 : x < 57896044618658097711785492504343953926634992332820282019728792003956564819968) : ((List.range 4).all fun i => wrd x i == zeroF i) = decide (x = 0) := by
  rw [Bool.eq_iff_iff]
  simp only [List.all_eq_true, List.mem_range, beq_iff_eq, decide_eq_true_eq]
  constructor
  · intro h
    exact wrd_inj h1 h2 (by decide) (by decide) fun i hi => by rw [wrd_zero]; exact h i hi
  · rintro rfl i hi
    exact wrd_zero i
theorem nth_drop (xs : List Int) (a i : Nat) : nth (xs.drop a) i = nth xs (a + i) := by simp [nth]
theorem nth_take {xs : List Int} {m i : Nat} (h : i < m) : nth (xs.take m) i = nth xs i := by simp [nth, h]
theorem readsW.cells {w : World} {pa : Option Addr} {n ca : Nat} {ys : List Int} (h : readsW w (.slice pa n ca) ys) (h0 : 0 < ys.length) : ∃ b q, pa = some ⟨b, q, none⟩ ∧ b < w.heap.size ∧ ∀ i, i < ys.length → ∀ j, j < 4 → w.cell? ⟨b, q + 4 * i + j, none⟩ = some (.int .u64 (wrd (nth ys i) j)) := by
  obtain ⟨a, c, hv, h⟩ := h
  cases hv
  obtain ⟨b, q, rfl, mm⟩ := h.resolve_left (fun e => by rw [e] at h0; simp at h0)
  exact ⟨b, q, rfl, World.block_lt_of_cell? w _ (mm 0 h0 0 (by decide)), mm⟩
theorem readsW.tail {w : World} {b q n ca : Nat} {ys : List Int} (h : readsW w (.slice (some ⟨b, q, none⟩) n ca) ys) (hc : n ≤ ca) (h0 : 0 < n) : readsW w (.slice (if ca = 1 then some ⟨b, q, none⟩ else some ⟨b, q + 4, none⟩) (n - 1) (ca - 1)) (ys.drop 1) := by
  obtain ⟨a, c, hv, h⟩ := h
  cases hv
  refine ⟨_, _, by rw [List.length_drop], ?_⟩
  by_cases h1 : ca = 1
  · exact .inl (List.eq_nil_of_length_eq_zero (by rw [List.length_drop]; omega))
  · rw [if_neg h1]
    refine .inr ⟨b, q + 4, rfl, fun i hi j hj => ?_⟩
    obtain ⟨b', q', e, mm⟩ := h.resolve_left (fun e => by rw [e] at h0; simp at h0)
    cases e
    rw [List.length_drop] at hi
    have := mm (i + 1) (by omega) j hj
    rw [nth_drop, show q + 4 + 4 * i + j = q + 4 * (i + 1) + j by omega, show 1 + i = i + 1 by omega]
    exact this
theorem readsW.front {w : World} {pa : Option Addr} {n ca m : Nat} {ys : List Int} (h : readsW w (.slice pa n ca) ys) (hm : m ≤ n) : readsW w (.slice pa m ca) (ys.take m) := by
  obtain ⟨a, c, hv, h⟩ := h
  cases hv
  refine ⟨_, _, by rw [List.length_take, Nat.min_eq_left hm], ?_⟩
  rcases h with rfl | ⟨b, q, rfl, mm⟩
  · exact .inl (by simp)
  · refine .inr ⟨b, q, rfl, fun i hi j hj => ?_⟩
    rw [List.length_take] at hi
    rw [nth_take (by omega)]
    exact mm i (by omega) j hj
/-- the length of the list in a box -/
def boxLen (w : World) (b : Nat) : Nat := match w.cell? ⟨b, 1, none⟩ with | some (.slice _ n _) => n | _ => 0
set_option maxHeartbeats 2000000 in
theorem trim_any (low : Int) (a0 : Option Addr) (c0 : Nat) (xs : List Int) (w : World) (h : readsW w (.slice a0 xs.length c0) xs) (hc0 : xs.length ≤ c0) (hlen : xs.length ≤ 100000) (hl1 : -100000 ≤ low) (hl2 : low ≤ 100000) (hf : Fw xs) : Calls Try.prog 58 #[.agg #[.int .i64 low, .slice a0 xs.length c0]] w fun e w' => (∃ v', e = .returned (.agg #[.int .i64 (trimLow low xs), v']) ∧ readsW w v' (trimLst xs)) ∧ Below w.heap.size w w' := by
  have hE := eql_arrF (P := Try.prog) (t := 78) (e := 76) (n := 4) (k := .u64) (ht := Try.underlying78) (he := Try.underlying76) (hsz := fun w => by simp [Try.sizeOf76]) (G := zeroF)
  have HE := Lib.hid (fun w i (hi : i < xs.length) => (hE w (wrd (nth xs i))).trans (by rw [zero_eq (hf i hi).1 (hf i hi).2]))
  clear hE hf
  have H := Lib.hid h
  clear h
  go_enter Try.func58, Try.ntmps58
  go_wp2
  go_loopw [] (fun wr => ∃ (a : Nat) (pa : Option Addr) (n ca : Nat), a ≤ xs.length ∧ Hid (n = xs.length - a) ∧ n ≤ ca ∧ wr = ((w.alloc (.cells #[.int .i64 (low + a), .slice pa n ca] 57)).alloc (.cells #[.int .i64 0, .slice none 0 0] 57)) ∧ Hid (readsW w (.slice pa n ca) (xs.drop a)) ∧ Hid (∀ i, i < a → nth xs i = 0)) (fun wr => boxLen wr w.heap.size)
  case atStart => exact ⟨0, a0, xs.length, c0, by omega, Lib.hid rfl, hc0, by simp, Lib.hid (by simpa using H.out), Lib.hid (fun i hi => by omega)⟩
  case round =>
    obtain ⟨a, pa, n, ca, ha, Hn, hca, rfl, HR, HZ⟩ := hrel
    have hnl : n ≤ 100000 := by have := Hn.out; omega
    by_cases h0 : a < xs.length
    · obtain ⟨b, q, rfl, hbk, mm⟩ := HR.out.cells (by simp; omega)
      have c0 := mm 0 (by simp; omega) 0 (by decide)
      have c1 := mm 0 (by simp; omega) 1 (by decide)
      have c2 := mm 0 (by simp; omega) 2 (by decide)
      have c3 := mm 0 (by simp; omega) 3 (by decide)
      have HMM := Lib.hid mm
      simp only [nth_drop, Nat.mul_zero, Nat.add_zero] at c0 c1 c2 c3
      have hn0 : 0 < n := by have := Hn.out; omega
      have hn1 : (0 : Int) < (n : Int) := by omega
      have hb1 : b < w.heap.size + 1 := by omega
      clear mm
      by_cases hz : nth xs a = 0
      · have hE := fun w => HE.out w a h0
        simp only [hz] at hE c0 c1 c2 c3
        have HZ2 := Lib.hid hz
        clear hz
        go_wp2
        refine ⟨⟨a + 1, _, xs.length - (a + 1), ca - 1, by omega, Lib.hid rfl, by have := Hn.out; omega, by rw [show n - 1 = xs.length - (a + 1) by have := Hn.out; omega, show low + ((a + 1 : Nat) : Int) = low + a + 1 by omega], Lib.hid ?_, Lib.hid (fun i hi => ?_)⟩, ?_⟩
        · have := HR.out.tail hca hn0
          rw [List.drop_drop, Hn.out] at this
          exact this
        · by_cases e : i = a
          · rw [e]; exact HZ2.out
          · exact HZ.out i (by omega)
        · simp [boxLen, go_sem]; have := Hn.out; omega
      · have hE := fun w => HE.out w a h0
        simp only [hz, decide_false] at hE
        have HZ2 := Lib.hid hz
        clear hz
        go_wp2
        go_loopw [3] (fun sl wr => ∃ (m : Nat), 0 < m ∧ m ≤ n ∧ sl = .int .i64 m ∧ wr = ((w.alloc (.cells #[.int .i64 (low + a), .slice (some ⟨b, q, none⟩) m ca] 57)).alloc (.cells #[.int .i64 0, .slice none 0 0] 57)) ∧ Hid (∀ i, a + m ≤ i → nth xs i = 0)) (fun sl _ => (intOf sl).toNat)
        case atStart => exact ⟨n, hn0, Nat.le_refl _, by go_num, rfl, Lib.hid (fun i hi => nth_over (by have := Hn.out; omega))⟩
        case round =>
          obtain ⟨m, hm0, hm, rfl, rfl, HB⟩ := hrel
          have hm1 : (0 : Int) < (m : Int) := by omega
          obtain ⟨p, rfl⟩ : ∃ p, m = p + 1 := ⟨m - 1, by omega⟩
          have hp : p < n := by omega
          have hw1 : ((p + 1 : Nat) : Int) - 1 = p := by omega
          have mm := HMM.out
          have hap : a + p < xs.length := by have := Hn.out; omega
          have d0 := mm p (by rw [List.length_drop]; omega) 0 (by decide)
          have d1 := mm p (by rw [List.length_drop]; omega) 1 (by decide)
          have d2 := mm p (by rw [List.length_drop]; omega) 2 (by decide)
          have d3 := mm p (by rw [List.length_drop]; omega) 3 (by decide)
          rw [Nat.mul_comm, nth_drop] at d0 d1 d2 d3
          rw [Nat.add_zero] at d0
          clear mm c0 c1 c2 c3 hE
          by_cases hy : nth xs (a + p) = 0
          · have hE := fun w => HE.out w (a + p) hap
            simp only [hy, decide_true] at hE d0 d1 d2 d3
            have HY := Lib.hid hy
            clear hy
            go_wp2
            have hp0 : 0 < p := by
              rcases Nat.eq_zero_or_pos p with rfl | h
              · exact absurd HY.out HZ2.out
              · exact h
            refine ⟨⟨p, hp0, by omega, rfl, rfl, Lib.hid (fun i hi => ?_)⟩, by simp [intOf]⟩
            by_cases e : i = a + p
            · rw [e]; exact HY.out
            · exact HB.out i (by omega)
          · have hE := fun w => HE.out w (a + p) hap
            simp only [hy, decide_false] at hE
            have HT := Lib.hid (trim_is (low := low) (xs := xs) (a := a) (m := p + 1) HZ.out HB.out (.inr ⟨HZ2.out, hy⟩))
            clear hy
            go_wp2
            refine bodyPost_ret (v := .agg #[.int .i64 (low + a), .slice (some ⟨b, q, none⟩) (p + 1) ca]) (by simp [results, Try.results58, go_sem]) rfl ?_
            refine ⟨⟨_, by rw [HT.out.1, if_neg (by omega)], ?_⟩, by (repeat (first | (with_reducible exact Below.refl _ _) | (with_reducible assumption) | (with_reducible refine below_plus' ?_ ?_; ((try simp only [plus_size, World.size_alloc, World.size_drew, World.size_setCell, size_setRow, World.heap_drewN, List.length_append]) <;> omega)) | (with_reducible refine below_alloc' ?_ ?_; ((try simp only [plus_size, World.size_alloc, World.size_drew, World.size_setCell, size_setRow, World.heap_drewN, List.length_append]) <;> omega)) | with_reducible refine Below.drew ?_ | (with_reducible refine below_drewN' ?_ _) | exact Below.refl _ _))⟩
            rw [HT.out.2]
            exact HR.out.front hm
    · obtain rfl : a = xs.length := by omega
      obtain rfl : n = 0 := by have := Hn.out; omega
      clear ha h0 hnl hca Hn
      have HT := Lib.hid (trim_is (low := low) (xs := xs) (a := xs.length) (m := 0) HZ.out (fun i hi => nth_over (by omega)) (.inl rfl))
      go_wp2
      go_loopw [3] (fun sl wr => sl = .int .i64 0 ∧ wr = ((w.alloc (.cells #[.int .i64 (low + xs.length), .slice pa 0 ca] 57)).alloc (.cells #[.int .i64 0, .slice none 0 0] 57))) (fun _ _ => 0)
      case atStart => exact ⟨by go_num, rfl⟩
      case round =>
        obtain ⟨rfl, rfl⟩ := hrel
        go_wp2
        refine bodyPost_ret (v := .agg #[.int .i64 0, .slice pa 0 ca]) (by simp [results, Try.results58, go_sem]) rfl ?_
        refine ⟨⟨_, by rw [HT.out.1, if_pos trivial], ?_⟩, by (repeat (first | (with_reducible exact Below.refl _ _) | (with_reducible assumption) | (with_reducible refine below_plus' ?_ ?_; ((try simp only [plus_size, World.size_alloc, World.size_drew, World.size_setCell, size_setRow, World.heap_drewN, List.length_append]) <;> omega)) | (with_reducible refine below_alloc' ?_ ?_; ((try simp only [plus_size, World.size_alloc, World.size_drew, World.size_setCell, size_setRow, World.heap_drewN, List.length_append]) <;> omega)) | with_reducible refine Below.drew ?_ | (with_reducible refine below_drewN' ?_ _) | exact Below.refl _ _))⟩
        rw [HT.out.2]
        exact HR.out.front (Nat.le_refl 0)
end Go.Proofs.Ytikakoclmmmjdaa
namespace Go.Proofs.Ytikakoclmmmjdaa
open Go.RowKit
set_option linter.unusedSimpArgs false
set_option linter.unusedVariables false
open Go.RowKit
/-- two worlds that differ in one block at most -/
def OffB (K : Nat) (X Y : World) : Prop := X.heap.size = Y.heap.size ∧ ∀ b, b ≠ K → X.heap[b]? = Y.heap[b]?
theorem OffB.plus {K : Nat} {X Y : World} (h : OffB K X Y) (j : List Obj) (d d' : Nat) : OffB K (plus X j d) (plus Y j d') := by
  refine ⟨?_, fun b hb => ?_⟩
  · show (X.heap ++ j.toArray).size = (Y.heap ++ j.toArray).size
    rw [Array.size_append, Array.size_append, h.1]
  · show (X.heap ++ j.toArray)[b]? = (Y.heap ++ j.toArray)[b]?
    rw [Array.getElem?_append, Array.getElem?_append, h.1, h.2 b hb]
theorem OffB.alloc {K : Nat} {X Y : World} (h : OffB K X Y) (o : Obj) : OffB K (X.alloc o) (Y.alloc o) := by
  refine ⟨?_, fun b hb => ?_⟩
  · show (X.heap.push o).size = (Y.heap.push o).size
    rw [Array.size_push, Array.size_push, h.1]
  · show (X.heap.push o)[b]? = (Y.heap.push o)[b]?
    rw [Array.getElem?_push, Array.getElem?_push, h.1, h.2 b hb]
theorem OffB.here {K : Nat} (C : World) (o o' : Obj) (hK : C.heap.size = K) : OffB K (C.alloc o) (C.alloc o') := by
  subst hK
  refine ⟨?_, fun b hb => ?_⟩
  · show (C.heap.push o).size = (C.heap.push o').size
    rw [Array.size_push, Array.size_push]
  · show (C.heap.push o)[b]? = (C.heap.push o')[b]?
    rw [Array.getElem?_push, Array.getElem?_push, if_neg hb, if_neg hb]
theorem readsW.off {K : Nat} {X Y : World} {v : Value} {xs : List Int} (h : readsW X v xs) (hK : OffB K X Y) {i : Int} {a : Option Addr} {n c : Nat} {T : TypeId} (hx : X.heap[K]? = some (.cells #[.int .i64 i, .slice a n c] T)) : readsW Y v xs := by
  obtain ⟨ao, co, hv, h⟩ := h
  refine ⟨ao, co, hv, h.imp id ?_⟩
  rintro ⟨b, q, ha, mm⟩
  refine ⟨b, q, ha, fun i hi j hj => ?_⟩
  have h1 := mm i hi j hj
  by_cases hb : b = K
  · exfalso
    subst hb
    simp only [World.cell?, hx] at h1
    generalize q + 4 * i + j = m at h1
    rcases m with _ | _ | m
    · simp at h1
    · simp at h1
    · simp at h1
  · simp only [World.cell?] at h1 ⊢
    rw [← hK.2 b hb]
    exact h1
theorem ownW.cap {e : TypeId} {w : World} {B : Nat} {ao : Option Addr} {n co : Nat} {xs : List Int} (h : ownW e w B (.slice ao n co) xs) : xs.length ≤ co := by
  rcases h.2 with ⟨h1, h2⟩ | ⟨g, cap, cur, h1, _, _, h2, _⟩
  · omega
  · cases h1; exact h2
/-- the sum of two polynomials -/
def loP (lp lq : Int) : Int := if lq < lp then lq else lp
def hiP (lp lq : Int) (xs ys : List Int) : Int := if lp + xs.length < lq + ys.length then lq + ys.length else lp + xs.length
def sumP (lp : Int) (xs : List Int) (lq : Int) (ys : List Int) : List Int := (List.range (hiP lp lq xs ys - loP lp lq).toNat).map fun (i : Nat) => atP lp xs (loP lp lq + i) + atP lq ys (loP lp lq + i)
def addLow (lp : Int) (xs : List Int) (lq : Int) (ys : List Int) : Int := if xs.length = 0 then lq else if ys.length = 0 then lp else trimLow (loP lp lq) (sumP lp xs lq ys)
def addLst (lp : Int) (xs : List Int) (lq : Int) (ys : List Int) : List Int := if xs.length = 0 then ys else if ys.length = 0 then xs else trimLst (sumP lp xs lq ys)
theorem sumP_take {lp : Int} {xs : List Int} {lq : Int} {ys : List Int} {k : Nat} (h : k < (hiP lp lq xs ys - loP lp lq).toNat) : (sumP lp xs lq ys).take k ++ [atP lp xs (loP lp lq + k) + atP lq ys (loP lp lq + k)] = (sumP lp xs lq ys).take (k + 1) := by
  have h1 : k < (sumP lp xs lq ys).length := by simp [sumP]; omega
  rw [← take_snoc h1]
  congr 2
  simp [nth, sumP, List.getElem?_range h]
theorem trim_sl (low : Int) (a0 : Option Addr) (c0 : Nat) (xs : List Int) (w : World) (h : readsW w (.slice a0 xs.length c0) xs) (hc0 : xs.length ≤ c0) (hlen : xs.length ≤ 100000) (hl1 : -100000 ≤ low) (hl2 : low ≤ 100000) (hf : Fw xs) : Calls Try.prog 58 #[.agg #[.int .i64 low, .slice a0 xs.length c0]] w fun e w' => (∃ a3 c3, e = .returned (.agg #[.int .i64 (trimLow low xs), .slice a3 (trimLst xs).length c3]) ∧ readsW w (.slice a3 (trimLst xs).length c3) (trimLst xs)) ∧ Below w.heap.size w w' := by
  refine (trim_any low a0 c0 xs w h hc0 hlen hl1 hl2 hf).mono ?_
  rintro e w' ⟨⟨v', rfl, hR⟩, hB⟩
  obtain ⟨a3, c3, rfl, hr⟩ := id hR
  exact ⟨⟨a3, c3, rfl, hR⟩, hB⟩
set_option maxHeartbeats 2000000 in
theorem add_any (lp : Int) (v1 : Value) (xs : List Int) (lq : Int) (v2 : Value) (ys : List Int) (w : World) (h1 : readsW w v1 xs) (h2 : readsW w v2 ys) (hl1 : xs.length ≤ 5000) (hl2 : ys.length ≤ 5000) (hp1 : -5000 ≤ lp) (hp2 : lp ≤ 5000) (hq1 : -5000 ≤ lq) (hq2 : lq ≤ 5000) (hf : Fw (sumP lp xs lq ys)) : Calls Try.prog 37 #[.agg #[.int .i64 lp, v1], .agg #[.int .i64 lq, v2]] w fun e w' => (∃ v', e = .returned (.agg #[.int .i64 (addLow lp xs lq ys), v']) ∧ readsW w' v' (addLst lp xs lq ys)) ∧ Below w.heap.size w w' := by
  have HP := Lib.hid (fun (k : Int) (hk1 : -1000000 ≤ k) (hk2 : k ≤ 1000000) w' (hb : Below w.heap.size w w') => at_any lp v1 xs k w' (h1.kept hb) (by omega) (by omega) (by omega) hk1 hk2)
  have HQ := Lib.hid (fun (k : Int) (hk1 : -1000000 ≤ k) (hk2 : k ≤ 1000000) w' (hb : Below w.heap.size w w') => at_any lq v2 ys k w' (h2.kept hb) (by omega) (by omega) (by omega) hk1 hk2)
  have H1 := Lib.hid h1
  have H2 := Lib.hid h2
  obtain ⟨a1, c1, rfl, hr1⟩ := h1
  obtain ⟨a2, c2, rfl, hr2⟩ := h2
  clear hr1 hr2
  by_cases hx : xs.length = 0
  · have HA := Lib.hid (show addLow lp xs lq ys = lq ∧ addLst lp xs lq ys = ys by simp [addLow, addLst, hx])
    clear hf
    go_enter Try.func37, Try.ntmps37
    go_wp2
    refine bodyPost_ret (v := .agg #[.int .i64 lq, .slice a2 ys.length c2]) (by simp [results, Try.results37, go_sem]) rfl ?_
    refine ⟨⟨_, by rw [HA.out.1], ?_⟩, by (repeat (first | (with_reducible exact Below.refl _ _) | (with_reducible assumption) | (with_reducible refine below_plus' ?_ ?_; ((try simp only [plus_size, World.size_alloc, World.size_drew, World.size_setCell, size_setRow, World.heap_drewN, List.length_append]) <;> omega)) | (with_reducible refine below_alloc' ?_ ?_; ((try simp only [plus_size, World.size_alloc, World.size_drew, World.size_setCell, size_setRow, World.heap_drewN, List.length_append]) <;> omega)) | with_reducible refine Below.drew ?_ | (with_reducible refine below_drewN' ?_ _) | exact Below.refl _ _))⟩
    rw [HA.out.2]
    exact H2.out.kept (by (repeat (first | (with_reducible exact Below.refl _ _) | (with_reducible assumption) | (with_reducible refine below_plus' ?_ ?_; ((try simp only [plus_size, World.size_alloc, World.size_drew, World.size_setCell, size_setRow, World.heap_drewN, List.length_append]) <;> omega)) | (with_reducible refine below_alloc' ?_ ?_; ((try simp only [plus_size, World.size_alloc, World.size_drew, World.size_setCell, size_setRow, World.heap_drewN, List.length_append]) <;> omega)) | with_reducible refine Below.drew ?_ | (with_reducible refine below_drewN' ?_ _) | exact Below.refl _ _)))
  · by_cases hy : ys.length = 0
    · have HA := Lib.hid (show addLow lp xs lq ys = lp ∧ addLst lp xs lq ys = xs by simp [addLow, addLst, hx, hy])
      clear hf
      go_enter Try.func37, Try.ntmps37
      go_wp2
      refine bodyPost_ret (v := .agg #[.int .i64 lp, .slice a1 xs.length c1]) (by simp [results, Try.results37, go_sem]) rfl ?_
      refine ⟨⟨_, by rw [HA.out.1], ?_⟩, by (repeat (first | (with_reducible exact Below.refl _ _) | (with_reducible assumption) | (with_reducible refine below_plus' ?_ ?_; ((try simp only [plus_size, World.size_alloc, World.size_drew, World.size_setCell, size_setRow, World.heap_drewN, List.length_append]) <;> omega)) | (with_reducible refine below_alloc' ?_ ?_; ((try simp only [plus_size, World.size_alloc, World.size_drew, World.size_setCell, size_setRow, World.heap_drewN, List.length_append]) <;> omega)) | with_reducible refine Below.drew ?_ | (with_reducible refine below_drewN' ?_ _) | exact Below.refl _ _))⟩
      rw [HA.out.2]
      exact H1.out.kept (by (repeat (first | (with_reducible exact Below.refl _ _) | (with_reducible assumption) | (with_reducible refine below_plus' ?_ ?_; ((try simp only [plus_size, World.size_alloc, World.size_drew, World.size_setCell, size_setRow, World.heap_drewN, List.length_append]) <;> omega)) | (with_reducible refine below_alloc' ?_ ?_; ((try simp only [plus_size, World.size_alloc, World.size_drew, World.size_setCell, size_setRow, World.heap_drewN, List.length_append]) <;> omega)) | with_reducible refine Below.drew ?_ | (with_reducible refine below_drewN' ?_ _) | exact Below.refl _ _)))
    · have HA := Lib.hid (show addLow lp xs lq ys = trimLow (loP lp lq) (sumP lp xs lq ys) ∧ addLst lp xs lq ys = trimLst (sumP lp xs lq ys) by simp [addLow, addLst, hx, hy])
      have HF := Lib.hid hf
      clear hf
      go_enter Try.func37, Try.ntmps37
      go_upto_region 7 with (fail)
      obtain ⟨lo, hlo⟩ : ∃ lo, loP lp lq = lo := ⟨_, rfl⟩
      obtain ⟨hi, hhi⟩ : ∃ hi, hiP lp lq xs ys = hi := ⟨_, rfl⟩
      have e1 : (if lq < lp then lq else lp) = lo := hlo
      have e2 : (if lp + (xs.length : Int) < lq + (ys.length : Int) then lq + (ys.length : Int) else lp + (xs.length : Int)) = hi := hhi
      rw [e1, e2]
      have b1 : -5000 ≤ lo := by rw [← e1]; split <;> omega
      have b2 : lo ≤ 5000 := by rw [← e1]; split <;> omega
      have b3 : hi ≤ 10000 := by rw [← e2]; split <;> omega
      have b4 : lo ≤ hi := by rw [← e1, ← e2]; split <;> split <;> omega
      rw [hlo] at HA
      have HS := Lib.hid (fun (k : Nat) (h : lo + k < hi) => sumP_take (lp := lp) (xs := xs) (lq := lq) (ys := ys) (k := k) (by rw [hlo, hhi]; omega))
      have HN := Lib.hid (show (sumP lp xs lq ys).length = (hi - lo).toNat by simp [sumP, hlo, hhi])
      rw [hlo] at HS
      generalize sumP lp xs lq ys = ss at *
      clear e1 e2 hlo hhi
      have hxb : ((xs.length : Int) == 0) = false := beq_eq_false_iff_ne.2 (by omega)
      have hyb : ((ys.length : Int) == 0) = false := beq_eq_false_iff_ne.2 (by omega)
      simp only [hxb, hyb]
      go_wp2
      go_loopw [8] (fun sl wr => ∃ (vo : Value) (l : List Int) (k : Nat) (j : List Obj) (d : Nat), Hid (l = ss.take k) ∧ lo + k ≤ hi ∧ sl = .int .i64 (lo + k) ∧ wr = plus ((((w.alloc (.cells #[.int .i64 lp, .slice a1 xs.length c1] 57)).alloc (.cells #[.int .i64 lq, .slice a2 ys.length c2] 57)).alloc (.cells #[.int .i64 0, .slice none 0 0] 57)).alloc (.cells #[.int .i64 lo, vo] 57)) j d ∧ ownW 78 (plus ((((w.alloc (.cells #[.int .i64 lp, .slice a1 xs.length c1] 57)).alloc (.cells #[.int .i64 lq, .slice a2 ys.length c2] 57)).alloc (.cells #[.int .i64 0, .slice none 0 0] 57)).alloc (.cells #[.int .i64 lo, vo] 57)) j d) ((((w.alloc (.cells #[.int .i64 lp, .slice a1 xs.length c1] 57)).alloc (.cells #[.int .i64 lq, .slice a2 ys.length c2] 57)).alloc (.cells #[.int .i64 0, .slice none 0 0] 57)).alloc (.cells #[.int .i64 lo, vo] 57)).heap.size vo l) (fun sl _ => (hi - intOf sl).toNat)
      case atStart => exact ⟨_, [], 0, [], w.drawn, Lib.hid rfl, by omega, by go_num, (plus_nil _).symm, ownW_nil _ _ _⟩
      case round =>
        obtain ⟨vo, l, k, j, d, HLl, hk, rfl, rfl, hown⟩ := hrel
        obtain ⟨ao, co, rfl, hs⟩ := id hown.reads
        clear hs
        by_cases hlt : lo + k < hi
        · have hll : l.length < 1000000000 := by have := congrArg List.length HLl.out; simp at this; omega
          have HPk := Lib.hid (fun w' (hb : Below w.heap.size w w') => HP.out (lo + k) (by omega) (by omega) w' hb)
          have HQk := Lib.hid (fun w' (hb : Below w.heap.size w w') => HQ.out (lo + k) (by omega) (by omega) w' hb)
          have HBx := Lib.hid (show l ++ [atP lp xs (lo + k) + atP lq ys (lo + k)] = ss.take (k + 1) from (congrArg (· ++ [atP lp xs (lo + k) + atP lq ys (lo + k)]) HLl.out).trans (HS.out k hlt))
          generalize atP lp xs (lo + k) = x at HPk HBx
          generalize atP lq ys (lo + k) = y at HQk HBx
          go_wp2
          refine region_ghostW (W := ((((w.alloc (.cells #[.int .i64 lp, .slice a1 xs.length c1] 57)).alloc (.cells #[.int .i64 lq, .slice a2 ys.length c2] 57)).alloc (.cells #[.int .i64 0, .slice none 0 0] 57)).alloc (.cells #[.int .i64 lo, .slice ao l.length co] 57))) [9, 10, 12] (by kernel_rfl) (by kernel_rfl) (by kernel_rfl) ?_
          repeat (refine wpPlain_step (fun K hK => ?_); go_simp; first | (refine hK _ ?_; clear hK K) | (apply Exists.intro; refine ⟨fun _ => ?_, hK _ ?_⟩; (first | (go_at_call 56; with_reducible refine Calls.mono (HPk.out _ ?_) ?_; rw [plusq_eq]; (repeat (first | (with_reducible exact Below.refl _ _) | (with_reducible assumption) | (with_reducible refine below_plus' ?_ ?_; ((try simp only [plus_size, World.size_alloc, World.size_drew, World.size_setCell, size_setRow, World.heap_drewN, List.length_append]) <;> omega)) | (with_reducible refine below_alloc' ?_ ?_; ((try simp only [plus_size, World.size_alloc, World.size_drew, World.size_setCell, size_setRow, World.heap_drewN, List.length_append]) <;> omega)) | with_reducible refine Below.drew ?_ | (with_reducible refine below_drewN' ?_ _) | exact Below.refl _ _)); rintro e w'' ⟨he, hB⟩; exact ⟨he, hB⟩) | (go_at_call 56; with_reducible refine Calls.mono (HQk.out _ ?_) ?_; rw [plusq_eq]; (repeat (first | (with_reducible exact Below.refl _ _) | (with_reducible assumption) | (with_reducible refine below_plus' ?_ ?_; ((try simp only [plus_size, World.size_alloc, World.size_drew, World.size_setCell, size_setRow, World.heap_drewN, List.length_append]) <;> omega)) | (with_reducible refine below_alloc' ?_ ?_; ((try simp only [plus_size, World.size_alloc, World.size_drew, World.size_setCell, size_setRow, World.heap_drewN, List.length_append]) <;> omega)) | with_reducible refine Below.drew ?_ | (with_reducible refine below_drewN' ?_ _) | exact Below.refl _ _)); rintro e w'' ⟨he, hB⟩; exact ⟨he, hB⟩) | (go_at_call 57; refine Calls.mono (plus_any x y _) ?_; rintro e w'' ⟨he, hB⟩; exact ⟨he, hB⟩)); clear hK K))
          refine wpPlain_nil ?_
          intro j1 d1
          rw [plus_plus]
          have hown1 := ownW_plus (j' := j1) (d' := d1) hown
          refine gchain_cons _ rfl ?_
          go_wp2
          refine gExit_normal ⟨.inr (later_of_below (by (repeat (first | (with_reducible exact Below.refl _ _) | (with_reducible assumption) | (with_reducible refine below_plus' ?_ ?_; ((try simp only [plus_size, World.size_alloc, World.size_drew, World.size_setCell, size_setRow, World.heap_drewN, List.length_append]) <;> omega)) | (with_reducible refine below_alloc' ?_ ?_; ((try simp only [plus_size, World.size_alloc, World.size_drew, World.size_setCell, size_setRow, World.heap_drewN, List.length_append]) <;> omega)) | with_reducible refine Below.drew ?_ | (with_reducible refine below_drewN' ?_ _) | exact Below.refl _ _)))), fun j2 d2 => ?_⟩
          refine gchain_cons _ rfl ?_
          refine wpList_appendWide rfl _ _ 55 rfl 78 _ Try.underlying55 infoW rfl ((((w.alloc (.cells #[.int .i64 lp, .slice a1 xs.length c1] 57)).alloc (.cells #[.int .i64 lq, .slice a2 ys.length c2] 57)).alloc (.cells #[.int .i64 0, .slice none 0 0] 57)).alloc (.cells #[.int .i64 lo, .slice ao l.length co] 57)).heap.size (.slice ao l.length co) l rfl _ 1 rfl ((x + y)) ?_ (hown1.kept (by (repeat (first | (with_reducible exact Below.refl _ _) | (with_reducible assumption) | (with_reducible refine below_plus' ?_ ?_; ((try simp only [plus_size, World.size_alloc, World.size_drew, World.size_setCell, size_setRow, World.heap_drewN, List.length_append]) <;> omega)) | (with_reducible refine below_alloc' ?_ ?_; ((try simp only [plus_size, World.size_alloc, World.size_drew, World.size_setCell, size_setRow, World.heap_drewN, List.length_append]) <;> omega)) | with_reducible refine Below.drew ?_ | (with_reducible refine below_drewN' ?_ _) | exact Below.refl _ _)))) hll (by ((try simp only [plus_size, World.size_alloc, World.size_drew, World.size_setCell, size_setRow, World.heap_drewN, List.length_append]) <;> omega)) ?_
          · intro j hj
            rw [plus_cell _ _ _ _ _ (by ((try simp only [plus_size, World.size_alloc, World.size_drew, World.size_setCell, size_setRow, World.heap_drewN, List.length_append]) <;> omega)), World.cell?_alloc_at _ _ _ _ (by ((try simp only [plus_size, World.size_alloc, World.size_drew, World.size_setCell, size_setRow, World.heap_drewN, List.length_append]) <;> omega))]
            exact arrF_get _ _ _ _ hj
          intro v' w3 hown2 hB _
          go_wp2
          have hW3 : Below ((((w.alloc (.cells #[.int .i64 lp, .slice a1 xs.length c1] 57)).alloc (.cells #[.int .i64 lq, .slice a2 ys.length c2] 57)).alloc (.cells #[.int .i64 0, .slice none 0 0] 57)).alloc (.cells #[.int .i64 lo, .slice ao l.length co] 57)).heap.size ((((w.alloc (.cells #[.int .i64 lp, .slice a1 xs.length c1] 57)).alloc (.cells #[.int .i64 lq, .slice a2 ys.length c2] 57)).alloc (.cells #[.int .i64 0, .slice none 0 0] 57)).alloc (.cells #[.int .i64 lo, .slice ao l.length co] 57)) w3 := Below.trans (by (repeat (first | (with_reducible exact Below.refl _ _) | (with_reducible assumption) | (with_reducible refine below_plus' ?_ ?_; ((try simp only [plus_size, World.size_alloc, World.size_drew, World.size_setCell, size_setRow, World.heap_drewN, List.length_append]) <;> omega)) | (with_reducible refine below_alloc' ?_ ?_; ((try simp only [plus_size, World.size_alloc, World.size_drew, World.size_setCell, size_setRow, World.heap_drewN, List.length_append]) <;> omega)) | with_reducible refine Below.drew ?_ | (with_reducible refine below_drewN' ?_ _) | exact Below.refl _ _))) hB
          obtain ⟨ja, da, rfl⟩ := plus_of_below hW3
          refine gExit_normal ⟨.inr (later_of_below hW3), fun j3 d3 => ?_⟩
          obtain ⟨av, cv, rfl, hs⟩ := id hown2.reads
          clear hs
          have hown3 := ownW_plus (j' := j3) (d' := d3) hown2
          have hL : (l ++ [(x + y)]).length = l.length + 1 := by simp
          rw [hL] at hown3
          clear hL
          rw [plus_plus]
          refine gchain_cons _ rfl ?_
          go_wp2
          refine gExit_normal ⟨.inl (by kernel_rfl), fun j4 d4 => ?_⟩
          refine gchain_nil ?_
          go_wp2
          
          refine ⟨⟨.slice av (l.length + 1) cv, l ++ [x + y], k + 1, (ja ++ j3) ++ j4, d4, HBx, by omega, by go_num, by rw [plus_plus], ownW_plus (d := d3) ((ownW_swap (X := ((((w.alloc (.cells #[.int .i64 lp, .slice a1 xs.length c1] 57)).alloc (.cells #[.int .i64 lq, .slice a2 ys.length c2] 57)).alloc (.cells #[.int .i64 0, .slice none 0 0] 57)).alloc (.cells #[.int .i64 lo, .slice ao l.length co] 57))) (Y := ((((w.alloc (.cells #[.int .i64 lp, .slice a1 xs.length c1] 57)).alloc (.cells #[.int .i64 lq, .slice a2 ys.length c2] 57)).alloc (.cells #[.int .i64 0, .slice none 0 0] 57)).alloc (.cells #[.int .i64 lo, .slice av (l.length + 1) cv] 57))) (by ((try simp only [plus_size, World.size_alloc, World.size_drew, World.size_setCell, size_setRow, World.heap_drewN, List.length_append]) <;> omega)) (Nat.le_refl _) hown3).mono (by ((try simp only [plus_size, World.size_alloc, World.size_drew, World.size_setCell, size_setRow, World.heap_drewN, List.length_append]) <;> omega)))⟩, ?_⟩
          simp [intOf]; omega
        · have HEl : l = ss := by rw [HLl.out, List.take_of_length_le (by rw [HN.out]; omega)]
          have hsl := HN.out
          have hcap := hown.cap
          have hrd := hown.reads
          have HTr := Lib.hid (trim_sl lo ao co l _ hrd hcap (by rw [HEl]; omega) (by omega) (by omega) (by rw [HEl]; exact HF.out))
          have HE := Lib.hid HEl
          clear hown hrd hcap hsl HEl
          go_wp2_with (first | (go_at_call 58; with_reducible refine Calls.mono HTr.out ?_; rintro e w' ⟨⟨a3, c3, rfl, hR⟩, hB⟩; obtain ⟨j, d, rfl⟩ := plus_of_below hB; clear hB))
          refine bodyPost_ret (v := .agg #[.int .i64 (trimLow lo l), .slice a3 (trimLst l).length c3]) (by simp [results, Try.results37, go_sem]) rfl ?_
          refine ⟨⟨_, by rw [HA.out.1, ← HE.out], ?_⟩, by (repeat (first | (with_reducible exact Below.refl _ _) | (with_reducible assumption) | (with_reducible refine below_plus' ?_ ?_; ((try simp only [plus_size, World.size_alloc, World.size_drew, World.size_setCell, size_setRow, World.heap_drewN, List.length_append]) <;> omega)) | (with_reducible refine below_alloc' ?_ ?_; ((try simp only [plus_size, World.size_alloc, World.size_drew, World.size_setCell, size_setRow, World.heap_drewN, List.length_append]) <;> omega)) | with_reducible refine Below.drew ?_ | (with_reducible refine below_drewN' ?_ _) | exact Below.refl _ _))⟩
          rw [HA.out.2, ← HE.out]
          have hR2 := hR.kept (below_plus (Below.refl _ _) (Nat.le_refl _) j d)
          exact hR2.off (K := w.heap.size + 1 + 1) ((((OffB.here _ _ _ (by ((try simp only [plus_size, World.size_alloc, World.size_drew, World.size_setCell, size_setRow, World.heap_drewN, List.length_append]) <;> omega))).alloc _).plus _ _ _).plus _ _ _) (by (repeat (first | (refine heap_at _ _ _ ?_; ((try simp only [plus_size, World.size_alloc, World.size_drew, World.size_setCell, size_setRow, World.heap_drewN, List.length_append]) <;> omega)) | (refine heap_past' ?_ ?_; ((try simp only [plus_size, World.size_alloc, World.size_drew, World.size_setCell, size_setRow, World.heap_drewN, List.length_append]) <;> omega)) | (refine heap_plus' ?_ ?_; ((try simp only [plus_size, World.size_alloc, World.size_drew, World.size_setCell, size_setRow, World.heap_drewN, List.length_append]) <;> omega)) | assumption)))
end Go.Proofs.Ytikakoclmmmjdaa
namespace Go.Proofs.Ytikakoclmmmjdaa
open Go.RowKit
set_option linter.unusedSimpArgs false
set_option linter.unusedVariables false
open Go.RowKit
theorem own_farL {e : TypeId} {X Y : World} {B B' : Nat} {J J' : List Obj} {d d' : Nat} {v : Value} {xs : List Int} (h : own e (plus X J d) B v xs) (hs : X.heap.size = Y.heap.size) (hB : X.heap.size ≤ B) (hB' : B' ≤ B) (hp : J <+: J') : own e (plus Y J' d') B' v xs := by
  obtain ⟨K, rfl⟩ := hp
  exact (own_plus (d := d') (own_swap hs hB h)).mono hB'
/-- a polynomial if it has limits; the code 3 if not -/
def laN (low : Int) (xs : List Int) : Int := if okL low xs = true then low else 0
def laL (low : Int) (xs : List Int) : List Int := if okL low xs = true then xs else []
def laC (low : Int) (xs : List Int) : Int := if okL low xs = true then 0 else 3
theorem la_no {low : Int} {xs : List Int} (h : okL low xs = false) : laN low xs = 0 ∧ laL low xs = [] ∧ laC low xs = 3 := by simp [laN, laL, laC, h]
theorem la_yes {low : Int} {xs : List Int} (h : okL low xs = true) : laN low xs = low ∧ laL low xs = xs ∧ laC low xs = 0 := by simp [laN, laL, laC, h]
theorem plus_in (W : World) (j j' : List Obj) (d d' : Nat) (o : Obj) : plus ((plus W j d).alloc o) j' d' = plus W ((j ++ [o]) ++ j') d' := by
  simp [plus, World.alloc]
theorem okL_bad {low : Int} {xs : List Int} {k : Nat} (hk : k < xs.length) (h : inB (nth xs k) (-1000000000000) 1000000000000 = false) : okL low xs = false := by
  cases hc : okL low xs with
  | false => rfl
  | true => exact absurd (okL_true hc).2.2.2 (by rw [allC_bad hk h]; decide)
theorem fitB_bad {x : Int} (h : fitB x = false) : inB x (-1000000000000) 1000000000000 = false := by
  cases hc : inB x (-1000000000000) 1000000000000 with
  | false => rfl
  | true =>
    have := inB_true hc
    simp only [fitB, decide_eq_false_iff_not] at h
    omega
theorem fitB_wrap {x : Int} (h : fitB x = true) : wrap64 x = x := by
  simp only [fitB, decide_eq_true_eq] at h
  unfold wrap64; omega
set_option maxHeartbeats 2000000 in
theorem laurent_any (low : Int) (v : Value) (xs : List Int) (w : World) (h : readsW w v xs) (hlen : xs.length ≤ 100000) (hl1 : -100000 ≤ low) (hl2 : low ≤ 100000) (hf : Fw xs) : Calls Try.prog 39 #[.agg #[.int .i64 low, v]] w (RetB2 2 w (laN low xs) (laL low xs) (laC low xs)) := by
  have H := Lib.hid h
  have HF := Lib.hid hf
  obtain ⟨a, c, rfl, hr⟩ := h
  clear hr hf
  go_enter Try.func39, Try.ntmps39
  go_wp2
  go_loopw [15] (fun sl wr => ∃ (vo : Value) (l : List Int) (k : Nat) (j : List Obj) (d : Nat), Hid (l = xs.take k) ∧ k ≤ xs.length ∧ sl = .int .i64 k ∧ wr = plus (((w.alloc (.cells #[.int .i64 low, .slice a xs.length c] 57)).alloc (.cells #[.int .i64 0, .slice none 0 0] 37)).alloc (.cells #[.int .i64 low, vo] 37)) j d ∧ Hid (∀ i, i < k → inB (nth xs i) (-1000000000000) 1000000000000 = true) ∧ own 2 (plus (((w.alloc (.cells #[.int .i64 low, .slice a xs.length c] 57)).alloc (.cells #[.int .i64 0, .slice none 0 0] 37)).alloc (.cells #[.int .i64 low, vo] 37)) j d) (((w.alloc (.cells #[.int .i64 low, .slice a xs.length c] 57)).alloc (.cells #[.int .i64 0, .slice none 0 0] 37)).alloc (.cells #[.int .i64 low, vo] 37)).heap.size vo l) (fun sl _ => xs.length - (intOf sl).toNat)
  case atStart => exact ⟨_, [], 0, [], w.drawn, Lib.hid rfl, by omega, by go_num, (plus_nil _).symm, Lib.hid (fun i hi => by omega), own_nil _ _ _⟩
  case round =>
    obtain ⟨vo, l, k, j, d, HLl, hk, rfl, rfl, HI, hown⟩ := hrel
    obtain ⟨ao, co, rfl, hs⟩ := id hown.reads
    clear hs
    by_cases hlt : k < xs.length
    · obtain ⟨b, q, rfl, hbk, mm⟩ := H.out.cells (by omega)
      have c0 := mm k hlt 0 (by decide)
      have c1 := mm k hlt 1 (by decide)
      have c2 := mm k hlt 2 (by decide)
      have c3 := mm k hlt 3 (by decide)
      rw [Nat.mul_comm] at c0 c1 c2 c3
      rw [Nat.add_zero] at c0
      have hs := fun w => small_any (nth xs k) w (HF.out k hlt).1 (HF.out k hlt).2
      have hll : l.length < 1000000000 := by have := congrArg List.length HLl.out; simp at this; omega
      have hb3 : b < w.heap.size + 1 + 1 + 1 := by omega
      have hb1 : b < w.heap.size + 1 := by omega
      have hb2 : b < w.heap.size + 1 + 1 := by omega
      have HBx := Lib.hid (show l ++ [nth xs k] = xs.take (k + 1) by rw [HLl.out, take_snoc hlt])
      have HK := Lib.hid (fun h => okL_bad (low := low) hlt h)
      clear mm
      cases hfb : fitB (nth xs k) with
      | false =>
        simp only [hfb] at hs
        have HS := Lib.hid hs
        have HO := Lib.hid (HK.out (fitB_bad hfb))
        clear hfb hs
        go_wp2_with (first | ((with_reducible apply wpList_store_arr rfl rfl 78 _ _ rfl _ rfl _ rfl 4 info78); (repeat (first | (refine heap_at _ _ _ ?_; ((try simp only [plus_size, World.size_alloc, World.size_drew, World.size_setCell, size_setRow, World.heap_drewN, List.length_append]) <;> omega)) | (refine heap_past' ?_ ?_; ((try simp only [plus_size, World.size_alloc, World.size_drew, World.size_setCell, size_setRow, World.heap_drewN, List.length_append]) <;> omega)) | (refine heap_plus' ?_ ?_; ((try simp only [plus_size, World.size_alloc, World.size_drew, World.size_setCell, size_setRow, World.heap_drewN, List.length_append]) <;> omega)) | assumption)); (simp only [arrF_size, arrO_size]); (simp only [arrF_size, arrO_size]); (first | exact arrF_one _ _ _ | exact arrO_one _ _); (repeat (first | (refine setRow_at' ?_; ((try simp only [plus_size, World.size_alloc, World.size_drew, World.size_setCell, size_setRow, World.heap_drewN, List.length_append]) <;> omega)) | (apply setRow_past'; ((try simp only [plus_size, World.size_alloc, World.size_drew, World.size_setCell, size_setRow, World.heap_drewN, List.length_append]) <;> omega)) | (apply setRow_plus'; ((try simp only [plus_size, World.size_alloc, World.size_drew, World.size_setCell, size_setRow, World.heap_drewN, List.length_append]) <;> omega)) | exact rfl)))
                                        | ((with_reducible apply wpList_load_arr rfl 78 _ rfl _ rfl 4 76 Try.underlying78 info78); (repeat (first | (refine heap_at _ _ _ ?_; ((try simp only [plus_size, World.size_alloc, World.size_drew, World.size_setCell, size_setRow, World.heap_drewN, List.length_append]) <;> omega)) | (refine heap_past' ?_ ?_; ((try simp only [plus_size, World.size_alloc, World.size_drew, World.size_setCell, size_setRow, World.heap_drewN, List.length_append]) <;> omega)) | (refine heap_plus' ?_ ?_; ((try simp only [plus_size, World.size_alloc, World.size_drew, World.size_setCell, size_setRow, World.heap_drewN, List.length_append]) <;> omega)) | assumption)); (simp only [arrF_size, arrO_size]))
                                        | (go_at_call 60; refine Calls.mono (HS.out _) ?_; rintro e w'' ⟨rfl, hB⟩; obtain ⟨j5, d5, rfl⟩ := plus_of_below hB; rw [plus_in]; clear hB))
        refine bodyPost_ret (v := .tuple #[.agg #[.int .i64 0, .slice none 0 0], .int .i64 3]) (by simp [results, Try.results39, go_sem]) rfl ?_
        exact ⟨_, by rw [(la_no HO.out).1, (la_no HO.out).2.2], by (repeat (first | (with_reducible exact Below.refl _ _) | (with_reducible assumption) | (with_reducible refine below_plus' ?_ ?_; ((try simp only [plus_size, World.size_alloc, World.size_drew, World.size_setCell, size_setRow, World.heap_drewN, List.length_append]) <;> omega)) | (with_reducible refine below_alloc' ?_ ?_; ((try simp only [plus_size, World.size_alloc, World.size_drew, World.size_setCell, size_setRow, World.heap_drewN, List.length_append]) <;> omega)) | with_reducible refine Below.drew ?_ | (with_reducible refine below_drewN' ?_ _) | exact Below.refl _ _)), by rw [(la_no HO.out).2.1]; exact own_nil _ _ _⟩
      | true =>
        simp only [hfb, fitB_wrap hfb] at hs
        have HS := Lib.hid hs
        cases hin : inB (nth xs k) (-1000000000000) 1000000000000 with
        | false =>
          have HO := Lib.hid (HK.out hin)
          clear hfb hs
          go_wp2_with (first | ((with_reducible apply wpList_store_arr rfl rfl 78 _ _ rfl _ rfl _ rfl 4 info78); (repeat (first | (refine heap_at _ _ _ ?_; ((try simp only [plus_size, World.size_alloc, World.size_drew, World.size_setCell, size_setRow, World.heap_drewN, List.length_append]) <;> omega)) | (refine heap_past' ?_ ?_; ((try simp only [plus_size, World.size_alloc, World.size_drew, World.size_setCell, size_setRow, World.heap_drewN, List.length_append]) <;> omega)) | (refine heap_plus' ?_ ?_; ((try simp only [plus_size, World.size_alloc, World.size_drew, World.size_setCell, size_setRow, World.heap_drewN, List.length_append]) <;> omega)) | assumption)); (simp only [arrF_size, arrO_size]); (simp only [arrF_size, arrO_size]); (first | exact arrF_one _ _ _ | exact arrO_one _ _); (repeat (first | (refine setRow_at' ?_; ((try simp only [plus_size, World.size_alloc, World.size_drew, World.size_setCell, size_setRow, World.heap_drewN, List.length_append]) <;> omega)) | (apply setRow_past'; ((try simp only [plus_size, World.size_alloc, World.size_drew, World.size_setCell, size_setRow, World.heap_drewN, List.length_append]) <;> omega)) | (apply setRow_plus'; ((try simp only [plus_size, World.size_alloc, World.size_drew, World.size_setCell, size_setRow, World.heap_drewN, List.length_append]) <;> omega)) | exact rfl)))
                                        | ((with_reducible apply wpList_load_arr rfl 78 _ rfl _ rfl 4 76 Try.underlying78 info78); (repeat (first | (refine heap_at _ _ _ ?_; ((try simp only [plus_size, World.size_alloc, World.size_drew, World.size_setCell, size_setRow, World.heap_drewN, List.length_append]) <;> omega)) | (refine heap_past' ?_ ?_; ((try simp only [plus_size, World.size_alloc, World.size_drew, World.size_setCell, size_setRow, World.heap_drewN, List.length_append]) <;> omega)) | (refine heap_plus' ?_ ?_; ((try simp only [plus_size, World.size_alloc, World.size_drew, World.size_setCell, size_setRow, World.heap_drewN, List.length_append]) <;> omega)) | assumption)); (simp only [arrF_size, arrO_size]))
                                        | (go_at_call 60; refine Calls.mono (HS.out _) ?_; rintro e w'' ⟨rfl, hB⟩; obtain ⟨j5, d5, rfl⟩ := plus_of_below hB; rw [plus_in]; clear hB)
                                        | (go_at_call 61; refine (within_any _ _ _ _).mono ?_; rw [hin]; rintro e w' ⟨rfl, rfl⟩))
          refine bodyPost_ret (v := .tuple #[.agg #[.int .i64 0, .slice none 0 0], .int .i64 3]) (by simp [results, Try.results39, go_sem]) rfl ?_
          exact ⟨_, by rw [(la_no HO.out).1, (la_no HO.out).2.2], by (repeat (first | (with_reducible exact Below.refl _ _) | (with_reducible assumption) | (with_reducible refine below_plus' ?_ ?_; ((try simp only [plus_size, World.size_alloc, World.size_drew, World.size_setCell, size_setRow, World.heap_drewN, List.length_append]) <;> omega)) | (with_reducible refine below_alloc' ?_ ?_; ((try simp only [plus_size, World.size_alloc, World.size_drew, World.size_setCell, size_setRow, World.heap_drewN, List.length_append]) <;> omega)) | with_reducible refine Below.drew ?_ | (with_reducible refine below_drewN' ?_ _) | exact Below.refl _ _)), by rw [(la_no HO.out).2.1]; exact own_nil _ _ _⟩
        | true =>
          have HI2 := Lib.hid hin
          clear hfb hs
          go_wp2_with (first | ((with_reducible apply wpList_store_arr rfl rfl 78 _ _ rfl _ rfl _ rfl 4 info78); (repeat (first | (refine heap_at _ _ _ ?_; ((try simp only [plus_size, World.size_alloc, World.size_drew, World.size_setCell, size_setRow, World.heap_drewN, List.length_append]) <;> omega)) | (refine heap_past' ?_ ?_; ((try simp only [plus_size, World.size_alloc, World.size_drew, World.size_setCell, size_setRow, World.heap_drewN, List.length_append]) <;> omega)) | (refine heap_plus' ?_ ?_; ((try simp only [plus_size, World.size_alloc, World.size_drew, World.size_setCell, size_setRow, World.heap_drewN, List.length_append]) <;> omega)) | assumption)); (simp only [arrF_size, arrO_size]); (simp only [arrF_size, arrO_size]); (first | exact arrF_one _ _ _ | exact arrO_one _ _); (repeat (first | (refine setRow_at' ?_; ((try simp only [plus_size, World.size_alloc, World.size_drew, World.size_setCell, size_setRow, World.heap_drewN, List.length_append]) <;> omega)) | (apply setRow_past'; ((try simp only [plus_size, World.size_alloc, World.size_drew, World.size_setCell, size_setRow, World.heap_drewN, List.length_append]) <;> omega)) | (apply setRow_plus'; ((try simp only [plus_size, World.size_alloc, World.size_drew, World.size_setCell, size_setRow, World.heap_drewN, List.length_append]) <;> omega)) | exact rfl)))
                                        | ((with_reducible apply wpList_load_arr rfl 78 _ rfl _ rfl 4 76 Try.underlying78 info78); (repeat (first | (refine heap_at _ _ _ ?_; ((try simp only [plus_size, World.size_alloc, World.size_drew, World.size_setCell, size_setRow, World.heap_drewN, List.length_append]) <;> omega)) | (refine heap_past' ?_ ?_; ((try simp only [plus_size, World.size_alloc, World.size_drew, World.size_setCell, size_setRow, World.heap_drewN, List.length_append]) <;> omega)) | (refine heap_plus' ?_ ?_; ((try simp only [plus_size, World.size_alloc, World.size_drew, World.size_setCell, size_setRow, World.heap_drewN, List.length_append]) <;> omega)) | assumption)); (simp only [arrF_size, arrO_size]))
                                        | (go_at_call 60; refine Calls.mono (HS.out _) ?_; rintro e w'' ⟨rfl, hB⟩; obtain ⟨j5, d5, rfl⟩ := plus_of_below hB; rw [plus_in]; clear hB)
                                        | (go_at_call 61; refine (within_any _ _ _ _).mono ?_; rw [hin]; rintro e w' ⟨rfl, rfl⟩)
                                        | (at_builtin; go_loud (refine wpList_append1p (W := (((w.alloc (.cells #[.int .i64 low, .slice (some ⟨b, q, none⟩) xs.length c] 57)).alloc (.cells #[.int .i64 0, .slice none 0 0] 37)).alloc (.cells #[.int .i64 low, .slice ao l.length co] 37))) rfl _ _ 22 rfl Try.underlying22 infoI _ rfl _ rfl ?_ (own_plus hown) ?_ ?_; ((try simp only [plus_size, World.size_alloc, World.size_drew, World.size_setCell, size_setRow, World.heap_drewN, List.length_append, List.length_cons]) <;> omega); (omega); intro v' j' d' hown'; clear hown; obtain ⟨av, cv, rfl, hs⟩ := id hown'.reads; clear hs)))
          have hL : (l ++ [nth xs k]).length = l.length + 1 := by simp
          rw [hL] at hown'
          go_roundw
          case rel => exact ⟨.slice av (l.length + 1) cv, _, k + 1, _, _, HBx, by omega, by go_num, rfl, Lib.hid (fun i hi => by by_cases e : i = k; (· rw [e]; exact HI2.out); (· exact HI.out i (by omega))), own_farL hown' (by ((try simp only [plus_size, World.size_alloc, World.size_drew, World.size_setCell, size_setRow, World.heap_drewN, List.length_append]) <;> omega)) (by ((try simp only [plus_size, World.size_alloc, World.size_drew, World.size_setCell, size_setRow, World.heap_drewN, List.length_append]) <;> omega)) (by ((try simp only [plus_size, World.size_alloc, World.size_drew, World.size_setCell, size_setRow, World.heap_drewN, List.length_append]) <;> omega)) List.prefix_rfl⟩
          case measure => simp [intOf]; omega
    · obtain rfl : k = xs.length := by omega
      have HE := Lib.hid (show l = xs by rw [HLl.out, List.take_length])
      have HfI := Lib.hid (show Fits l from fun x hx => by
        rw [HE.out] at hx
        obtain ⟨i, hi, rfl⟩ := List.mem_iff_getElem.1 hx
        have := inB_true (HI.out i hi)
        rw [show nth xs i = xs[i] by simp [nth, hi]] at this
        omega)
      have hll : l.length ≤ 1000000000 := by rw [HE.out]; omega
      have hI := fun w' (hb : Below (plus (((w.alloc (.cells #[.int .i64 low, .slice a xs.length c] 57)).alloc (.cells #[.int .i64 0, .slice none 0 0] 37)).alloc (.cells #[.int .i64 low, .slice ao l.length co] 37)) j d).heap.size (plus (((w.alloc (.cells #[.int .i64 low, .slice a xs.length c] 57)).alloc (.cells #[.int .i64 0, .slice none 0 0] 37)).alloc (.cells #[.int .i64 low, .slice ao l.length co] 37)) j d) w') => impl_IsP low _ l w' (hown.reads.kept hb) hll HfI.out
      cases hok : okL low l with
      | false =>
        simp only [hok] at hI
        have HIs := Lib.hid hI
        have HO := Lib.hid (show okL low xs = false by rw [← HE.out]; exact hok)
        clear hI hok
        go_wp2_with (first | (go_at_call 62; refine Calls.mono (HIs.out _ ?_) ?_; (repeat (first | (with_reducible exact Below.refl _ _) | (with_reducible assumption) | (with_reducible refine below_plus' ?_ ?_; ((try simp only [plus_size, World.size_alloc, World.size_drew, World.size_setCell, size_setRow, World.heap_drewN, List.length_append]) <;> omega)) | (with_reducible refine below_alloc' ?_ ?_; ((try simp only [plus_size, World.size_alloc, World.size_drew, World.size_setCell, size_setRow, World.heap_drewN, List.length_append]) <;> omega)) | with_reducible refine Below.drew ?_ | (with_reducible refine below_drewN' ?_ _) | exact Below.refl _ _)); rintro e w' ⟨rfl, hB⟩; obtain ⟨j5, d5, rfl⟩ := plus_of_below hB; rw [plus_plus]; clear hB))
        refine bodyPost_ret (v := .tuple #[.agg #[.int .i64 0, .slice none 0 0], .int .i64 3]) (by simp [results, Try.results39, go_sem]) rfl ?_
        exact ⟨_, by rw [(la_no HO.out).1, (la_no HO.out).2.2], by (repeat (first | (with_reducible exact Below.refl _ _) | (with_reducible assumption) | (with_reducible refine below_plus' ?_ ?_; ((try simp only [plus_size, World.size_alloc, World.size_drew, World.size_setCell, size_setRow, World.heap_drewN, List.length_append]) <;> omega)) | (with_reducible refine below_alloc' ?_ ?_; ((try simp only [plus_size, World.size_alloc, World.size_drew, World.size_setCell, size_setRow, World.heap_drewN, List.length_append]) <;> omega)) | with_reducible refine Below.drew ?_ | (with_reducible refine below_drewN' ?_ _) | exact Below.refl _ _)), by rw [(la_no HO.out).2.1]; exact own_nil _ _ _⟩
      | true =>
        simp only [hok] at hI
        have HIs := Lib.hid hI
        have HO := Lib.hid (show okL low xs = true by rw [← HE.out]; exact hok)
        clear hI hok
        go_wp2_with (first | (go_at_call 62; refine Calls.mono (HIs.out _ ?_) ?_; (repeat (first | (with_reducible exact Below.refl _ _) | (with_reducible assumption) | (with_reducible refine below_plus' ?_ ?_; ((try simp only [plus_size, World.size_alloc, World.size_drew, World.size_setCell, size_setRow, World.heap_drewN, List.length_append]) <;> omega)) | (with_reducible refine below_alloc' ?_ ?_; ((try simp only [plus_size, World.size_alloc, World.size_drew, World.size_setCell, size_setRow, World.heap_drewN, List.length_append]) <;> omega)) | with_reducible refine Below.drew ?_ | (with_reducible refine below_drewN' ?_ _) | exact Below.refl _ _)); rintro e w' ⟨rfl, hB⟩; obtain ⟨j5, d5, rfl⟩ := plus_of_below hB; rw [plus_plus]; clear hB))
        refine bodyPost_ret (v := .tuple #[.agg #[.int .i64 low, .slice ao l.length co], .int .i64 0]) (by simp [results, Try.results39, go_sem]) rfl ?_
        exact ⟨_, by rw [(la_yes HO.out).1, (la_yes HO.out).2.2], by (repeat (first | (with_reducible exact Below.refl _ _) | (with_reducible assumption) | (with_reducible refine below_plus' ?_ ?_; ((try simp only [plus_size, World.size_alloc, World.size_drew, World.size_setCell, size_setRow, World.heap_drewN, List.length_append]) <;> omega)) | (with_reducible refine below_alloc' ?_ ?_; ((try simp only [plus_size, World.size_alloc, World.size_drew, World.size_setCell, size_setRow, World.heap_drewN, List.length_append]) <;> omega)) | with_reducible refine Below.drew ?_ | (with_reducible refine below_drewN' ?_ _) | exact Below.refl _ _)), by rw [(la_yes HO.out).2.1, ← HE.out]; exact own_farL hown (by ((try simp only [plus_size, World.size_alloc, World.size_drew, World.size_setCell, size_setRow, World.heap_drewN, List.length_append]) <;> omega)) (by ((try simp only [plus_size, World.size_alloc, World.size_drew, World.size_setCell, size_setRow, World.heap_drewN, List.length_append]) <;> omega)) (by ((try simp only [plus_size, World.size_alloc, World.size_drew, World.size_setCell, size_setRow, World.heap_drewN, List.length_append]) <;> omega)) (by simp)⟩
end Go.Proofs.Ytikakoclmmmjdaa
namespace Go.Proofs.Ytikakoclmmmjdaa
open Go.RowKit
set_option linter.unusedSimpArgs false
set_option linter.unusedVariables false
open Go.RowKit
theorem fzo_le (xs : List Int) : fzo xs ≤ xs.length := by
  induction xs with
  | nil => exact Nat.le_refl 0
  | cons x xs ih => simp only [fzo, List.length_cons]; split <;> omega
theorem trimLow_b {low : Int} {xs : List Int} (hlen : xs.length ≤ 20000) (h1 : -10000 ≤ low) (h2 : low ≤ 10000) : -100000 ≤ trimLow low xs ∧ trimLow low xs ≤ 100000 := by
  have := fzo_le xs
  unfold trimLow
  split <;> omega
theorem trimLst_len (xs : List Int) : (trimLst xs).length ≤ xs.length := by
  unfold trimLst
  split
  · exact Nat.zero_le _
  · rw [List.length_take, List.length_drop]; omega
theorem trimLst_nth {xs : List Int} {i : Nat} (h : i < (trimLst xs).length) : ∃ k, k < xs.length ∧ nth (trimLst xs) i = nth xs k := by
  unfold trimLst at h ⊢
  split at h
  · cases h
  · rename_i hz
    rw [if_neg hz]
    rw [List.length_take, List.length_drop] at h
    exact ⟨fzo xs + i, by omega, by rw [nth_take (by omega), nth_drop]⟩
theorem Fw.trim {xs : List Int} (h : Fw xs) : Fw (trimLst xs) := fun i hi => by
  obtain ⟨k, hk, e⟩ := trimLst_nth hi
  rw [e]; exact h k hk
theorem Fw_all {xs : List Int} (h : allC xs = true) : Fw xs := fun i hi => by have := allC_at h hi; omega
theorem atP_b {low : Int} {xs : List Int} (h : allC xs = true) (k : Int) : -1000000000000 ≤ atP low xs k ∧ atP low xs k ≤ 1000000000000 := by
  unfold atP
  split
  · exact allC_at h (by omega)
  · decide
theorem sumP_nth {lp : Int} {xs : List Int} {lq : Int} {ys : List Int} {i : Nat} (h : i < (sumP lp xs lq ys).length) : nth (sumP lp xs lq ys) i = atP lp xs (loP lp lq + i) + atP lq ys (loP lp lq + i) := by
  have h' : i < (hiP lp lq xs ys - loP lp lq).toNat := by simpa [sumP] using h
  have := List.getElem?_range h'
  simp [nth, sumP, this]
theorem sumP_b {lp : Int} {xs : List Int} {lq : Int} {ys : List Int} (h1 : allC xs = true) (h2 : allC ys = true) {i : Nat} (h : i < (sumP lp xs lq ys).length) : -2000000000000 ≤ nth (sumP lp xs lq ys) i ∧ nth (sumP lp xs lq ys) i ≤ 2000000000000 := by
  rw [sumP_nth h]
  have := atP_b (low := lp) h1 (loP lp lq + i)
  have := atP_b (low := lq) h2 (loP lp lq + i)
  omega
theorem sumP_len {lp : Int} {xs : List Int} {lq : Int} {ys : List Int} (h1 : xs.length ≤ 2001) (h2 : ys.length ≤ 2001) (p1 : -1000 ≤ lp) (p2 : lp ≤ 1000) (q1 : -1000 ≤ lq) (q2 : lq ≤ 1000) : (sumP lp xs lq ys).length ≤ 10000 := by
  simp only [sumP, List.length_map, List.length_range, hiP, loP]
  split <;> split <;> omega
/-- what is known of a sum -/
theorem add_ok {lp : Int} {xs : List Int} {lq : Int} {ys : List Int} (h1 : okL lp xs = true) (h2 : okL lq ys = true) : Fw (sumP lp xs lq ys) ∧ -100000 ≤ addLow lp xs lq ys ∧ addLow lp xs lq ys ≤ 100000 ∧ (addLst lp xs lq ys).length ≤ 100000 ∧ Fw (addLst lp xs lq ys) := by
  obtain ⟨a1, a2, a3, a4⟩ := okL_true h1
  obtain ⟨b1, b2, b3, b4⟩ := okL_true h2
  have hs := sumP_len (lp := lp) (lq := lq) a1 b1 a2 a3 b2 b3
  have hF : Fw (sumP lp xs lq ys) := fun i hi => by have := sumP_b (lp := lp) (lq := lq) a4 b4 hi; omega
  have hlo : -10000 ≤ loP lp lq ∧ loP lp lq ≤ 10000 := by unfold loP; split <;> omega
  have hb := trimLow_b (low := loP lp lq) (xs := sumP lp xs lq ys) (by omega) hlo.1 hlo.2
  have hl := trimLst_len (sumP lp xs lq ys)
  refine ⟨hF, ?_⟩
  unfold addLow addLst
  split
  · exact ⟨by omega, by omega, by omega, Fw_all b4⟩
  · split
    · exact ⟨by omega, by omega, by omega, Fw_all a4⟩
    · exact ⟨hb.1, hb.2, by omega, hF.trim⟩
/-- what AddLaurents answers -/
def adN (lp : Int) (xs : List Int) (lq : Int) (ys : List Int) : Int := if okL lp xs = true ∧ okL lq ys = true then laN (addLow lp xs lq ys) (addLst lp xs lq ys) else 0
def adL (lp : Int) (xs : List Int) (lq : Int) (ys : List Int) : List Int := if okL lp xs = true ∧ okL lq ys = true then laL (addLow lp xs lq ys) (addLst lp xs lq ys) else []
def adC (lp : Int) (xs : List Int) (lq : Int) (ys : List Int) : Int := if okL lp xs = true ∧ okL lq ys = true then laC (addLow lp xs lq ys) (addLst lp xs lq ys) else 1
theorem ad_no {lp : Int} {xs : List Int} {lq : Int} {ys : List Int} (h : (okL lp xs && okL lq ys) = false) : adN lp xs lq ys = 0 ∧ adL lp xs lq ys = [] ∧ adC lp xs lq ys = 1 := by
  have : ¬ (okL lp xs = true ∧ okL lq ys = true) := by
    intro ⟨a, b⟩
    rw [a, b] at h; cases h
  simp only [adN, adL, adC, if_neg this, and_self]
theorem ad_yes {lp : Int} {xs : List Int} {lq : Int} {ys : List Int} (h1 : okL lp xs = true) (h2 : okL lq ys = true) : adN lp xs lq ys = laN (addLow lp xs lq ys) (addLst lp xs lq ys) ∧ adL lp xs lq ys = laL (addLow lp xs lq ys) (addLst lp xs lq ys) ∧ adC lp xs lq ys = laC (addLow lp xs lq ys) (addLst lp xs lq ys) := by
  have : okL lp xs = true ∧ okL lq ys = true := ⟨h1, h2⟩
  simp only [adN, adL, adC, if_pos this, and_self]
theorem own_farG {e : TypeId} {X Y : World} {B B' : Nat} {J J' : List Obj} {d d' : Nat} {v : Value} {xs : List Int} (h : own e (plus X J d) B v xs) (hs : X.heap.size = Y.heap.size) (hB : X.heap.size ≤ B) (hB' : B' ≤ B) (hp : J <+: J') : own e (plus Y J' d') B' v xs := own_farL h hs hB hB' hp
theorem polyOf_sl (low : Int) (v : Value) (xs : List Int) (w : World) (h : reads w v xs) (hlen : xs.length ≤ 3000) (hfit : Fits xs) : Calls Try.prog 38 #[.agg #[.int .i64 low, v]] w fun e w' => ∃ a c, e = .returned (.agg #[.int .i64 low, .slice a xs.length c]) ∧ Below w.heap.size w w' ∧ readsW w' (.slice a xs.length c) xs := by
  refine (polyOf_any low v xs w h hlen hfit).mono ?_
  rintro e w' ⟨v', rfl, hB, ho⟩
  have hr := ho.reads
  obtain ⟨a, c, rfl, hh⟩ := id hr
  exact ⟨a, c, rfl, hB, hr⟩
theorem add_sl (lp : Int) (v1 : Value) (xs : List Int) (lq : Int) (v2 : Value) (ys : List Int) (w : World) (h1 : readsW w v1 xs) (h2 : readsW w v2 ys) (hl1 : xs.length ≤ 5000) (hl2 : ys.length ≤ 5000) (hp1 : -5000 ≤ lp) (hp2 : lp ≤ 5000) (hq1 : -5000 ≤ lq) (hq2 : lq ≤ 5000) (hf : Fw (sumP lp xs lq ys)) : Calls Try.prog 37 #[.agg #[.int .i64 lp, v1], .agg #[.int .i64 lq, v2]] w fun e w' => ∃ a c, e = .returned (.agg #[.int .i64 (addLow lp xs lq ys), .slice a (addLst lp xs lq ys).length c]) ∧ Below w.heap.size w w' ∧ readsW w' (.slice a (addLst lp xs lq ys).length c) (addLst lp xs lq ys) := by
  refine (add_any lp v1 xs lq v2 ys w h1 h2 hl1 hl2 hp1 hp2 hq1 hq2 hf).mono ?_
  rintro e w' ⟨⟨v', rfl, hR⟩, hB⟩
  obtain ⟨a, c, rfl, hh⟩ := id hR
  exact ⟨a, c, rfl, hB, hR⟩
theorem retL_form {e : TypeId} {w w' : World} {n c : Int} {xs : List Int} {en : Ending} (h : RetB2 e w n xs c en w') : ∃ v, en = .returned (.tuple #[.agg #[.int .i64 n, v], .int .i64 c]) ∧ Below w.heap.size w w' ∧ own e w' w.heap.size v xs := h
theorem readsL_form {w : World} {v : Value} {xs : List Int} (h : reads w v xs) : ∃ a c, v = .slice a xs.length c := by
  obtain ⟨a, c, rfl, _⟩ := h
  exact ⟨a, c, rfl⟩
end Go.Proofs.Ytikakoclmmmjdaa
