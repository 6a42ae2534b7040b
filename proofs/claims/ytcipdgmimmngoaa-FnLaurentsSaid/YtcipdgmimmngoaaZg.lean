/- Two polynomials added, by the reference. Conditions: as each theorem says. -/
import Derived.Test.YtcipdgmimmngoaaZf
import Derived.BigQuiet
namespace Go.Proofs.Ytcipdgmimmngoaa
open Go.RowKit
set_option linter.unusedSimpArgs false
set_option linter.unusedVariables false
open Go.RowKit
/-- the numbers f 0, f 1, .. -/
def lstI (N : Nat) (f : Nat → Int) : List Int := (List.range N).map f
theorem lstI_length (N f) : (lstI N f).length = N := by simp [lstI]
theorem nth_lstI {N f i} (h : i < N) : nth (lstI N f) i = f i := by simp [nth, lstI, h]
theorem lstI_set (N : Nat) (f : Nat → Int) (p : Nat) (u : Int) : (lstI N f).set p u = lstI N (fun j => if j = p then u else f j) := by
  apply List.ext_getElem?
  intro i
  simp only [lstI, List.getElem?_set, List.getElem?_map, List.length_map, List.length_range]
  by_cases hi : i < N
  · rw [List.getElem?_range hi]
    by_cases e : p = i
    · subst e; simp [hi]
    · have : i ≠ p := fun h => e h.symm
      simp [e, this]
  · have h1 : (List.range N)[i]? = none := List.getElem?_eq_none (by simp; omega)
    rw [h1]
    by_cases e : p = i
    · subst e; simp [hi]
    · simp [e]
theorem lstI_ext {N : Nat} {f g : Nat → Int} (h : ∀ i, i < N → f i = g i) : lstI N f = lstI N g := by
  simp only [lstI]
  exact List.map_congr_left fun i hi => h i (List.mem_range.1 hi)
theorem lstI_zero (N : Nat) : List.replicate N (0 : Int) = lstI N (fun _ => 0) := by
  simp [lstI, List.map_const']
theorem atP_none (n z : Int) : atP n [] z = 0 := by unfold atP; split; (· simp [nth]); (· rfl)
theorem atP_step {n : Int} {xs : List Int} {k : Nat} (hk : k < xs.length) (z : Int) : atP n (xs.take (k + 1)) z = if z = n + k then nth xs k else atP n (xs.take k) z := by
  unfold atP
  rw [List.length_take, List.length_take, Nat.min_eq_left (by omega), Nat.min_eq_left (by omega)]
  by_cases h : z = n + k
  · subst h
    rw [if_pos (by omega), if_pos rfl, nth_take (by omega)]
    congr 1; omega
  · rw [if_neg h]
    by_cases h2 : n ≤ z ∧ z < n + k
    · rw [if_pos (by omega), if_pos h2, nth_take (by omega), nth_take (by omega)]
    · rw [if_neg (by omega), if_neg h2]
theorem atP_end {n : Int} {xs : List Int} {k : Nat} : atP n (xs.take k) (n + k) = 0 := by
  unfold atP
  split
  · exact nth_over (by rw [List.length_take] at *; omega)
  · rfl
/-- the list behind k rounds of the first loop, and of the second one -/
def fA (n : Int) (xs : List Int) (lo : Int) (k : Nat) : Nat → Int := fun j => atP n (xs.take k) (lo + j)
def fB (n : Int) (xs : List Int) (m : Int) (ys : List Int) (lo : Int) (k : Nat) : Nat → Int := fun j => atP n xs (lo + j) + atP m (ys.take k) (lo + j)
theorem fA_zero (n : Int) (xs : List Int) (lo : Int) : fA n xs lo 0 = fun _ => 0 := by funext j; simp [fA, atP_none]
theorem fA_step {n : Int} {xs : List Int} {lo : Int} {k p N : Nat} (hk : k < xs.length) (hp : lo + p = n + k) : (lstI N (fA n xs lo k)).set p (nth xs k) = lstI N (fA n xs lo (k + 1)) := by
  rw [lstI_set]
  refine lstI_ext fun j hj => ?_
  simp only [fA, atP_step hk]
  by_cases e : j = p
  · subst e; rw [if_pos rfl, if_pos hp]
  · rw [if_neg e, if_neg (by omega)]
theorem fA_full {n : Int} {xs : List Int} {m : Int} {ys : List Int} {lo : Int} : fA n xs lo xs.length = fB n xs m ys lo 0 := by
  funext j; simp [fA, fB, atP_none]
theorem fB_step {n : Int} {xs : List Int} {m : Int} {ys : List Int} {lo : Int} {k p N : Nat} (hk : k < ys.length) (hp : lo + p = m + k) : (lstI N (fB n xs m ys lo k)).set p (fB n xs m ys lo k p + nth ys k) = lstI N (fB n xs m ys lo (k + 1)) := by
  rw [lstI_set]
  refine lstI_ext fun j hj => ?_
  simp only [fB, atP_step hk]
  by_cases e : j = p
  · subst e; rw [if_pos rfl, if_pos hp, hp, atP_end]; omega
  · rw [if_neg e, if_neg (by omega)]
theorem fB_b {n : Int} {xs : List Int} {m : Int} {ys : List Int} (h1 : allC xs = true) (h2 : allC ys = true) (lo : Int) (k p : Nat) : -2000000000000 ≤ fB n xs m ys lo k p ∧ fB n xs m ys lo k p ≤ 2000000000000 := by
  unfold fB
  have a := atP_b (low := n) h1 (lo + p)
  have b : -1000000000000 ≤ atP m (ys.take k) (lo + p) ∧ atP m (ys.take k) (lo + p) ≤ 1000000000000 := by
    refine atP_b (allC_good fun i hi => ?_) _
    rw [List.length_take] at hi
    rw [nth_take (by omega)]
    have := allC_at h2 (i := i) (by omega)
    simp [inB]; omega
  omega
theorem atP_ge {n : Int} {xs : List Int} (j : Nat) (h : j < xs.length) : atP n xs (n + j) = nth xs j := atP_in h
theorem trim_self {low : Int} {xs : List Int} (h : okL low xs = true) : trimLow low xs = low ∧ trimLst xs = xs := by
  by_cases h0 : xs.length = 0
  · have hx := List.eq_nil_of_length_eq_zero h0
    rw [okL_0 h0, decide_eq_true_eq] at h
    subst hx; subst h
    exact ⟨rfl, rfl⟩
  · simp only [okL, if_neg h0, Bool.and_eq_true, decide_eq_true_eq, Bool.not_eq_true', decide_eq_false_iff_not] at h
    have e := trim_is (low := low) (xs := xs) (a := 0) (m := xs.length) (fun i hi => by omega) (fun i hi => nth_over (by omega)) (.inr ⟨h.1.1.2, by rw [Nat.zero_add]; exact h.1.2⟩)
    rw [if_neg h0] at e
    simpa using e
/-- both sides agree -/
theorem add_left_none {n : Int} {m : Int} {ys : List Int} (h1 : okL n [] = true) (h2 : okL m ys = true) : addLow n [] m ys = trimLow m (lstI ys.length (fB n [] m ys m ys.length)) ∧ addLst n [] m ys = trimLst (lstI ys.length (fB n [] m ys m ys.length)) := by
  have e : lstI ys.length (fB n [] m ys m ys.length) = ys := by
    apply List.ext_getElem?
    intro i
    by_cases hi : i < ys.length
    · have : (List.range ys.length)[i]? = some i := List.getElem?_range hi
      simp only [lstI, List.getElem?_map, this, Option.map_some, fB, atP_none, List.take_length, atP_ge i hi, Int.zero_add]
      simp [nth, hi]
    · rw [List.getElem?_eq_none (by rw [lstI_length]; omega), List.getElem?_eq_none (by omega)]
  rw [e, (trim_self h2).1, (trim_self h2).2]
  simp [addLow, addLst]
theorem add_right_none {n : Int} {xs : List Int} {m : Int} (h1 : okL n xs = true) (h2 : okL m [] = true) : addLow n xs m [] = n ∧ addLst n xs m [] = xs := by
  by_cases h0 : xs.length = 0
  · rw [okL_0 h0, decide_eq_true_eq] at h1
    rw [okL_0 rfl, decide_eq_true_eq] at h2
    have hx := List.eq_nil_of_length_eq_zero h0
    subst hx
    simp [addLow, addLst, h1, h2]
  · simp [addLow, addLst, h0]
theorem add_both {n : Int} {xs : List Int} {m : Int} {ys : List Int} {lo hi : Int} (h1 : ¬ xs.length = 0) (h2 : ¬ ys.length = 0) (hlo : loP n m = lo) (hhi : hiP n m xs ys = hi) : addLow n xs m ys = trimLow lo (lstI (hi - lo).toNat (fB n xs m ys lo ys.length)) ∧ addLst n xs m ys = trimLst (lstI (hi - lo).toNat (fB n xs m ys lo ys.length)) := by
  have e : sumP n xs m ys = lstI (hi - lo).toNat (fB n xs m ys lo ys.length) := by
    simp only [sumP, hlo, hhi]
    exact lstI_ext fun i _ => by simp only [fB, List.take_length]
  simp only [addLow, addLst, if_neg h1, if_neg h2, hlo, e, and_self]
theorem retB_form {e : TypeId} {w w' : World} {n : Int} {xs : List Int} {en : Ending} (h : RetB e w n xs en w') : ∃ v, en = .returned (.agg #[.int .i64 n, v]) ∧ Below w.heap.size w w' ∧ own e w' w.heap.size v xs := h
theorem reads_cells {w : World} {a : Option Addr} {n c : Nat} {xs : List Int} (h : reads w (.slice a n c) xs) (h0 : 0 < xs.length) : ∃ b o, a = some ⟨b, o, none⟩ ∧ b < w.heap.size ∧ ∀ i, i < xs.length → w.cell? ⟨b, o + i, none⟩ = some (.int .i64 (nth xs i)) := by
  obtain ⟨p, c, hv, h⟩ := h
  cases hv
  obtain ⟨b, o, rfl, mm⟩ := h.resolve_left (fun e => by rw [e] at h0; cases h0)
  exact ⟨b, o, rfl, World.block_lt_of_cell? w _ (mm 0 h0), mm⟩
set_option maxHeartbeats 4000000 in
theorem l05Add_any (n : Int) (v1 : Value) (xs : List Int) (m : Int) (v2 : Value) (ys : List Int) (w : World) (h1 : reads w v1 xs) (h2 : reads w v2 ys) (k1 : okL n xs = true) (k2 : okL m ys = true) : Calls Try.prog 29 #[.agg #[.int .i64 n, v1], .agg #[.int .i64 m, v2], .int .i64 1] w (RetB 2 w (addLow n xs m ys) (addLst n xs m ys)) := by
  obtain ⟨i1, i2, i3, i4⟩ := okL_true k1
  obtain ⟨l1, l2, l3, l4⟩ := okL_true k2
  have H1 := Lib.hid h1
  have H2 := Lib.hid h2
  obtain ⟨a1, c1, rfl⟩ := readsL_form h1
  obtain ⟨a2, c2, rfl⟩ := readsL_form h2
  by_cases hy : ys.length = 0
  · obtain rfl := List.eq_nil_of_length_eq_zero hy
    obtain ⟨e1, e2⟩ := add_right_none k1 k2
    rw [e1, e2]
    have HC := Lib.hid (fun w' (hb : Below w.heap.size w w') => l01Own_any _ xs w' (h1.kept hb) (by omega))
    clear h1 h2 k1 k2 i4 l4 e1 e2 hy
    go_enter Try.func29, Try.ntmps29
    go_upto_region 2 with (fail)
    go_region_with (first | (go_at_call 50; refine Calls.mono (HC.out _ ?_) ?_; (repeat (first | (with_reducible exact Below.refl _ _) | (with_reducible assumption) | (with_reducible refine below_plus' ?_ ?_; ((try simp only [plus_size, World.size_alloc, World.size_drew, World.size_setCell, size_setRow, World.heap_drewN, List.length_append]) <;> omega)) | (with_reducible refine below_alloc' ?_ ?_; ((try simp only [plus_size, World.size_alloc, World.size_drew, World.size_setCell, size_setRow, World.heap_drewN, List.length_append]) <;> omega)) | with_reducible refine Below.drew ?_ | (with_reducible refine below_drewN' ?_ _) | exact Below.refl _ _)); intro e w' hh; obtain ⟨vG, rfl, hB, hoG⟩ := retI_form hh; clear hh; have hrG := hoG.reads; obtain ⟨aG, cG, rfl⟩ := readsL_form hrG; obtain ⟨j, d, rfl⟩ := plus_of_below hB; clear hB))
    all_goals
      go_wp2
      refine bodyPost_ret (v := .agg #[.int .i64 n, .slice aG xs.length cG]) (by simp [results, Try.results29, go_sem]) rfl ?_
      exact ⟨_, rfl, by (repeat (first | (with_reducible exact Below.refl _ _) | (with_reducible assumption) | (with_reducible refine below_plus' ?_ ?_; ((try simp only [plus_size, World.size_alloc, World.size_drew, World.size_setCell, size_setRow, World.heap_drewN, List.length_append]) <;> omega)) | (with_reducible refine below_alloc' ?_ ?_; ((try simp only [plus_size, World.size_alloc, World.size_drew, World.size_setCell, size_setRow, World.heap_drewN, List.length_append]) <;> omega)) | with_reducible refine Below.drew ?_ | (with_reducible refine below_drewN' ?_ _) | exact Below.refl _ _)), by ((try simp only [plus_plus] at hoG ⊢); exact own_farG hoG (by ((try simp only [plus_size, World.size_alloc, World.size_drew, World.size_setCell, size_setRow, World.heap_drewN, List.length_append]) <;> omega)) (by ((try simp only [plus_size, World.size_alloc, World.size_drew, World.size_setCell, size_setRow, World.heap_drewN, List.length_append]) <;> omega)) (by ((try simp only [plus_size, World.size_alloc, World.size_drew, World.size_setCell, size_setRow, World.heap_drewN, List.length_append]) <;> omega)) (by (repeat (first | (with_reducible exact List.prefix_rfl) | (with_reducible exact List.nil_prefix) | (refine List.IsPrefix.trans ?_ (List.prefix_append _ _))))))⟩
  · have hyb : ((ys.length : Int) == 0) = false := beq_eq_false_iff_ne.2 (by omega)
    by_cases hx : xs.length = 0
    · have hxe := List.eq_nil_of_length_eq_zero hx
      have ee := add_left_none (n := n) (m := m) (by rw [← hxe]; exact k1) k2
      rw [← hxe] at ee
      obtain ⟨e1, e2⟩ := ee
      have HX0 := Lib.hid hx
      have hxn : ¬ (0 : Int) < (xs.length : Int) := by omega
      clear hx hxe
      rw [e1, e2]
      have hNN : m + (ys.length : Int) - m = (ys.length : Int) := by omega
      generalize hr : trimLow m (lstI ys.length (fB n xs m ys m ys.length)) = r
      generalize hR : trimLst (lstI ys.length (fB n xs m ys m ys.length)) = R
      have HrR := Lib.hid (And.intro hr hR)
      clear hr hR
      have HAl := Lib.hid i4
      have HBl := Lib.hid l4
      clear h1 h2 k1 k2 i4 l4 e1 e2
      go_enter Try.func29, Try.ntmps29
      go_upto_region 3 with (fail)
      go_quiet (fail)
      go_wp2_with (first | (at_make; refine wpList_make_ints _ rfl _ _ 22 rfl 2 Try.underlying22 infoI ys.length rfl rfl (by omega) ?_; intro w' ho hB; replace hB := Below.trans (show Below (((w.alloc (.cells #[.int .i64 n, .slice a1 xs.length c1] 26)).alloc (.cells #[.int .i64 m, .slice a2 ys.length c2] 26)).alloc (.cells #[.int .i64 0, .slice none 0 0] 26)).heap.size (((w.alloc (.cells #[.int .i64 n, .slice a1 xs.length c1] 26)).alloc (.cells #[.int .i64 m, .slice a2 ys.length c2] 26)).alloc (.cells #[.int .i64 0, .slice none 0 0] 26)) _ by (repeat (first | (with_reducible exact Below.refl _ _) | (with_reducible assumption) | (with_reducible refine below_plus' ?_ ?_; ((try simp only [plus_size, World.size_alloc, World.size_drew, World.size_setCell, size_setRow, World.heap_drewN, List.length_append]) <;> omega)) | (with_reducible refine below_alloc' ?_ ?_; ((try simp only [plus_size, World.size_alloc, World.size_drew, World.size_setCell, size_setRow, World.heap_drewN, List.length_append]) <;> omega)) | with_reducible refine Below.drew ?_ | (with_reducible refine below_drewN' ?_ _) | exact Below.refl _ _))) hB; (simp only [lstI_zero, World.heap_drewN, World.size_alloc] at ho)))
      go_loopw [10] (fun sl wr => ∃ (k : Nat), k ≤ xs.length ∧ sl = .int .i64 k ∧ own 2 wr (((w.alloc (.cells #[.int .i64 n, .slice a1 xs.length c1] 26)).alloc (.cells #[.int .i64 m, .slice a2 ys.length c2] 26)).alloc (.cells #[.int .i64 0, .slice none 0 0] 26)).heap.size (.slice (some ⟨w.heap.size + 1 + 1 + 1, 0, none⟩) ys.length ys.length) (lstI ys.length (fA n xs m k)) ∧ Below (((w.alloc (.cells #[.int .i64 n, .slice a1 xs.length c1] 26)).alloc (.cells #[.int .i64 m, .slice a2 ys.length c2] 26)).alloc (.cells #[.int .i64 0, .slice none 0 0] 26)).heap.size (((w.alloc (.cells #[.int .i64 n, .slice a1 xs.length c1] 26)).alloc (.cells #[.int .i64 m, .slice a2 ys.length c2] 26)).alloc (.cells #[.int .i64 0, .slice none 0 0] 26)) wr) (fun sl _ => xs.length - (intOf sl).toNat)
      case atStart => exact ⟨0, by omega, by go_num, by rw [fA_zero]; exact ho.mono (by ((try simp only [plus_size, World.size_alloc, World.size_drew, World.size_setCell, size_setRow, World.heap_drewN, List.length_append]) <;> omega)), by (repeat (first | (with_reducible exact Below.refl _ _) | (with_reducible assumption) | (with_reducible refine below_plus' ?_ ?_; ((try simp only [plus_size, World.size_alloc, World.size_drew, World.size_setCell, size_setRow, World.heap_drewN, List.length_append]) <;> omega)) | (with_reducible refine below_alloc' ?_ ?_; ((try simp only [plus_size, World.size_alloc, World.size_drew, World.size_setCell, size_setRow, World.heap_drewN, List.length_append]) <;> omega)) | with_reducible refine Below.drew ?_ | (with_reducible refine below_drewN' ?_ _) | exact Below.refl _ _))⟩
      case round =>
        clear ho hB
        obtain ⟨k, hk, rfl, hown, hbel⟩ := hrel
        obtain ⟨j0, d0, rfl⟩ := plus_of_below hbel
        obtain rfl : k = xs.length := by have := HX0.out; omega
        rw [fA_full (m := m) (ys := ys)] at hown
        go_wp2
        go_loopw [11] (fun sl wr => ∃ (k : Nat), k ≤ ys.length ∧ sl = .int .i64 k ∧ own 2 wr (((w.alloc (.cells #[.int .i64 n, .slice a1 xs.length c1] 26)).alloc (.cells #[.int .i64 m, .slice a2 ys.length c2] 26)).alloc (.cells #[.int .i64 0, .slice none 0 0] 26)).heap.size (.slice (some ⟨w.heap.size + 1 + 1 + 1, 0, none⟩) ys.length ys.length) (lstI ys.length (fB n xs m ys m k)) ∧ Below (((w.alloc (.cells #[.int .i64 n, .slice a1 xs.length c1] 26)).alloc (.cells #[.int .i64 m, .slice a2 ys.length c2] 26)).alloc (.cells #[.int .i64 0, .slice none 0 0] 26)).heap.size (((w.alloc (.cells #[.int .i64 n, .slice a1 xs.length c1] 26)).alloc (.cells #[.int .i64 m, .slice a2 ys.length c2] 26)).alloc (.cells #[.int .i64 0, .slice none 0 0] 26)) wr) (fun sl _ => ys.length - (intOf sl).toNat)
        case atStart => exact ⟨0, by omega, by go_num, hown, hbel⟩
        case round =>
          clear hown hbel
          obtain ⟨k, hk, rfl, hown, hbel⟩ := hrel
          obtain ⟨j0, d0, rfl⟩ := plus_of_below hbel
          by_cases hlt : k < ys.length
          · obtain ⟨b, o, rfl, hbk, mm⟩ := reads_cells H2.out (by omega)
            have g1 := mm k hlt
            have hb1 : b < w.heap.size + 1 := by omega
            have hb2 : b < w.heap.size + 1 + 1 := by omega
            have hb3 : b < w.heap.size + 1 + 1 + 1 := by omega
            have hb4 : b < w.heap.size + 1 + 1 + 1 + j0.length := by omega
            clear mm
            have hp : m - m + (k : Int) = k := by omega
            have hp1 : (k : Int) < (ys.length : Int) := by omega
            have hpn : k < ys.length := by omega
            have hgl := (hown.lt _ rfl).2
            (simp only [plus_size, World.size_alloc] at hgl)
            have c5 := hown.cell (i := k) (by rw [lstI_length]; exact hpn)
            rw [nth_lstI hpn] at c5
            have y1 := (allC_at HBl.out hlt).1
            have y2 := (allC_at HBl.out hlt).2
            have y3 := (fB_b (n := n) (m := m) HAl.out HBl.out m k k).1
            have y4 := (fB_b (n := n) (m := m) HAl.out HBl.out m k k).2
            go_wp2_with fail
            refine region_plus_tail 15 (by kernel_rfl) (by kernel_rfl) ?_
            simp only [List.take_succ_cons, List.take_zero, List.drop_succ_cons, List.drop_zero]
            repeat (go_big_quiet_step (first | fail))
            refine wpQuiet_nil ?_
            intro _ hw'
            obtain ⟨q, hw''⟩ := hw'
            subst hw''
            rw [plusq_eq]
            generalize q.j = j
            generalize q.d = d
            clear q
            rw [plus_plus]
            have hown1 := own_plus (j' := j) (d' := d) hown
            have f1 := hown1.free k
            have c6 := hown1.cell (i := k) (by rw [lstI_length]; exact hpn)
            have hg1 := (hown1.lt _ rfl).2
            (simp only [plus_size, World.size_alloc] at hg1)
            go_wp2
            refine ⟨⟨k + 1, by omega, by go_num, ?_, ?_⟩, ?_⟩
            · have e := hown1.set k (fB n xs m ys m k k + nth ys k)
              rw [fB_step hlt (by omega)] at e
              exact e
            · exact (show Below (((w.alloc (.cells #[.int .i64 n, .slice a1 xs.length c1] 26)).alloc (.cells #[.int .i64 m, .slice (some ⟨b, o, none⟩) ys.length c2] 26)).alloc (.cells #[.int .i64 0, .slice none 0 0] 26)).heap.size (((w.alloc (.cells #[.int .i64 n, .slice a1 xs.length c1] 26)).alloc (.cells #[.int .i64 m, .slice (some ⟨b, o, none⟩) ys.length c2] 26)).alloc (.cells #[.int .i64 0, .slice none 0 0] 26)) (plus (((w.alloc (.cells #[.int .i64 n, .slice a1 xs.length c1] 26)).alloc (.cells #[.int .i64 m, .slice (some ⟨b, o, none⟩) ys.length c2] 26)).alloc (.cells #[.int .i64 0, .slice none 0 0] 26)) (j0 ++ j) d) by (repeat (first | (with_reducible exact Below.refl _ _) | (with_reducible assumption) | (with_reducible refine below_plus' ?_ ?_; ((try simp only [plus_size, World.size_alloc, World.size_drew, World.size_setCell, size_setRow, World.heap_drewN, List.length_append]) <;> omega)) | (with_reducible refine below_alloc' ?_ ?_; ((try simp only [plus_size, World.size_alloc, World.size_drew, World.size_setCell, size_setRow, World.heap_drewN, List.length_append]) <;> omega)) | with_reducible refine Below.drew ?_ | (with_reducible refine below_drewN' ?_ _) | exact Below.refl _ _))).trans (below_of_grown (grownBy_setCell _ _ _ _) (by ((try simp only [plus_size, World.size_alloc, World.size_drew, World.size_setCell, size_setRow, World.heap_drewN, List.length_append]) <;> omega)) (fun q hq => by cases hq; ((try simp only [plus_size, World.size_alloc, World.size_drew, World.size_setCell, size_setRow, World.heap_drewN, List.length_append]) <;> omega)))
            · simp [intOf]; omega
          · obtain rfl : k = ys.length := by omega
            have HTr := l05Trim_any m _ ys.length (lstI ys.length (fB n xs m ys m ys.length)) _ (by rw [lstI_length]; exact hown.reads) (by rw [lstI_length]; exact Nat.le_refl _) (by rw [lstI_length]; omega) (by omega) (by omega)
            rw [lstI_length, HrR.out.1, HrR.out.2] at HTr
            replace HTr := Lib.hid HTr
            clear hown
            go_wp2_with (first | (go_at_call 39; with_reducible refine Calls.mono HTr.out ?_; intro e w' hh; obtain ⟨vG, rfl, hB, hoG⟩ := retB_form hh; clear hh; have hrG := hoG.reads; obtain ⟨aG, cG, rfl⟩ := readsL_form hrG; obtain ⟨j, d, rfl⟩ := plus_of_below hB; clear hB))
            refine bodyPost_ret (v := .agg #[.int .i64 r, .slice aG R.length cG]) (by simp [results, Try.results29, go_sem]) rfl ?_
            exact ⟨_, rfl, by (repeat (first | (with_reducible exact Below.refl _ _) | (with_reducible assumption) | (with_reducible refine below_plus' ?_ ?_; ((try simp only [plus_size, World.size_alloc, World.size_drew, World.size_setCell, size_setRow, World.heap_drewN, List.length_append]) <;> omega)) | (with_reducible refine below_alloc' ?_ ?_; ((try simp only [plus_size, World.size_alloc, World.size_drew, World.size_setCell, size_setRow, World.heap_drewN, List.length_append]) <;> omega)) | with_reducible refine Below.drew ?_ | (with_reducible refine below_drewN' ?_ _) | exact Below.refl _ _)), by ((try simp only [plus_plus] at hoG ⊢); exact own_farG hoG (by ((try simp only [plus_size, World.size_alloc, World.size_drew, World.size_setCell, size_setRow, World.heap_drewN, List.length_append]) <;> omega)) (by ((try simp only [plus_size, World.size_alloc, World.size_drew, World.size_setCell, size_setRow, World.heap_drewN, List.length_append]) <;> omega)) (by ((try simp only [plus_size, World.size_alloc, World.size_drew, World.size_setCell, size_setRow, World.heap_drewN, List.length_append]) <;> omega)) (by (repeat (first | (with_reducible exact List.prefix_rfl) | (with_reducible exact List.nil_prefix) | (refine List.IsPrefix.trans ?_ (List.prefix_append _ _))))))⟩
    · obtain ⟨lo, hlo⟩ : ∃ lo, loP n m = lo := ⟨_, rfl⟩
      obtain ⟨hi, hhi⟩ : ∃ hi, hiP n m xs ys = hi := ⟨_, rfl⟩
      obtain ⟨e1, e2⟩ := add_both hx hy hlo hhi
      have q1 : (if n < m then n else m) = lo := by rw [← hlo]; unfold loP; split <;> split <;> omega
      have q2 : (if m + (ys.length : Int) < n + (xs.length : Int) then n + (xs.length : Int) else m + (ys.length : Int)) = hi := by rw [← hhi]; unfold hiP; split <;> split <;> omega
      have b1 : lo ≤ n := by rw [← q1]; split <;> omega
      have b2 : lo ≤ m := by rw [← q1]; split <;> omega
      have b3 : n + xs.length ≤ hi := by rw [← q2]; split <;> omega
      have b4 : m + ys.length ≤ hi := by rw [← q2]; split <;> omega
      have b5 : -1000 ≤ lo := by rw [← q1]; split <;> omega
      have b6 : hi ≤ 4000 := by rw [← q2]; split <;> omega
      obtain ⟨N, rfl⟩ : ∃ N : Nat, hi = lo + N := ⟨(hi - lo).toNat, by omega⟩
      have hNN : lo + (N : Int) - lo = (N : Int) := by omega
      rw [show (lo + (N : Int) - lo).toNat = N by omega] at e1 e2
      rw [e1, e2]
      have hxb : ((xs.length : Int) == 0) = false := beq_eq_false_iff_ne.2 (by omega)
      generalize hr : trimLow lo (lstI N (fB n xs m ys lo ys.length)) = r
      generalize hR : trimLst (lstI N (fB n xs m ys lo ys.length)) = R
      have HrR := Lib.hid (And.intro hr hR)
      clear hr hR
      have HAl := Lib.hid i4
      have HBl := Lib.hid l4
      clear h1 h2 k1 k2 i4 l4 e1 e2 hlo hhi
      go_enter Try.func29, Try.ntmps29
      go_upto_region 3 with (fail)
      go_quiet (fail)
      go_upto_region 7 with (fail)
      clear q1 q2
      go_wp2_with (first | (at_make; refine wpList_make_ints _ rfl _ _ 22 rfl 2 Try.underlying22 infoI N rfl rfl (by omega) ?_; intro w' ho hB; replace hB := Below.trans (show Below (((w.alloc (.cells #[.int .i64 n, .slice a1 xs.length c1] 26)).alloc (.cells #[.int .i64 m, .slice a2 ys.length c2] 26)).alloc (.cells #[.int .i64 0, .slice none 0 0] 26)).heap.size (((w.alloc (.cells #[.int .i64 n, .slice a1 xs.length c1] 26)).alloc (.cells #[.int .i64 m, .slice a2 ys.length c2] 26)).alloc (.cells #[.int .i64 0, .slice none 0 0] 26)) _ by (repeat (first | (with_reducible exact Below.refl _ _) | (with_reducible assumption) | (with_reducible refine below_plus' ?_ ?_; ((try simp only [plus_size, World.size_alloc, World.size_drew, World.size_setCell, size_setRow, World.heap_drewN, List.length_append]) <;> omega)) | (with_reducible refine below_alloc' ?_ ?_; ((try simp only [plus_size, World.size_alloc, World.size_drew, World.size_setCell, size_setRow, World.heap_drewN, List.length_append]) <;> omega)) | with_reducible refine Below.drew ?_ | (with_reducible refine below_drewN' ?_ _) | exact Below.refl _ _))) hB; (simp only [lstI_zero, World.heap_drewN, World.size_alloc] at ho)))
      go_loopw [10] (fun sl wr => ∃ (k : Nat), k ≤ xs.length ∧ sl = .int .i64 k ∧ own 2 wr (((w.alloc (.cells #[.int .i64 n, .slice a1 xs.length c1] 26)).alloc (.cells #[.int .i64 m, .slice a2 ys.length c2] 26)).alloc (.cells #[.int .i64 0, .slice none 0 0] 26)).heap.size (.slice (some ⟨w.heap.size + 1 + 1 + 1, 0, none⟩) N N) (lstI N (fA n xs lo k)) ∧ Below (((w.alloc (.cells #[.int .i64 n, .slice a1 xs.length c1] 26)).alloc (.cells #[.int .i64 m, .slice a2 ys.length c2] 26)).alloc (.cells #[.int .i64 0, .slice none 0 0] 26)).heap.size (((w.alloc (.cells #[.int .i64 n, .slice a1 xs.length c1] 26)).alloc (.cells #[.int .i64 m, .slice a2 ys.length c2] 26)).alloc (.cells #[.int .i64 0, .slice none 0 0] 26)) wr) (fun sl _ => xs.length - (intOf sl).toNat)
      case atStart => exact ⟨0, by omega, by go_num, by rw [fA_zero]; exact ho.mono (by ((try simp only [plus_size, World.size_alloc, World.size_drew, World.size_setCell, size_setRow, World.heap_drewN, List.length_append]) <;> omega)), by (repeat (first | (with_reducible exact Below.refl _ _) | (with_reducible assumption) | (with_reducible refine below_plus' ?_ ?_; ((try simp only [plus_size, World.size_alloc, World.size_drew, World.size_setCell, size_setRow, World.heap_drewN, List.length_append]) <;> omega)) | (with_reducible refine below_alloc' ?_ ?_; ((try simp only [plus_size, World.size_alloc, World.size_drew, World.size_setCell, size_setRow, World.heap_drewN, List.length_append]) <;> omega)) | with_reducible refine Below.drew ?_ | (with_reducible refine below_drewN' ?_ _) | exact Below.refl _ _))⟩
      case round =>
        clear ho hB
        obtain ⟨k, hk, rfl, hown, hbel⟩ := hrel
        obtain ⟨j0, d0, rfl⟩ := plus_of_below hbel
        by_cases hlt : k < xs.length
        · obtain ⟨b, o, rfl, hbk, mm⟩ := reads_cells H1.out (by omega)
          have g1 := mm k hlt
          have hb1 : b < w.heap.size + 1 := by omega
          have hb2 : b < w.heap.size + 1 + 1 := by omega
          have hb3 : b < w.heap.size + 1 + 1 + 1 := by omega
          have hb4 : b < w.heap.size + 1 + 1 + 1 + j0.length := by omega
          clear mm
          obtain ⟨p, hp⟩ : ∃ p : Nat, n - lo + (k : Int) = p := ⟨(n - lo + (k : Int)).toNat, by omega⟩
          have hp1 : (p : Int) < (N : Int) := by omega
          have hpn : p < N := by omega
          have hgl := (hown.lt _ rfl).2
          (simp only [plus_size, World.size_alloc] at hgl)
          go_wp2_with fail
          refine region_plus_tail 13 (by kernel_rfl) (by kernel_rfl) ?_
          simp only [List.take_succ_cons, List.take_zero, List.drop_succ_cons, List.drop_zero]
          repeat (go_big_quiet_step (first | fail))
          refine wpQuiet_nil ?_
          intro _ hw'
          obtain ⟨q, hw''⟩ := hw'
          subst hw''
          rw [plusq_eq]
          generalize q.j = j
          generalize q.d = d
          clear q
          rw [plus_plus]
          have hown1 := own_plus (j' := j) (d' := d) hown
          have f1 := hown1.free p
          have c6 := hown1.cell (i := p) (by rw [lstI_length]; exact hpn)
          have hg1 := (hown1.lt _ rfl).2
          (simp only [plus_size, World.size_alloc] at hg1)
          go_wp2
          refine ⟨⟨k + 1, by omega, by go_num, ?_, ?_⟩, ?_⟩
          · have e := hown1.set p (nth xs k)
            rw [fA_step hlt (by omega)] at e
            exact e
          · exact (show Below (((w.alloc (.cells #[.int .i64 n, .slice (some ⟨b, o, none⟩) xs.length c1] 26)).alloc (.cells #[.int .i64 m, .slice a2 ys.length c2] 26)).alloc (.cells #[.int .i64 0, .slice none 0 0] 26)).heap.size (((w.alloc (.cells #[.int .i64 n, .slice (some ⟨b, o, none⟩) xs.length c1] 26)).alloc (.cells #[.int .i64 m, .slice a2 ys.length c2] 26)).alloc (.cells #[.int .i64 0, .slice none 0 0] 26)) (plus (((w.alloc (.cells #[.int .i64 n, .slice (some ⟨b, o, none⟩) xs.length c1] 26)).alloc (.cells #[.int .i64 m, .slice a2 ys.length c2] 26)).alloc (.cells #[.int .i64 0, .slice none 0 0] 26)) (j0 ++ j) d) by (repeat (first | (with_reducible exact Below.refl _ _) | (with_reducible assumption) | (with_reducible refine below_plus' ?_ ?_; ((try simp only [plus_size, World.size_alloc, World.size_drew, World.size_setCell, size_setRow, World.heap_drewN, List.length_append]) <;> omega)) | (with_reducible refine below_alloc' ?_ ?_; ((try simp only [plus_size, World.size_alloc, World.size_drew, World.size_setCell, size_setRow, World.heap_drewN, List.length_append]) <;> omega)) | with_reducible refine Below.drew ?_ | (with_reducible refine below_drewN' ?_ _) | exact Below.refl _ _))).trans (below_of_grown (grownBy_setCell _ _ _ _) (by ((try simp only [plus_size, World.size_alloc, World.size_drew, World.size_setCell, size_setRow, World.heap_drewN, List.length_append]) <;> omega)) (fun q hq => by cases hq; ((try simp only [plus_size, World.size_alloc, World.size_drew, World.size_setCell, size_setRow, World.heap_drewN, List.length_append]) <;> omega)))
          · simp [intOf]; omega
        · obtain rfl : k = xs.length := by omega
          rw [fA_full (m := m) (ys := ys)] at hown
          go_wp2
          go_loopw [11] (fun sl wr => ∃ (k : Nat), k ≤ ys.length ∧ sl = .int .i64 k ∧ own 2 wr (((w.alloc (.cells #[.int .i64 n, .slice a1 xs.length c1] 26)).alloc (.cells #[.int .i64 m, .slice a2 ys.length c2] 26)).alloc (.cells #[.int .i64 0, .slice none 0 0] 26)).heap.size (.slice (some ⟨w.heap.size + 1 + 1 + 1, 0, none⟩) N N) (lstI N (fB n xs m ys lo k)) ∧ Below (((w.alloc (.cells #[.int .i64 n, .slice a1 xs.length c1] 26)).alloc (.cells #[.int .i64 m, .slice a2 ys.length c2] 26)).alloc (.cells #[.int .i64 0, .slice none 0 0] 26)).heap.size (((w.alloc (.cells #[.int .i64 n, .slice a1 xs.length c1] 26)).alloc (.cells #[.int .i64 m, .slice a2 ys.length c2] 26)).alloc (.cells #[.int .i64 0, .slice none 0 0] 26)) wr) (fun sl _ => ys.length - (intOf sl).toNat)
          case atStart => exact ⟨0, by omega, by go_num, hown, hbel⟩
          case round =>
            clear hown hbel
            obtain ⟨k, hk, rfl, hown, hbel⟩ := hrel
            obtain ⟨j0, d0, rfl⟩ := plus_of_below hbel
            by_cases hlt : k < ys.length
            · obtain ⟨b, o, rfl, hbk, mm⟩ := reads_cells H2.out (by omega)
              have g1 := mm k hlt
              have hb1 : b < w.heap.size + 1 := by omega
              have hb2 : b < w.heap.size + 1 + 1 := by omega
              have hb3 : b < w.heap.size + 1 + 1 + 1 := by omega
              have hb4 : b < w.heap.size + 1 + 1 + 1 + j0.length := by omega
              clear mm
              obtain ⟨p, hp⟩ : ∃ p : Nat, m - lo + (k : Int) = p := ⟨(m - lo + (k : Int)).toNat, by omega⟩
              have hp1 : (p : Int) < (N : Int) := by omega
              have hpn : p < N := by omega
              have hgl := (hown.lt _ rfl).2
              (simp only [plus_size, World.size_alloc] at hgl)
              have c5 := hown.cell (i := p) (by rw [lstI_length]; exact hpn)
              rw [nth_lstI hpn] at c5
              have y1 := (allC_at HBl.out hlt).1
              have y2 := (allC_at HBl.out hlt).2
              have y3 := (fB_b (n := n) (m := m) HAl.out HBl.out lo k p).1
              have y4 := (fB_b (n := n) (m := m) HAl.out HBl.out lo k p).2
              go_wp2_with fail
              refine region_plus_tail 15 (by kernel_rfl) (by kernel_rfl) ?_
              simp only [List.take_succ_cons, List.take_zero, List.drop_succ_cons, List.drop_zero]
              repeat (go_big_quiet_step (first | fail))
              refine wpQuiet_nil ?_
              intro _ hw'
              obtain ⟨q, hw''⟩ := hw'
              subst hw''
              rw [plusq_eq]
              generalize q.j = j
              generalize q.d = d
              clear q
              rw [plus_plus]
              have hown1 := own_plus (j' := j) (d' := d) hown
              have f1 := hown1.free p
              have c6 := hown1.cell (i := p) (by rw [lstI_length]; exact hpn)
              have hg1 := (hown1.lt _ rfl).2
              (simp only [plus_size, World.size_alloc] at hg1)
              go_wp2
              refine ⟨⟨k + 1, by omega, by go_num, ?_, ?_⟩, ?_⟩
              · have e := hown1.set p (fB n xs m ys lo k p + nth ys k)
                rw [fB_step hlt (by omega)] at e
                exact e
              · exact (show Below (((w.alloc (.cells #[.int .i64 n, .slice a1 xs.length c1] 26)).alloc (.cells #[.int .i64 m, .slice (some ⟨b, o, none⟩) ys.length c2] 26)).alloc (.cells #[.int .i64 0, .slice none 0 0] 26)).heap.size (((w.alloc (.cells #[.int .i64 n, .slice a1 xs.length c1] 26)).alloc (.cells #[.int .i64 m, .slice (some ⟨b, o, none⟩) ys.length c2] 26)).alloc (.cells #[.int .i64 0, .slice none 0 0] 26)) (plus (((w.alloc (.cells #[.int .i64 n, .slice a1 xs.length c1] 26)).alloc (.cells #[.int .i64 m, .slice (some ⟨b, o, none⟩) ys.length c2] 26)).alloc (.cells #[.int .i64 0, .slice none 0 0] 26)) (j0 ++ j) d) by (repeat (first | (with_reducible exact Below.refl _ _) | (with_reducible assumption) | (with_reducible refine below_plus' ?_ ?_; ((try simp only [plus_size, World.size_alloc, World.size_drew, World.size_setCell, size_setRow, World.heap_drewN, List.length_append]) <;> omega)) | (with_reducible refine below_alloc' ?_ ?_; ((try simp only [plus_size, World.size_alloc, World.size_drew, World.size_setCell, size_setRow, World.heap_drewN, List.length_append]) <;> omega)) | with_reducible refine Below.drew ?_ | (with_reducible refine below_drewN' ?_ _) | exact Below.refl _ _))).trans (below_of_grown (grownBy_setCell _ _ _ _) (by ((try simp only [plus_size, World.size_alloc, World.size_drew, World.size_setCell, size_setRow, World.heap_drewN, List.length_append]) <;> omega)) (fun q hq => by cases hq; ((try simp only [plus_size, World.size_alloc, World.size_drew, World.size_setCell, size_setRow, World.heap_drewN, List.length_append]) <;> omega)))
              · simp [intOf]; omega
            · obtain rfl : k = ys.length := by omega
              have HTr := l05Trim_any lo _ N (lstI N (fB n xs m ys lo ys.length)) _ (by rw [lstI_length]; exact hown.reads) (by rw [lstI_length]; exact Nat.le_refl _) (by rw [lstI_length]; omega) (by omega) (by omega)
              rw [lstI_length, HrR.out.1, HrR.out.2] at HTr
              replace HTr := Lib.hid HTr
              clear hown
              go_wp2_with (first | (go_at_call 39; with_reducible refine Calls.mono HTr.out ?_; intro e w' hh; obtain ⟨vG, rfl, hB, hoG⟩ := retB_form hh; clear hh; have hrG := hoG.reads; obtain ⟨aG, cG, rfl⟩ := readsL_form hrG; obtain ⟨j, d, rfl⟩ := plus_of_below hB; clear hB))
              refine bodyPost_ret (v := .agg #[.int .i64 r, .slice aG R.length cG]) (by simp [results, Try.results29, go_sem]) rfl ?_
              exact ⟨_, rfl, by (repeat (first | (with_reducible exact Below.refl _ _) | (with_reducible assumption) | (with_reducible refine below_plus' ?_ ?_; ((try simp only [plus_size, World.size_alloc, World.size_drew, World.size_setCell, size_setRow, World.heap_drewN, List.length_append]) <;> omega)) | (with_reducible refine below_alloc' ?_ ?_; ((try simp only [plus_size, World.size_alloc, World.size_drew, World.size_setCell, size_setRow, World.heap_drewN, List.length_append]) <;> omega)) | with_reducible refine Below.drew ?_ | (with_reducible refine below_drewN' ?_ _) | exact Below.refl _ _)), by ((try simp only [plus_plus] at hoG ⊢); exact own_farG hoG (by ((try simp only [plus_size, World.size_alloc, World.size_drew, World.size_setCell, size_setRow, World.heap_drewN, List.length_append]) <;> omega)) (by ((try simp only [plus_size, World.size_alloc, World.size_drew, World.size_setCell, size_setRow, World.heap_drewN, List.length_append]) <;> omega)) (by ((try simp only [plus_size, World.size_alloc, World.size_drew, World.size_setCell, size_setRow, World.heap_drewN, List.length_append]) <;> omega)) (by (repeat (first | (with_reducible exact List.prefix_rfl) | (with_reducible exact List.nil_prefix) | (refine List.IsPrefix.trans ?_ (List.prefix_append _ _))))))⟩
end Go.Proofs.Ytcipdgmimmngoaa
