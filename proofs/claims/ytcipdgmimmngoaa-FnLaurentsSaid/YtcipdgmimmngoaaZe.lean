/- The sum of two polynomials. Conditions: as each theorem says. -/
import Derived.Test.YtcipdgmimmngoaaZd
import Derived.BigRegion
import Derived.Deep.RegionWith
namespace Go.Proofs.Ytcipdgmimmngoaa
open Go.RowKit
set_option linter.unusedSimpArgs false
set_option linter.unusedVariables false
open Go.RowKit
theorem fzo_le (xs : List Int) : fzo xs ≤ xs.length := by
  induction xs with
  | nil => exact Nat.le_refl 0
  | cons x xs ih => simp only [fzo, List.length_cons]; split <;> omega
theorem trimLow_b {low : Int} {xs : List Int} (hlen : xs.length ≤ 20000) (h1 : -10000 ≤ low) (h2 : low ≤ 10000) : -100000 ≤ trimLow low xs ∧ trimLow low xs ≤ 100000 := by
  have := fzo_le xs
  unfold trimLow
  split <;> omega
theorem trimLst_len (xs : List Int) : (trimLst xs).length ≤ xs.length := by
  unfold trimLst
  split
  · exact Nat.zero_le _
  · rw [List.length_take, List.length_drop]; omega
theorem trimLst_nth {xs : List Int} {i : Nat} (h : i < (trimLst xs).length) : ∃ k, k < xs.length ∧ nth (trimLst xs) i = nth xs k := by
  unfold trimLst at h ⊢
  split at h
  · cases h
  · rename_i hz
    rw [if_neg hz]
    rw [List.length_take, List.length_drop] at h
    exact ⟨fzo xs + i, by omega, by rw [nth_take (by omega), nth_drop]⟩
theorem Fw.trim {xs : List Int} (h : Fw xs) : Fw (trimLst xs) := fun i hi => by
  obtain ⟨k, hk, e⟩ := trimLst_nth hi
  rw [e]; exact h k hk
theorem Fw_all {xs : List Int} (h : allC xs = true) : Fw xs := fun i hi => by have := allC_at h hi; omega
theorem atP_b {low : Int} {xs : List Int} (h : allC xs = true) (k : Int) : -1000000000000 ≤ atP low xs k ∧ atP low xs k ≤ 1000000000000 := by
  unfold atP
  split
  · exact allC_at h (by omega)
  · decide
theorem sumP_nth {lp : Int} {xs : List Int} {lq : Int} {ys : List Int} {i : Nat} (h : i < (sumP lp xs lq ys).length) : nth (sumP lp xs lq ys) i = atP lp xs (loP lp lq + i) + atP lq ys (loP lp lq + i) := by
  have h' : i < (hiP lp lq xs ys - loP lp lq).toNat := by simpa [sumP] using h
  have := List.getElem?_range h'
  simp [nth, sumP, this]
theorem sumP_b {lp : Int} {xs : List Int} {lq : Int} {ys : List Int} (h1 : allC xs = true) (h2 : allC ys = true) {i : Nat} (h : i < (sumP lp xs lq ys).length) : -2000000000000 ≤ nth (sumP lp xs lq ys) i ∧ nth (sumP lp xs lq ys) i ≤ 2000000000000 := by
  rw [sumP_nth h]
  have := atP_b (low := lp) h1 (loP lp lq + i)
  have := atP_b (low := lq) h2 (loP lp lq + i)
  omega
theorem sumP_len {lp : Int} {xs : List Int} {lq : Int} {ys : List Int} (h1 : xs.length ≤ 2001) (h2 : ys.length ≤ 2001) (p1 : -1000 ≤ lp) (p2 : lp ≤ 1000) (q1 : -1000 ≤ lq) (q2 : lq ≤ 1000) : (sumP lp xs lq ys).length ≤ 10000 := by
  simp only [sumP, List.length_map, List.length_range, hiP, loP]
  split <;> split <;> omega
/-- what is known of a sum -/
theorem add_ok {lp : Int} {xs : List Int} {lq : Int} {ys : List Int} (h1 : okL lp xs = true) (h2 : okL lq ys = true) : Fw (sumP lp xs lq ys) ∧ -100000 ≤ addLow lp xs lq ys ∧ addLow lp xs lq ys ≤ 100000 ∧ (addLst lp xs lq ys).length ≤ 100000 ∧ Fw (addLst lp xs lq ys) := by
  obtain ⟨a1, a2, a3, a4⟩ := okL_true h1
  obtain ⟨b1, b2, b3, b4⟩ := okL_true h2
  have hs := sumP_len (lp := lp) (lq := lq) a1 b1 a2 a3 b2 b3
  have hF : Fw (sumP lp xs lq ys) := fun i hi => by have := sumP_b (lp := lp) (lq := lq) a4 b4 hi; omega
  have hlo : -10000 ≤ loP lp lq ∧ loP lp lq ≤ 10000 := by unfold loP; split <;> omega
  have hb := trimLow_b (low := loP lp lq) (xs := sumP lp xs lq ys) (by omega) hlo.1 hlo.2
  have hl := trimLst_len (sumP lp xs lq ys)
  refine ⟨hF, ?_⟩
  unfold addLow addLst
  split
  · exact ⟨by omega, by omega, by omega, Fw_all b4⟩
  · split
    · exact ⟨by omega, by omega, by omega, Fw_all a4⟩
    · exact ⟨hb.1, hb.2, by omega, hF.trim⟩
/-- what AddLaurents answers -/
def adN (lp : Int) (xs : List Int) (lq : Int) (ys : List Int) : Int := if okL lp xs = true ∧ okL lq ys = true then laN (addLow lp xs lq ys) (addLst lp xs lq ys) else 0
def adL (lp : Int) (xs : List Int) (lq : Int) (ys : List Int) : List Int := if okL lp xs = true ∧ okL lq ys = true then laL (addLow lp xs lq ys) (addLst lp xs lq ys) else []
def adC (lp : Int) (xs : List Int) (lq : Int) (ys : List Int) : Int := if okL lp xs = true ∧ okL lq ys = true then laC (addLow lp xs lq ys) (addLst lp xs lq ys) else 1
theorem ad_no {lp : Int} {xs : List Int} {lq : Int} {ys : List Int} (h : (okL lp xs && okL lq ys) = false) : adN lp xs lq ys = 0 ∧ adL lp xs lq ys = [] ∧ adC lp xs lq ys = 1 := by
  have : ¬ (okL lp xs = true ∧ okL lq ys = true) := by
    intro ⟨a, b⟩
    rw [a, b] at h; cases h
  simp only [adN, adL, adC, if_neg this, and_self]
theorem ad_yes {lp : Int} {xs : List Int} {lq : Int} {ys : List Int} (h1 : okL lp xs = true) (h2 : okL lq ys = true) : adN lp xs lq ys = laN (addLow lp xs lq ys) (addLst lp xs lq ys) ∧ adL lp xs lq ys = laL (addLow lp xs lq ys) (addLst lp xs lq ys) ∧ adC lp xs lq ys = laC (addLow lp xs lq ys) (addLst lp xs lq ys) := by
  have : okL lp xs = true ∧ okL lq ys = true := ⟨h1, h2⟩
  simp only [adN, adL, adC, if_pos this, and_self]
theorem own_farG {e : TypeId} {X Y : World} {B B' : Nat} {J J' : List Obj} {d d' : Nat} {v : Value} {xs : List Int} (h : own e (plus X J d) B v xs) (hs : X.heap.size = Y.heap.size) (hB : X.heap.size ≤ B) (hB' : B' ≤ B) (hp : J <+: J') : own e (plus Y J' d') B' v xs := own_farL h hs hB hB' hp
theorem polyOf_sl (low : Int) (v : Value) (xs : List Int) (w : World) (h : reads w v xs) (hlen : xs.length ≤ 3000) (hfit : Fits xs) : Calls Try.prog 32 #[.agg #[.int .i64 low, v]] w fun e w' => ∃ a c, e = .returned (.agg #[.int .i64 low, .slice a xs.length c]) ∧ Below w.heap.size w w' ∧ readsW w' (.slice a xs.length c) xs := by
  refine (polyOf_any low v xs w h hlen hfit).mono ?_
  rintro e w' ⟨v', rfl, hB, ho⟩
  have hr := ho.reads
  obtain ⟨a, c, rfl, hh⟩ := id hr
  exact ⟨a, c, rfl, hB, hr⟩
theorem add_sl (lp : Int) (v1 : Value) (xs : List Int) (lq : Int) (v2 : Value) (ys : List Int) (w : World) (h1 : readsW w v1 xs) (h2 : readsW w v2 ys) (hl1 : xs.length ≤ 5000) (hl2 : ys.length ≤ 5000) (hp1 : -5000 ≤ lp) (hp2 : lp ≤ 5000) (hq1 : -5000 ≤ lq) (hq2 : lq ≤ 5000) (hf : Fw (sumP lp xs lq ys)) : Calls Try.prog 33 #[.agg #[.int .i64 lp, v1], .agg #[.int .i64 lq, v2]] w fun e w' => ∃ a c, e = .returned (.agg #[.int .i64 (addLow lp xs lq ys), .slice a (addLst lp xs lq ys).length c]) ∧ Below w.heap.size w w' ∧ readsW w' (.slice a (addLst lp xs lq ys).length c) (addLst lp xs lq ys) := by
  refine (add_any lp v1 xs lq v2 ys w h1 h2 hl1 hl2 hp1 hp2 hq1 hq2 hf).mono ?_
  rintro e w' ⟨⟨v', rfl, hR⟩, hB⟩
  obtain ⟨a, c, rfl, hh⟩ := id hR
  exact ⟨a, c, rfl, hB, hR⟩
set_option maxHeartbeats 400000 in
theorem areL_any (n : Int) (v1 : Value) (xs : List Int) (m : Int) (v2 : Value) (ys : List Int) (w : World) (h1 : reads w v1 xs) (h2 : reads w v2 ys) (hl1 : xs.length ≤ 1000000000) (hl2 : ys.length ≤ 1000000000) (hf1 : Fits xs) (hf2 : Fits ys) : Calls Try.prog 31 #[.agg #[.int .i64 n, v1], .agg #[.int .i64 m, v2]] w fun e w' => e = .returned (.bool (okL n xs && okL m ys)) ∧ Below w.heap.size w w' := by
  have hI := fun w' (hb : Below w.heap.size w w') => impl_Is n v1 xs w' (h1.kept hb) hl1 hf1
  have HJ := Lib.hid (fun w' (hb : Below w.heap.size w w') => impl_Is m v2 ys w' (h2.kept hb) hl2 hf2)
  clear h1 h2 hf1 hf2
  cases hok : okL n xs with
  | false =>
    simp only [hok] at hI
    have HI := Lib.hid hI
    clear hI hok
    go_enter Try.func31, Try.ntmps31
    go_wp2_with (first | (go_at_call 18; with_reducible refine Calls.mono (HI.out _ ?_) ?_; (repeat (first | (with_reducible exact Below.refl _ _) | (with_reducible assumption) | (with_reducible refine below_plus' ?_ ?_; ((try simp only [plus_size, World.size_alloc, World.size_drew, World.size_setCell, size_setRow, World.heap_drewN, List.length_append]) <;> omega)) | (with_reducible refine below_alloc' ?_ ?_; ((try simp only [plus_size, World.size_alloc, World.size_drew, World.size_setCell, size_setRow, World.heap_drewN, List.length_append]) <;> omega)) | with_reducible refine Below.drew ?_ | (with_reducible refine below_drewN' ?_ _) | exact Below.refl _ _)); rintro e w' ⟨rfl, hB⟩; obtain ⟨j, d, rfl⟩ := plus_of_below hB; clear hB) | (go_at_call 18; with_reducible refine Calls.mono (HJ.out _ ?_) ?_; (repeat (first | (with_reducible exact Below.refl _ _) | (with_reducible assumption) | (with_reducible refine below_plus' ?_ ?_; ((try simp only [plus_size, World.size_alloc, World.size_drew, World.size_setCell, size_setRow, World.heap_drewN, List.length_append]) <;> omega)) | (with_reducible refine below_alloc' ?_ ?_; ((try simp only [plus_size, World.size_alloc, World.size_drew, World.size_setCell, size_setRow, World.heap_drewN, List.length_append]) <;> omega)) | with_reducible refine Below.drew ?_ | (with_reducible refine below_drewN' ?_ _) | exact Below.refl _ _)); rintro e w' ⟨rfl, hB⟩; obtain ⟨j, d, rfl⟩ := plus_of_below hB; clear hB))
    go_ret
    exact ⟨rfl, by (repeat (first | (with_reducible exact Below.refl _ _) | (with_reducible assumption) | (with_reducible refine below_plus' ?_ ?_; ((try simp only [plus_size, World.size_alloc, World.size_drew, World.size_setCell, size_setRow, World.heap_drewN, List.length_append]) <;> omega)) | (with_reducible refine below_alloc' ?_ ?_; ((try simp only [plus_size, World.size_alloc, World.size_drew, World.size_setCell, size_setRow, World.heap_drewN, List.length_append]) <;> omega)) | with_reducible refine Below.drew ?_ | (with_reducible refine below_drewN' ?_ _) | exact Below.refl _ _))⟩
  | true =>
    simp only [hok] at hI
    have HI := Lib.hid hI
    clear hI hok
    go_enter Try.func31, Try.ntmps31
    go_wp2_with (first | (go_at_call 18; with_reducible refine Calls.mono (HI.out _ ?_) ?_; (repeat (first | (with_reducible exact Below.refl _ _) | (with_reducible assumption) | (with_reducible refine below_plus' ?_ ?_; ((try simp only [plus_size, World.size_alloc, World.size_drew, World.size_setCell, size_setRow, World.heap_drewN, List.length_append]) <;> omega)) | (with_reducible refine below_alloc' ?_ ?_; ((try simp only [plus_size, World.size_alloc, World.size_drew, World.size_setCell, size_setRow, World.heap_drewN, List.length_append]) <;> omega)) | with_reducible refine Below.drew ?_ | (with_reducible refine below_drewN' ?_ _) | exact Below.refl _ _)); rintro e w' ⟨rfl, hB⟩; obtain ⟨j, d, rfl⟩ := plus_of_below hB; clear hB) | (go_at_call 18; with_reducible refine Calls.mono (HJ.out _ ?_) ?_; (repeat (first | (with_reducible exact Below.refl _ _) | (with_reducible assumption) | (with_reducible refine below_plus' ?_ ?_; ((try simp only [plus_size, World.size_alloc, World.size_drew, World.size_setCell, size_setRow, World.heap_drewN, List.length_append]) <;> omega)) | (with_reducible refine below_alloc' ?_ ?_; ((try simp only [plus_size, World.size_alloc, World.size_drew, World.size_setCell, size_setRow, World.heap_drewN, List.length_append]) <;> omega)) | with_reducible refine Below.drew ?_ | (with_reducible refine below_drewN' ?_ _) | exact Below.refl _ _)); rintro e w' ⟨rfl, hB⟩; obtain ⟨j, d, rfl⟩ := plus_of_below hB; clear hB))
    go_ret
    exact ⟨by simp, by (repeat (first | (with_reducible exact Below.refl _ _) | (with_reducible assumption) | (with_reducible refine below_plus' ?_ ?_; ((try simp only [plus_size, World.size_alloc, World.size_drew, World.size_setCell, size_setRow, World.heap_drewN, List.length_append]) <;> omega)) | (with_reducible refine below_alloc' ?_ ?_; ((try simp only [plus_size, World.size_alloc, World.size_drew, World.size_setCell, size_setRow, World.heap_drewN, List.length_append]) <;> omega)) | with_reducible refine Below.drew ?_ | (with_reducible refine below_drewN' ?_ _) | exact Below.refl _ _))⟩
theorem retL_form {e : TypeId} {w w' : World} {n c : Int} {xs : List Int} {en : Ending} (h : RetB2 e w n xs c en w') : ∃ v, en = .returned (.tuple #[.agg #[.int .i64 n, v], .int .i64 c]) ∧ Below w.heap.size w w' ∧ own e w' w.heap.size v xs := h
theorem readsL_form {w : World} {v : Value} {xs : List Int} (h : reads w v xs) : ∃ a c, v = .slice a xs.length c := by
  obtain ⟨a, c, rfl, _⟩ := h
  exact ⟨a, c, rfl⟩
set_option maxHeartbeats 4000000 in
theorem impl_AddLaurents (n : Int) (v1 : Value) (xs : List Int) (m : Int) (v2 : Value) (ys : List Int) (w : World) (h1 : reads w v1 xs) (h2 : reads w v2 ys) (hlen1 : xs.length ≤ 1000000000) (hlen2 : ys.length ≤ 1000000000) (hfit1 : Fits xs) (hfit2 : Fits ys) : Calls Try.prog 9 #[.agg #[.int .i64 n, v1], .agg #[.int .i64 m, v2]] w (RetB2 2 w (adN n xs m ys) (adL n xs m ys) (adC n xs m ys)) := by
  have hA := fun w' (hb : Below w.heap.size w w') => areL_any n v1 xs m v2 ys w' (h1.kept hb) (h2.kept hb) hlen1 hlen2 hfit1 hfit2
  obtain ⟨a1, c1, rfl⟩ := readsL_form h1
  obtain ⟨a2, c2, rfl⟩ := readsL_form h2
  cases hok : (okL n xs && okL m ys) with
  | false =>
    obtain ⟨e1, e2, e3⟩ := ad_no hok
    simp only [hok] at hA
    rw [e1, e2, e3]
    have HA := Lib.hid hA
    clear hA hok e1 e2 e3 h1 h2 hfit1 hfit2
    go_enter Try.func9, Try.ntmps9
    go_wp2_with (first | (go_at_call 31; with_reducible refine Calls.mono (HA.out _ ?_) ?_; (repeat (first | (with_reducible exact Below.refl _ _) | (with_reducible assumption) | (with_reducible refine below_plus' ?_ ?_; ((try simp only [plus_size, World.size_alloc, World.size_drew, World.size_setCell, size_setRow, World.heap_drewN, List.length_append]) <;> omega)) | (with_reducible refine below_alloc' ?_ ?_; ((try simp only [plus_size, World.size_alloc, World.size_drew, World.size_setCell, size_setRow, World.heap_drewN, List.length_append]) <;> omega)) | with_reducible refine Below.drew ?_ | (with_reducible refine below_drewN' ?_ _) | exact Below.refl _ _)); rintro e w' ⟨rfl, hB⟩; obtain ⟨j, d, rfl⟩ := plus_of_below hB; clear hB))
    refine bodyPost_ret (v := .tuple #[.agg #[.int .i64 0, .slice none 0 0], .int .i64 1]) (by simp [results, Try.results9, go_sem]) rfl ?_
    exact ⟨_, rfl, by (repeat (first | (with_reducible exact Below.refl _ _) | (with_reducible assumption) | (with_reducible refine below_plus' ?_ ?_; ((try simp only [plus_size, World.size_alloc, World.size_drew, World.size_setCell, size_setRow, World.heap_drewN, List.length_append]) <;> omega)) | (with_reducible refine below_alloc' ?_ ?_; ((try simp only [plus_size, World.size_alloc, World.size_drew, World.size_setCell, size_setRow, World.heap_drewN, List.length_append]) <;> omega)) | with_reducible refine Below.drew ?_ | (with_reducible refine below_drewN' ?_ _) | exact Below.refl _ _)), own_nil _ _ _⟩
  | true =>
    simp only [hok] at hA
    have HA := Lib.hid hA
    obtain ⟨k1, k2⟩ := Bool.and_eq_true_iff.1 hok
    obtain ⟨e1, e2, e3⟩ := ad_yes k1 k2
    rw [e1, e2, e3]
    obtain ⟨g1, g2, g3, g4, g5⟩ := add_ok k1 k2
    obtain ⟨i1, i2, i3, i4⟩ := okL_true k1
    obtain ⟨l1, l2, l3, l4⟩ := okL_true k2
    have HPa := Lib.hid (fun w' (hb : Below w.heap.size w w') => polyOf_sl n _ xs w' (h1.kept hb) (by omega) hfit1)
    have HPb := Lib.hid (fun w' (hb : Below w.heap.size w w') => polyOf_sl m _ ys w' (h2.kept hb) (by omega) hfit2)
    have HD := Lib.hid (fun u1 u2 w' (k1 : readsW w' u1 xs) (k2 : readsW w' u2 ys) => add_sl n u1 xs m u2 ys w' k1 k2 (by omega) (by omega) (by omega) (by omega) (by omega) (by omega) g1)
    have HLa := Lib.hid (fun u w' (k : readsW w' u (addLst n xs m ys)) => laurent_any (addLow n xs m ys) u (addLst n xs m ys) w' k g4 g2 g3 g5)
    clear hA hok e1 e2 e3 h1 h2 hfit1 hfit2 k1 k2 g1 g2 g3 g4 g5 i4 l4
    generalize addLst n xs m ys = R at HD HLa ⊢
    generalize addLow n xs m ys = r at HD HLa ⊢
    generalize laL r R = L at HLa ⊢
    generalize laN r R = N at HLa ⊢
    generalize laC r R = C at HLa ⊢
    go_enter Try.func9, Try.ntmps9
    go_upto_region 3 with (first | (go_at_call 31; with_reducible refine Calls.mono (HA.out _ ?_) ?_; (repeat (first | (with_reducible exact Below.refl _ _) | (with_reducible assumption) | (with_reducible refine below_plus' ?_ ?_; ((try simp only [plus_size, World.size_alloc, World.size_drew, World.size_setCell, size_setRow, World.heap_drewN, List.length_append]) <;> omega)) | (with_reducible refine below_alloc' ?_ ?_; ((try simp only [plus_size, World.size_alloc, World.size_drew, World.size_setCell, size_setRow, World.heap_drewN, List.length_append]) <;> omega)) | with_reducible refine Below.drew ?_ | (with_reducible refine below_drewN' ?_ _) | exact Below.refl _ _)); rintro e w' ⟨rfl, hB⟩; obtain ⟨j, d, rfl⟩ := plus_of_below hB; clear hB))
    go_region_with (first | (go_at_call 32; with_reducible refine Calls.mono (HPa.out _ ?_) ?_; (repeat (first | (with_reducible exact Below.refl _ _) | (with_reducible assumption) | (with_reducible refine below_plus' ?_ ?_; ((try simp only [plus_size, World.size_alloc, World.size_drew, World.size_setCell, size_setRow, World.heap_drewN, List.length_append]) <;> omega)) | (with_reducible refine below_alloc' ?_ ?_; ((try simp only [plus_size, World.size_alloc, World.size_drew, World.size_setCell, size_setRow, World.heap_drewN, List.length_append]) <;> omega)) | with_reducible refine Below.drew ?_ | (with_reducible refine below_drewN' ?_ _) | exact Below.refl _ _)); rintro e w' ⟨pA, qA, rfl, hB, hRA⟩; obtain ⟨j, d, rfl⟩ := plus_of_below hB; clear hB)
                                        | (go_at_call 32; with_reducible refine Calls.mono (HPb.out _ ?_) ?_; (repeat (first | (with_reducible exact Below.refl _ _) | (with_reducible assumption) | (with_reducible refine below_plus' ?_ ?_; ((try simp only [plus_size, World.size_alloc, World.size_drew, World.size_setCell, size_setRow, World.heap_drewN, List.length_append]) <;> omega)) | (with_reducible refine below_alloc' ?_ ?_; ((try simp only [plus_size, World.size_alloc, World.size_drew, World.size_setCell, size_setRow, World.heap_drewN, List.length_append]) <;> omega)) | with_reducible refine Below.drew ?_ | (with_reducible refine below_drewN' ?_ _) | exact Below.refl _ _)); rintro e w' ⟨pB, qB, rfl, hB, hRB⟩; obtain ⟨j, d, rfl⟩ := plus_of_below hB; clear hB)
                                        | (go_at_call 33; with_reducible refine Calls.mono (HD.out _ _ _ ?_ ?_) ?_; exact hRA.kept (by (repeat (first | (with_reducible exact Below.refl _ _) | (with_reducible assumption) | (with_reducible refine below_plus' ?_ ?_; ((try simp only [plus_size, World.size_alloc, World.size_drew, World.size_setCell, size_setRow, World.heap_drewN, List.length_append]) <;> omega)) | (with_reducible refine below_alloc' ?_ ?_; ((try simp only [plus_size, World.size_alloc, World.size_drew, World.size_setCell, size_setRow, World.heap_drewN, List.length_append]) <;> omega)) | with_reducible refine Below.drew ?_ | (with_reducible refine below_drewN' ?_ _) | exact Below.refl _ _))); exact hRB.kept (by (repeat (first | (with_reducible exact Below.refl _ _) | (with_reducible assumption) | (with_reducible refine below_plus' ?_ ?_; ((try simp only [plus_size, World.size_alloc, World.size_drew, World.size_setCell, size_setRow, World.heap_drewN, List.length_append]) <;> omega)) | (with_reducible refine below_alloc' ?_ ?_; ((try simp only [plus_size, World.size_alloc, World.size_drew, World.size_setCell, size_setRow, World.heap_drewN, List.length_append]) <;> omega)) | with_reducible refine Below.drew ?_ | (with_reducible refine below_drewN' ?_ _) | exact Below.refl _ _))); rintro e w' ⟨pC, qC, rfl, hB, hRC⟩; obtain ⟨j, d, rfl⟩ := plus_of_below hB; clear hB)
                                        | (go_at_call 34; with_reducible refine Calls.mono (HLa.out _ _ ?_) ?_; exact hRC.kept (by (repeat (first | (with_reducible exact Below.refl _ _) | (with_reducible assumption) | (with_reducible refine below_plus' ?_ ?_; ((try simp only [plus_size, World.size_alloc, World.size_drew, World.size_setCell, size_setRow, World.heap_drewN, List.length_append]) <;> omega)) | (with_reducible refine below_alloc' ?_ ?_; ((try simp only [plus_size, World.size_alloc, World.size_drew, World.size_setCell, size_setRow, World.heap_drewN, List.length_append]) <;> omega)) | with_reducible refine Below.drew ?_ | (with_reducible refine below_drewN' ?_ _) | exact Below.refl _ _))); intro e w' hh; obtain ⟨vG, rfl, hB, hoG⟩ := retL_form hh; clear hh; have hrG := hoG.reads; obtain ⟨aG, cG, rfl⟩ := readsL_form hrG; obtain ⟨j, d, rfl⟩ := plus_of_below hB; clear hB))
    all_goals
      go_wp2
      refine bodyPost_ret (v := .tuple #[.agg #[.int .i64 N, .slice aG L.length cG], .int .i64 C]) (by simp [results, Try.results9, go_sem]) rfl ?_
      exact ⟨_, rfl, by (repeat (first | (with_reducible exact Below.refl _ _) | (with_reducible assumption) | (with_reducible refine below_plus' ?_ ?_; ((try simp only [plus_size, World.size_alloc, World.size_drew, World.size_setCell, size_setRow, World.heap_drewN, List.length_append]) <;> omega)) | (with_reducible refine below_alloc' ?_ ?_; ((try simp only [plus_size, World.size_alloc, World.size_drew, World.size_setCell, size_setRow, World.heap_drewN, List.length_append]) <;> omega)) | with_reducible refine Below.drew ?_ | (with_reducible refine below_drewN' ?_ _) | exact Below.refl _ _)), by ((try simp only [plus_plus] at hoG ⊢); exact own_farG hoG (by ((try simp only [plus_size, World.size_alloc, World.size_drew, World.size_setCell, size_setRow, World.heap_drewN, List.length_append]) <;> omega)) (by ((try simp only [plus_size, World.size_alloc, World.size_drew, World.size_setCell, size_setRow, World.heap_drewN, List.length_append]) <;> omega)) (by ((try simp only [plus_size, World.size_alloc, World.size_drew, World.size_setCell, size_setRow, World.heap_drewN, List.length_append]) <;> omega)) (by (repeat (first | (with_reducible exact List.prefix_rfl) | (with_reducible exact List.nil_prefix) | (refine List.IsPrefix.trans ?_ (List.prefix_append _ _))))))⟩
end Go.Proofs.Ytcipdgmimmngoaa
