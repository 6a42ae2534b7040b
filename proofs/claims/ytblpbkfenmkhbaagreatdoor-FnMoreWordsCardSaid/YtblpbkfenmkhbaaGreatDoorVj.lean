/- Where strands end, beside a code, by the program. Conditions: as each theorem says. -/
import Derived.Test.YtblpbkfenmkhbaaGreatDoorVi
namespace Go.Proofs.YtblpbkfenmkhbaaGreatDoor
open Go.RowKit
set_option linter.unusedSimpArgs false
set_option linter.unusedVariables false
/-- where the strands end -/
def endsL (n : Int) (xs : List Int) : List Int := if okW n xs = true then lstOf n.toNat (backK (seqK n.toNat (absL xs) xs.length) n.toNat) else []
def pureB (n : Int) (xs : List Int) : Bool := decide (∀ i, i < n.toNat → backK (seqK n.toNat (absL xs) xs.length) n.toNat i = i)
theorem endsL_le {n : Int} {xs : List Int} : (endsL n xs).length ≤ 8 := by
  unfold endsL
  split
  · rename_i h
    have := okW_n h
    rw [lstOf_length]; omega
  · simp
set_option maxHeartbeats 1000000 in
theorem impl_EndsOf (n : Int) (v : Value) (xs : List Int) (w : World) (h : reads w v xs) (hlen : xs.length ≤ 1000000000) (hfit : Fits xs) : Calls Tryz.prog 13 #[.agg #[.int .i64 n, v]] w (RetInts2 2 w (if okW n xs = true then lstOf n.toNat (backK (seqK n.toNat (absL xs) xs.length) n.toNat) else []) (if okW n xs = true then 0 else 1)) := by
  have hI := fun w' (hb : Below w.heap.size w w') => impl_IsBraid n v xs w' (h.kept hb) hlen hfit
  cases hok : okW n xs with
  | false =>
    simp only [hok] at hI
    have HI := Lib.hid hI
    clear hI h hfit hok
    go_enter Tryz.func13, Tryz.ntmps13
    go_wp2_with (first | (go_at_call 33; refine Calls.mono (HI.out _ ?_) ?_; (repeat (first | (with_reducible exact Below.refl _ _) | (with_reducible assumption) | (with_reducible refine below_plus' ?_ ?_; ((try simp only [plus_size, World.size_alloc, World.size_drew, World.size_setCell, size_setRow, World.heap_drewN, List.length_append]) <;> omega)) | (with_reducible refine below_alloc' ?_ ?_; ((try simp only [plus_size, World.size_alloc, World.size_drew, World.size_setCell, size_setRow, World.heap_drewN, List.length_append]) <;> omega)) | with_reducible refine Below.drew ?_ | (with_reducible refine below_drewN' ?_ _) | exact Below.refl _ _)); rintro e w' ⟨rfl, hB⟩; obtain ⟨j, d, rfl⟩ := plus_of_below hB; clear hB))
    go_ret2
    exact ⟨_, rfl, by (repeat (first | (with_reducible exact Below.refl _ _) | (with_reducible assumption) | (with_reducible refine below_plus' ?_ ?_; ((try simp only [plus_size, World.size_alloc, World.size_drew, World.size_setCell, size_setRow, World.heap_drewN, List.length_append]) <;> omega)) | (with_reducible refine below_alloc' ?_ ?_; ((try simp only [plus_size, World.size_alloc, World.size_drew, World.size_setCell, size_setRow, World.heap_drewN, List.length_append]) <;> omega)) | with_reducible refine Below.drew ?_ | (with_reducible refine below_drewN' ?_ _) | exact Below.refl _ _)), own_nil _ _ _⟩
  | true =>
    simp only [hok] at hI
    have HI := Lib.hid hI
    have h200 := okW_len hok
    have hlet := okW_let hok
    have hn1 := (okW_n hok).1
    have hn8 := (okW_n hok).2
    clear hI hfit hok
    obtain ⟨m, rfl⟩ : ∃ m : Nat, n = m := ⟨n.toNat, by omega⟩
    have h1 : 1 ≤ m := by omega
    have h2 : m ≤ 8 := by omega
    simp only [Int.toNat_natCast] at hlet ⊢
    simp only [if_true]
    have HE := Lib.hid (fun w' (hb : Below w.heap.size w w') => endsOf_any m v xs w' (h.kept hb) h1 h2 h200 hlet)
    generalize lstOf m (backK (seqK m (absL xs) xs.length) m) = L at HE ⊢
    clear h hlet
    go_enter Tryz.func13, Tryz.ntmps13
    go_wp2_with (first | (go_at_call 33; refine Calls.mono (HI.out _ ?_) ?_; (repeat (first | (with_reducible exact Below.refl _ _) | (with_reducible assumption) | (with_reducible refine below_plus' ?_ ?_; ((try simp only [plus_size, World.size_alloc, World.size_drew, World.size_setCell, size_setRow, World.heap_drewN, List.length_append]) <;> omega)) | (with_reducible refine below_alloc' ?_ ?_; ((try simp only [plus_size, World.size_alloc, World.size_drew, World.size_setCell, size_setRow, World.heap_drewN, List.length_append]) <;> omega)) | with_reducible refine Below.drew ?_ | (with_reducible refine below_drewN' ?_ _) | exact Below.refl _ _)); rintro e w' ⟨rfl, hB⟩; obtain ⟨j, d, rfl⟩ := plus_of_below hB; clear hB) | (go_at_call 43; refine Calls.mono (HE.out _ ?_) ?_; (repeat (first | (with_reducible exact Below.refl _ _) | (with_reducible assumption) | (with_reducible refine below_plus' ?_ ?_; ((try simp only [plus_size, World.size_alloc, World.size_drew, World.size_setCell, size_setRow, World.heap_drewN, List.length_append]) <;> omega)) | (with_reducible refine below_alloc' ?_ ?_; ((try simp only [plus_size, World.size_alloc, World.size_drew, World.size_setCell, size_setRow, World.heap_drewN, List.length_append]) <;> omega)) | with_reducible refine Below.drew ?_ | (with_reducible refine below_drewN' ?_ _) | exact Below.refl _ _)); rintro e w' ⟨vo, rfl, hB, ho⟩; obtain ⟨j, d, rfl⟩ := plus_of_below hB; clear hB))
    go_ret2
    exact ⟨_, rfl, by (repeat (first | (with_reducible exact Below.refl _ _) | (with_reducible assumption) | (with_reducible refine below_plus' ?_ ?_; ((try simp only [plus_size, World.size_alloc, World.size_drew, World.size_setCell, size_setRow, World.heap_drewN, List.length_append]) <;> omega)) | (with_reducible refine below_alloc' ?_ ?_; ((try simp only [plus_size, World.size_alloc, World.size_drew, World.size_setCell, size_setRow, World.heap_drewN, List.length_append]) <;> omega)) | with_reducible refine Below.drew ?_ | (with_reducible refine below_drewN' ?_ _) | exact Below.refl _ _)), ho.mono (by ((try simp only [plus_size, World.size_alloc, World.size_drew, World.size_setCell, size_setRow, World.heap_drewN, List.length_append]) <;> omega))⟩
set_option maxHeartbeats 400000 in
theorem isPure_any (m : Nat) (v : Value) (xs : List Int) (w : World) (h : reads w v xs) (h1 : 1 ≤ m) (h2 : m ≤ 8) (hlen : xs.length ≤ 200) (hlet : LetK m (absL xs) xs.length) : Calls Tryz.prog 59 #[.agg #[.int .i64 m, v]] w fun e w' => e = .returned (.bool (decide (∀ i, i < m → backK (seqK m (absL xs) xs.length) m i = i))) ∧ Below w.heap.size w w' := by
  have HE := Lib.hid (fun w' (hb : Below w.heap.size w w') => endsOf_any m v xs w' (h.kept hb) h1 h2 hlen hlet)
  generalize backK (seqK m (absL xs) xs.length) m = s at HE ⊢
  obtain ⟨a, c, rfl, hs⟩ := id h
  clear h hlet hs
  go_enter Tryz.func59, Tryz.ntmps59
  go_wp2_with (first | (go_at_call 43; refine Calls.mono (HE.out _ ?_) ?_; (repeat (first | (with_reducible exact Below.refl _ _) | (with_reducible assumption) | (with_reducible refine below_plus' ?_ ?_; ((try simp only [plus_size, World.size_alloc, World.size_drew, World.size_setCell, size_setRow, World.heap_drewN, List.length_append]) <;> omega)) | (with_reducible refine below_alloc' ?_ ?_; ((try simp only [plus_size, World.size_alloc, World.size_drew, World.size_setCell, size_setRow, World.heap_drewN, List.length_append]) <;> omega)) | with_reducible refine Below.drew ?_ | (with_reducible refine below_drewN' ?_ _) | exact Below.refl _ _)); rintro e w' ⟨vo, rfl, hB, ho⟩; obtain ⟨g, cg, rfl, _, _, _⟩ := own_some ho (by rw [lstOf_length]; omega); (simp only [lstOf_length] at ho ⊢); obtain ⟨j0, d0, rfl⟩ := plus_of_below hB))
  have hc : ∀ k, k < m → ∀ d', (plus (w.alloc (.cells #[.int .i64 m, .slice a xs.length c] 26)) j0 d').cell? ⟨g, k, none⟩ = some (.int .i64 (s k)) := fun k hk d' => by
    have := ho.cell (i := k) (by rw [lstOf_length]; exact hk)
    rw [nth_lstOf hk] at this; exact this
  have Hc := Lib.hid hc
  clear hc ho hB
  go_loop [8] (fun sl => ∃ k : Nat, k ≤ m ∧ sl = .int .i64 k ∧ Hid (∀ i, i < k → s i = i)) (fun sl => m - (intOf sl).toNat)
  case atStart => exact ⟨0, by omega, rfl, Lib.hid (fun i hi => by omega)⟩
  case round =>
    obtain ⟨k, hk, rfl, Hl⟩ := hrel
    by_cases hlt : k < m
    · have c1 := Hc.out k hlt
      by_cases hd : s k = k
      · have hd1 : ((k : Int) != (s k : Int)) = false := by simp [hd]
        have hd2 : ((k : Int) = (s k : Int)) := by omega
        have HI := Lib.hid hd
        rw [hd] at c1
        go_wp2
        go_round
        case rel => exact ⟨k + 1, by omega, by go_num, Lib.hid (fun i hi => by by_cases e : i = k; (· rw [e]; exact HI.out); (· exact Hl.out i (by omega)))⟩
        case measure => simp [intOf]; omega
      · have hd0 : ¬ (k : Int) = (s k : Int) := by omega
        have hd1 : ((k : Int) != (s k : Int)) = true := by simp [hd0]
        have hd2 : ¬ k = s k := fun e => hd e.symm
        have HO := Lib.hid (show decide (∀ i, i < m → s i = i) = false by simp only [decide_eq_false_iff_not]; exact fun h => hd (h k hlt))
        go_wp2
        go_ret
        exact ⟨by rw [HO.out]; rfl, by (repeat (first | (with_reducible exact Below.refl _ _) | (with_reducible assumption) | (with_reducible refine below_plus' ?_ ?_; ((try simp only [plus_size, World.size_alloc, World.size_drew, World.size_setCell, size_setRow, World.heap_drewN, List.length_append]) <;> omega)) | (with_reducible refine below_alloc' ?_ ?_; ((try simp only [plus_size, World.size_alloc, World.size_drew, World.size_setCell, size_setRow, World.heap_drewN, List.length_append]) <;> omega)) | with_reducible refine Below.drew ?_ | (with_reducible refine below_drewN' ?_ _) | exact Below.refl _ _))⟩
    · obtain rfl : m = k := by omega
      have HO := Lib.hid (show decide (∀ i, i < m → s i = i) = true by simp only [decide_eq_true_eq]; exact Hl.out)
      go_wp2
      go_ret
      exact ⟨by rw [HO.out]; rfl, by (repeat (first | (with_reducible exact Below.refl _ _) | (with_reducible assumption) | (with_reducible refine below_plus' ?_ ?_; ((try simp only [plus_size, World.size_alloc, World.size_drew, World.size_setCell, size_setRow, World.heap_drewN, List.length_append]) <;> omega)) | (with_reducible refine below_alloc' ?_ ?_; ((try simp only [plus_size, World.size_alloc, World.size_drew, World.size_setCell, size_setRow, World.heap_drewN, List.length_append]) <;> omega)) | with_reducible refine Below.drew ?_ | (with_reducible refine below_drewN' ?_ _) | exact Below.refl _ _))⟩
def rPure (n : Int) (xs : List Int) : Value := .tuple #[.bool (okW n xs && pureB n xs), .int .i64 (if okW n xs = true then 0 else 1)]
theorem rPure_no {n xs} (h : okW n xs = false) : rPure n xs = .tuple #[.bool false, .int .i64 1] := by simp [rPure, h]
theorem rPure_yes {n : Nat} {xs : List Int} (h : okW n xs = true) : rPure n xs = .tuple #[.bool (decide (∀ i, i < n → backK (seqK n (absL xs) xs.length) n i = i)), .int .i64 0] := by simp [rPure, h, pureB]
set_option maxHeartbeats 1000000 in
theorem impl_IsPure (n : Int) (v : Value) (xs : List Int) (w : World) (h : reads w v xs) (hlen : xs.length ≤ 1000000000) (hfit : Fits xs) : Calls Tryz.prog 26 #[.agg #[.int .i64 n, v]] w fun e w' => e = .returned (rPure n xs) ∧ Below w.heap.size w w' := by
  have hI := fun w' (hb : Below w.heap.size w w') => impl_IsBraid n v xs w' (h.kept hb) hlen hfit
  cases hok : okW n xs with
  | false =>
    simp only [hok] at hI
    have HI := Lib.hid hI
    rw [rPure_no hok]
    clear hI h hfit hok
    go_enter Tryz.func26, Tryz.ntmps26
    go_wp2_with (first | (go_at_call 33; refine Calls.mono (HI.out _ ?_) ?_; (repeat (first | (with_reducible exact Below.refl _ _) | (with_reducible assumption) | (with_reducible refine below_plus' ?_ ?_; ((try simp only [plus_size, World.size_alloc, World.size_drew, World.size_setCell, size_setRow, World.heap_drewN, List.length_append]) <;> omega)) | (with_reducible refine below_alloc' ?_ ?_; ((try simp only [plus_size, World.size_alloc, World.size_drew, World.size_setCell, size_setRow, World.heap_drewN, List.length_append]) <;> omega)) | with_reducible refine Below.drew ?_ | (with_reducible refine below_drewN' ?_ _) | exact Below.refl _ _)); rintro e w' ⟨rfl, hB⟩; obtain ⟨j, d, rfl⟩ := plus_of_below hB; clear hB))
    go_ret2
    exact ⟨rfl, by (repeat (first | (with_reducible exact Below.refl _ _) | (with_reducible assumption) | (with_reducible refine below_plus' ?_ ?_; ((try simp only [plus_size, World.size_alloc, World.size_drew, World.size_setCell, size_setRow, World.heap_drewN, List.length_append]) <;> omega)) | (with_reducible refine below_alloc' ?_ ?_; ((try simp only [plus_size, World.size_alloc, World.size_drew, World.size_setCell, size_setRow, World.heap_drewN, List.length_append]) <;> omega)) | with_reducible refine Below.drew ?_ | (with_reducible refine below_drewN' ?_ _) | exact Below.refl _ _))⟩
  | true =>
    simp only [hok] at hI
    have HI := Lib.hid hI
    have h200 := okW_len hok
    have hlet := okW_let hok
    have hn1 := (okW_n hok).1
    have hn8 := (okW_n hok).2
    clear hI hfit
    obtain ⟨m, rfl⟩ : ∃ m : Nat, n = m := ⟨n.toNat, by omega⟩
    have h1 : 1 ≤ m := by omega
    have h2 : m ≤ 8 := by omega
    simp only [Int.toNat_natCast] at hlet ⊢
    rw [rPure_yes hok]
    clear hok
    have HE := Lib.hid (fun w' (hb : Below w.heap.size w w') => isPure_any m v xs w' (h.kept hb) h1 h2 h200 hlet)
    generalize decide (∀ i, i < m → backK (seqK m (absL xs) xs.length) m i = i) = L at HE ⊢
    clear h hlet
    go_enter Tryz.func26, Tryz.ntmps26
    go_wp2_with (first | (go_at_call 33; refine Calls.mono (HI.out _ ?_) ?_; (repeat (first | (with_reducible exact Below.refl _ _) | (with_reducible assumption) | (with_reducible refine below_plus' ?_ ?_; ((try simp only [plus_size, World.size_alloc, World.size_drew, World.size_setCell, size_setRow, World.heap_drewN, List.length_append]) <;> omega)) | (with_reducible refine below_alloc' ?_ ?_; ((try simp only [plus_size, World.size_alloc, World.size_drew, World.size_setCell, size_setRow, World.heap_drewN, List.length_append]) <;> omega)) | with_reducible refine Below.drew ?_ | (with_reducible refine below_drewN' ?_ _) | exact Below.refl _ _)); rintro e w' ⟨rfl, hB⟩; obtain ⟨j, d, rfl⟩ := plus_of_below hB; clear hB) | (go_at_call 59; refine Calls.mono (HE.out _ ?_) ?_; (repeat (first | (with_reducible exact Below.refl _ _) | (with_reducible assumption) | (with_reducible refine below_plus' ?_ ?_; ((try simp only [plus_size, World.size_alloc, World.size_drew, World.size_setCell, size_setRow, World.heap_drewN, List.length_append]) <;> omega)) | (with_reducible refine below_alloc' ?_ ?_; ((try simp only [plus_size, World.size_alloc, World.size_drew, World.size_setCell, size_setRow, World.heap_drewN, List.length_append]) <;> omega)) | with_reducible refine Below.drew ?_ | (with_reducible refine below_drewN' ?_ _) | exact Below.refl _ _)); rintro e w' ⟨rfl, hB⟩; obtain ⟨j, d, rfl⟩ := plus_of_below hB; clear hB))
    go_ret2
    exact ⟨rfl, by (repeat (first | (with_reducible exact Below.refl _ _) | (with_reducible assumption) | (with_reducible refine below_plus' ?_ ?_; ((try simp only [plus_size, World.size_alloc, World.size_drew, World.size_setCell, size_setRow, World.heap_drewN, List.length_append]) <;> omega)) | (with_reducible refine below_alloc' ?_ ?_; ((try simp only [plus_size, World.size_alloc, World.size_drew, World.size_setCell, size_setRow, World.heap_drewN, List.length_append]) <;> omega)) | with_reducible refine Below.drew ?_ | (with_reducible refine below_drewN' ?_ _) | exact Below.refl _ _))⟩
end Go.Proofs.YtblpbkfenmkhbaaGreatDoor
