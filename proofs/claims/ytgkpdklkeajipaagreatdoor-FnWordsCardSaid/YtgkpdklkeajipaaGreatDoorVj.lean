/- Where strands end, beside a code, by the program. Conditions: as each theorem says. -/
import Derived.Test.YtgkpdklkeajipaaGreatDoorVi
namespace Go.Proofs.YtgkpdklkeajipaaGreatDoor
open Go.RowKit
set_option linter.unusedSimpArgs false
set_option linter.unusedVariables false
/-- where the strands end -/
def endsL (n : Int) (xs : List Int) : List Int := if okW n xs = true then lstOf n.toNat (backK (seqK n.toNat (absL xs) xs.length) n.toNat) else []
def pureB (n : Int) (xs : List Int) : Bool := decide (∀ i, i < n.toNat → backK (seqK n.toNat (absL xs) xs.length) n.toNat i = i)
theorem endsL_le {n : Int} {xs : List Int} : (endsL n xs).length ≤ 8 := by
  unfold endsL
  split
  · rename_i h
    have := okW_n h
    rw [lstOf_length]; omega
  · simp
set_option maxHeartbeats 1000000 in
theorem impl_EndsOf (n : Int) (v : Value) (xs : List Int) (w : World) (h : reads w v xs) (hlen : xs.length ≤ 1000000000) (hfit : Fits xs) : Calls Tryz.prog 11 #[.agg #[.int .i64 n, v]] w (RetInts2 2 w (if okW n xs = true then lstOf n.toNat (backK (seqK n.toNat (absL xs) xs.length) n.toNat) else []) (if okW n xs = true then 0 else 1)) := by
  have hI := fun w' (hb : Below w.heap.size w w') => impl_IsBraid n v xs w' (h.kept hb) hlen hfit
  cases hok : okW n xs with
  | false =>
    simp only [hok] at hI
    have HI := Lib.hid hI
    clear hI h hfit hok
    go_enter Tryz.func11, Tryz.ntmps11
    go_wp2_with (first | (go_at_call 9; refine Calls.mono (HI.out _ ?_) ?_; (repeat (first | (with_reducible exact Below.refl _ _) | (with_reducible assumption) | (with_reducible refine below_plus' ?_ ?_; ((try simp only [plus_size, World.size_alloc, World.size_drew, World.size_setCell, size_setRow, World.heap_drewN, List.length_append]) <;> omega)) | (with_reducible refine below_alloc' ?_ ?_; ((try simp only [plus_size, World.size_alloc, World.size_drew, World.size_setCell, size_setRow, World.heap_drewN, List.length_append]) <;> omega)) | with_reducible refine Below.drew ?_ | (with_reducible refine below_drewN' ?_ _) | exact Below.refl _ _)); rintro e w' ⟨rfl, hB⟩; obtain ⟨j, d, rfl⟩ := plus_of_below hB; clear hB))
    go_ret2
    exact ⟨_, rfl, by (repeat (first | (with_reducible exact Below.refl _ _) | (with_reducible assumption) | (with_reducible refine below_plus' ?_ ?_; ((try simp only [plus_size, World.size_alloc, World.size_drew, World.size_setCell, size_setRow, World.heap_drewN, List.length_append]) <;> omega)) | (with_reducible refine below_alloc' ?_ ?_; ((try simp only [plus_size, World.size_alloc, World.size_drew, World.size_setCell, size_setRow, World.heap_drewN, List.length_append]) <;> omega)) | with_reducible refine Below.drew ?_ | (with_reducible refine below_drewN' ?_ _) | exact Below.refl _ _)), own_nil _ _ _⟩
  | true =>
    simp only [hok] at hI
    have HI := Lib.hid hI
    have h200 := okW_len hok
    have hlet := okW_let hok
    have hn1 := (okW_n hok).1
    have hn8 := (okW_n hok).2
    clear hI hfit hok
    obtain ⟨m, rfl⟩ : ∃ m : Nat, n = m := ⟨n.toNat, by omega⟩
    have h1 : 1 ≤ m := by omega
    have h2 : m ≤ 8 := by omega
    simp only [Int.toNat_natCast] at hlet ⊢
    simp only [if_true]
    have HE := Lib.hid (fun w' (hb : Below w.heap.size w w') => endsOf_any m v xs w' (h.kept hb) h1 h2 h200 hlet)
    generalize lstOf m (backK (seqK m (absL xs) xs.length) m) = L at HE ⊢
    clear h hlet
    go_enter Tryz.func11, Tryz.ntmps11
    go_wp2_with (first | (go_at_call 9; refine Calls.mono (HI.out _ ?_) ?_; (repeat (first | (with_reducible exact Below.refl _ _) | (with_reducible assumption) | (with_reducible refine below_plus' ?_ ?_; ((try simp only [plus_size, World.size_alloc, World.size_drew, World.size_setCell, size_setRow, World.heap_drewN, List.length_append]) <;> omega)) | (with_reducible refine below_alloc' ?_ ?_; ((try simp only [plus_size, World.size_alloc, World.size_drew, World.size_setCell, size_setRow, World.heap_drewN, List.length_append]) <;> omega)) | with_reducible refine Below.drew ?_ | (with_reducible refine below_drewN' ?_ _) | exact Below.refl _ _)); rintro e w' ⟨rfl, hB⟩; obtain ⟨j, d, rfl⟩ := plus_of_below hB; clear hB) | (go_at_call 36; refine Calls.mono (HE.out _ ?_) ?_; (repeat (first | (with_reducible exact Below.refl _ _) | (with_reducible assumption) | (with_reducible refine below_plus' ?_ ?_; ((try simp only [plus_size, World.size_alloc, World.size_drew, World.size_setCell, size_setRow, World.heap_drewN, List.length_append]) <;> omega)) | (with_reducible refine below_alloc' ?_ ?_; ((try simp only [plus_size, World.size_alloc, World.size_drew, World.size_setCell, size_setRow, World.heap_drewN, List.length_append]) <;> omega)) | with_reducible refine Below.drew ?_ | (with_reducible refine below_drewN' ?_ _) | exact Below.refl _ _)); rintro e w' ⟨vo, rfl, hB, ho⟩; obtain ⟨j, d, rfl⟩ := plus_of_below hB; clear hB))
    go_ret2
    exact ⟨_, rfl, by (repeat (first | (with_reducible exact Below.refl _ _) | (with_reducible assumption) | (with_reducible refine below_plus' ?_ ?_; ((try simp only [plus_size, World.size_alloc, World.size_drew, World.size_setCell, size_setRow, World.heap_drewN, List.length_append]) <;> omega)) | (with_reducible refine below_alloc' ?_ ?_; ((try simp only [plus_size, World.size_alloc, World.size_drew, World.size_setCell, size_setRow, World.heap_drewN, List.length_append]) <;> omega)) | with_reducible refine Below.drew ?_ | (with_reducible refine below_drewN' ?_ _) | exact Below.refl _ _)), ho.mono (by ((try simp only [plus_size, World.size_alloc, World.size_drew, World.size_setCell, size_setRow, World.heap_drewN, List.length_append]) <;> omega))⟩
def rPure (n : Int) (xs : List Int) : Value := .tuple #[.bool (okW n xs && pureB n xs), .int .i64 (if okW n xs = true then 0 else 1)]
theorem rPure_no {n xs} (h : okW n xs = false) : rPure n xs = .tuple #[.bool false, .int .i64 1] := by simp [rPure, h]
theorem rPure_yes {n : Nat} {xs : List Int} (h : okW n xs = true) : rPure n xs = .tuple #[.bool (decide (∀ i, i < n → backK (seqK n (absL xs) xs.length) n i = i)), .int .i64 0] := by simp [rPure, h, pureB]
end Go.Proofs.YtgkpdklkeajipaaGreatDoor
