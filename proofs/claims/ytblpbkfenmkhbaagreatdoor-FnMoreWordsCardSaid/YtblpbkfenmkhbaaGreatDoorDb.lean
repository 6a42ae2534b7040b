/- Texts of braids by the program. Conditions: as each theorem says. -/
import Derived.Test.YtblpbkfenmkhbaaGreatDoorDa
import Derived.Test.YtblpbkfenmkhbaaGreatDoorMa
import Derived.Test.YtblpbkfenmkhbaaGreatDoorMb
import Derived.Deep.RegionWith
import Derived.Deep.Cut
import Derived.Deep.CutRange
namespace Go.Proofs.YtblpbkfenmkhbaaGreatDoor
open Go.RowKit
set_option linter.unusedSimpArgs false
set_option linter.unusedVariables false
open Go.RowKit
theorem szT {B : ByteArray} {s b c : Nat} (h : B.size = s) (hb : s ≤ b) (hc : b + c ≤ 9223372036854775807) : ¬ 9223372036854775807 < B.size + c := by omega
theorem szT' {B : ByteArray} {s b c : Nat} (h : B.size = s) (hb : s ≤ b) (hc : c + b ≤ 9223372036854775807) : ¬ 9223372036854775807 < c + B.size := by omega
theorem okW_small {n : Int} {xs : List Int} (h : okW n xs = true) : (1 ≤ n ∧ n ≤ 8) ∧ ∀ k, k < xs.length → -9 ≤ nth xs k ∧ nth xs k ≤ 9 := by
  have h1 := okW_n h
  obtain ⟨m, rfl, _, _, _, h2⟩ := okW_true h
  refine ⟨h1, fun k hk => ?_⟩
  have := h2 k hk
  simp only [isL, decide_eq_true_eq] at this
  omega
theorem round_txt (A B : List UInt8) : Value.string (strB A ++ (strB [32] ++ strB B)) = .string (strB (A ++ 32 :: B)) := by rw [strB_append, strB_append]; rfl
theorem start_txt (n : Int) (xs : List Int) : Value.string (strB (decL n) ++ ⟨#[58]⟩) = .string (strB (braidT n xs 0)) := by
  rw [show (⟨#[58]⟩ : ByteArray) = strB [58] from rfl, strB_append]; rfl
theorem round_txt2 (A B : List UInt8) : Value.string (strB A ++ strB [32] ++ strB B) = .string (strB (A ++ 32 :: B)) := by rw [strB_append, strB_append]; simp
set_option maxHeartbeats 1000000 in
theorem impl_BraidText (n : Int) (v : Value) (xs : List Int) (w : World) (h : reads w v xs) (hlen : xs.length ≤ 1000000000) (hfit : Fits xs) (ht : PowTab w) : Calls Tryz.prog 55 #[.agg #[.int .i64 n, v]] w fun e w' => e = .returned (.tuple #[.string (strB (textL n xs)), .int .i64 (if okW n xs = true then 0 else 1)]) ∧ Below w.heap.size w w' := by
  have PT := Lib.hid ht
  clear ht
  unfold textL
  have hI := fun w' (hb : Below w.heap.size w w') => impl_IsBraid n v xs w' (h.kept hb) hlen hfit
  cases hok : okW n xs with
  | false =>
    simp only [hok] at hI
    have HI := Lib.hid hI
    clear hI h hfit hok
    go_enter Tryz.func55, Tryz.ntmps55
    go_wp2_with (first | (go_at_call 33; refine Calls.mono (HI.out _ ?_) ?_; (repeat (first | (with_reducible exact Below.refl _ _) | (with_reducible assumption) | (with_reducible refine below_plus' ?_ ?_; ((try simp only [plus_size, World.size_alloc, World.size_drew, World.size_setCell, size_setRow, World.heap_drewN, List.length_append]) <;> omega)) | (with_reducible refine below_alloc' ?_ ?_; ((try simp only [plus_size, World.size_alloc, World.size_drew, World.size_setCell, size_setRow, World.heap_drewN, List.length_append]) <;> omega)) | with_reducible refine Below.drew ?_ | (with_reducible refine below_drewN' ?_ _) | exact Below.refl _ _)); rintro e w' ⟨rfl, hB⟩; obtain ⟨j, d, rfl⟩ := plus_of_below hB; clear hB))
    go_ret2
    exact ⟨rfl, by (repeat (first | (with_reducible exact Below.refl _ _) | (with_reducible assumption) | (with_reducible refine below_plus' ?_ ?_; ((try simp only [plus_size, World.size_alloc, World.size_drew, World.size_setCell, size_setRow, World.heap_drewN, List.length_append]) <;> omega)) | (with_reducible refine below_alloc' ?_ ?_; ((try simp only [plus_size, World.size_alloc, World.size_drew, World.size_setCell, size_setRow, World.heap_drewN, List.length_append]) <;> omega)) | with_reducible refine Below.drew ?_ | (with_reducible refine below_drewN' ?_ _) | exact Below.refl _ _))⟩
  | true =>
    simp only [hok] at hI
    have HI := Lib.hid hI
    have hn := (okW_small hok).1
    have h200 := okW_len hok
    have HLET := Lib.hid (okW_small hok).2
    clear hI hfit hok
    simp only [if_true]
    obtain ⟨a, c, rfl, hrd⟩ := h
    have HX := Lib.hid (show ∀ k, k < xs.length → ∃ b o, a = some ⟨b, o, none⟩ ∧ b < w.heap.size ∧ w.cell? ⟨b, o + k, none⟩ = some (.int .i64 (nth xs k)) from fun k hk => by
      rcases hrd with h | ⟨b, o, rfl, m⟩
      · rw [h] at hk; cases hk
      · exact ⟨b, o, rfl, World.block_lt_of_cell? w _ (m k hk), m k hk⟩)
    clear hrd
    go_enter Tryz.func55, Tryz.ntmps55
    have hs1 := szT (strB_size (decL n)) (decL_length n) (show 2 + 1 ≤ 9223372036854775807 by omega)
    go_wp2_with (first | (go_at_call 33; refine Calls.mono (HI.out _ ?_) ?_; (repeat (first | (with_reducible exact Below.refl _ _) | (with_reducible assumption) | (with_reducible refine below_plus' ?_ ?_; ((try simp only [plus_size, World.size_alloc, World.size_drew, World.size_setCell, size_setRow, World.heap_drewN, List.length_append]) <;> omega)) | (with_reducible refine below_alloc' ?_ ?_; ((try simp only [plus_size, World.size_alloc, World.size_drew, World.size_setCell, size_setRow, World.heap_drewN, List.length_append]) <;> omega)) | with_reducible refine Below.drew ?_ | (with_reducible refine below_drewN' ?_ _) | exact Below.refl _ _)); rintro e w' ⟨rfl, hB⟩; obtain ⟨j, d, rfl⟩ := plus_of_below hB; clear hB) | (go_at_call 72; refine Calls.mono (decimal_any _ _ (by omega) (by omega) (PT.out.on ?_)) ?_; (repeat (first | (with_reducible exact Below.refl _ _) | (with_reducible assumption) | (with_reducible refine below_plus' ?_ ?_; ((try simp only [plus_size, World.size_alloc, World.size_drew, World.size_setCell, size_setRow, World.heap_drewN, List.length_append]) <;> omega)) | (with_reducible refine below_alloc' ?_ ?_; ((try simp only [plus_size, World.size_alloc, World.size_drew, World.size_setCell, size_setRow, World.heap_drewN, List.length_append]) <;> omega)) | with_reducible refine Below.drew ?_ | (with_reducible refine below_drewN' ?_ _) | exact Below.refl _ _)); rintro e w' ⟨rfl, hB⟩; obtain ⟨j, d, rfl⟩ := plus_of_below hB; clear hB))
    go_loopw [4, 17] (fun st sl wr => ∃ (k : Nat), k ≤ xs.length ∧ sl = .int .i64 k ∧ st = .string (strB (braidT n xs k)) ∧ Below w.heap.size w wr) (fun _ sl _ => xs.length - (intOf sl).toNat)
    case atStart => exact ⟨0, by omega, rfl, start_txt n xs, by (repeat (first | (with_reducible exact Below.refl _ _) | (with_reducible assumption) | (with_reducible refine below_plus' ?_ ?_; ((try simp only [plus_size, World.size_alloc, World.size_drew, World.size_setCell, size_setRow, World.heap_drewN, List.length_append]) <;> omega)) | (with_reducible refine below_alloc' ?_ ?_; ((try simp only [plus_size, World.size_alloc, World.size_drew, World.size_setCell, size_setRow, World.heap_drewN, List.length_append]) <;> omega)) | with_reducible refine Below.drew ?_ | (with_reducible refine below_drewN' ?_ _) | exact Below.refl _ _))⟩
    case round =>
      obtain ⟨k, hk, rfl, rfl, hbel⟩ := hrel
      have hbs := hbel.size
      have hl2 := braidT_length n xs k
      by_cases hlt : k < xs.length
      · obtain ⟨b, o, rfl, hbl, g1⟩ := HX.out k hlt
        replace g1 := (hbel.cell (p := ⟨b, o + k, none⟩) hbl).trans g1
        have hbl2 : b < wr.heap.size := by omega
        have hx := HLET.out k hlt
        have hl3 := decL_length (nth xs k)
        have hs2 := szT' (strB_size (decL (nth xs k))) hl3 (show 1 + 2 ≤ 9223372036854775807 by omega)
        have hs3 : ¬ 9223372036854775807 < (strB (braidT n xs k)).size + (1 + (strB (decL (nth xs k))).size) := by rw [strB_size, strB_size]; omega
        have HS := Lib.hid (braidT_succ n xs k)
        generalize nth xs k = z at *
        generalize braidT n xs k = T at *
        go_wp2_with (first | (go_at_call 72; refine Calls.mono (decimal_any _ _ (by omega) (by omega) (PT.out.on ?_)) ?_; (repeat (first | (with_reducible exact Below.refl _ _) | (with_reducible assumption) | (with_reducible refine below_plus' ?_ ?_; ((try simp only [plus_size, World.size_alloc, World.size_drew, World.size_setCell, size_setRow, World.heap_drewN, List.length_append]) <;> omega)) | (with_reducible refine below_alloc' ?_ ?_; ((try simp only [plus_size, World.size_alloc, World.size_drew, World.size_setCell, size_setRow, World.heap_drewN, List.length_append]) <;> omega)) | with_reducible refine Below.drew ?_ | (with_reducible refine below_drewN' ?_ _) | exact Below.refl _ _)); rintro e w' ⟨rfl, hB⟩; obtain ⟨j, d, rfl⟩ := plus_of_below hB; clear hB))
        go_roundw
        case rel => exact ⟨k + 1, by omega, by go_num, by rw [← HS.out]; exact round_txt _ _, by (repeat (first | (with_reducible exact Below.refl _ _) | (with_reducible assumption) | (with_reducible refine below_plus' ?_ ?_; ((try simp only [plus_size, World.size_alloc, World.size_drew, World.size_setCell, size_setRow, World.heap_drewN, List.length_append]) <;> omega)) | (with_reducible refine below_alloc' ?_ ?_; ((try simp only [plus_size, World.size_alloc, World.size_drew, World.size_setCell, size_setRow, World.heap_drewN, List.length_append]) <;> omega)) | with_reducible refine Below.drew ?_ | (with_reducible refine below_drewN' ?_ _) | exact Below.refl _ _))⟩
        case measure => simp [intOf]; omega
      · obtain rfl : xs.length = k := by omega
        go_wp2
        go_ret2
        exact ⟨rfl, hbel⟩
end Go.Proofs.YtblpbkfenmkhbaaGreatDoor
