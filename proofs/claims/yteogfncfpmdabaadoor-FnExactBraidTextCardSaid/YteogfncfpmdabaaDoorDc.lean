/- Texts of braids by the reference. Conditions: as each theorem says. -/
import Derived.Test.YteogfncfpmdabaaDoorDb
namespace Go.Proofs.YteogfncfpmdabaaDoor
open Go.RowKit
set_option linter.unusedSimpArgs false
set_option linter.unusedVariables false
open Go.RowKit
theorem conv_cell (w : World) (m : Nat) (h : m ≤ 9) (j : Nat) (hj : j < [digB m].length) : (w.alloc (.cells #[.int .u8 (48 + m)] 5)).cell? ((⟨w.heap.size, 0, none⟩ : Addr).add j) = some (.int .u8 (([digB m][j]).toNat : Int)) := by
  have e : j = 0 := by simpa using hj
  subst e
  have hd : (digB m).toNat = 48 + m := by unfold digB; rw [UInt8.toNat_ofNat']; omega
  simp only [List.getElem_cons_zero, hd]
  show (w.alloc _).cell? ⟨w.heap.size, 0, none⟩ = _
  rw [World.cell?_alloc_at _ _ _ _ rfl]
  simp
set_option maxHeartbeats 400000 in
theorem l01Dec_pos (m : Nat) (w : World) (h : m ≤ 9) : Calls Tryd.prog 11 #[.int .i64 m] w fun e w' => e = .returned (.string (strB [digB m])) ∧ Below w.heap.size w w' := by
  have hcv : (convert 39 9 (.slice (some ⟨w.heap.size, 0, none⟩) 1 1)).run Tryd.prog (w.alloc (.cells #[.int .u8 (48 + m)] 5)) = .ok (.string (strB [digB m])) (w.alloc (.cells #[.int .u8 (48 + m)] 5)) := run_convert_bytes_back (P := Tryd.prog) (w.alloc (.cells #[.int .u8 (48 + m)] 5)) 39 9 5 ⟨w.heap.size, 0, none⟩ 1 [digB m] Tryd.underlying39 Tryd.underlying5 Tryd.underlying9 (fun j hj => conv_cell w m h j hj)
  go_enter Tryd.func11, Tryd.ntmps11
  go_wp2
  go_ret
  exact ⟨rfl, by (repeat (first | (with_reducible exact Below.refl _ _) | (with_reducible assumption) | (with_reducible refine below_plus' ?_ ?_; ((try simp only [plus_size, World.size_alloc, World.size_drew, World.size_setCell, size_setRow, World.heap_drewN, List.length_append]) <;> omega)) | (with_reducible refine below_alloc' ?_ ?_; ((try simp only [plus_size, World.size_alloc, World.size_drew, World.size_setCell, size_setRow, World.heap_drewN, List.length_append]) <;> omega)) | with_reducible refine Below.drew ?_ | (with_reducible refine below_drewN' ?_ _) | exact Below.refl _ _))⟩
set_option maxHeartbeats 400000 in
theorem l01Dec_any (n : Int) (w : World) (h1 : -9 ≤ n) (h2 : n ≤ 9) : Calls Tryd.prog 11 #[.int .i64 n] w fun e w' => e = .returned (.string (strB (decL n))) ∧ Below w.heap.size w w' := by
  by_cases hn : n < 0
  · obtain ⟨m, hm⟩ : ∃ m : Nat, -n = m := ⟨(-n).toNat, by omega⟩
    have H := Lib.hid (fun w => show Calls Tryd.prog 11 #[.int .i64 (-n)] w _ from hm ▸ l01Dec_pos m w (by omega))
    have HD := Lib.hid (show decL n = [45, digB m] by rw [decL, if_pos hn, show n.natAbs = m by omega])
    have hs := szT' (strB_size [digB m]) (Nat.le_refl 1) (show 1 + 1 ≤ 9223372036854775807 by omega)
    clear hm
    go_enter Tryd.func11, Tryd.ntmps11
    go_wp2_with (first | (go_at_call 11; refine Calls.mono (H.out _) ?_; rintro e w' ⟨rfl, hB⟩; obtain ⟨j, d, rfl⟩ := plus_of_below hB; clear hB))
    go_ret
    exact ⟨by rw [HD.out, show (⟨#[45]⟩ : ByteArray) = strB [45] from rfl, strB_append]; rfl, by (repeat (first | (with_reducible exact Below.refl _ _) | (with_reducible assumption) | (with_reducible refine below_plus' ?_ ?_; ((try simp only [plus_size, World.size_alloc, World.size_drew, World.size_setCell, size_setRow, World.heap_drewN, List.length_append]) <;> omega)) | (with_reducible refine below_alloc' ?_ ?_; ((try simp only [plus_size, World.size_alloc, World.size_drew, World.size_setCell, size_setRow, World.heap_drewN, List.length_append]) <;> omega)) | with_reducible refine Below.drew ?_ | (with_reducible refine below_drewN' ?_ _) | exact Below.refl _ _))⟩
  · obtain ⟨m, rfl⟩ : ∃ m : Nat, n = m := ⟨n.toNat, by omega⟩
    have := l01Dec_pos m w (by omega)
    rw [show decL (m : Int) = [digB m] by rw [decL, if_neg hn]; rfl]
    exact this
set_option maxHeartbeats 1000000 in
theorem l01Text_any (v : Value) (xs : List Int) (w : World) (h : reads w v xs) (hlen : xs.length ≤ 200) (hx : ∀ k, k < xs.length → -9 ≤ nth xs k ∧ nth xs k ≤ 9) : Calls Tryd.prog 12 #[v] w fun e w' => e = .returned (.string (strB (lettersT xs xs.length))) ∧ Below w.heap.size w w' := by
  have HLET := Lib.hid hx
  clear hx
  obtain ⟨a, c, rfl, hrd⟩ := h
  have HX := Lib.hid (show ∀ k, k < xs.length → ∃ b o, a = some ⟨b, o, none⟩ ∧ b < w.heap.size ∧ w.cell? ⟨b, o + k, none⟩ = some (.int .i64 (nth xs k)) from fun k hk => by
    rcases hrd with h | ⟨b, o, rfl, m⟩
    · rw [h] at hk; cases hk
    · exact ⟨b, o, rfl, World.block_lt_of_cell? w _ (m k hk), m k hk⟩)
  clear hrd
  go_enter Tryd.func12, Tryd.ntmps12
  go_wp2
  go_loopw [3, 4] (fun st sl wr => ∃ (k : Nat), k ≤ xs.length ∧ sl = .int .i64 k ∧ st = .string (strB (lettersT xs k)) ∧ Below w.heap.size w wr) (fun _ sl _ => xs.length - (intOf sl).toNat)
  case atStart => exact ⟨0, by omega, rfl, rfl, by (repeat (first | (with_reducible exact Below.refl _ _) | (with_reducible assumption) | (with_reducible refine below_plus' ?_ ?_; ((try simp only [plus_size, World.size_alloc, World.size_drew, World.size_setCell, size_setRow, World.heap_drewN, List.length_append]) <;> omega)) | (with_reducible refine below_alloc' ?_ ?_; ((try simp only [plus_size, World.size_alloc, World.size_drew, World.size_setCell, size_setRow, World.heap_drewN, List.length_append]) <;> omega)) | with_reducible refine Below.drew ?_ | (with_reducible refine below_drewN' ?_ _) | exact Below.refl _ _))⟩
  case round =>
    obtain ⟨k, hk, rfl, rfl, hbel⟩ := hrel
    have hbs := hbel.size
    have hl2 := lettersT_length xs k
    by_cases hlt : k < xs.length
    · obtain ⟨b, o, rfl, hbl, g1⟩ := HX.out k hlt
      replace g1 := (hbel.cell (p := ⟨b, o + k, none⟩) hbl).trans g1
      have hbl2 : b < wr.heap.size := by omega
      have hx := HLET.out k hlt
      have hl3 := decL_length (nth xs k)
      have hs1 := szT (strB_size (lettersT xs k)) hl2 (show 3 * k + 1 ≤ 9223372036854775807 by omega)
      have hs3 : ¬ 9223372036854775807 < (strB (lettersT xs k)).size + 1 + (strB (decL (nth xs k))).size := by rw [strB_size, strB_size]; omega
      have HS := Lib.hid (show lettersT xs k ++ (32 :: decL (nth xs k)) = lettersT xs (k + 1) from rfl)
      generalize nth xs k = z at *
      generalize lettersT xs k = T at *
      go_wp2_with (first | (go_at_call 11; refine Calls.mono (l01Dec_any _ _ (by omega) (by omega)) ?_; rintro e w' ⟨rfl, hB⟩; obtain ⟨j, d, rfl⟩ := plus_of_below hB; clear hB))
      go_roundw
      case rel => exact ⟨k + 1, by omega, by go_num, (round_txt2 _ _).trans (by rw [HS.out]), by (repeat (first | (with_reducible exact Below.refl _ _) | (with_reducible assumption) | (with_reducible refine below_plus' ?_ ?_; ((try simp only [plus_size, World.size_alloc, World.size_drew, World.size_setCell, size_setRow, World.heap_drewN, List.length_append]) <;> omega)) | (with_reducible refine below_alloc' ?_ ?_; ((try simp only [plus_size, World.size_alloc, World.size_drew, World.size_setCell, size_setRow, World.heap_drewN, List.length_append]) <;> omega)) | with_reducible refine Below.drew ?_ | (with_reducible refine below_drewN' ?_ _) | exact Below.refl _ _))⟩
      case measure => simp [intOf]; omega
    · obtain rfl : xs.length = k := by omega
      go_wp2
      go_ret
      exact ⟨rfl, hbel⟩
set_option maxHeartbeats 1000000 in
theorem spec_BraidText (n : Int) (v : Value) (xs : List Int) (w : World) (h : reads w v xs) (hlen : xs.length ≤ 1000000000) (hfit : Fits xs) : Calls Tryd.prog 5 #[.agg #[.int .i64 n, v]] w fun e w' => e = .returned (.tuple #[.string (strB (textL n xs)), .int .i64 (if okW n xs = true then 0 else 1)]) ∧ Below w.heap.size w w' := by
  unfold textL
  have hI := fun w' (hb : Below w.heap.size w w') => spec_Is n v xs w' (h.kept hb) hlen hfit
  cases hok : okW n xs with
  | false =>
    simp only [hok] at hI
    have HI := Lib.hid hI
    clear hI h hfit hok
    go_enter Tryd.func5, Tryd.ntmps5
    go_wp2_with (first | (go_at_call 10; refine Calls.mono (HI.out _ ?_) ?_; (repeat (first | (with_reducible exact Below.refl _ _) | (with_reducible assumption) | (with_reducible refine below_plus' ?_ ?_; ((try simp only [plus_size, World.size_alloc, World.size_drew, World.size_setCell, size_setRow, World.heap_drewN, List.length_append]) <;> omega)) | (with_reducible refine below_alloc' ?_ ?_; ((try simp only [plus_size, World.size_alloc, World.size_drew, World.size_setCell, size_setRow, World.heap_drewN, List.length_append]) <;> omega)) | with_reducible refine Below.drew ?_ | (with_reducible refine below_drewN' ?_ _) | exact Below.refl _ _)); rintro e w' ⟨rfl, hB⟩; obtain ⟨j, d, rfl⟩ := plus_of_below hB; clear hB))
    go_ret2
    exact ⟨rfl, by (repeat (first | (with_reducible exact Below.refl _ _) | (with_reducible assumption) | (with_reducible refine below_plus' ?_ ?_; ((try simp only [plus_size, World.size_alloc, World.size_drew, World.size_setCell, size_setRow, World.heap_drewN, List.length_append]) <;> omega)) | (with_reducible refine below_alloc' ?_ ?_; ((try simp only [plus_size, World.size_alloc, World.size_drew, World.size_setCell, size_setRow, World.heap_drewN, List.length_append]) <;> omega)) | with_reducible refine Below.drew ?_ | (with_reducible refine below_drewN' ?_ _) | exact Below.refl _ _))⟩
  | true =>
    simp only [hok] at hI
    have HI := Lib.hid hI
    have hn := (okW_small hok).1
    have h200 := okW_len hok
    have HT := Lib.hid (fun w' (hb : Below w.heap.size w w') => l01Text_any v xs w' (h.kept hb) h200 (okW_small hok).2)
    clear hI hfit hok h
    simp only [if_true]
    have hs1 := szT (strB_size (decL n)) (decL_length n) (show 2 + 1 ≤ 9223372036854775807 by omega)
    have hs3 : ¬ 9223372036854775807 < (strB (decL n)).size + 1 + (strB (lettersT xs xs.length)).size := by
      have h1 := decL_length n
      have h2 := lettersT_length xs xs.length
      rw [strB_size, strB_size]; omega
    have HE := Lib.hid (show Value.string (strB (decL n) ++ ⟨#[58]⟩ ++ strB (lettersT xs xs.length)) = .string (strB (braidT n xs xs.length)) by rw [show (⟨#[58]⟩ : ByteArray) = strB [58] from rfl, strB_append, strB_append]; simp [braidT])
    generalize lettersT xs xs.length = L at *
    go_enter Tryd.func5, Tryd.ntmps5
    go_upto_region 3 with (first | (go_at_call 10; refine Calls.mono (HI.out _ ?_) ?_; (repeat (first | (with_reducible exact Below.refl _ _) | (with_reducible assumption) | (with_reducible refine below_plus' ?_ ?_; ((try simp only [plus_size, World.size_alloc, World.size_drew, World.size_setCell, size_setRow, World.heap_drewN, List.length_append]) <;> omega)) | (with_reducible refine below_alloc' ?_ ?_; ((try simp only [plus_size, World.size_alloc, World.size_drew, World.size_setCell, size_setRow, World.heap_drewN, List.length_append]) <;> omega)) | with_reducible refine Below.drew ?_ | (with_reducible refine below_drewN' ?_ _) | exact Below.refl _ _)); rintro e w' ⟨rfl, hB⟩; obtain ⟨j, d, rfl⟩ := plus_of_below hB; clear hB))
    refine region_plus (by kernel_rfl) (by kernel_rfl) ?_
    repeat (go_big_quiet_step (first | (go_at_call 11; exact calls_plus (l01Dec_any _ _ (by omega) (by omega))) | (go_at_call 12; exact calls_plus (HT.out _ (by rw [plusq_eq]; (repeat (first | (with_reducible exact Below.refl _ _) | (with_reducible assumption) | (with_reducible refine below_plus' ?_ ?_; ((try simp only [plus_size, World.size_alloc, World.size_drew, World.size_setCell, size_setRow, World.heap_drewN, List.length_append]) <;> omega)) | (with_reducible refine below_alloc' ?_ ?_; ((try simp only [plus_size, World.size_alloc, World.size_drew, World.size_setCell, size_setRow, World.heap_drewN, List.length_append]) <;> omega)) | with_reducible refine Below.drew ?_ | (with_reducible refine below_drewN' ?_ _) | exact Below.refl _ _)))))))
    refine wpQuiet_nil ?_
    intro _ hw'
    obtain ⟨q, hw''⟩ := hw'
    subst hw''
    rw [plusq_eq]
    generalize q.j = j
    generalize q.d = d
    clear q
    go_wp2
    go_ret2
    exact ⟨by rw [← HE.out]; rfl, by (repeat (first | (with_reducible exact Below.refl _ _) | (with_reducible assumption) | (with_reducible refine below_plus' ?_ ?_; ((try simp only [plus_size, World.size_alloc, World.size_drew, World.size_setCell, size_setRow, World.heap_drewN, List.length_append]) <;> omega)) | (with_reducible refine below_alloc' ?_ ?_; ((try simp only [plus_size, World.size_alloc, World.size_drew, World.size_setCell, size_setRow, World.heap_drewN, List.length_append]) <;> omega)) | with_reducible refine Below.drew ?_ | (with_reducible refine below_drewN' ?_ _) | exact Below.refl _ _))⟩
end Go.Proofs.YteogfncfpmdabaaDoor
