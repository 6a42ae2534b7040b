/- Texts of braids by the reference. Conditions: as each theorem says. -/
import Derived.Test.YtblpbkfenmkhbaaGreatDoorDb
namespace Go.Proofs.YtblpbkfenmkhbaaGreatDoor
open Go.RowKit
set_option linter.unusedSimpArgs false
set_option linter.unusedVariables false
open Go.RowKit
theorem conv_cell (w : World) (m : Nat) (h : m ≤ 9) (j : Nat) (hj : j < [digB m].length) : (w.alloc (.cells #[.int .u8 (48 + m)] 5)).cell? ((⟨w.heap.size, 0, none⟩ : Addr).add j) = some (.int .u8 (([digB m][j]).toNat : Int)) := by
  have e : j = 0 := by simpa using hj
  subst e
  have hd : (digB m).toNat = 48 + m := by unfold digB; rw [UInt8.toNat_ofNat']; omega
  simp only [List.getElem_cons_zero, hd]
  show (w.alloc _).cell? ⟨w.heap.size, 0, none⟩ = _
  rw [World.cell?_alloc_at _ _ _ _ rfl]
  simp
set_option maxRecDepth 20000 in
set_option maxHeartbeats 400000 in
theorem l01Dec_pos (m : Nat) (w : World) (h : m ≤ 9) : Calls Tryz.prog 49 #[.int .i64 m] w fun e w' => e = .returned (.string (strB [digB m])) ∧ Below w.heap.size w w' := by
  have hcv : (convert 22 9 (.slice (some ⟨w.heap.size, 0, none⟩) 1 1)).run Tryz.prog (w.alloc (.cells #[.int .u8 (48 + m)] 5)) = .ok (.string (strB [digB m])) (w.alloc (.cells #[.int .u8 (48 + m)] 5)) := run_convert_bytes_back (P := Tryz.prog) (w.alloc (.cells #[.int .u8 (48 + m)] 5)) 22 9 5 ⟨w.heap.size, 0, none⟩ 1 [digB m] Tryz.underlying22 Tryz.underlying5 Tryz.underlying9 (fun j hj => conv_cell w m h j hj)
  go_enter Tryz.func49, Tryz.ntmps49
  go_wp2
  go_ret
  exact ⟨rfl, by (repeat (first | (with_reducible exact Below.refl _ _) | (with_reducible assumption) | (with_reducible refine below_plus' ?_ ?_; ((try simp only [plus_size, World.size_alloc, World.size_drew, World.size_setCell, size_setRow, World.heap_drewN, List.length_append]) <;> omega)) | (with_reducible refine below_alloc' ?_ ?_; ((try simp only [plus_size, World.size_alloc, World.size_drew, World.size_setCell, size_setRow, World.heap_drewN, List.length_append]) <;> omega)) | with_reducible refine Below.drew ?_ | (with_reducible refine below_drewN' ?_ _) | exact Below.refl _ _))⟩
set_option maxRecDepth 20000 in
set_option maxHeartbeats 400000 in
theorem l01Dec_any (n : Int) (w : World) (h1 : -9 ≤ n) (h2 : n ≤ 9) : Calls Tryz.prog 49 #[.int .i64 n] w fun e w' => e = .returned (.string (strB (decL n))) ∧ Below w.heap.size w w' := by
  by_cases hn : n < 0
  · obtain ⟨m, hm⟩ : ∃ m : Nat, -n = m := ⟨(-n).toNat, by omega⟩
    have H := Lib.hid (fun w => show Calls Tryz.prog 49 #[.int .i64 (-n)] w _ from hm ▸ l01Dec_pos m w (by omega))
    have HD := Lib.hid (show decL n = [45, digB m] by rw [decL, if_pos hn, show n.natAbs = m by omega])
    have hs := szT' (strB_size [digB m]) (Nat.le_refl 1) (show 1 + 1 ≤ 9223372036854775807 by omega)
    clear hm
    go_enter Tryz.func49, Tryz.ntmps49
    go_wp2_with (first | (go_at_call 49; refine Calls.mono (H.out _) ?_; rintro e w' ⟨rfl, hB⟩; obtain ⟨j, d, rfl⟩ := plus_of_below hB; clear hB))
    go_ret
    exact ⟨by rw [HD.out, show (⟨#[45]⟩ : ByteArray) = strB [45] from rfl, strB_append]; rfl, by (repeat (first | (with_reducible exact Below.refl _ _) | (with_reducible assumption) | (with_reducible refine below_plus' ?_ ?_; ((try simp only [plus_size, World.size_alloc, World.size_drew, World.size_setCell, size_setRow, World.heap_drewN, List.length_append]) <;> omega)) | (with_reducible refine below_alloc' ?_ ?_; ((try simp only [plus_size, World.size_alloc, World.size_drew, World.size_setCell, size_setRow, World.heap_drewN, List.length_append]) <;> omega)) | with_reducible refine Below.drew ?_ | (with_reducible refine below_drewN' ?_ _) | exact Below.refl _ _))⟩
  · obtain ⟨m, rfl⟩ : ∃ m : Nat, n = m := ⟨n.toNat, by omega⟩
    have := l01Dec_pos m w (by omega)
    rw [show decL (m : Int) = [digB m] by rw [decL, if_neg hn]; rfl]
    exact this
set_option maxHeartbeats 1000000 in
theorem l01Text_any (v : Value) (xs : List Int) (w : World) (h : reads w v xs) (hlen : xs.length ≤ 200) (hx : ∀ k, k < xs.length → -9 ≤ nth xs k ∧ nth xs k ≤ 9) : Calls Tryz.prog 50 #[v] w fun e w' => e = .returned (.string (strB (lettersT xs xs.length))) ∧ Below w.heap.size w w' := by
  have HLET := Lib.hid hx
  clear hx
  obtain ⟨a, c, rfl, hrd⟩ := h
  have HX := Lib.hid (show ∀ k, k < xs.length → ∃ b o, a = some ⟨b, o, none⟩ ∧ b < w.heap.size ∧ w.cell? ⟨b, o + k, none⟩ = some (.int .i64 (nth xs k)) from fun k hk => by
    rcases hrd with h | ⟨b, o, rfl, m⟩
    · rw [h] at hk; cases hk
    · exact ⟨b, o, rfl, World.block_lt_of_cell? w _ (m k hk), m k hk⟩)
  clear hrd
  go_enter Tryz.func50, Tryz.ntmps50
  go_wp2
  go_loopw [3, 4] (fun st sl wr => ∃ (k : Nat), k ≤ xs.length ∧ sl = .int .i64 k ∧ st = .string (strB (lettersT xs k)) ∧ Below w.heap.size w wr) (fun _ sl _ => xs.length - (intOf sl).toNat)
  case atStart => exact ⟨0, by omega, rfl, rfl, by (repeat (first | (with_reducible exact Below.refl _ _) | (with_reducible assumption) | (with_reducible refine below_plus' ?_ ?_; ((try simp only [plus_size, World.size_alloc, World.size_drew, World.size_setCell, size_setRow, World.heap_drewN, List.length_append]) <;> omega)) | (with_reducible refine below_alloc' ?_ ?_; ((try simp only [plus_size, World.size_alloc, World.size_drew, World.size_setCell, size_setRow, World.heap_drewN, List.length_append]) <;> omega)) | with_reducible refine Below.drew ?_ | (with_reducible refine below_drewN' ?_ _) | exact Below.refl _ _))⟩
  case round =>
    obtain ⟨k, hk, rfl, rfl, hbel⟩ := hrel
    have hbs := hbel.size
    have hl2 := lettersT_length xs k
    by_cases hlt : k < xs.length
    · obtain ⟨b, o, rfl, hbl, g1⟩ := HX.out k hlt
      replace g1 := (hbel.cell (p := ⟨b, o + k, none⟩) hbl).trans g1
      have hbl2 : b < wr.heap.size := by omega
      have hx := HLET.out k hlt
      have hl3 := decL_length (nth xs k)
      have hs1 := szT (strB_size (lettersT xs k)) hl2 (show 3 * k + 1 ≤ 9223372036854775807 by omega)
      have hs3 : ¬ 9223372036854775807 < (strB (lettersT xs k)).size + 1 + (strB (decL (nth xs k))).size := by rw [strB_size, strB_size]; omega
      have HS := Lib.hid (show lettersT xs k ++ (32 :: decL (nth xs k)) = lettersT xs (k + 1) from rfl)
      generalize nth xs k = z at *
      generalize lettersT xs k = T at *
      go_wp2_with (first | (go_at_call 49; refine Calls.mono (l01Dec_any _ _ (by omega) (by omega)) ?_; rintro e w' ⟨rfl, hB⟩; obtain ⟨j, d, rfl⟩ := plus_of_below hB; clear hB))
      go_roundw
      case rel => exact ⟨k + 1, by omega, by go_num, (round_txt2 _ _).trans (by rw [HS.out]), by (repeat (first | (with_reducible exact Below.refl _ _) | (with_reducible assumption) | (with_reducible refine below_plus' ?_ ?_; ((try simp only [plus_size, World.size_alloc, World.size_drew, World.size_setCell, size_setRow, World.heap_drewN, List.length_append]) <;> omega)) | (with_reducible refine below_alloc' ?_ ?_; ((try simp only [plus_size, World.size_alloc, World.size_drew, World.size_setCell, size_setRow, World.heap_drewN, List.length_append]) <;> omega)) | with_reducible refine Below.drew ?_ | (with_reducible refine below_drewN' ?_ _) | exact Below.refl _ _))⟩
      case measure => simp [intOf]; omega
    · obtain rfl : xs.length = k := by omega
      go_wp2
      go_ret
      exact ⟨rfl, hbel⟩
end Go.Proofs.YtblpbkfenmkhbaaGreatDoor
