/- Normal forms: read, copied, compared. Conditions: as each theorem says. -/
import Derived.Test.YtcfofdjdbojadaaN1
import Derived.Test.YtcfofdjdbojadaaS4
namespace Go.Proofs.Ytcfofdjdbojadaa
open Go.RowKit
set_option linter.unusedSimpArgs false
set_option linter.unusedVariables false
theorem infoS : (Try.prog.info? 44).map (fun i => (i.zero, i.size, i.bytes)) = some (some (.agg (arrF .u8 8 (up zeroN))), 8, 8) := by kernel_rfl
set_option maxHeartbeats 1000000 in
theorem toSimpleS_any (v : Value) (m : Nat) (s : Nat → Nat → Nat) (w : World) (h : readsA w v m s) (hlen : m ≤ 1000000000) : Calls Try.prog 16 #[v] w fun e w' => e = .returned (.slice (some ⟨w.heap.size, 0, none⟩) m m) ∧ ownP 44 w' w.heap.size m s m ∧ Below w.heap.size w w' := by
  obtain ⟨a1, c1, rfl, h⟩ := h
  have H1 := Lib.hid (show 0 < m → ∃ b o, a1 = some ⟨b, o, none⟩ ∧ b < w.heap.size ∧ ∀ i, i < m → ∀ k, k < 8 → w.cell? ⟨b, o + i * 8 + k, none⟩ = some (.int .u8 (s i k : Int)) from fun hp => by
    rcases h with h | ⟨b, o, rfl, mm⟩
    · omega
    · exact ⟨b, o, rfl, World.block_lt_of_cell? w _ (mm 0 hp 0 (by omega)), mm⟩)
  clear h
  go_enter Try.func16, Try.ntmps16
  go_wp2_with (first | ((with_reducible apply wpList_make_arrs w rfl _ _ 29 rfl 44 Try.underlying29 _ infoS m rfl rfl (by omega)); intro w1 cur hcur hsz hB1))
  have HP := Lib.hid (ownP.zero (s := s) hcur hsz)
  have HB1 := Lib.hid hB1
  clear hcur hsz hB1
  go_loopw [4] (fun sl wr => ∃ k : Nat, k ≤ m ∧ sl = .int .i64 k ∧ ownP 44 wr w.heap.size m s k ∧ Below w.heap.size w wr) (fun sl _ => m - (intOf sl).toNat)
  case atStart => exact ⟨0, by omega, rfl, HP.out, HB1.out⟩
  case round =>
    clear HP HB1
    obtain ⟨k, hk, rfl, hP, hB⟩ := hrel
    by_cases hlt : k < m
    · obtain ⟨b1, o1, rfl, hb1, mm⟩ := H1.out (by omega)
      have hm : ∀ c, c < 8 → wr.cell? ⟨b1, o1 + k * 8 + c, none⟩ = some (.int .u8 (s k c : Int)) := fun c hc => by rw [hB.cell (p := ⟨b1, o1 + k * 8 + c, none⟩) hb1]; exact mm k hlt c hc
      clear mm
      have g0 := hm 0 (by omega)
      have g1 := hm 1 (by omega)
      have g2 := hm 2 (by omega)
      have g3 := hm 3 (by omega)
      have g4 := hm 4 (by omega)
      have g5 := hm 5 (by omega)
      have g6 := hm 6 (by omega)
      have g7 := hm 7 (by omega)
      rw [Nat.add_zero] at g0
      clear hm
      have hsz := hB.size
      have k1 : b1 < wr.heap.size := by omega
      have hgl := hP.lt
      obtain ⟨old, ho, hos, hoc⟩ := hP
      have Hput := Lib.hid (ownP.put ho hos hlt hoc)
      have HB2 := Lib.hid (hB.trans (below_setRow wr w.heap.size w.heap.size (putA old (k * 8) (arrF .u8 8 (up (s k)))) (Nat.le_refl _)))
      clear hB hoc
      go_wp2_with (first | (go_at_call 32; refine (toSimple_any _ _).mono ?_; rintro e w' ⟨rfl, hB⟩; obtain ⟨j, d, rfl⟩ := plus_of_below hB; clear hB) | ((with_reducible apply wpList_store_sub rfl rfl 44 _ _ rfl w.heap.size (k * 8) rfl _ rfl old 44); (repeat (first | (refine heap_at _ _ _ ?_; ((try simp only [plus_size, World.size_alloc, World.size_drew, World.size_setCell, size_setRow, World.heap_drewN, List.length_append]) <;> omega)) | (refine heap_past' ?_ ?_; ((try simp only [plus_size, World.size_alloc, World.size_drew, World.size_setCell, size_setRow, World.heap_drewN, List.length_append]) <;> omega)) | (refine heap_plus' ?_ ?_; ((try simp only [plus_size, World.size_alloc, World.size_drew, World.size_setCell, size_setRow, World.heap_drewN, List.length_append]) <;> omega)) | assumption)); (simp only [arrF_size]; kernel_rfl); (rw [arrF_size]; omega); (exact arrF_one _ _ _)))
      go_roundw
      case rel => exact ⟨k + 1, by omega, by go_num, Hput.out.kept (by (repeat (first | (with_reducible exact Below.refl _ _) | (with_reducible assumption) | (with_reducible refine below_plus' ?_ ?_; ((try simp only [plus_size, World.size_alloc, World.size_drew, World.size_setCell, size_setRow, World.heap_drewN, List.length_append]) <;> omega)) | (with_reducible refine below_alloc' ?_ ?_; ((try simp only [plus_size, World.size_alloc, World.size_drew, World.size_setCell, size_setRow, World.heap_drewN, List.length_append]) <;> omega)) | with_reducible refine Below.drew ?_ | (with_reducible refine below_drewN' ?_ _) | exact Below.refl _ _))), HB2.out.trans (by (repeat (first | (with_reducible exact Below.refl _ _) | (with_reducible assumption) | (with_reducible refine below_plus' ?_ ?_; ((try simp only [plus_size, World.size_alloc, World.size_drew, World.size_setCell, size_setRow, World.heap_drewN, List.length_append]) <;> omega)) | (with_reducible refine below_alloc' ?_ ?_; ((try simp only [plus_size, World.size_alloc, World.size_drew, World.size_setCell, size_setRow, World.heap_drewN, List.length_append]) <;> omega)) | with_reducible refine Below.drew ?_ | (with_reducible refine below_drewN' ?_ _) | exact Below.refl _ _)))⟩
      case measure => simp [intOf]; omega
    · obtain rfl : k = m := by omega
      have HP := Lib.hid hP
      have HB1 := Lib.hid hB
      clear hP hB
      go_wp2
      go_ret
      exact ⟨rfl, HP.out, HB1.out⟩
end Go.Proofs.Ytcfofdjdbojadaa
