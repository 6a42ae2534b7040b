/- Is it a simple braid? The program's and the reference's answers. Conditions: as each theorem says. -/
import Derived.Test.YtemegeiolpkapaaS2
namespace Go.Proofs.Ytemegeiolpkapaa
open Go.RowKit
set_option linter.unusedSimpArgs false
set_option linter.unusedVariables false
set_option maxHeartbeats 400000 in
theorem impl_IsSimple (s : Nat → Nat) (n : Int) (w : World) (hu : ∀ i, i < 8 → s i < 256) : Calls Try.prog 9 #[.agg (arrF .u8 8 (up s)), .int .i64 n] w fun e w' => e = .returned (.bool (okB n s)) ∧ Below w.heap.size w w' := by
  cases hb : inB n 1 8 with
  | false =>
    have HO := Lib.hid (okB_out (s := s) hb)
    go_enter Try.func9, Try.ntmps9
    go_wp2_with (first | (go_at_call 46; refine (isCount_any _ _).mono ?_; rintro e w' ⟨rfl, rfl⟩)
                                        | ((with_reducible apply wpList_store_arr rfl rfl 47 _ _ rfl _ rfl _ rfl 8 info47); (repeat (first | (refine heap_at _ _ _ ?_; ((try simp only [plus_size, World.size_alloc, World.size_drew, World.size_setCell, size_setRow, World.heap_drewN, List.length_append]) <;> omega)) | (refine heap_past' ?_ ?_; ((try simp only [plus_size, World.size_alloc, World.size_drew, World.size_setCell, size_setRow, World.heap_drewN, List.length_append]) <;> omega)) | (refine heap_plus' ?_ ?_; ((try simp only [plus_size, World.size_alloc, World.size_drew, World.size_setCell, size_setRow, World.heap_drewN, List.length_append]) <;> omega)) | assumption)); (simp only [arrF_size, arrO_size]); (simp only [arrF_size, arrO_size]); (first | exact arrF_one _ _ _ | exact arrO_one _ _); (repeat (first | (refine setRow_at' ?_; ((try simp only [plus_size, World.size_alloc, World.size_drew, World.size_setCell, size_setRow, World.heap_drewN, List.length_append]) <;> omega)) | (apply setRow_past'; ((try simp only [plus_size, World.size_alloc, World.size_drew, World.size_setCell, size_setRow, World.heap_drewN, List.length_append]) <;> omega)) | (apply setRow_plus'; ((try simp only [plus_size, World.size_alloc, World.size_drew, World.size_setCell, size_setRow, World.heap_drewN, List.length_append]) <;> omega)) | exact rfl)))
                                        | ((with_reducible apply wpList_load_arr rfl 25 _ rfl _ rfl 8 5 Try.underlying25 info25); (repeat (first | (refine heap_at _ _ _ ?_; ((try simp only [plus_size, World.size_alloc, World.size_drew, World.size_setCell, size_setRow, World.heap_drewN, List.length_append]) <;> omega)) | (refine heap_past' ?_ ?_; ((try simp only [plus_size, World.size_alloc, World.size_drew, World.size_setCell, size_setRow, World.heap_drewN, List.length_append]) <;> omega)) | (refine heap_plus' ?_ ?_; ((try simp only [plus_size, World.size_alloc, World.size_drew, World.size_setCell, size_setRow, World.heap_drewN, List.length_append]) <;> omega)) | assumption)); (simp only [arrF_size, arrO_size])))
    go_ret
    exact ⟨by rw [HO.out]; rfl, by (repeat (first | (with_reducible exact Below.refl _ _) | (with_reducible assumption) | (with_reducible refine below_plus' ?_ ?_; ((try simp only [plus_size, World.size_alloc, World.size_drew, World.size_setCell, size_setRow, World.heap_drewN, List.length_append]) <;> omega)) | (with_reducible refine below_alloc' ?_ ?_; ((try simp only [plus_size, World.size_alloc, World.size_drew, World.size_setCell, size_setRow, World.heap_drewN, List.length_append]) <;> omega)) | with_reducible refine Below.drew ?_ | exact Below.refl _ _))⟩
  | true =>
    obtain ⟨m, rfl⟩ : ∃ m : Nat, n = m := ⟨n.toNat, by have := inB_true hb; omega⟩
    have h1 : 1 ≤ m := by have := inB_true hb; omega
    have h2 : m ≤ 8 := by have := inB_true hb; omega
    have Hb := Lib.hid hb
    go_enter Try.func9, Try.ntmps9
    go_wp2_with (first | (go_at_call 46; refine (isCount_any _ _).mono ?_; rintro e w' ⟨rfl, rfl⟩)
                                        | ((with_reducible apply wpList_store_arr rfl rfl 47 _ _ rfl _ rfl _ rfl 8 info47); (repeat (first | (refine heap_at _ _ _ ?_; ((try simp only [plus_size, World.size_alloc, World.size_drew, World.size_setCell, size_setRow, World.heap_drewN, List.length_append]) <;> omega)) | (refine heap_past' ?_ ?_; ((try simp only [plus_size, World.size_alloc, World.size_drew, World.size_setCell, size_setRow, World.heap_drewN, List.length_append]) <;> omega)) | (refine heap_plus' ?_ ?_; ((try simp only [plus_size, World.size_alloc, World.size_drew, World.size_setCell, size_setRow, World.heap_drewN, List.length_append]) <;> omega)) | assumption)); (simp only [arrF_size, arrO_size]); (simp only [arrF_size, arrO_size]); (first | exact arrF_one _ _ _ | exact arrO_one _ _); (repeat (first | (refine setRow_at' ?_; ((try simp only [plus_size, World.size_alloc, World.size_drew, World.size_setCell, size_setRow, World.heap_drewN, List.length_append]) <;> omega)) | (apply setRow_past'; ((try simp only [plus_size, World.size_alloc, World.size_drew, World.size_setCell, size_setRow, World.heap_drewN, List.length_append]) <;> omega)) | (apply setRow_plus'; ((try simp only [plus_size, World.size_alloc, World.size_drew, World.size_setCell, size_setRow, World.heap_drewN, List.length_append]) <;> omega)) | exact rfl)))
                                        | ((with_reducible apply wpList_load_arr rfl 25 _ rfl _ rfl 8 5 Try.underlying25 info25); (repeat (first | (refine heap_at _ _ _ ?_; ((try simp only [plus_size, World.size_alloc, World.size_drew, World.size_setCell, size_setRow, World.heap_drewN, List.length_append]) <;> omega)) | (refine heap_past' ?_ ?_; ((try simp only [plus_size, World.size_alloc, World.size_drew, World.size_setCell, size_setRow, World.heap_drewN, List.length_append]) <;> omega)) | (refine heap_plus' ?_ ?_; ((try simp only [plus_size, World.size_alloc, World.size_drew, World.size_setCell, size_setRow, World.heap_drewN, List.length_append]) <;> omega)) | assumption)); (simp only [arrF_size, arrO_size])))
    clear hb
    go_loopw [13] (fun sl wr => ∃ k : Nat, k ≤ 8 ∧ sl = .int .i64 k ∧ GoodK m s k ∧ wr = ((w.alloc (.cells (arrF .u8 8 (up s)) 25)).alloc (.cells (arrO 8 (seenK m s k)) 47))) (fun sl _ => 8 - (intOf sl).toNat)
    case atStart => exact ⟨0, by omega, rfl, good_zero _ _, by rw [seenK_zero]⟩
    case round =>
      obtain ⟨k, hk, rfl, hg, rfl⟩ := hrel
      have Hg := Lib.hid hg
      clear hg
      by_cases hlt : k < 8
      · have hk256 : s k < 256 := hu k hlt
        by_cases hkn : m ≤ k
        · by_cases h0 : s k = 0
          · go_wp2
            go_roundw
            case rel => exact ⟨k + 1, by omega, by go_num, good_ge hkn Hg.out h0, by rw [seenK_ge hkn]⟩
            case measure => simp [intOf]; omega
          · have HO := Lib.hid (okB_bad (bad_ge hlt hkn h0))
            go_wp2
            go_ret
            exact ⟨by rw [HO.out]; rfl, by (repeat (first | (with_reducible exact Below.refl _ _) | (with_reducible assumption) | (with_reducible refine below_plus' ?_ ?_; ((try simp only [plus_size, World.size_alloc, World.size_drew, World.size_setCell, size_setRow, World.heap_drewN, List.length_append]) <;> omega)) | (with_reducible refine below_alloc' ?_ ?_; ((try simp only [plus_size, World.size_alloc, World.size_drew, World.size_setCell, size_setRow, World.heap_drewN, List.length_append]) <;> omega)) | with_reducible refine Below.drew ?_ | exact Below.refl _ _))⟩
        · have hkm : k < m := by omega
          clear hkn
          by_cases h0 : s k < m
          · have hs8 : s k < 8 := by omega
            cases h3 : seenK m s k (s k) with
            | false =>
              go_wp2
              go_roundw
              case rel => exact ⟨k + 1, by omega, by go_num, good_lt hkm Hg.out h0 h3, by rw [seenK_lt hkm]⟩
              case measure => simp [intOf]; omega
            | true =>
              have HO := Lib.hid (okB_bad (bad_twice hlt hkm h3))
              go_wp2
              go_ret
              exact ⟨by rw [HO.out]; rfl, by (repeat (first | (with_reducible exact Below.refl _ _) | (with_reducible assumption) | (with_reducible refine below_plus' ?_ ?_; ((try simp only [plus_size, World.size_alloc, World.size_drew, World.size_setCell, size_setRow, World.heap_drewN, List.length_append]) <;> omega)) | (with_reducible refine below_alloc' ?_ ?_; ((try simp only [plus_size, World.size_alloc, World.size_drew, World.size_setCell, size_setRow, World.heap_drewN, List.length_append]) <;> omega)) | with_reducible refine Below.drew ?_ | exact Below.refl _ _))⟩
          · have h0' : m ≤ s k := by omega
            clear h0
            have HO := Lib.hid (okB_bad (bad_big hlt hkm h0'))
            go_wp2
            go_ret
            exact ⟨by rw [HO.out]; rfl, by (repeat (first | (with_reducible exact Below.refl _ _) | (with_reducible assumption) | (with_reducible refine below_plus' ?_ ?_; ((try simp only [plus_size, World.size_alloc, World.size_drew, World.size_setCell, size_setRow, World.heap_drewN, List.length_append]) <;> omega)) | (with_reducible refine below_alloc' ?_ ?_; ((try simp only [plus_size, World.size_alloc, World.size_drew, World.size_setCell, size_setRow, World.heap_drewN, List.length_append]) <;> omega)) | with_reducible refine Below.drew ?_ | exact Below.refl _ _))⟩
      · obtain rfl : k = 8 := by omega
        have HO := Lib.hid (okB_good Hb.out Hg.out)
        go_wp2
        go_ret
        exact ⟨by rw [HO.out]; rfl, by (repeat (first | (with_reducible exact Below.refl _ _) | (with_reducible assumption) | (with_reducible refine below_plus' ?_ ?_; ((try simp only [plus_size, World.size_alloc, World.size_drew, World.size_setCell, size_setRow, World.heap_drewN, List.length_append]) <;> omega)) | (with_reducible refine below_alloc' ?_ ?_; ((try simp only [plus_size, World.size_alloc, World.size_drew, World.size_setCell, size_setRow, World.heap_drewN, List.length_append]) <;> omega)) | with_reducible refine Below.drew ?_ | exact Below.refl _ _))⟩
set_option maxHeartbeats 400000 in
theorem spec_Is (s : Nat → Nat) (n : Int) (w : World) (hu : ∀ i, i < 8 → s i < 256) : Calls Try.prog 44 #[.agg (arrF .u8 8 (up s)), .int .i64 n] w fun e w' => e = .returned (.bool (okB n s)) ∧ Below w.heap.size w w' := by
  cases hb : inB n 1 8 with
  | false =>
    have HO := Lib.hid (okB_out (s := s) hb)
    go_enter Try.func44, Try.ntmps44
    go_wp2_with (first | (go_at_call 50; refine (l01In_any _ _ _ _).mono ?_; rintro e w' ⟨rfl, rfl⟩)
                                        | ((with_reducible apply wpList_store_arr rfl rfl 47 _ _ rfl _ rfl _ rfl 8 info47); (repeat (first | (refine heap_at _ _ _ ?_; ((try simp only [plus_size, World.size_alloc, World.size_drew, World.size_setCell, size_setRow, World.heap_drewN, List.length_append]) <;> omega)) | (refine heap_past' ?_ ?_; ((try simp only [plus_size, World.size_alloc, World.size_drew, World.size_setCell, size_setRow, World.heap_drewN, List.length_append]) <;> omega)) | (refine heap_plus' ?_ ?_; ((try simp only [plus_size, World.size_alloc, World.size_drew, World.size_setCell, size_setRow, World.heap_drewN, List.length_append]) <;> omega)) | assumption)); (simp only [arrF_size, arrO_size]); (simp only [arrF_size, arrO_size]); (first | exact arrF_one _ _ _ | exact arrO_one _ _); (repeat (first | (refine setRow_at' ?_; ((try simp only [plus_size, World.size_alloc, World.size_drew, World.size_setCell, size_setRow, World.heap_drewN, List.length_append]) <;> omega)) | (apply setRow_past'; ((try simp only [plus_size, World.size_alloc, World.size_drew, World.size_setCell, size_setRow, World.heap_drewN, List.length_append]) <;> omega)) | (apply setRow_plus'; ((try simp only [plus_size, World.size_alloc, World.size_drew, World.size_setCell, size_setRow, World.heap_drewN, List.length_append]) <;> omega)) | exact rfl)))
                                        | ((with_reducible apply wpList_load_arr rfl 25 _ rfl _ rfl 8 5 Try.underlying25 info25); (repeat (first | (refine heap_at _ _ _ ?_; ((try simp only [plus_size, World.size_alloc, World.size_drew, World.size_setCell, size_setRow, World.heap_drewN, List.length_append]) <;> omega)) | (refine heap_past' ?_ ?_; ((try simp only [plus_size, World.size_alloc, World.size_drew, World.size_setCell, size_setRow, World.heap_drewN, List.length_append]) <;> omega)) | (refine heap_plus' ?_ ?_; ((try simp only [plus_size, World.size_alloc, World.size_drew, World.size_setCell, size_setRow, World.heap_drewN, List.length_append]) <;> omega)) | assumption)); (simp only [arrF_size, arrO_size])))
    go_ret
    exact ⟨by rw [HO.out]; rfl, by (repeat (first | (with_reducible exact Below.refl _ _) | (with_reducible assumption) | (with_reducible refine below_plus' ?_ ?_; ((try simp only [plus_size, World.size_alloc, World.size_drew, World.size_setCell, size_setRow, World.heap_drewN, List.length_append]) <;> omega)) | (with_reducible refine below_alloc' ?_ ?_; ((try simp only [plus_size, World.size_alloc, World.size_drew, World.size_setCell, size_setRow, World.heap_drewN, List.length_append]) <;> omega)) | with_reducible refine Below.drew ?_ | exact Below.refl _ _))⟩
  | true =>
    obtain ⟨m, rfl⟩ : ∃ m : Nat, n = m := ⟨n.toNat, by have := inB_true hb; omega⟩
    have h1 : 1 ≤ m := by have := inB_true hb; omega
    have h2 : m ≤ 8 := by have := inB_true hb; omega
    have Hb := Lib.hid hb
    go_enter Try.func44, Try.ntmps44
    go_wp2_with (first | (go_at_call 50; refine (l01In_any _ _ _ _).mono ?_; rintro e w' ⟨rfl, rfl⟩)
                                        | ((with_reducible apply wpList_store_arr rfl rfl 47 _ _ rfl _ rfl _ rfl 8 info47); (repeat (first | (refine heap_at _ _ _ ?_; ((try simp only [plus_size, World.size_alloc, World.size_drew, World.size_setCell, size_setRow, World.heap_drewN, List.length_append]) <;> omega)) | (refine heap_past' ?_ ?_; ((try simp only [plus_size, World.size_alloc, World.size_drew, World.size_setCell, size_setRow, World.heap_drewN, List.length_append]) <;> omega)) | (refine heap_plus' ?_ ?_; ((try simp only [plus_size, World.size_alloc, World.size_drew, World.size_setCell, size_setRow, World.heap_drewN, List.length_append]) <;> omega)) | assumption)); (simp only [arrF_size, arrO_size]); (simp only [arrF_size, arrO_size]); (first | exact arrF_one _ _ _ | exact arrO_one _ _); (repeat (first | (refine setRow_at' ?_; ((try simp only [plus_size, World.size_alloc, World.size_drew, World.size_setCell, size_setRow, World.heap_drewN, List.length_append]) <;> omega)) | (apply setRow_past'; ((try simp only [plus_size, World.size_alloc, World.size_drew, World.size_setCell, size_setRow, World.heap_drewN, List.length_append]) <;> omega)) | (apply setRow_plus'; ((try simp only [plus_size, World.size_alloc, World.size_drew, World.size_setCell, size_setRow, World.heap_drewN, List.length_append]) <;> omega)) | exact rfl)))
                                        | ((with_reducible apply wpList_load_arr rfl 25 _ rfl _ rfl 8 5 Try.underlying25 info25); (repeat (first | (refine heap_at _ _ _ ?_; ((try simp only [plus_size, World.size_alloc, World.size_drew, World.size_setCell, size_setRow, World.heap_drewN, List.length_append]) <;> omega)) | (refine heap_past' ?_ ?_; ((try simp only [plus_size, World.size_alloc, World.size_drew, World.size_setCell, size_setRow, World.heap_drewN, List.length_append]) <;> omega)) | (refine heap_plus' ?_ ?_; ((try simp only [plus_size, World.size_alloc, World.size_drew, World.size_setCell, size_setRow, World.heap_drewN, List.length_append]) <;> omega)) | assumption)); (simp only [arrF_size, arrO_size])))
    clear hb
    go_loopw [6] (fun sl wr => ∃ k : Nat, k ≤ 8 ∧ sl = .int .i64 k ∧ GoodK m s k ∧ wr = ((w.alloc (.cells (arrF .u8 8 (up s)) 25)).alloc (.cells (arrO 8 (seenK m s k)) 47))) (fun sl _ => 8 - (intOf sl).toNat)
    case atStart => exact ⟨0, by omega, rfl, good_zero _ _, by rw [seenK_zero]⟩
    case round =>
      obtain ⟨k, hk, rfl, hg, rfl⟩ := hrel
      have Hg := Lib.hid hg
      clear hg
      by_cases hlt : k < 8
      · have hk256 : s k < 256 := hu k hlt
        by_cases hkn : m ≤ k
        · by_cases h0 : s k = 0
          · go_wp2
            go_roundw
            case rel => exact ⟨k + 1, by omega, by go_num, good_ge hkn Hg.out h0, by rw [seenK_ge hkn]⟩
            case measure => simp [intOf]; omega
          · have HO := Lib.hid (okB_bad (bad_ge hlt hkn h0))
            go_wp2
            go_ret
            exact ⟨by rw [HO.out]; rfl, by (repeat (first | (with_reducible exact Below.refl _ _) | (with_reducible assumption) | (with_reducible refine below_plus' ?_ ?_; ((try simp only [plus_size, World.size_alloc, World.size_drew, World.size_setCell, size_setRow, World.heap_drewN, List.length_append]) <;> omega)) | (with_reducible refine below_alloc' ?_ ?_; ((try simp only [plus_size, World.size_alloc, World.size_drew, World.size_setCell, size_setRow, World.heap_drewN, List.length_append]) <;> omega)) | with_reducible refine Below.drew ?_ | exact Below.refl _ _))⟩
        · have hkm : k < m := by omega
          clear hkn
          by_cases h0 : s k < m
          · have hs8 : s k < 8 := by omega
            cases h3 : seenK m s k (s k) with
            | false =>
              go_wp2
              go_roundw
              case rel => exact ⟨k + 1, by omega, by go_num, good_lt hkm Hg.out h0 h3, by rw [seenK_lt hkm]⟩
              case measure => simp [intOf]; omega
            | true =>
              have HO := Lib.hid (okB_bad (bad_twice hlt hkm h3))
              go_wp2
              go_ret
              exact ⟨by rw [HO.out]; rfl, by (repeat (first | (with_reducible exact Below.refl _ _) | (with_reducible assumption) | (with_reducible refine below_plus' ?_ ?_; ((try simp only [plus_size, World.size_alloc, World.size_drew, World.size_setCell, size_setRow, World.heap_drewN, List.length_append]) <;> omega)) | (with_reducible refine below_alloc' ?_ ?_; ((try simp only [plus_size, World.size_alloc, World.size_drew, World.size_setCell, size_setRow, World.heap_drewN, List.length_append]) <;> omega)) | with_reducible refine Below.drew ?_ | exact Below.refl _ _))⟩
          · have h0' : m ≤ s k := by omega
            clear h0
            have HO := Lib.hid (okB_bad (bad_big hlt hkm h0'))
            go_wp2
            go_ret
            exact ⟨by rw [HO.out]; rfl, by (repeat (first | (with_reducible exact Below.refl _ _) | (with_reducible assumption) | (with_reducible refine below_plus' ?_ ?_; ((try simp only [plus_size, World.size_alloc, World.size_drew, World.size_setCell, size_setRow, World.heap_drewN, List.length_append]) <;> omega)) | (with_reducible refine below_alloc' ?_ ?_; ((try simp only [plus_size, World.size_alloc, World.size_drew, World.size_setCell, size_setRow, World.heap_drewN, List.length_append]) <;> omega)) | with_reducible refine Below.drew ?_ | exact Below.refl _ _))⟩
      · obtain rfl : k = 8 := by omega
        have HO := Lib.hid (okB_good Hb.out Hg.out)
        go_wp2
        go_ret
        exact ⟨by rw [HO.out]; rfl, by (repeat (first | (with_reducible exact Below.refl _ _) | (with_reducible assumption) | (with_reducible refine below_plus' ?_ ?_; ((try simp only [plus_size, World.size_alloc, World.size_drew, World.size_setCell, size_setRow, World.heap_drewN, List.length_append]) <;> omega)) | (with_reducible refine below_alloc' ?_ ?_; ((try simp only [plus_size, World.size_alloc, World.size_drew, World.size_setCell, size_setRow, World.heap_drewN, List.length_append]) <;> omega)) | with_reducible refine Below.drew ?_ | exact Below.refl _ _))⟩
end Go.Proofs.Ytemegeiolpkapaa
