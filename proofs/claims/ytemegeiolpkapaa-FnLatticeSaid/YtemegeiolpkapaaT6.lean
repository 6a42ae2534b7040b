/- The meet of two simple braids. Conditions: as each theorem says. -/
import Derived.Test.YtemegeiolpkapaaT4
import Derived.Test.YtemegeiolpkapaaP5
import Derived.BigRegion
namespace Go.Proofs.Ytemegeiolpkapaa
open Go.RowKit
set_option linter.unusedSimpArgs false
set_option linter.unusedVariables false
set_option maxHeartbeats 800000 in
theorem impl_meet (a b : Nat → Nat) (n : Nat) (w : World) (h1 : 1 ≤ n) (h2 : n ≤ 8) (ha : Perm n a) (hb : Perm n b) : Calls Try.prog 71 #[.agg (arrF .u8 8 (up a)), .agg (arrF .u8 8 (up b)), .int .i64 n] w fun e w' => e = .returned (.agg (arrF .u8 8 (up (meetK a b n)))) ∧ Below w.heap.size w w' := by
  have hda := desK_lt a h2
  have hdb := desK_lt b h2
  go_enter Try.func71, Try.ntmps71
  go_wp2
  refine region_plus (by kernel_rfl) (by kernel_rfl) ?_
  repeat (go_big_quiet_step (first | (go_at_call 76; exact calls_plus (descents_any _ _ _ h2))))
  refine wpQuiet_nil ?_
  intro _ hw'
  obtain ⟨q, hw''⟩ := hw'
  subst hw''
  rw [plusq_eq]
  generalize q.j = j
  generalize q.d = d
  clear q
  obtain ⟨j0, hj0⟩ : ∃ x, x = j := ⟨_, rfl⟩
  obtain ⟨d0, hd0⟩ : ∃ x, x = d := ⟨_, rfl⟩
  subst hj0 hd0
  go_wp2_with (first | (go_at_call 64; refine (impl_nothing _ _ h1 h2).mono ?_; rintro e w' ⟨rfl, hB⟩; obtain ⟨j, d, rfl⟩ := plus_of_below hB; clear hB)
                                        | ((with_reducible apply wpList_load_arr rfl 25 _ rfl _ rfl 8 5 Try.underlying25 info25); (repeat (first | (refine heap_at _ _ _ ?_; ((try simp only [plus_size, World.size_alloc, World.size_drew, World.size_setCell, size_setRow, World.heap_drewN, List.length_append]) <;> omega)) | (refine heap_past' ?_ ?_; ((try simp only [plus_size, World.size_alloc, World.size_drew, World.size_setCell, size_setRow, World.heap_drewN, List.length_append]) <;> omega)) | (refine heap_plus' ?_ ?_; ((try simp only [plus_size, World.size_alloc, World.size_drew, World.size_setCell, size_setRow, World.heap_drewN, List.length_append]) <;> omega)) | assumption)); (simp only [arrF_size, arrO_size]))
                                        | ((with_reducible apply wpList_store_arr rfl rfl 25 _ _ rfl _ rfl _ rfl 8 info25); (repeat (first | (refine heap_at _ _ _ ?_; ((try simp only [plus_size, World.size_alloc, World.size_drew, World.size_setCell, size_setRow, World.heap_drewN, List.length_append]) <;> omega)) | (refine heap_past' ?_ ?_; ((try simp only [plus_size, World.size_alloc, World.size_drew, World.size_setCell, size_setRow, World.heap_drewN, List.length_append]) <;> omega)) | (refine heap_plus' ?_ ?_; ((try simp only [plus_size, World.size_alloc, World.size_drew, World.size_setCell, size_setRow, World.heap_drewN, List.length_append]) <;> omega)) | assumption)); (simp only [arrF_size, arrO_size]); (simp only [arrF_size, arrO_size]); (first | exact arrF_one _ _ _ | exact arrO_one _ _); (repeat (first | (refine setRow_at' ?_; ((try simp only [plus_size, World.size_alloc, World.size_drew, World.size_setCell, size_setRow, World.heap_drewN, List.length_append]) <;> omega)) | (apply setRow_past'; ((try simp only [plus_size, World.size_alloc, World.size_drew, World.size_setCell, size_setRow, World.heap_drewN, List.length_append]) <;> omega)) | (apply setRow_plus'; ((try simp only [plus_size, World.size_alloc, World.size_drew, World.size_setCell, size_setRow, World.heap_drewN, List.length_append]) <;> omega)) | exact rfl))))
  have hm : desK a n &&& desK b n < 18446744073709551616 := Nat.lt_of_le_of_lt Nat.and_le_left hda
  have HM := Lib.hid (fun x y => both_bitAt (a := a) (b := b) (n := n) (x := x) (y := y) h2)
  generalize desK a n &&& desK b n = m at *
  clear hda hdb
  obtain ⟨j1, hj1⟩ : ∃ x, x = j := ⟨_, rfl⟩
  obtain ⟨d1, hd1⟩ : ∃ x, x = d := ⟨_, rfl⟩
  subst hj1 hd1
  go_loopw [9] (fun g wr => ∃ (gb : Bool) (c : Nat → Nat) (j : List Obj) (d : Nat), g = .bool gb ∧ Perm n c ∧ Star (Step (Both a b) n) (idK n) c ∧ (gb = false → Done a b c n) ∧ wr = plus ((plus (plus (((w.alloc (.cells (arrF .u8 8 (up a)) 25)).alloc (.cells (arrF .u8 8 (up b)) 25)).alloc (.cells (arrF .u8 8 (up zeroN)) 25)) j0 d0) j1 d1).alloc (.cells (arrF .u8 8 (up c)) 25)) j d) (fun g wr => if boolOf g then muAt n wr (w.heap.size + 1 + 1 + 1 + j0.length + j1.length) + 1 else 0)
  case atStart => exact ⟨true, idK n, [], _, rfl, perm_id n, .refl _, fun h => by (cases h), (plus_nil _).symm⟩
  case round =>
    obtain ⟨gb, c, j, d, rfl, hp, hs, hd, rfl⟩ := hrel
    cases gb with
    | false =>
      have HR := Lib.hid (meetK_eq (a := a) (b := b) (n := n) (c := c) ⟨hs, hd rfl⟩)
      have hc8 : ∀ i, i < n → c i < 8 := fun i hi => Nat.lt_of_lt_of_le (hp.lt i hi) h2
      clear hs hd
      go_wp2_with (first | (go_at_call 65; refine (impl_back _ _ _ h1 h2 hc8).mono ?_; rintro e w' ⟨rfl, hB⟩; obtain ⟨j, d, rfl⟩ := plus_of_below hB; clear hB)
                                        | ((with_reducible apply wpList_load_arr rfl 25 _ rfl _ rfl 8 5 Try.underlying25 info25); (repeat (first | (refine heap_at _ _ _ ?_; ((try simp only [plus_size, World.size_alloc, World.size_drew, World.size_setCell, size_setRow, World.heap_drewN, List.length_append]) <;> omega)) | (refine heap_past' ?_ ?_; ((try simp only [plus_size, World.size_alloc, World.size_drew, World.size_setCell, size_setRow, World.heap_drewN, List.length_append]) <;> omega)) | (refine heap_plus' ?_ ?_; ((try simp only [plus_size, World.size_alloc, World.size_drew, World.size_setCell, size_setRow, World.heap_drewN, List.length_append]) <;> omega)) | assumption)); (simp only [arrF_size, arrO_size]))
                                        | ((with_reducible apply wpList_store_arr rfl rfl 25 _ _ rfl _ rfl _ rfl 8 info25); (repeat (first | (refine heap_at _ _ _ ?_; ((try simp only [plus_size, World.size_alloc, World.size_drew, World.size_setCell, size_setRow, World.heap_drewN, List.length_append]) <;> omega)) | (refine heap_past' ?_ ?_; ((try simp only [plus_size, World.size_alloc, World.size_drew, World.size_setCell, size_setRow, World.heap_drewN, List.length_append]) <;> omega)) | (refine heap_plus' ?_ ?_; ((try simp only [plus_size, World.size_alloc, World.size_drew, World.size_setCell, size_setRow, World.heap_drewN, List.length_append]) <;> omega)) | assumption)); (simp only [arrF_size, arrO_size]); (simp only [arrF_size, arrO_size]); (first | exact arrF_one _ _ _ | exact arrO_one _ _); (repeat (first | (refine setRow_at' ?_; ((try simp only [plus_size, World.size_alloc, World.size_drew, World.size_setCell, size_setRow, World.heap_drewN, List.length_append]) <;> omega)) | (apply setRow_past'; ((try simp only [plus_size, World.size_alloc, World.size_drew, World.size_setCell, size_setRow, World.heap_drewN, List.length_append]) <;> omega)) | (apply setRow_plus'; ((try simp only [plus_size, World.size_alloc, World.size_drew, World.size_setCell, size_setRow, World.heap_drewN, List.length_append]) <;> omega)) | exact rfl))))
      exact ret_arr rfl 8 5 Try.underlying25 info25 _ _ _ (0, 0) rfl (by (repeat (first | (refine heap_at _ _ _ ?_; ((try simp only [plus_size, World.size_alloc, World.size_drew, World.size_setCell, size_setRow, World.heap_drewN, List.length_append]) <;> omega)) | (refine heap_past' ?_ ?_; ((try simp only [plus_size, World.size_alloc, World.size_drew, World.size_setCell, size_setRow, World.heap_drewN, List.length_append]) <;> omega)) | (refine heap_plus' ?_ ?_; ((try simp only [plus_size, World.size_alloc, World.size_drew, World.size_setCell, size_setRow, World.heap_drewN, List.length_append]) <;> omega)) | assumption))) (by simp [arrF_size]) rfl ⟨by rw [HR.out], by (repeat (first | (with_reducible exact Below.refl _ _) | (with_reducible assumption) | (with_reducible refine below_plus' ?_ ?_; ((try simp only [plus_size, World.size_alloc, World.size_drew, World.size_setCell, size_setRow, World.heap_drewN, List.length_append]) <;> omega)) | (with_reducible refine below_alloc' ?_ ?_; ((try simp only [plus_size, World.size_alloc, World.size_drew, World.size_setCell, size_setRow, World.heap_drewN, List.length_append]) <;> omega)) | with_reducible refine Below.drew ?_ | exact Below.refl _ _))⟩
    | true =>
      clear hd
      go_wp2
      go_loopw [9, 10] (fun g sl wr => ∃ (gb : Bool) (c' : Nat → Nat) (i : Nat) (j : List Obj) (d : Nat), g = .bool gb ∧ sl = .int .i64 i ∧ 1 ≤ i ∧ i ≤ n ∧ Perm n c' ∧ Star (Step (Both a b) n) (idK n) c' ∧ (gb = false → c' = c ∧ Done a b c i) ∧ (gb = true → mu n c' < mu n c) ∧ wr = plus ((plus (plus (((w.alloc (.cells (arrF .u8 8 (up a)) 25)).alloc (.cells (arrF .u8 8 (up b)) 25)).alloc (.cells (arrF .u8 8 (up zeroN)) 25)) j0 d0) j1 d1).alloc (.cells (arrF .u8 8 (up c')) 25)) j d) (fun _ sl _ => n - (intOf sl).toNat)
      case atStart => exact ⟨false, c, 1, j, _, rfl, rfl, by omega, h1, hp, hs, fun _ => ⟨rfl, done_one _ _ _⟩, fun h => by (cases h), rfl⟩
      case round =>
        obtain ⟨gb, c', i, j', d', rfl, rfl, hi1, hin, hp', hs', hf, ht, rfl⟩ := hrel
        by_cases hlt : i < n
        · obtain ⟨k, rfl⟩ : ∃ k, i = k + 1 := ⟨i - 1, by omega⟩
          have hk8 : k < 8 := by omega
          have hk9 : k + 1 < 8 := by omega
          have hx8 : c' k < 8 := Nat.lt_of_lt_of_le (hp'.lt k (by omega)) h2
          have hy8 : c' (k + 1) < 8 := Nat.lt_of_lt_of_le (hp'.lt (k + 1) hlt) h2
          have hyn := hp'.lt (k + 1) hlt
          have Hs := Lib.hid hs'
          have Hf := Lib.hid hf
          have Ht := Lib.hid ht
          clear hs' hf ht
          by_cases hc : c' k < c' (k + 1)
          · have hb2 := bitAt_le m (8 * c' k + c' (k + 1))
            have HB := Lib.hid (HM.out (c' k) (c' (k + 1)) hc hyn)
            by_cases hbit : bitAt m (8 * c' k + c' (k + 1)) = 1
            · have HT := Lib.hid (HB.out.1 hbit)
              go_wp2
              go_quiet (fail)
              go_wp2
              go_roundw
              case rel => exact ⟨true, swapK c' (k + 1), k + 2, j', _, rfl, by go_num, by omega, by omega, hp'.swap hi1 hlt, Hs.out.tail ⟨k + 1, hi1, hlt, hc, HT.out, rfl⟩, fun h => by (cases h), fun _ => (by have h5 := mu_swap c' hi1 hlt; rw [Nat.add_sub_cancel] at h5; cases gb with | false => have h6 : mu n c' = mu n c := (by rw [(Hf.out rfl).1]); omega | true => have := Ht.out rfl; omega), rfl⟩
              case measure => simp [intOf]; omega
            · have HT := Lib.hid (fun h => hbit (HB.out.2 h))
              go_wp2
              go_quiet (fail)
              go_wp2
              go_roundw
              case rel => exact ⟨gb, c', k + 2, j', _, rfl, by go_num, by omega, by omega, hp', Hs.out, fun h => ⟨(Hf.out h).1, done_step (Hf.out h).2 (by rw [← (Hf.out h).1]; exact fun h' => HT.out h'.2)⟩, Ht.out, rfl⟩
              case measure => simp [intOf]; omega
          · go_wp2
            go_quiet (fail)
            go_wp2
            go_roundw
            case rel => exact ⟨gb, c', k + 2, j', _, rfl, by go_num, by omega, by omega, hp', Hs.out, fun h => ⟨(Hf.out h).1, done_step (Hf.out h).2 (by rw [← (Hf.out h).1]; exact fun h' => hc h'.1)⟩, Ht.out, rfl⟩
            case measure => simp [intOf]; omega
        · obtain rfl : i = n := by omega
          go_wp2
          go_roundw
          case rel => exact ⟨gb, c', j', d', rfl, hp', hs', fun h => by rw [(hf h).1]; exact (hf h).2, rfl⟩
          case measure =>
            have e1 : muAt i (plus ((plus (plus (((w.alloc (.cells (arrF .u8 8 (up a)) 25)).alloc (.cells (arrF .u8 8 (up b)) 25)).alloc (.cells (arrF .u8 8 (up zeroN)) 25)) j0 d0) j1 d1).alloc (.cells (arrF .u8 8 (up c)) 25)) j d) ((w.heap.size + 1 + 1 + 1 + j0.length + j1.length)) = mu i c := muAt_arr (by (repeat (first | (refine heap_at _ _ _ ?_; ((try simp only [plus_size, World.size_alloc, World.size_drew, World.size_setCell, size_setRow, World.heap_drewN, List.length_append]) <;> omega)) | (refine heap_past' ?_ ?_; ((try simp only [plus_size, World.size_alloc, World.size_drew, World.size_setCell, size_setRow, World.heap_drewN, List.length_append]) <;> omega)) | (refine heap_plus' ?_ ?_; ((try simp only [plus_size, World.size_alloc, World.size_drew, World.size_setCell, size_setRow, World.heap_drewN, List.length_append]) <;> omega)) | assumption))) h2
            have e2 : muAt i (plus ((plus (plus (((w.alloc (.cells (arrF .u8 8 (up a)) 25)).alloc (.cells (arrF .u8 8 (up b)) 25)).alloc (.cells (arrF .u8 8 (up zeroN)) 25)) j0 d0) j1 d1).alloc (.cells (arrF .u8 8 (up c')) 25)) j' d') ((w.heap.size + 1 + 1 + 1 + j0.length + j1.length)) = mu i c' := muAt_arr (by (repeat (first | (refine heap_at _ _ _ ?_; ((try simp only [plus_size, World.size_alloc, World.size_drew, World.size_setCell, size_setRow, World.heap_drewN, List.length_append]) <;> omega)) | (refine heap_past' ?_ ?_; ((try simp only [plus_size, World.size_alloc, World.size_drew, World.size_setCell, size_setRow, World.heap_drewN, List.length_append]) <;> omega)) | (refine heap_plus' ?_ ?_; ((try simp only [plus_size, World.size_alloc, World.size_drew, World.size_setCell, size_setRow, World.heap_drewN, List.length_append]) <;> omega)) | assumption))) h2
            cases gb with
            | false => simp [boolOf]
            | true => have := ht rfl; simp only [boolOf, if_true]; omega
set_option maxHeartbeats 800000 in
theorem spec_meet (a b : Nat → Nat) (n : Nat) (w : World) (h1 : 1 ≤ n) (h2 : n ≤ 8) (ha : Perm n a) (hb : Perm n b) : Calls Try.prog 73 #[.agg (arrF .u8 8 (up a)), .agg (arrF .u8 8 (up b)), .int .i64 n] w fun e w' => e = .returned (.agg (arrF .u8 8 (up (meetK a b n)))) ∧ Below w.heap.size w w' := by
  go_enter Try.func73, Try.ntmps73
  go_wp2_with (first | (go_at_call 66; refine (spec_same _ _ h1 h2).mono ?_; rintro e w' ⟨rfl, hB⟩; obtain ⟨j, d, rfl⟩ := plus_of_below hB; clear hB)
                                        | ((with_reducible apply wpList_load_arr rfl 25 _ rfl _ rfl 8 5 Try.underlying25 info25); (repeat (first | (refine heap_at _ _ _ ?_; ((try simp only [plus_size, World.size_alloc, World.size_drew, World.size_setCell, size_setRow, World.heap_drewN, List.length_append]) <;> omega)) | (refine heap_past' ?_ ?_; ((try simp only [plus_size, World.size_alloc, World.size_drew, World.size_setCell, size_setRow, World.heap_drewN, List.length_append]) <;> omega)) | (refine heap_plus' ?_ ?_; ((try simp only [plus_size, World.size_alloc, World.size_drew, World.size_setCell, size_setRow, World.heap_drewN, List.length_append]) <;> omega)) | assumption)); (simp only [arrF_size, arrO_size]))
                                        | ((with_reducible apply wpList_store_arr rfl rfl 25 _ _ rfl _ rfl _ rfl 8 info25); (repeat (first | (refine heap_at _ _ _ ?_; ((try simp only [plus_size, World.size_alloc, World.size_drew, World.size_setCell, size_setRow, World.heap_drewN, List.length_append]) <;> omega)) | (refine heap_past' ?_ ?_; ((try simp only [plus_size, World.size_alloc, World.size_drew, World.size_setCell, size_setRow, World.heap_drewN, List.length_append]) <;> omega)) | (refine heap_plus' ?_ ?_; ((try simp only [plus_size, World.size_alloc, World.size_drew, World.size_setCell, size_setRow, World.heap_drewN, List.length_append]) <;> omega)) | assumption)); (simp only [arrF_size, arrO_size]); (simp only [arrF_size, arrO_size]); (first | exact arrF_one _ _ _ | exact arrO_one _ _); (repeat (first | (refine setRow_at' ?_; ((try simp only [plus_size, World.size_alloc, World.size_drew, World.size_setCell, size_setRow, World.heap_drewN, List.length_append]) <;> omega)) | (apply setRow_past'; ((try simp only [plus_size, World.size_alloc, World.size_drew, World.size_setCell, size_setRow, World.heap_drewN, List.length_append]) <;> omega)) | (apply setRow_plus'; ((try simp only [plus_size, World.size_alloc, World.size_drew, World.size_setCell, size_setRow, World.heap_drewN, List.length_append]) <;> omega)) | exact rfl))))
  obtain ⟨j0, hj0⟩ : ∃ x, x = j := ⟨_, rfl⟩
  obtain ⟨d0, hd0⟩ : ∃ x, x = d := ⟨_, rfl⟩
  subst hj0 hd0
  go_loopw [8] (fun sl wr => ∃ (c a' b' o : Nat → Nat) (i : Nat), o = backK c n ∧ sl = .int .i64 i ∧ 1 ≤ i ∧ i ≤ n ∧ Perm n c ∧ Star (Step (Both a b) n) (idK n) c ∧ Along n a c a' ∧ Along n b c b' ∧ DoneS a b c i ∧ ∃ (j : List Obj) (d : Nat), wr = plus ((plus (((w.alloc (.cells (arrF .u8 8 (up a')) 25)).alloc (.cells (arrF .u8 8 (up b')) 25)).alloc (.cells (arrF .u8 8 (up zeroN)) 25)) j0 d0).alloc (.cells (arrF .u8 8 (up o)) 25)) j d) (fun sl wr => (1000 - muAt n wr w.heap.size) * 16 + (8 - (intOf sl).toNat))
  case atStart => exact ⟨idK n, a, b, _, 1, (back_id n).symm, rfl, by omega, h1, perm_id n, .refl _, along_id n a, along_id n b, doneS_one _ _ _, [], _, (plus_nil _).symm⟩
  case round =>
    obtain ⟨c, a', b', o, i, rfl, rfl, hi1, hin, hp', hs, ha', hb', hd, j, d, rfl⟩ := hrel
    have Hs := Lib.hid hs
    have Ha := Lib.hid ha'
    have Hb := Lib.hid hb'
    have Hd := Lib.hid hd
    by_cases hlt : i < n
    · obtain ⟨k, rfl⟩ : ∃ k, i = k + 1 := ⟨i - 1, by omega⟩
      have hk8 : k < 8 := by omega
      have hk9 : k + 1 < 8 := by omega
      have HB := Lib.hid (along_both ha' hb' (x := k) (y := k + 1) (by omega) hlt)
      have hmu : mu n a' = mu n (fun x => a (c x)) := mu_ext ha'
      have hal : ∀ x, x < n → a' x < n := fun x hx => by rw [ha' x hx]; exact ha.lt _ (hp'.lt x hx)
      clear hs ha' hb' hd
      by_cases hA : a' (k + 1) < a' k
      · by_cases hB : b' (k + 1) < b' k
        · have HT := Lib.hid (HB.out.2 ⟨hA, hB⟩)
          have hex8 : ∀ i, i < n → exK n (k + 1) i < 8 := fun i hi => Nat.lt_of_lt_of_le (exK_lt hi1 hlt i hi) h2
          have hou8 : ∀ i, i < n → backK c n i < 8 := fun i hi => Nat.lt_of_lt_of_le (back_lt hp' i hi) h2
          go_wp2
          go_quiet (fail)
          go_wp2_with (first | (go_at_call 68; refine (exchange_any _ _ _ hlt h2).mono ?_; rintro e w' ⟨rfl, hB⟩; obtain ⟨j, d, rfl⟩ := plus_of_below hB; clear hB)
                                        | (go_at_call 67; refine (spec_then _ _ _ _ h1 h2 (by first | exact hou8 | exact hex8)).mono ?_; rintro e w' ⟨rfl, hB⟩; obtain ⟨j, d, rfl⟩ := plus_of_below hB; clear hB)
                                        | ((with_reducible apply wpList_load_arr rfl 25 _ rfl _ rfl 8 5 Try.underlying25 info25); (repeat (first | (refine heap_at _ _ _ ?_; ((try simp only [plus_size, World.size_alloc, World.size_drew, World.size_setCell, size_setRow, World.heap_drewN, List.length_append]) <;> omega)) | (refine heap_past' ?_ ?_; ((try simp only [plus_size, World.size_alloc, World.size_drew, World.size_setCell, size_setRow, World.heap_drewN, List.length_append]) <;> omega)) | (refine heap_plus' ?_ ?_; ((try simp only [plus_size, World.size_alloc, World.size_drew, World.size_setCell, size_setRow, World.heap_drewN, List.length_append]) <;> omega)) | assumption)); (simp only [arrF_size, arrO_size]))
                                        | ((with_reducible apply wpList_store_arr rfl rfl 25 _ _ rfl _ rfl _ rfl 8 info25); (repeat (first | (refine heap_at _ _ _ ?_; ((try simp only [plus_size, World.size_alloc, World.size_drew, World.size_setCell, size_setRow, World.heap_drewN, List.length_append]) <;> omega)) | (refine heap_past' ?_ ?_; ((try simp only [plus_size, World.size_alloc, World.size_drew, World.size_setCell, size_setRow, World.heap_drewN, List.length_append]) <;> omega)) | (refine heap_plus' ?_ ?_; ((try simp only [plus_size, World.size_alloc, World.size_drew, World.size_setCell, size_setRow, World.heap_drewN, List.length_append]) <;> omega)) | assumption)); (simp only [arrF_size, arrO_size]); (simp only [arrF_size, arrO_size]); (first | exact arrF_one _ _ _ | exact arrO_one _ _); (repeat (first | (refine setRow_at' ?_; ((try simp only [plus_size, World.size_alloc, World.size_drew, World.size_setCell, size_setRow, World.heap_drewN, List.length_append]) <;> omega)) | (apply setRow_past'; ((try simp only [plus_size, World.size_alloc, World.size_drew, World.size_setCell, size_setRow, World.heap_drewN, List.length_append]) <;> omega)) | (apply setRow_plus'; ((try simp only [plus_size, World.size_alloc, World.size_drew, World.size_setCell, size_setRow, World.heap_drewN, List.length_append]) <;> omega)) | exact rfl))))
          go_roundw
          case rel => exact ⟨swapK c (k + 1), thenK (exK n (k + 1)) a' n, thenK (exK n (k + 1)) b' n, thenK (backK c n) (exK n (k + 1)) n, 1, back_swap hp' hi1 hlt, by go_num, by omega, h1, hp'.swap hi1 hlt, step_of Hs.out hi1 hlt HT.out, along_swap Ha.out hi1 hlt, along_swap Hb.out hi1 hlt, doneS_one _ _ _, plus_of_below (by (repeat (first | (with_reducible exact Below.refl _ _) | (with_reducible assumption) | (with_reducible refine below_plus' ?_ ?_; ((try simp only [plus_size, World.size_alloc, World.size_drew, World.size_setCell, size_setRow, World.heap_drewN, List.length_append]) <;> omega)) | (with_reducible refine below_alloc' ?_ ?_; ((try simp only [plus_size, World.size_alloc, World.size_drew, World.size_setCell, size_setRow, World.heap_drewN, List.length_append]) <;> omega)) | with_reducible refine Below.drew ?_ | (with_reducible refine below_drewN' ?_ _) | exact Below.refl _ _)))⟩
          case measure =>
            simp only [intOf]
            rw [muAt_arr (c := thenK (exK n (k + 1)) a' n) (by (repeat (first | (refine heap_at _ _ _ ?_; ((try simp only [plus_size, World.size_alloc, World.size_drew, World.size_setCell, size_setRow, World.heap_drewN, List.length_append]) <;> omega)) | (refine heap_past' ?_ ?_; ((try simp only [plus_size, World.size_alloc, World.size_drew, World.size_setCell, size_setRow, World.heap_drewN, List.length_append]) <;> omega)) | (refine heap_plus' ?_ ?_; ((try simp only [plus_size, World.size_alloc, World.size_drew, World.size_setCell, size_setRow, World.heap_drewN, List.length_append]) <;> omega)) | assumption))) h2, muAt_arr (c := a') (by (repeat (first | (refine heap_at _ _ _ ?_; ((try simp only [plus_size, World.size_alloc, World.size_drew, World.size_setCell, size_setRow, World.heap_drewN, List.length_append]) <;> omega)) | (refine heap_past' ?_ ?_; ((try simp only [plus_size, World.size_alloc, World.size_drew, World.size_setCell, size_setRow, World.heap_drewN, List.length_append]) <;> omega)) | (refine heap_plus' ?_ ?_; ((try simp only [plus_size, World.size_alloc, World.size_drew, World.size_setCell, size_setRow, World.heap_drewN, List.length_append]) <;> omega)) | assumption))) h2, mu_ext (d := swapK a' (k + 1)) (fun i (hi : i < n) => then_ex (s := a') hi1 hlt hi)]
            have h5 := mu_swap a' hi1 hlt
            rw [Nat.add_sub_cancel] at h5
            have h6 := mu_le (c := swapK a' (k + 1)) h2 (fun x hx => by rw [swapK_exP]; exact hal _ (exP_lt hi1 hlt hx))
            omega
        · have HN := Lib.hid (fun h => hB (HB.out.1 h).2)
          go_wp2
          go_quiet (fail)
          go_wp2
          go_roundw
          case rel => exact ⟨c, a', b', _, k + 2, rfl, by go_num, by omega, by omega, hp', Hs.out, Ha.out, Hb.out, doneS_step Hd.out HN.out, ⟨j, _, rfl⟩⟩
          case measure => simp only [intOf]; rw [muAt_arr (c := a') (by (repeat (first | (refine heap_at _ _ _ ?_; ((try simp only [plus_size, World.size_alloc, World.size_drew, World.size_setCell, size_setRow, World.heap_drewN, List.length_append]) <;> omega)) | (refine heap_past' ?_ ?_; ((try simp only [plus_size, World.size_alloc, World.size_drew, World.size_setCell, size_setRow, World.heap_drewN, List.length_append]) <;> omega)) | (refine heap_plus' ?_ ?_; ((try simp only [plus_size, World.size_alloc, World.size_drew, World.size_setCell, size_setRow, World.heap_drewN, List.length_append]) <;> omega)) | assumption))) h2, muAt_arr (c := a') (by (repeat (first | (refine heap_at _ _ _ ?_; ((try simp only [plus_size, World.size_alloc, World.size_drew, World.size_setCell, size_setRow, World.heap_drewN, List.length_append]) <;> omega)) | (refine heap_past' ?_ ?_; ((try simp only [plus_size, World.size_alloc, World.size_drew, World.size_setCell, size_setRow, World.heap_drewN, List.length_append]) <;> omega)) | (refine heap_plus' ?_ ?_; ((try simp only [plus_size, World.size_alloc, World.size_drew, World.size_setCell, size_setRow, World.heap_drewN, List.length_append]) <;> omega)) | assumption))) h2]; omega
      · have HN := Lib.hid (fun h => hA (HB.out.1 h).1)
        go_wp2
        go_quiet (fail)
        go_wp2
        go_roundw
        case rel => exact ⟨c, a', b', _, k + 2, rfl, by go_num, by omega, by omega, hp', Hs.out, Ha.out, Hb.out, doneS_step Hd.out HN.out, ⟨j, _, rfl⟩⟩
        case measure => simp only [intOf]; rw [muAt_arr (c := a') (by (repeat (first | (refine heap_at _ _ _ ?_; ((try simp only [plus_size, World.size_alloc, World.size_drew, World.size_setCell, size_setRow, World.heap_drewN, List.length_append]) <;> omega)) | (refine heap_past' ?_ ?_; ((try simp only [plus_size, World.size_alloc, World.size_drew, World.size_setCell, size_setRow, World.heap_drewN, List.length_append]) <;> omega)) | (refine heap_plus' ?_ ?_; ((try simp only [plus_size, World.size_alloc, World.size_drew, World.size_setCell, size_setRow, World.heap_drewN, List.length_append]) <;> omega)) | assumption))) h2, muAt_arr (c := a') (by (repeat (first | (refine heap_at _ _ _ ?_; ((try simp only [plus_size, World.size_alloc, World.size_drew, World.size_setCell, size_setRow, World.heap_drewN, List.length_append]) <;> omega)) | (refine heap_past' ?_ ?_; ((try simp only [plus_size, World.size_alloc, World.size_drew, World.size_setCell, size_setRow, World.heap_drewN, List.length_append]) <;> omega)) | (refine heap_plus' ?_ ?_; ((try simp only [plus_size, World.size_alloc, World.size_drew, World.size_setCell, size_setRow, World.heap_drewN, List.length_append]) <;> omega)) | assumption))) h2]; omega
    · obtain rfl : i = n := by omega
      have HR := Lib.hid (meetK_eq (a := a) (b := b) (n := i) (c := c) ⟨hs, doneS_done hd⟩)
      clear hs ha' hb' hd
      go_wp2_with (first | ((with_reducible apply wpList_load_arr rfl 25 _ rfl _ rfl 8 5 Try.underlying25 info25); (repeat (first | (refine heap_at _ _ _ ?_; ((try simp only [plus_size, World.size_alloc, World.size_drew, World.size_setCell, size_setRow, World.heap_drewN, List.length_append]) <;> omega)) | (refine heap_past' ?_ ?_; ((try simp only [plus_size, World.size_alloc, World.size_drew, World.size_setCell, size_setRow, World.heap_drewN, List.length_append]) <;> omega)) | (refine heap_plus' ?_ ?_; ((try simp only [plus_size, World.size_alloc, World.size_drew, World.size_setCell, size_setRow, World.heap_drewN, List.length_append]) <;> omega)) | assumption)); (simp only [arrF_size, arrO_size]))
                                        | ((with_reducible apply wpList_store_arr rfl rfl 25 _ _ rfl _ rfl _ rfl 8 info25); (repeat (first | (refine heap_at _ _ _ ?_; ((try simp only [plus_size, World.size_alloc, World.size_drew, World.size_setCell, size_setRow, World.heap_drewN, List.length_append]) <;> omega)) | (refine heap_past' ?_ ?_; ((try simp only [plus_size, World.size_alloc, World.size_drew, World.size_setCell, size_setRow, World.heap_drewN, List.length_append]) <;> omega)) | (refine heap_plus' ?_ ?_; ((try simp only [plus_size, World.size_alloc, World.size_drew, World.size_setCell, size_setRow, World.heap_drewN, List.length_append]) <;> omega)) | assumption)); (simp only [arrF_size, arrO_size]); (simp only [arrF_size, arrO_size]); (first | exact arrF_one _ _ _ | exact arrO_one _ _); (repeat (first | (refine setRow_at' ?_; ((try simp only [plus_size, World.size_alloc, World.size_drew, World.size_setCell, size_setRow, World.heap_drewN, List.length_append]) <;> omega)) | (apply setRow_past'; ((try simp only [plus_size, World.size_alloc, World.size_drew, World.size_setCell, size_setRow, World.heap_drewN, List.length_append]) <;> omega)) | (apply setRow_plus'; ((try simp only [plus_size, World.size_alloc, World.size_drew, World.size_setCell, size_setRow, World.heap_drewN, List.length_append]) <;> omega)) | exact rfl))))
      exact ret_arr rfl 8 5 Try.underlying25 info25 _ _ _ (0, 0) rfl (by (repeat (first | (refine heap_at _ _ _ ?_; ((try simp only [plus_size, World.size_alloc, World.size_drew, World.size_setCell, size_setRow, World.heap_drewN, List.length_append]) <;> omega)) | (refine heap_past' ?_ ?_; ((try simp only [plus_size, World.size_alloc, World.size_drew, World.size_setCell, size_setRow, World.heap_drewN, List.length_append]) <;> omega)) | (refine heap_plus' ?_ ?_; ((try simp only [plus_size, World.size_alloc, World.size_drew, World.size_setCell, size_setRow, World.heap_drewN, List.length_append]) <;> omega)) | assumption))) (by simp [arrF_size]) rfl ⟨by rw [HR.out], by (repeat (first | (with_reducible exact Below.refl _ _) | (with_reducible assumption) | (with_reducible refine below_plus' ?_ ?_; ((try simp only [plus_size, World.size_alloc, World.size_drew, World.size_setCell, size_setRow, World.heap_drewN, List.length_append]) <;> omega)) | (with_reducible refine below_alloc' ?_ ?_; ((try simp only [plus_size, World.size_alloc, World.size_drew, World.size_setCell, size_setRow, World.heap_drewN, List.length_append]) <;> omega)) | with_reducible refine Below.drew ?_ | exact Below.refl _ _))⟩
end Go.Proofs.Ytemegeiolpkapaa
