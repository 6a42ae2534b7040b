/- Two simple braids of which all letters that begin the second end the first. Conditions: as each theorem says. -/
import Derived.Test.YtcfofdjdbojadaaN3
import Derived.Test.YtcfofdjdbojadaaS7
import Derived.Test.YtcfofdjdbojadaaP4
import Derived.BigQuiet
namespace Go.Proofs.Ytcfofdjdbojadaa
open Go.RowKit
set_option linter.unusedSimpArgs false
set_option linter.unusedVariables false
/-- all letters that begin b end a -/
def weiB (a b : Nat → Nat) (n : Nat) : Bool := decide (∀ i, i < n → 1 ≤ i → b i < b (i - 1) → backK a n i < backK a n (i - 1))
theorem weiB_no {a b : Nat → Nat} {n i : Nat} (hn : i < n) (h1 : 1 ≤ i) (hb : b i < b (i - 1)) (h : ¬ backK a n i < backK a n (i - 1)) : weiB a b n = false := by
  simp only [weiB, decide_eq_false_iff_not]
  exact fun H => h (H i hn h1 hb)
theorem weiB_yes {a b : Nat → Nat} {n : Nat} (h : ∀ i, i < n → 1 ≤ i → b i < b (i - 1) → backK a n i < backK a n (i - 1)) : weiB a b n = true := by
  simp only [weiB, decide_eq_true_eq]
  exact h
theorem back_ne {n i : Nat} {a : Nat → Nat} (h : Perm n a) (hn : i < n) (h1 : 1 ≤ i) : backK a n i ≠ backK a n (i - 1) := by
  obtain ⟨p, hp, rfl⟩ := h.has i hn
  obtain ⟨q, hq, e⟩ := h.has (a p - 1) (by omega)
  rw [← e, backK_at n hp h.inj, backK_at n hq h.inj]
  intro h2
  rw [h2] at h1 e
  omega
theorem begK_nth {b : Nat → Nat} {n k : Nat} (h : k < (begK b n).length) : ∃ i : Nat, nth (begK b n) k = i ∧ 1 ≤ i ∧ i < n ∧ b i < b (i - 1) := by
  have h2 : nth (begK b n) k ∈ begK b n := by
    simp only [nth, List.getD_eq_getElem?_getD, List.getElem?_eq_getElem h, Option.getD_some]
    exact List.getElem_mem h
  rw [begK, List.mem_map] at h2
  obtain ⟨i, hi, e⟩ := h2
  rw [List.mem_filter, List.mem_range, decide_eq_true_eq] at hi
  exact ⟨i, e.symm, hi.2.1, hi.1, hi.2.2⟩
theorem begK_has {b : Nat → Nat} {n i : Nat} (hn : i < n) (h1 : 1 ≤ i) (hb : b i < b (i - 1)) : ∃ k, k < (begK b n).length ∧ nth (begK b n) k = i := by
  have h2 : (i : Int) ∈ begK b n := by
    rw [begK, List.mem_map]
    exact ⟨i, by rw [List.mem_filter, List.mem_range, decide_eq_true_eq]; exact ⟨hn, h1, hb⟩, rfl⟩
  obtain ⟨k, hk, e⟩ := List.getElem_of_mem h2
  exact ⟨k, hk, by simp [nth, hk, e]⟩
theorem weiB_all {a b : Nat → Nat} {n : Nat} (h : ∀ k, k < (begK b n).length → ∀ i : Nat, nth (begK b n) k = i → backK a n i < backK a n (i - 1)) : weiB a b n = true :=
  weiB_yes fun i hn h1 hb => by
    obtain ⟨k, hk, e⟩ := begK_has hn h1 hb
    exact h k hk i e
set_option maxHeartbeats 1000000 in
theorem impl_endsAll (a b : Nat → Nat) (n : Nat) (w : World) (h1 : 1 ≤ n) (h2 : n ≤ 8) (hp : Perm n a) : Calls Try.prog 37 #[.agg (arrF .u8 8 (up a)), .agg (arrF .u8 8 (up b)), .int .i64 n] w fun e w' => e = .returned (.bool (weiB a b n)) ∧ Below w.heap.size w w' := by
  have hs8 : ∀ i, i < n → a i < 8 := fun i hi => Nat.lt_of_lt_of_le (hp.lt i hi) h2
  clear hp
  go_enter Try.func37, Try.ntmps37
  go_wp2_with (first | (go_at_call 44; refine (impl_back _ _ _ h1 h2 hs8).mono ?_; rintro e w' ⟨rfl, hB⟩; obtain ⟨j1, d1, rfl⟩ := plus_of_below hB; clear hB)
                                        | (go_at_call 38; refine (impl_beginning _ _ _ h1 h2).mono ?_; rintro e w' ⟨v, rfl, hB, ho⟩; obtain ⟨ax, cx, rfl, hs⟩ := ho.reads; clear ho; obtain ⟨j0, d0, rfl⟩ := plus_of_below hB; clear hB)
                                        | ((with_reducible apply wpList_load_arr rfl 44 _ rfl _ rfl 8 5 Try.underlying44 info44); (repeat (first | (refine heap_at _ _ _ ?_; ((try simp only [plus_size, World.size_alloc, World.size_drew, World.size_setCell, size_setRow, World.heap_drewN, List.length_append]) <;> omega)) | (refine heap_past' ?_ ?_; ((try simp only [plus_size, World.size_alloc, World.size_drew, World.size_setCell, size_setRow, World.heap_drewN, List.length_append]) <;> omega)) | (refine heap_plus' ?_ ?_; ((try simp only [plus_size, World.size_alloc, World.size_drew, World.size_setCell, size_setRow, World.heap_drewN, List.length_append]) <;> omega)) | assumption)); (simp only [arrF_size, arrO_size]))
                                        | ((with_reducible apply wpList_store_arr rfl rfl 44 _ _ rfl _ rfl _ rfl 8 info44); (repeat (first | (refine heap_at _ _ _ ?_; ((try simp only [plus_size, World.size_alloc, World.size_drew, World.size_setCell, size_setRow, World.heap_drewN, List.length_append]) <;> omega)) | (refine heap_past' ?_ ?_; ((try simp only [plus_size, World.size_alloc, World.size_drew, World.size_setCell, size_setRow, World.heap_drewN, List.length_append]) <;> omega)) | (refine heap_plus' ?_ ?_; ((try simp only [plus_size, World.size_alloc, World.size_drew, World.size_setCell, size_setRow, World.heap_drewN, List.length_append]) <;> omega)) | assumption)); (simp only [arrF_size, arrO_size]); (simp only [arrF_size, arrO_size]); (first | exact arrF_one _ _ _ | exact arrO_one _ _); (repeat (first | (refine setRow_at' ?_; ((try simp only [plus_size, World.size_alloc, World.size_drew, World.size_setCell, size_setRow, World.heap_drewN, List.length_append]) <;> omega)) | (apply setRow_past'; ((try simp only [plus_size, World.size_alloc, World.size_drew, World.size_setCell, size_setRow, World.heap_drewN, List.length_append]) <;> omega)) | (apply setRow_plus'; ((try simp only [plus_size, World.size_alloc, World.size_drew, World.size_setCell, size_setRow, World.heap_drewN, List.length_append]) <;> omega)) | exact rfl))))
  have Hc := Lib.hid (show ∀ k, k < (begK b n).length → ∃ g o, ax = some ⟨g, o, none⟩ ∧ ∀ j d, (plus ((plus ((w.alloc (.cells (arrF .u8 8 (up a)) 44)).alloc (.cells (arrF .u8 8 (up b)) 44)) j1 d1).alloc (.cells (arrF .u8 8 (up (backK a n))) 44)) (j0 ++ j) d).cell? ⟨g, o + k, none⟩ = some (.int .i64 (nth (begK b n) k)) from fun k hk => by
    rcases hs with hs | ⟨g, o, e, hc⟩
    · rw [hs] at hk; cases hk
    · refine ⟨g, o, e, fun j d => ?_⟩
      have := hc k hk
      rw [← this, ← plus_plus (d := d0)]
      exact plus_cell _ _ _ _ _ (World.block_lt_of_cell? _ _ this))
  clear hs
  go_loopw [17] (fun sl wr => ∃ (k : Nat) (j : List Obj) (d : Nat), k ≤ (begK b n).length ∧ sl = .int .i64 k ∧ wr = plus ((plus ((w.alloc (.cells (arrF .u8 8 (up a)) 44)).alloc (.cells (arrF .u8 8 (up b)) 44)) j1 d1).alloc (.cells (arrF .u8 8 (up (backK a n))) 44)) (j0 ++ j) d ∧ Hid (∀ p, p < k → ∀ i : Nat, nth (begK b n) p = i → backK a n i < backK a n (i - 1))) (fun sl _ => (begK b n).length - (intOf sl).toNat)
  case atStart => exact ⟨0, [], d0, by omega, rfl, by rw [List.append_nil], Lib.hid (fun i hi => by omega)⟩
  case round =>
    obtain ⟨k, j, d, hk, rfl, rfl, HI⟩ := hrel
    have hl := begK_length b n
    by_cases hlt : k < (begK b n).length
    · obtain ⟨g, o, rfl, c1⟩ := Hc.out k hlt
      obtain ⟨i, e1, hi1, hin, hb⟩ := begK_nth hlt
      simp only [e1] at c1
      have E1 := Lib.hid e1
      clear e1
      by_cases hd : backK a n i < backK a n (i - 1)
      · have hd0 := Lib.hid hd
        go_wp2_with (first | (go_at_call 45; refine (begins_any _ _ _ hi1 (by omega)).mono ?_; rintro e w' ⟨rfl, hB⟩; obtain ⟨j, d, rfl⟩ := plus_of_below hB; clear hB) | ((with_reducible apply wpList_load_arr rfl 44 _ rfl _ rfl 8 5 Try.underlying44 info44); (repeat (first | (refine heap_at _ _ _ ?_; ((try simp only [plus_size, World.size_alloc, World.size_drew, World.size_setCell, size_setRow, World.heap_drewN, List.length_append]) <;> omega)) | (refine heap_past' ?_ ?_; ((try simp only [plus_size, World.size_alloc, World.size_drew, World.size_setCell, size_setRow, World.heap_drewN, List.length_append]) <;> omega)) | (refine heap_plus' ?_ ?_; ((try simp only [plus_size, World.size_alloc, World.size_drew, World.size_setCell, size_setRow, World.heap_drewN, List.length_append]) <;> omega)) | assumption)); (simp only [arrF_size, arrO_size])))
        go_roundw
        case rel =>
          refine ⟨k + 1, _, _, by omega, by go_num, by rw [plus_plus, List.append_assoc], Lib.hid (fun p hp x hx => ?_)⟩
          by_cases e : p = k
          · subst e
            have e2 : (i : Int) = x := by rw [← E1.out]; exact hx
            have e3 : i = x := by omega
            subst e3
            exact hd0.out
          · exact HI.out p (by omega) x hx
        case measure => simp [intOf]; omega
      · have HO := Lib.hid (weiB_no hin hi1 hb hd)
        go_wp2_with (first | (go_at_call 45; refine (begins_any _ _ _ hi1 (by omega)).mono ?_; rintro e w' ⟨rfl, hB⟩; obtain ⟨j, d, rfl⟩ := plus_of_below hB; clear hB) | ((with_reducible apply wpList_load_arr rfl 44 _ rfl _ rfl 8 5 Try.underlying44 info44); (repeat (first | (refine heap_at _ _ _ ?_; ((try simp only [plus_size, World.size_alloc, World.size_drew, World.size_setCell, size_setRow, World.heap_drewN, List.length_append]) <;> omega)) | (refine heap_past' ?_ ?_; ((try simp only [plus_size, World.size_alloc, World.size_drew, World.size_setCell, size_setRow, World.heap_drewN, List.length_append]) <;> omega)) | (refine heap_plus' ?_ ?_; ((try simp only [plus_size, World.size_alloc, World.size_drew, World.size_setCell, size_setRow, World.heap_drewN, List.length_append]) <;> omega)) | assumption)); (simp only [arrF_size, arrO_size])))
        go_ret
        exact ⟨by rw [HO.out]; rfl, by (repeat (first | (with_reducible exact Below.refl _ _) | (with_reducible assumption) | (with_reducible refine below_plus' ?_ ?_; ((try simp only [plus_size, World.size_alloc, World.size_drew, World.size_setCell, size_setRow, World.heap_drewN, List.length_append]) <;> omega)) | (with_reducible refine below_alloc' ?_ ?_; ((try simp only [plus_size, World.size_alloc, World.size_drew, World.size_setCell, size_setRow, World.heap_drewN, List.length_append]) <;> omega)) | with_reducible refine Below.drew ?_ | (with_reducible refine below_drewN' ?_ _) | exact Below.refl _ _))⟩
    · obtain rfl : k = (begK b n).length := by omega
      have HO := Lib.hid (weiB_all HI.out)
      go_wp2
      go_ret
      exact ⟨by rw [HO.out]; rfl, by (repeat (first | (with_reducible exact Below.refl _ _) | (with_reducible assumption) | (with_reducible refine below_plus' ?_ ?_; ((try simp only [plus_size, World.size_alloc, World.size_drew, World.size_setCell, size_setRow, World.heap_drewN, List.length_append]) <;> omega)) | (with_reducible refine below_alloc' ?_ ?_; ((try simp only [plus_size, World.size_alloc, World.size_drew, World.size_setCell, size_setRow, World.heap_drewN, List.length_append]) <;> omega)) | with_reducible refine Below.drew ?_ | (with_reducible refine below_drewN' ?_ _) | exact Below.refl _ _))⟩
set_option maxHeartbeats 1000000 in
theorem spec_weighted (a b : Nat → Nat) (n : Nat) (w : World) (h1 : 1 ≤ n) (h2 : n ≤ 8) (hp : Perm n a) : Calls Try.prog 30 #[.agg (arrF .u8 8 (up a)), .agg (arrF .u8 8 (up b)), .int .i64 n] w fun e w' => e = .returned (.bool (weiB a b n)) ∧ Below w.heap.size w w' := by
  have hs8 : ∀ i, i < n → a i < 8 := fun i hi => Nat.lt_of_lt_of_le (hp.lt i hi) h2
  have HP := Lib.hid (fun i (hn : i < n) (h1 : 1 ≤ i) => back_ne hp hn h1)
  clear hp
  go_enter Try.func30, Try.ntmps30
  go_wp2_with (first | (go_at_call 40; refine (spec_back _ _ _ h1 h2 hs8).mono ?_; rintro e w' ⟨rfl, hB⟩; obtain ⟨j1, d1, rfl⟩ := plus_of_below hB; clear hB)
                                        | ((with_reducible apply wpList_load_arr rfl 44 _ rfl _ rfl 8 5 Try.underlying44 info44); (repeat (first | (refine heap_at _ _ _ ?_; ((try simp only [plus_size, World.size_alloc, World.size_drew, World.size_setCell, size_setRow, World.heap_drewN, List.length_append]) <;> omega)) | (refine heap_past' ?_ ?_; ((try simp only [plus_size, World.size_alloc, World.size_drew, World.size_setCell, size_setRow, World.heap_drewN, List.length_append]) <;> omega)) | (refine heap_plus' ?_ ?_; ((try simp only [plus_size, World.size_alloc, World.size_drew, World.size_setCell, size_setRow, World.heap_drewN, List.length_append]) <;> omega)) | assumption)); (simp only [arrF_size, arrO_size]))
                                        | ((with_reducible apply wpList_store_arr rfl rfl 44 _ _ rfl _ rfl _ rfl 8 info44); (repeat (first | (refine heap_at _ _ _ ?_; ((try simp only [plus_size, World.size_alloc, World.size_drew, World.size_setCell, size_setRow, World.heap_drewN, List.length_append]) <;> omega)) | (refine heap_past' ?_ ?_; ((try simp only [plus_size, World.size_alloc, World.size_drew, World.size_setCell, size_setRow, World.heap_drewN, List.length_append]) <;> omega)) | (refine heap_plus' ?_ ?_; ((try simp only [plus_size, World.size_alloc, World.size_drew, World.size_setCell, size_setRow, World.heap_drewN, List.length_append]) <;> omega)) | assumption)); (simp only [arrF_size, arrO_size]); (simp only [arrF_size, arrO_size]); (first | exact arrF_one _ _ _ | exact arrO_one _ _); (repeat (first | (refine setRow_at' ?_; ((try simp only [plus_size, World.size_alloc, World.size_drew, World.size_setCell, size_setRow, World.heap_drewN, List.length_append]) <;> omega)) | (apply setRow_past'; ((try simp only [plus_size, World.size_alloc, World.size_drew, World.size_setCell, size_setRow, World.heap_drewN, List.length_append]) <;> omega)) | (apply setRow_plus'; ((try simp only [plus_size, World.size_alloc, World.size_drew, World.size_setCell, size_setRow, World.heap_drewN, List.length_append]) <;> omega)) | exact rfl))))
  go_loopw [8] (fun sl wr => ∃ k d : Nat, 1 ≤ k ∧ k ≤ n ∧ sl = .int .i64 k ∧ wr = plus ((plus ((w.alloc (.cells (arrF .u8 8 (up a)) 44)).alloc (.cells (arrF .u8 8 (up b)) 44)) j1 d1).alloc (.cells (arrF .u8 8 (up (backK a n))) 44)) [] d ∧ Hid (∀ i, i < k → 1 ≤ i → b i < b (i - 1) → backK a n i < backK a n (i - 1))) (fun sl _ => n - (intOf sl).toNat)
  case atStart => exact ⟨1, _, by omega, h1, rfl, (plus_nil _).symm, Lib.hid (fun i hi => by omega)⟩
  case round =>
    obtain ⟨k, d, hk1, hk, rfl, rfl, HI⟩ := hrel
    by_cases hlt : k < n
    · have hne := HP.out k hlt hk1
      obtain ⟨p, rfl⟩ : ∃ p, k = p + 1 := ⟨k - 1, by omega⟩
      have hp8 : p < 8 := by omega
      have hq8 : p + 1 < 8 := by omega
      simp only [Nat.add_sub_cancel] at hne
      by_cases hb : b (p + 1) < b p
      · by_cases hd : backK a n p < backK a n (p + 1)
        · have HO := Lib.hid (weiB_no (a := a) (b := b) hlt hk1 (by simpa using hb) (by simp only [Nat.add_sub_cancel]; omega))
          go_wp2
          go_quiet (fail)
          go_wp2
          go_ret
          exact ⟨by rw [HO.out]; rfl, by (repeat (first | (with_reducible exact Below.refl _ _) | (with_reducible assumption) | (with_reducible refine below_plus' ?_ ?_; ((try simp only [plus_size, World.size_alloc, World.size_drew, World.size_setCell, size_setRow, World.heap_drewN, List.length_append]) <;> omega)) | (with_reducible refine below_alloc' ?_ ?_; ((try simp only [plus_size, World.size_alloc, World.size_drew, World.size_setCell, size_setRow, World.heap_drewN, List.length_append]) <;> omega)) | with_reducible refine Below.drew ?_ | (with_reducible refine below_drewN' ?_ _) | exact Below.refl _ _))⟩
        · have HD := Lib.hid (show backK a n (p + 1) < backK a n p by omega)
          go_wp2
          go_quiet (fail)
          go_wp2
          go_roundw
          case rel =>
            refine ⟨p + 1 + 1, _, by omega, by omega, by go_num, rfl, Lib.hid (fun i hi h3 h4 => ?_)⟩
            by_cases e : i = p + 1
            · subst e; simpa using HD.out
            · exact HI.out i (by omega) h3 h4
          case measure => simp [intOf]; omega
      · have HD := Lib.hid hb
        go_wp2
        go_quiet (fail)
        go_wp2
        go_roundw
        case rel =>
          refine ⟨p + 1 + 1, _, by omega, by omega, by go_num, rfl, Lib.hid (fun i hi h3 h4 => ?_)⟩
          by_cases e : i = p + 1
          · subst e; exact absurd h4 (by simpa using HD.out)
          · exact HI.out i (by omega) h3 h4
        case measure => simp [intOf]; omega
    · obtain rfl : k = n := by omega
      have HO := Lib.hid (weiB_yes HI.out)
      go_wp2
      go_ret
      exact ⟨by rw [HO.out]; rfl, by (repeat (first | (with_reducible exact Below.refl _ _) | (with_reducible assumption) | (with_reducible refine below_plus' ?_ ?_; ((try simp only [plus_size, World.size_alloc, World.size_drew, World.size_setCell, size_setRow, World.heap_drewN, List.length_append]) <;> omega)) | (with_reducible refine below_alloc' ?_ ?_; ((try simp only [plus_size, World.size_alloc, World.size_drew, World.size_setCell, size_setRow, World.heap_drewN, List.length_append]) <;> omega)) | with_reducible refine Below.drew ?_ | (with_reducible refine below_drewN' ?_ _) | exact Below.refl _ _))⟩
end Go.Proofs.Ytcfofdjdbojadaa
