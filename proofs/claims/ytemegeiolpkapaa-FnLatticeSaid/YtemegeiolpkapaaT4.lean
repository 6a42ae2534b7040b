/- The exchange; the word of a simple braid. Conditions: as each theorem says. -/
import Derived.Test.YtemegeiolpkapaaT1
import Derived.Test.YtemegeiolpkapaaS7
import Derived.Test.YtemegeiolpkapaaP5
import Derived.BigRegion
namespace Go.Proofs.Ytemegeiolpkapaa
open Go.RowKit
set_option linter.unusedSimpArgs false
set_option linter.unusedVariables false
set_option maxHeartbeats 400000 in
theorem exchange_any (n k : Nat) (w : World) (hk : k + 1 < n) (h2 : n ≤ 8) : Calls Try.prog 68 #[.int .i64 n, .int .i64 ((k : Int) + 1)] w fun e w' => e = .returned (.agg (arrF .u8 8 (up (exK n (k + 1))))) ∧ Below w.heap.size w w' := by
  have h1 : 1 ≤ n := by omega
  have hk8 : k < 8 := by omega
  have hk9 : k + 1 < 8 := by omega
  have HE : arrF .u8 8 (upd (upd (up (idK n)) k ((k : Int) + 1)) (k + 1) (k : Int)) = arrF .u8 8 (up (exK n (k + 1))) := by
    refine arrF_ext fun i hi => ?_
    simp only [upd, up, exK, swapK_at, Nat.add_sub_cancel, idK]
    have a1 : k + 1 < n := hk
    have a2 : k < n := by omega
    by_cases e1 : i = k + 1
    · subst e1; simp [a2]
    · by_cases e2 : i = k
      · subst e2; simp [a1]
      · simp [e1, e2]
  have HE' := Lib.hid HE
  clear HE
  go_enter Try.func68, Try.ntmps68
  go_wp2_with (first | (go_at_call 66; refine (spec_same _ _ h1 h2).mono ?_; rintro e w' ⟨rfl, hB⟩; obtain ⟨j, d, rfl⟩ := plus_of_below hB; clear hB)
                                        | ((with_reducible apply wpList_load_arr rfl 25 _ rfl _ rfl 8 5 Try.underlying25 info25); (repeat (first | (refine heap_at _ _ _ ?_; ((try simp only [plus_size, World.size_alloc, World.size_drew, World.size_setCell, size_setRow, World.heap_drewN, List.length_append]) <;> omega)) | (refine heap_past' ?_ ?_; ((try simp only [plus_size, World.size_alloc, World.size_drew, World.size_setCell, size_setRow, World.heap_drewN, List.length_append]) <;> omega)) | (refine heap_plus' ?_ ?_; ((try simp only [plus_size, World.size_alloc, World.size_drew, World.size_setCell, size_setRow, World.heap_drewN, List.length_append]) <;> omega)) | assumption)); (simp only [arrF_size, arrO_size]))
                                        | ((with_reducible apply wpList_store_arr rfl rfl 25 _ _ rfl _ rfl _ rfl 8 info25); (repeat (first | (refine heap_at _ _ _ ?_; ((try simp only [plus_size, World.size_alloc, World.size_drew, World.size_setCell, size_setRow, World.heap_drewN, List.length_append]) <;> omega)) | (refine heap_past' ?_ ?_; ((try simp only [plus_size, World.size_alloc, World.size_drew, World.size_setCell, size_setRow, World.heap_drewN, List.length_append]) <;> omega)) | (refine heap_plus' ?_ ?_; ((try simp only [plus_size, World.size_alloc, World.size_drew, World.size_setCell, size_setRow, World.heap_drewN, List.length_append]) <;> omega)) | assumption)); (simp only [arrF_size, arrO_size]); (simp only [arrF_size, arrO_size]); (first | exact arrF_one _ _ _ | exact arrO_one _ _); (repeat (first | (refine setRow_at' ?_; ((try simp only [plus_size, World.size_alloc, World.size_drew, World.size_setCell, size_setRow, World.heap_drewN, List.length_append]) <;> omega)) | (apply setRow_past'; ((try simp only [plus_size, World.size_alloc, World.size_drew, World.size_setCell, size_setRow, World.heap_drewN, List.length_append]) <;> omega)) | (apply setRow_plus'; ((try simp only [plus_size, World.size_alloc, World.size_drew, World.size_setCell, size_setRow, World.heap_drewN, List.length_append]) <;> omega)) | exact rfl))))
  exact ret_arr rfl 8 5 Try.underlying25 info25 _ _ _ (0, 0) rfl (by (repeat (first | (refine heap_at _ _ _ ?_; ((try simp only [plus_size, World.size_alloc, World.size_drew, World.size_setCell, size_setRow, World.heap_drewN, List.length_append]) <;> omega)) | (refine heap_past' ?_ ?_; ((try simp only [plus_size, World.size_alloc, World.size_drew, World.size_setCell, size_setRow, World.heap_drewN, List.length_append]) <;> omega)) | (refine heap_plus' ?_ ?_; ((try simp only [plus_size, World.size_alloc, World.size_drew, World.size_setCell, size_setRow, World.heap_drewN, List.length_append]) <;> omega)) | assumption))) (by simp [arrF_size]) rfl ⟨by rw [HE'.out], by (repeat (first | (with_reducible exact Below.refl _ _) | (with_reducible assumption) | (with_reducible refine below_plus' ?_ ?_; ((try simp only [plus_size, World.size_alloc, World.size_drew, World.size_setCell, size_setRow, World.heap_drewN, List.length_append]) <;> omega)) | (with_reducible refine below_alloc' ?_ ?_; ((try simp only [plus_size, World.size_alloc, World.size_drew, World.size_setCell, size_setRow, World.heap_drewN, List.length_append]) <;> omega)) | with_reducible refine Below.drew ?_ | exact Below.refl _ _))⟩
set_option maxHeartbeats 400000 in
theorem impl_word (s : Nat → Nat) (n : Nat) (w : World) (h1 : 1 ≤ n) (h2 : n ≤ 8) (hp : Perm n s) : Calls Try.prog 58 #[.agg (arrF .u8 8 (up s)), .int .i64 n] w (RetInts 2 w (wordK n 1000 s)) := by
  have HW := Lib.hid (wordK_length n 1000 s)
  go_enter Try.func58, Try.ntmps58
  go_wp2
  go_loopw [5] (fun v wr => ∃ (v0 : Value) (t : Nat → Nat) (f : Nat) (out : List Int) (j : List Obj) (d : Nat), v0 = v ∧ Perm n t ∧ out ++ wordK n f t = wordK n 1000 s ∧ 600 ≤ f + mu n t ∧ wr = plus (w.alloc (.cells (arrF .u8 8 (up t)) 25)) j d ∧ own 2 (plus (w.alloc (.cells (arrF .u8 8 (up t)) 25)) j d) (w.alloc (.cells (arrF .u8 8 (up t)) 25)).heap.size v0 out) (fun _ wr => 1000 - muAt n wr w.heap.size)
  case atStart => exact ⟨_, s, 1000, [], [.cells #[] 2], w.drawn, rfl, hp, rfl, by omega, rfl, own_start⟩
  case round =>
    obtain ⟨v, t, f, out, j, d, rfl, hp', hw, hf, rfl, hown⟩ := hrel
    have hmu := mu_le h2 hp'.lt
    have hbeg := fun w => impl_beginning t n w h1 h2
    have hlen : out.length < 1000000000 := by
      have e := congrArg List.length hw
      rw [List.length_append] at e
      have := HW.out
      omega
    cases hb : begK t n with
    | nil =>
      simp only [hb] at hbeg
      have Hb := Lib.hid hbeg
      have HO := Lib.hid (show out = wordK n 1000 s by rw [← hw, wordK_nil hb, List.append_nil])
      clear hw hb hbeg
      go_wp2_with (first | (go_at_call 78; have r4 := Hb.out; refine (r4 _).mono ?_; clear r4; rintro e w' ⟨vl, rfl, hB, hl⟩; obtain ⟨al, cl, rfl⟩ := reads_nil hl.reads; clear hl; replace hown := hown.kept hB; (have hB := below_base (W := (w.alloc (.cells (arrF .u8 8 (up t)) 25))) hB); obtain ⟨j, d, rfl⟩ := plus_of_below hB; clear hB)
                                        | ((with_reducible apply wpList_load_arr rfl 25 _ rfl _ rfl 8 5 Try.underlying25 info25); (repeat (first | (refine heap_at _ _ _ ?_; ((try simp only [plus_size, World.size_alloc, World.size_drew, World.size_setCell, size_setRow, World.heap_drewN, List.length_append]) <;> omega)) | (refine heap_past' ?_ ?_; ((try simp only [plus_size, World.size_alloc, World.size_drew, World.size_setCell, size_setRow, World.heap_drewN, List.length_append]) <;> omega)) | (refine heap_plus' ?_ ?_; ((try simp only [plus_size, World.size_alloc, World.size_drew, World.size_setCell, size_setRow, World.heap_drewN, List.length_append]) <;> omega)) | assumption)); (simp only [arrF_size, arrO_size]))
                                        | ((with_reducible apply wpList_store_arr rfl rfl 25 _ _ rfl _ rfl _ rfl 8 info25); (repeat (first | (refine heap_at _ _ _ ?_; ((try simp only [plus_size, World.size_alloc, World.size_drew, World.size_setCell, size_setRow, World.heap_drewN, List.length_append]) <;> omega)) | (refine heap_past' ?_ ?_; ((try simp only [plus_size, World.size_alloc, World.size_drew, World.size_setCell, size_setRow, World.heap_drewN, List.length_append]) <;> omega)) | (refine heap_plus' ?_ ?_; ((try simp only [plus_size, World.size_alloc, World.size_drew, World.size_setCell, size_setRow, World.heap_drewN, List.length_append]) <;> omega)) | assumption)); (simp only [arrF_size, arrO_size]); (simp only [arrF_size, arrO_size]); (first | exact arrF_one _ _ _ | exact arrO_one _ _); (repeat (first | (refine setRow_at' ?_; ((try simp only [plus_size, World.size_alloc, World.size_drew, World.size_setCell, size_setRow, World.heap_drewN, List.length_append]) <;> omega)) | (apply setRow_past'; ((try simp only [plus_size, World.size_alloc, World.size_drew, World.size_setCell, size_setRow, World.heap_drewN, List.length_append]) <;> omega)) | (apply setRow_plus'; ((try simp only [plus_size, World.size_alloc, World.size_drew, World.size_setCell, size_setRow, World.heap_drewN, List.length_append]) <;> omega)) | exact rfl))))
      go_ret
      exact ⟨v, rfl, by (repeat (first | (with_reducible exact Below.refl _ _) | (with_reducible assumption) | (with_reducible refine below_plus' ?_ ?_; ((try simp only [plus_size, World.size_alloc, World.size_drew, World.size_setCell, size_setRow, World.heap_drewN, List.length_append]) <;> omega)) | (with_reducible refine below_alloc' ?_ ?_; ((try simp only [plus_size, World.size_alloc, World.size_drew, World.size_setCell, size_setRow, World.heap_drewN, List.length_append]) <;> omega)) | with_reducible refine Below.drew ?_ | (with_reducible refine below_drewN' ?_ _) | exact Below.refl _ _)), by rw [← HO.out]; exact hown.mono (by ((try simp only [plus_size, World.size_alloc, World.size_drew, World.size_setCell, size_setRow, World.heap_drewN, List.length_append]) <;> omega))⟩
    | cons x l =>
      simp only [hb] at hbeg
      have Hb := Lib.hid hbeg
      obtain ⟨i, rfl, hi1, hin, hdes⟩ := begK_mem (s := t) (n := n) (x := x) (by rw [hb]; exact List.mem_cons_self)
      obtain ⟨k, rfl⟩ : ∃ k, i = k + 1 := ⟨i - 1, by omega⟩
      obtain ⟨f, rfl⟩ : ∃ f', f = f' + 1 := ⟨f - 1, by omega⟩
      rw [wordK_cons hb] at hw
      have Hw := Lib.hid hw
      have hk8 : k < 8 := by omega
      have hk9 : k + 1 < 8 := by omega
      clear hw hb hbeg
      go_wp2_with (first | (go_at_call 78; have r4 := Hb.out; refine (r4 _).mono ?_; clear r4; rintro e w' ⟨vl, rfl, hB, hl⟩; obtain ⟨bl, ol, cl, rfl, g1, g2⟩ := reads_cons hl.reads; clear hl; replace hown := hown.kept hB; (have hB := below_base (W := (w.alloc (.cells (arrF .u8 8 (up t)) 25))) hB); obtain ⟨j, d, rfl⟩ := plus_of_below hB; clear hB)
                                        | ((with_reducible apply wpList_load_arr rfl 25 _ rfl _ rfl 8 5 Try.underlying25 info25); (repeat (first | (refine heap_at _ _ _ ?_; ((try simp only [plus_size, World.size_alloc, World.size_drew, World.size_setCell, size_setRow, World.heap_drewN, List.length_append]) <;> omega)) | (refine heap_past' ?_ ?_; ((try simp only [plus_size, World.size_alloc, World.size_drew, World.size_setCell, size_setRow, World.heap_drewN, List.length_append]) <;> omega)) | (refine heap_plus' ?_ ?_; ((try simp only [plus_size, World.size_alloc, World.size_drew, World.size_setCell, size_setRow, World.heap_drewN, List.length_append]) <;> omega)) | assumption)); (simp only [arrF_size, arrO_size]))
                                        | ((with_reducible apply wpList_store_arr rfl rfl 25 _ _ rfl _ rfl _ rfl 8 info25); (repeat (first | (refine heap_at _ _ _ ?_; ((try simp only [plus_size, World.size_alloc, World.size_drew, World.size_setCell, size_setRow, World.heap_drewN, List.length_append]) <;> omega)) | (refine heap_past' ?_ ?_; ((try simp only [plus_size, World.size_alloc, World.size_drew, World.size_setCell, size_setRow, World.heap_drewN, List.length_append]) <;> omega)) | (refine heap_plus' ?_ ?_; ((try simp only [plus_size, World.size_alloc, World.size_drew, World.size_setCell, size_setRow, World.heap_drewN, List.length_append]) <;> omega)) | assumption)); (simp only [arrF_size, arrO_size]); (simp only [arrF_size, arrO_size]); (first | exact arrF_one _ _ _ | exact arrO_one _ _); (repeat (first | (refine setRow_at' ?_; ((try simp only [plus_size, World.size_alloc, World.size_drew, World.size_setCell, size_setRow, World.heap_drewN, List.length_append]) <;> omega)) | (apply setRow_past'; ((try simp only [plus_size, World.size_alloc, World.size_drew, World.size_setCell, size_setRow, World.heap_drewN, List.length_append]) <;> omega)) | (apply setRow_plus'; ((try simp only [plus_size, World.size_alloc, World.size_drew, World.size_setCell, size_setRow, World.heap_drewN, List.length_append]) <;> omega)) | exact rfl)))
                                        | (at_builtin; (refine wpList_append1h rfl _ _ 34 rfl Try.underlying34 infoI _ rfl _ rfl ?_ hown ?_ ?_; ((try simp only [plus_size, World.size_alloc, World.size_drew, World.size_setCell, size_setRow, World.heap_drewN, List.length_append]) <;> omega); (exact hlen); intro v' j' d' hown' hgrow; clear hown)))
      go_region
      go_wp2
      go_roundw
      case rel => exact ⟨_, swapK t (k + 1), f, out ++ [((k + 1 : Nat) : Int)], j', d' + 1, rfl, hp'.swap hi1 hin, by rw [List.append_assoc]; exact Hw.out, by have := mu_swap t hi1 hin; omega, rfl, own_base hown'⟩
      case measure =>
        rw [muAt_arr (c := swapK t (k + 1)) (by (repeat (first | (refine heap_at _ _ _ ?_; ((try simp only [plus_size, World.size_alloc, World.size_drew, World.size_setCell, size_setRow, World.heap_drewN, List.length_append]) <;> omega)) | (refine heap_past' ?_ ?_; ((try simp only [plus_size, World.size_alloc, World.size_drew, World.size_setCell, size_setRow, World.heap_drewN, List.length_append]) <;> omega)) | (refine heap_plus' ?_ ?_; ((try simp only [plus_size, World.size_alloc, World.size_drew, World.size_setCell, size_setRow, World.heap_drewN, List.length_append]) <;> omega)) | assumption))) h2, muAt_arr (c := t) (by (repeat (first | (refine heap_at _ _ _ ?_; ((try simp only [plus_size, World.size_alloc, World.size_drew, World.size_setCell, size_setRow, World.heap_drewN, List.length_append]) <;> omega)) | (refine heap_past' ?_ ?_; ((try simp only [plus_size, World.size_alloc, World.size_drew, World.size_setCell, size_setRow, World.heap_drewN, List.length_append]) <;> omega)) | (refine heap_plus' ?_ ?_; ((try simp only [plus_size, World.size_alloc, World.size_drew, World.size_setCell, size_setRow, World.heap_drewN, List.length_append]) <;> omega)) | assumption))) h2]
        have := mu_swap t hi1 hin
        have := mu_le h2 (hp'.swap hi1 hin).lt
        omega
set_option maxHeartbeats 400000 in
theorem spec_word (s : Nat → Nat) (n : Nat) (w : World) (h1 : 1 ≤ n) (h2 : n ≤ 8) (hp : Perm n s) : Calls Try.prog 59 #[.int .i64 n, .agg (arrF .u8 8 (up s))] w (RetInts 2 w (wordK n 1000 s)) := by
  have HW := Lib.hid (wordK_length n 1000 s)
  go_enter Try.func59, Try.ntmps59
  go_wp2
  go_loopw [5] (fun v wr => ∃ (v0 : Value) (t : Nat → Nat) (f : Nat) (out : List Int) (j : List Obj) (d : Nat), v0 = v ∧ Perm n t ∧ out ++ wordK n f t = wordK n 1000 s ∧ 600 ≤ f + mu n t ∧ wr = plus (w.alloc (.cells (arrF .u8 8 (up t)) 25)) j d ∧ own 2 (plus (w.alloc (.cells (arrF .u8 8 (up t)) 25)) j d) (w.alloc (.cells (arrF .u8 8 (up t)) 25)).heap.size v0 out) (fun _ wr => 1000 - muAt n wr w.heap.size)
  case atStart => exact ⟨_, s, 1000, [], [.cells #[] 2], w.drawn, rfl, hp, rfl, by omega, rfl, own_start⟩
  case round =>
    obtain ⟨v, t, f, out, j, d, rfl, hp', hw, hf, rfl, hown⟩ := hrel
    have hmu := mu_le h2 hp'.lt
    have hbeg := fun w => spec_begins t n w h1 h2
    have hlen : out.length < 1000000000 := by
      have e := congrArg List.length hw
      rw [List.length_append] at e
      have := HW.out
      omega
    cases hb : begK t n with
    | nil =>
      simp only [hb] at hbeg
      have Hb := Lib.hid hbeg
      have HO := Lib.hid (show out = wordK n 1000 s by rw [← hw, wordK_nil hb, List.append_nil])
      clear hw hb hbeg
      go_wp2_with (first | (go_at_call 79; have r4 := Hb.out; refine (r4 _).mono ?_; clear r4; rintro e w' ⟨vl, rfl, hB, hl⟩; obtain ⟨al, cl, rfl⟩ := reads_nil hl.reads; clear hl; replace hown := hown.kept hB; (have hB := below_base (W := (w.alloc (.cells (arrF .u8 8 (up t)) 25))) hB); obtain ⟨j, d, rfl⟩ := plus_of_below hB; clear hB)
                                        | ((with_reducible apply wpList_load_arr rfl 25 _ rfl _ rfl 8 5 Try.underlying25 info25); (repeat (first | (refine heap_at _ _ _ ?_; ((try simp only [plus_size, World.size_alloc, World.size_drew, World.size_setCell, size_setRow, World.heap_drewN, List.length_append]) <;> omega)) | (refine heap_past' ?_ ?_; ((try simp only [plus_size, World.size_alloc, World.size_drew, World.size_setCell, size_setRow, World.heap_drewN, List.length_append]) <;> omega)) | (refine heap_plus' ?_ ?_; ((try simp only [plus_size, World.size_alloc, World.size_drew, World.size_setCell, size_setRow, World.heap_drewN, List.length_append]) <;> omega)) | assumption)); (simp only [arrF_size, arrO_size]))
                                        | ((with_reducible apply wpList_store_arr rfl rfl 25 _ _ rfl _ rfl _ rfl 8 info25); (repeat (first | (refine heap_at _ _ _ ?_; ((try simp only [plus_size, World.size_alloc, World.size_drew, World.size_setCell, size_setRow, World.heap_drewN, List.length_append]) <;> omega)) | (refine heap_past' ?_ ?_; ((try simp only [plus_size, World.size_alloc, World.size_drew, World.size_setCell, size_setRow, World.heap_drewN, List.length_append]) <;> omega)) | (refine heap_plus' ?_ ?_; ((try simp only [plus_size, World.size_alloc, World.size_drew, World.size_setCell, size_setRow, World.heap_drewN, List.length_append]) <;> omega)) | assumption)); (simp only [arrF_size, arrO_size]); (simp only [arrF_size, arrO_size]); (first | exact arrF_one _ _ _ | exact arrO_one _ _); (repeat (first | (refine setRow_at' ?_; ((try simp only [plus_size, World.size_alloc, World.size_drew, World.size_setCell, size_setRow, World.heap_drewN, List.length_append]) <;> omega)) | (apply setRow_past'; ((try simp only [plus_size, World.size_alloc, World.size_drew, World.size_setCell, size_setRow, World.heap_drewN, List.length_append]) <;> omega)) | (apply setRow_plus'; ((try simp only [plus_size, World.size_alloc, World.size_drew, World.size_setCell, size_setRow, World.heap_drewN, List.length_append]) <;> omega)) | exact rfl))))
      go_ret
      exact ⟨v, rfl, by (repeat (first | (with_reducible exact Below.refl _ _) | (with_reducible assumption) | (with_reducible refine below_plus' ?_ ?_; ((try simp only [plus_size, World.size_alloc, World.size_drew, World.size_setCell, size_setRow, World.heap_drewN, List.length_append]) <;> omega)) | (with_reducible refine below_alloc' ?_ ?_; ((try simp only [plus_size, World.size_alloc, World.size_drew, World.size_setCell, size_setRow, World.heap_drewN, List.length_append]) <;> omega)) | with_reducible refine Below.drew ?_ | (with_reducible refine below_drewN' ?_ _) | exact Below.refl _ _)), by rw [← HO.out]; exact hown.mono (by ((try simp only [plus_size, World.size_alloc, World.size_drew, World.size_setCell, size_setRow, World.heap_drewN, List.length_append]) <;> omega))⟩
    | cons x l =>
      simp only [hb] at hbeg
      have Hb := Lib.hid hbeg
      obtain ⟨i, rfl, hi1, hin, hdes⟩ := begK_mem (s := t) (n := n) (x := x) (by rw [hb]; exact List.mem_cons_self)
      obtain ⟨k, rfl⟩ : ∃ k, i = k + 1 := ⟨i - 1, by omega⟩
      obtain ⟨f, rfl⟩ : ∃ f', f = f' + 1 := ⟨f - 1, by omega⟩
      rw [wordK_cons hb] at hw
      have Hw := Lib.hid hw
      have hk8 : k < 8 := by omega
      have hk9 : k + 1 < 8 := by omega
      have hex8 : ∀ i, i < n → exK n (k + 1) i < 8 := fun i hi => Nat.lt_of_lt_of_le (exK_lt hi1 hin i hi) h2
      have HT := Lib.hid (fun i (hi : i < n) => then_ex (s := t) hi1 hin hi)
      clear hw hb hbeg
      go_wp2_with (first | (go_at_call 79; have hlt := hown.lt; have r4 := Hb.out; refine (r4 _).mono ?_; clear r4; rintro e w' ⟨vl, rfl, hB, hl⟩; obtain ⟨bl, ol, cl, rfl, g1, g2⟩ := reads_cons hl.reads; have hne : v.ownBlock ≠ some bl := (fun e => Nat.lt_irrefl _ (Nat.lt_of_lt_of_le (hlt bl e).2 (hl.lt bl rfl).1)); clear hl hlt; replace hown := hown.kept hB; (have hB := below_base (W := (w.alloc (.cells (arrF .u8 8 (up t)) 25))) hB); obtain ⟨j, d, rfl⟩ := plus_of_below hB; clear hB)
                                        | ((with_reducible apply wpList_load_arr rfl 25 _ rfl _ rfl 8 5 Try.underlying25 info25); (repeat (first | (refine heap_at _ _ _ ?_; ((try simp only [plus_size, World.size_alloc, World.size_drew, World.size_setCell, size_setRow, World.heap_drewN, List.length_append]) <;> omega)) | (refine heap_past' ?_ ?_; ((try simp only [plus_size, World.size_alloc, World.size_drew, World.size_setCell, size_setRow, World.heap_drewN, List.length_append]) <;> omega)) | (refine heap_plus' ?_ ?_; ((try simp only [plus_size, World.size_alloc, World.size_drew, World.size_setCell, size_setRow, World.heap_drewN, List.length_append]) <;> omega)) | assumption)); (simp only [arrF_size, arrO_size]))
                                        | ((with_reducible apply wpList_store_arr rfl rfl 25 _ _ rfl _ rfl _ rfl 8 info25); (repeat (first | (refine heap_at _ _ _ ?_; ((try simp only [plus_size, World.size_alloc, World.size_drew, World.size_setCell, size_setRow, World.heap_drewN, List.length_append]) <;> omega)) | (refine heap_past' ?_ ?_; ((try simp only [plus_size, World.size_alloc, World.size_drew, World.size_setCell, size_setRow, World.heap_drewN, List.length_append]) <;> omega)) | (refine heap_plus' ?_ ?_; ((try simp only [plus_size, World.size_alloc, World.size_drew, World.size_setCell, size_setRow, World.heap_drewN, List.length_append]) <;> omega)) | assumption)); (simp only [arrF_size, arrO_size]); (simp only [arrF_size, arrO_size]); (first | exact arrF_one _ _ _ | exact arrO_one _ _); (repeat (first | (refine setRow_at' ?_; ((try simp only [plus_size, World.size_alloc, World.size_drew, World.size_setCell, size_setRow, World.heap_drewN, List.length_append]) <;> omega)) | (apply setRow_past'; ((try simp only [plus_size, World.size_alloc, World.size_drew, World.size_setCell, size_setRow, World.heap_drewN, List.length_append]) <;> omega)) | (apply setRow_plus'; ((try simp only [plus_size, World.size_alloc, World.size_drew, World.size_setCell, size_setRow, World.heap_drewN, List.length_append]) <;> omega)) | exact rfl)))
                                        | (at_builtin; (refine wpList_append1h rfl _ _ 34 rfl Try.underlying34 infoI _ rfl _ rfl ?_ hown ?_ ?_; ((try simp only [plus_size, World.size_alloc, World.size_drew, World.size_setCell, size_setRow, World.heap_drewN, List.length_append]) <;> omega); (exact hlen); intro v' j' d' hown' hgrow; clear hown; have g3 := cell_append g1 hgrow hne; clear g1; have g1 := g3; clear g3; have g2 := World.block_lt_of_cell? _ _ g1; (simp only [plus_size, World.size_alloc] at g2))))
      refine region_plus_tail 8 (by kernel_rfl) (by kernel_rfl) ?_
      simp only [List.take_succ_cons, List.take_zero, List.drop_succ_cons, List.drop_zero]
      repeat (go_big_quiet_step (first | (go_at_call 68; exact calls_plus (exchange_any _ _ _ hin h2)) | (go_at_call 67; exact calls_plus (spec_then _ _ _ _ h1 h2 hex8))))
      refine wpQuiet_nil ?_
      intro _ hw'
      obtain ⟨q, hw''⟩ := hw'
      subst hw''
      rw [plusq_eq]
      generalize q.j = j
      generalize q.d = d
      clear q
      go_wp2_with (first | ((with_reducible apply wpList_store_arr rfl rfl 25 _ _ rfl _ rfl _ rfl 8 info25); (repeat (first | (refine heap_at _ _ _ ?_; ((try simp only [plus_size, World.size_alloc, World.size_drew, World.size_setCell, size_setRow, World.heap_drewN, List.length_append]) <;> omega)) | (refine heap_past' ?_ ?_; ((try simp only [plus_size, World.size_alloc, World.size_drew, World.size_setCell, size_setRow, World.heap_drewN, List.length_append]) <;> omega)) | (refine heap_plus' ?_ ?_; ((try simp only [plus_size, World.size_alloc, World.size_drew, World.size_setCell, size_setRow, World.heap_drewN, List.length_append]) <;> omega)) | assumption)); (simp only [arrF_size, arrO_size]); (simp only [arrF_size, arrO_size]); (first | exact arrF_one _ _ _ | exact arrO_one _ _); (repeat (first | (refine setRow_at' ?_; ((try simp only [plus_size, World.size_alloc, World.size_drew, World.size_setCell, size_setRow, World.heap_drewN, List.length_append]) <;> omega)) | (apply setRow_past'; ((try simp only [plus_size, World.size_alloc, World.size_drew, World.size_setCell, size_setRow, World.heap_drewN, List.length_append]) <;> omega)) | (apply setRow_plus'; ((try simp only [plus_size, World.size_alloc, World.size_drew, World.size_setCell, size_setRow, World.heap_drewN, List.length_append]) <;> omega)) | exact rfl))))
      go_roundw
      case rel => exact ⟨_, (thenK (exK n (k + 1)) t n), f, out ++ [((k + 1 : Nat) : Int)], _, _, rfl, (hp'.swap hi1 hin).ext HT.out, by rw [List.append_assoc, wordK_ext f HT.out]; exact Hw.out, by rw [mu_ext HT.out]; have := mu_swap t hi1 hin; omega, by rw [plus_plus], own_base (own_plus (d' := 0) hown')⟩
      case measure =>
        rw [muAt_arr (c := (thenK (exK n (k + 1)) t n)) (by (repeat (first | (refine heap_at _ _ _ ?_; ((try simp only [plus_size, World.size_alloc, World.size_drew, World.size_setCell, size_setRow, World.heap_drewN, List.length_append]) <;> omega)) | (refine heap_past' ?_ ?_; ((try simp only [plus_size, World.size_alloc, World.size_drew, World.size_setCell, size_setRow, World.heap_drewN, List.length_append]) <;> omega)) | (refine heap_plus' ?_ ?_; ((try simp only [plus_size, World.size_alloc, World.size_drew, World.size_setCell, size_setRow, World.heap_drewN, List.length_append]) <;> omega)) | assumption))) h2, muAt_arr (c := t) (by (repeat (first | (refine heap_at _ _ _ ?_; ((try simp only [plus_size, World.size_alloc, World.size_drew, World.size_setCell, size_setRow, World.heap_drewN, List.length_append]) <;> omega)) | (refine heap_past' ?_ ?_; ((try simp only [plus_size, World.size_alloc, World.size_drew, World.size_setCell, size_setRow, World.heap_drewN, List.length_append]) <;> omega)) | (refine heap_plus' ?_ ?_; ((try simp only [plus_size, World.size_alloc, World.size_drew, World.size_setCell, size_setRow, World.heap_drewN, List.length_append]) <;> omega)) | assumption))) h2, mu_ext HT.out]
        have := mu_swap t hi1 hin
        have := mu_le h2 (hp'.swap hi1 hin).lt
        omega
end Go.Proofs.Ytemegeiolpkapaa
