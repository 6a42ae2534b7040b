/- Polynomials with limits again. Conditions: as each theorem says. -/
import Derived.Test.YtcipdgmimmngoaaZc
namespace Go.Proofs.Ytcipdgmimmngoaa
open Go.RowKit
set_option linter.unusedSimpArgs false
set_option linter.unusedVariables false
open Go.RowKit
theorem own_farL {e : TypeId} {X Y : World} {B B' : Nat} {J J' : List Obj} {d d' : Nat} {v : Value} {xs : List Int} (h : own e (plus X J d) B v xs) (hs : X.heap.size = Y.heap.size) (hB : X.heap.size ≤ B) (hB' : B' ≤ B) (hp : J <+: J') : own e (plus Y J' d') B' v xs := by
  obtain ⟨K, rfl⟩ := hp
  exact (own_plus (d := d') (own_swap hs hB h)).mono hB'
/-- a polynomial if it has limits; the code 3 if not -/
def laN (low : Int) (xs : List Int) : Int := if okL low xs = true then low else 0
def laL (low : Int) (xs : List Int) : List Int := if okL low xs = true then xs else []
def laC (low : Int) (xs : List Int) : Int := if okL low xs = true then 0 else 3
theorem la_no {low : Int} {xs : List Int} (h : okL low xs = false) : laN low xs = 0 ∧ laL low xs = [] ∧ laC low xs = 3 := by simp [laN, laL, laC, h]
theorem la_yes {low : Int} {xs : List Int} (h : okL low xs = true) : laN low xs = low ∧ laL low xs = xs ∧ laC low xs = 0 := by simp [laN, laL, laC, h]
theorem plus_in (W : World) (j j' : List Obj) (d d' : Nat) (o : Obj) : plus ((plus W j d).alloc o) j' d' = plus W ((j ++ [o]) ++ j') d' := by
  simp [plus, World.alloc]
theorem okL_bad {low : Int} {xs : List Int} {k : Nat} (hk : k < xs.length) (h : inB (nth xs k) (-1000000000000) 1000000000000 = false) : okL low xs = false := by
  cases hc : okL low xs with
  | false => rfl
  | true => exact absurd (okL_true hc).2.2.2 (by rw [allC_bad hk h]; decide)
theorem fitB_bad {x : Int} (h : fitB x = false) : inB x (-1000000000000) 1000000000000 = false := by
  cases hc : inB x (-1000000000000) 1000000000000 with
  | false => rfl
  | true =>
    have := inB_true hc
    simp only [fitB, decide_eq_false_iff_not] at h
    omega
theorem fitB_wrap {x : Int} (h : fitB x = true) : wrap64 x = x := by
  simp only [fitB, decide_eq_true_eq] at h
  unfold wrap64; omega
set_option maxHeartbeats 2000000 in
theorem laurent_any (low : Int) (v : Value) (xs : List Int) (w : World) (h : readsW w v xs) (hlen : xs.length ≤ 100000) (hl1 : -100000 ≤ low) (hl2 : low ≤ 100000) (hf : Fw xs) : Calls Try.prog 34 #[.agg #[.int .i64 low, v]] w (RetB2 2 w (laN low xs) (laL low xs) (laC low xs)) := by
  have H := Lib.hid h
  have HF := Lib.hid hf
  obtain ⟨a, c, rfl, hr⟩ := h
  clear hr hf
  go_enter Try.func34, Try.ntmps34
  go_wp2
  go_loopw [15] (fun sl wr => ∃ (vo : Value) (l : List Int) (k : Nat) (j : List Obj) (d : Nat), Hid (l = xs.take k) ∧ k ≤ xs.length ∧ sl = .int .i64 k ∧ wr = plus (((w.alloc (.cells #[.int .i64 low, .slice a xs.length c] 48)).alloc (.cells #[.int .i64 0, .slice none 0 0] 26)).alloc (.cells #[.int .i64 low, vo] 26)) j d ∧ Hid (∀ i, i < k → inB (nth xs i) (-1000000000000) 1000000000000 = true) ∧ own 2 (plus (((w.alloc (.cells #[.int .i64 low, .slice a xs.length c] 48)).alloc (.cells #[.int .i64 0, .slice none 0 0] 26)).alloc (.cells #[.int .i64 low, vo] 26)) j d) (((w.alloc (.cells #[.int .i64 low, .slice a xs.length c] 48)).alloc (.cells #[.int .i64 0, .slice none 0 0] 26)).alloc (.cells #[.int .i64 low, vo] 26)).heap.size vo l) (fun sl _ => xs.length - (intOf sl).toNat)
  case atStart => exact ⟨_, [], 0, [], w.drawn, Lib.hid rfl, by omega, by go_num, (plus_nil _).symm, Lib.hid (fun i hi => by omega), own_nil _ _ _⟩
  case round =>
    obtain ⟨vo, l, k, j, d, HLl, hk, rfl, rfl, HI, hown⟩ := hrel
    obtain ⟨ao, co, rfl, hs⟩ := id hown.reads
    clear hs
    by_cases hlt : k < xs.length
    · obtain ⟨b, q, rfl, hbk, mm⟩ := H.out.cells (by omega)
      have c0 := mm k hlt 0 (by decide)
      have c1 := mm k hlt 1 (by decide)
      have c2 := mm k hlt 2 (by decide)
      have c3 := mm k hlt 3 (by decide)
      rw [Nat.mul_comm] at c0 c1 c2 c3
      rw [Nat.add_zero] at c0
      have hs := fun w => small_any (nth xs k) w (HF.out k hlt).1 (HF.out k hlt).2
      have hll : l.length < 1000000000 := by have := congrArg List.length HLl.out; simp at this; omega
      have hb3 : b < w.heap.size + 1 + 1 + 1 := by omega
      have hb1 : b < w.heap.size + 1 := by omega
      have hb2 : b < w.heap.size + 1 + 1 := by omega
      have HBx := Lib.hid (show l ++ [nth xs k] = xs.take (k + 1) by rw [HLl.out, take_snoc hlt])
      have HK := Lib.hid (fun h => okL_bad (low := low) hlt h)
      clear mm
      cases hfb : fitB (nth xs k) with
      | false =>
        simp only [hfb] at hs
        have HS := Lib.hid hs
        have HO := Lib.hid (HK.out (fitB_bad hfb))
        clear hfb hs
        go_wp2_with (first | ((with_reducible apply wpList_store_arr rfl rfl 68 _ _ rfl _ rfl _ rfl 4 info68); (repeat (first | (refine heap_at _ _ _ ?_; ((try simp only [plus_size, World.size_alloc, World.size_drew, World.size_setCell, size_setRow, World.heap_drewN, List.length_append]) <;> omega)) | (refine heap_past' ?_ ?_; ((try simp only [plus_size, World.size_alloc, World.size_drew, World.size_setCell, size_setRow, World.heap_drewN, List.length_append]) <;> omega)) | (refine heap_plus' ?_ ?_; ((try simp only [plus_size, World.size_alloc, World.size_drew, World.size_setCell, size_setRow, World.heap_drewN, List.length_append]) <;> omega)) | assumption)); (simp only [arrF_size, arrO_size]); (simp only [arrF_size, arrO_size]); (first | exact arrF_one _ _ _ | exact arrO_one _ _); (repeat (first | (refine setRow_at' ?_; ((try simp only [plus_size, World.size_alloc, World.size_drew, World.size_setCell, size_setRow, World.heap_drewN, List.length_append]) <;> omega)) | (apply setRow_past'; ((try simp only [plus_size, World.size_alloc, World.size_drew, World.size_setCell, size_setRow, World.heap_drewN, List.length_append]) <;> omega)) | (apply setRow_plus'; ((try simp only [plus_size, World.size_alloc, World.size_drew, World.size_setCell, size_setRow, World.heap_drewN, List.length_append]) <;> omega)) | exact rfl)))
                                        | ((with_reducible apply wpList_load_arr rfl 68 _ rfl _ rfl 4 66 Try.underlying68 info68); (repeat (first | (refine heap_at _ _ _ ?_; ((try simp only [plus_size, World.size_alloc, World.size_drew, World.size_setCell, size_setRow, World.heap_drewN, List.length_append]) <;> omega)) | (refine heap_past' ?_ ?_; ((try simp only [plus_size, World.size_alloc, World.size_drew, World.size_setCell, size_setRow, World.heap_drewN, List.length_append]) <;> omega)) | (refine heap_plus' ?_ ?_; ((try simp only [plus_size, World.size_alloc, World.size_drew, World.size_setCell, size_setRow, World.heap_drewN, List.length_append]) <;> omega)) | assumption)); (simp only [arrF_size, arrO_size]))
                                        | (go_at_call 57; refine Calls.mono (HS.out _) ?_; rintro e w'' ⟨rfl, hB⟩; obtain ⟨j5, d5, rfl⟩ := plus_of_below hB; rw [plus_in]; clear hB))
        refine bodyPost_ret (v := .tuple #[.agg #[.int .i64 0, .slice none 0 0], .int .i64 3]) (by simp [results, Try.results34, go_sem]) rfl ?_
        exact ⟨_, by rw [(la_no HO.out).1, (la_no HO.out).2.2], by (repeat (first | (with_reducible exact Below.refl _ _) | (with_reducible assumption) | (with_reducible refine below_plus' ?_ ?_; ((try simp only [plus_size, World.size_alloc, World.size_drew, World.size_setCell, size_setRow, World.heap_drewN, List.length_append]) <;> omega)) | (with_reducible refine below_alloc' ?_ ?_; ((try simp only [plus_size, World.size_alloc, World.size_drew, World.size_setCell, size_setRow, World.heap_drewN, List.length_append]) <;> omega)) | with_reducible refine Below.drew ?_ | (with_reducible refine below_drewN' ?_ _) | exact Below.refl _ _)), by rw [(la_no HO.out).2.1]; exact own_nil _ _ _⟩
      | true =>
        simp only [hfb, fitB_wrap hfb] at hs
        have HS := Lib.hid hs
        cases hin : inB (nth xs k) (-1000000000000) 1000000000000 with
        | false =>
          have HO := Lib.hid (HK.out hin)
          clear hfb hs
          go_wp2_with (first | ((with_reducible apply wpList_store_arr rfl rfl 68 _ _ rfl _ rfl _ rfl 4 info68); (repeat (first | (refine heap_at _ _ _ ?_; ((try simp only [plus_size, World.size_alloc, World.size_drew, World.size_setCell, size_setRow, World.heap_drewN, List.length_append]) <;> omega)) | (refine heap_past' ?_ ?_; ((try simp only [plus_size, World.size_alloc, World.size_drew, World.size_setCell, size_setRow, World.heap_drewN, List.length_append]) <;> omega)) | (refine heap_plus' ?_ ?_; ((try simp only [plus_size, World.size_alloc, World.size_drew, World.size_setCell, size_setRow, World.heap_drewN, List.length_append]) <;> omega)) | assumption)); (simp only [arrF_size, arrO_size]); (simp only [arrF_size, arrO_size]); (first | exact arrF_one _ _ _ | exact arrO_one _ _); (repeat (first | (refine setRow_at' ?_; ((try simp only [plus_size, World.size_alloc, World.size_drew, World.size_setCell, size_setRow, World.heap_drewN, List.length_append]) <;> omega)) | (apply setRow_past'; ((try simp only [plus_size, World.size_alloc, World.size_drew, World.size_setCell, size_setRow, World.heap_drewN, List.length_append]) <;> omega)) | (apply setRow_plus'; ((try simp only [plus_size, World.size_alloc, World.size_drew, World.size_setCell, size_setRow, World.heap_drewN, List.length_append]) <;> omega)) | exact rfl)))
                                        | ((with_reducible apply wpList_load_arr rfl 68 _ rfl _ rfl 4 66 Try.underlying68 info68); (repeat (first | (refine heap_at _ _ _ ?_; ((try simp only [plus_size, World.size_alloc, World.size_drew, World.size_setCell, size_setRow, World.heap_drewN, List.length_append]) <;> omega)) | (refine heap_past' ?_ ?_; ((try simp only [plus_size, World.size_alloc, World.size_drew, World.size_setCell, size_setRow, World.heap_drewN, List.length_append]) <;> omega)) | (refine heap_plus' ?_ ?_; ((try simp only [plus_size, World.size_alloc, World.size_drew, World.size_setCell, size_setRow, World.heap_drewN, List.length_append]) <;> omega)) | assumption)); (simp only [arrF_size, arrO_size]))
                                        | (go_at_call 57; refine Calls.mono (HS.out _) ?_; rintro e w'' ⟨rfl, hB⟩; obtain ⟨j5, d5, rfl⟩ := plus_of_below hB; rw [plus_in]; clear hB)
                                        | (go_at_call 44; refine (within_any _ _ _ _).mono ?_; rw [hin]; rintro e w' ⟨rfl, rfl⟩))
          refine bodyPost_ret (v := .tuple #[.agg #[.int .i64 0, .slice none 0 0], .int .i64 3]) (by simp [results, Try.results34, go_sem]) rfl ?_
          exact ⟨_, by rw [(la_no HO.out).1, (la_no HO.out).2.2], by (repeat (first | (with_reducible exact Below.refl _ _) | (with_reducible assumption) | (with_reducible refine below_plus' ?_ ?_; ((try simp only [plus_size, World.size_alloc, World.size_drew, World.size_setCell, size_setRow, World.heap_drewN, List.length_append]) <;> omega)) | (with_reducible refine below_alloc' ?_ ?_; ((try simp only [plus_size, World.size_alloc, World.size_drew, World.size_setCell, size_setRow, World.heap_drewN, List.length_append]) <;> omega)) | with_reducible refine Below.drew ?_ | (with_reducible refine below_drewN' ?_ _) | exact Below.refl _ _)), by rw [(la_no HO.out).2.1]; exact own_nil _ _ _⟩
        | true =>
          have HI2 := Lib.hid hin
          clear hfb hs
          go_wp2_with (first | ((with_reducible apply wpList_store_arr rfl rfl 68 _ _ rfl _ rfl _ rfl 4 info68); (repeat (first | (refine heap_at _ _ _ ?_; ((try simp only [plus_size, World.size_alloc, World.size_drew, World.size_setCell, size_setRow, World.heap_drewN, List.length_append]) <;> omega)) | (refine heap_past' ?_ ?_; ((try simp only [plus_size, World.size_alloc, World.size_drew, World.size_setCell, size_setRow, World.heap_drewN, List.length_append]) <;> omega)) | (refine heap_plus' ?_ ?_; ((try simp only [plus_size, World.size_alloc, World.size_drew, World.size_setCell, size_setRow, World.heap_drewN, List.length_append]) <;> omega)) | assumption)); (simp only [arrF_size, arrO_size]); (simp only [arrF_size, arrO_size]); (first | exact arrF_one _ _ _ | exact arrO_one _ _); (repeat (first | (refine setRow_at' ?_; ((try simp only [plus_size, World.size_alloc, World.size_drew, World.size_setCell, size_setRow, World.heap_drewN, List.length_append]) <;> omega)) | (apply setRow_past'; ((try simp only [plus_size, World.size_alloc, World.size_drew, World.size_setCell, size_setRow, World.heap_drewN, List.length_append]) <;> omega)) | (apply setRow_plus'; ((try simp only [plus_size, World.size_alloc, World.size_drew, World.size_setCell, size_setRow, World.heap_drewN, List.length_append]) <;> omega)) | exact rfl)))
                                        | ((with_reducible apply wpList_load_arr rfl 68 _ rfl _ rfl 4 66 Try.underlying68 info68); (repeat (first | (refine heap_at _ _ _ ?_; ((try simp only [plus_size, World.size_alloc, World.size_drew, World.size_setCell, size_setRow, World.heap_drewN, List.length_append]) <;> omega)) | (refine heap_past' ?_ ?_; ((try simp only [plus_size, World.size_alloc, World.size_drew, World.size_setCell, size_setRow, World.heap_drewN, List.length_append]) <;> omega)) | (refine heap_plus' ?_ ?_; ((try simp only [plus_size, World.size_alloc, World.size_drew, World.size_setCell, size_setRow, World.heap_drewN, List.length_append]) <;> omega)) | assumption)); (simp only [arrF_size, arrO_size]))
                                        | (go_at_call 57; refine Calls.mono (HS.out _) ?_; rintro e w'' ⟨rfl, hB⟩; obtain ⟨j5, d5, rfl⟩ := plus_of_below hB; rw [plus_in]; clear hB)
                                        | (go_at_call 44; refine (within_any _ _ _ _).mono ?_; rw [hin]; rintro e w' ⟨rfl, rfl⟩)
                                        | (at_builtin; go_loud (refine wpList_append1p (W := (((w.alloc (.cells #[.int .i64 low, .slice (some ⟨b, q, none⟩) xs.length c] 48)).alloc (.cells #[.int .i64 0, .slice none 0 0] 26)).alloc (.cells #[.int .i64 low, .slice ao l.length co] 26))) rfl _ _ 22 rfl Try.underlying22 infoI _ rfl _ rfl ?_ (own_plus hown) ?_ ?_; ((try simp only [plus_size, World.size_alloc, World.size_drew, World.size_setCell, size_setRow, World.heap_drewN, List.length_append, List.length_cons]) <;> omega); (omega); intro v' j' d' hown'; clear hown; obtain ⟨av, cv, rfl, hs⟩ := id hown'.reads; clear hs)))
          have hL : (l ++ [nth xs k]).length = l.length + 1 := by simp
          rw [hL] at hown'
          go_roundw
          case rel => exact ⟨.slice av (l.length + 1) cv, _, k + 1, _, _, HBx, by omega, by go_num, rfl, Lib.hid (fun i hi => by by_cases e : i = k; (· rw [e]; exact HI2.out); (· exact HI.out i (by omega))), own_farL hown' (by ((try simp only [plus_size, World.size_alloc, World.size_drew, World.size_setCell, size_setRow, World.heap_drewN, List.length_append]) <;> omega)) (by ((try simp only [plus_size, World.size_alloc, World.size_drew, World.size_setCell, size_setRow, World.heap_drewN, List.length_append]) <;> omega)) (by ((try simp only [plus_size, World.size_alloc, World.size_drew, World.size_setCell, size_setRow, World.heap_drewN, List.length_append]) <;> omega)) List.prefix_rfl⟩
          case measure => simp [intOf]; omega
    · obtain rfl : k = xs.length := by omega
      have HE := Lib.hid (show l = xs by rw [HLl.out, List.take_length])
      have HfI := Lib.hid (show Fits l from fun x hx => by
        rw [HE.out] at hx
        obtain ⟨i, hi, rfl⟩ := List.mem_iff_getElem.1 hx
        have := inB_true (HI.out i hi)
        rw [show nth xs i = xs[i] by simp [nth, hi]] at this
        omega)
      have hll : l.length ≤ 1000000000 := by rw [HE.out]; omega
      have hI := fun w' (hb : Below (plus (((w.alloc (.cells #[.int .i64 low, .slice a xs.length c] 48)).alloc (.cells #[.int .i64 0, .slice none 0 0] 26)).alloc (.cells #[.int .i64 low, .slice ao l.length co] 26)) j d).heap.size (plus (((w.alloc (.cells #[.int .i64 low, .slice a xs.length c] 48)).alloc (.cells #[.int .i64 0, .slice none 0 0] 26)).alloc (.cells #[.int .i64 low, .slice ao l.length co] 26)) j d) w') => impl_Is low _ l w' (hown.reads.kept hb) hll HfI.out
      cases hok : okL low l with
      | false =>
        simp only [hok] at hI
        have HIs := Lib.hid hI
        have HO := Lib.hid (show okL low xs = false by rw [← HE.out]; exact hok)
        clear hI hok
        go_wp2_with (first | (go_at_call 18; refine Calls.mono (HIs.out _ ?_) ?_; (repeat (first | (with_reducible exact Below.refl _ _) | (with_reducible assumption) | (with_reducible refine below_plus' ?_ ?_; ((try simp only [plus_size, World.size_alloc, World.size_drew, World.size_setCell, size_setRow, World.heap_drewN, List.length_append]) <;> omega)) | (with_reducible refine below_alloc' ?_ ?_; ((try simp only [plus_size, World.size_alloc, World.size_drew, World.size_setCell, size_setRow, World.heap_drewN, List.length_append]) <;> omega)) | with_reducible refine Below.drew ?_ | (with_reducible refine below_drewN' ?_ _) | exact Below.refl _ _)); rintro e w' ⟨rfl, hB⟩; obtain ⟨j5, d5, rfl⟩ := plus_of_below hB; rw [plus_plus]; clear hB))
        refine bodyPost_ret (v := .tuple #[.agg #[.int .i64 0, .slice none 0 0], .int .i64 3]) (by simp [results, Try.results34, go_sem]) rfl ?_
        exact ⟨_, by rw [(la_no HO.out).1, (la_no HO.out).2.2], by (repeat (first | (with_reducible exact Below.refl _ _) | (with_reducible assumption) | (with_reducible refine below_plus' ?_ ?_; ((try simp only [plus_size, World.size_alloc, World.size_drew, World.size_setCell, size_setRow, World.heap_drewN, List.length_append]) <;> omega)) | (with_reducible refine below_alloc' ?_ ?_; ((try simp only [plus_size, World.size_alloc, World.size_drew, World.size_setCell, size_setRow, World.heap_drewN, List.length_append]) <;> omega)) | with_reducible refine Below.drew ?_ | (with_reducible refine below_drewN' ?_ _) | exact Below.refl _ _)), by rw [(la_no HO.out).2.1]; exact own_nil _ _ _⟩
      | true =>
        simp only [hok] at hI
        have HIs := Lib.hid hI
        have HO := Lib.hid (show okL low xs = true by rw [← HE.out]; exact hok)
        clear hI hok
        go_wp2_with (first | (go_at_call 18; refine Calls.mono (HIs.out _ ?_) ?_; (repeat (first | (with_reducible exact Below.refl _ _) | (with_reducible assumption) | (with_reducible refine below_plus' ?_ ?_; ((try simp only [plus_size, World.size_alloc, World.size_drew, World.size_setCell, size_setRow, World.heap_drewN, List.length_append]) <;> omega)) | (with_reducible refine below_alloc' ?_ ?_; ((try simp only [plus_size, World.size_alloc, World.size_drew, World.size_setCell, size_setRow, World.heap_drewN, List.length_append]) <;> omega)) | with_reducible refine Below.drew ?_ | (with_reducible refine below_drewN' ?_ _) | exact Below.refl _ _)); rintro e w' ⟨rfl, hB⟩; obtain ⟨j5, d5, rfl⟩ := plus_of_below hB; rw [plus_plus]; clear hB))
        refine bodyPost_ret (v := .tuple #[.agg #[.int .i64 low, .slice ao l.length co], .int .i64 0]) (by simp [results, Try.results34, go_sem]) rfl ?_
        exact ⟨_, by rw [(la_yes HO.out).1, (la_yes HO.out).2.2], by (repeat (first | (with_reducible exact Below.refl _ _) | (with_reducible assumption) | (with_reducible refine below_plus' ?_ ?_; ((try simp only [plus_size, World.size_alloc, World.size_drew, World.size_setCell, size_setRow, World.heap_drewN, List.length_append]) <;> omega)) | (with_reducible refine below_alloc' ?_ ?_; ((try simp only [plus_size, World.size_alloc, World.size_drew, World.size_setCell, size_setRow, World.heap_drewN, List.length_append]) <;> omega)) | with_reducible refine Below.drew ?_ | (with_reducible refine below_drewN' ?_ _) | exact Below.refl _ _)), by rw [(la_yes HO.out).2.1, ← HE.out]; exact own_farL hown (by ((try simp only [plus_size, World.size_alloc, World.size_drew, World.size_setCell, size_setRow, World.heap_drewN, List.length_append]) <;> omega)) (by ((try simp only [plus_size, World.size_alloc, World.size_drew, World.size_setCell, size_setRow, World.heap_drewN, List.length_append]) <;> omega)) (by ((try simp only [plus_size, World.size_alloc, World.size_drew, World.size_setCell, size_setRow, World.heap_drewN, List.length_append]) <;> omega)) (by simp)⟩
end Go.Proofs.Ytcipdgmimmngoaa
