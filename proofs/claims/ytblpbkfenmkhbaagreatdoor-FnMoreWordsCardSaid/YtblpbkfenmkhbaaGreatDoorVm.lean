/- Powers. Conditions: as each theorem says. -/
import Derived.Test.YtblpbkfenmkhbaaGreatDoorVk
import Derived.Test.YtblpbkfenmkhbaaGreatDoorMb
import Derived.Deep.Cut
import Derived.Deep.CutRange
namespace Go.Proofs.YtblpbkfenmkhbaaGreatDoor
open Go.RowKit
set_option linter.unusedSimpArgs false
set_option linter.unusedVariables false
/-- the list, so many times -/
def repL (ys : List Int) : Nat → List Int
  | 0 => []
  | m + 1 => repL ys m ++ ys
theorem repL_length (ys : List Int) : ∀ m : Nat, (repL ys m).length = m * ys.length
  | 0 => by simp [repL]
  | m + 1 => by rw [repL, List.length_append, repL_length ys m, Nat.succ_mul]
theorem repL_le (ys : List Int) {i q : Nat} (h : i ≤ q) (hq : q * ys.length ≤ 200) : (repL ys i).length ≤ 200 := by
  rw [repL_length]; exact Nat.le_trans (Nat.mul_le_mul_right _ h) hq
/-- the power's letters -/
def powB (xs : List Int) (k : Int) : List Int := if k < 0 then xs.reverse.map negL else xs
theorem powB_length (xs : List Int) (k : Int) : (powB xs k).length = xs.length := by unfold powB; split <;> simp
def powL (xs : List Int) (k : Int) : List Int := repL (powB xs k) k.natAbs
def goodK (n : Int) (xs : List Int) (k : Int) : Bool := okW n xs && inB k (-100) 100 && decide (k.natAbs * xs.length ≤ 200)
def codK (n : Int) (xs : List Int) (k : Int) : Int := if okW n xs = true then (if inB k (-100) 100 = true then (if k.natAbs * xs.length ≤ 200 then 0 else 3) else 2) else 1
theorem pk_1 {n k : Int} {xs : List Int} (h : okW n xs = false) : goodK n xs k = false ∧ codK n xs k = 1 := by simp [goodK, codK, h]
theorem pk_2 {n k : Int} {xs : List Int} (h : okW n xs = true) (h2 : inB k (-100) 100 = false) : goodK n xs k = false ∧ codK n xs k = 2 := by simp [goodK, codK, h, h2]
theorem pk_3 {n k : Int} {xs : List Int} (h : okW n xs = true) (h2 : inB k (-100) 100 = true) (h3 : ¬ k.natAbs * xs.length ≤ 200) : goodK n xs k = false ∧ codK n xs k = 3 := by
  simp only [goodK, codK, h, h2, h3]; simp
theorem pk_4 {n k : Int} {xs : List Int} (h : okW n xs = true) (h2 : inB k (-100) 100 = true) (h3 : k.natAbs * xs.length ≤ 200) : goodK n xs k = true ∧ codK n xs k = 0 := by
  simp only [goodK, codK, h, h2, h3]; simp
theorem powL_length (xs : List Int) (k : Int) : (powL xs k).length = k.natAbs * xs.length := by
  rw [powL, repL_length, powB_length]
theorem goodK_le {n k : Int} {xs : List Int} (h : goodK n xs k = true) : (powL xs k).length ≤ 200 := by
  rw [powL_length]
  simp only [goodK, Bool.and_eq_true, decide_eq_true_eq] at h
  exact h.2
theorem boxed_of {w : World} {b : Nat} {c : Array Value} {T : TypeId} {n : Int} {v : Value} (h : w.heap[b]? = some (.cells c T)) (hc : c = #[.int .i64 n, v]) : boxed w b T n v := by
  subst hc; exact h
theorem boxed.free0 {w b T n v} (h : boxed w b T n v) : w.frozen? ⟨b, 0, none⟩ = false := frozen_of_row w b 0 _ T h
theorem boxed.free1 {w b T n v} (h : boxed w b T n v) : w.frozen? ⟨b, 1, none⟩ = false := frozen_of_row w b 1 _ T h
theorem set2_boxed {w : World} {b : Nat} {T : TypeId} {n n' : Int} {v v' : Value} (h : boxed w b T n v) : boxed ((w.setCell ⟨b, 0, none⟩ (.int .i64 n')).setCell ⟨b, 1, none⟩ v') b T n' v' := by
  have h1 := heap_setCell_same w b 0 _ T (.int .i64 n') h
  have h2 := heap_setCell_same _ b 1 _ T v' h1
  exact boxed_of h2 (by simp)
theorem set2_grown (w : World) (b : Nat) (x y : Value) : w.grownBy ((w.setCell ⟨b, 0, none⟩ x).setCell ⟨b, 1, none⟩ y) (some b) := grownBy_trans (grownBy_setCell w b 0 x) (grownBy_setCell _ b 1 y)
theorem reads.apart {w w' : World} {v : Value} {xs : List Int} {row : Option Nat} (h : reads w v xs) (hg : w.grownBy w' row) (hne : 0 < xs.length → ∀ k, v.ownBlock = some k → row ≠ some k) : reads w' v xs := by
  obtain ⟨a, cap, rfl, h⟩ := h
  refine ⟨a, cap, rfl, ?_⟩
  rcases h with h | ⟨b, o, rfl, h⟩
  · exact .inl h
  · refine .inr ⟨b, o, rfl, fun i hi => ?_⟩
    rw [← h i hi]
    exact World.cell?_of_block (hg.block b (World.block_lt_of_cell? w _ (h i hi)) (fun e => hne (by omega) b rfl e.symm))
theorem reads.blk {w : World} {a : Option Addr} {n c : Nat} {xs : List Int} (h : reads w (.slice a n c) xs) (hp : 0 < xs.length) : ∃ b o, a = some ⟨b, o, none⟩ ∧ b < w.heap.size := by
  obtain ⟨a', cap, hv, h⟩ := h
  cases hv
  rcases h with h | ⟨b, o, rfl, h⟩
  · rw [h] at hp; cases hp
  · exact ⟨b, o, rfl, World.block_lt_of_cell? w _ (h 0 hp)⟩
set_option maxHeartbeats 2000000 in
theorem impl_PowerOf (n : Int) (v : Value) (xs : List Int) (k : Int) (w : World) (h : reads w v xs) (hlen : xs.length ≤ 1000000000) (hfit : Fits xs) : Calls Tryz.prog 6 #[.agg #[.int .i64 n, v], .int .i64 k] w (RetB2 2 w (if goodK n xs k = true then n else 0) (if goodK n xs k = true then powL xs k else []) (codK n xs k)) := by
  have hI := fun w' (hb : Below w.heap.size w w') => impl_IsBraid n v xs w' (h.kept hb) hlen hfit
  cases hok : okW n xs with
  | false =>
    obtain ⟨e1, e2⟩ := pk_1 (k := k) hok
    simp only [hok] at hI
    have HI := Lib.hid hI
    simp only [e1, e2, Bool.false_eq_true, if_false]
    clear hI h hfit hok e1 e2
    go_enter Tryz.func6, Tryz.ntmps6
    go_wp2_with (first | (go_at_call 33; refine Calls.mono (HI.out _ ?_) ?_; (repeat (first | (with_reducible exact Below.refl _ _) | (with_reducible assumption) | (with_reducible refine below_plus' ?_ ?_; ((try simp only [plus_size, World.size_alloc, World.size_drew, World.size_setCell, size_setRow, World.heap_drewN, List.length_append]) <;> omega)) | (with_reducible refine below_alloc' ?_ ?_; ((try simp only [plus_size, World.size_alloc, World.size_drew, World.size_setCell, size_setRow, World.heap_drewN, List.length_append]) <;> omega)) | with_reducible refine Below.drew ?_ | (with_reducible refine below_drewN' ?_ _) | exact Below.refl _ _)); rintro e w' ⟨rfl, hB⟩; obtain ⟨j, d, rfl⟩ := plus_of_below hB; clear hB))
    refine bodyPost_ret (v := .tuple #[.agg #[.int .i64 0, .slice none 0 0], .int .i64 1]) (by simp [results, Tryz.results6, go_sem]) rfl ?_
    exact ⟨_, rfl, by (repeat (first | (with_reducible exact Below.refl _ _) | (with_reducible assumption) | (with_reducible refine below_plus' ?_ ?_; ((try simp only [plus_size, World.size_alloc, World.size_drew, World.size_setCell, size_setRow, World.heap_drewN, List.length_append]) <;> omega)) | (with_reducible refine below_alloc' ?_ ?_; ((try simp only [plus_size, World.size_alloc, World.size_drew, World.size_setCell, size_setRow, World.heap_drewN, List.length_append]) <;> omega)) | with_reducible refine Below.drew ?_ | (with_reducible refine below_drewN' ?_ _) | exact Below.refl _ _)), own_nil _ _ _⟩
  | true =>
    have hI0 := hI
    simp only [hok] at hI
    have HI := Lib.hid hI
    have h200 := okW_len hok
    clear hI hI0
    obtain ⟨a, c, rfl, hs⟩ := id h
    clear hs
    cases hin : inB k (-100) 100 with
    | false =>
      obtain ⟨e1, e2⟩ := pk_2 hok hin
      simp only [e1, e2, Bool.false_eq_true, if_false]
      clear h hfit hok e1 e2
      go_enter Tryz.func6, Tryz.ntmps6
      go_wp2_with (first | (go_at_call 33; refine Calls.mono (HI.out _ ?_) ?_; (repeat (first | (with_reducible exact Below.refl _ _) | (with_reducible assumption) | (with_reducible refine below_plus' ?_ ?_; ((try simp only [plus_size, World.size_alloc, World.size_drew, World.size_setCell, size_setRow, World.heap_drewN, List.length_append]) <;> omega)) | (with_reducible refine below_alloc' ?_ ?_; ((try simp only [plus_size, World.size_alloc, World.size_drew, World.size_setCell, size_setRow, World.heap_drewN, List.length_append]) <;> omega)) | with_reducible refine Below.drew ?_ | (with_reducible refine below_drewN' ?_ _) | exact Below.refl _ _)); rintro e w' ⟨rfl, hB⟩; obtain ⟨j, d, rfl⟩ := plus_of_below hB; clear hB) | (go_at_call 34; refine Calls.mono (within_any _ _ _ _) ?_; rw [hin]; rintro e w' ⟨rfl, rfl⟩))
      refine bodyPost_ret (v := .tuple #[.agg #[.int .i64 0, .slice none 0 0], .int .i64 2]) (by simp [results, Tryz.results6, go_sem]) rfl ?_
      exact ⟨_, rfl, by (repeat (first | (with_reducible exact Below.refl _ _) | (with_reducible assumption) | (with_reducible refine below_plus' ?_ ?_; ((try simp only [plus_size, World.size_alloc, World.size_drew, World.size_setCell, size_setRow, World.heap_drewN, List.length_append]) <;> omega)) | (with_reducible refine below_alloc' ?_ ?_; ((try simp only [plus_size, World.size_alloc, World.size_drew, World.size_setCell, size_setRow, World.heap_drewN, List.length_append]) <;> omega)) | with_reducible refine Below.drew ?_ | (with_reducible refine below_drewN' ?_ _) | exact Below.refl _ _)), own_nil _ _ _⟩
    | true =>
      have hk0 : -1000 ≤ k := by have := (inB_true hin).1; omega
      have hk1 : k ≤ 1000 := by have := (inB_true hin).2; omega
      have hq1 : (k.natAbs : Int) ≤ 100 := by have := inB_true hin; omega
      have hmul : k.natAbs * xs.length ≤ 20000 := by
        have h1 : k.natAbs ≤ 100 := by omega
        exact Nat.le_trans (Nat.mul_le_mul h1 h200) (by decide)
      by_cases hl : k.natAbs * xs.length ≤ 200
      · obtain ⟨e1, e2⟩ := pk_4 hok hin hl
        have hcmp : ¬ (200 : Int) < (k.natAbs : Int) * (xs.length : Int) := by rw [← Int.natCast_mul]; omega
        have hcm2 : IntKind.i64.wrap ((k.natAbs : Int) * (xs.length : Int)) = (k.natAbs : Int) * (xs.length : Int) := by rw [IntKind.wrap_i64, ← Int.natCast_mul]; omega
        simp only [e1, e2, if_true]
        clear e1 e2
        have HV := Lib.hid (fun w' (hb : Below w.heap.size w w') => impl_InverseOf n _ xs w' (h.kept hb) hlen hfit)
        simp only [hok, if_true] at HV
        go_enter Tryz.func6, Tryz.ntmps6
        go_wp2_with (first | (go_at_call 33; refine Calls.mono (HI.out _ ?_) ?_; (repeat (first | (with_reducible exact Below.refl _ _) | (with_reducible assumption) | (with_reducible refine below_plus' ?_ ?_; ((try simp only [plus_size, World.size_alloc, World.size_drew, World.size_setCell, size_setRow, World.heap_drewN, List.length_append]) <;> omega)) | (with_reducible refine below_alloc' ?_ ?_; ((try simp only [plus_size, World.size_alloc, World.size_drew, World.size_setCell, size_setRow, World.heap_drewN, List.length_append]) <;> omega)) | with_reducible refine Below.drew ?_ | (with_reducible refine below_drewN' ?_ _) | exact Below.refl _ _)); rintro e w' ⟨rfl, hB⟩; obtain ⟨j, d, rfl⟩ := plus_of_below hB; clear hB) | (go_at_call 34; refine Calls.mono (within_any _ _ _ _) ?_; rw [hin]; rintro e w' ⟨rfl, rfl⟩))
        go_quiet ((go_at_call 35; refine Calls.mono (size_any _ _ hk0 hk1) ?_; rintro e w' ⟨rfl, rfl⟩; exact ⟨rfl, _, rfl⟩))
        go_upto_region 7 with (fail)
        go_cut [6, 7] from 9 to 30 (fun s6 s7 wr => ∃ b6 b7 : Nat, b6 ≠ b7 ∧ s6 = .pointer (some ⟨b6, 0, none⟩) ∧ s7 = .pointer (some ⟨b7, 0, none⟩) ∧ boxed wr b6 26 n (.slice a xs.length c) ∧ boxed wr b7 26 n (.slice none 0 0) ∧ boxed wr w.heap.size 26 n (.slice a xs.length c) ∧ boxed wr (w.heap.size + 1) 26 0 (.slice none 0 0) ∧ w.heap.size + 1 < b6 ∧ w.heap.size + 1 < b7 ∧ Below w.heap.size w wr)
        case first =>
          go_region
          all_goals
            go_wp2
            go_meet
            case rel =>
              refine ⟨_, _, ?_, rfl, rfl, (by unfold boxed; (repeat (first | (refine heap_at _ _ _ ?_; ((try simp only [plus_size, World.size_alloc, World.size_drew, World.size_setCell, size_setRow, World.heap_drewN, List.length_append]) <;> omega)) | (refine heap_past' ?_ ?_; ((try simp only [plus_size, World.size_alloc, World.size_drew, World.size_setCell, size_setRow, World.heap_drewN, List.length_append]) <;> omega)) | (refine heap_plus' ?_ ?_; ((try simp only [plus_size, World.size_alloc, World.size_drew, World.size_setCell, size_setRow, World.heap_drewN, List.length_append]) <;> omega)) | assumption))), (by unfold boxed; (repeat (first | (refine heap_at _ _ _ ?_; ((try simp only [plus_size, World.size_alloc, World.size_drew, World.size_setCell, size_setRow, World.heap_drewN, List.length_append]) <;> omega)) | (refine heap_past' ?_ ?_; ((try simp only [plus_size, World.size_alloc, World.size_drew, World.size_setCell, size_setRow, World.heap_drewN, List.length_append]) <;> omega)) | (refine heap_plus' ?_ ?_; ((try simp only [plus_size, World.size_alloc, World.size_drew, World.size_setCell, size_setRow, World.heap_drewN, List.length_append]) <;> omega)) | assumption))), (by unfold boxed; (repeat (first | (refine heap_at _ _ _ ?_; ((try simp only [plus_size, World.size_alloc, World.size_drew, World.size_setCell, size_setRow, World.heap_drewN, List.length_append]) <;> omega)) | (refine heap_past' ?_ ?_; ((try simp only [plus_size, World.size_alloc, World.size_drew, World.size_setCell, size_setRow, World.heap_drewN, List.length_append]) <;> omega)) | (refine heap_plus' ?_ ?_; ((try simp only [plus_size, World.size_alloc, World.size_drew, World.size_setCell, size_setRow, World.heap_drewN, List.length_append]) <;> omega)) | assumption))), (by unfold boxed; (repeat (first | (refine heap_at _ _ _ ?_; ((try simp only [plus_size, World.size_alloc, World.size_drew, World.size_setCell, size_setRow, World.heap_drewN, List.length_append]) <;> omega)) | (refine heap_past' ?_ ?_; ((try simp only [plus_size, World.size_alloc, World.size_drew, World.size_setCell, size_setRow, World.heap_drewN, List.length_append]) <;> omega)) | (refine heap_plus' ?_ ?_; ((try simp only [plus_size, World.size_alloc, World.size_drew, World.size_setCell, size_setRow, World.heap_drewN, List.length_append]) <;> omega)) | assumption))), by ((try simp only [plus_size, World.size_alloc, World.size_drew, World.size_setCell, size_setRow, World.heap_drewN, List.length_append]) <;> omega), by ((try simp only [plus_size, World.size_alloc, World.size_drew, World.size_setCell, size_setRow, World.heap_drewN, List.length_append]) <;> omega), by (repeat (first | (with_reducible exact Below.refl _ _) | (with_reducible assumption) | (with_reducible refine below_plus' ?_ ?_; ((try simp only [plus_size, World.size_alloc, World.size_drew, World.size_setCell, size_setRow, World.heap_drewN, List.length_append]) <;> omega)) | (with_reducible refine below_alloc' ?_ ?_; ((try simp only [plus_size, World.size_alloc, World.size_drew, World.size_setCell, size_setRow, World.heap_drewN, List.length_append]) <;> omega)) | with_reducible refine Below.drew ?_ | (with_reducible refine below_drewN' ?_ _) | exact Below.refl _ _))⟩
              omega
        case rest =>
          obtain ⟨b6, b7, h67, rfl, rfl, hb6, hb7, hb0, hbr, hw6, hw7, hbel⟩ := hcut
          obtain ⟨ys, hys⟩ : ∃ ys, powB xs k = ys := ⟨_, rfl⟩
          have hyl : ys.length = xs.length := by rw [← hys]; exact powB_length xs k
          have HPL := Lib.hid (show repL ys k.natAbs = powL xs k by rw [powL, hys])
          have hq2 : k.natAbs * ys.length ≤ 200 := by rw [hyl]; exact hl
          obtain ⟨q, hq⟩ : ∃ q, k.natAbs = q := ⟨_, rfl⟩
          by_cases hneg : k < 0
          · rw [show xs.reverse.map negL = ys by rw [← hys, powB, if_pos hneg]] at HV
            have f0 := hb6.c0; have f1 := hb6.c1; have fl := hb6.lt; have ff := hb6.free0; have fg := hb6.free1
            have z0 := hb0.c0; have z1 := hb0.c1; have zl := hb0.lt; have zf := hb0.free0; have zg := hb0.free1
            go_wp2_with (first | (go_at_call 36; refine Calls.mono (HV.out _ ?_) ?_; (repeat (first | (with_reducible exact Below.refl _ _) | (with_reducible assumption) | (with_reducible refine below_plus' ?_ ?_; ((try simp only [plus_size, World.size_alloc, World.size_drew, World.size_setCell, size_setRow, World.heap_drewN, List.length_append]) <;> omega)) | (with_reducible refine below_alloc' ?_ ?_; ((try simp only [plus_size, World.size_alloc, World.size_drew, World.size_setCell, size_setRow, World.heap_drewN, List.length_append]) <;> omega)) | with_reducible refine Below.drew ?_ | (with_reducible refine below_drewN' ?_ _) | exact Below.refl _ _)); rintro e w' ⟨vi, rfl, hB, hi⟩; obtain ⟨ai, ci, rfl, hs⟩ := id hi.reads; clear hs; replace hb6 := hb6.kept hB; replace hb7 := hb7.kept hB; replace hb0 := hb0.kept hB; replace hbr := hbr.kept hB; replace hbel := hbel.trans (hB.mono hbel.size); clear f0 f1 fl ff fg z0 z1 zl zf zg; have f0 := hb6.c0; have f1 := hb6.c1; have fl := hb6.lt; have ff := hb6.free0; have fg := hb6.free1) | (go_at_call 35; refine Calls.mono (size_any _ _ hk0 hk1) ?_; rintro e w' ⟨rfl, rfl⟩))
            rw [hyl] at hi
            have hgS := set2_grown w' b6 (.int .i64 n) (.slice ai xs.length ci)
            have hb6' := set2_boxed (n' := n) (v' := .slice ai xs.length ci) hb6
            have hne6 := own_ne hi hb6 (by decide)
            have hne7 := own_ne hi hb7 (by decide)
            have hvf := (hi.apart hgS (fun q h1 h2 => hne6 (by rw [h1, ← h2]))).reads
            have hb7' := hb7.grown hgS (by simp; omega)
            have hbr' := hbr.grown hgS (by simp; omega)
            have hbel' := hbel.trans (below_of_grown (B := w.heap.size) hgS hbel.size (fun q h => by cases h; omega))
            have HVF := Lib.hid (fun q (h : (Value.slice ai xs.length ci).ownBlock = some q) => show some b7 ≠ some q from fun e => hne7 (by rw [h, ← e]))
            rw [hq] at HPL hq2
            go_loopw [40] (fun sl wr => ∃ (ao : Option Addr) (co : Nat) (l : List Int) (i : Nat), i ≤ q ∧ sl = .int .i64 i ∧ Hid (l = repL ys i) ∧ boxed wr b6 26 n (.slice ai xs.length ci) ∧ boxed wr b7 26 n (.slice ao l.length co) ∧ boxed wr (w.heap.size + 1) 26 0 (.slice none 0 0) ∧ reads wr (.slice ai xs.length ci) ys ∧ own 2 wr w.heap.size (.slice ao l.length co) l ∧ Below w.heap.size w wr) (fun sl _ => q - (intOf sl).toNat)
            case atStart => exact ⟨none, 0, [], 0, by omega, rfl, Lib.hid rfl, hb6', hb7', hbr', hvf, own_nil _ _ _, hbel'⟩
            case round =>
              clear hb6 hb7 hbr hvf hbel hb6' hb7' hbr' hbel'
              try clear f0 f1 fl ff fg
              try clear z0 z1 zl zf zg
              obtain ⟨ao, co, l, i, hiq, rfl, HLl, hb6, hb7, hbr, hvf, ho, hbel⟩ := hrel
              have f0 := hb6.c0; have f1 := hb6.c1; have fl := hb6.lt; have ff := hb6.free0; have fg := hb6.free1
              have z0 := hb7.c0; have z1 := hb7.c1; have zl := hb7.lt; have zf := hb7.free0; have zg := hb7.free1
              by_cases hlt : i < q
              · obtain ⟨L', hL'⟩ : ∃ L', l ++ ys = L' := ⟨_, rfl⟩
                have hj := fun w h1 h2 hl => joined_any n n (.slice ao l.length co) (.slice ai xs.length ci) l ys w h1 h2 hl
                simp only [hL'] at hj
                have HJ := Lib.hid hj
                have HLn := Lib.hid (show L' = repL ys (i + 1) by rw [← hL', HLl.out]; rfl)
                have hjl : l.length + ys.length ≤ 1000000000 := by
                  have e1 := congrArg List.length HLl.out
                  have := repL_le ys (Nat.le_of_lt hlt) hq2
                  omega
                clear hj
                have hiq2 : (i : Int) < (q : Int) := by omega
                go_wp2_with (first | (go_at_call 37; refine Calls.mono (HJ.out _ ho.reads hvf hjl) ?_; rintro e w' ⟨vn, rfl, hB, hn⟩; obtain ⟨an, cn, rfl, hs⟩ := id hn.reads; clear hs; replace hb6 := hb6.kept hB; replace hb7 := hb7.kept hB; replace hbr := hbr.kept hB; replace hvf := hvf.kept hB; replace hbel := hbel.trans (hB.mono hbel.size); clear z0 z1 zl zf zg; have z0 := hb7.c0; have z1 := hb7.c1; have zl := hb7.lt; have zf := hb7.free0; have zg := hb7.free1))
                have hgS := set2_grown w' b7 (.int .i64 n) (.slice an L'.length cn)
                have hne7 := own_ne hn hb7 (by decide)
                have r1 := hb6.grown hgS (by simp; omega)
                have r2 := set2_boxed (n' := n) (v' := .slice an L'.length cn) hb7
                have r3 := hbr.grown hgS (by simp; omega)
                have r4 := hvf.apart hgS (fun _ => HVF.out)
                have r5 := (hn.mono (B' := w.heap.size) (by have := hbel.size; have := hB.size; omega)).apart hgS (fun q h1 h2 => hne7 (by rw [h1, ← h2]))
                have r6 := hbel.trans (below_of_grown (B := w.heap.size) hgS hbel.size (fun q h => by cases h; omega))
                go_roundw
                case rel => exact ⟨an, cn, L', i + 1, by omega, by go_num, HLn, r1, r2, r3, r4, r5, r6⟩
                case measure => simp [intOf]; omega
              · obtain rfl : i = q := by omega
                have HE := Lib.hid (show l = powL xs k by rw [HLl.out, HPL.out])
                have hiq2 : ¬ (i : Int) < (i : Int) := by omega
                have y0 := hbr.c0; have y1 := hbr.c1; have yl := hbr.lt; have yf := hbr.free0; have yg := hbr.free1
                go_wp2
                have hgS := set2_grown wr (w.heap.size + 1) (.int .i64 n) (.slice ao l.length co)
                have hbrS := set2_boxed (n' := n) (v' := .slice ao l.length co) hbr
                have s0 := hbrS.c0
                have s1 := hbrS.c1
                have hneS := own_ne ho hbr (by decide)
                refine bodyPost_ret (v := .tuple #[.agg #[.int .i64 n, .slice ao l.length co], .int .i64 0]) (by simp [results, Tryz.results6, go_sem, s0, s1]) rfl ?_
                exact ⟨_, rfl, hbel.trans (below_of_grown (B := w.heap.size) hgS hbel.size (fun q h => by cases h; omega)), by rw [← HE.out]; exact ho.apart hgS (fun q h1 h2 => hneS (by rw [h1, ← h2]))⟩
          · have hvf : reads wc (.slice a xs.length c) ys := by rw [← hys, powB, if_neg hneg]; exact h.kept (by (repeat (first | (with_reducible exact Below.refl _ _) | (with_reducible assumption) | (with_reducible refine below_plus' ?_ ?_; ((try simp only [plus_size, World.size_alloc, World.size_drew, World.size_setCell, size_setRow, World.heap_drewN, List.length_append]) <;> omega)) | (with_reducible refine below_alloc' ?_ ?_; ((try simp only [plus_size, World.size_alloc, World.size_drew, World.size_setCell, size_setRow, World.heap_drewN, List.length_append]) <;> omega)) | with_reducible refine Below.drew ?_ | (with_reducible refine below_drewN' ?_ _) | exact Below.refl _ _)))
            have HVF := Lib.hid (fun (hp : 0 < ys.length) q (hh : (Value.slice a xs.length c).ownBlock = some q) => show some b7 ≠ some q from fun e => by
              obtain ⟨b, o, rfl, hlt⟩ := h.blk (by omega)
              simp only [Value.ownBlock, Option.some.injEq] at hh e; omega)
            have f0 := hb6.c0; have f1 := hb6.c1; have fl := hb6.lt; have ff := hb6.free0; have fg := hb6.free1
            have z0 := hb0.c0; have z1 := hb0.c1; have zl := hb0.lt; have zf := hb0.free0; have zg := hb0.free1
            go_wp2_with (first | (go_at_call 35; refine Calls.mono (size_any _ _ hk0 hk1) ?_; rintro e w' ⟨rfl, rfl⟩))
            have hb6' := hb6
            have hb7' := hb7
            have hbr' := hbr
            have hbel' := hbel
            rw [hq] at HPL hq2
            go_loopw [40] (fun sl wr => ∃ (ao : Option Addr) (co : Nat) (l : List Int) (i : Nat), i ≤ q ∧ sl = .int .i64 i ∧ Hid (l = repL ys i) ∧ boxed wr b6 26 n (.slice a xs.length c) ∧ boxed wr b7 26 n (.slice ao l.length co) ∧ boxed wr (w.heap.size + 1) 26 0 (.slice none 0 0) ∧ reads wr (.slice a xs.length c) ys ∧ own 2 wr w.heap.size (.slice ao l.length co) l ∧ Below w.heap.size w wr) (fun sl _ => q - (intOf sl).toNat)
            case atStart => exact ⟨none, 0, [], 0, by omega, rfl, Lib.hid rfl, hb6', hb7', hbr', hvf, own_nil _ _ _, hbel'⟩
            case round =>
              clear hb6 hb7 hbr hvf hbel hb6' hb7' hbr' hbel'
              try clear f0 f1 fl ff fg
              try clear z0 z1 zl zf zg
              obtain ⟨ao, co, l, i, hiq, rfl, HLl, hb6, hb7, hbr, hvf, ho, hbel⟩ := hrel
              have f0 := hb6.c0; have f1 := hb6.c1; have fl := hb6.lt; have ff := hb6.free0; have fg := hb6.free1
              have z0 := hb7.c0; have z1 := hb7.c1; have zl := hb7.lt; have zf := hb7.free0; have zg := hb7.free1
              by_cases hlt : i < q
              · obtain ⟨L', hL'⟩ : ∃ L', l ++ ys = L' := ⟨_, rfl⟩
                have hj := fun w h1 h2 hl => joined_any n n (.slice ao l.length co) (.slice a xs.length c) l ys w h1 h2 hl
                simp only [hL'] at hj
                have HJ := Lib.hid hj
                have HLn := Lib.hid (show L' = repL ys (i + 1) by rw [← hL', HLl.out]; rfl)
                have hjl : l.length + ys.length ≤ 1000000000 := by
                  have e1 := congrArg List.length HLl.out
                  have := repL_le ys (Nat.le_of_lt hlt) hq2
                  omega
                clear hj
                have hiq2 : (i : Int) < (q : Int) := by omega
                go_wp2_with (first | (go_at_call 37; refine Calls.mono (HJ.out _ ho.reads hvf hjl) ?_; rintro e w' ⟨vn, rfl, hB, hn⟩; obtain ⟨an, cn, rfl, hs⟩ := id hn.reads; clear hs; replace hb6 := hb6.kept hB; replace hb7 := hb7.kept hB; replace hbr := hbr.kept hB; replace hvf := hvf.kept hB; replace hbel := hbel.trans (hB.mono hbel.size); clear z0 z1 zl zf zg; have z0 := hb7.c0; have z1 := hb7.c1; have zl := hb7.lt; have zf := hb7.free0; have zg := hb7.free1))
                have hgS := set2_grown w' b7 (.int .i64 n) (.slice an L'.length cn)
                have hne7 := own_ne hn hb7 (by decide)
                have r1 := hb6.grown hgS (by simp; omega)
                have r2 := set2_boxed (n' := n) (v' := .slice an L'.length cn) hb7
                have r3 := hbr.grown hgS (by simp; omega)
                have r4 := hvf.apart hgS (fun hp => HVF.out hp)
                have r5 := (hn.mono (B' := w.heap.size) (by have := hbel.size; have := hB.size; omega)).apart hgS (fun q h1 h2 => hne7 (by rw [h1, ← h2]))
                have r6 := hbel.trans (below_of_grown (B := w.heap.size) hgS hbel.size (fun q h => by cases h; omega))
                go_roundw
                case rel => exact ⟨an, cn, L', i + 1, by omega, by go_num, HLn, r1, r2, r3, r4, r5, r6⟩
                case measure => simp [intOf]; omega
              · obtain rfl : i = q := by omega
                have HE := Lib.hid (show l = powL xs k by rw [HLl.out, HPL.out])
                have hiq2 : ¬ (i : Int) < (i : Int) := by omega
                have y0 := hbr.c0; have y1 := hbr.c1; have yl := hbr.lt; have yf := hbr.free0; have yg := hbr.free1
                go_wp2
                have hgS := set2_grown wr (w.heap.size + 1) (.int .i64 n) (.slice ao l.length co)
                have hbrS := set2_boxed (n' := n) (v' := .slice ao l.length co) hbr
                have s0 := hbrS.c0
                have s1 := hbrS.c1
                have hneS := own_ne ho hbr (by decide)
                refine bodyPost_ret (v := .tuple #[.agg #[.int .i64 n, .slice ao l.length co], .int .i64 0]) (by simp [results, Tryz.results6, go_sem, s0, s1]) rfl ?_
                exact ⟨_, rfl, hbel.trans (below_of_grown (B := w.heap.size) hgS hbel.size (fun q h => by cases h; omega)), by rw [← HE.out]; exact ho.apart hgS (fun q h1 h2 => hneS (by rw [h1, ← h2]))⟩
      · obtain ⟨e1, e2⟩ := pk_3 hok hin hl
        have hcmp : (200 : Int) < (k.natAbs : Int) * (xs.length : Int) := by rw [← Int.natCast_mul]; omega
        have hcm2 : IntKind.i64.wrap ((k.natAbs : Int) * (xs.length : Int)) = (k.natAbs : Int) * (xs.length : Int) := by rw [IntKind.wrap_i64, ← Int.natCast_mul]; omega
        simp only [e1, e2, Bool.false_eq_true, if_false]
        clear h hfit hok e1 e2
        go_enter Tryz.func6, Tryz.ntmps6
        go_wp2_with (first | (go_at_call 33; refine Calls.mono (HI.out _ ?_) ?_; (repeat (first | (with_reducible exact Below.refl _ _) | (with_reducible assumption) | (with_reducible refine below_plus' ?_ ?_; ((try simp only [plus_size, World.size_alloc, World.size_drew, World.size_setCell, size_setRow, World.heap_drewN, List.length_append]) <;> omega)) | (with_reducible refine below_alloc' ?_ ?_; ((try simp only [plus_size, World.size_alloc, World.size_drew, World.size_setCell, size_setRow, World.heap_drewN, List.length_append]) <;> omega)) | with_reducible refine Below.drew ?_ | (with_reducible refine below_drewN' ?_ _) | exact Below.refl _ _)); rintro e w' ⟨rfl, hB⟩; obtain ⟨j, d, rfl⟩ := plus_of_below hB; clear hB) | (go_at_call 34; refine Calls.mono (within_any _ _ _ _) ?_; rw [hin]; rintro e w' ⟨rfl, rfl⟩))
        go_quiet ((go_at_call 35; refine Calls.mono (size_any _ _ hk0 hk1) ?_; rintro e w' ⟨rfl, rfl⟩; exact ⟨rfl, _, rfl⟩))
        go_wp2
        refine bodyPost_ret (v := .tuple #[.agg #[.int .i64 0, .slice none 0 0], .int .i64 3]) (by simp [results, Tryz.results6, go_sem]) rfl ?_
        exact ⟨_, rfl, by (repeat (first | (with_reducible exact Below.refl _ _) | (with_reducible assumption) | (with_reducible refine below_plus' ?_ ?_; ((try simp only [plus_size, World.size_alloc, World.size_drew, World.size_setCell, size_setRow, World.heap_drewN, List.length_append]) <;> omega)) | (with_reducible refine below_alloc' ?_ ?_; ((try simp only [plus_size, World.size_alloc, World.size_drew, World.size_setCell, size_setRow, World.heap_drewN, List.length_append]) <;> omega)) | with_reducible refine Below.drew ?_ | (with_reducible refine below_drewN' ?_ _) | exact Below.refl _ _)), own_nil _ _ _⟩
end Go.Proofs.YtblpbkfenmkhbaaGreatDoor
