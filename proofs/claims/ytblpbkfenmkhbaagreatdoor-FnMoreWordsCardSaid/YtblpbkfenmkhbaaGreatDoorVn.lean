/- Powers, by the reference. Conditions: as each theorem says. -/
import Derived.Test.YtblpbkfenmkhbaaGreatDoorVm
import Derived.Test.YtblpbkfenmkhbaaGreatDoorMa
import Derived.Deep.Cut
import Derived.Deep.CutRange
namespace Go.Proofs.YtblpbkfenmkhbaaGreatDoor
open Go.RowKit
set_option linter.unusedSimpArgs false
set_option linter.unusedVariables false
theorem set1_boxed {w : World} {b : Nat} {T : TypeId} {n : Int} {v v' : Value} (h : boxed w b T n v) : boxed (w.setCell ⟨b, 1, none⟩ v') b T n v' := by
  have h1 := heap_setCell_same w b 1 _ T v' h
  exact boxed_of h1 (by simp)
theorem repL_step {ys l : List Int} {q i : Nat} (hi : 0 < i) (hq : i ≤ q) (h : l = repL ys (q - i)) : l ++ ys = repL ys (q - (i - 1)) := by
  have e : q - (i - 1) = (q - i) + 1 := by omega
  rw [h, e]; rfl
set_option maxHeartbeats 4000000 in
theorem spec_PowerOf (n : Int) (v : Value) (xs : List Int) (k : Int) (w : World) (h : reads w v xs) (hlen : xs.length ≤ 1000000000) (hfit : Fits xs) : Calls Tryz.prog 7 #[.agg #[.int .i64 n, v], .int .i64 k] w (RetB2 2 w (if goodK n xs k = true then n else 0) (if goodK n xs k = true then powL xs k else []) (codK n xs k)) := by
  have hI := fun w' (hb : Below w.heap.size w w') => spec_Is n v xs w' (h.kept hb) hlen hfit
  cases hok : okW n xs with
  | false =>
    obtain ⟨e1, e2⟩ := pk_1 (k := k) hok
    simp only [hok] at hI
    have HI := Lib.hid hI
    simp only [e1, e2, Bool.false_eq_true, if_false]
    clear hI h hfit hok e1 e2
    go_enter Tryz.func7, Tryz.ntmps7
    go_wp2_with (first | (go_at_call 38; refine Calls.mono (HI.out _ ?_) ?_; (repeat (first | (with_reducible exact Below.refl _ _) | (with_reducible assumption) | (with_reducible refine below_plus' ?_ ?_; ((try simp only [plus_size, World.size_alloc, World.size_drew, World.size_setCell, size_setRow, World.heap_drewN, List.length_append]) <;> omega)) | (with_reducible refine below_alloc' ?_ ?_; ((try simp only [plus_size, World.size_alloc, World.size_drew, World.size_setCell, size_setRow, World.heap_drewN, List.length_append]) <;> omega)) | with_reducible refine Below.drew ?_ | (with_reducible refine below_drewN' ?_ _) | exact Below.refl _ _)); rintro e w' ⟨rfl, hB⟩; obtain ⟨j, d, rfl⟩ := plus_of_below hB; clear hB))
    refine bodyPost_ret (v := .tuple #[.agg #[.int .i64 0, .slice none 0 0], .int .i64 1]) (by simp [results, Tryz.results7, go_sem]) rfl ?_
    exact ⟨_, rfl, by (repeat (first | (with_reducible exact Below.refl _ _) | (with_reducible assumption) | (with_reducible refine below_plus' ?_ ?_; ((try simp only [plus_size, World.size_alloc, World.size_drew, World.size_setCell, size_setRow, World.heap_drewN, List.length_append]) <;> omega)) | (with_reducible refine below_alloc' ?_ ?_; ((try simp only [plus_size, World.size_alloc, World.size_drew, World.size_setCell, size_setRow, World.heap_drewN, List.length_append]) <;> omega)) | with_reducible refine Below.drew ?_ | (with_reducible refine below_drewN' ?_ _) | exact Below.refl _ _)), own_nil _ _ _⟩
  | true =>
    simp only [hok] at hI
    have HI := Lib.hid hI
    have h200 := okW_len hok
    have hsm := okW_sm hok
    clear hI
    obtain ⟨a, c, rfl, hs⟩ := id h
    clear hs
    cases hin : inB k (-100) 100 with
    | false =>
      obtain ⟨e1, e2⟩ := pk_2 hok hin
      simp only [e1, e2, Bool.false_eq_true, if_false]
      clear h hfit hok e1 e2
      go_enter Tryz.func7, Tryz.ntmps7
      go_wp2_with (first | (go_at_call 38; refine Calls.mono (HI.out _ ?_) ?_; (repeat (first | (with_reducible exact Below.refl _ _) | (with_reducible assumption) | (with_reducible refine below_plus' ?_ ?_; ((try simp only [plus_size, World.size_alloc, World.size_drew, World.size_setCell, size_setRow, World.heap_drewN, List.length_append]) <;> omega)) | (with_reducible refine below_alloc' ?_ ?_; ((try simp only [plus_size, World.size_alloc, World.size_drew, World.size_setCell, size_setRow, World.heap_drewN, List.length_append]) <;> omega)) | with_reducible refine Below.drew ?_ | (with_reducible refine below_drewN' ?_ _) | exact Below.refl _ _)); rintro e w' ⟨rfl, hB⟩; obtain ⟨j, d, rfl⟩ := plus_of_below hB; clear hB) | (go_at_call 39; refine Calls.mono (l01In_any _ _ _ _) ?_; rw [hin]; rintro e w' ⟨rfl, rfl⟩))
      refine bodyPost_ret (v := .tuple #[.agg #[.int .i64 0, .slice none 0 0], .int .i64 2]) (by simp [results, Tryz.results7, go_sem]) rfl ?_
      exact ⟨_, rfl, by (repeat (first | (with_reducible exact Below.refl _ _) | (with_reducible assumption) | (with_reducible refine below_plus' ?_ ?_; ((try simp only [plus_size, World.size_alloc, World.size_drew, World.size_setCell, size_setRow, World.heap_drewN, List.length_append]) <;> omega)) | (with_reducible refine below_alloc' ?_ ?_; ((try simp only [plus_size, World.size_alloc, World.size_drew, World.size_setCell, size_setRow, World.heap_drewN, List.length_append]) <;> omega)) | with_reducible refine Below.drew ?_ | (with_reducible refine below_drewN' ?_ _) | exact Below.refl _ _)), own_nil _ _ _⟩
    | true =>
      have hk0 : -100 ≤ k := (inB_true hin).1
      have hk1 : k ≤ 100 := (inB_true hin).2
      obtain ⟨q, hq⟩ : ∃ q, k.natAbs = q := ⟨_, rfl⟩
      have hq1 : q ≤ 100 := by omega
      have hmul : q * xs.length ≤ 20000 := Nat.le_trans (Nat.mul_le_mul hq1 h200) (by decide)
      by_cases hneg : k < 0
      · have hkq : -k = (q : Int) := by omega
        have hkk : k < -k := by omega
        have hcm2 : IntKind.i64.wrap ((q : Int) * (xs.length : Int)) = (q : Int) * (xs.length : Int) := by rw [IntKind.wrap_i64, ← Int.natCast_mul]; omega
        by_cases hl : k.natAbs * xs.length ≤ 200
        · obtain ⟨e1, e2⟩ := pk_4 hok hin hl
          rw [hq] at hl
          have hcmp : ¬ (200 : Int) < (q : Int) * (xs.length : Int) := by rw [← Int.natCast_mul]; omega
          have hcm3 : (q : Int) * (xs.length : Int) ≤ 200 := by rw [← Int.natCast_mul]; omega
          simp only [e1, e2, if_true]
          clear e1 e2 hfit
          obtain ⟨ys, hys⟩ : ∃ ys, powB xs k = ys := ⟨_, rfl⟩
          have hyl : ys.length = xs.length := by rw [← hys]; exact powB_length xs k
          have HPL := Lib.hid (show repL ys q = powL xs k by rw [powL, hys, hq])
          have hq2 : q * ys.length ≤ 200 := by rw [hyl]; exact hl
          have HV := Lib.hid (fun w' (hb : Below w.heap.size w w') => l01Inverse_any _ xs w' (h.kept hb) h200 hsm)
          rw [show xs.reverse.map negL = ys by rw [← hys, powB, if_pos hneg]] at HV
          go_enter Tryz.func7, Tryz.ntmps7
          go_wp2_with (first | (go_at_call 38; refine Calls.mono (HI.out _ ?_) ?_; (repeat (first | (with_reducible exact Below.refl _ _) | (with_reducible assumption) | (with_reducible refine below_plus' ?_ ?_; ((try simp only [plus_size, World.size_alloc, World.size_drew, World.size_setCell, size_setRow, World.heap_drewN, List.length_append]) <;> omega)) | (with_reducible refine below_alloc' ?_ ?_; ((try simp only [plus_size, World.size_alloc, World.size_drew, World.size_setCell, size_setRow, World.heap_drewN, List.length_append]) <;> omega)) | with_reducible refine Below.drew ?_ | (with_reducible refine below_drewN' ?_ _) | exact Below.refl _ _)); rintro e w' ⟨rfl, hB⟩; obtain ⟨j, d, rfl⟩ := plus_of_below hB; clear hB) | (go_at_call 39; refine Calls.mono (l01In_any _ _ _ _) ?_; rw [hin]; rintro e w' ⟨rfl, rfl⟩))
          go_upto_region 7 with (fail)
          go_cut [6, 7] from 10 to 34 (fun s6 s7 wr => ∃ b6 : Nat, s6 = .pointer (some ⟨b6, 0, none⟩) ∧ s7 = .slice a xs.length c ∧ boxed wr b6 26 n (.slice none 0 0) ∧ boxed wr w.heap.size 26 n (.slice a xs.length c) ∧ boxed wr (w.heap.size + 1) 26 0 (.slice none 0 0) ∧ w.heap.size + 1 < b6 ∧ Below w.heap.size w wr)
          case first =>
            go_region
            all_goals
              go_wp2
              go_meet
              case rel =>
                exact ⟨_, rfl, rfl, (by unfold boxed; (repeat (first | (refine heap_at _ _ _ ?_; ((try simp only [plus_size, World.size_alloc, World.size_drew, World.size_setCell, size_setRow, World.heap_drewN, List.length_append]) <;> omega)) | (refine heap_past' ?_ ?_; ((try simp only [plus_size, World.size_alloc, World.size_drew, World.size_setCell, size_setRow, World.heap_drewN, List.length_append]) <;> omega)) | (refine heap_plus' ?_ ?_; ((try simp only [plus_size, World.size_alloc, World.size_drew, World.size_setCell, size_setRow, World.heap_drewN, List.length_append]) <;> omega)) | assumption))), (by unfold boxed; (repeat (first | (refine heap_at _ _ _ ?_; ((try simp only [plus_size, World.size_alloc, World.size_drew, World.size_setCell, size_setRow, World.heap_drewN, List.length_append]) <;> omega)) | (refine heap_past' ?_ ?_; ((try simp only [plus_size, World.size_alloc, World.size_drew, World.size_setCell, size_setRow, World.heap_drewN, List.length_append]) <;> omega)) | (refine heap_plus' ?_ ?_; ((try simp only [plus_size, World.size_alloc, World.size_drew, World.size_setCell, size_setRow, World.heap_drewN, List.length_append]) <;> omega)) | assumption))), (by unfold boxed; (repeat (first | (refine heap_at _ _ _ ?_; ((try simp only [plus_size, World.size_alloc, World.size_drew, World.size_setCell, size_setRow, World.heap_drewN, List.length_append]) <;> omega)) | (refine heap_past' ?_ ?_; ((try simp only [plus_size, World.size_alloc, World.size_drew, World.size_setCell, size_setRow, World.heap_drewN, List.length_append]) <;> omega)) | (refine heap_plus' ?_ ?_; ((try simp only [plus_size, World.size_alloc, World.size_drew, World.size_setCell, size_setRow, World.heap_drewN, List.length_append]) <;> omega)) | assumption))), by ((try simp only [plus_size, World.size_alloc, World.size_drew, World.size_setCell, size_setRow, World.heap_drewN, List.length_append]) <;> omega), by (repeat (first | (with_reducible exact Below.refl _ _) | (with_reducible assumption) | (with_reducible refine below_plus' ?_ ?_; ((try simp only [plus_size, World.size_alloc, World.size_drew, World.size_setCell, size_setRow, World.heap_drewN, List.length_append]) <;> omega)) | (with_reducible refine below_alloc' ?_ ?_; ((try simp only [plus_size, World.size_alloc, World.size_drew, World.size_setCell, size_setRow, World.heap_drewN, List.length_append]) <;> omega)) | with_reducible refine Below.drew ?_ | (with_reducible refine below_drewN' ?_ _) | exact Below.refl _ _))⟩
          case rest =>
            obtain ⟨b6, rfl, rfl, hb6, hb0, hbr, hw6, hbel⟩ := hcut
            have z0 := hb0.c0; have z1 := hb0.c1; have zl := hb0.lt; have zf := hb0.free0; have zg := hb0.free1
            go_wp2_with (first | (go_at_call 40; refine Calls.mono (HV.out _ ?_) ?_; (repeat (first | (with_reducible exact Below.refl _ _) | (with_reducible assumption) | (with_reducible refine below_plus' ?_ ?_; ((try simp only [plus_size, World.size_alloc, World.size_drew, World.size_setCell, size_setRow, World.heap_drewN, List.length_append]) <;> omega)) | (with_reducible refine below_alloc' ?_ ?_; ((try simp only [plus_size, World.size_alloc, World.size_drew, World.size_setCell, size_setRow, World.heap_drewN, List.length_append]) <;> omega)) | with_reducible refine Below.drew ?_ | (with_reducible refine below_drewN' ?_ _) | exact Below.refl _ _)); rintro e w' ⟨vi, rfl, hB, hi⟩; obtain ⟨ai, ci, rfl, hs⟩ := id hi.reads; clear hs; replace hb6 := hb6.kept hB; replace hb0 := hb0.kept hB; replace hbr := hbr.kept hB; replace hbel := hbel.trans (hB.mono hbel.size); clear z0 z1 zl zf zg))
            rw [hyl] at hi
            have hvf := hi.reads
            have hne6 := own_ne hi hb6 (by decide)
            have HV6 := Lib.hid (fun (hp : 0 < ys.length) q (h : (Value.slice ai xs.length ci).ownBlock = some q) => show q ≠ b6 from fun e => hne6 (by rw [h, e]))
            have HVF := Lib.hid (fun (hp : 0 < ys.length) q (h : (Value.slice ai xs.length ci).ownBlock = some q) => show q < w'.heap.size from (hi.lt q h).2)
            obtain ⟨BB, hBBE⟩ : ∃ B, B = w'.heap.size := ⟨_, rfl⟩
            rw [← hBBE] at HVF
            have hBB0 : w.heap.size ≤ BB := by rw [hBBE]; exact hbel.size
            go_loopw [8] (fun sl wr => ∃ (ao : Option Addr) (co : Nat) (l : List Int) (i : Nat), i ≤ q ∧ sl = .int .i64 i ∧ Hid (l = repL ys (q - i)) ∧ boxed wr b6 26 n (.slice ao l.length co) ∧ boxed wr (w.heap.size + 1) 26 0 (.slice none 0 0) ∧ reads wr (.slice ai xs.length ci) ys ∧ own 2 wr BB (.slice ao l.length co) l ∧ BB ≤ wr.heap.size ∧ Below w.heap.size w wr) (fun sl _ => (intOf sl).toNat)
            case atStart => exact ⟨none, 0, [], q, Nat.le_refl _, rfl, Lib.hid (by rw [Nat.sub_self]; rfl), hb6, hbr, hvf, own_nil _ _ _, by rw [hBBE]; exact Nat.le_refl _, hbel⟩
            case round =>
              clear hb6 hbr hvf hbel
              try clear f0 f1 fl ff fg
              try clear z0 z1 zl zf zg
              obtain ⟨ao, co, l, i, hiq, rfl, HLl, hb6, hbr, hvf, ho, hBB, hbel⟩ := hrel
              have f0 := hb6.c0; have f1 := hb6.c1; have fl := hb6.lt; have ff := hb6.free0; have fg := hb6.free1
              by_cases hlt : 0 < i
              · obtain ⟨L', hL'⟩ : ∃ L', l ++ ys = L' := ⟨_, rfl⟩
                have HLn := Lib.hid (show L' = repL ys (q - (i - 1)) by rw [← hL']; exact repL_step hlt hiq HLl.out)
                have hjl : l.length + ys.length ≤ 1000000000 := by
                  have e1 := congrArg List.length HLl.out
                  have := repL_le ys (Nat.sub_le q i) hq2
                  omega
                have hiq2 : (0 : Int) < (i : Int) := by omega
                have hi1 : ((i - 1 : Nat) : Int) = (i : Int) - 1 := by omega
                have hne6 := own_ne ho hb6 (by decide)
                have hner := own_ne ho hbr (by decide)
                go_wp2_with (first | (at_builtin; go_loud (refine wpList_appendL rfl _ _ 24 rfl 2 Tryz.underlying24 infoI BB _ _ l ys rfl rfl ho hvf hjl hBB ?_; intro v' w' hown' hgr hB; obtain ⟨an, cn, rfl, hs⟩ := id hown'.reads; clear hs; replace hb6 := hb6.grown hgr hne6; replace hbr := hbr.grown hgr hner; replace hvf := hvf.apart hgr (fun hp q h1 h2 => by have h3 := HVF.out hp q h1; have h4 := (ho.lt q h2).1; omega); clear f0 f1 fl ff fg; have f0 := hb6.c0; have f1 := hb6.c1; have fl := hb6.lt; have ff := hb6.free0; have fg := hb6.free1)))
                rw [hL'] at hown'
                have hgS := grownBy_setCell w' b6 1 (.slice an L'.length cn)
                have hne6' := own_ne hown' hb6 (by decide)
                have r1 := set1_boxed (v' := .slice an L'.length cn) hb6
                have r3 := hbr.grown hgS (by simp; omega)
                have r4 := hvf.apart hgS (fun hp q h1 h2 => HV6.out hp q h1 (by cases h2; rfl))
                have r5 := hown'.apart hgS (fun q h1 h2 => hne6' (by rw [h1, ← h2]))
                have hB2 := hB.size
                have r6 : Below w.heap.size w (w'.setCell ⟨b6, 1, none⟩ (.slice an L'.length cn)) := (hbel.trans (hB.mono hBB0)).trans (below_of_grown (B := w.heap.size) hgS (Nat.le_trans hBB0 (Nat.le_trans hBB hB.size)) (fun q h => by cases h; omega))
                go_roundw
                case rel => exact ⟨an, cn, L', i - 1, by omega, by rw [hi1], HLn, r1, r3, r4, r5, by simp; omega, r6⟩
                case measure => simp [intOf]; omega
              · obtain rfl : i = 0 := by omega
                have HE := Lib.hid (show l = powL xs k by rw [HLl.out, Nat.sub_zero, HPL.out])
                have hiq2 : ¬ (0 : Int) < ((0 : Nat) : Int) := by omega
                have y0 := hbr.c0; have y1 := hbr.c1; have yl := hbr.lt; have yf := hbr.free0; have yg := hbr.free1
                go_wp2
                have hgS := set2_grown wr (w.heap.size + 1) (.int .i64 n) (.slice ao l.length co)
                have hbrS := set2_boxed (n' := n) (v' := .slice ao l.length co) hbr
                have s0 := hbrS.c0
                have s1 := hbrS.c1
                have hneS := own_ne ho hbr (by decide)
                refine bodyPost_ret (v := .tuple #[.agg #[.int .i64 n, .slice ao l.length co], .int .i64 0]) (by simp [results, Tryz.results7, go_sem, s0, s1]) rfl ?_
                exact ⟨_, rfl, hbel.trans (below_of_grown (B := w.heap.size) hgS hbel.size (fun q h => by cases h; omega)), by rw [← HE.out]; exact (ho.mono hBB0).apart hgS (fun q h1 h2 => hneS (by rw [h1, ← h2]))⟩
        · obtain ⟨e1, e2⟩ := pk_3 hok hin hl
          rw [hq] at hl
          have hcmp : (200 : Int) < (q : Int) * (xs.length : Int) := by rw [← Int.natCast_mul]; omega
          simp only [e1, e2, Bool.false_eq_true, if_false]
          clear h hfit hok e1 e2
          go_enter Tryz.func7, Tryz.ntmps7
          go_wp2_with (first | (go_at_call 38; refine Calls.mono (HI.out _ ?_) ?_; (repeat (first | (with_reducible exact Below.refl _ _) | (with_reducible assumption) | (with_reducible refine below_plus' ?_ ?_; ((try simp only [plus_size, World.size_alloc, World.size_drew, World.size_setCell, size_setRow, World.heap_drewN, List.length_append]) <;> omega)) | (with_reducible refine below_alloc' ?_ ?_; ((try simp only [plus_size, World.size_alloc, World.size_drew, World.size_setCell, size_setRow, World.heap_drewN, List.length_append]) <;> omega)) | with_reducible refine Below.drew ?_ | (with_reducible refine below_drewN' ?_ _) | exact Below.refl _ _)); rintro e w' ⟨rfl, hB⟩; obtain ⟨j, d, rfl⟩ := plus_of_below hB; clear hB) | (go_at_call 39; refine Calls.mono (l01In_any _ _ _ _) ?_; rw [hin]; rintro e w' ⟨rfl, rfl⟩))
          refine bodyPost_ret (v := .tuple #[.agg #[.int .i64 0, .slice none 0 0], .int .i64 3]) (by simp [results, Tryz.results7, go_sem]) rfl ?_
          exact ⟨_, rfl, by (repeat (first | (with_reducible exact Below.refl _ _) | (with_reducible assumption) | (with_reducible refine below_plus' ?_ ?_; ((try simp only [plus_size, World.size_alloc, World.size_drew, World.size_setCell, size_setRow, World.heap_drewN, List.length_append]) <;> omega)) | (with_reducible refine below_alloc' ?_ ?_; ((try simp only [plus_size, World.size_alloc, World.size_drew, World.size_setCell, size_setRow, World.heap_drewN, List.length_append]) <;> omega)) | with_reducible refine Below.drew ?_ | (with_reducible refine below_drewN' ?_ _) | exact Below.refl _ _)), own_nil _ _ _⟩
      · obtain rfl : k = (q : Int) := by omega
        have hkk : -(q : Int) ≤ (q : Int) := by omega
        have hcm2 : IntKind.i64.wrap ((q : Int) * (xs.length : Int)) = (q : Int) * (xs.length : Int) := by rw [IntKind.wrap_i64, ← Int.natCast_mul]; omega
        by_cases hl : (q : Int).natAbs * xs.length ≤ 200
        · obtain ⟨e1, e2⟩ := pk_4 hok hin hl
          rw [hq] at hl
          have hcmp : ¬ (200 : Int) < (q : Int) * (xs.length : Int) := by rw [← Int.natCast_mul]; omega
          have hcm3 : (q : Int) * (xs.length : Int) ≤ 200 := by rw [← Int.natCast_mul]; omega
          simp only [e1, e2, if_true]
          clear e1 e2 hfit
          obtain ⟨ys, hys⟩ : ∃ ys, powB xs (q : Int) = ys := ⟨_, rfl⟩
          have hyl : ys.length = xs.length := by rw [← hys]; exact powB_length xs _
          have HPL := Lib.hid (show repL ys q = powL xs (q : Int) by rw [powL, hys, hq])
          have hq2 : q * ys.length ≤ 200 := by rw [hyl]; exact hl
          go_enter Tryz.func7, Tryz.ntmps7
          go_wp2_with (first | (go_at_call 38; refine Calls.mono (HI.out _ ?_) ?_; (repeat (first | (with_reducible exact Below.refl _ _) | (with_reducible assumption) | (with_reducible refine below_plus' ?_ ?_; ((try simp only [plus_size, World.size_alloc, World.size_drew, World.size_setCell, size_setRow, World.heap_drewN, List.length_append]) <;> omega)) | (with_reducible refine below_alloc' ?_ ?_; ((try simp only [plus_size, World.size_alloc, World.size_drew, World.size_setCell, size_setRow, World.heap_drewN, List.length_append]) <;> omega)) | with_reducible refine Below.drew ?_ | (with_reducible refine below_drewN' ?_ _) | exact Below.refl _ _)); rintro e w' ⟨rfl, hB⟩; obtain ⟨j, d, rfl⟩ := plus_of_below hB; clear hB) | (go_at_call 39; refine Calls.mono (l01In_any _ _ _ _) ?_; rw [hin]; rintro e w' ⟨rfl, rfl⟩))
          go_upto_region 7 with (fail)
          go_cut [6, 7] from 10 to 34 (fun s6 s7 wr => ∃ b6 : Nat, s6 = .pointer (some ⟨b6, 0, none⟩) ∧ s7 = .slice a xs.length c ∧ boxed wr b6 26 n (.slice none 0 0) ∧ boxed wr w.heap.size 26 n (.slice a xs.length c) ∧ boxed wr (w.heap.size + 1) 26 0 (.slice none 0 0) ∧ w.heap.size + 1 < b6 ∧ Below w.heap.size w wr)
          case first =>
            go_region
            all_goals
              go_wp2
              go_meet
              case rel =>
                exact ⟨_, rfl, rfl, (by unfold boxed; (repeat (first | (refine heap_at _ _ _ ?_; ((try simp only [plus_size, World.size_alloc, World.size_drew, World.size_setCell, size_setRow, World.heap_drewN, List.length_append]) <;> omega)) | (refine heap_past' ?_ ?_; ((try simp only [plus_size, World.size_alloc, World.size_drew, World.size_setCell, size_setRow, World.heap_drewN, List.length_append]) <;> omega)) | (refine heap_plus' ?_ ?_; ((try simp only [plus_size, World.size_alloc, World.size_drew, World.size_setCell, size_setRow, World.heap_drewN, List.length_append]) <;> omega)) | assumption))), (by unfold boxed; (repeat (first | (refine heap_at _ _ _ ?_; ((try simp only [plus_size, World.size_alloc, World.size_drew, World.size_setCell, size_setRow, World.heap_drewN, List.length_append]) <;> omega)) | (refine heap_past' ?_ ?_; ((try simp only [plus_size, World.size_alloc, World.size_drew, World.size_setCell, size_setRow, World.heap_drewN, List.length_append]) <;> omega)) | (refine heap_plus' ?_ ?_; ((try simp only [plus_size, World.size_alloc, World.size_drew, World.size_setCell, size_setRow, World.heap_drewN, List.length_append]) <;> omega)) | assumption))), (by unfold boxed; (repeat (first | (refine heap_at _ _ _ ?_; ((try simp only [plus_size, World.size_alloc, World.size_drew, World.size_setCell, size_setRow, World.heap_drewN, List.length_append]) <;> omega)) | (refine heap_past' ?_ ?_; ((try simp only [plus_size, World.size_alloc, World.size_drew, World.size_setCell, size_setRow, World.heap_drewN, List.length_append]) <;> omega)) | (refine heap_plus' ?_ ?_; ((try simp only [plus_size, World.size_alloc, World.size_drew, World.size_setCell, size_setRow, World.heap_drewN, List.length_append]) <;> omega)) | assumption))), by ((try simp only [plus_size, World.size_alloc, World.size_drew, World.size_setCell, size_setRow, World.heap_drewN, List.length_append]) <;> omega), by (repeat (first | (with_reducible exact Below.refl _ _) | (with_reducible assumption) | (with_reducible refine below_plus' ?_ ?_; ((try simp only [plus_size, World.size_alloc, World.size_drew, World.size_setCell, size_setRow, World.heap_drewN, List.length_append]) <;> omega)) | (with_reducible refine below_alloc' ?_ ?_; ((try simp only [plus_size, World.size_alloc, World.size_drew, World.size_setCell, size_setRow, World.heap_drewN, List.length_append]) <;> omega)) | with_reducible refine Below.drew ?_ | (with_reducible refine below_drewN' ?_ _) | exact Below.refl _ _))⟩
          case rest =>
            obtain ⟨b6, rfl, rfl, hb6, hb0, hbr, hw6, hbel⟩ := hcut
            have hvf : reads wc (.slice a xs.length c) ys := by rw [← hys, powB, if_neg (show ¬ (q : Int) < 0 by omega)]; exact h.kept (by (repeat (first | (with_reducible exact Below.refl _ _) | (with_reducible assumption) | (with_reducible refine below_plus' ?_ ?_; ((try simp only [plus_size, World.size_alloc, World.size_drew, World.size_setCell, size_setRow, World.heap_drewN, List.length_append]) <;> omega)) | (with_reducible refine below_alloc' ?_ ?_; ((try simp only [plus_size, World.size_alloc, World.size_drew, World.size_setCell, size_setRow, World.heap_drewN, List.length_append]) <;> omega)) | with_reducible refine Below.drew ?_ | (with_reducible refine below_drewN' ?_ _) | exact Below.refl _ _)))
            have hq9 : ∀ q, 0 < ys.length → (Value.slice a xs.length c).ownBlock = some q → q < w.heap.size := fun q hp hh => by
              obtain ⟨b, o, rfl, hlt⟩ := h.blk (by omega)
              simp only [Value.ownBlock, Option.some.injEq] at hh; omega
            have HV6 := Lib.hid (fun (hp : 0 < ys.length) q (hh : (Value.slice a xs.length c).ownBlock = some q) => show q ≠ b6 from fun e => by have := hq9 q hp hh; omega)
            have HVF := Lib.hid (fun (hp : 0 < ys.length) q (hh : (Value.slice a xs.length c).ownBlock = some q) => show q < wc.heap.size from Nat.lt_of_lt_of_le (hq9 q hp hh) hbel.size)
            clear hq9
            have z0 := hb0.c0; have z1 := hb0.c1; have zl := hb0.lt; have zf := hb0.free0; have zg := hb0.free1
            go_wp2
            obtain ⟨BB, hBBE⟩ : ∃ B, B = wc.heap.size := ⟨_, rfl⟩
            rw [← hBBE] at HVF
            have hBB0 : w.heap.size ≤ BB := by rw [hBBE]; exact hbel.size
            go_loopw [8] (fun sl wr => ∃ (ao : Option Addr) (co : Nat) (l : List Int) (i : Nat), i ≤ q ∧ sl = .int .i64 i ∧ Hid (l = repL ys (q - i)) ∧ boxed wr b6 26 n (.slice ao l.length co) ∧ boxed wr (w.heap.size + 1) 26 0 (.slice none 0 0) ∧ reads wr (.slice a xs.length c) ys ∧ own 2 wr BB (.slice ao l.length co) l ∧ BB ≤ wr.heap.size ∧ Below w.heap.size w wr) (fun sl _ => (intOf sl).toNat)
            case atStart => exact ⟨none, 0, [], q, Nat.le_refl _, rfl, Lib.hid (by rw [Nat.sub_self]; rfl), hb6, hbr, hvf, own_nil _ _ _, by rw [hBBE]; exact Nat.le_refl _, hbel⟩
            case round =>
              clear hb6 hbr hvf hbel
              try clear f0 f1 fl ff fg
              try clear z0 z1 zl zf zg
              obtain ⟨ao, co, l, i, hiq, rfl, HLl, hb6, hbr, hvf, ho, hBB, hbel⟩ := hrel
              have f0 := hb6.c0; have f1 := hb6.c1; have fl := hb6.lt; have ff := hb6.free0; have fg := hb6.free1
              by_cases hlt : 0 < i
              · obtain ⟨L', hL'⟩ : ∃ L', l ++ ys = L' := ⟨_, rfl⟩
                have HLn := Lib.hid (show L' = repL ys (q - (i - 1)) by rw [← hL']; exact repL_step hlt hiq HLl.out)
                have hjl : l.length + ys.length ≤ 1000000000 := by
                  have e1 := congrArg List.length HLl.out
                  have := repL_le ys (Nat.sub_le q i) hq2
                  omega
                have hiq2 : (0 : Int) < (i : Int) := by omega
                have hi1 : ((i - 1 : Nat) : Int) = (i : Int) - 1 := by omega
                have hne6 := own_ne ho hb6 (by decide)
                have hner := own_ne ho hbr (by decide)
                go_wp2_with (first | (at_builtin; go_loud (refine wpList_appendL rfl _ _ 24 rfl 2 Tryz.underlying24 infoI BB _ _ l ys rfl rfl ho hvf hjl hBB ?_; intro v' w' hown' hgr hB; obtain ⟨an, cn, rfl, hs⟩ := id hown'.reads; clear hs; replace hb6 := hb6.grown hgr hne6; replace hbr := hbr.grown hgr hner; replace hvf := hvf.apart hgr (fun hp q h1 h2 => by have h3 := HVF.out hp q h1; have h4 := (ho.lt q h2).1; omega); clear f0 f1 fl ff fg; have f0 := hb6.c0; have f1 := hb6.c1; have fl := hb6.lt; have ff := hb6.free0; have fg := hb6.free1)))
                rw [hL'] at hown'
                have hgS := grownBy_setCell w' b6 1 (.slice an L'.length cn)
                have hne6' := own_ne hown' hb6 (by decide)
                have r1 := set1_boxed (v' := .slice an L'.length cn) hb6
                have r3 := hbr.grown hgS (by simp; omega)
                have r4 := hvf.apart hgS (fun hp q h1 h2 => HV6.out hp q h1 (by cases h2; rfl))
                have r5 := hown'.apart hgS (fun q h1 h2 => hne6' (by rw [h1, ← h2]))
                have hB2 := hB.size
                have r6 : Below w.heap.size w (w'.setCell ⟨b6, 1, none⟩ (.slice an L'.length cn)) := (hbel.trans (hB.mono hBB0)).trans (below_of_grown (B := w.heap.size) hgS (Nat.le_trans hBB0 (Nat.le_trans hBB hB.size)) (fun q h => by cases h; omega))
                go_roundw
                case rel => exact ⟨an, cn, L', i - 1, by omega, by rw [hi1], HLn, r1, r3, r4, r5, by simp; omega, r6⟩
                case measure => simp [intOf]; omega
              · obtain rfl : i = 0 := by omega
                have HE := Lib.hid (show l = powL xs (q : Int) by rw [HLl.out, Nat.sub_zero, HPL.out])
                have hiq2 : ¬ (0 : Int) < ((0 : Nat) : Int) := by omega
                have y0 := hbr.c0; have y1 := hbr.c1; have yl := hbr.lt; have yf := hbr.free0; have yg := hbr.free1
                go_wp2
                have hgS := set2_grown wr (w.heap.size + 1) (.int .i64 n) (.slice ao l.length co)
                have hbrS := set2_boxed (n' := n) (v' := .slice ao l.length co) hbr
                have s0 := hbrS.c0
                have s1 := hbrS.c1
                have hneS := own_ne ho hbr (by decide)
                refine bodyPost_ret (v := .tuple #[.agg #[.int .i64 n, .slice ao l.length co], .int .i64 0]) (by simp [results, Tryz.results7, go_sem, s0, s1]) rfl ?_
                exact ⟨_, rfl, hbel.trans (below_of_grown (B := w.heap.size) hgS hbel.size (fun q h => by cases h; omega)), by rw [← HE.out]; exact (ho.mono hBB0).apart hgS (fun q h1 h2 => hneS (by rw [h1, ← h2]))⟩
        · obtain ⟨e1, e2⟩ := pk_3 hok hin hl
          rw [hq] at hl
          have hcmp : (200 : Int) < (q : Int) * (xs.length : Int) := by rw [← Int.natCast_mul]; omega
          simp only [e1, e2, Bool.false_eq_true, if_false]
          clear h hfit hok e1 e2
          go_enter Tryz.func7, Tryz.ntmps7
          go_wp2_with (first | (go_at_call 38; refine Calls.mono (HI.out _ ?_) ?_; (repeat (first | (with_reducible exact Below.refl _ _) | (with_reducible assumption) | (with_reducible refine below_plus' ?_ ?_; ((try simp only [plus_size, World.size_alloc, World.size_drew, World.size_setCell, size_setRow, World.heap_drewN, List.length_append]) <;> omega)) | (with_reducible refine below_alloc' ?_ ?_; ((try simp only [plus_size, World.size_alloc, World.size_drew, World.size_setCell, size_setRow, World.heap_drewN, List.length_append]) <;> omega)) | with_reducible refine Below.drew ?_ | (with_reducible refine below_drewN' ?_ _) | exact Below.refl _ _)); rintro e w' ⟨rfl, hB⟩; obtain ⟨j, d, rfl⟩ := plus_of_below hB; clear hB) | (go_at_call 39; refine Calls.mono (l01In_any _ _ _ _) ?_; rw [hin]; rintro e w' ⟨rfl, rfl⟩))
          refine bodyPost_ret (v := .tuple #[.agg #[.int .i64 0, .slice none 0 0], .int .i64 3]) (by simp [results, Tryz.results7, go_sem]) rfl ?_
          exact ⟨_, rfl, by (repeat (first | (with_reducible exact Below.refl _ _) | (with_reducible assumption) | (with_reducible refine below_plus' ?_ ?_; ((try simp only [plus_size, World.size_alloc, World.size_drew, World.size_setCell, size_setRow, World.heap_drewN, List.length_append]) <;> omega)) | (with_reducible refine below_alloc' ?_ ?_; ((try simp only [plus_size, World.size_alloc, World.size_drew, World.size_setCell, size_setRow, World.heap_drewN, List.length_append]) <;> omega)) | with_reducible refine Below.drew ?_ | (with_reducible refine below_drewN' ?_ _) | exact Below.refl _ _)), own_nil _ _ _⟩
end Go.Proofs.YtblpbkfenmkhbaaGreatDoor
