/- The law of more words. Conditions: as each theorem says. -/
import Derived.Test.YtblpbkfenmkhbaaGreatDoorQg
import Derived.Test.YtblpbkfenmkhbaaGreatDoorQh
import Derived.Test.YtblpbkfenmkhbaaGreatDoorQi
import Derived.Test.YtblpbkfenmkhbaaGreatDoorQf
import Derived.Deep.Cut
import Derived.Deep.CutRange
import Derived.BigRegion
import Derived.Deep.RegionWith
namespace Go.Proofs.YtblpbkfenmkhbaaGreatDoor
open Go.RowKit
set_option linter.unusedSimpArgs false
set_option linter.unusedVariables false
open Go.RowKit
theorem Door.pow {w : World} (h : Door w) : PowTab w := h.1
set_option maxRecDepth 100000 in
set_option maxHeartbeats 8000000 in
theorem law_MoreWords (vc : Value) (w : World) (k : Nat) (hC : readsC w vc k) (hmax : k ≤ 9223372036854775807) (ht : Door w) : Calls Tryz.prog 3 #[vc] w fun e w' => e = .returned (.bool true) ∧ Below w.heap.size w w' := by
  have HC := Lib.hid hC
  have HT := Lib.hid ht
  clear ht
  by_cases hm4 : (k : Int) ≤ 4096
  · have hm : k ≤ 1000000000 := by omega
    have HBG := Lib.hid (big_no vc k w hC hmax hm4)
    clear hC hm4 hmax
    go_enter Tryz.func3, Tryz.ntmps3
    go_upto_region 3 with (first | (go_at_call 4; refine Calls.mono (HBG.out) ?_; rintro e w' ⟨rfl, rfl⟩))
    refine wp_belowK (w := w) (by (repeat (first | (with_reducible exact Below.refl _ _) | (with_reducible assumption) | (with_reducible refine below_plus' ?_ ?_; ((try simp only [plus_size, World.size_alloc, World.size_drew, World.size_setCell, size_setRow, World.heap_drewN, List.length_append]) <;> omega)) | (with_reducible refine below_alloc' ?_ ?_; ((try simp only [plus_size, World.size_alloc, World.size_drew, World.size_setCell, size_setRow, World.heap_drewN, List.length_append]) <;> omega)) | with_reducible refine Below.drew ?_ | (with_reducible refine below_drewN' ?_ _) | exact Below.refl _ _))) fun WT hbT => ?_
    go_upto_region 4 with (first | (go_at_call 5; (with_reducible refine Calls.mono (drawPow_any vc k _ (HC.out.kept hbT) hm) ?_); rintro e w1 ⟨n, v1, ds, z, rfl, o1, hld, hxd, hnd, hz, hB⟩; have r1 := o1.reads; clear o1; obtain ⟨a1, c1, rfl⟩ := readsK_form r1; replace hbT := hbT.trans (hB.mono hbT.size); clear hB; skip))
    have hfd : Fits ds := hxd.fits (by decide)
    obtain ⟨N, L, C, hh0, hh1, hl1, hk1⟩ := power_ok (n := n) (xs := ds) z (by omega) hfd
    have H0 := Lib.hid hh0
    have H1 := Lib.hid hh1
    have HL := Lib.hid hl1
    have HK := Lib.hid hk1
    clear hh0 hh1 hl1 hk1 hfd hxd
    go_upto_region 6 with (first | (go_at_call 6; have hA : Below w1.heap.size w1 (w1.alloc (.cells #[.int .i64 n, .slice a1 ds.length c1] 26)) := Below.alloc (Below.refl _ _) (Nat.le_refl _) _; replace r1 := r1.kept hA; replace hbT := hbT.trans (hA.mono hbT.size); have x1 : boxed (w1.alloc (.cells #[.int .i64 n, .slice a1 ds.length c1] 26)) w1.heap.size 26 n (.slice a1 ds.length c1) := heap_alloc_last _ _; clear hA; (with_reducible refine Calls.mono (H0.out _ _ r1) ?_); intro e w2 hh; have hh2 := retB2_f hh; clear hh; obtain ⟨v2, rfl, hB, ho2⟩ := hh2; have r2 := ho2.reads; clear ho2; obtain ⟨a2, c2, rfl⟩ := readsK_form r2; replace x1 := boxed.on x1 hB; replace r1 := r1.kept hB; replace hbT := hbT.trans (hB.mono hbT.size); clear hB; have x1c0 := x1.c0; have x1c1 := x1.c1; have x1l := x1.lt)
                                            | (go_at_call 7; (try clear x1c0 x1c1 x1l); have hA : Below w2.heap.size w2 (w2.alloc (.cells #[.int .i64 N, .slice a2 (L).length c2] 26)) := Below.alloc (Below.refl _ _) (Nat.le_refl _) _; replace x1 := boxed.on x1 hA; replace r1 := r1.kept hA; replace r2 := r2.kept hA; replace hbT := hbT.trans (hA.mono hbT.size); have x2 : boxed (w2.alloc (.cells #[.int .i64 N, .slice a2 (L).length c2] 26)) w2.heap.size 26 N (.slice a2 (L).length c2) := heap_alloc_last _ _; clear hA; (with_reducible refine Calls.mono (H1.out _ _ r1) ?_); intro e w3 hh; have hh2 := retB2_f hh; clear hh; obtain ⟨v3, rfl, hB, ho3⟩ := hh2; have r3 := ho3.reads; clear ho3; obtain ⟨a3, c3, rfl⟩ := readsK_form r3; replace x1 := boxed.on x1 hB; replace x2 := boxed.on x2 hB; replace r1 := r1.kept hB; replace r2 := r2.kept hB; replace hbT := hbT.trans (hB.mono hbT.size); clear hB; have x1c0 := x1.c0; have x1c1 := x1.c1; have x1l := x1.lt; have x2c0 := x2.c0; have x2c1 := x2.c1; have x2l := x2.lt))
    (try clear x1c0 x1c1 x1l x2c0 x2c1 x2l)
    have hA : Below w3.heap.size w3 (w3.alloc (.cells #[.int .i64 N, .slice a3 (L).length c3] 26)) := Below.alloc (Below.refl _ _) (Nat.le_refl _) _
    replace x1 := boxed.on x1 hA
    replace x2 := boxed.on x2 hA
    replace r1 := r1.kept hA
    replace r2 := r2.kept hA
    replace r3 := r3.kept hA
    replace hbT := hbT.trans (hA.mono hbT.size)
    have x3 : boxed (w3.alloc (.cells #[.int .i64 N, .slice a3 (L).length c3] 26)) w3.heap.size 26 N (.slice a3 (L).length c3) := heap_alloc_last _ _
    clear hA
    skip
    generalize w3.alloc (.cells #[.int .i64 N, .slice a3 (L).length c3] 26) = WU at x1 x2 x3 r1 r2 r3 hbT ⊢
    have x1c0 := x1.c0
    have x1c1 := x1.c1
    have x1l := x1.lt
    have x2c0 := x2.c0
    have x2c1 := x2.c1
    have x2l := x2.lt
    have x3c0 := x3.c0
    have x3c1 := x3.c1
    have x3l := x3.lt
    have hcc : (C != C) = false := by simp
    go_upto_region 8 with (first | (go_at_call 8; (try clear x1c0 x1c1 x1l x2c0 x2c1 x2l x3c0 x3c1 x3l); (with_reducible refine Calls.mono (braid5_same N _ _ L _ r2 r3 HL.out) ?_); rintro e w4 ⟨rfl, hB⟩; replace x1 := boxed.on x1 hB; replace x2 := boxed.on x2 hB; replace x3 := boxed.on x3 hB; replace r1 := r1.kept hB; replace r2 := r2.kept hB; replace r3 := r3.kept hB; replace hbT := hbT.trans (hB.mono hbT.size); clear hB; have x1c0 := x1.c0; have x1c1 := x1.c1; have x1l := x1.lt; have x2c0 := x2.c0; have x2c1 := x2.c1; have x2l := x2.lt; have x3c0 := x3.c0; have x3c1 := x3.c1; have x3l := x3.lt))
    clear hcc H0 H1
    go_cut [86] from 81 to 86 (fun s86 wc => ∃ b : Bool, s86 = .bool b ∧ (b = true → C = 0 ∧ 0 < z) ∧ w4 = wc)
    case first =>
      by_cases hC0 : C = 0
      · subst hC0
        by_cases hz0 : 0 < z
        · go_wp2
          go_meet
          case rel => exact ⟨true, by simp [hz0], (fun _ => (by simp [hz0])), rfl⟩
        · go_wp2
          go_meet
          case rel => exact ⟨false, by simp [hz0], (fun h => (by cases h)), rfl⟩
      · have hC1 : (C == 0) = false := by simp [hC0]
        go_wp2
        go_meet
        case rel => exact ⟨false, by simp [hC0], (fun h => (by cases h)), rfl⟩
    case rest =>
      obtain ⟨b, rfl, hbz, hwc⟩ := hcut
      subst hwc
      have HBZ := Lib.hid hbz
      clear hbz
      go_upto_if 86 with (fail)
      go_cut [9, 10, 11, 12] from 87 to 111 (fun s9 s10 s11 s12 wc => Below w.heap.size w wc)
      case first =>
        cases b with
        | true =>
          obtain ⟨hC0, hz0⟩ := HBZ.out rfl
          obtain ⟨hN, L1, hh2, hh3⟩ := HK.out hC0 hz0
          obtain rfl := hN.symm
          have B0 := Lib.hid hh2
          have B1 := Lib.hid hh3
          have hwz : IntKind.i64.wrap (z - 1) = z - 1 := by rw [IntKind.wrap_i64]; omega
          clear HBZ HK hh2 hh3 hN hC0 hz0
          go_upto_region 11 with (first | (go_at_call 6; (try clear x1c0 x1c1 x1l x2c0 x2c1 x2l x3c0 x3c1 x3l); (with_reducible refine Calls.mono (B0.out _ _ r1) ?_); intro e w5 hh; have hh2 := retB2_f hh; clear hh; obtain ⟨v5, rfl, hB, ho5⟩ := hh2; have r5 := ho5.reads; clear ho5; obtain ⟨a5, c5, rfl⟩ := readsK_form r5; replace x1 := boxed.on x1 hB; replace x2 := boxed.on x2 hB; replace x3 := boxed.on x3 hB; replace r1 := r1.kept hB; replace r2 := r2.kept hB; replace r3 := r3.kept hB; replace hbT := hbT.trans (hB.mono hbT.size); clear hB; have x1c0 := x1.c0; have x1c1 := x1.c1; have x1l := x1.lt; have x2c0 := x2.c0; have x2c1 := x2.c1; have x2l := x2.lt; have x3c0 := x3.c0; have x3c1 := x3.c1; have x3l := x3.lt)
                                            | (go_at_call 9; (try clear x1c0 x1c1 x1l x2c0 x2c1 x2l x3c0 x3c1 x3l); have hA : Below w5.heap.size w5 (w5.alloc (.cells #[.int .i64 n, .slice a5 (L1).length c5] 26)) := Below.alloc (Below.refl _ _) (Nat.le_refl _) _; replace x1 := boxed.on x1 hA; replace x2 := boxed.on x2 hA; replace x3 := boxed.on x3 hA; replace r1 := r1.kept hA; replace r2 := r2.kept hA; replace r3 := r3.kept hA; replace r5 := r5.kept hA; replace hbT := hbT.trans (hA.mono hbT.size); have x5 : boxed (w5.alloc (.cells #[.int .i64 n, .slice a5 (L1).length c5] 26)) w5.heap.size 26 n (.slice a5 (L1).length c5) := heap_alloc_last _ _; clear hA; (with_reducible refine Calls.mono (B1.out _ _ _ r5 r1) ?_); intro e w6 hh; have hh2 := retB2_f hh; clear hh; obtain ⟨v6, rfl, hB, ho6⟩ := hh2; have r6 := ho6.reads; clear ho6; obtain ⟨a6, c6, rfl⟩ := readsK_form r6; replace x1 := boxed.on x1 hB; replace x2 := boxed.on x2 hB; replace x3 := boxed.on x3 hB; replace x5 := boxed.on x5 hB; replace r1 := r1.kept hB; replace r2 := r2.kept hB; replace r3 := r3.kept hB; replace r5 := r5.kept hB; replace hbT := hbT.trans (hB.mono hbT.size); clear hB; have x1c0 := x1.c0; have x1c1 := x1.c1; have x1l := x1.lt; have x2c0 := x2.c0; have x2c1 := x2.c1; have x2l := x2.lt; have x3c0 := x3.c0; have x3c1 := x3.c1; have x3l := x3.lt; have x5c0 := x5.c0; have x5c1 := x5.c1; have x5l := x5.lt))
          (try clear x1c0 x1c1 x1l x2c0 x2c1 x2l x3c0 x3c1 x3l x5c0 x5c1 x5l)
          have hA : Below w6.heap.size w6 (w6.alloc (.cells #[.int .i64 n, .slice a6 (L).length c6] 26)) := Below.alloc (Below.refl _ _) (Nat.le_refl _) _
          replace x1 := boxed.on x1 hA
          replace x2 := boxed.on x2 hA
          replace x3 := boxed.on x3 hA
          replace x5 := boxed.on x5 hA
          replace r1 := r1.kept hA
          replace r2 := r2.kept hA
          replace r3 := r3.kept hA
          replace r5 := r5.kept hA
          replace r6 := r6.kept hA
          replace hbT := hbT.trans (hA.mono hbT.size)
          have x6 : boxed (w6.alloc (.cells #[.int .i64 n, .slice a6 (L).length c6] 26)) w6.heap.size 26 n (.slice a6 (L).length c6) := heap_alloc_last _ _
          clear hA
          skip
          generalize w6.alloc (.cells #[.int .i64 n, .slice a6 (L).length c6] 26) = WV at x1 x2 x3 x5 x6 r1 r2 r3 r5 r6 hbT ⊢
          have x1c0 := x1.c0
          have x1c1 := x1.c1
          have x1l := x1.lt
          have x2c0 := x2.c0
          have x2c1 := x2.c1
          have x2l := x2.lt
          have x3c0 := x3.c0
          have x3c1 := x3.c1
          have x3l := x3.lt
          have x5c0 := x5.c0
          have x5c1 := x5.c1
          have x5l := x5.lt
          have x6c0 := x6.c0
          have x6c1 := x6.c1
          have x6l := x6.lt
          go_wp2_with (first | (go_at_call 8; (try clear x1c0 x1c1 x1l x2c0 x2c1 x2l x3c0 x3c1 x3l x5c0 x5c1 x5l x6c0 x6c1 x6l); (with_reducible refine Calls.mono (braid5_same n _ _ L _ r6 r2 HL.out) ?_); rintro e w7 ⟨rfl, hB⟩; replace x1 := boxed.on x1 hB; replace x2 := boxed.on x2 hB; replace x3 := boxed.on x3 hB; replace x5 := boxed.on x5 hB; replace x6 := boxed.on x6 hB; replace r1 := r1.kept hB; replace r2 := r2.kept hB; replace r3 := r3.kept hB; replace r5 := r5.kept hB; replace r6 := r6.kept hB; replace hbT := hbT.trans (hB.mono hbT.size); clear hB; have x1c0 := x1.c0; have x1c1 := x1.c1; have x1l := x1.lt; have x2c0 := x2.c0; have x2c1 := x2.c1; have x2l := x2.lt; have x3c0 := x3.c0; have x3c1 := x3.c1; have x3l := x3.lt; have x5c0 := x5.c0; have x5c1 := x5.c1; have x5l := x5.lt; have x6c0 := x6.c0; have x6c1 := x6.c1; have x6l := x6.lt))
          go_meet
          case rel => exact hbT
        | false =>
          go_wp2
          go_meet
          case rel => exact hbT
      case rest =>
        (try clear x1 x1c0 x1c1 x1l x2 x2c0 x2c1 x2l x3 x3c0 x3c1 x3l r1 r2 r3)
        clear HL HK HBZ hz hnd hld hbT
        have hbT := hcut
        clear hcut
        obtain ⟨WB, hWB⟩ : ∃ x, x = wc := ⟨_, rfl⟩
        subst hWB
        go_upto_region 14 with (first | (go_at_call 10; (with_reducible refine Calls.mono (drawFree_any vc k _ (HC.out.kept hbT) hm) ?_); rintro e w1 ⟨n, v1, ds, rfl, o1, hld, hxd, hnd, hB⟩; have r1 := o1.reads; clear o1; obtain ⟨a1, c1, rfl⟩ := readsK_form r1; replace hbT := hbT.trans (hB.mono hbT.size); clear hB; skip))
        have hfd : Fits ds := hxd.fits (by decide)
        obtain ⟨N, L, C, hh0, hh1, hl1, hk1⟩ := freef_ok (n := n) (xs := ds) (by omega) hfd
        have H0 := Lib.hid hh0
        have H1 := Lib.hid hh1
        have HL := Lib.hid hl1
        have HK := Lib.hid hk1
        clear hh0 hh1 hl1 hk1 hfd hxd
        go_upto_region 16 with (first | (go_at_call 11; have hA : Below w1.heap.size w1 (w1.alloc (.cells #[.int .i64 n, .slice a1 ds.length c1] 26)) := Below.alloc (Below.refl _ _) (Nat.le_refl _) _; replace r1 := r1.kept hA; replace hbT := hbT.trans (hA.mono hbT.size); have x1 : boxed (w1.alloc (.cells #[.int .i64 n, .slice a1 ds.length c1] 26)) w1.heap.size 26 n (.slice a1 ds.length c1) := heap_alloc_last _ _; clear hA; (with_reducible refine Calls.mono (H0.out _ _ r1) ?_); intro e w2 hh; have hh2 := retB2_f hh; clear hh; obtain ⟨v2, rfl, hB, ho2⟩ := hh2; have r2 := ho2.reads; clear ho2; obtain ⟨a2, c2, rfl⟩ := readsK_form r2; replace x1 := boxed.on x1 hB; replace r1 := r1.kept hB; replace hbT := hbT.trans (hB.mono hbT.size); clear hB; have x1c0 := x1.c0; have x1c1 := x1.c1; have x1l := x1.lt)
                                                | (go_at_call 12; (try clear x1c0 x1c1 x1l); have hA : Below w2.heap.size w2 (w2.alloc (.cells #[.int .i64 N, .slice a2 (L).length c2] 26)) := Below.alloc (Below.refl _ _) (Nat.le_refl _) _; replace x1 := boxed.on x1 hA; replace r1 := r1.kept hA; replace r2 := r2.kept hA; replace hbT := hbT.trans (hA.mono hbT.size); have x2 : boxed (w2.alloc (.cells #[.int .i64 N, .slice a2 (L).length c2] 26)) w2.heap.size 26 N (.slice a2 (L).length c2) := heap_alloc_last _ _; clear hA; (with_reducible refine Calls.mono (H1.out _ _ r1) ?_); intro e w3 hh; have hh2 := retB2_f hh; clear hh; obtain ⟨v3, rfl, hB, ho3⟩ := hh2; have r3 := ho3.reads; clear ho3; obtain ⟨a3, c3, rfl⟩ := readsK_form r3; replace x1 := boxed.on x1 hB; replace x2 := boxed.on x2 hB; replace r1 := r1.kept hB; replace r2 := r2.kept hB; replace hbT := hbT.trans (hB.mono hbT.size); clear hB; have x1c0 := x1.c0; have x1c1 := x1.c1; have x1l := x1.lt; have x2c0 := x2.c0; have x2c1 := x2.c1; have x2l := x2.lt))
        (try clear x1c0 x1c1 x1l x2c0 x2c1 x2l)
        have hA : Below w3.heap.size w3 (w3.alloc (.cells #[.int .i64 N, .slice a3 (L).length c3] 26)) := Below.alloc (Below.refl _ _) (Nat.le_refl _) _
        replace x1 := boxed.on x1 hA
        replace x2 := boxed.on x2 hA
        replace r1 := r1.kept hA
        replace r2 := r2.kept hA
        replace r3 := r3.kept hA
        replace hbT := hbT.trans (hA.mono hbT.size)
        have x3 : boxed (w3.alloc (.cells #[.int .i64 N, .slice a3 (L).length c3] 26)) w3.heap.size 26 N (.slice a3 (L).length c3) := heap_alloc_last _ _
        clear hA
        skip
        generalize w3.alloc (.cells #[.int .i64 N, .slice a3 (L).length c3] 26) = WU at x1 x2 x3 r1 r2 r3 hbT ⊢
        have x1c0 := x1.c0
        have x1c1 := x1.c1
        have x1l := x1.lt
        have x2c0 := x2.c0
        have x2c1 := x2.c1
        have x2l := x2.lt
        have x3c0 := x3.c0
        have x3c1 := x3.c1
        have x3l := x3.lt
        have hcc : (C != C) = false := by simp
        go_upto_if 134 with (first | (go_at_call 8; (try clear x1c0 x1c1 x1l x2c0 x2c1 x2l x3c0 x3c1 x3l); (with_reducible refine Calls.mono (braid5_same N _ _ L _ r2 r3 HL.out) ?_); rintro e w4 ⟨rfl, hB⟩; replace x1 := boxed.on x1 hB; replace x2 := boxed.on x2 hB; replace x3 := boxed.on x3 hB; replace r1 := r1.kept hB; replace r2 := r2.kept hB; replace r3 := r3.kept hB; replace hbT := hbT.trans (hB.mono hbT.size); clear hB; have x1c0 := x1.c0; have x1c1 := x1.c1; have x1l := x1.lt; have x2c0 := x2.c0; have x2c1 := x2.c1; have x2l := x2.lt; have x3c0 := x3.c0; have x3c1 := x3.c1; have x3l := x3.lt))
        clear hcc H0 H1
        go_cut [18, 19, 20, 21, 22] from 135 to 177 (fun s18 s19 s20 s21 s22 wc => Below w.heap.size w wc)
        case first =>
          by_cases hC0 : C = 0
          · subst hC0
            obtain ⟨hN, p, f, ⟨hp1, hp8⟩, he1, he2, hl200, hsm, hrd⟩ := HK.out rfl
            obtain rfl := hN.symm
            have HE1 := Lib.hid he1
            have HE2 := Lib.hid he2
            have HSM := Lib.hid hsm
            have HRD := Lib.hid hrd
            have HLP := Lib.hid (show (lstOf p f).length ≤ 1000000000 by rw [lstOf_length]; omega)
            have HL2 := Lib.hid hl200
            clear he1 he2 hsm hrd hN HK hl200
            go_upto_region 23 with (first | (go_at_call 13; (try clear x1c0 x1c1 x1l x2c0 x2c1 x2l x3c0 x3c1 x3l); (with_reducible refine Calls.mono (HE1.out _ _ r1) ?_); intro e w5 hh; have hh2 := retI2_f hh; clear hh; obtain ⟨v5, rfl, hB, ho5⟩ := hh2; have r5 := ho5.reads; clear ho5; replace x1 := boxed.on x1 hB; replace x2 := boxed.on x2 hB; replace x3 := boxed.on x3 hB; replace r1 := r1.kept hB; replace r2 := r2.kept hB; replace r3 := r3.kept hB; replace hbT := hbT.trans (hB.mono hbT.size); clear hB; have x1c0 := x1.c0; have x1c1 := x1.c1; have x1l := x1.lt; have x2c0 := x2.c0; have x2c1 := x2.c1; have x2l := x2.lt; have x3c0 := x3.c0; have x3c1 := x3.c1; have x3l := x3.lt)
                                                | (go_at_call 13; (try clear x1c0 x1c1 x1l x2c0 x2c1 x2l x3c0 x3c1 x3l); (with_reducible refine Calls.mono (HE2.out _ _ r2) ?_); intro e w6 hh; have hh2 := retI2_f hh; clear hh; obtain ⟨v6, rfl, hB, ho6⟩ := hh2; have r6 := ho6.reads; clear ho6; replace x1 := boxed.on x1 hB; replace x2 := boxed.on x2 hB; replace x3 := boxed.on x3 hB; replace r1 := r1.kept hB; replace r2 := r2.kept hB; replace r3 := r3.kept hB; replace r5 := r5.kept hB; replace hbT := hbT.trans (hB.mono hbT.size); clear hB; have x1c0 := x1.c0; have x1c1 := x1.c1; have x1l := x1.lt; have x2c0 := x2.c0; have x2c1 := x2.c1; have x2l := x2.lt; have x3c0 := x3.c0; have x3c1 := x3.c1; have x3l := x3.lt)
                                                | (go_at_call 14; (try clear x1c0 x1c1 x1l x2c0 x2c1 x2l x3c0 x3c1 x3l); (with_reducible refine Calls.mono (likeInts_same _ _ (lstOf p f) _ r5 r6 HLP.out) ?_); rintro e w7 ⟨rfl, hB⟩; replace x1 := boxed.on x1 hB; replace x2 := boxed.on x2 hB; replace x3 := boxed.on x3 hB; replace r1 := r1.kept hB; replace r2 := r2.kept hB; replace r3 := r3.kept hB; replace r5 := r5.kept hB; replace r6 := r6.kept hB; replace hbT := hbT.trans (hB.mono hbT.size); clear hB; have x1c0 := x1.c0; have x1c1 := x1.c1; have x1l := x1.lt; have x2c0 := x2.c0; have x2c1 := x2.c1; have x2l := x2.lt; have x3c0 := x3.c0; have x3c1 := x3.c1; have x3l := x3.lt))
            (try clear x1 x3 x1c0 x1c1 x1l x3c0 x3c1 x3l r1 r3 r5 r6 HE1 HE2 HLP)
            go_wp2
            go_loopw [22] (fun si wr => ∃ (i : Nat) (j1 : List Obj) (d1 : Nat), 1 ≤ i ∧ i ≤ L.length + 1 ∧ si = .int .i64 i ∧ wr = plus w7 j1 d1) (fun si _ => L.length + 1 - (intOf si).toNat)
            case atStart => exact ⟨1, [], _, by omega, by omega, rfl, (plus_nil _).symm⟩
            case round =>
              obtain ⟨i, j1, d1, hi1, hi2, rfl, rfl⟩ := hrel
              rcases Nat.lt_or_ge i L.length with hlt | hge
              · have h200 := HL2.out
                obtain ⟨b, o, rfl, hbl, hcell⟩ := reads_at r2 (by omega)
                obtain ⟨q, hq⟩ : ∃ q, i = q + 1 := ⟨i - 1, by omega⟩
                have y1 := hcell i hlt
                have y0 := hcell q (by omega)
                have hne : nth L i ≠ -nth L q := by rw [hq]; exact HRD.out q (by omega)
                have hs0 := HSM.out q (by omega)
                have hlt1 : (i : Int) < (L.length : Int) := by omega
                have hqlt : (q : Int) < (L.length : Int) := by omega
                have hwi : IntKind.i64.wrap ((i : Int) - 1) = (q : Int) := by have := HL2.out; rw [IntKind.wrap_i64]; omega
                have HQ := Lib.hid hq
                have HR := Lib.hid hcell
                clear hq hcell
                generalize nth L i = u1 at y1 hne
                generalize nth L q = u0 at y0 hne hs0
                have hwn : IntKind.i64.wrap (-u0) = -u0 := by rw [IntKind.wrap_i64]; omega
                have hnb : (u1 == -u0) = false := beq_eq_false_iff_ne.2 hne
                have hbl2 : b < w7.heap.size + j1.length := by omega
                have hx22 : w2.heap.size < w7.heap.size + j1.length := by omega
                have HNE := Lib.hid hne
                clear hne
                go_upto_region 26 with (fail)
                refine region_plus (by kernel_rfl) (by kernel_rfl) ?_
                repeat (go_big_quiet_step (first | fail))
                refine wpQuiet_nil ?_
                intro _ hw'
                obtain ⟨q, hw''⟩ := hw'
                subst hw''
                rw [plusq_eq]
                generalize q.j = j
                generalize q.d = d
                clear q
                
                go_wp2
                go_roundw
                case rel => exact ⟨i + 1, _, _, by omega, by omega, by go_num, by rw [plus_plus]⟩
                case measure => simp [intOf]; omega
              · have hge1 : ¬ ((i : Int) < (L.length : Int)) := by omega
                have hbs := hbT.size
                go_wp2
                go_meet
                case rel => (repeat (first | (with_reducible exact Below.refl _ _) | (with_reducible assumption) | (with_reducible refine below_plus' ?_ ?_; ((try simp only [plus_size, World.size_alloc, World.size_drew, World.size_setCell, size_setRow, World.heap_drewN, List.length_append]) <;> omega)) | (with_reducible refine below_alloc' ?_ ?_; ((try simp only [plus_size, World.size_alloc, World.size_drew, World.size_setCell, size_setRow, World.heap_drewN, List.length_append]) <;> omega)) | with_reducible refine Below.drew ?_ | (with_reducible refine below_drewN' ?_ _) | exact Below.refl _ _))
          · have hC1 : (C == 0) = false := by simp [hC0]
            go_wp2
            go_meet
            case rel => exact hbT
        case rest =>
          (try clear x1 x1c0 x1c1 x1l x2 x2c0 x2c1 x2l x3 x3c0 x3c1 x3l r1 r2 r3)
          clear HL HK hnd hld hbT
          have hbT := hcut
          clear hcut
          obtain ⟨WC, hWC⟩ : ∃ x, x = wc := ⟨_, rfl⟩
          subst hWC
          go_upto_region 29 with (first | (go_at_call 15; (with_reducible refine Calls.mono (drawShift_any vc k _ (HC.out.kept hbT) hm) ?_); rintro e w1 ⟨n, v1, ds, z, rfl, o1, hld, hxd, hnd, hz, hB⟩; have r1 := o1.reads; clear o1; obtain ⟨a1, c1, rfl⟩ := readsK_form r1; replace hbT := hbT.trans (hB.mono hbT.size); clear hB; skip))
          have hfd : Fits ds := hxd.fits (by decide)
          obtain ⟨N1, M1, C1, hh0, hh1, hl1⟩ := shift_ok (n := n) (xs := ds) z (by omega) hfd
          have H0 := Lib.hid hh0
          have H1 := Lib.hid hh1
          have HM1 := Lib.hid hl1
          clear hh0 hh1 hl1 hfd hxd
          go_upto_region 32 with (first | (go_at_call 16; have hA : Below w1.heap.size w1 (w1.alloc (.cells #[.int .i64 n, .slice a1 ds.length c1] 26)) := Below.alloc (Below.refl _ _) (Nat.le_refl _) _; replace r1 := r1.kept hA; replace hbT := hbT.trans (hA.mono hbT.size); have x1 : boxed (w1.alloc (.cells #[.int .i64 n, .slice a1 ds.length c1] 26)) w1.heap.size 26 n (.slice a1 ds.length c1) := heap_alloc_last _ _; clear hA; (with_reducible refine Calls.mono (H0.out _ _ r1) ?_); intro e w2 hh; have hh2 := retB2_f hh; clear hh; obtain ⟨v2, rfl, hB, ho2⟩ := hh2; have r2 := ho2.reads; clear ho2; obtain ⟨a2, c2, rfl⟩ := readsK_form r2; replace x1 := boxed.on x1 hB; replace r1 := r1.kept hB; replace hbT := hbT.trans (hB.mono hbT.size); clear hB; have x1c0 := x1.c0; have x1c1 := x1.c1; have x1l := x1.lt)
                                                  | (go_at_call 17; (try clear x1c0 x1c1 x1l); have hA : Below w2.heap.size w2 (w2.alloc (.cells #[.int .i64 N1, .slice a2 (M1).length c2] 26)) := Below.alloc (Below.refl _ _) (Nat.le_refl _) _; replace x1 := boxed.on x1 hA; replace r1 := r1.kept hA; replace r2 := r2.kept hA; replace hbT := hbT.trans (hA.mono hbT.size); have x2 : boxed (w2.alloc (.cells #[.int .i64 N1, .slice a2 (M1).length c2] 26)) w2.heap.size 26 N1 (.slice a2 (M1).length c2) := heap_alloc_last _ _; clear hA; (with_reducible refine Calls.mono (H1.out _ _ r1) ?_); intro e w3 hh; have hh2 := retB2_f hh; clear hh; obtain ⟨v3, rfl, hB, ho3⟩ := hh2; have r3 := ho3.reads; clear ho3; obtain ⟨a3, c3, rfl⟩ := readsK_form r3; replace x1 := boxed.on x1 hB; replace x2 := boxed.on x2 hB; replace r1 := r1.kept hB; replace r2 := r2.kept hB; replace hbT := hbT.trans (hB.mono hbT.size); clear hB; have x1c0 := x1.c0; have x1c1 := x1.c1; have x1l := x1.lt; have x2c0 := x2.c0; have x2c1 := x2.c1; have x2l := x2.lt)
                                                  | (go_at_call 18; (try clear x1c0 x1c1 x1l x2c0 x2c1 x2l); have hA : Below w3.heap.size w3 (w3.alloc (.cells #[.int .i64 N1, .slice a3 (M1).length c3] 26)) := Below.alloc (Below.refl _ _) (Nat.le_refl _) _; replace x1 := boxed.on x1 hA; replace x2 := boxed.on x2 hA; replace r1 := r1.kept hA; replace r2 := r2.kept hA; replace r3 := r3.kept hA; replace hbT := hbT.trans (hA.mono hbT.size); have x3 : boxed (w3.alloc (.cells #[.int .i64 N1, .slice a3 (M1).length c3] 26)) w3.heap.size 26 N1 (.slice a3 (M1).length c3) := heap_alloc_last _ _; clear hA; (with_reducible refine Calls.mono (drawParse_any vc k _ (HC.out.kept hbT) hm) ?_); rintro e w4 ⟨tx, rfl, htx, hB⟩; replace x1 := boxed.on x1 hB; replace x2 := boxed.on x2 hB; replace x3 := boxed.on x3 hB; replace r1 := r1.kept hB; replace r2 := r2.kept hB; replace r3 := r3.kept hB; replace hbT := hbT.trans (hB.mono hbT.size); clear hB; have x1c0 := x1.c0; have x1c1 := x1.c1; have x1l := x1.lt; have x2c0 := x2.c0; have x2c1 := x2.c1; have x2l := x2.lt; have x3c0 := x3.c0; have x3c1 := x3.c1; have x3l := x3.lt))
          obtain ⟨N2, M2, C2, hh0, hh1, hl1⟩ := parse_ok2 tx htx
          have P0 := Lib.hid hh0
          have P1 := Lib.hid hh1
          have HM2 := Lib.hid hl1
          clear hh0 hh1 hl1 htx
          go_upto_region 35 with (first | (go_at_call 19; (try clear x1c0 x1c1 x1l x2c0 x2c1 x2l x3c0 x3c1 x3l); (with_reducible refine Calls.mono (P0.out _ (HT.out.on hbT)) ?_); intro e w5 hh; have hh2 := retB2_f hh; clear hh; obtain ⟨v5, rfl, hB, ho5⟩ := hh2; have r5 := ho5.reads; clear ho5; obtain ⟨a5, c5, rfl⟩ := readsK_form r5; replace x1 := boxed.on x1 hB; replace x2 := boxed.on x2 hB; replace x3 := boxed.on x3 hB; replace r1 := r1.kept hB; replace r2 := r2.kept hB; replace r3 := r3.kept hB; replace hbT := hbT.trans (hB.mono hbT.size); clear hB; have x1c0 := x1.c0; have x1c1 := x1.c1; have x1l := x1.lt; have x2c0 := x2.c0; have x2c1 := x2.c1; have x2l := x2.lt; have x3c0 := x3.c0; have x3c1 := x3.c1; have x3l := x3.lt)
                                                  | (go_at_call 20; (try clear x1c0 x1c1 x1l x2c0 x2c1 x2l x3c0 x3c1 x3l); have hA : Below w5.heap.size w5 (w5.alloc (.cells #[.int .i64 N2, .slice a5 (M2).length c5] 26)) := Below.alloc (Below.refl _ _) (Nat.le_refl _) _; replace x1 := boxed.on x1 hA; replace x2 := boxed.on x2 hA; replace x3 := boxed.on x3 hA; replace r1 := r1.kept hA; replace r2 := r2.kept hA; replace r3 := r3.kept hA; replace r5 := r5.kept hA; replace hbT := hbT.trans (hA.mono hbT.size); have x5 : boxed (w5.alloc (.cells #[.int .i64 N2, .slice a5 (M2).length c5] 26)) w5.heap.size 26 N2 (.slice a5 (M2).length c5) := heap_alloc_last _ _; clear hA; (with_reducible refine Calls.mono (P1.out _) ?_); intro e w6 hh; have hh2 := retB2_f hh; clear hh; obtain ⟨v6, rfl, hB, ho6⟩ := hh2; have r6 := ho6.reads; clear ho6; obtain ⟨a6, c6, rfl⟩ := readsK_form r6; replace x1 := boxed.on x1 hB; replace x2 := boxed.on x2 hB; replace x3 := boxed.on x3 hB; replace x5 := boxed.on x5 hB; replace r1 := r1.kept hB; replace r2 := r2.kept hB; replace r3 := r3.kept hB; replace r5 := r5.kept hB; replace hbT := hbT.trans (hB.mono hbT.size); clear hB; have x1c0 := x1.c0; have x1c1 := x1.c1; have x1l := x1.lt; have x2c0 := x2.c0; have x2c1 := x2.c1; have x2l := x2.lt; have x3c0 := x3.c0; have x3c1 := x3.c1; have x3l := x3.lt; have x5c0 := x5.c0; have x5c1 := x5.c1; have x5l := x5.lt)
                                                  | (go_at_call 21; (try clear x1c0 x1c1 x1l x2c0 x2c1 x2l x3c0 x3c1 x3l x5c0 x5c1 x5l); have hA : Below w6.heap.size w6 (w6.alloc (.cells #[.int .i64 N2, .slice a6 (M2).length c6] 26)) := Below.alloc (Below.refl _ _) (Nat.le_refl _) _; replace x1 := boxed.on x1 hA; replace x2 := boxed.on x2 hA; replace x3 := boxed.on x3 hA; replace x5 := boxed.on x5 hA; replace r1 := r1.kept hA; replace r2 := r2.kept hA; replace r3 := r3.kept hA; replace r5 := r5.kept hA; replace r6 := r6.kept hA; replace hbT := hbT.trans (hA.mono hbT.size); have x6 : boxed (w6.alloc (.cells #[.int .i64 N2, .slice a6 (M2).length c6] 26)) w6.heap.size 26 N2 (.slice a6 (M2).length c6) := heap_alloc_last _ _; clear hA; (with_reducible refine Calls.mono (drawHalf_any vc k _ (HC.out.kept hbT) hm) ?_); rintro e w7 ⟨y, rfl, hy, hB⟩; replace x1 := boxed.on x1 hB; replace x2 := boxed.on x2 hB; replace x3 := boxed.on x3 hB; replace x5 := boxed.on x5 hB; replace x6 := boxed.on x6 hB; replace r1 := r1.kept hB; replace r2 := r2.kept hB; replace r3 := r3.kept hB; replace r5 := r5.kept hB; replace r6 := r6.kept hB; replace hbT := hbT.trans (hB.mono hbT.size); clear hB; have x1c0 := x1.c0; have x1c1 := x1.c1; have x1l := x1.lt; have x2c0 := x2.c0; have x2c1 := x2.c1; have x2l := x2.lt; have x3c0 := x3.c0; have x3c1 := x3.c1; have x3l := x3.lt; have x5c0 := x5.c0; have x5c1 := x5.c1; have x5l := x5.lt; have x6c0 := x6.c0; have x6c1 := x6.c1; have x6l := x6.lt))
          obtain ⟨N3, M3, M4, C3, hh0, hh1, hh2, hh3, hl1, hl2, hk1⟩ := half_ok y
          have Q0 := Lib.hid hh0
          have Q1 := Lib.hid hh1
          have Q2 := Lib.hid hh2
          have Q3 := Lib.hid hh3
          have HM3 := Lib.hid hl1
          have HM4 := Lib.hid hl2
          have HK := Lib.hid hk1
          clear hh0 hh1 hh2 hh3 hl1 hl2 hk1
          go_upto_region 39 with (first | (go_at_call 22; (try clear x1c0 x1c1 x1l x2c0 x2c1 x2l x3c0 x3c1 x3l x5c0 x5c1 x5l x6c0 x6c1 x6l); (with_reducible refine Calls.mono (Q0.out _) ?_); intro e w8 hh; have hh2 := retB2_f hh; clear hh; obtain ⟨v8, rfl, hB, ho8⟩ := hh2; have r8 := ho8.reads; clear ho8; obtain ⟨a8, c8, rfl⟩ := readsK_form r8; replace x1 := boxed.on x1 hB; replace x2 := boxed.on x2 hB; replace x3 := boxed.on x3 hB; replace x5 := boxed.on x5 hB; replace x6 := boxed.on x6 hB; replace r1 := r1.kept hB; replace r2 := r2.kept hB; replace r3 := r3.kept hB; replace r5 := r5.kept hB; replace r6 := r6.kept hB; replace hbT := hbT.trans (hB.mono hbT.size); clear hB; have x1c0 := x1.c0; have x1c1 := x1.c1; have x1l := x1.lt; have x2c0 := x2.c0; have x2c1 := x2.c1; have x2l := x2.lt; have x3c0 := x3.c0; have x3c1 := x3.c1; have x3l := x3.lt; have x5c0 := x5.c0; have x5c1 := x5.c1; have x5l := x5.lt; have x6c0 := x6.c0; have x6c1 := x6.c1; have x6l := x6.lt)
                                                  | (go_at_call 23; (try clear x1c0 x1c1 x1l x2c0 x2c1 x2l x3c0 x3c1 x3l x5c0 x5c1 x5l x6c0 x6c1 x6l); have hA : Below w8.heap.size w8 (w8.alloc (.cells #[.int .i64 N3, .slice a8 (M3).length c8] 26)) := Below.alloc (Below.refl _ _) (Nat.le_refl _) _; replace x1 := boxed.on x1 hA; replace x2 := boxed.on x2 hA; replace x3 := boxed.on x3 hA; replace x5 := boxed.on x5 hA; replace x6 := boxed.on x6 hA; replace r1 := r1.kept hA; replace r2 := r2.kept hA; replace r3 := r3.kept hA; replace r5 := r5.kept hA; replace r6 := r6.kept hA; replace r8 := r8.kept hA; replace hbT := hbT.trans (hA.mono hbT.size); have x8 : boxed (w8.alloc (.cells #[.int .i64 N3, .slice a8 (M3).length c8] 26)) w8.heap.size 26 N3 (.slice a8 (M3).length c8) := heap_alloc_last _ _; clear hA; (with_reducible refine Calls.mono (Q1.out _) ?_); intro e w9 hh; have hh2 := retB2_f hh; clear hh; obtain ⟨v9, rfl, hB, ho9⟩ := hh2; have r9 := ho9.reads; clear ho9; obtain ⟨a9, c9, rfl⟩ := readsK_form r9; replace x1 := boxed.on x1 hB; replace x2 := boxed.on x2 hB; replace x3 := boxed.on x3 hB; replace x5 := boxed.on x5 hB; replace x6 := boxed.on x6 hB; replace x8 := boxed.on x8 hB; replace r1 := r1.kept hB; replace r2 := r2.kept hB; replace r3 := r3.kept hB; replace r5 := r5.kept hB; replace r6 := r6.kept hB; replace r8 := r8.kept hB; replace hbT := hbT.trans (hB.mono hbT.size); clear hB; have x1c0 := x1.c0; have x1c1 := x1.c1; have x1l := x1.lt; have x2c0 := x2.c0; have x2c1 := x2.c1; have x2l := x2.lt; have x3c0 := x3.c0; have x3c1 := x3.c1; have x3l := x3.lt; have x5c0 := x5.c0; have x5c1 := x5.c1; have x5l := x5.lt; have x6c0 := x6.c0; have x6c1 := x6.c1; have x6l := x6.lt; have x8c0 := x8.c0; have x8c1 := x8.c1; have x8l := x8.lt)
                                                  | (go_at_call 24; (try clear x1c0 x1c1 x1l x2c0 x2c1 x2l x3c0 x3c1 x3l x5c0 x5c1 x5l x6c0 x6c1 x6l x8c0 x8c1 x8l); have hA : Below w9.heap.size w9 (w9.alloc (.cells #[.int .i64 N3, .slice a9 (M3).length c9] 26)) := Below.alloc (Below.refl _ _) (Nat.le_refl _) _; replace x1 := boxed.on x1 hA; replace x2 := boxed.on x2 hA; replace x3 := boxed.on x3 hA; replace x5 := boxed.on x5 hA; replace x6 := boxed.on x6 hA; replace x8 := boxed.on x8 hA; replace r1 := r1.kept hA; replace r2 := r2.kept hA; replace r3 := r3.kept hA; replace r5 := r5.kept hA; replace r6 := r6.kept hA; replace r8 := r8.kept hA; replace r9 := r9.kept hA; replace hbT := hbT.trans (hA.mono hbT.size); have x9 : boxed (w9.alloc (.cells #[.int .i64 N3, .slice a9 (M3).length c9] 26)) w9.heap.size 26 N3 (.slice a9 (M3).length c9) := heap_alloc_last _ _; clear hA; (with_reducible refine Calls.mono (Q2.out _) ?_); intro e w10 hh; have hh2 := retB2_f hh; clear hh; obtain ⟨v10, rfl, hB, ho10⟩ := hh2; have r10 := ho10.reads; clear ho10; obtain ⟨a10, c10, rfl⟩ := readsK_form r10; replace x1 := boxed.on x1 hB; replace x2 := boxed.on x2 hB; replace x3 := boxed.on x3 hB; replace x5 := boxed.on x5 hB; replace x6 := boxed.on x6 hB; replace x8 := boxed.on x8 hB; replace x9 := boxed.on x9 hB; replace r1 := r1.kept hB; replace r2 := r2.kept hB; replace r3 := r3.kept hB; replace r5 := r5.kept hB; replace r6 := r6.kept hB; replace r8 := r8.kept hB; replace r9 := r9.kept hB; replace hbT := hbT.trans (hB.mono hbT.size); clear hB; have x1c0 := x1.c0; have x1c1 := x1.c1; have x1l := x1.lt; have x2c0 := x2.c0; have x2c1 := x2.c1; have x2l := x2.lt; have x3c0 := x3.c0; have x3c1 := x3.c1; have x3l := x3.lt; have x5c0 := x5.c0; have x5c1 := x5.c1; have x5l := x5.lt; have x6c0 := x6.c0; have x6c1 := x6.c1; have x6l := x6.lt; have x8c0 := x8.c0; have x8c1 := x8.c1; have x8l := x8.lt; have x9c0 := x9.c0; have x9c1 := x9.c1; have x9l := x9.lt)
                                                  | (go_at_call 25; (try clear x1c0 x1c1 x1l x2c0 x2c1 x2l x3c0 x3c1 x3l x5c0 x5c1 x5l x6c0 x6c1 x6l x8c0 x8c1 x8l x9c0 x9c1 x9l); have hA : Below w10.heap.size w10 (w10.alloc (.cells #[.int .i64 N3, .slice a10 (M4).length c10] 26)) := Below.alloc (Below.refl _ _) (Nat.le_refl _) _; replace x1 := boxed.on x1 hA; replace x2 := boxed.on x2 hA; replace x3 := boxed.on x3 hA; replace x5 := boxed.on x5 hA; replace x6 := boxed.on x6 hA; replace x8 := boxed.on x8 hA; replace x9 := boxed.on x9 hA; replace r1 := r1.kept hA; replace r2 := r2.kept hA; replace r3 := r3.kept hA; replace r5 := r5.kept hA; replace r6 := r6.kept hA; replace r8 := r8.kept hA; replace r9 := r9.kept hA; replace r10 := r10.kept hA; replace hbT := hbT.trans (hA.mono hbT.size); have x10 : boxed (w10.alloc (.cells #[.int .i64 N3, .slice a10 (M4).length c10] 26)) w10.heap.size 26 N3 (.slice a10 (M4).length c10) := heap_alloc_last _ _; clear hA; (with_reducible refine Calls.mono (Q3.out _) ?_); intro e w11 hh; have hh2 := retB2_f hh; clear hh; obtain ⟨v11, rfl, hB, ho11⟩ := hh2; have r11 := ho11.reads; clear ho11; obtain ⟨a11, c11, rfl⟩ := readsK_form r11; replace x1 := boxed.on x1 hB; replace x2 := boxed.on x2 hB; replace x3 := boxed.on x3 hB; replace x5 := boxed.on x5 hB; replace x6 := boxed.on x6 hB; replace x8 := boxed.on x8 hB; replace x9 := boxed.on x9 hB; replace x10 := boxed.on x10 hB; replace r1 := r1.kept hB; replace r2 := r2.kept hB; replace r3 := r3.kept hB; replace r5 := r5.kept hB; replace r6 := r6.kept hB; replace r8 := r8.kept hB; replace r9 := r9.kept hB; replace r10 := r10.kept hB; replace hbT := hbT.trans (hB.mono hbT.size); clear hB; have x1c0 := x1.c0; have x1c1 := x1.c1; have x1l := x1.lt; have x2c0 := x2.c0; have x2c1 := x2.c1; have x2l := x2.lt; have x3c0 := x3.c0; have x3c1 := x3.c1; have x3l := x3.lt; have x5c0 := x5.c0; have x5c1 := x5.c1; have x5l := x5.lt; have x6c0 := x6.c0; have x6c1 := x6.c1; have x6l := x6.lt; have x8c0 := x8.c0; have x8c1 := x8.c1; have x8l := x8.lt; have x9c0 := x9.c0; have x9c1 := x9.c1; have x9l := x9.lt; have x10c0 := x10.c0; have x10c1 := x10.c1; have x10l := x10.lt))
          (try clear x1c0 x1c1 x1l x2c0 x2c1 x2l x3c0 x3c1 x3l x5c0 x5c1 x5l x6c0 x6c1 x6l x8c0 x8c1 x8l x9c0 x9c1 x9l x10c0 x10c1 x10l)
          have hA : Below w11.heap.size w11 (w11.alloc (.cells #[.int .i64 N3, .slice a11 (M4).length c11] 26)) := Below.alloc (Below.refl _ _) (Nat.le_refl _) _
          replace x1 := boxed.on x1 hA
          replace x2 := boxed.on x2 hA
          replace x3 := boxed.on x3 hA
          replace x5 := boxed.on x5 hA
          replace x6 := boxed.on x6 hA
          replace x8 := boxed.on x8 hA
          replace x9 := boxed.on x9 hA
          replace x10 := boxed.on x10 hA
          replace r1 := r1.kept hA
          replace r2 := r2.kept hA
          replace r3 := r3.kept hA
          replace r5 := r5.kept hA
          replace r6 := r6.kept hA
          replace r8 := r8.kept hA
          replace r9 := r9.kept hA
          replace r10 := r10.kept hA
          replace r11 := r11.kept hA
          replace hbT := hbT.trans (hA.mono hbT.size)
          have x11 : boxed (w11.alloc (.cells #[.int .i64 N3, .slice a11 (M4).length c11] 26)) w11.heap.size 26 N3 (.slice a11 (M4).length c11) := heap_alloc_last _ _
          clear hA
          skip
          generalize w11.alloc (.cells #[.int .i64 N3, .slice a11 (M4).length c11] 26) = WD at x1 x2 x3 x5 x6 x8 x9 x10 x11 r1 r2 r3 r5 r6 r8 r9 r10 r11 hbT ⊢
          have x1c0 := x1.c0
          have x1c1 := x1.c1
          have x1l := x1.lt
          have x2c0 := x2.c0
          have x2c1 := x2.c1
          have x2l := x2.lt
          have x3c0 := x3.c0
          have x3c1 := x3.c1
          have x3l := x3.lt
          have x5c0 := x5.c0
          have x5c1 := x5.c1
          have x5l := x5.lt
          have x6c0 := x6.c0
          have x6c1 := x6.c1
          have x6l := x6.lt
          have x8c0 := x8.c0
          have x8c1 := x8.c1
          have x8l := x8.lt
          have x9c0 := x9.c0
          have x9c1 := x9.c1
          have x9l := x9.lt
          have x10c0 := x10.c0
          have x10c1 := x10.c1
          have x10l := x10.lt
          have x11c0 := x11.c0
          have x11c1 := x11.c1
          have x11l := x11.lt
          have hc1 : (C1 != C1) = false := by simp
          have hc2 : (C2 != C2) = false := by simp
          have hc3 : (C3 != C3) = false := by simp
          go_upto_if 271 with (first | (go_at_call 8; (try clear x1c0 x1c1 x1l x2c0 x2c1 x2l x3c0 x3c1 x3l x5c0 x5c1 x5l x6c0 x6c1 x6l x8c0 x8c1 x8l x9c0 x9c1 x9l x10c0 x10c1 x10l x11c0 x11c1 x11l); (with_reducible refine Calls.mono (braid5_same N1 _ _ M1 _ r2 r3 HM1.out) ?_); rintro e w12 ⟨rfl, hB⟩; replace x1 := boxed.on x1 hB; replace x2 := boxed.on x2 hB; replace x3 := boxed.on x3 hB; replace x5 := boxed.on x5 hB; replace x6 := boxed.on x6 hB; replace x8 := boxed.on x8 hB; replace x9 := boxed.on x9 hB; replace x10 := boxed.on x10 hB; replace x11 := boxed.on x11 hB; replace r1 := r1.kept hB; replace r2 := r2.kept hB; replace r3 := r3.kept hB; replace r5 := r5.kept hB; replace r6 := r6.kept hB; replace r8 := r8.kept hB; replace r9 := r9.kept hB; replace r10 := r10.kept hB; replace r11 := r11.kept hB; replace hbT := hbT.trans (hB.mono hbT.size); clear hB; have x1c0 := x1.c0; have x1c1 := x1.c1; have x1l := x1.lt; have x2c0 := x2.c0; have x2c1 := x2.c1; have x2l := x2.lt; have x3c0 := x3.c0; have x3c1 := x3.c1; have x3l := x3.lt; have x5c0 := x5.c0; have x5c1 := x5.c1; have x5l := x5.lt; have x6c0 := x6.c0; have x6c1 := x6.c1; have x6l := x6.lt; have x8c0 := x8.c0; have x8c1 := x8.c1; have x8l := x8.lt; have x9c0 := x9.c0; have x9c1 := x9.c1; have x9l := x9.lt; have x10c0 := x10.c0; have x10c1 := x10.c1; have x10l := x10.lt; have x11c0 := x11.c0; have x11c1 := x11.c1; have x11l := x11.lt)
                                                  | (go_at_call 8; (try clear x1c0 x1c1 x1l x2c0 x2c1 x2l x3c0 x3c1 x3l x5c0 x5c1 x5l x6c0 x6c1 x6l x8c0 x8c1 x8l x9c0 x9c1 x9l x10c0 x10c1 x10l x11c0 x11c1 x11l); (with_reducible refine Calls.mono (braid5_same N2 _ _ M2 _ r5 r6 HM2.out) ?_); rintro e w13 ⟨rfl, hB⟩; replace x1 := boxed.on x1 hB; replace x2 := boxed.on x2 hB; replace x3 := boxed.on x3 hB; replace x5 := boxed.on x5 hB; replace x6 := boxed.on x6 hB; replace x8 := boxed.on x8 hB; replace x9 := boxed.on x9 hB; replace x10 := boxed.on x10 hB; replace x11 := boxed.on x11 hB; replace r1 := r1.kept hB; replace r2 := r2.kept hB; replace r3 := r3.kept hB; replace r5 := r5.kept hB; replace r6 := r6.kept hB; replace r8 := r8.kept hB; replace r9 := r9.kept hB; replace r10 := r10.kept hB; replace r11 := r11.kept hB; replace hbT := hbT.trans (hB.mono hbT.size); clear hB; have x1c0 := x1.c0; have x1c1 := x1.c1; have x1l := x1.lt; have x2c0 := x2.c0; have x2c1 := x2.c1; have x2l := x2.lt; have x3c0 := x3.c0; have x3c1 := x3.c1; have x3l := x3.lt; have x5c0 := x5.c0; have x5c1 := x5.c1; have x5l := x5.lt; have x6c0 := x6.c0; have x6c1 := x6.c1; have x6l := x6.lt; have x8c0 := x8.c0; have x8c1 := x8.c1; have x8l := x8.lt; have x9c0 := x9.c0; have x9c1 := x9.c1; have x9l := x9.lt; have x10c0 := x10.c0; have x10c1 := x10.c1; have x10l := x10.lt; have x11c0 := x11.c0; have x11c1 := x11.c1; have x11l := x11.lt)
                                                  | (go_at_call 8; (try clear x1c0 x1c1 x1l x2c0 x2c1 x2l x3c0 x3c1 x3l x5c0 x5c1 x5l x6c0 x6c1 x6l x8c0 x8c1 x8l x9c0 x9c1 x9l x10c0 x10c1 x10l x11c0 x11c1 x11l); (with_reducible refine Calls.mono (braid5_same N3 _ _ M3 _ r8 r9 HM3.out) ?_); rintro e w14 ⟨rfl, hB⟩; replace x1 := boxed.on x1 hB; replace x2 := boxed.on x2 hB; replace x3 := boxed.on x3 hB; replace x5 := boxed.on x5 hB; replace x6 := boxed.on x6 hB; replace x8 := boxed.on x8 hB; replace x9 := boxed.on x9 hB; replace x10 := boxed.on x10 hB; replace x11 := boxed.on x11 hB; replace r1 := r1.kept hB; replace r2 := r2.kept hB; replace r3 := r3.kept hB; replace r5 := r5.kept hB; replace r6 := r6.kept hB; replace r8 := r8.kept hB; replace r9 := r9.kept hB; replace r10 := r10.kept hB; replace r11 := r11.kept hB; replace hbT := hbT.trans (hB.mono hbT.size); clear hB; have x1c0 := x1.c0; have x1c1 := x1.c1; have x1l := x1.lt; have x2c0 := x2.c0; have x2c1 := x2.c1; have x2l := x2.lt; have x3c0 := x3.c0; have x3c1 := x3.c1; have x3l := x3.lt; have x5c0 := x5.c0; have x5c1 := x5.c1; have x5l := x5.lt; have x6c0 := x6.c0; have x6c1 := x6.c1; have x6l := x6.lt; have x8c0 := x8.c0; have x8c1 := x8.c1; have x8l := x8.lt; have x9c0 := x9.c0; have x9c1 := x9.c1; have x9l := x9.lt; have x10c0 := x10.c0; have x10c1 := x10.c1; have x10l := x10.lt; have x11c0 := x11.c0; have x11c1 := x11.c1; have x11l := x11.lt)
                                                  | (go_at_call 8; (try clear x1c0 x1c1 x1l x2c0 x2c1 x2l x3c0 x3c1 x3l x5c0 x5c1 x5l x6c0 x6c1 x6l x8c0 x8c1 x8l x9c0 x9c1 x9l x10c0 x10c1 x10l x11c0 x11c1 x11l); (with_reducible refine Calls.mono (braid5_same N3 _ _ M4 _ r10 r11 HM4.out) ?_); rintro e w15 ⟨rfl, hB⟩; replace x1 := boxed.on x1 hB; replace x2 := boxed.on x2 hB; replace x3 := boxed.on x3 hB; replace x5 := boxed.on x5 hB; replace x6 := boxed.on x6 hB; replace x8 := boxed.on x8 hB; replace x9 := boxed.on x9 hB; replace x10 := boxed.on x10 hB; replace x11 := boxed.on x11 hB; replace r1 := r1.kept hB; replace r2 := r2.kept hB; replace r3 := r3.kept hB; replace r5 := r5.kept hB; replace r6 := r6.kept hB; replace r8 := r8.kept hB; replace r9 := r9.kept hB; replace r10 := r10.kept hB; replace r11 := r11.kept hB; replace hbT := hbT.trans (hB.mono hbT.size); clear hB; have x1c0 := x1.c0; have x1c1 := x1.c1; have x1l := x1.lt; have x2c0 := x2.c0; have x2c1 := x2.c1; have x2l := x2.lt; have x3c0 := x3.c0; have x3c1 := x3.c1; have x3l := x3.lt; have x5c0 := x5.c0; have x5c1 := x5.c1; have x5l := x5.lt; have x6c0 := x6.c0; have x6c1 := x6.c1; have x6l := x6.lt; have x8c0 := x8.c0; have x8c1 := x8.c1; have x8l := x8.lt; have x9c0 := x9.c0; have x9c1 := x9.c1; have x9l := x9.lt; have x10c0 := x10.c0; have x10c1 := x10.c1; have x10l := x10.lt; have x11c0 := x11.c0; have x11c1 := x11.c1; have x11l := x11.lt))
          clear hc1 hc2 hc3 H0 H1 P0 P1 Q0 Q1 Q2 Q3
          go_cut [43, 44, 45, 46, 47] from 272 to 305 (fun s43 s44 s45 s46 s47 wc => Below w.heap.size w wc)
          case first =>
            by_cases hC0 : C3 = 0
            · subst hC0
              obtain ⟨p, f, hyp, hNp, ⟨hp1, hp8⟩, he, hp, hf⟩ := HK.out rfl
              subst hyp
              subst hNp
              have HE := Lib.hid he
              have HP := Lib.hid hp
              have HF := Lib.hid hf
              clear he hp hf HK
              go_upto_region 46 with (first | (go_at_call 13; (try clear x1c0 x1c1 x1l x2c0 x2c1 x2l x3c0 x3c1 x3l x5c0 x5c1 x5l x6c0 x6c1 x6l x8c0 x8c1 x8l x9c0 x9c1 x9l x10c0 x10c1 x10l x11c0 x11c1 x11l); (with_reducible refine Calls.mono (HE.out _ _ r8) ?_); intro e w16 hh; have hh2 := retI2_f hh; clear hh; obtain ⟨v16, rfl, hB, ho16⟩ := hh2; have r16 := ho16.reads; clear ho16; replace x1 := boxed.on x1 hB; replace x2 := boxed.on x2 hB; replace x3 := boxed.on x3 hB; replace x5 := boxed.on x5 hB; replace x6 := boxed.on x6 hB; replace x8 := boxed.on x8 hB; replace x9 := boxed.on x9 hB; replace x10 := boxed.on x10 hB; replace x11 := boxed.on x11 hB; replace r1 := r1.kept hB; replace r2 := r2.kept hB; replace r3 := r3.kept hB; replace r5 := r5.kept hB; replace r6 := r6.kept hB; replace r8 := r8.kept hB; replace r9 := r9.kept hB; replace r10 := r10.kept hB; replace r11 := r11.kept hB; replace hbT := hbT.trans (hB.mono hbT.size); clear hB; have x1c0 := x1.c0; have x1c1 := x1.c1; have x1l := x1.lt; have x2c0 := x2.c0; have x2c1 := x2.c1; have x2l := x2.lt; have x3c0 := x3.c0; have x3c1 := x3.c1; have x3l := x3.lt; have x5c0 := x5.c0; have x5c1 := x5.c1; have x5l := x5.lt; have x6c0 := x6.c0; have x6c1 := x6.c1; have x6l := x6.lt; have x8c0 := x8.c0; have x8c1 := x8.c1; have x8l := x8.lt; have x9c0 := x9.c0; have x9c1 := x9.c1; have x9l := x9.lt; have x10c0 := x10.c0; have x10c1 := x10.c1; have x10l := x10.lt; have x11c0 := x11.c0; have x11c1 := x11.c1; have x11l := x11.lt)
                                                  | (go_at_call 26; (try clear x1c0 x1c1 x1l x2c0 x2c1 x2l x3c0 x3c1 x3l x5c0 x5c1 x5l x6c0 x6c1 x6l x8c0 x8c1 x8l x9c0 x9c1 x9l x10c0 x10c1 x10l x11c0 x11c1 x11l); (with_reducible refine Calls.mono (HP.out _ _ r10) ?_); rintro e w17 ⟨rfl, hB⟩; replace x1 := boxed.on x1 hB; replace x2 := boxed.on x2 hB; replace x3 := boxed.on x3 hB; replace x5 := boxed.on x5 hB; replace x6 := boxed.on x6 hB; replace x8 := boxed.on x8 hB; replace x9 := boxed.on x9 hB; replace x10 := boxed.on x10 hB; replace x11 := boxed.on x11 hB; replace r1 := r1.kept hB; replace r2 := r2.kept hB; replace r3 := r3.kept hB; replace r5 := r5.kept hB; replace r6 := r6.kept hB; replace r8 := r8.kept hB; replace r9 := r9.kept hB; replace r10 := r10.kept hB; replace r11 := r11.kept hB; replace r16 := r16.kept hB; replace hbT := hbT.trans (hB.mono hbT.size); clear hB; have x1c0 := x1.c0; have x1c1 := x1.c1; have x1l := x1.lt; have x2c0 := x2.c0; have x2c1 := x2.c1; have x2l := x2.lt; have x3c0 := x3.c0; have x3c1 := x3.c1; have x3l := x3.lt; have x5c0 := x5.c0; have x5c1 := x5.c1; have x5l := x5.lt; have x6c0 := x6.c0; have x6c1 := x6.c1; have x6l := x6.lt; have x8c0 := x8.c0; have x8c1 := x8.c1; have x8l := x8.lt; have x9c0 := x9.c0; have x9c1 := x9.c1; have x9l := x9.lt; have x10c0 := x10.c0; have x10c1 := x10.c1; have x10l := x10.lt; have x11c0 := x11.c0; have x11c1 := x11.c1; have x11l := x11.lt))
              obtain ⟨eb, eo, ec, hv, hel, heg⟩ := reads_lst r16 hp1
              subst hv
              have HEG := Lib.hid heg
              clear heg
              go_wp2
              go_loopw [47] (fun si wr => ∃ x : Nat, x ≤ p ∧ si = .int .i64 x ∧ wr = w17) (fun si _ => p - (intOf si).toNat)
              case atStart => exact ⟨0, by omega, rfl, (by trivial)⟩
              case round =>
                obtain ⟨x, hx, rfl, rfl⟩ := hrel
                rcases Nat.lt_or_ge x p with hlt | hge
                · have hlt1 : (x : Int) < (p : Int) := by omega
                  have y1 := HEG.out x hlt
                  rw [HF.out x hlt] at y1
                  have hw1 : IntKind.i64.wrap ((p : Int) - 1) = (p : Int) - 1 := by rw [IntKind.wrap_i64]; omega
                  have hw2 : IntKind.i64.wrap ((p : Int) - 1 - (x : Int)) = (p : Int) - 1 - (x : Int) := by rw [IntKind.wrap_i64]; omega
                  have hnn : ((p : Int) - 1 - (x : Int) != (p : Int) - 1 - (x : Int)) = false := by simp
                  go_wp2
                  go_roundw
                  case rel => exact ⟨x + 1, by omega, by go_num, (by trivial)⟩
                  case measure => simp [intOf]; omega
                · obtain rfl : x = p := by omega
                  have hge1 : ¬ ((x : Int) < (x : Int)) := by omega
                  go_wp2
                  go_meet
                  case rel => exact hbT
            · have hC1 : (C3 == 0) = false := by simp [hC0]
              go_wp2
              go_meet
              case rel => exact hbT
          case rest =>
            (try clear x1 x1c0 x1c1 x1l x2 x2c0 x2c1 x2l x3 x3c0 x3c1 x3l x5 x5c0 x5c1 x5l x6 x6c0 x6c1 x6l x8 x8c0 x8c1 x8l x9 x9c0 x9c1 x9l x10 x10c0 x10c1 x10l x11 x11c0 x11c1 x11l r1 r2 r3 r5 r6 r8 r9 r10 r11)
            clear HM1 HM2 HM3 HM4 HK hnd hld hbT hz hy
            have hbT := hcut
            clear hcut
            obtain ⟨WF, hWF⟩ : ∃ x, x = wc := ⟨_, rfl⟩
            subst hWF
            go_upto_region 52 with (first | (go_at_call 27; (with_reducible refine Calls.mono (drawPure_any vc k _ (HC.out.kept hbT) hm) ?_); rintro e w1 ⟨n, v1, ds, rfl, o1, hld, hxd, hnd, hB⟩; have r1 := o1.reads; clear o1; obtain ⟨a1, c1, rfl⟩ := readsK_form r1; replace hbT := hbT.trans (hB.mono hbT.size); clear hB; skip))
            have hfd : Fits ds := hxd.fits (by decide)
            obtain ⟨B, C, hh0, hh1⟩ := pure_ok (n := n) (xs := ds) (by omega) hfd
            have H0 := Lib.hid hh0
            have H1 := Lib.hid hh1
            clear hh0 hh1 hfd hxd
            have hcc : (C == C) = true := by simp
            have hbb : (B == B) = true := by simp
            go_wp2_with (first | (go_at_call 26; have hA : Below w1.heap.size w1 (w1.alloc (.cells #[.int .i64 n, .slice a1 ds.length c1] 26)) := Below.alloc (Below.refl _ _) (Nat.le_refl _) _; replace r1 := r1.kept hA; replace hbT := hbT.trans (hA.mono hbT.size); have x1 : boxed (w1.alloc (.cells #[.int .i64 n, .slice a1 ds.length c1] 26)) w1.heap.size 26 n (.slice a1 ds.length c1) := heap_alloc_last _ _; clear hA; (with_reducible refine Calls.mono (H0.out _ _ r1) ?_); rintro e w2 ⟨rfl, hB⟩; replace x1 := boxed.on x1 hB; replace r1 := r1.kept hB; replace hbT := hbT.trans (hB.mono hbT.size); clear hB; have x1c0 := x1.c0; have x1c1 := x1.c1; have x1l := x1.lt) | (go_at_call 28; (try clear x1c0 x1c1 x1l); (with_reducible refine Calls.mono (H1.out _ _ r1) ?_); rintro e w3 ⟨rfl, hB⟩; replace x1 := boxed.on x1 hB; replace r1 := r1.kept hB; replace hbT := hbT.trans (hB.mono hbT.size); clear hB; have x1c0 := x1.c0; have x1c1 := x1.c1; have x1l := x1.lt))
            go_ret
            exact ⟨rfl, hbT⟩
  · have HBG := Lib.hid (big_yes vc k w hC hmax hm4)
    clear hC hm4 hmax
    go_enter Tryz.func3, Tryz.ntmps3
    go_wp2_with (first | (go_at_call 4; refine Calls.mono (HBG.out) ?_; rintro e w' ⟨rfl, rfl⟩))
    go_ret
    exact ⟨rfl, by (repeat (first | (with_reducible exact Below.refl _ _) | (with_reducible assumption) | (with_reducible refine below_plus' ?_ ?_; ((try simp only [plus_size, World.size_alloc, World.size_drew, World.size_setCell, size_setRow, World.heap_drewN, List.length_append]) <;> omega)) | (with_reducible refine below_alloc' ?_ ?_; ((try simp only [plus_size, World.size_alloc, World.size_drew, World.size_setCell, size_setRow, World.heap_drewN, List.length_append]) <;> omega)) | with_reducible refine Below.drew ?_ | (with_reducible refine below_drewN' ?_ _) | exact Below.refl _ _))⟩
end Go.Proofs.YtblpbkfenmkhbaaGreatDoor
