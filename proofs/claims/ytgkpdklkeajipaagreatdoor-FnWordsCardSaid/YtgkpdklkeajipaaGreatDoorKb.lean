/- The law of words. Conditions: as each theorem says. -/
import Derived.Test.YtgkpdklkeajipaaGreatDoorKd
import Derived.Deep.Cut
import Derived.Deep.CutRange
import Derived.BigRegion
import Derived.Deep.RegionWith
namespace Go.Proofs.YtgkpdklkeajipaaGreatDoor
open Go.RowKit
set_option linter.unusedSimpArgs false
set_option linter.unusedVariables false
open Go.RowKit
theorem Door.pow {w : World} (h : Door w) : PowTab w := h.1
set_option maxRecDepth 100000 in
set_option maxHeartbeats 8000000 in
theorem law_Words (vc : Value) (w : World) (k : Nat) (hC : readsC w vc k) (hmax : k ≤ 9223372036854775807) (ht : Door w) : Calls Tryz.prog 3 #[vc] w fun e w' => e = .returned (.bool true) ∧ Below w.heap.size w w' := by
  have HC := Lib.hid hC
  have HT := Lib.hid ht
  clear ht
  by_cases hm4 : (k : Int) ≤ 4096
  · have hm : k ≤ 1000000000 := by omega
    have HBG := Lib.hid (big_no vc k w hC hmax hm4)
    clear hC hm4 hmax
    go_enter Tryz.func3, Tryz.ntmps3
    go_upto_region 4 with (first | (go_at_call 4; refine Calls.mono (HBG.out) ?_; rintro e w' ⟨rfl, rfl⟩) | (go_at_call 5; refine Calls.mono (drawProd_any vc k _ (HC.out.kept (by (repeat (first | (with_reducible exact Below.refl _ _) | (with_reducible assumption) | (with_reducible refine below_plus' ?_ ?_; ((try simp only [plus_size, World.size_alloc, World.size_drew, World.size_setCell, size_setRow, World.heap_drewN, List.length_append]) <;> omega)) | (with_reducible refine below_alloc' ?_ ?_; ((try simp only [plus_size, World.size_alloc, World.size_drew, World.size_setCell, size_setRow, World.heap_drewN, List.length_append]) <;> omega)) | with_reducible refine Below.drew ?_ | (with_reducible refine below_drewN' ?_ _) | exact Below.refl _ _)))) hm) ?_; rintro e w' ⟨n, v1, xs, m, v2, ys, rfl, o1, o2, hl1, hl2, hx1, hx2, hn1, hn2, hB⟩; have r1 := o1.reads; have r2 := o2.reads; clear o1 o2; obtain ⟨a1, c1, rfl⟩ := readsK_form r1; obtain ⟨a2, c2, rfl⟩ := readsK_form r2; obtain ⟨jD, dD, rfl⟩ := plus_of_below hB; clear hB))
    have hf1 : Fits xs := hx1.fits (by decide)
    have hf2 : Fits ys := hx2.fits (by decide)
    have hp1 := fun v1 v2 w h1 h2 => impl_ProductOf n v1 xs m v2 ys w h1 h2 (by omega) (by omega) hf1 hf2
    have hp2 := fun v1 v2 w h1 h2 => spec_ProductOf n v1 xs m v2 ys w h1 h2 (by omega) (by omega) hf1 hf2
    have hi1 := fun v w h => impl_IsBraid n v xs w h (by omega) hf1
    have hi2 := fun v w h => spec_IsBraid n v xs w h (by omega) hf1
    have hok : codP n xs m ys = 0 → n = m ∧ okW n xs = true ∧ okW n ys = true ∧ xs.length + ys.length ≤ 200 ∧ goodP n xs m ys = true := prod_ok
    have hLL : (if goodP n xs m ys = true then xs ++ ys else []).length ≤ 1000000000 := by split <;> simp <;> omega
    have hg1 : goodP n xs m ys = true → (if goodP n xs m ys = true then n else 0) = n := fun h => if_pos h
    have hg2 : goodP n xs m ys = true → (if goodP n xs m ys = true then xs ++ ys else []) = xs ++ ys := fun h => if_pos h
    generalize goodP n xs m ys = G at hok hg1 hg2 hp1 hp2 hLL
    generalize okW n xs = B at hi1 hi2
    generalize (if G = true then n else 0) = N at hp1 hp2 hg1
    generalize (if G = true then xs ++ ys else []) = L at hp1 hp2 hg2 hLL
    generalize codP n xs m ys = C at hp1 hp2 hok
    have HP1 := Lib.hid hp1
    have HP2 := Lib.hid hp2
    have HI1 := Lib.hid hi1
    have HI2 := Lib.hid hi2
    have HLL := Lib.hid hLL
    have HOK := Lib.hid (And.intro hok (And.intro hg1 hg2))
    have HX1 := Lib.hid hx1
    have HX2 := Lib.hid hx2
    have hcc : (C != C) = false := by simp
    have hbb : (B != B) = false := by simp
    clear hp1 hp2 hi1 hi2 hok hg1 hg2 hLL hf1 hf2 hx1 hx2
    go_upto_region 6 with (first | (go_at_call 6; with_reducible refine Calls.mono (HP1.out _ _ _ ?_ ?_) ?_; exact r1.kept (by (repeat (first | (with_reducible exact Below.refl _ _) | (with_reducible assumption) | (with_reducible refine below_plus' ?_ ?_; ((try simp only [plus_size, World.size_alloc, World.size_drew, World.size_setCell, size_setRow, World.heap_drewN, List.length_append]) <;> omega)) | (with_reducible refine below_alloc' ?_ ?_; ((try simp only [plus_size, World.size_alloc, World.size_drew, World.size_setCell, size_setRow, World.heap_drewN, List.length_append]) <;> omega)) | with_reducible refine Below.drew ?_ | (with_reducible refine below_drewN' ?_ _) | exact Below.refl _ _))); exact r2.kept (by (repeat (first | (with_reducible exact Below.refl _ _) | (with_reducible assumption) | (with_reducible refine below_plus' ?_ ?_; ((try simp only [plus_size, World.size_alloc, World.size_drew, World.size_setCell, size_setRow, World.heap_drewN, List.length_append]) <;> omega)) | (with_reducible refine below_alloc' ?_ ?_; ((try simp only [plus_size, World.size_alloc, World.size_drew, World.size_setCell, size_setRow, World.heap_drewN, List.length_append]) <;> omega)) | with_reducible refine Below.drew ?_ | (with_reducible refine below_drewN' ?_ _) | exact Below.refl _ _))); intro e w' hh; have hh2 := retB2_f hh; clear hh; obtain ⟨vr, rfl, hB, hor⟩ := hh2; have rr := hor.reads; clear hor; obtain ⟨ar, cr, rfl⟩ := readsK_form rr; obtain ⟨jr, dr, rfl⟩ := plus_of_below hB; clear hB)
                                            | (go_at_call 7; with_reducible refine Calls.mono (HP2.out _ _ _ ?_ ?_) ?_; exact r1.kept (by (repeat (first | (with_reducible exact Below.refl _ _) | (with_reducible assumption) | (with_reducible refine below_plus' ?_ ?_; ((try simp only [plus_size, World.size_alloc, World.size_drew, World.size_setCell, size_setRow, World.heap_drewN, List.length_append]) <;> omega)) | (with_reducible refine below_alloc' ?_ ?_; ((try simp only [plus_size, World.size_alloc, World.size_drew, World.size_setCell, size_setRow, World.heap_drewN, List.length_append]) <;> omega)) | with_reducible refine Below.drew ?_ | (with_reducible refine below_drewN' ?_ _) | exact Below.refl _ _))); exact r2.kept (by (repeat (first | (with_reducible exact Below.refl _ _) | (with_reducible assumption) | (with_reducible refine below_plus' ?_ ?_; ((try simp only [plus_size, World.size_alloc, World.size_drew, World.size_setCell, size_setRow, World.heap_drewN, List.length_append]) <;> omega)) | (with_reducible refine below_alloc' ?_ ?_; ((try simp only [plus_size, World.size_alloc, World.size_drew, World.size_setCell, size_setRow, World.heap_drewN, List.length_append]) <;> omega)) | with_reducible refine Below.drew ?_ | (with_reducible refine below_drewN' ?_ _) | exact Below.refl _ _))); intro e w' hh; have hh2 := retB2_f hh; clear hh; obtain ⟨vz, rfl, hB, hoz⟩ := hh2; have rz := hoz.reads; clear hoz; obtain ⟨az, cz, rfl⟩ := readsK_form rz; obtain ⟨jz, dz, rfl⟩ := plus_of_below hB; clear hB))
    refine region_plus (by kernel_rfl) (by kernel_rfl) ?_
    repeat (go_big_quiet_step (first | (go_at_call 8; exact calls_plus (braid5_same N _ _ L _ (rr.kept (by rw [plusq_eq]; (repeat (first | (with_reducible exact Below.refl _ _) | (with_reducible assumption) | (with_reducible refine below_plus' ?_ ?_; ((try simp only [plus_size, World.size_alloc, World.size_drew, World.size_setCell, size_setRow, World.heap_drewN, List.length_append]) <;> omega)) | (with_reducible refine below_alloc' ?_ ?_; ((try simp only [plus_size, World.size_alloc, World.size_drew, World.size_setCell, size_setRow, World.heap_drewN, List.length_append]) <;> omega)) | with_reducible refine Below.drew ?_ | (with_reducible refine below_drewN' ?_ _) | exact Below.refl _ _)))) (rz.kept (by rw [plusq_eq]; (repeat (first | (with_reducible exact Below.refl _ _) | (with_reducible assumption) | (with_reducible refine below_plus' ?_ ?_; ((try simp only [plus_size, World.size_alloc, World.size_drew, World.size_setCell, size_setRow, World.heap_drewN, List.length_append]) <;> omega)) | (with_reducible refine below_alloc' ?_ ?_; ((try simp only [plus_size, World.size_alloc, World.size_drew, World.size_setCell, size_setRow, World.heap_drewN, List.length_append]) <;> omega)) | with_reducible refine Below.drew ?_ | (with_reducible refine below_drewN' ?_ _) | exact Below.refl _ _)))) HLL.out))
                                          | (go_at_call 9; exact calls_plus (HI1.out _ _ (r1.kept (by rw [plusq_eq]; (repeat (first | (with_reducible exact Below.refl _ _) | (with_reducible assumption) | (with_reducible refine below_plus' ?_ ?_; ((try simp only [plus_size, World.size_alloc, World.size_drew, World.size_setCell, size_setRow, World.heap_drewN, List.length_append]) <;> omega)) | (with_reducible refine below_alloc' ?_ ?_; ((try simp only [plus_size, World.size_alloc, World.size_drew, World.size_setCell, size_setRow, World.heap_drewN, List.length_append]) <;> omega)) | with_reducible refine Below.drew ?_ | (with_reducible refine below_drewN' ?_ _) | exact Below.refl _ _))))))
                                          | (go_at_call 10; exact calls_plus (HI2.out _ _ (r1.kept (by rw [plusq_eq]; (repeat (first | (with_reducible exact Below.refl _ _) | (with_reducible assumption) | (with_reducible refine below_plus' ?_ ?_; ((try simp only [plus_size, World.size_alloc, World.size_drew, World.size_setCell, size_setRow, World.heap_drewN, List.length_append]) <;> omega)) | (with_reducible refine below_alloc' ?_ ?_; ((try simp only [plus_size, World.size_alloc, World.size_drew, World.size_setCell, size_setRow, World.heap_drewN, List.length_append]) <;> omega)) | with_reducible refine Below.drew ?_ | (with_reducible refine below_drewN' ?_ _) | exact Below.refl _ _))))))))
    refine wpQuiet_nil ?_
    intro _ hw'
    obtain ⟨q, hw''⟩ := hw'
    subst hw''
    rw [plusq_eq]
    generalize q.j = j
    generalize q.d = d
    clear q
    
    clear hcc hbb
    by_cases hC0 : C = 0
    · subst hC0
      obtain ⟨⟨rfl, hok1, hok2, hlen, rfl⟩, hg1, hg2⟩ := And.intro (HOK.out.1 rfl) HOK.out.2
      obtain rfl := hg1 rfl
      have hL := hg2 rfl
      clear hg1 hg2 HOK HP1 HP2 HI1 HI2 HX1 HX2
      obtain ⟨p, rfl, hp1, hp8, hq1, hq2⟩ := okW_true hok1
      clear hq1 hq2
      obtain ⟨f1, f2, f3, S1, S2, T1, T2, T3, he1, he2, he3, hs1, hs2, hs3, ht1, ht2, ht3, hf, hS, hT⟩ := words_ok hok1 hok2 hlen
      rw [← hL] at he3 hs3 ht3
      have HE1 := Lib.hid he1
      have HE2 := Lib.hid he2
      have HE3 := Lib.hid he3
      have HS1 := Lib.hid hs1
      have HS2 := Lib.hid hs2
      have HS3 := Lib.hid hs3
      have HT1 := Lib.hid ht1
      have HT2 := Lib.hid ht2
      have HT3 := Lib.hid ht3
      have HF := Lib.hid hf
      have HTT := Lib.hid hT
      obtain ⟨⟨hS1, hS2⟩, ⟨hS3, hS4⟩⟩ := hS
      have hsw : IntKind.i64.wrap (S1 + S2) = S1 + S2 := by rw [IntKind.wrap_i64]; omega
      have hse : (S1 + S2 != S1 + S2) = false := by simp
      clear he1 he2 he3 hs1 hs2 hs3 ht1 ht2 ht3 hf hT hL hok1 hok2
      have xa : boxed (plus ((plus ((plus (((plus w jD dD).alloc (.cells #[.int .i64 p, .slice a1 xs.length c1] 26)).alloc (.cells #[.int .i64 p, .slice a2 ys.length c2] 26)) jr dr).alloc (.cells #[.int .i64 p, .slice ar L.length cr] 26)) jz dz).alloc (.cells #[.int .i64 p, .slice az L.length cz] 26)) j d) (w.heap.size + jD.length) 26 p (.slice a1 xs.length c1) := by (repeat (first | (refine heap_at _ _ _ ?_; ((try simp only [plus_size, World.size_alloc, World.size_drew, World.size_setCell, size_setRow, World.heap_drewN, List.length_append]) <;> omega)) | (refine heap_past' ?_ ?_; ((try simp only [plus_size, World.size_alloc, World.size_drew, World.size_setCell, size_setRow, World.heap_drewN, List.length_append]) <;> omega)) | (refine heap_plus' ?_ ?_; ((try simp only [plus_size, World.size_alloc, World.size_drew, World.size_setCell, size_setRow, World.heap_drewN, List.length_append]) <;> omega)) | assumption))
      have xb : boxed (plus ((plus ((plus (((plus w jD dD).alloc (.cells #[.int .i64 p, .slice a1 xs.length c1] 26)).alloc (.cells #[.int .i64 p, .slice a2 ys.length c2] 26)) jr dr).alloc (.cells #[.int .i64 p, .slice ar L.length cr] 26)) jz dz).alloc (.cells #[.int .i64 p, .slice az L.length cz] 26)) j d) (w.heap.size + jD.length + 1) 26 p (.slice a2 ys.length c2) := by (repeat (first | (refine heap_at _ _ _ ?_; ((try simp only [plus_size, World.size_alloc, World.size_drew, World.size_setCell, size_setRow, World.heap_drewN, List.length_append]) <;> omega)) | (refine heap_past' ?_ ?_; ((try simp only [plus_size, World.size_alloc, World.size_drew, World.size_setCell, size_setRow, World.heap_drewN, List.length_append]) <;> omega)) | (refine heap_plus' ?_ ?_; ((try simp only [plus_size, World.size_alloc, World.size_drew, World.size_setCell, size_setRow, World.heap_drewN, List.length_append]) <;> omega)) | assumption))
      have xc : boxed (plus ((plus ((plus (((plus w jD dD).alloc (.cells #[.int .i64 p, .slice a1 xs.length c1] 26)).alloc (.cells #[.int .i64 p, .slice a2 ys.length c2] 26)) jr dr).alloc (.cells #[.int .i64 p, .slice ar L.length cr] 26)) jz dz).alloc (.cells #[.int .i64 p, .slice az L.length cz] 26)) j d) (w.heap.size + jD.length + 1 + 1 + jr.length) 26 p (.slice ar L.length cr) := by (repeat (first | (refine heap_at _ _ _ ?_; ((try simp only [plus_size, World.size_alloc, World.size_drew, World.size_setCell, size_setRow, World.heap_drewN, List.length_append]) <;> omega)) | (refine heap_past' ?_ ?_; ((try simp only [plus_size, World.size_alloc, World.size_drew, World.size_setCell, size_setRow, World.heap_drewN, List.length_append]) <;> omega)) | (refine heap_plus' ?_ ?_; ((try simp only [plus_size, World.size_alloc, World.size_drew, World.size_setCell, size_setRow, World.heap_drewN, List.length_append]) <;> omega)) | assumption))
      replace r1 := r1.kept (show Below _ _ (plus ((plus ((plus (((plus w jD dD).alloc (.cells #[.int .i64 p, .slice a1 xs.length c1] 26)).alloc (.cells #[.int .i64 p, .slice a2 ys.length c2] 26)) jr dr).alloc (.cells #[.int .i64 p, .slice ar L.length cr] 26)) jz dz).alloc (.cells #[.int .i64 p, .slice az L.length cz] 26)) j d) by (repeat (first | (with_reducible exact Below.refl _ _) | (with_reducible assumption) | (with_reducible refine below_plus' ?_ ?_; ((try simp only [plus_size, World.size_alloc, World.size_drew, World.size_setCell, size_setRow, World.heap_drewN, List.length_append]) <;> omega)) | (with_reducible refine below_alloc' ?_ ?_; ((try simp only [plus_size, World.size_alloc, World.size_drew, World.size_setCell, size_setRow, World.heap_drewN, List.length_append]) <;> omega)) | with_reducible refine Below.drew ?_ | (with_reducible refine below_drewN' ?_ _) | exact Below.refl _ _)))
      replace r2 := r2.kept (show Below _ _ (plus ((plus ((plus (((plus w jD dD).alloc (.cells #[.int .i64 p, .slice a1 xs.length c1] 26)).alloc (.cells #[.int .i64 p, .slice a2 ys.length c2] 26)) jr dr).alloc (.cells #[.int .i64 p, .slice ar L.length cr] 26)) jz dz).alloc (.cells #[.int .i64 p, .slice az L.length cz] 26)) j d) by (repeat (first | (with_reducible exact Below.refl _ _) | (with_reducible assumption) | (with_reducible refine below_plus' ?_ ?_; ((try simp only [plus_size, World.size_alloc, World.size_drew, World.size_setCell, size_setRow, World.heap_drewN, List.length_append]) <;> omega)) | (with_reducible refine below_alloc' ?_ ?_; ((try simp only [plus_size, World.size_alloc, World.size_drew, World.size_setCell, size_setRow, World.heap_drewN, List.length_append]) <;> omega)) | with_reducible refine Below.drew ?_ | (with_reducible refine below_drewN' ?_ _) | exact Below.refl _ _)))
      replace rr := rr.kept (show Below _ _ (plus ((plus ((plus (((plus w jD dD).alloc (.cells #[.int .i64 p, .slice a1 xs.length c1] 26)).alloc (.cells #[.int .i64 p, .slice a2 ys.length c2] 26)) jr dr).alloc (.cells #[.int .i64 p, .slice ar L.length cr] 26)) jz dz).alloc (.cells #[.int .i64 p, .slice az L.length cz] 26)) j d) by (repeat (first | (with_reducible exact Below.refl _ _) | (with_reducible assumption) | (with_reducible refine below_plus' ?_ ?_; ((try simp only [plus_size, World.size_alloc, World.size_drew, World.size_setCell, size_setRow, World.heap_drewN, List.length_append]) <;> omega)) | (with_reducible refine below_alloc' ?_ ?_; ((try simp only [plus_size, World.size_alloc, World.size_drew, World.size_setCell, size_setRow, World.heap_drewN, List.length_append]) <;> omega)) | with_reducible refine Below.drew ?_ | (with_reducible refine below_drewN' ?_ _) | exact Below.refl _ _)))
      have hbW : Below w.heap.size w (plus ((plus ((plus (((plus w jD dD).alloc (.cells #[.int .i64 p, .slice a1 xs.length c1] 26)).alloc (.cells #[.int .i64 p, .slice a2 ys.length c2] 26)) jr dr).alloc (.cells #[.int .i64 p, .slice ar L.length cr] 26)) jz dz).alloc (.cells #[.int .i64 p, .slice az L.length cz] 26)) j d) := by (repeat (first | (with_reducible exact Below.refl _ _) | (with_reducible assumption) | (with_reducible refine below_plus' ?_ ?_; ((try simp only [plus_size, World.size_alloc, World.size_drew, World.size_setCell, size_setRow, World.heap_drewN, List.length_append]) <;> omega)) | (with_reducible refine below_alloc' ?_ ?_; ((try simp only [plus_size, World.size_alloc, World.size_drew, World.size_setCell, size_setRow, World.heap_drewN, List.length_append]) <;> omega)) | with_reducible refine Below.drew ?_ | (with_reducible refine below_drewN' ?_ _) | exact Below.refl _ _))
      clear rz
      generalize (plus ((plus ((plus (((plus w jD dD).alloc (.cells #[.int .i64 p, .slice a1 xs.length c1] 26)).alloc (.cells #[.int .i64 p, .slice a2 ys.length c2] 26)) jr dr).alloc (.cells #[.int .i64 p, .slice ar L.length cr] 26)) jz dz).alloc (.cells #[.int .i64 p, .slice az L.length cz] 26)) j d) = W1 at xa xb xc r1 r2 rr hbW ⊢
      generalize w.heap.size + jD.length + 1 + 1 + jr.length + 1 + jz.length = bz
      generalize w.heap.size + jD.length + 1 + 1 + jr.length = bc at xc ⊢
      generalize w.heap.size + jD.length + 1 = bb at xb ⊢
      generalize w.heap.size + jD.length = ba at xa ⊢
      have ka0 := xa.c0
      have ka1 := xa.c1
      have kal := xa.lt
      have kb0 := xb.c0
      have kb1 := xb.c1
      have kbl := xb.lt
      have kc0 := xc.c0
      have kc1 := xc.c1
      have kcl := xc.lt
      go_upto_region 15 with (first | (go_at_call 11; with_reducible refine Calls.mono (HE1.out _ _ r1) ?_; intro e w' hh; have hh2 := retI2_f hh; clear hh; obtain ⟨vx, rfl, hB, hox⟩ := hh2; have rx := hox.reads; clear hox; obtain ⟨gxb, gxo, gxq, rfl, lx, gx⟩ := reads_lst rx hp1; clear lx gx; replace xa := boxed.on xa hB; replace xb := boxed.on xb hB; replace xc := boxed.on xc hB; replace r1 := r1.kept hB; replace r2 := r2.kept hB; replace rr := rr.kept hB; replace hbW := hbW.trans (hB.mono hbW.size); clear hB; clear ka0 ka1 kal kb0 kb1 kbl kc0 kc1 kcl; have ka0 := xa.c0; have ka1 := xa.c1; have kal := xa.lt; have kb0 := xb.c0; have kb1 := xb.c1; have kbl := xb.lt; have kc0 := xc.c0; have kc1 := xc.c1; have kcl := xc.lt)
                                              | (go_at_call 11; with_reducible refine Calls.mono (HE2.out _ _ r2) ?_; intro e w' hh; have hh2 := retI2_f hh; clear hh; obtain ⟨vy, rfl, hB, hoy⟩ := hh2; have ry := hoy.reads; clear hoy; obtain ⟨gyb, gyo, gyq, rfl, ly, gy⟩ := reads_lst ry hp1; clear ly gy; replace xa := boxed.on xa hB; replace xb := boxed.on xb hB; replace xc := boxed.on xc hB; replace r1 := r1.kept hB; replace r2 := r2.kept hB; replace rr := rr.kept hB; replace rx := rx.kept hB; replace hbW := hbW.trans (hB.mono hbW.size); clear hB; clear ka0 ka1 kal kb0 kb1 kbl kc0 kc1 kcl; have ka0 := xa.c0; have ka1 := xa.c1; have kal := xa.lt; have kb0 := xb.c0; have kb1 := xb.c1; have kbl := xb.lt; have kc0 := xc.c0; have kc1 := xc.c1; have kcl := xc.lt)
                                              | (go_at_call 11; with_reducible refine Calls.mono (HE3.out _ _ rr) ?_; intro e w' hh; have hh2 := retI2_f hh; clear hh; obtain ⟨vz, rfl, hB, hoz⟩ := hh2; have rz := hoz.reads; clear hoz; obtain ⟨gzb, gzo, gzq, rfl, lz, gz⟩ := reads_lst rz hp1; clear lz gz; replace xa := boxed.on xa hB; replace xb := boxed.on xb hB; replace xc := boxed.on xc hB; replace r1 := r1.kept hB; replace r2 := r2.kept hB; replace rr := rr.kept hB; replace rx := rx.kept hB; replace ry := ry.kept hB; replace hbW := hbW.trans (hB.mono hbW.size); clear hB; clear ka0 ka1 kal kb0 kb1 kbl kc0 kc1 kcl; have ka0 := xa.c0; have ka1 := xa.c1; have kal := xa.lt; have kb0 := xb.c0; have kb1 := xb.c1; have kbl := xb.lt; have kc0 := xc.c0; have kc1 := xc.c1; have kcl := xc.lt)
                                              | (go_at_call 12; with_reducible refine Calls.mono (HS1.out _ _ r1) ?_; rintro e w' ⟨rfl, hB⟩; replace xa := boxed.on xa hB; replace xb := boxed.on xb hB; replace xc := boxed.on xc hB; replace r1 := r1.kept hB; replace r2 := r2.kept hB; replace rr := rr.kept hB; replace rx := rx.kept hB; replace ry := ry.kept hB; replace rz := rz.kept hB; replace hbW := hbW.trans (hB.mono hbW.size); clear hB; clear ka0 ka1 kal kb0 kb1 kbl kc0 kc1 kcl; have ka0 := xa.c0; have ka1 := xa.c1; have kal := xa.lt; have kb0 := xb.c0; have kb1 := xb.c1; have kbl := xb.lt; have kc0 := xc.c0; have kc1 := xc.c1; have kcl := xc.lt)
                                              | (go_at_call 12; with_reducible refine Calls.mono (HS2.out _ _ r2) ?_; rintro e w' ⟨rfl, hB⟩; replace xa := boxed.on xa hB; replace xb := boxed.on xb hB; replace xc := boxed.on xc hB; replace r1 := r1.kept hB; replace r2 := r2.kept hB; replace rr := rr.kept hB; replace rx := rx.kept hB; replace ry := ry.kept hB; replace rz := rz.kept hB; replace hbW := hbW.trans (hB.mono hbW.size); clear hB; clear ka0 ka1 kal kb0 kb1 kbl kc0 kc1 kcl; have ka0 := xa.c0; have ka1 := xa.c1; have kal := xa.lt; have kb0 := xb.c0; have kb1 := xb.c1; have kbl := xb.lt; have kc0 := xc.c0; have kc1 := xc.c1; have kcl := xc.lt)
                                              | (go_at_call 12; with_reducible refine Calls.mono (HS3.out _ _ rr) ?_; rintro e w' ⟨rfl, hB⟩; replace xa := boxed.on xa hB; replace xb := boxed.on xb hB; replace xc := boxed.on xc hB; replace r1 := r1.kept hB; replace r2 := r2.kept hB; replace rr := rr.kept hB; replace rx := rx.kept hB; replace ry := ry.kept hB; replace rz := rz.kept hB; replace hbW := hbW.trans (hB.mono hbW.size); clear hB; clear ka0 ka1 kal kb0 kb1 kbl kc0 kc1 kcl; have ka0 := xa.c0; have ka1 := xa.c1; have kal := xa.lt; have kb0 := xb.c0; have kb1 := xb.c1; have kbl := xb.lt; have kc0 := xc.c0; have kc1 := xc.c1; have kcl := xc.lt))
      go_upto_region 18 with (fail)
      obtain ⟨_, _, _, ex, lx, gx⟩ := reads_lst rx hp1
      cases ex
      obtain ⟨_, _, _, ey, ly, gy⟩ := reads_lst ry hp1
      cases ey
      obtain ⟨_, _, _, ez, lz, gz⟩ := reads_lst rz hp1
      cases ez
      have GX := Lib.hid gx
      have GY := Lib.hid gy
      have GZ := Lib.hid gz
      clear gx gy gz hsw hse
      obtain ⟨W2, hW2⟩ : ∃ W2, W2 = w' := ⟨_, rfl⟩
      subst hW2
      go_loopw [21] (fun si wr => ∃ (i : Nat) (j1 : List Obj) (d1 : Nat), i ≤ p ∧ si = .int .i64 i ∧ wr = plus W2 j1 d1) (fun si _ => p - (intOf si).toNat)
      case atStart => exact ⟨0, [], _, by omega, rfl, (plus_nil _).symm⟩
      case round =>
        obtain ⟨i, j1, d1, hi, rfl, rfl⟩ := hrel
        rcases Nat.lt_or_ge i p with hlt | hge
        · have hlt1 : (i : Int) < (p : Int) := by omega
          obtain ⟨he, he2⟩ := HF.out i hlt
          have z1 := GZ.out i hlt
          have x1 := GX.out i hlt
          have y1 := GY.out _ he
          rw [he2] at z1
          have he1 : (f1 i : Int) < (p : Int) := by omega
          clear he2
          generalize f1 i = e at x1 y1 z1 he he1
          generalize f2 e = q at y1 z1
          have hne : ((q : Int) != (q : Int)) = false := by simp
          have lx2 : gxb < W2.heap.size + j1.length := by omega
          have ly2 : gyb < W2.heap.size + j1.length := by omega
          have lz2 : gzb < W2.heap.size + j1.length := by omega
          go_upto_region 20 with (fail)
          refine region_plus (by kernel_rfl) (by kernel_rfl) ?_
          repeat (go_big_quiet_step (first | fail))
          refine wpQuiet_nil ?_
          intro _ hw'
          obtain ⟨q, hw''⟩ := hw'
          subst hw''
          rw [plusq_eq]
          generalize q.j = j
          generalize q.d = d
          clear q
          
          go_wp2
          go_roundw
          case rel => exact ⟨i + 1, _, _, by omega, by go_num, by rw [plus_plus]⟩
          case measure => simp [intOf]; omega
        · obtain rfl : i = p := by omega
          have hge1 : ¬ ((i : Int) < (i : Int)) := by omega
          go_upto_region 22 with (fail)
          have hB : Below W2.heap.size W2 (plus W2 j1 d1) := by (repeat (first | (with_reducible exact Below.refl _ _) | (with_reducible assumption) | (with_reducible refine below_plus' ?_ ?_; ((try simp only [plus_size, World.size_alloc, World.size_drew, World.size_setCell, size_setRow, World.heap_drewN, List.length_append]) <;> omega)) | (with_reducible refine below_alloc' ?_ ?_; ((try simp only [plus_size, World.size_alloc, World.size_drew, World.size_setCell, size_setRow, World.heap_drewN, List.length_append]) <;> omega)) | with_reducible refine Below.drew ?_ | (with_reducible refine below_drewN' ?_ _) | exact Below.refl _ _))
          replace xa := boxed.on xa hB
          replace xb := boxed.on xb hB
          replace xc := boxed.on xc hB
          replace r1 := r1.kept hB
          replace r2 := r2.kept hB
          replace rr := rr.kept hB
          replace rx := rx.kept hB
          replace hbW := hbW.trans (hB.mono hbW.size)
          clear hB lx ly lz GX GY GZ ry rz ka0 ka1 kal kb0 kb1 kbl kc0 kc1 kcl HE1 HE2 HE3 HS1 HS2 HS3
          generalize plus W2 j1 d1 = W3 at xa xb xc r1 r2 rr rx hbW ⊢
          have ka0 := xa.c0
          have ka1 := xa.c1
          have kal := xa.lt
          have kb0 := xb.c0
          have kb1 := xb.c1
          have kbl := xb.lt
          have kc0 := xc.c0
          have kc1 := xc.c1
          have kcl := xc.lt
          go_upto_region 28 with (first | (go_at_call 13; with_reducible refine Calls.mono (HT1.out _ _ r1) ?_; intro e w' hh; have hh2 := retT2_f hh; clear hh; obtain ⟨vt, rfl, hB, hot⟩ := hh2; have rt := hot.reads; clear hot; obtain ⟨gtb, gto, gtq, rfl, lt, gt⟩ := readsT.form rt hp1; clear lt gt; replace xa := boxed.on xa hB; replace xb := boxed.on xb hB; replace xc := boxed.on xc hB; replace r1 := r1.kept hB; replace r2 := r2.kept hB; replace rr := rr.kept hB; replace rx := rx.kept hB; replace hbW := hbW.trans (hB.mono hbW.size); clear hB; clear ka0 ka1 kal kb0 kb1 kbl kc0 kc1 kcl; have ka0 := xa.c0; have ka1 := xa.c1; have kal := xa.lt; have kb0 := xb.c0; have kb1 := xb.c1; have kbl := xb.lt; have kc0 := xc.c0; have kc1 := xc.c1; have kcl := xc.lt)
                                              | (go_at_call 13; with_reducible refine Calls.mono (HT2.out _ _ r2) ?_; intro e w' hh; have hh2 := retT2_f hh; clear hh; obtain ⟨vo, rfl, hB, hoo⟩ := hh2; have ro := hoo.reads; clear hoo; obtain ⟨gob, goo, goq, rfl, lo, go⟩ := readsT.form ro hp1; clear lo go; replace xa := boxed.on xa hB; replace xb := boxed.on xb hB; replace xc := boxed.on xc hB; replace r1 := r1.kept hB; replace r2 := r2.kept hB; replace rr := rr.kept hB; replace rx := rx.kept hB; replace rt := rt.kept hB; replace hbW := hbW.trans (hB.mono hbW.size); clear hB; clear ka0 ka1 kal kb0 kb1 kbl kc0 kc1 kcl; have ka0 := xa.c0; have ka1 := xa.c1; have kal := xa.lt; have kb0 := xb.c0; have kb1 := xb.c1; have kbl := xb.lt; have kc0 := xc.c0; have kc1 := xc.c1; have kcl := xc.lt)
                                              | (go_at_call 13; with_reducible refine Calls.mono (HT3.out _ _ rr) ?_; intro e w' hh; have hh2 := retT2_f hh; clear hh; obtain ⟨vl, rfl, hB, hol⟩ := hh2; have rl := hol.reads; clear hol; obtain ⟨glb, glo, glq, rfl, ll, gl⟩ := readsT.form rl hp1; clear ll gl; replace xa := boxed.on xa hB; replace xb := boxed.on xb hB; replace xc := boxed.on xc hB; replace r1 := r1.kept hB; replace r2 := r2.kept hB; replace rr := rr.kept hB; replace rx := rx.kept hB; replace rt := rt.kept hB; replace ro := ro.kept hB; replace hbW := hbW.trans (hB.mono hbW.size); clear hB; clear ka0 ka1 kal kb0 kb1 kbl kc0 kc1 kcl; have ka0 := xa.c0; have ka1 := xa.c1; have kal := xa.lt; have kb0 := xb.c0; have kb1 := xb.c1; have kbl := xb.lt; have kc0 := xc.c0; have kc1 := xc.c1; have kcl := xc.lt))
          obtain ⟨_, _, _, ex, lx, gx⟩ := reads_lst rx hp1
          cases ex
          obtain ⟨_, _, _, et, lt, gt⟩ := readsT.form rt hp1
          cases et
          obtain ⟨_, _, _, eo, lo, go⟩ := readsT.form ro hp1
          cases eo
          obtain ⟨_, _, _, el, ll, gl⟩ := readsT.form rl hp1
          cases el
          have GX := Lib.hid gx
          have GT := Lib.hid gt
          have GO := Lib.hid go
          have GL := Lib.hid gl
          clear gx gt go gl r1 r2 rr rx rt ro rl xb xc kb0 kb1 kbl kc0 kc1 kcl HT1 HT2 HT3
          obtain ⟨W4, hW4⟩ : ∃ W4, W4 = w' := ⟨_, rfl⟩
          subst hW4
          go_loopw [28] (fun si wr => ∃ (x : Nat) (j1 : List Obj) (d1 : Nat), x ≤ i ∧ si = .int .i64 x ∧ wr = plus W4 j1 d1) (fun si _ => i - (intOf si).toNat)
          case atStart => exact ⟨0, [], _, by omega, rfl, (plus_nil _).symm⟩
          case round =>
            obtain ⟨x, j1, d1, hx, rfl, rfl⟩ := hrel
            rcases Nat.lt_or_ge x i with hlt | hge
            · have hlt1 : (x : Int) < (i : Int) := by omega
              go_upto_region 31 with (fail)
              go_loopw [29] (fun sj wr => ∃ (y : Nat) (j2 : List Obj) (d2 : Nat), y ≤ i ∧ sj = .int .i64 y ∧ wr = plus W4 j2 d2) (fun sj _ => i - (intOf sj).toNat)
              case atStart => exact ⟨0, j1, d1, by omega, rfl, rfl⟩
              case round =>
                obtain ⟨y, j2, d2, hy, rfl, rfl⟩ := hrel
                rcases Nat.lt_or_ge y i with hly | hgy
                · have hly1 : (y : Int) < (i : Int) := by omega
                  have he := (HF.out x hlt).1
                  have he' := (HF.out y hly).1
                  obtain ⟨t1, t2, ⟨t3, t4⟩, t5, t6⟩ := HTT.out x y hlt hly
                  have x1 := GX.out x hlt
                  have y1 := GX.out y hly
                  obtain ⟨rb1, ro1, rc1, q11, q12, q13⟩ := GL.out x hlt
                  obtain ⟨rb2, ro2, rc2, q21, q22, q23⟩ := GL.out y hly
                  obtain ⟨rb3, ro3, rc3, q31, q32, q33⟩ := GT.out x hlt
                  obtain ⟨rb4, ro4, rc4, q41, q42, q43⟩ := GO.out _ he
                  replace q13 := q13 y hly
                  replace q23 := q23 x hlt
                  replace q33 := q33 y hly
                  replace q43 := q43 _ he'
                  rw [t2, t1] at q23
                  rw [t1] at q13
                  have he1 : (f1 x : Int) < (i : Int) := by omega
                  have he2 : (f1 y : Int) < (i : Int) := by omega
                  clear t1 t2
                  generalize T1 x y = A at q13 q23 q33 t3 t4
                  generalize T2 (f1 x) (f1 y) = O at q13 q23 q43 t5 t6
                  generalize f1 x = e1 at x1 q41 he he1
                  generalize f1 y = e2 at y1 q43 he' he2
                  have hw : IntKind.i64.wrap (A + O) = A + O := by rw [IntKind.wrap_i64]; omega
                  have hne : (A + O != A + O) = false := by simp
                  have u0 : gxb < W4.heap.size + j2.length := by omega
                  have u1 : gtb < W4.heap.size + j2.length := by omega
                  have u2 : gob < W4.heap.size + j2.length := by omega
                  have u3 : glb < W4.heap.size + j2.length := by omega
                  have u4 : rb1 < W4.heap.size + j2.length := by omega
                  have u5 : rb2 < W4.heap.size + j2.length := by omega
                  have u6 : rb3 < W4.heap.size + j2.length := by omega
                  have u7 : rb4 < W4.heap.size + j2.length := by omega
                  go_upto_region 33 with (fail)
                  refine region_plus (by kernel_rfl) (by kernel_rfl) ?_
                  repeat (go_big_quiet_step (first | fail))
                  refine wpQuiet_nil ?_
                  intro _ hw'
                  obtain ⟨q, hw''⟩ := hw'
                  subst hw''
                  rw [plusq_eq]
                  generalize q.j = j
                  generalize q.d = d
                  clear q
                  
                  go_wp2
                  go_roundw
                  case rel => exact ⟨y + 1, _, _, by omega, by go_num, by rw [plus_plus]⟩
                  case measure => simp [intOf]; omega
                · obtain rfl : y = i := by omega
                  have hgy1 : ¬ ((y : Int) < (y : Int)) := by omega
                  go_wp2
                  go_roundw
                  case rel => exact ⟨x + 1, _, _, by omega, by go_num, rfl⟩
                  case measure => simp [intOf]; omega
            · obtain rfl : x = i := by omega
              have hge2 : ¬ ((x : Int) < (x : Int)) := by omega
              go_upto_region 35 with (fail)
              have hs4 := hbW.size
              refine wp_belowK (w := w) (by (repeat (first | (with_reducible exact Below.refl _ _) | (with_reducible assumption) | (with_reducible refine below_plus' ?_ ?_; ((try simp only [plus_size, World.size_alloc, World.size_drew, World.size_setCell, size_setRow, World.heap_drewN, List.length_append]) <;> omega)) | (with_reducible refine below_alloc' ?_ ?_; ((try simp only [plus_size, World.size_alloc, World.size_drew, World.size_setCell, size_setRow, World.heap_drewN, List.length_append]) <;> omega)) | with_reducible refine Below.drew ?_ | (with_reducible refine below_drewN' ?_ _) | exact Below.refl _ _))) fun WT hbT => ?_
              go_upto_region 36 with (first | (go_at_call 14; refine Calls.mono (drawInv_any vc k _ (HC.out.kept hbT) hm) ?_; rintro e w0 ⟨n, v0, ds, rfl, o0, hld, hxd, hnd, hB⟩; have r0 := o0.reads; clear o0; obtain ⟨a0, c0, rfl⟩ := readsK_form r0; replace hbT := hbT.trans (hB.mono hbT.size); clear hB))
              have hfd : Fits ds := hxd.fits (by decide)
              obtain ⟨N0, L1, L2, L3, L4, U, hh0, hh1, hh2, hh3, hh4, hh5, hh6, hh7, ⟨hl1, hl2, hl3, hl4⟩, hU⟩ := four_ok (n := n) (xs := ds) (by omega) hfd
              have H0 := Lib.hid hh0
              have H1 := Lib.hid hh1
              have H2 := Lib.hid hh2
              have H3 := Lib.hid hh3
              have H4 := Lib.hid hh4
              have H5 := Lib.hid hh5
              have H6 := Lib.hid hh6
              have H7 := Lib.hid hh7
              have HL1 := Lib.hid hl1
              have HL2 := Lib.hid hl2
              have HL3 := Lib.hid hl3
              have HL4 := Lib.hid hl4
              have HU := Lib.hid hU
              clear hh0 hh1 hh2 hh3 hh4 hh5 hh6 hh7 hl1 hl2 hl3 hl4 hU hfd hxd
              go_upto_region 44 with (first | (go_at_call 15; have hA : Below w0.heap.size w0 (w0.alloc (.cells #[.int .i64 n, .slice a0 ds.length c0] 26)) := Below.alloc (Below.refl _ _) (Nat.le_refl _) _; replace r0 := r0.kept hA; replace hbT := hbT.trans (hA.mono hbT.size); have x0 : boxed (w0.alloc (.cells #[.int .i64 n, .slice a0 ds.length c0] 26)) w0.heap.size 26 n (.slice a0 ds.length c0) := heap_alloc_last _ _; clear hA; with_reducible refine Calls.mono (H0.out _ _ r0) ?_; intro e w1 hh; have hh2 := retB2_f hh; clear hh; obtain ⟨v1, rfl, hB, ho1⟩ := hh2; have r1 := ho1.reads; clear ho1; obtain ⟨a1, c1, rfl⟩ := readsK_form r1; replace x0 := boxed.on x0 hB; replace r0 := r0.kept hB; replace hbT := hbT.trans (hB.mono hbT.size); clear hB; have x0c0 := x0.c0; have x0c1 := x0.c1; have x0l := x0.lt)
                                                      | (go_at_call 16; (try clear x0c0 x0c1 x0l); have hA : Below w1.heap.size w1 (w1.alloc (.cells #[.int .i64 N0, .slice a1 (L1).length c1] 26)) := Below.alloc (Below.refl _ _) (Nat.le_refl _) _; replace x0 := boxed.on x0 hA; replace r0 := r0.kept hA; replace r1 := r1.kept hA; replace hbT := hbT.trans (hA.mono hbT.size); have x1 : boxed (w1.alloc (.cells #[.int .i64 N0, .slice a1 (L1).length c1] 26)) w1.heap.size 26 N0 (.slice a1 (L1).length c1) := heap_alloc_last _ _; clear hA; with_reducible refine Calls.mono (H1.out _ _ r0) ?_; intro e w2 hh; have hh2 := retB2_f hh; clear hh; obtain ⟨v2, rfl, hB, ho2⟩ := hh2; have r2 := ho2.reads; clear ho2; obtain ⟨a2, c2, rfl⟩ := readsK_form r2; replace x0 := boxed.on x0 hB; replace x1 := boxed.on x1 hB; replace r0 := r0.kept hB; replace r1 := r1.kept hB; replace hbT := hbT.trans (hB.mono hbT.size); clear hB; have x0c0 := x0.c0; have x0c1 := x0.c1; have x0l := x0.lt; have x1c0 := x1.c0; have x1c1 := x1.c1; have x1l := x1.lt)
                                                      | (go_at_call 17; (try clear x0c0 x0c1 x0l x1c0 x1c1 x1l); have hA : Below w2.heap.size w2 (w2.alloc (.cells #[.int .i64 N0, .slice a2 (L1).length c2] 26)) := Below.alloc (Below.refl _ _) (Nat.le_refl _) _; replace x0 := boxed.on x0 hA; replace x1 := boxed.on x1 hA; replace r0 := r0.kept hA; replace r1 := r1.kept hA; replace r2 := r2.kept hA; replace hbT := hbT.trans (hA.mono hbT.size); have x2 : boxed (w2.alloc (.cells #[.int .i64 N0, .slice a2 (L1).length c2] 26)) w2.heap.size 26 N0 (.slice a2 (L1).length c2) := heap_alloc_last _ _; clear hA; with_reducible refine Calls.mono (H2.out _ _ r0) ?_; intro e w3 hh; have hh2 := retB2_f hh; clear hh; obtain ⟨v3, rfl, hB, ho3⟩ := hh2; have r3 := ho3.reads; clear ho3; obtain ⟨a3, c3, rfl⟩ := readsK_form r3; replace x0 := boxed.on x0 hB; replace x1 := boxed.on x1 hB; replace x2 := boxed.on x2 hB; replace r0 := r0.kept hB; replace r1 := r1.kept hB; replace r2 := r2.kept hB; replace hbT := hbT.trans (hB.mono hbT.size); clear hB; have x0c0 := x0.c0; have x0c1 := x0.c1; have x0l := x0.lt; have x1c0 := x1.c0; have x1c1 := x1.c1; have x1l := x1.lt; have x2c0 := x2.c0; have x2c1 := x2.c1; have x2l := x2.lt)
                                                      | (go_at_call 18; (try clear x0c0 x0c1 x0l x1c0 x1c1 x1l x2c0 x2c1 x2l); have hA : Below w3.heap.size w3 (w3.alloc (.cells #[.int .i64 N0, .slice a3 (L2).length c3] 26)) := Below.alloc (Below.refl _ _) (Nat.le_refl _) _; replace x0 := boxed.on x0 hA; replace x1 := boxed.on x1 hA; replace x2 := boxed.on x2 hA; replace r0 := r0.kept hA; replace r1 := r1.kept hA; replace r2 := r2.kept hA; replace r3 := r3.kept hA; replace hbT := hbT.trans (hA.mono hbT.size); have x3 : boxed (w3.alloc (.cells #[.int .i64 N0, .slice a3 (L2).length c3] 26)) w3.heap.size 26 N0 (.slice a3 (L2).length c3) := heap_alloc_last _ _; clear hA; with_reducible refine Calls.mono (H3.out _ _ r0) ?_; intro e w4 hh; have hh2 := retB2_f hh; clear hh; obtain ⟨v4, rfl, hB, ho4⟩ := hh2; have r4 := ho4.reads; clear ho4; obtain ⟨a4, c4, rfl⟩ := readsK_form r4; replace x0 := boxed.on x0 hB; replace x1 := boxed.on x1 hB; replace x2 := boxed.on x2 hB; replace x3 := boxed.on x3 hB; replace r0 := r0.kept hB; replace r1 := r1.kept hB; replace r2 := r2.kept hB; replace r3 := r3.kept hB; replace hbT := hbT.trans (hB.mono hbT.size); clear hB; have x0c0 := x0.c0; have x0c1 := x0.c1; have x0l := x0.lt; have x1c0 := x1.c0; have x1c1 := x1.c1; have x1l := x1.lt; have x2c0 := x2.c0; have x2c1 := x2.c1; have x2l := x2.lt; have x3c0 := x3.c0; have x3c1 := x3.c1; have x3l := x3.lt)
                                                      | (go_at_call 19; (try clear x0c0 x0c1 x0l x1c0 x1c1 x1l x2c0 x2c1 x2l x3c0 x3c1 x3l); have hA : Below w4.heap.size w4 (w4.alloc (.cells #[.int .i64 N0, .slice a4 (L2).length c4] 26)) := Below.alloc (Below.refl _ _) (Nat.le_refl _) _; replace x0 := boxed.on x0 hA; replace x1 := boxed.on x1 hA; replace x2 := boxed.on x2 hA; replace x3 := boxed.on x3 hA; replace r0 := r0.kept hA; replace r1 := r1.kept hA; replace r2 := r2.kept hA; replace r3 := r3.kept hA; replace r4 := r4.kept hA; replace hbT := hbT.trans (hA.mono hbT.size); have x4 : boxed (w4.alloc (.cells #[.int .i64 N0, .slice a4 (L2).length c4] 26)) w4.heap.size 26 N0 (.slice a4 (L2).length c4) := heap_alloc_last _ _; clear hA; with_reducible refine Calls.mono (H4.out _ _ r0) ?_; intro e w5 hh; have hh2 := retB2_f hh; clear hh; obtain ⟨v5, rfl, hB, ho5⟩ := hh2; have r5 := ho5.reads; clear ho5; obtain ⟨a5, c5, rfl⟩ := readsK_form r5; replace x0 := boxed.on x0 hB; replace x1 := boxed.on x1 hB; replace x2 := boxed.on x2 hB; replace x3 := boxed.on x3 hB; replace x4 := boxed.on x4 hB; replace r0 := r0.kept hB; replace r1 := r1.kept hB; replace r2 := r2.kept hB; replace r3 := r3.kept hB; replace r4 := r4.kept hB; replace hbT := hbT.trans (hB.mono hbT.size); clear hB; have x0c0 := x0.c0; have x0c1 := x0.c1; have x0l := x0.lt; have x1c0 := x1.c0; have x1c1 := x1.c1; have x1l := x1.lt; have x2c0 := x2.c0; have x2c1 := x2.c1; have x2l := x2.lt; have x3c0 := x3.c0; have x3c1 := x3.c1; have x3l := x3.lt; have x4c0 := x4.c0; have x4c1 := x4.c1; have x4l := x4.lt)
                                                      | (go_at_call 20; (try clear x0c0 x0c1 x0l x1c0 x1c1 x1l x2c0 x2c1 x2l x3c0 x3c1 x3l x4c0 x4c1 x4l); have hA : Below w5.heap.size w5 (w5.alloc (.cells #[.int .i64 N0, .slice a5 (L3).length c5] 26)) := Below.alloc (Below.refl _ _) (Nat.le_refl _) _; replace x0 := boxed.on x0 hA; replace x1 := boxed.on x1 hA; replace x2 := boxed.on x2 hA; replace x3 := boxed.on x3 hA; replace x4 := boxed.on x4 hA; replace r0 := r0.kept hA; replace r1 := r1.kept hA; replace r2 := r2.kept hA; replace r3 := r3.kept hA; replace r4 := r4.kept hA; replace r5 := r5.kept hA; replace hbT := hbT.trans (hA.mono hbT.size); have x5 : boxed (w5.alloc (.cells #[.int .i64 N0, .slice a5 (L3).length c5] 26)) w5.heap.size 26 N0 (.slice a5 (L3).length c5) := heap_alloc_last _ _; clear hA; with_reducible refine Calls.mono (H5.out _ _ r0) ?_; intro e w6 hh; have hh2 := retB2_f hh; clear hh; obtain ⟨v6, rfl, hB, ho6⟩ := hh2; have r6 := ho6.reads; clear ho6; obtain ⟨a6, c6, rfl⟩ := readsK_form r6; replace x0 := boxed.on x0 hB; replace x1 := boxed.on x1 hB; replace x2 := boxed.on x2 hB; replace x3 := boxed.on x3 hB; replace x4 := boxed.on x4 hB; replace x5 := boxed.on x5 hB; replace r0 := r0.kept hB; replace r1 := r1.kept hB; replace r2 := r2.kept hB; replace r3 := r3.kept hB; replace r4 := r4.kept hB; replace r5 := r5.kept hB; replace hbT := hbT.trans (hB.mono hbT.size); clear hB; have x0c0 := x0.c0; have x0c1 := x0.c1; have x0l := x0.lt; have x1c0 := x1.c0; have x1c1 := x1.c1; have x1l := x1.lt; have x2c0 := x2.c0; have x2c1 := x2.c1; have x2l := x2.lt; have x3c0 := x3.c0; have x3c1 := x3.c1; have x3l := x3.lt; have x4c0 := x4.c0; have x4c1 := x4.c1; have x4l := x4.lt; have x5c0 := x5.c0; have x5c1 := x5.c1; have x5l := x5.lt)
                                                      | (go_at_call 21; (try clear x0c0 x0c1 x0l x1c0 x1c1 x1l x2c0 x2c1 x2l x3c0 x3c1 x3l x4c0 x4c1 x4l x5c0 x5c1 x5l); have hA : Below w6.heap.size w6 (w6.alloc (.cells #[.int .i64 N0, .slice a6 (L3).length c6] 26)) := Below.alloc (Below.refl _ _) (Nat.le_refl _) _; replace x0 := boxed.on x0 hA; replace x1 := boxed.on x1 hA; replace x2 := boxed.on x2 hA; replace x3 := boxed.on x3 hA; replace x4 := boxed.on x4 hA; replace x5 := boxed.on x5 hA; replace r0 := r0.kept hA; replace r1 := r1.kept hA; replace r2 := r2.kept hA; replace r3 := r3.kept hA; replace r4 := r4.kept hA; replace r5 := r5.kept hA; replace r6 := r6.kept hA; replace hbT := hbT.trans (hA.mono hbT.size); have x6 : boxed (w6.alloc (.cells #[.int .i64 N0, .slice a6 (L3).length c6] 26)) w6.heap.size 26 N0 (.slice a6 (L3).length c6) := heap_alloc_last _ _; clear hA; with_reducible refine Calls.mono (H6.out _ _ r0) ?_; intro e w7 hh; have hh2 := retB2_f hh; clear hh; obtain ⟨v7, rfl, hB, ho7⟩ := hh2; have r7 := ho7.reads; clear ho7; obtain ⟨a7, c7, rfl⟩ := readsK_form r7; replace x0 := boxed.on x0 hB; replace x1 := boxed.on x1 hB; replace x2 := boxed.on x2 hB; replace x3 := boxed.on x3 hB; replace x4 := boxed.on x4 hB; replace x5 := boxed.on x5 hB; replace x6 := boxed.on x6 hB; replace r0 := r0.kept hB; replace r1 := r1.kept hB; replace r2 := r2.kept hB; replace r3 := r3.kept hB; replace r4 := r4.kept hB; replace r5 := r5.kept hB; replace r6 := r6.kept hB; replace hbT := hbT.trans (hB.mono hbT.size); clear hB; have x0c0 := x0.c0; have x0c1 := x0.c1; have x0l := x0.lt; have x1c0 := x1.c0; have x1c1 := x1.c1; have x1l := x1.lt; have x2c0 := x2.c0; have x2c1 := x2.c1; have x2l := x2.lt; have x3c0 := x3.c0; have x3c1 := x3.c1; have x3l := x3.lt; have x4c0 := x4.c0; have x4c1 := x4.c1; have x4l := x4.lt; have x5c0 := x5.c0; have x5c1 := x5.c1; have x5l := x5.lt; have x6c0 := x6.c0; have x6c1 := x6.c1; have x6l := x6.lt)
                                                      | (go_at_call 22; (try clear x0c0 x0c1 x0l x1c0 x1c1 x1l x2c0 x2c1 x2l x3c0 x3c1 x3l x4c0 x4c1 x4l x5c0 x5c1 x5l x6c0 x6c1 x6l); have hA : Below w7.heap.size w7 (w7.alloc (.cells #[.int .i64 N0, .slice a7 (L4).length c7] 26)) := Below.alloc (Below.refl _ _) (Nat.le_refl _) _; replace x0 := boxed.on x0 hA; replace x1 := boxed.on x1 hA; replace x2 := boxed.on x2 hA; replace x3 := boxed.on x3 hA; replace x4 := boxed.on x4 hA; replace x5 := boxed.on x5 hA; replace x6 := boxed.on x6 hA; replace r0 := r0.kept hA; replace r1 := r1.kept hA; replace r2 := r2.kept hA; replace r3 := r3.kept hA; replace r4 := r4.kept hA; replace r5 := r5.kept hA; replace r6 := r6.kept hA; replace r7 := r7.kept hA; replace hbT := hbT.trans (hA.mono hbT.size); have x7 : boxed (w7.alloc (.cells #[.int .i64 N0, .slice a7 (L4).length c7] 26)) w7.heap.size 26 N0 (.slice a7 (L4).length c7) := heap_alloc_last _ _; clear hA; with_reducible refine Calls.mono (H7.out _ _ r0) ?_; intro e w8 hh; have hh2 := retB2_f hh; clear hh; obtain ⟨v8, rfl, hB, ho8⟩ := hh2; have r8 := ho8.reads; clear ho8; obtain ⟨a8, c8, rfl⟩ := readsK_form r8; replace x0 := boxed.on x0 hB; replace x1 := boxed.on x1 hB; replace x2 := boxed.on x2 hB; replace x3 := boxed.on x3 hB; replace x4 := boxed.on x4 hB; replace x5 := boxed.on x5 hB; replace x6 := boxed.on x6 hB; replace x7 := boxed.on x7 hB; replace r0 := r0.kept hB; replace r1 := r1.kept hB; replace r2 := r2.kept hB; replace r3 := r3.kept hB; replace r4 := r4.kept hB; replace r5 := r5.kept hB; replace r6 := r6.kept hB; replace r7 := r7.kept hB; replace hbT := hbT.trans (hB.mono hbT.size); clear hB; have x0c0 := x0.c0; have x0c1 := x0.c1; have x0l := x0.lt; have x1c0 := x1.c0; have x1c1 := x1.c1; have x1l := x1.lt; have x2c0 := x2.c0; have x2c1 := x2.c1; have x2l := x2.lt; have x3c0 := x3.c0; have x3c1 := x3.c1; have x3l := x3.lt; have x4c0 := x4.c0; have x4c1 := x4.c1; have x4l := x4.lt; have x5c0 := x5.c0; have x5c1 := x5.c1; have x5l := x5.lt; have x6c0 := x6.c0; have x6c1 := x6.c1; have x6l := x6.lt; have x7c0 := x7.c0; have x7c1 := x7.c1; have x7l := x7.lt))
              (try clear x0c0 x0c1 x0l x1c0 x1c1 x1l x2c0 x2c1 x2l x3c0 x3c1 x3l x4c0 x4c1 x4l x5c0 x5c1 x5l x6c0 x6c1 x6l x7c0 x7c1 x7l)
              have hA : Below w8.heap.size w8 (w8.alloc (.cells #[.int .i64 N0, .slice a8 (L4).length c8] 26)) := Below.alloc (Below.refl _ _) (Nat.le_refl _) _
              replace x0 := boxed.on x0 hA
              replace x1 := boxed.on x1 hA
              replace x2 := boxed.on x2 hA
              replace x3 := boxed.on x3 hA
              replace x4 := boxed.on x4 hA
              replace x5 := boxed.on x5 hA
              replace x6 := boxed.on x6 hA
              replace x7 := boxed.on x7 hA
              replace r0 := r0.kept hA
              replace r1 := r1.kept hA
              replace r2 := r2.kept hA
              replace r3 := r3.kept hA
              replace r4 := r4.kept hA
              replace r5 := r5.kept hA
              replace r6 := r6.kept hA
              replace r7 := r7.kept hA
              replace r8 := r8.kept hA
              replace hbT := hbT.trans (hA.mono hbT.size)
              have x8 : boxed (w8.alloc (.cells #[.int .i64 N0, .slice a8 (L4).length c8] 26)) w8.heap.size 26 N0 (.slice a8 (L4).length c8) := heap_alloc_last _ _
              clear hA
              skip
              generalize w8.alloc (.cells #[.int .i64 N0, .slice a8 (L4).length c8] 26) = WU at x0 x1 x2 x3 x4 x5 x6 x7 x8 r0 r1 r2 r3 r4 r5 r6 r7 r8 hbT ⊢
              have x0c0 := x0.c0
              have x0c1 := x0.c1
              have x0l := x0.lt
              have x1c0 := x1.c0
              have x1c1 := x1.c1
              have x1l := x1.lt
              have x2c0 := x2.c0
              have x2c1 := x2.c1
              have x2l := x2.lt
              have x3c0 := x3.c0
              have x3c1 := x3.c1
              have x3l := x3.lt
              have x4c0 := x4.c0
              have x4c1 := x4.c1
              have x4l := x4.lt
              have x5c0 := x5.c0
              have x5c1 := x5.c1
              have x5l := x5.lt
              have x6c0 := x6.c0
              have x6c1 := x6.c1
              have x6l := x6.lt
              have x7c0 := x7.c0
              have x7c1 := x7.c1
              have x7l := x7.lt
              have x8c0 := x8.c0
              have x8c1 := x8.c1
              have x8l := x8.lt
              have hcU : (U != U) = false := by simp
              go_upto_region 46 with (first | (go_at_call 8; (try clear x0c0 x0c1 x0l x1c0 x1c1 x1l x2c0 x2c1 x2l x3c0 x3c1 x3l x4c0 x4c1 x4l x5c0 x5c1 x5l x6c0 x6c1 x6l x7c0 x7c1 x7l x8c0 x8c1 x8l); with_reducible refine Calls.mono (braid5_same N0 _ _ L1 _ r1 r2 HL1.out) ?_; rintro e w9 ⟨rfl, hB⟩; replace x0 := boxed.on x0 hB; replace x1 := boxed.on x1 hB; replace x2 := boxed.on x2 hB; replace x3 := boxed.on x3 hB; replace x4 := boxed.on x4 hB; replace x5 := boxed.on x5 hB; replace x6 := boxed.on x6 hB; replace x7 := boxed.on x7 hB; replace x8 := boxed.on x8 hB; replace r0 := r0.kept hB; replace r1 := r1.kept hB; replace r2 := r2.kept hB; replace r3 := r3.kept hB; replace r4 := r4.kept hB; replace r5 := r5.kept hB; replace r6 := r6.kept hB; replace r7 := r7.kept hB; replace r8 := r8.kept hB; replace hbT := hbT.trans (hB.mono hbT.size); clear hB; have x0c0 := x0.c0; have x0c1 := x0.c1; have x0l := x0.lt; have x1c0 := x1.c0; have x1c1 := x1.c1; have x1l := x1.lt; have x2c0 := x2.c0; have x2c1 := x2.c1; have x2l := x2.lt; have x3c0 := x3.c0; have x3c1 := x3.c1; have x3l := x3.lt; have x4c0 := x4.c0; have x4c1 := x4.c1; have x4l := x4.lt; have x5c0 := x5.c0; have x5c1 := x5.c1; have x5l := x5.lt; have x6c0 := x6.c0; have x6c1 := x6.c1; have x6l := x6.lt; have x7c0 := x7.c0; have x7c1 := x7.c1; have x7l := x7.lt; have x8c0 := x8.c0; have x8c1 := x8.c1; have x8l := x8.lt)
                                                      | (go_at_call 8; (try clear x0c0 x0c1 x0l x1c0 x1c1 x1l x2c0 x2c1 x2l x3c0 x3c1 x3l x4c0 x4c1 x4l x5c0 x5c1 x5l x6c0 x6c1 x6l x7c0 x7c1 x7l x8c0 x8c1 x8l); with_reducible refine Calls.mono (braid5_same N0 _ _ L2 _ r3 r4 HL2.out) ?_; rintro e w10 ⟨rfl, hB⟩; replace x0 := boxed.on x0 hB; replace x1 := boxed.on x1 hB; replace x2 := boxed.on x2 hB; replace x3 := boxed.on x3 hB; replace x4 := boxed.on x4 hB; replace x5 := boxed.on x5 hB; replace x6 := boxed.on x6 hB; replace x7 := boxed.on x7 hB; replace x8 := boxed.on x8 hB; replace r0 := r0.kept hB; replace r1 := r1.kept hB; replace r2 := r2.kept hB; replace r3 := r3.kept hB; replace r4 := r4.kept hB; replace r5 := r5.kept hB; replace r6 := r6.kept hB; replace r7 := r7.kept hB; replace r8 := r8.kept hB; replace hbT := hbT.trans (hB.mono hbT.size); clear hB; have x0c0 := x0.c0; have x0c1 := x0.c1; have x0l := x0.lt; have x1c0 := x1.c0; have x1c1 := x1.c1; have x1l := x1.lt; have x2c0 := x2.c0; have x2c1 := x2.c1; have x2l := x2.lt; have x3c0 := x3.c0; have x3c1 := x3.c1; have x3l := x3.lt; have x4c0 := x4.c0; have x4c1 := x4.c1; have x4l := x4.lt; have x5c0 := x5.c0; have x5c1 := x5.c1; have x5l := x5.lt; have x6c0 := x6.c0; have x6c1 := x6.c1; have x6l := x6.lt; have x7c0 := x7.c0; have x7c1 := x7.c1; have x7l := x7.lt; have x8c0 := x8.c0; have x8c1 := x8.c1; have x8l := x8.lt)
                                                      | (go_at_call 8; (try clear x0c0 x0c1 x0l x1c0 x1c1 x1l x2c0 x2c1 x2l x3c0 x3c1 x3l x4c0 x4c1 x4l x5c0 x5c1 x5l x6c0 x6c1 x6l x7c0 x7c1 x7l x8c0 x8c1 x8l); with_reducible refine Calls.mono (braid5_same N0 _ _ L3 _ r5 r6 HL3.out) ?_; rintro e w11 ⟨rfl, hB⟩; replace x0 := boxed.on x0 hB; replace x1 := boxed.on x1 hB; replace x2 := boxed.on x2 hB; replace x3 := boxed.on x3 hB; replace x4 := boxed.on x4 hB; replace x5 := boxed.on x5 hB; replace x6 := boxed.on x6 hB; replace x7 := boxed.on x7 hB; replace x8 := boxed.on x8 hB; replace r0 := r0.kept hB; replace r1 := r1.kept hB; replace r2 := r2.kept hB; replace r3 := r3.kept hB; replace r4 := r4.kept hB; replace r5 := r5.kept hB; replace r6 := r6.kept hB; replace r7 := r7.kept hB; replace r8 := r8.kept hB; replace hbT := hbT.trans (hB.mono hbT.size); clear hB; have x0c0 := x0.c0; have x0c1 := x0.c1; have x0l := x0.lt; have x1c0 := x1.c0; have x1c1 := x1.c1; have x1l := x1.lt; have x2c0 := x2.c0; have x2c1 := x2.c1; have x2l := x2.lt; have x3c0 := x3.c0; have x3c1 := x3.c1; have x3l := x3.lt; have x4c0 := x4.c0; have x4c1 := x4.c1; have x4l := x4.lt; have x5c0 := x5.c0; have x5c1 := x5.c1; have x5l := x5.lt; have x6c0 := x6.c0; have x6c1 := x6.c1; have x6l := x6.lt; have x7c0 := x7.c0; have x7c1 := x7.c1; have x7l := x7.lt; have x8c0 := x8.c0; have x8c1 := x8.c1; have x8l := x8.lt)
                                                      | (go_at_call 8; (try clear x0c0 x0c1 x0l x1c0 x1c1 x1l x2c0 x2c1 x2l x3c0 x3c1 x3l x4c0 x4c1 x4l x5c0 x5c1 x5l x6c0 x6c1 x6l x7c0 x7c1 x7l x8c0 x8c1 x8l); with_reducible refine Calls.mono (braid5_same N0 _ _ L4 _ r7 r8 HL4.out) ?_; rintro e w12 ⟨rfl, hB⟩; replace x0 := boxed.on x0 hB; replace x1 := boxed.on x1 hB; replace x2 := boxed.on x2 hB; replace x3 := boxed.on x3 hB; replace x4 := boxed.on x4 hB; replace x5 := boxed.on x5 hB; replace x6 := boxed.on x6 hB; replace x7 := boxed.on x7 hB; replace x8 := boxed.on x8 hB; replace r0 := r0.kept hB; replace r1 := r1.kept hB; replace r2 := r2.kept hB; replace r3 := r3.kept hB; replace r4 := r4.kept hB; replace r5 := r5.kept hB; replace r6 := r6.kept hB; replace r7 := r7.kept hB; replace r8 := r8.kept hB; replace hbT := hbT.trans (hB.mono hbT.size); clear hB; have x0c0 := x0.c0; have x0c1 := x0.c1; have x0l := x0.lt; have x1c0 := x1.c0; have x1c1 := x1.c1; have x1l := x1.lt; have x2c0 := x2.c0; have x2c1 := x2.c1; have x2l := x2.lt; have x3c0 := x3.c0; have x3c1 := x3.c1; have x3l := x3.lt; have x4c0 := x4.c0; have x4c1 := x4.c1; have x4l := x4.lt; have x5c0 := x5.c0; have x5c1 := x5.c1; have x5l := x5.lt; have x6c0 := x6.c0; have x6c1 := x6.c1; have x6l := x6.lt; have x7c0 := x7.c0; have x7c1 := x7.c1; have x7l := x7.lt; have x8c0 := x8.c0; have x8c1 := x8.c1; have x8l := x8.lt))
              clear hcU x2 x4 x6 x8 r2 r4 r6 r8 H0 H1 H2 H3 H4 H5 H6 H7
              by_cases hU0 : U = 0
              · subst hU0
                obtain ⟨hok, hN0, e1, e2, e3, e4⟩ := HU.out rfl
                obtain rfl := hN0.symm
                obtain ⟨s, hb0, hb1, hb2, hb3, hb4, hb5, hb6⟩ := back_ok hok
                have hds : ds.length ≤ 1000000000 := by omega
                obtain ⟨hb7, hb8⟩ := hb6 (by omega)
                rw [← e1] at hb0 hb7 hb8
                rw [← e2] at hb1
                rw [← e3] at hb2
                rw [← e4] at hb3
                generalize ds ++ L1 = PL at hb7 hb8
                clear e1 e2 e3 e4
                have B0 := Lib.hid hb0
                have B1 := Lib.hid hb1
                have B2 := Lib.hid hb2
                have B3 := Lib.hid hb3
                have B4 := Lib.hid hb4
                have B5 := Lib.hid hb5
                have B6 := Lib.hid hb7
                have B7 := Lib.hid hb8
                have hmu : IntKind.i64.wrap (2 * (ds.length : Int)) = 2 * (ds.length : Int) := by rw [IntKind.wrap_i64]; omega
                have hmv : (2 * (ds.length : Int)) ≤ 200 := by omega
                clear hb0 hb1 hb2 hb3 hb4 hb5 hb6 hb7 hb8 hok HU
                go_upto_region 53 with (first | (go_at_call 15; (try clear x0c0 x0c1 x0l x1c0 x1c1 x1l x3c0 x3c1 x3l x5c0 x5c1 x5l x7c0 x7c1 x7l); with_reducible refine Calls.mono (B0.out _ _ r1) ?_; intro e w13 hh; have hh2 := retB2_f hh; clear hh; obtain ⟨v13, rfl, hB, ho13⟩ := hh2; have r13 := ho13.reads; clear ho13; obtain ⟨a13, c13, rfl⟩ := readsK_form r13; replace x0 := boxed.on x0 hB; replace x1 := boxed.on x1 hB; replace x3 := boxed.on x3 hB; replace x5 := boxed.on x5 hB; replace x7 := boxed.on x7 hB; replace r0 := r0.kept hB; replace r1 := r1.kept hB; replace r3 := r3.kept hB; replace r5 := r5.kept hB; replace r7 := r7.kept hB; replace hbT := hbT.trans (hB.mono hbT.size); clear hB; have x0c0 := x0.c0; have x0c1 := x0.c1; have x0l := x0.lt; have x1c0 := x1.c0; have x1c1 := x1.c1; have x1l := x1.lt; have x3c0 := x3.c0; have x3c1 := x3.c1; have x3l := x3.lt; have x5c0 := x5.c0; have x5c1 := x5.c1; have x5l := x5.lt; have x7c0 := x7.c0; have x7c1 := x7.c1; have x7l := x7.lt)
                                                      | (go_at_call 17; (try clear x0c0 x0c1 x0l x1c0 x1c1 x1l x3c0 x3c1 x3l x5c0 x5c1 x5l x7c0 x7c1 x7l); have hA : Below w13.heap.size w13 (w13.alloc (.cells #[.int .i64 n, .slice a13 (ds).length c13] 26)) := Below.alloc (Below.refl _ _) (Nat.le_refl _) _; replace x0 := boxed.on x0 hA; replace x1 := boxed.on x1 hA; replace x3 := boxed.on x3 hA; replace x5 := boxed.on x5 hA; replace x7 := boxed.on x7 hA; replace r0 := r0.kept hA; replace r1 := r1.kept hA; replace r3 := r3.kept hA; replace r5 := r5.kept hA; replace r7 := r7.kept hA; replace r13 := r13.kept hA; replace hbT := hbT.trans (hA.mono hbT.size); have x13 : boxed (w13.alloc (.cells #[.int .i64 n, .slice a13 (ds).length c13] 26)) w13.heap.size 26 n (.slice a13 (ds).length c13) := heap_alloc_last _ _; clear hA; with_reducible refine Calls.mono (B1.out _ _ r3) ?_; intro e w14 hh; have hh2 := retB2_f hh; clear hh; obtain ⟨v14, rfl, hB, ho14⟩ := hh2; have r14 := ho14.reads; clear ho14; obtain ⟨a14, c14, rfl⟩ := readsK_form r14; replace x0 := boxed.on x0 hB; replace x1 := boxed.on x1 hB; replace x3 := boxed.on x3 hB; replace x5 := boxed.on x5 hB; replace x7 := boxed.on x7 hB; replace x13 := boxed.on x13 hB; replace r0 := r0.kept hB; replace r1 := r1.kept hB; replace r3 := r3.kept hB; replace r5 := r5.kept hB; replace r7 := r7.kept hB; replace r13 := r13.kept hB; replace hbT := hbT.trans (hB.mono hbT.size); clear hB; have x0c0 := x0.c0; have x0c1 := x0.c1; have x0l := x0.lt; have x1c0 := x1.c0; have x1c1 := x1.c1; have x1l := x1.lt; have x3c0 := x3.c0; have x3c1 := x3.c1; have x3l := x3.lt; have x5c0 := x5.c0; have x5c1 := x5.c1; have x5l := x5.lt; have x7c0 := x7.c0; have x7c1 := x7.c1; have x7l := x7.lt; have x13c0 := x13.c0; have x13c1 := x13.c1; have x13l := x13.lt)
                                                      | (go_at_call 19; (try clear x0c0 x0c1 x0l x1c0 x1c1 x1l x3c0 x3c1 x3l x5c0 x5c1 x5l x7c0 x7c1 x7l x13c0 x13c1 x13l); have hA : Below w14.heap.size w14 (w14.alloc (.cells #[.int .i64 n, .slice a14 (ds).length c14] 26)) := Below.alloc (Below.refl _ _) (Nat.le_refl _) _; replace x0 := boxed.on x0 hA; replace x1 := boxed.on x1 hA; replace x3 := boxed.on x3 hA; replace x5 := boxed.on x5 hA; replace x7 := boxed.on x7 hA; replace x13 := boxed.on x13 hA; replace r0 := r0.kept hA; replace r1 := r1.kept hA; replace r3 := r3.kept hA; replace r5 := r5.kept hA; replace r7 := r7.kept hA; replace r13 := r13.kept hA; replace r14 := r14.kept hA; replace hbT := hbT.trans (hA.mono hbT.size); have x14 : boxed (w14.alloc (.cells #[.int .i64 n, .slice a14 (ds).length c14] 26)) w14.heap.size 26 n (.slice a14 (ds).length c14) := heap_alloc_last _ _; clear hA; with_reducible refine Calls.mono (B2.out _ _ r5) ?_; intro e w15 hh; have hh2 := retB2_f hh; clear hh; obtain ⟨v15, rfl, hB, ho15⟩ := hh2; have r15 := ho15.reads; clear ho15; obtain ⟨a15, c15, rfl⟩ := readsK_form r15; replace x0 := boxed.on x0 hB; replace x1 := boxed.on x1 hB; replace x3 := boxed.on x3 hB; replace x5 := boxed.on x5 hB; replace x7 := boxed.on x7 hB; replace x13 := boxed.on x13 hB; replace x14 := boxed.on x14 hB; replace r0 := r0.kept hB; replace r1 := r1.kept hB; replace r3 := r3.kept hB; replace r5 := r5.kept hB; replace r7 := r7.kept hB; replace r13 := r13.kept hB; replace r14 := r14.kept hB; replace hbT := hbT.trans (hB.mono hbT.size); clear hB; have x0c0 := x0.c0; have x0c1 := x0.c1; have x0l := x0.lt; have x1c0 := x1.c0; have x1c1 := x1.c1; have x1l := x1.lt; have x3c0 := x3.c0; have x3c1 := x3.c1; have x3l := x3.lt; have x5c0 := x5.c0; have x5c1 := x5.c1; have x5l := x5.lt; have x7c0 := x7.c0; have x7c1 := x7.c1; have x7l := x7.lt; have x13c0 := x13.c0; have x13c1 := x13.c1; have x13l := x13.lt; have x14c0 := x14.c0; have x14c1 := x14.c1; have x14l := x14.lt)
                                                      | (go_at_call 21; (try clear x0c0 x0c1 x0l x1c0 x1c1 x1l x3c0 x3c1 x3l x5c0 x5c1 x5l x7c0 x7c1 x7l x13c0 x13c1 x13l x14c0 x14c1 x14l); have hA : Below w15.heap.size w15 (w15.alloc (.cells #[.int .i64 n, .slice a15 (ds).length c15] 26)) := Below.alloc (Below.refl _ _) (Nat.le_refl _) _; replace x0 := boxed.on x0 hA; replace x1 := boxed.on x1 hA; replace x3 := boxed.on x3 hA; replace x5 := boxed.on x5 hA; replace x7 := boxed.on x7 hA; replace x13 := boxed.on x13 hA; replace x14 := boxed.on x14 hA; replace r0 := r0.kept hA; replace r1 := r1.kept hA; replace r3 := r3.kept hA; replace r5 := r5.kept hA; replace r7 := r7.kept hA; replace r13 := r13.kept hA; replace r14 := r14.kept hA; replace r15 := r15.kept hA; replace hbT := hbT.trans (hA.mono hbT.size); have x15 : boxed (w15.alloc (.cells #[.int .i64 n, .slice a15 (ds).length c15] 26)) w15.heap.size 26 n (.slice a15 (ds).length c15) := heap_alloc_last _ _; clear hA; with_reducible refine Calls.mono (B3.out _ _ r7) ?_; intro e w16 hh; have hh2 := retB2_f hh; clear hh; obtain ⟨v16, rfl, hB, ho16⟩ := hh2; have r16 := ho16.reads; clear ho16; obtain ⟨a16, c16, rfl⟩ := readsK_form r16; replace x0 := boxed.on x0 hB; replace x1 := boxed.on x1 hB; replace x3 := boxed.on x3 hB; replace x5 := boxed.on x5 hB; replace x7 := boxed.on x7 hB; replace x13 := boxed.on x13 hB; replace x14 := boxed.on x14 hB; replace x15 := boxed.on x15 hB; replace r0 := r0.kept hB; replace r1 := r1.kept hB; replace r3 := r3.kept hB; replace r5 := r5.kept hB; replace r7 := r7.kept hB; replace r13 := r13.kept hB; replace r14 := r14.kept hB; replace r15 := r15.kept hB; replace hbT := hbT.trans (hB.mono hbT.size); clear hB; have x0c0 := x0.c0; have x0c1 := x0.c1; have x0l := x0.lt; have x1c0 := x1.c0; have x1c1 := x1.c1; have x1l := x1.lt; have x3c0 := x3.c0; have x3c1 := x3.c1; have x3l := x3.lt; have x5c0 := x5.c0; have x5c1 := x5.c1; have x5l := x5.lt; have x7c0 := x7.c0; have x7c1 := x7.c1; have x7l := x7.lt; have x13c0 := x13.c0; have x13c1 := x13.c1; have x13l := x13.lt; have x14c0 := x14.c0; have x14c1 := x14.c1; have x14l := x14.lt; have x15c0 := x15.c0; have x15c1 := x15.c1; have x15l := x15.lt)
                                                      | (go_at_call 23; (try clear x0c0 x0c1 x0l x1c0 x1c1 x1l x3c0 x3c1 x3l x5c0 x5c1 x5l x7c0 x7c1 x7l x13c0 x13c1 x13l x14c0 x14c1 x14l x15c0 x15c1 x15l); have hA : Below w16.heap.size w16 (w16.alloc (.cells #[.int .i64 n, .slice a16 (ds).length c16] 26)) := Below.alloc (Below.refl _ _) (Nat.le_refl _) _; replace x0 := boxed.on x0 hA; replace x1 := boxed.on x1 hA; replace x3 := boxed.on x3 hA; replace x5 := boxed.on x5 hA; replace x7 := boxed.on x7 hA; replace x13 := boxed.on x13 hA; replace x14 := boxed.on x14 hA; replace x15 := boxed.on x15 hA; replace r0 := r0.kept hA; replace r1 := r1.kept hA; replace r3 := r3.kept hA; replace r5 := r5.kept hA; replace r7 := r7.kept hA; replace r13 := r13.kept hA; replace r14 := r14.kept hA; replace r15 := r15.kept hA; replace r16 := r16.kept hA; replace hbT := hbT.trans (hA.mono hbT.size); have x16 : boxed (w16.alloc (.cells #[.int .i64 n, .slice a16 (ds).length c16] 26)) w16.heap.size 26 n (.slice a16 (ds).length c16) := heap_alloc_last _ _; clear hA; go_loud (with_reducible refine Calls.mono (B4.out _ _ r0 (Door.pow (HT.out.on hbT))) ?_); rintro e w17 ⟨rfl, hB⟩; replace x0 := boxed.on x0 hB; replace x1 := boxed.on x1 hB; replace x3 := boxed.on x3 hB; replace x5 := boxed.on x5 hB; replace x7 := boxed.on x7 hB; replace x13 := boxed.on x13 hB; replace x14 := boxed.on x14 hB; replace x15 := boxed.on x15 hB; replace x16 := boxed.on x16 hB; replace r0 := r0.kept hB; replace r1 := r1.kept hB; replace r3 := r3.kept hB; replace r5 := r5.kept hB; replace r7 := r7.kept hB; replace r13 := r13.kept hB; replace r14 := r14.kept hB; replace r15 := r15.kept hB; replace r16 := r16.kept hB; replace hbT := hbT.trans (hB.mono hbT.size); clear hB; have x0c0 := x0.c0; have x0c1 := x0.c1; have x0l := x0.lt; have x1c0 := x1.c0; have x1c1 := x1.c1; have x1l := x1.lt; have x3c0 := x3.c0; have x3c1 := x3.c1; have x3l := x3.lt; have x5c0 := x5.c0; have x5c1 := x5.c1; have x5l := x5.lt; have x7c0 := x7.c0; have x7c1 := x7.c1; have x7l := x7.lt; have x13c0 := x13.c0; have x13c1 := x13.c1; have x13l := x13.lt; have x14c0 := x14.c0; have x14c1 := x14.c1; have x14l := x14.lt; have x15c0 := x15.c0; have x15c1 := x15.c1; have x15l := x15.lt; have x16c0 := x16.c0; have x16c1 := x16.c1; have x16l := x16.lt)
                                                      | (go_at_call 24; (try clear x0c0 x0c1 x0l x1c0 x1c1 x1l x3c0 x3c1 x3l x5c0 x5c1 x5l x7c0 x7c1 x7l x13c0 x13c1 x13l x14c0 x14c1 x14l x15c0 x15c1 x15l x16c0 x16c1 x16l); with_reducible refine Calls.mono (B5.out _ (HT.out.on hbT)) ?_; intro e w18 hh; have hh2 := retB2_f hh; clear hh; obtain ⟨v18, rfl, hB, ho18⟩ := hh2; have r18 := ho18.reads; clear ho18; obtain ⟨a18, c18, rfl⟩ := readsK_form r18; replace x0 := boxed.on x0 hB; replace x1 := boxed.on x1 hB; replace x3 := boxed.on x3 hB; replace x5 := boxed.on x5 hB; replace x7 := boxed.on x7 hB; replace x13 := boxed.on x13 hB; replace x14 := boxed.on x14 hB; replace x15 := boxed.on x15 hB; replace x16 := boxed.on x16 hB; replace r0 := r0.kept hB; replace r1 := r1.kept hB; replace r3 := r3.kept hB; replace r5 := r5.kept hB; replace r7 := r7.kept hB; replace r13 := r13.kept hB; replace r14 := r14.kept hB; replace r15 := r15.kept hB; replace r16 := r16.kept hB; replace hbT := hbT.trans (hB.mono hbT.size); clear hB; have x0c0 := x0.c0; have x0c1 := x0.c1; have x0l := x0.lt; have x1c0 := x1.c0; have x1c1 := x1.c1; have x1l := x1.lt; have x3c0 := x3.c0; have x3c1 := x3.c1; have x3l := x3.lt; have x5c0 := x5.c0; have x5c1 := x5.c1; have x5l := x5.lt; have x7c0 := x7.c0; have x7c1 := x7.c1; have x7l := x7.lt; have x13c0 := x13.c0; have x13c1 := x13.c1; have x13l := x13.lt; have x14c0 := x14.c0; have x14c1 := x14.c1; have x14l := x14.lt; have x15c0 := x15.c0; have x15c1 := x15.c1; have x15l := x15.lt; have x16c0 := x16.c0; have x16c1 := x16.c1; have x16l := x16.lt))
                (try clear x0c0 x0c1 x0l x1c0 x1c1 x1l x3c0 x3c1 x3l x5c0 x5c1 x5l x7c0 x7c1 x7l x13c0 x13c1 x13l x14c0 x14c1 x14l x15c0 x15c1 x15l x16c0 x16c1 x16l)
                have hA : Below w18.heap.size w18 (w18.alloc (.cells #[.int .i64 n, .slice a18 (ds).length c18] 26)) := Below.alloc (Below.refl _ _) (Nat.le_refl _) _
                replace x0 := boxed.on x0 hA
                replace x1 := boxed.on x1 hA
                replace x3 := boxed.on x3 hA
                replace x5 := boxed.on x5 hA
                replace x7 := boxed.on x7 hA
                replace x13 := boxed.on x13 hA
                replace x14 := boxed.on x14 hA
                replace x15 := boxed.on x15 hA
                replace x16 := boxed.on x16 hA
                replace r0 := r0.kept hA
                replace r1 := r1.kept hA
                replace r3 := r3.kept hA
                replace r5 := r5.kept hA
                replace r7 := r7.kept hA
                replace r13 := r13.kept hA
                replace r14 := r14.kept hA
                replace r15 := r15.kept hA
                replace r16 := r16.kept hA
                replace r18 := r18.kept hA
                replace hbT := hbT.trans (hA.mono hbT.size)
                have x18 : boxed (w18.alloc (.cells #[.int .i64 n, .slice a18 (ds).length c18] 26)) w18.heap.size 26 n (.slice a18 (ds).length c18) := heap_alloc_last _ _
                clear hA
                skip
                generalize w18.alloc (.cells #[.int .i64 n, .slice a18 (ds).length c18] 26) = WV at x0 x1 x3 x5 x7 x13 x14 x15 x16 x18 r0 r1 r3 r5 r7 r13 r14 r15 r16 r18 hbT ⊢
                have x0c0 := x0.c0
                have x0c1 := x0.c1
                have x0l := x0.lt
                have x1c0 := x1.c0
                have x1c1 := x1.c1
                have x1l := x1.lt
                have x3c0 := x3.c0
                have x3c1 := x3.c1
                have x3l := x3.lt
                have x5c0 := x5.c0
                have x5c1 := x5.c1
                have x5l := x5.lt
                have x7c0 := x7.c0
                have x7c1 := x7.c1
                have x7l := x7.lt
                have x13c0 := x13.c0
                have x13c1 := x13.c1
                have x13l := x13.lt
                have x14c0 := x14.c0
                have x14c1 := x14.c1
                have x14l := x14.lt
                have x15c0 := x15.c0
                have x15c1 := x15.c1
                have x15l := x15.lt
                have x16c0 := x16.c0
                have x16c1 := x16.c1
                have x16l := x16.lt
                have x18c0 := x18.c0
                have x18c1 := x18.c1
                have x18l := x18.lt
                go_upto_region 55 with (first | (go_at_call 8; (try clear x0c0 x0c1 x0l x1c0 x1c1 x1l x3c0 x3c1 x3l x5c0 x5c1 x5l x7c0 x7c1 x7l x13c0 x13c1 x13l x14c0 x14c1 x14l x15c0 x15c1 x15l x16c0 x16c1 x16l x18c0 x18c1 x18l); with_reducible refine Calls.mono (braid5_same n _ _ ds _ r13 r0 hds) ?_; rintro e w19 ⟨rfl, hB⟩; replace x0 := boxed.on x0 hB; replace x1 := boxed.on x1 hB; replace x3 := boxed.on x3 hB; replace x5 := boxed.on x5 hB; replace x7 := boxed.on x7 hB; replace x13 := boxed.on x13 hB; replace x14 := boxed.on x14 hB; replace x15 := boxed.on x15 hB; replace x16 := boxed.on x16 hB; replace x18 := boxed.on x18 hB; replace r0 := r0.kept hB; replace r1 := r1.kept hB; replace r3 := r3.kept hB; replace r5 := r5.kept hB; replace r7 := r7.kept hB; replace r13 := r13.kept hB; replace r14 := r14.kept hB; replace r15 := r15.kept hB; replace r16 := r16.kept hB; replace r18 := r18.kept hB; replace hbT := hbT.trans (hB.mono hbT.size); clear hB; have x0c0 := x0.c0; have x0c1 := x0.c1; have x0l := x0.lt; have x1c0 := x1.c0; have x1c1 := x1.c1; have x1l := x1.lt; have x3c0 := x3.c0; have x3c1 := x3.c1; have x3l := x3.lt; have x5c0 := x5.c0; have x5c1 := x5.c1; have x5l := x5.lt; have x7c0 := x7.c0; have x7c1 := x7.c1; have x7l := x7.lt; have x13c0 := x13.c0; have x13c1 := x13.c1; have x13l := x13.lt; have x14c0 := x14.c0; have x14c1 := x14.c1; have x14l := x14.lt; have x15c0 := x15.c0; have x15c1 := x15.c1; have x15l := x15.lt; have x16c0 := x16.c0; have x16c1 := x16.c1; have x16l := x16.lt; have x18c0 := x18.c0; have x18c1 := x18.c1; have x18l := x18.lt)
                                                      | (go_at_call 8; (try clear x0c0 x0c1 x0l x1c0 x1c1 x1l x3c0 x3c1 x3l x5c0 x5c1 x5l x7c0 x7c1 x7l x13c0 x13c1 x13l x14c0 x14c1 x14l x15c0 x15c1 x15l x16c0 x16c1 x16l x18c0 x18c1 x18l); with_reducible refine Calls.mono (braid5_same n _ _ ds _ r14 r0 hds) ?_; rintro e w20 ⟨rfl, hB⟩; replace x0 := boxed.on x0 hB; replace x1 := boxed.on x1 hB; replace x3 := boxed.on x3 hB; replace x5 := boxed.on x5 hB; replace x7 := boxed.on x7 hB; replace x13 := boxed.on x13 hB; replace x14 := boxed.on x14 hB; replace x15 := boxed.on x15 hB; replace x16 := boxed.on x16 hB; replace x18 := boxed.on x18 hB; replace r0 := r0.kept hB; replace r1 := r1.kept hB; replace r3 := r3.kept hB; replace r5 := r5.kept hB; replace r7 := r7.kept hB; replace r13 := r13.kept hB; replace r14 := r14.kept hB; replace r15 := r15.kept hB; replace r16 := r16.kept hB; replace r18 := r18.kept hB; replace hbT := hbT.trans (hB.mono hbT.size); clear hB; have x0c0 := x0.c0; have x0c1 := x0.c1; have x0l := x0.lt; have x1c0 := x1.c0; have x1c1 := x1.c1; have x1l := x1.lt; have x3c0 := x3.c0; have x3c1 := x3.c1; have x3l := x3.lt; have x5c0 := x5.c0; have x5c1 := x5.c1; have x5l := x5.lt; have x7c0 := x7.c0; have x7c1 := x7.c1; have x7l := x7.lt; have x13c0 := x13.c0; have x13c1 := x13.c1; have x13l := x13.lt; have x14c0 := x14.c0; have x14c1 := x14.c1; have x14l := x14.lt; have x15c0 := x15.c0; have x15c1 := x15.c1; have x15l := x15.lt; have x16c0 := x16.c0; have x16c1 := x16.c1; have x16l := x16.lt; have x18c0 := x18.c0; have x18c1 := x18.c1; have x18l := x18.lt)
                                                      | (go_at_call 8; (try clear x0c0 x0c1 x0l x1c0 x1c1 x1l x3c0 x3c1 x3l x5c0 x5c1 x5l x7c0 x7c1 x7l x13c0 x13c1 x13l x14c0 x14c1 x14l x15c0 x15c1 x15l x16c0 x16c1 x16l x18c0 x18c1 x18l); with_reducible refine Calls.mono (braid5_same n _ _ ds _ r15 r0 hds) ?_; rintro e w21 ⟨rfl, hB⟩; replace x0 := boxed.on x0 hB; replace x1 := boxed.on x1 hB; replace x3 := boxed.on x3 hB; replace x5 := boxed.on x5 hB; replace x7 := boxed.on x7 hB; replace x13 := boxed.on x13 hB; replace x14 := boxed.on x14 hB; replace x15 := boxed.on x15 hB; replace x16 := boxed.on x16 hB; replace x18 := boxed.on x18 hB; replace r0 := r0.kept hB; replace r1 := r1.kept hB; replace r3 := r3.kept hB; replace r5 := r5.kept hB; replace r7 := r7.kept hB; replace r13 := r13.kept hB; replace r14 := r14.kept hB; replace r15 := r15.kept hB; replace r16 := r16.kept hB; replace r18 := r18.kept hB; replace hbT := hbT.trans (hB.mono hbT.size); clear hB; have x0c0 := x0.c0; have x0c1 := x0.c1; have x0l := x0.lt; have x1c0 := x1.c0; have x1c1 := x1.c1; have x1l := x1.lt; have x3c0 := x3.c0; have x3c1 := x3.c1; have x3l := x3.lt; have x5c0 := x5.c0; have x5c1 := x5.c1; have x5l := x5.lt; have x7c0 := x7.c0; have x7c1 := x7.c1; have x7l := x7.lt; have x13c0 := x13.c0; have x13c1 := x13.c1; have x13l := x13.lt; have x14c0 := x14.c0; have x14c1 := x14.c1; have x14l := x14.lt; have x15c0 := x15.c0; have x15c1 := x15.c1; have x15l := x15.lt; have x16c0 := x16.c0; have x16c1 := x16.c1; have x16l := x16.lt; have x18c0 := x18.c0; have x18c1 := x18.c1; have x18l := x18.lt)
                                                      | (go_at_call 8; (try clear x0c0 x0c1 x0l x1c0 x1c1 x1l x3c0 x3c1 x3l x5c0 x5c1 x5l x7c0 x7c1 x7l x13c0 x13c1 x13l x14c0 x14c1 x14l x15c0 x15c1 x15l x16c0 x16c1 x16l x18c0 x18c1 x18l); with_reducible refine Calls.mono (braid5_same n _ _ ds _ r16 r0 hds) ?_; rintro e w22 ⟨rfl, hB⟩; replace x0 := boxed.on x0 hB; replace x1 := boxed.on x1 hB; replace x3 := boxed.on x3 hB; replace x5 := boxed.on x5 hB; replace x7 := boxed.on x7 hB; replace x13 := boxed.on x13 hB; replace x14 := boxed.on x14 hB; replace x15 := boxed.on x15 hB; replace x16 := boxed.on x16 hB; replace x18 := boxed.on x18 hB; replace r0 := r0.kept hB; replace r1 := r1.kept hB; replace r3 := r3.kept hB; replace r5 := r5.kept hB; replace r7 := r7.kept hB; replace r13 := r13.kept hB; replace r14 := r14.kept hB; replace r15 := r15.kept hB; replace r16 := r16.kept hB; replace r18 := r18.kept hB; replace hbT := hbT.trans (hB.mono hbT.size); clear hB; have x0c0 := x0.c0; have x0c1 := x0.c1; have x0l := x0.lt; have x1c0 := x1.c0; have x1c1 := x1.c1; have x1l := x1.lt; have x3c0 := x3.c0; have x3c1 := x3.c1; have x3l := x3.lt; have x5c0 := x5.c0; have x5c1 := x5.c1; have x5l := x5.lt; have x7c0 := x7.c0; have x7c1 := x7.c1; have x7l := x7.lt; have x13c0 := x13.c0; have x13c1 := x13.c1; have x13l := x13.lt; have x14c0 := x14.c0; have x14c1 := x14.c1; have x14l := x14.lt; have x15c0 := x15.c0; have x15c1 := x15.c1; have x15l := x15.lt; have x16c0 := x16.c0; have x16c1 := x16.c1; have x16l := x16.lt; have x18c0 := x18.c0; have x18c1 := x18.c1; have x18l := x18.lt)
                                                      | (go_at_call 8; (try clear x0c0 x0c1 x0l x1c0 x1c1 x1l x3c0 x3c1 x3l x5c0 x5c1 x5l x7c0 x7c1 x7l x13c0 x13c1 x13l x14c0 x14c1 x14l x15c0 x15c1 x15l x16c0 x16c1 x16l x18c0 x18c1 x18l); with_reducible refine Calls.mono (braid5_same n _ _ ds _ r18 r0 hds) ?_; rintro e w23 ⟨rfl, hB⟩; replace x0 := boxed.on x0 hB; replace x1 := boxed.on x1 hB; replace x3 := boxed.on x3 hB; replace x5 := boxed.on x5 hB; replace x7 := boxed.on x7 hB; replace x13 := boxed.on x13 hB; replace x14 := boxed.on x14 hB; replace x15 := boxed.on x15 hB; replace x16 := boxed.on x16 hB; replace x18 := boxed.on x18 hB; replace r0 := r0.kept hB; replace r1 := r1.kept hB; replace r3 := r3.kept hB; replace r5 := r5.kept hB; replace r7 := r7.kept hB; replace r13 := r13.kept hB; replace r14 := r14.kept hB; replace r15 := r15.kept hB; replace r16 := r16.kept hB; replace r18 := r18.kept hB; replace hbT := hbT.trans (hB.mono hbT.size); clear hB; have x0c0 := x0.c0; have x0c1 := x0.c1; have x0l := x0.lt; have x1c0 := x1.c0; have x1c1 := x1.c1; have x1l := x1.lt; have x3c0 := x3.c0; have x3c1 := x3.c1; have x3l := x3.lt; have x5c0 := x5.c0; have x5c1 := x5.c1; have x5l := x5.lt; have x7c0 := x7.c0; have x7c1 := x7.c1; have x7l := x7.lt; have x13c0 := x13.c0; have x13c1 := x13.c1; have x13l := x13.lt; have x14c0 := x14.c0; have x14c1 := x14.c1; have x14l := x14.lt; have x15c0 := x15.c0; have x15c1 := x15.c1; have x15l := x15.lt; have x16c0 := x16.c0; have x16c1 := x16.c1; have x16l := x16.lt; have x18c0 := x18.c0; have x18c1 := x18.c1; have x18l := x18.lt))
                clear x13 r13 x14 r14 x15 r15 x16 r16 x18 r18 x3 x5 x7 r3 r5 r7 B0 B1 B2 B3 B4 B5
                go_upto_region 58 with (first | (go_at_call 6; (try clear x0c0 x0c1 x0l x1c0 x1c1 x1l); with_reducible refine Calls.mono (B6.out _ _ _ r0 r1) ?_; intro e w24 hh; have hh2 := retB2_f hh; clear hh; obtain ⟨v24, rfl, hB, ho24⟩ := hh2; have r24 := ho24.reads; clear ho24; obtain ⟨a24, c24, rfl⟩ := readsK_form r24; replace x0 := boxed.on x0 hB; replace x1 := boxed.on x1 hB; replace r0 := r0.kept hB; replace r1 := r1.kept hB; replace hbT := hbT.trans (hB.mono hbT.size); clear hB; have x0c0 := x0.c0; have x0c1 := x0.c1; have x0l := x0.lt; have x1c0 := x1.c0; have x1c1 := x1.c1; have x1l := x1.lt)
                                                      | (go_at_call 25; (try clear x0c0 x0c1 x0l x1c0 x1c1 x1l); have hA : Below w24.heap.size w24 (w24.alloc (.cells #[.int .i64 n, .slice a24 (PL).length c24] 26)) := Below.alloc (Below.refl _ _) (Nat.le_refl _) _; replace x0 := boxed.on x0 hA; replace x1 := boxed.on x1 hA; replace r0 := r0.kept hA; replace r1 := r1.kept hA; replace r24 := r24.kept hA; replace hbT := hbT.trans (hA.mono hbT.size); have x24 : boxed (w24.alloc (.cells #[.int .i64 n, .slice a24 (PL).length c24] 26)) w24.heap.size 26 n (.slice a24 (PL).length c24) := heap_alloc_last _ _; clear hA; with_reducible refine Calls.mono (B7.out _ _ r24) ?_; intro e w25 hh; have hh2 := retB2_f hh; clear hh; obtain ⟨v25, rfl, hB, ho25⟩ := hh2; have r25 := ho25.reads; clear ho25; obtain ⟨a25, c25, rfl⟩ := readsK_form r25; replace x0 := boxed.on x0 hB; replace x1 := boxed.on x1 hB; replace x24 := boxed.on x24 hB; replace r0 := r0.kept hB; replace r1 := r1.kept hB; replace r24 := r24.kept hB; replace hbT := hbT.trans (hB.mono hbT.size); clear hB; have x0c0 := x0.c0; have x0c1 := x0.c1; have x0l := x0.lt; have x1c0 := x1.c0; have x1c1 := x1.c1; have x1l := x1.lt; have x24c0 := x24.c0; have x24c1 := x24.c1; have x24l := x24.lt))
                (try clear x0c0 x0c1 x0l x1c0 x1c1 x1l x24c0 x24c1 x24l)
                have hA : Below w25.heap.size w25 (w25.alloc (.cells #[.int .i64 n, .slice a25 0 c25] 26)) := Below.alloc (Below.refl _ _) (Nat.le_refl _) _
                replace x0 := boxed.on x0 hA
                replace x1 := boxed.on x1 hA
                replace x24 := boxed.on x24 hA
                replace r0 := r0.kept hA
                replace r1 := r1.kept hA
                replace r24 := r24.kept hA
                replace r25 := r25.kept hA
                replace hbT := hbT.trans (hA.mono hbT.size)
                have x25 : boxed (w25.alloc (.cells #[.int .i64 n, .slice a25 0 c25] 26)) w25.heap.size 26 n (.slice a25 0 c25) := heap_alloc_last _ _
                clear hA
                skip
                generalize w25.alloc (.cells #[.int .i64 n, .slice a25 0 c25] 26) = WX at x0 x1 x24 x25 r0 r1 r24 r25 hbT ⊢
                have x0c0 := x0.c0
                have x0c1 := x0.c1
                have x0l := x0.lt
                have x1c0 := x1.c0
                have x1c1 := x1.c1
                have x1l := x1.lt
                have x24c0 := x24.c0
                have x24c1 := x24.c1
                have x24l := x24.lt
                have x25c0 := x25.c0
                have x25c1 := x25.c1
                have x25l := x25.lt
                have hnn : (n != n) = false := by simp
                
                
                go_wp2
                go_ret
                exact ⟨rfl, hbT⟩
              · have hU1 : (U == 0) = false := by simp [hU0]
                go_wp2
                go_ret
                exact ⟨rfl, hbT⟩
    · have hC1 : (C == 0) = false := by simp [hC0]
      go_upto_region 35 with (fail)
      refine wp_belowK (w := w) (by (repeat (first | (with_reducible exact Below.refl _ _) | (with_reducible assumption) | (with_reducible refine below_plus' ?_ ?_; ((try simp only [plus_size, World.size_alloc, World.size_drew, World.size_setCell, size_setRow, World.heap_drewN, List.length_append]) <;> omega)) | (with_reducible refine below_alloc' ?_ ?_; ((try simp only [plus_size, World.size_alloc, World.size_drew, World.size_setCell, size_setRow, World.heap_drewN, List.length_append]) <;> omega)) | with_reducible refine Below.drew ?_ | (with_reducible refine below_drewN' ?_ _) | exact Below.refl _ _))) fun WT hbT => ?_
      go_upto_region 36 with (first | (go_at_call 14; refine Calls.mono (drawInv_any vc k _ (HC.out.kept hbT) hm) ?_; rintro e w0 ⟨n, v0, ds, rfl, o0, hld, hxd, hnd, hB⟩; have r0 := o0.reads; clear o0; obtain ⟨a0, c0, rfl⟩ := readsK_form r0; replace hbT := hbT.trans (hB.mono hbT.size); clear hB))
      have hfd : Fits ds := hxd.fits (by decide)
      obtain ⟨N0, L1, L2, L3, L4, U, hh0, hh1, hh2, hh3, hh4, hh5, hh6, hh7, ⟨hl1, hl2, hl3, hl4⟩, hU⟩ := four_ok (n := n) (xs := ds) (by omega) hfd
      have H0 := Lib.hid hh0
      have H1 := Lib.hid hh1
      have H2 := Lib.hid hh2
      have H3 := Lib.hid hh3
      have H4 := Lib.hid hh4
      have H5 := Lib.hid hh5
      have H6 := Lib.hid hh6
      have H7 := Lib.hid hh7
      have HL1 := Lib.hid hl1
      have HL2 := Lib.hid hl2
      have HL3 := Lib.hid hl3
      have HL4 := Lib.hid hl4
      have HU := Lib.hid hU
      clear hh0 hh1 hh2 hh3 hh4 hh5 hh6 hh7 hl1 hl2 hl3 hl4 hU hfd hxd
      go_upto_region 44 with (first | (go_at_call 15; have hA : Below w0.heap.size w0 (w0.alloc (.cells #[.int .i64 n, .slice a0 ds.length c0] 26)) := Below.alloc (Below.refl _ _) (Nat.le_refl _) _; replace r0 := r0.kept hA; replace hbT := hbT.trans (hA.mono hbT.size); have x0 : boxed (w0.alloc (.cells #[.int .i64 n, .slice a0 ds.length c0] 26)) w0.heap.size 26 n (.slice a0 ds.length c0) := heap_alloc_last _ _; clear hA; with_reducible refine Calls.mono (H0.out _ _ r0) ?_; intro e w1 hh; have hh2 := retB2_f hh; clear hh; obtain ⟨v1, rfl, hB, ho1⟩ := hh2; have r1 := ho1.reads; clear ho1; obtain ⟨a1, c1, rfl⟩ := readsK_form r1; replace x0 := boxed.on x0 hB; replace r0 := r0.kept hB; replace hbT := hbT.trans (hB.mono hbT.size); clear hB; have x0c0 := x0.c0; have x0c1 := x0.c1; have x0l := x0.lt)
                                              | (go_at_call 16; (try clear x0c0 x0c1 x0l); have hA : Below w1.heap.size w1 (w1.alloc (.cells #[.int .i64 N0, .slice a1 (L1).length c1] 26)) := Below.alloc (Below.refl _ _) (Nat.le_refl _) _; replace x0 := boxed.on x0 hA; replace r0 := r0.kept hA; replace r1 := r1.kept hA; replace hbT := hbT.trans (hA.mono hbT.size); have x1 : boxed (w1.alloc (.cells #[.int .i64 N0, .slice a1 (L1).length c1] 26)) w1.heap.size 26 N0 (.slice a1 (L1).length c1) := heap_alloc_last _ _; clear hA; with_reducible refine Calls.mono (H1.out _ _ r0) ?_; intro e w2 hh; have hh2 := retB2_f hh; clear hh; obtain ⟨v2, rfl, hB, ho2⟩ := hh2; have r2 := ho2.reads; clear ho2; obtain ⟨a2, c2, rfl⟩ := readsK_form r2; replace x0 := boxed.on x0 hB; replace x1 := boxed.on x1 hB; replace r0 := r0.kept hB; replace r1 := r1.kept hB; replace hbT := hbT.trans (hB.mono hbT.size); clear hB; have x0c0 := x0.c0; have x0c1 := x0.c1; have x0l := x0.lt; have x1c0 := x1.c0; have x1c1 := x1.c1; have x1l := x1.lt)
                                              | (go_at_call 17; (try clear x0c0 x0c1 x0l x1c0 x1c1 x1l); have hA : Below w2.heap.size w2 (w2.alloc (.cells #[.int .i64 N0, .slice a2 (L1).length c2] 26)) := Below.alloc (Below.refl _ _) (Nat.le_refl _) _; replace x0 := boxed.on x0 hA; replace x1 := boxed.on x1 hA; replace r0 := r0.kept hA; replace r1 := r1.kept hA; replace r2 := r2.kept hA; replace hbT := hbT.trans (hA.mono hbT.size); have x2 : boxed (w2.alloc (.cells #[.int .i64 N0, .slice a2 (L1).length c2] 26)) w2.heap.size 26 N0 (.slice a2 (L1).length c2) := heap_alloc_last _ _; clear hA; with_reducible refine Calls.mono (H2.out _ _ r0) ?_; intro e w3 hh; have hh2 := retB2_f hh; clear hh; obtain ⟨v3, rfl, hB, ho3⟩ := hh2; have r3 := ho3.reads; clear ho3; obtain ⟨a3, c3, rfl⟩ := readsK_form r3; replace x0 := boxed.on x0 hB; replace x1 := boxed.on x1 hB; replace x2 := boxed.on x2 hB; replace r0 := r0.kept hB; replace r1 := r1.kept hB; replace r2 := r2.kept hB; replace hbT := hbT.trans (hB.mono hbT.size); clear hB; have x0c0 := x0.c0; have x0c1 := x0.c1; have x0l := x0.lt; have x1c0 := x1.c0; have x1c1 := x1.c1; have x1l := x1.lt; have x2c0 := x2.c0; have x2c1 := x2.c1; have x2l := x2.lt)
                                              | (go_at_call 18; (try clear x0c0 x0c1 x0l x1c0 x1c1 x1l x2c0 x2c1 x2l); have hA : Below w3.heap.size w3 (w3.alloc (.cells #[.int .i64 N0, .slice a3 (L2).length c3] 26)) := Below.alloc (Below.refl _ _) (Nat.le_refl _) _; replace x0 := boxed.on x0 hA; replace x1 := boxed.on x1 hA; replace x2 := boxed.on x2 hA; replace r0 := r0.kept hA; replace r1 := r1.kept hA; replace r2 := r2.kept hA; replace r3 := r3.kept hA; replace hbT := hbT.trans (hA.mono hbT.size); have x3 : boxed (w3.alloc (.cells #[.int .i64 N0, .slice a3 (L2).length c3] 26)) w3.heap.size 26 N0 (.slice a3 (L2).length c3) := heap_alloc_last _ _; clear hA; with_reducible refine Calls.mono (H3.out _ _ r0) ?_; intro e w4 hh; have hh2 := retB2_f hh; clear hh; obtain ⟨v4, rfl, hB, ho4⟩ := hh2; have r4 := ho4.reads; clear ho4; obtain ⟨a4, c4, rfl⟩ := readsK_form r4; replace x0 := boxed.on x0 hB; replace x1 := boxed.on x1 hB; replace x2 := boxed.on x2 hB; replace x3 := boxed.on x3 hB; replace r0 := r0.kept hB; replace r1 := r1.kept hB; replace r2 := r2.kept hB; replace r3 := r3.kept hB; replace hbT := hbT.trans (hB.mono hbT.size); clear hB; have x0c0 := x0.c0; have x0c1 := x0.c1; have x0l := x0.lt; have x1c0 := x1.c0; have x1c1 := x1.c1; have x1l := x1.lt; have x2c0 := x2.c0; have x2c1 := x2.c1; have x2l := x2.lt; have x3c0 := x3.c0; have x3c1 := x3.c1; have x3l := x3.lt)
                                              | (go_at_call 19; (try clear x0c0 x0c1 x0l x1c0 x1c1 x1l x2c0 x2c1 x2l x3c0 x3c1 x3l); have hA : Below w4.heap.size w4 (w4.alloc (.cells #[.int .i64 N0, .slice a4 (L2).length c4] 26)) := Below.alloc (Below.refl _ _) (Nat.le_refl _) _; replace x0 := boxed.on x0 hA; replace x1 := boxed.on x1 hA; replace x2 := boxed.on x2 hA; replace x3 := boxed.on x3 hA; replace r0 := r0.kept hA; replace r1 := r1.kept hA; replace r2 := r2.kept hA; replace r3 := r3.kept hA; replace r4 := r4.kept hA; replace hbT := hbT.trans (hA.mono hbT.size); have x4 : boxed (w4.alloc (.cells #[.int .i64 N0, .slice a4 (L2).length c4] 26)) w4.heap.size 26 N0 (.slice a4 (L2).length c4) := heap_alloc_last _ _; clear hA; with_reducible refine Calls.mono (H4.out _ _ r0) ?_; intro e w5 hh; have hh2 := retB2_f hh; clear hh; obtain ⟨v5, rfl, hB, ho5⟩ := hh2; have r5 := ho5.reads; clear ho5; obtain ⟨a5, c5, rfl⟩ := readsK_form r5; replace x0 := boxed.on x0 hB; replace x1 := boxed.on x1 hB; replace x2 := boxed.on x2 hB; replace x3 := boxed.on x3 hB; replace x4 := boxed.on x4 hB; replace r0 := r0.kept hB; replace r1 := r1.kept hB; replace r2 := r2.kept hB; replace r3 := r3.kept hB; replace r4 := r4.kept hB; replace hbT := hbT.trans (hB.mono hbT.size); clear hB; have x0c0 := x0.c0; have x0c1 := x0.c1; have x0l := x0.lt; have x1c0 := x1.c0; have x1c1 := x1.c1; have x1l := x1.lt; have x2c0 := x2.c0; have x2c1 := x2.c1; have x2l := x2.lt; have x3c0 := x3.c0; have x3c1 := x3.c1; have x3l := x3.lt; have x4c0 := x4.c0; have x4c1 := x4.c1; have x4l := x4.lt)
                                              | (go_at_call 20; (try clear x0c0 x0c1 x0l x1c0 x1c1 x1l x2c0 x2c1 x2l x3c0 x3c1 x3l x4c0 x4c1 x4l); have hA : Below w5.heap.size w5 (w5.alloc (.cells #[.int .i64 N0, .slice a5 (L3).length c5] 26)) := Below.alloc (Below.refl _ _) (Nat.le_refl _) _; replace x0 := boxed.on x0 hA; replace x1 := boxed.on x1 hA; replace x2 := boxed.on x2 hA; replace x3 := boxed.on x3 hA; replace x4 := boxed.on x4 hA; replace r0 := r0.kept hA; replace r1 := r1.kept hA; replace r2 := r2.kept hA; replace r3 := r3.kept hA; replace r4 := r4.kept hA; replace r5 := r5.kept hA; replace hbT := hbT.trans (hA.mono hbT.size); have x5 : boxed (w5.alloc (.cells #[.int .i64 N0, .slice a5 (L3).length c5] 26)) w5.heap.size 26 N0 (.slice a5 (L3).length c5) := heap_alloc_last _ _; clear hA; with_reducible refine Calls.mono (H5.out _ _ r0) ?_; intro e w6 hh; have hh2 := retB2_f hh; clear hh; obtain ⟨v6, rfl, hB, ho6⟩ := hh2; have r6 := ho6.reads; clear ho6; obtain ⟨a6, c6, rfl⟩ := readsK_form r6; replace x0 := boxed.on x0 hB; replace x1 := boxed.on x1 hB; replace x2 := boxed.on x2 hB; replace x3 := boxed.on x3 hB; replace x4 := boxed.on x4 hB; replace x5 := boxed.on x5 hB; replace r0 := r0.kept hB; replace r1 := r1.kept hB; replace r2 := r2.kept hB; replace r3 := r3.kept hB; replace r4 := r4.kept hB; replace r5 := r5.kept hB; replace hbT := hbT.trans (hB.mono hbT.size); clear hB; have x0c0 := x0.c0; have x0c1 := x0.c1; have x0l := x0.lt; have x1c0 := x1.c0; have x1c1 := x1.c1; have x1l := x1.lt; have x2c0 := x2.c0; have x2c1 := x2.c1; have x2l := x2.lt; have x3c0 := x3.c0; have x3c1 := x3.c1; have x3l := x3.lt; have x4c0 := x4.c0; have x4c1 := x4.c1; have x4l := x4.lt; have x5c0 := x5.c0; have x5c1 := x5.c1; have x5l := x5.lt)
                                              | (go_at_call 21; (try clear x0c0 x0c1 x0l x1c0 x1c1 x1l x2c0 x2c1 x2l x3c0 x3c1 x3l x4c0 x4c1 x4l x5c0 x5c1 x5l); have hA : Below w6.heap.size w6 (w6.alloc (.cells #[.int .i64 N0, .slice a6 (L3).length c6] 26)) := Below.alloc (Below.refl _ _) (Nat.le_refl _) _; replace x0 := boxed.on x0 hA; replace x1 := boxed.on x1 hA; replace x2 := boxed.on x2 hA; replace x3 := boxed.on x3 hA; replace x4 := boxed.on x4 hA; replace x5 := boxed.on x5 hA; replace r0 := r0.kept hA; replace r1 := r1.kept hA; replace r2 := r2.kept hA; replace r3 := r3.kept hA; replace r4 := r4.kept hA; replace r5 := r5.kept hA; replace r6 := r6.kept hA; replace hbT := hbT.trans (hA.mono hbT.size); have x6 : boxed (w6.alloc (.cells #[.int .i64 N0, .slice a6 (L3).length c6] 26)) w6.heap.size 26 N0 (.slice a6 (L3).length c6) := heap_alloc_last _ _; clear hA; with_reducible refine Calls.mono (H6.out _ _ r0) ?_; intro e w7 hh; have hh2 := retB2_f hh; clear hh; obtain ⟨v7, rfl, hB, ho7⟩ := hh2; have r7 := ho7.reads; clear ho7; obtain ⟨a7, c7, rfl⟩ := readsK_form r7; replace x0 := boxed.on x0 hB; replace x1 := boxed.on x1 hB; replace x2 := boxed.on x2 hB; replace x3 := boxed.on x3 hB; replace x4 := boxed.on x4 hB; replace x5 := boxed.on x5 hB; replace x6 := boxed.on x6 hB; replace r0 := r0.kept hB; replace r1 := r1.kept hB; replace r2 := r2.kept hB; replace r3 := r3.kept hB; replace r4 := r4.kept hB; replace r5 := r5.kept hB; replace r6 := r6.kept hB; replace hbT := hbT.trans (hB.mono hbT.size); clear hB; have x0c0 := x0.c0; have x0c1 := x0.c1; have x0l := x0.lt; have x1c0 := x1.c0; have x1c1 := x1.c1; have x1l := x1.lt; have x2c0 := x2.c0; have x2c1 := x2.c1; have x2l := x2.lt; have x3c0 := x3.c0; have x3c1 := x3.c1; have x3l := x3.lt; have x4c0 := x4.c0; have x4c1 := x4.c1; have x4l := x4.lt; have x5c0 := x5.c0; have x5c1 := x5.c1; have x5l := x5.lt; have x6c0 := x6.c0; have x6c1 := x6.c1; have x6l := x6.lt)
                                              | (go_at_call 22; (try clear x0c0 x0c1 x0l x1c0 x1c1 x1l x2c0 x2c1 x2l x3c0 x3c1 x3l x4c0 x4c1 x4l x5c0 x5c1 x5l x6c0 x6c1 x6l); have hA : Below w7.heap.size w7 (w7.alloc (.cells #[.int .i64 N0, .slice a7 (L4).length c7] 26)) := Below.alloc (Below.refl _ _) (Nat.le_refl _) _; replace x0 := boxed.on x0 hA; replace x1 := boxed.on x1 hA; replace x2 := boxed.on x2 hA; replace x3 := boxed.on x3 hA; replace x4 := boxed.on x4 hA; replace x5 := boxed.on x5 hA; replace x6 := boxed.on x6 hA; replace r0 := r0.kept hA; replace r1 := r1.kept hA; replace r2 := r2.kept hA; replace r3 := r3.kept hA; replace r4 := r4.kept hA; replace r5 := r5.kept hA; replace r6 := r6.kept hA; replace r7 := r7.kept hA; replace hbT := hbT.trans (hA.mono hbT.size); have x7 : boxed (w7.alloc (.cells #[.int .i64 N0, .slice a7 (L4).length c7] 26)) w7.heap.size 26 N0 (.slice a7 (L4).length c7) := heap_alloc_last _ _; clear hA; with_reducible refine Calls.mono (H7.out _ _ r0) ?_; intro e w8 hh; have hh2 := retB2_f hh; clear hh; obtain ⟨v8, rfl, hB, ho8⟩ := hh2; have r8 := ho8.reads; clear ho8; obtain ⟨a8, c8, rfl⟩ := readsK_form r8; replace x0 := boxed.on x0 hB; replace x1 := boxed.on x1 hB; replace x2 := boxed.on x2 hB; replace x3 := boxed.on x3 hB; replace x4 := boxed.on x4 hB; replace x5 := boxed.on x5 hB; replace x6 := boxed.on x6 hB; replace x7 := boxed.on x7 hB; replace r0 := r0.kept hB; replace r1 := r1.kept hB; replace r2 := r2.kept hB; replace r3 := r3.kept hB; replace r4 := r4.kept hB; replace r5 := r5.kept hB; replace r6 := r6.kept hB; replace r7 := r7.kept hB; replace hbT := hbT.trans (hB.mono hbT.size); clear hB; have x0c0 := x0.c0; have x0c1 := x0.c1; have x0l := x0.lt; have x1c0 := x1.c0; have x1c1 := x1.c1; have x1l := x1.lt; have x2c0 := x2.c0; have x2c1 := x2.c1; have x2l := x2.lt; have x3c0 := x3.c0; have x3c1 := x3.c1; have x3l := x3.lt; have x4c0 := x4.c0; have x4c1 := x4.c1; have x4l := x4.lt; have x5c0 := x5.c0; have x5c1 := x5.c1; have x5l := x5.lt; have x6c0 := x6.c0; have x6c1 := x6.c1; have x6l := x6.lt; have x7c0 := x7.c0; have x7c1 := x7.c1; have x7l := x7.lt))
      (try clear x0c0 x0c1 x0l x1c0 x1c1 x1l x2c0 x2c1 x2l x3c0 x3c1 x3l x4c0 x4c1 x4l x5c0 x5c1 x5l x6c0 x6c1 x6l x7c0 x7c1 x7l)
      have hA : Below w8.heap.size w8 (w8.alloc (.cells #[.int .i64 N0, .slice a8 (L4).length c8] 26)) := Below.alloc (Below.refl _ _) (Nat.le_refl _) _
      replace x0 := boxed.on x0 hA
      replace x1 := boxed.on x1 hA
      replace x2 := boxed.on x2 hA
      replace x3 := boxed.on x3 hA
      replace x4 := boxed.on x4 hA
      replace x5 := boxed.on x5 hA
      replace x6 := boxed.on x6 hA
      replace x7 := boxed.on x7 hA
      replace r0 := r0.kept hA
      replace r1 := r1.kept hA
      replace r2 := r2.kept hA
      replace r3 := r3.kept hA
      replace r4 := r4.kept hA
      replace r5 := r5.kept hA
      replace r6 := r6.kept hA
      replace r7 := r7.kept hA
      replace r8 := r8.kept hA
      replace hbT := hbT.trans (hA.mono hbT.size)
      have x8 : boxed (w8.alloc (.cells #[.int .i64 N0, .slice a8 (L4).length c8] 26)) w8.heap.size 26 N0 (.slice a8 (L4).length c8) := heap_alloc_last _ _
      clear hA
      skip
      generalize w8.alloc (.cells #[.int .i64 N0, .slice a8 (L4).length c8] 26) = WU at x0 x1 x2 x3 x4 x5 x6 x7 x8 r0 r1 r2 r3 r4 r5 r6 r7 r8 hbT ⊢
      have x0c0 := x0.c0
      have x0c1 := x0.c1
      have x0l := x0.lt
      have x1c0 := x1.c0
      have x1c1 := x1.c1
      have x1l := x1.lt
      have x2c0 := x2.c0
      have x2c1 := x2.c1
      have x2l := x2.lt
      have x3c0 := x3.c0
      have x3c1 := x3.c1
      have x3l := x3.lt
      have x4c0 := x4.c0
      have x4c1 := x4.c1
      have x4l := x4.lt
      have x5c0 := x5.c0
      have x5c1 := x5.c1
      have x5l := x5.lt
      have x6c0 := x6.c0
      have x6c1 := x6.c1
      have x6l := x6.lt
      have x7c0 := x7.c0
      have x7c1 := x7.c1
      have x7l := x7.lt
      have x8c0 := x8.c0
      have x8c1 := x8.c1
      have x8l := x8.lt
      have hcU : (U != U) = false := by simp
      go_upto_region 46 with (first | (go_at_call 8; (try clear x0c0 x0c1 x0l x1c0 x1c1 x1l x2c0 x2c1 x2l x3c0 x3c1 x3l x4c0 x4c1 x4l x5c0 x5c1 x5l x6c0 x6c1 x6l x7c0 x7c1 x7l x8c0 x8c1 x8l); with_reducible refine Calls.mono (braid5_same N0 _ _ L1 _ r1 r2 HL1.out) ?_; rintro e w9 ⟨rfl, hB⟩; replace x0 := boxed.on x0 hB; replace x1 := boxed.on x1 hB; replace x2 := boxed.on x2 hB; replace x3 := boxed.on x3 hB; replace x4 := boxed.on x4 hB; replace x5 := boxed.on x5 hB; replace x6 := boxed.on x6 hB; replace x7 := boxed.on x7 hB; replace x8 := boxed.on x8 hB; replace r0 := r0.kept hB; replace r1 := r1.kept hB; replace r2 := r2.kept hB; replace r3 := r3.kept hB; replace r4 := r4.kept hB; replace r5 := r5.kept hB; replace r6 := r6.kept hB; replace r7 := r7.kept hB; replace r8 := r8.kept hB; replace hbT := hbT.trans (hB.mono hbT.size); clear hB; have x0c0 := x0.c0; have x0c1 := x0.c1; have x0l := x0.lt; have x1c0 := x1.c0; have x1c1 := x1.c1; have x1l := x1.lt; have x2c0 := x2.c0; have x2c1 := x2.c1; have x2l := x2.lt; have x3c0 := x3.c0; have x3c1 := x3.c1; have x3l := x3.lt; have x4c0 := x4.c0; have x4c1 := x4.c1; have x4l := x4.lt; have x5c0 := x5.c0; have x5c1 := x5.c1; have x5l := x5.lt; have x6c0 := x6.c0; have x6c1 := x6.c1; have x6l := x6.lt; have x7c0 := x7.c0; have x7c1 := x7.c1; have x7l := x7.lt; have x8c0 := x8.c0; have x8c1 := x8.c1; have x8l := x8.lt)
                                              | (go_at_call 8; (try clear x0c0 x0c1 x0l x1c0 x1c1 x1l x2c0 x2c1 x2l x3c0 x3c1 x3l x4c0 x4c1 x4l x5c0 x5c1 x5l x6c0 x6c1 x6l x7c0 x7c1 x7l x8c0 x8c1 x8l); with_reducible refine Calls.mono (braid5_same N0 _ _ L2 _ r3 r4 HL2.out) ?_; rintro e w10 ⟨rfl, hB⟩; replace x0 := boxed.on x0 hB; replace x1 := boxed.on x1 hB; replace x2 := boxed.on x2 hB; replace x3 := boxed.on x3 hB; replace x4 := boxed.on x4 hB; replace x5 := boxed.on x5 hB; replace x6 := boxed.on x6 hB; replace x7 := boxed.on x7 hB; replace x8 := boxed.on x8 hB; replace r0 := r0.kept hB; replace r1 := r1.kept hB; replace r2 := r2.kept hB; replace r3 := r3.kept hB; replace r4 := r4.kept hB; replace r5 := r5.kept hB; replace r6 := r6.kept hB; replace r7 := r7.kept hB; replace r8 := r8.kept hB; replace hbT := hbT.trans (hB.mono hbT.size); clear hB; have x0c0 := x0.c0; have x0c1 := x0.c1; have x0l := x0.lt; have x1c0 := x1.c0; have x1c1 := x1.c1; have x1l := x1.lt; have x2c0 := x2.c0; have x2c1 := x2.c1; have x2l := x2.lt; have x3c0 := x3.c0; have x3c1 := x3.c1; have x3l := x3.lt; have x4c0 := x4.c0; have x4c1 := x4.c1; have x4l := x4.lt; have x5c0 := x5.c0; have x5c1 := x5.c1; have x5l := x5.lt; have x6c0 := x6.c0; have x6c1 := x6.c1; have x6l := x6.lt; have x7c0 := x7.c0; have x7c1 := x7.c1; have x7l := x7.lt; have x8c0 := x8.c0; have x8c1 := x8.c1; have x8l := x8.lt)
                                              | (go_at_call 8; (try clear x0c0 x0c1 x0l x1c0 x1c1 x1l x2c0 x2c1 x2l x3c0 x3c1 x3l x4c0 x4c1 x4l x5c0 x5c1 x5l x6c0 x6c1 x6l x7c0 x7c1 x7l x8c0 x8c1 x8l); with_reducible refine Calls.mono (braid5_same N0 _ _ L3 _ r5 r6 HL3.out) ?_; rintro e w11 ⟨rfl, hB⟩; replace x0 := boxed.on x0 hB; replace x1 := boxed.on x1 hB; replace x2 := boxed.on x2 hB; replace x3 := boxed.on x3 hB; replace x4 := boxed.on x4 hB; replace x5 := boxed.on x5 hB; replace x6 := boxed.on x6 hB; replace x7 := boxed.on x7 hB; replace x8 := boxed.on x8 hB; replace r0 := r0.kept hB; replace r1 := r1.kept hB; replace r2 := r2.kept hB; replace r3 := r3.kept hB; replace r4 := r4.kept hB; replace r5 := r5.kept hB; replace r6 := r6.kept hB; replace r7 := r7.kept hB; replace r8 := r8.kept hB; replace hbT := hbT.trans (hB.mono hbT.size); clear hB; have x0c0 := x0.c0; have x0c1 := x0.c1; have x0l := x0.lt; have x1c0 := x1.c0; have x1c1 := x1.c1; have x1l := x1.lt; have x2c0 := x2.c0; have x2c1 := x2.c1; have x2l := x2.lt; have x3c0 := x3.c0; have x3c1 := x3.c1; have x3l := x3.lt; have x4c0 := x4.c0; have x4c1 := x4.c1; have x4l := x4.lt; have x5c0 := x5.c0; have x5c1 := x5.c1; have x5l := x5.lt; have x6c0 := x6.c0; have x6c1 := x6.c1; have x6l := x6.lt; have x7c0 := x7.c0; have x7c1 := x7.c1; have x7l := x7.lt; have x8c0 := x8.c0; have x8c1 := x8.c1; have x8l := x8.lt)
                                              | (go_at_call 8; (try clear x0c0 x0c1 x0l x1c0 x1c1 x1l x2c0 x2c1 x2l x3c0 x3c1 x3l x4c0 x4c1 x4l x5c0 x5c1 x5l x6c0 x6c1 x6l x7c0 x7c1 x7l x8c0 x8c1 x8l); with_reducible refine Calls.mono (braid5_same N0 _ _ L4 _ r7 r8 HL4.out) ?_; rintro e w12 ⟨rfl, hB⟩; replace x0 := boxed.on x0 hB; replace x1 := boxed.on x1 hB; replace x2 := boxed.on x2 hB; replace x3 := boxed.on x3 hB; replace x4 := boxed.on x4 hB; replace x5 := boxed.on x5 hB; replace x6 := boxed.on x6 hB; replace x7 := boxed.on x7 hB; replace x8 := boxed.on x8 hB; replace r0 := r0.kept hB; replace r1 := r1.kept hB; replace r2 := r2.kept hB; replace r3 := r3.kept hB; replace r4 := r4.kept hB; replace r5 := r5.kept hB; replace r6 := r6.kept hB; replace r7 := r7.kept hB; replace r8 := r8.kept hB; replace hbT := hbT.trans (hB.mono hbT.size); clear hB; have x0c0 := x0.c0; have x0c1 := x0.c1; have x0l := x0.lt; have x1c0 := x1.c0; have x1c1 := x1.c1; have x1l := x1.lt; have x2c0 := x2.c0; have x2c1 := x2.c1; have x2l := x2.lt; have x3c0 := x3.c0; have x3c1 := x3.c1; have x3l := x3.lt; have x4c0 := x4.c0; have x4c1 := x4.c1; have x4l := x4.lt; have x5c0 := x5.c0; have x5c1 := x5.c1; have x5l := x5.lt; have x6c0 := x6.c0; have x6c1 := x6.c1; have x6l := x6.lt; have x7c0 := x7.c0; have x7c1 := x7.c1; have x7l := x7.lt; have x8c0 := x8.c0; have x8c1 := x8.c1; have x8l := x8.lt))
      clear hcU x2 x4 x6 x8 r2 r4 r6 r8 H0 H1 H2 H3 H4 H5 H6 H7
      by_cases hU0 : U = 0
      · subst hU0
        obtain ⟨hok, hN0, e1, e2, e3, e4⟩ := HU.out rfl
        obtain rfl := hN0.symm
        obtain ⟨s, hb0, hb1, hb2, hb3, hb4, hb5, hb6⟩ := back_ok hok
        have hds : ds.length ≤ 1000000000 := by omega
        obtain ⟨hb7, hb8⟩ := hb6 (by omega)
        rw [← e1] at hb0 hb7 hb8
        rw [← e2] at hb1
        rw [← e3] at hb2
        rw [← e4] at hb3
        generalize ds ++ L1 = PL at hb7 hb8
        clear e1 e2 e3 e4
        have B0 := Lib.hid hb0
        have B1 := Lib.hid hb1
        have B2 := Lib.hid hb2
        have B3 := Lib.hid hb3
        have B4 := Lib.hid hb4
        have B5 := Lib.hid hb5
        have B6 := Lib.hid hb7
        have B7 := Lib.hid hb8
        have hmu : IntKind.i64.wrap (2 * (ds.length : Int)) = 2 * (ds.length : Int) := by rw [IntKind.wrap_i64]; omega
        have hmv : (2 * (ds.length : Int)) ≤ 200 := by omega
        clear hb0 hb1 hb2 hb3 hb4 hb5 hb6 hb7 hb8 hok HU
        go_upto_region 53 with (first | (go_at_call 15; (try clear x0c0 x0c1 x0l x1c0 x1c1 x1l x3c0 x3c1 x3l x5c0 x5c1 x5l x7c0 x7c1 x7l); with_reducible refine Calls.mono (B0.out _ _ r1) ?_; intro e w13 hh; have hh2 := retB2_f hh; clear hh; obtain ⟨v13, rfl, hB, ho13⟩ := hh2; have r13 := ho13.reads; clear ho13; obtain ⟨a13, c13, rfl⟩ := readsK_form r13; replace x0 := boxed.on x0 hB; replace x1 := boxed.on x1 hB; replace x3 := boxed.on x3 hB; replace x5 := boxed.on x5 hB; replace x7 := boxed.on x7 hB; replace r0 := r0.kept hB; replace r1 := r1.kept hB; replace r3 := r3.kept hB; replace r5 := r5.kept hB; replace r7 := r7.kept hB; replace hbT := hbT.trans (hB.mono hbT.size); clear hB; have x0c0 := x0.c0; have x0c1 := x0.c1; have x0l := x0.lt; have x1c0 := x1.c0; have x1c1 := x1.c1; have x1l := x1.lt; have x3c0 := x3.c0; have x3c1 := x3.c1; have x3l := x3.lt; have x5c0 := x5.c0; have x5c1 := x5.c1; have x5l := x5.lt; have x7c0 := x7.c0; have x7c1 := x7.c1; have x7l := x7.lt)
                                              | (go_at_call 17; (try clear x0c0 x0c1 x0l x1c0 x1c1 x1l x3c0 x3c1 x3l x5c0 x5c1 x5l x7c0 x7c1 x7l); have hA : Below w13.heap.size w13 (w13.alloc (.cells #[.int .i64 n, .slice a13 (ds).length c13] 26)) := Below.alloc (Below.refl _ _) (Nat.le_refl _) _; replace x0 := boxed.on x0 hA; replace x1 := boxed.on x1 hA; replace x3 := boxed.on x3 hA; replace x5 := boxed.on x5 hA; replace x7 := boxed.on x7 hA; replace r0 := r0.kept hA; replace r1 := r1.kept hA; replace r3 := r3.kept hA; replace r5 := r5.kept hA; replace r7 := r7.kept hA; replace r13 := r13.kept hA; replace hbT := hbT.trans (hA.mono hbT.size); have x13 : boxed (w13.alloc (.cells #[.int .i64 n, .slice a13 (ds).length c13] 26)) w13.heap.size 26 n (.slice a13 (ds).length c13) := heap_alloc_last _ _; clear hA; with_reducible refine Calls.mono (B1.out _ _ r3) ?_; intro e w14 hh; have hh2 := retB2_f hh; clear hh; obtain ⟨v14, rfl, hB, ho14⟩ := hh2; have r14 := ho14.reads; clear ho14; obtain ⟨a14, c14, rfl⟩ := readsK_form r14; replace x0 := boxed.on x0 hB; replace x1 := boxed.on x1 hB; replace x3 := boxed.on x3 hB; replace x5 := boxed.on x5 hB; replace x7 := boxed.on x7 hB; replace x13 := boxed.on x13 hB; replace r0 := r0.kept hB; replace r1 := r1.kept hB; replace r3 := r3.kept hB; replace r5 := r5.kept hB; replace r7 := r7.kept hB; replace r13 := r13.kept hB; replace hbT := hbT.trans (hB.mono hbT.size); clear hB; have x0c0 := x0.c0; have x0c1 := x0.c1; have x0l := x0.lt; have x1c0 := x1.c0; have x1c1 := x1.c1; have x1l := x1.lt; have x3c0 := x3.c0; have x3c1 := x3.c1; have x3l := x3.lt; have x5c0 := x5.c0; have x5c1 := x5.c1; have x5l := x5.lt; have x7c0 := x7.c0; have x7c1 := x7.c1; have x7l := x7.lt; have x13c0 := x13.c0; have x13c1 := x13.c1; have x13l := x13.lt)
                                              | (go_at_call 19; (try clear x0c0 x0c1 x0l x1c0 x1c1 x1l x3c0 x3c1 x3l x5c0 x5c1 x5l x7c0 x7c1 x7l x13c0 x13c1 x13l); have hA : Below w14.heap.size w14 (w14.alloc (.cells #[.int .i64 n, .slice a14 (ds).length c14] 26)) := Below.alloc (Below.refl _ _) (Nat.le_refl _) _; replace x0 := boxed.on x0 hA; replace x1 := boxed.on x1 hA; replace x3 := boxed.on x3 hA; replace x5 := boxed.on x5 hA; replace x7 := boxed.on x7 hA; replace x13 := boxed.on x13 hA; replace r0 := r0.kept hA; replace r1 := r1.kept hA; replace r3 := r3.kept hA; replace r5 := r5.kept hA; replace r7 := r7.kept hA; replace r13 := r13.kept hA; replace r14 := r14.kept hA; replace hbT := hbT.trans (hA.mono hbT.size); have x14 : boxed (w14.alloc (.cells #[.int .i64 n, .slice a14 (ds).length c14] 26)) w14.heap.size 26 n (.slice a14 (ds).length c14) := heap_alloc_last _ _; clear hA; with_reducible refine Calls.mono (B2.out _ _ r5) ?_; intro e w15 hh; have hh2 := retB2_f hh; clear hh; obtain ⟨v15, rfl, hB, ho15⟩ := hh2; have r15 := ho15.reads; clear ho15; obtain ⟨a15, c15, rfl⟩ := readsK_form r15; replace x0 := boxed.on x0 hB; replace x1 := boxed.on x1 hB; replace x3 := boxed.on x3 hB; replace x5 := boxed.on x5 hB; replace x7 := boxed.on x7 hB; replace x13 := boxed.on x13 hB; replace x14 := boxed.on x14 hB; replace r0 := r0.kept hB; replace r1 := r1.kept hB; replace r3 := r3.kept hB; replace r5 := r5.kept hB; replace r7 := r7.kept hB; replace r13 := r13.kept hB; replace r14 := r14.kept hB; replace hbT := hbT.trans (hB.mono hbT.size); clear hB; have x0c0 := x0.c0; have x0c1 := x0.c1; have x0l := x0.lt; have x1c0 := x1.c0; have x1c1 := x1.c1; have x1l := x1.lt; have x3c0 := x3.c0; have x3c1 := x3.c1; have x3l := x3.lt; have x5c0 := x5.c0; have x5c1 := x5.c1; have x5l := x5.lt; have x7c0 := x7.c0; have x7c1 := x7.c1; have x7l := x7.lt; have x13c0 := x13.c0; have x13c1 := x13.c1; have x13l := x13.lt; have x14c0 := x14.c0; have x14c1 := x14.c1; have x14l := x14.lt)
                                              | (go_at_call 21; (try clear x0c0 x0c1 x0l x1c0 x1c1 x1l x3c0 x3c1 x3l x5c0 x5c1 x5l x7c0 x7c1 x7l x13c0 x13c1 x13l x14c0 x14c1 x14l); have hA : Below w15.heap.size w15 (w15.alloc (.cells #[.int .i64 n, .slice a15 (ds).length c15] 26)) := Below.alloc (Below.refl _ _) (Nat.le_refl _) _; replace x0 := boxed.on x0 hA; replace x1 := boxed.on x1 hA; replace x3 := boxed.on x3 hA; replace x5 := boxed.on x5 hA; replace x7 := boxed.on x7 hA; replace x13 := boxed.on x13 hA; replace x14 := boxed.on x14 hA; replace r0 := r0.kept hA; replace r1 := r1.kept hA; replace r3 := r3.kept hA; replace r5 := r5.kept hA; replace r7 := r7.kept hA; replace r13 := r13.kept hA; replace r14 := r14.kept hA; replace r15 := r15.kept hA; replace hbT := hbT.trans (hA.mono hbT.size); have x15 : boxed (w15.alloc (.cells #[.int .i64 n, .slice a15 (ds).length c15] 26)) w15.heap.size 26 n (.slice a15 (ds).length c15) := heap_alloc_last _ _; clear hA; with_reducible refine Calls.mono (B3.out _ _ r7) ?_; intro e w16 hh; have hh2 := retB2_f hh; clear hh; obtain ⟨v16, rfl, hB, ho16⟩ := hh2; have r16 := ho16.reads; clear ho16; obtain ⟨a16, c16, rfl⟩ := readsK_form r16; replace x0 := boxed.on x0 hB; replace x1 := boxed.on x1 hB; replace x3 := boxed.on x3 hB; replace x5 := boxed.on x5 hB; replace x7 := boxed.on x7 hB; replace x13 := boxed.on x13 hB; replace x14 := boxed.on x14 hB; replace x15 := boxed.on x15 hB; replace r0 := r0.kept hB; replace r1 := r1.kept hB; replace r3 := r3.kept hB; replace r5 := r5.kept hB; replace r7 := r7.kept hB; replace r13 := r13.kept hB; replace r14 := r14.kept hB; replace r15 := r15.kept hB; replace hbT := hbT.trans (hB.mono hbT.size); clear hB; have x0c0 := x0.c0; have x0c1 := x0.c1; have x0l := x0.lt; have x1c0 := x1.c0; have x1c1 := x1.c1; have x1l := x1.lt; have x3c0 := x3.c0; have x3c1 := x3.c1; have x3l := x3.lt; have x5c0 := x5.c0; have x5c1 := x5.c1; have x5l := x5.lt; have x7c0 := x7.c0; have x7c1 := x7.c1; have x7l := x7.lt; have x13c0 := x13.c0; have x13c1 := x13.c1; have x13l := x13.lt; have x14c0 := x14.c0; have x14c1 := x14.c1; have x14l := x14.lt; have x15c0 := x15.c0; have x15c1 := x15.c1; have x15l := x15.lt)
                                              | (go_at_call 23; (try clear x0c0 x0c1 x0l x1c0 x1c1 x1l x3c0 x3c1 x3l x5c0 x5c1 x5l x7c0 x7c1 x7l x13c0 x13c1 x13l x14c0 x14c1 x14l x15c0 x15c1 x15l); have hA : Below w16.heap.size w16 (w16.alloc (.cells #[.int .i64 n, .slice a16 (ds).length c16] 26)) := Below.alloc (Below.refl _ _) (Nat.le_refl _) _; replace x0 := boxed.on x0 hA; replace x1 := boxed.on x1 hA; replace x3 := boxed.on x3 hA; replace x5 := boxed.on x5 hA; replace x7 := boxed.on x7 hA; replace x13 := boxed.on x13 hA; replace x14 := boxed.on x14 hA; replace x15 := boxed.on x15 hA; replace r0 := r0.kept hA; replace r1 := r1.kept hA; replace r3 := r3.kept hA; replace r5 := r5.kept hA; replace r7 := r7.kept hA; replace r13 := r13.kept hA; replace r14 := r14.kept hA; replace r15 := r15.kept hA; replace r16 := r16.kept hA; replace hbT := hbT.trans (hA.mono hbT.size); have x16 : boxed (w16.alloc (.cells #[.int .i64 n, .slice a16 (ds).length c16] 26)) w16.heap.size 26 n (.slice a16 (ds).length c16) := heap_alloc_last _ _; clear hA; go_loud (with_reducible refine Calls.mono (B4.out _ _ r0 (Door.pow (HT.out.on hbT))) ?_); rintro e w17 ⟨rfl, hB⟩; replace x0 := boxed.on x0 hB; replace x1 := boxed.on x1 hB; replace x3 := boxed.on x3 hB; replace x5 := boxed.on x5 hB; replace x7 := boxed.on x7 hB; replace x13 := boxed.on x13 hB; replace x14 := boxed.on x14 hB; replace x15 := boxed.on x15 hB; replace x16 := boxed.on x16 hB; replace r0 := r0.kept hB; replace r1 := r1.kept hB; replace r3 := r3.kept hB; replace r5 := r5.kept hB; replace r7 := r7.kept hB; replace r13 := r13.kept hB; replace r14 := r14.kept hB; replace r15 := r15.kept hB; replace r16 := r16.kept hB; replace hbT := hbT.trans (hB.mono hbT.size); clear hB; have x0c0 := x0.c0; have x0c1 := x0.c1; have x0l := x0.lt; have x1c0 := x1.c0; have x1c1 := x1.c1; have x1l := x1.lt; have x3c0 := x3.c0; have x3c1 := x3.c1; have x3l := x3.lt; have x5c0 := x5.c0; have x5c1 := x5.c1; have x5l := x5.lt; have x7c0 := x7.c0; have x7c1 := x7.c1; have x7l := x7.lt; have x13c0 := x13.c0; have x13c1 := x13.c1; have x13l := x13.lt; have x14c0 := x14.c0; have x14c1 := x14.c1; have x14l := x14.lt; have x15c0 := x15.c0; have x15c1 := x15.c1; have x15l := x15.lt; have x16c0 := x16.c0; have x16c1 := x16.c1; have x16l := x16.lt)
                                              | (go_at_call 24; (try clear x0c0 x0c1 x0l x1c0 x1c1 x1l x3c0 x3c1 x3l x5c0 x5c1 x5l x7c0 x7c1 x7l x13c0 x13c1 x13l x14c0 x14c1 x14l x15c0 x15c1 x15l x16c0 x16c1 x16l); with_reducible refine Calls.mono (B5.out _ (HT.out.on hbT)) ?_; intro e w18 hh; have hh2 := retB2_f hh; clear hh; obtain ⟨v18, rfl, hB, ho18⟩ := hh2; have r18 := ho18.reads; clear ho18; obtain ⟨a18, c18, rfl⟩ := readsK_form r18; replace x0 := boxed.on x0 hB; replace x1 := boxed.on x1 hB; replace x3 := boxed.on x3 hB; replace x5 := boxed.on x5 hB; replace x7 := boxed.on x7 hB; replace x13 := boxed.on x13 hB; replace x14 := boxed.on x14 hB; replace x15 := boxed.on x15 hB; replace x16 := boxed.on x16 hB; replace r0 := r0.kept hB; replace r1 := r1.kept hB; replace r3 := r3.kept hB; replace r5 := r5.kept hB; replace r7 := r7.kept hB; replace r13 := r13.kept hB; replace r14 := r14.kept hB; replace r15 := r15.kept hB; replace r16 := r16.kept hB; replace hbT := hbT.trans (hB.mono hbT.size); clear hB; have x0c0 := x0.c0; have x0c1 := x0.c1; have x0l := x0.lt; have x1c0 := x1.c0; have x1c1 := x1.c1; have x1l := x1.lt; have x3c0 := x3.c0; have x3c1 := x3.c1; have x3l := x3.lt; have x5c0 := x5.c0; have x5c1 := x5.c1; have x5l := x5.lt; have x7c0 := x7.c0; have x7c1 := x7.c1; have x7l := x7.lt; have x13c0 := x13.c0; have x13c1 := x13.c1; have x13l := x13.lt; have x14c0 := x14.c0; have x14c1 := x14.c1; have x14l := x14.lt; have x15c0 := x15.c0; have x15c1 := x15.c1; have x15l := x15.lt; have x16c0 := x16.c0; have x16c1 := x16.c1; have x16l := x16.lt))
        (try clear x0c0 x0c1 x0l x1c0 x1c1 x1l x3c0 x3c1 x3l x5c0 x5c1 x5l x7c0 x7c1 x7l x13c0 x13c1 x13l x14c0 x14c1 x14l x15c0 x15c1 x15l x16c0 x16c1 x16l)
        have hA : Below w18.heap.size w18 (w18.alloc (.cells #[.int .i64 n, .slice a18 (ds).length c18] 26)) := Below.alloc (Below.refl _ _) (Nat.le_refl _) _
        replace x0 := boxed.on x0 hA
        replace x1 := boxed.on x1 hA
        replace x3 := boxed.on x3 hA
        replace x5 := boxed.on x5 hA
        replace x7 := boxed.on x7 hA
        replace x13 := boxed.on x13 hA
        replace x14 := boxed.on x14 hA
        replace x15 := boxed.on x15 hA
        replace x16 := boxed.on x16 hA
        replace r0 := r0.kept hA
        replace r1 := r1.kept hA
        replace r3 := r3.kept hA
        replace r5 := r5.kept hA
        replace r7 := r7.kept hA
        replace r13 := r13.kept hA
        replace r14 := r14.kept hA
        replace r15 := r15.kept hA
        replace r16 := r16.kept hA
        replace r18 := r18.kept hA
        replace hbT := hbT.trans (hA.mono hbT.size)
        have x18 : boxed (w18.alloc (.cells #[.int .i64 n, .slice a18 (ds).length c18] 26)) w18.heap.size 26 n (.slice a18 (ds).length c18) := heap_alloc_last _ _
        clear hA
        skip
        generalize w18.alloc (.cells #[.int .i64 n, .slice a18 (ds).length c18] 26) = WV at x0 x1 x3 x5 x7 x13 x14 x15 x16 x18 r0 r1 r3 r5 r7 r13 r14 r15 r16 r18 hbT ⊢
        have x0c0 := x0.c0
        have x0c1 := x0.c1
        have x0l := x0.lt
        have x1c0 := x1.c0
        have x1c1 := x1.c1
        have x1l := x1.lt
        have x3c0 := x3.c0
        have x3c1 := x3.c1
        have x3l := x3.lt
        have x5c0 := x5.c0
        have x5c1 := x5.c1
        have x5l := x5.lt
        have x7c0 := x7.c0
        have x7c1 := x7.c1
        have x7l := x7.lt
        have x13c0 := x13.c0
        have x13c1 := x13.c1
        have x13l := x13.lt
        have x14c0 := x14.c0
        have x14c1 := x14.c1
        have x14l := x14.lt
        have x15c0 := x15.c0
        have x15c1 := x15.c1
        have x15l := x15.lt
        have x16c0 := x16.c0
        have x16c1 := x16.c1
        have x16l := x16.lt
        have x18c0 := x18.c0
        have x18c1 := x18.c1
        have x18l := x18.lt
        go_upto_region 55 with (first | (go_at_call 8; (try clear x0c0 x0c1 x0l x1c0 x1c1 x1l x3c0 x3c1 x3l x5c0 x5c1 x5l x7c0 x7c1 x7l x13c0 x13c1 x13l x14c0 x14c1 x14l x15c0 x15c1 x15l x16c0 x16c1 x16l x18c0 x18c1 x18l); with_reducible refine Calls.mono (braid5_same n _ _ ds _ r13 r0 hds) ?_; rintro e w19 ⟨rfl, hB⟩; replace x0 := boxed.on x0 hB; replace x1 := boxed.on x1 hB; replace x3 := boxed.on x3 hB; replace x5 := boxed.on x5 hB; replace x7 := boxed.on x7 hB; replace x13 := boxed.on x13 hB; replace x14 := boxed.on x14 hB; replace x15 := boxed.on x15 hB; replace x16 := boxed.on x16 hB; replace x18 := boxed.on x18 hB; replace r0 := r0.kept hB; replace r1 := r1.kept hB; replace r3 := r3.kept hB; replace r5 := r5.kept hB; replace r7 := r7.kept hB; replace r13 := r13.kept hB; replace r14 := r14.kept hB; replace r15 := r15.kept hB; replace r16 := r16.kept hB; replace r18 := r18.kept hB; replace hbT := hbT.trans (hB.mono hbT.size); clear hB; have x0c0 := x0.c0; have x0c1 := x0.c1; have x0l := x0.lt; have x1c0 := x1.c0; have x1c1 := x1.c1; have x1l := x1.lt; have x3c0 := x3.c0; have x3c1 := x3.c1; have x3l := x3.lt; have x5c0 := x5.c0; have x5c1 := x5.c1; have x5l := x5.lt; have x7c0 := x7.c0; have x7c1 := x7.c1; have x7l := x7.lt; have x13c0 := x13.c0; have x13c1 := x13.c1; have x13l := x13.lt; have x14c0 := x14.c0; have x14c1 := x14.c1; have x14l := x14.lt; have x15c0 := x15.c0; have x15c1 := x15.c1; have x15l := x15.lt; have x16c0 := x16.c0; have x16c1 := x16.c1; have x16l := x16.lt; have x18c0 := x18.c0; have x18c1 := x18.c1; have x18l := x18.lt)
                                              | (go_at_call 8; (try clear x0c0 x0c1 x0l x1c0 x1c1 x1l x3c0 x3c1 x3l x5c0 x5c1 x5l x7c0 x7c1 x7l x13c0 x13c1 x13l x14c0 x14c1 x14l x15c0 x15c1 x15l x16c0 x16c1 x16l x18c0 x18c1 x18l); with_reducible refine Calls.mono (braid5_same n _ _ ds _ r14 r0 hds) ?_; rintro e w20 ⟨rfl, hB⟩; replace x0 := boxed.on x0 hB; replace x1 := boxed.on x1 hB; replace x3 := boxed.on x3 hB; replace x5 := boxed.on x5 hB; replace x7 := boxed.on x7 hB; replace x13 := boxed.on x13 hB; replace x14 := boxed.on x14 hB; replace x15 := boxed.on x15 hB; replace x16 := boxed.on x16 hB; replace x18 := boxed.on x18 hB; replace r0 := r0.kept hB; replace r1 := r1.kept hB; replace r3 := r3.kept hB; replace r5 := r5.kept hB; replace r7 := r7.kept hB; replace r13 := r13.kept hB; replace r14 := r14.kept hB; replace r15 := r15.kept hB; replace r16 := r16.kept hB; replace r18 := r18.kept hB; replace hbT := hbT.trans (hB.mono hbT.size); clear hB; have x0c0 := x0.c0; have x0c1 := x0.c1; have x0l := x0.lt; have x1c0 := x1.c0; have x1c1 := x1.c1; have x1l := x1.lt; have x3c0 := x3.c0; have x3c1 := x3.c1; have x3l := x3.lt; have x5c0 := x5.c0; have x5c1 := x5.c1; have x5l := x5.lt; have x7c0 := x7.c0; have x7c1 := x7.c1; have x7l := x7.lt; have x13c0 := x13.c0; have x13c1 := x13.c1; have x13l := x13.lt; have x14c0 := x14.c0; have x14c1 := x14.c1; have x14l := x14.lt; have x15c0 := x15.c0; have x15c1 := x15.c1; have x15l := x15.lt; have x16c0 := x16.c0; have x16c1 := x16.c1; have x16l := x16.lt; have x18c0 := x18.c0; have x18c1 := x18.c1; have x18l := x18.lt)
                                              | (go_at_call 8; (try clear x0c0 x0c1 x0l x1c0 x1c1 x1l x3c0 x3c1 x3l x5c0 x5c1 x5l x7c0 x7c1 x7l x13c0 x13c1 x13l x14c0 x14c1 x14l x15c0 x15c1 x15l x16c0 x16c1 x16l x18c0 x18c1 x18l); with_reducible refine Calls.mono (braid5_same n _ _ ds _ r15 r0 hds) ?_; rintro e w21 ⟨rfl, hB⟩; replace x0 := boxed.on x0 hB; replace x1 := boxed.on x1 hB; replace x3 := boxed.on x3 hB; replace x5 := boxed.on x5 hB; replace x7 := boxed.on x7 hB; replace x13 := boxed.on x13 hB; replace x14 := boxed.on x14 hB; replace x15 := boxed.on x15 hB; replace x16 := boxed.on x16 hB; replace x18 := boxed.on x18 hB; replace r0 := r0.kept hB; replace r1 := r1.kept hB; replace r3 := r3.kept hB; replace r5 := r5.kept hB; replace r7 := r7.kept hB; replace r13 := r13.kept hB; replace r14 := r14.kept hB; replace r15 := r15.kept hB; replace r16 := r16.kept hB; replace r18 := r18.kept hB; replace hbT := hbT.trans (hB.mono hbT.size); clear hB; have x0c0 := x0.c0; have x0c1 := x0.c1; have x0l := x0.lt; have x1c0 := x1.c0; have x1c1 := x1.c1; have x1l := x1.lt; have x3c0 := x3.c0; have x3c1 := x3.c1; have x3l := x3.lt; have x5c0 := x5.c0; have x5c1 := x5.c1; have x5l := x5.lt; have x7c0 := x7.c0; have x7c1 := x7.c1; have x7l := x7.lt; have x13c0 := x13.c0; have x13c1 := x13.c1; have x13l := x13.lt; have x14c0 := x14.c0; have x14c1 := x14.c1; have x14l := x14.lt; have x15c0 := x15.c0; have x15c1 := x15.c1; have x15l := x15.lt; have x16c0 := x16.c0; have x16c1 := x16.c1; have x16l := x16.lt; have x18c0 := x18.c0; have x18c1 := x18.c1; have x18l := x18.lt)
                                              | (go_at_call 8; (try clear x0c0 x0c1 x0l x1c0 x1c1 x1l x3c0 x3c1 x3l x5c0 x5c1 x5l x7c0 x7c1 x7l x13c0 x13c1 x13l x14c0 x14c1 x14l x15c0 x15c1 x15l x16c0 x16c1 x16l x18c0 x18c1 x18l); with_reducible refine Calls.mono (braid5_same n _ _ ds _ r16 r0 hds) ?_; rintro e w22 ⟨rfl, hB⟩; replace x0 := boxed.on x0 hB; replace x1 := boxed.on x1 hB; replace x3 := boxed.on x3 hB; replace x5 := boxed.on x5 hB; replace x7 := boxed.on x7 hB; replace x13 := boxed.on x13 hB; replace x14 := boxed.on x14 hB; replace x15 := boxed.on x15 hB; replace x16 := boxed.on x16 hB; replace x18 := boxed.on x18 hB; replace r0 := r0.kept hB; replace r1 := r1.kept hB; replace r3 := r3.kept hB; replace r5 := r5.kept hB; replace r7 := r7.kept hB; replace r13 := r13.kept hB; replace r14 := r14.kept hB; replace r15 := r15.kept hB; replace r16 := r16.kept hB; replace r18 := r18.kept hB; replace hbT := hbT.trans (hB.mono hbT.size); clear hB; have x0c0 := x0.c0; have x0c1 := x0.c1; have x0l := x0.lt; have x1c0 := x1.c0; have x1c1 := x1.c1; have x1l := x1.lt; have x3c0 := x3.c0; have x3c1 := x3.c1; have x3l := x3.lt; have x5c0 := x5.c0; have x5c1 := x5.c1; have x5l := x5.lt; have x7c0 := x7.c0; have x7c1 := x7.c1; have x7l := x7.lt; have x13c0 := x13.c0; have x13c1 := x13.c1; have x13l := x13.lt; have x14c0 := x14.c0; have x14c1 := x14.c1; have x14l := x14.lt; have x15c0 := x15.c0; have x15c1 := x15.c1; have x15l := x15.lt; have x16c0 := x16.c0; have x16c1 := x16.c1; have x16l := x16.lt; have x18c0 := x18.c0; have x18c1 := x18.c1; have x18l := x18.lt)
                                              | (go_at_call 8; (try clear x0c0 x0c1 x0l x1c0 x1c1 x1l x3c0 x3c1 x3l x5c0 x5c1 x5l x7c0 x7c1 x7l x13c0 x13c1 x13l x14c0 x14c1 x14l x15c0 x15c1 x15l x16c0 x16c1 x16l x18c0 x18c1 x18l); with_reducible refine Calls.mono (braid5_same n _ _ ds _ r18 r0 hds) ?_; rintro e w23 ⟨rfl, hB⟩; replace x0 := boxed.on x0 hB; replace x1 := boxed.on x1 hB; replace x3 := boxed.on x3 hB; replace x5 := boxed.on x5 hB; replace x7 := boxed.on x7 hB; replace x13 := boxed.on x13 hB; replace x14 := boxed.on x14 hB; replace x15 := boxed.on x15 hB; replace x16 := boxed.on x16 hB; replace x18 := boxed.on x18 hB; replace r0 := r0.kept hB; replace r1 := r1.kept hB; replace r3 := r3.kept hB; replace r5 := r5.kept hB; replace r7 := r7.kept hB; replace r13 := r13.kept hB; replace r14 := r14.kept hB; replace r15 := r15.kept hB; replace r16 := r16.kept hB; replace r18 := r18.kept hB; replace hbT := hbT.trans (hB.mono hbT.size); clear hB; have x0c0 := x0.c0; have x0c1 := x0.c1; have x0l := x0.lt; have x1c0 := x1.c0; have x1c1 := x1.c1; have x1l := x1.lt; have x3c0 := x3.c0; have x3c1 := x3.c1; have x3l := x3.lt; have x5c0 := x5.c0; have x5c1 := x5.c1; have x5l := x5.lt; have x7c0 := x7.c0; have x7c1 := x7.c1; have x7l := x7.lt; have x13c0 := x13.c0; have x13c1 := x13.c1; have x13l := x13.lt; have x14c0 := x14.c0; have x14c1 := x14.c1; have x14l := x14.lt; have x15c0 := x15.c0; have x15c1 := x15.c1; have x15l := x15.lt; have x16c0 := x16.c0; have x16c1 := x16.c1; have x16l := x16.lt; have x18c0 := x18.c0; have x18c1 := x18.c1; have x18l := x18.lt))
        clear x13 r13 x14 r14 x15 r15 x16 r16 x18 r18 x3 x5 x7 r3 r5 r7 B0 B1 B2 B3 B4 B5
        go_upto_region 58 with (first | (go_at_call 6; (try clear x0c0 x0c1 x0l x1c0 x1c1 x1l); with_reducible refine Calls.mono (B6.out _ _ _ r0 r1) ?_; intro e w24 hh; have hh2 := retB2_f hh; clear hh; obtain ⟨v24, rfl, hB, ho24⟩ := hh2; have r24 := ho24.reads; clear ho24; obtain ⟨a24, c24, rfl⟩ := readsK_form r24; replace x0 := boxed.on x0 hB; replace x1 := boxed.on x1 hB; replace r0 := r0.kept hB; replace r1 := r1.kept hB; replace hbT := hbT.trans (hB.mono hbT.size); clear hB; have x0c0 := x0.c0; have x0c1 := x0.c1; have x0l := x0.lt; have x1c0 := x1.c0; have x1c1 := x1.c1; have x1l := x1.lt)
                                              | (go_at_call 25; (try clear x0c0 x0c1 x0l x1c0 x1c1 x1l); have hA : Below w24.heap.size w24 (w24.alloc (.cells #[.int .i64 n, .slice a24 (PL).length c24] 26)) := Below.alloc (Below.refl _ _) (Nat.le_refl _) _; replace x0 := boxed.on x0 hA; replace x1 := boxed.on x1 hA; replace r0 := r0.kept hA; replace r1 := r1.kept hA; replace r24 := r24.kept hA; replace hbT := hbT.trans (hA.mono hbT.size); have x24 : boxed (w24.alloc (.cells #[.int .i64 n, .slice a24 (PL).length c24] 26)) w24.heap.size 26 n (.slice a24 (PL).length c24) := heap_alloc_last _ _; clear hA; with_reducible refine Calls.mono (B7.out _ _ r24) ?_; intro e w25 hh; have hh2 := retB2_f hh; clear hh; obtain ⟨v25, rfl, hB, ho25⟩ := hh2; have r25 := ho25.reads; clear ho25; obtain ⟨a25, c25, rfl⟩ := readsK_form r25; replace x0 := boxed.on x0 hB; replace x1 := boxed.on x1 hB; replace x24 := boxed.on x24 hB; replace r0 := r0.kept hB; replace r1 := r1.kept hB; replace r24 := r24.kept hB; replace hbT := hbT.trans (hB.mono hbT.size); clear hB; have x0c0 := x0.c0; have x0c1 := x0.c1; have x0l := x0.lt; have x1c0 := x1.c0; have x1c1 := x1.c1; have x1l := x1.lt; have x24c0 := x24.c0; have x24c1 := x24.c1; have x24l := x24.lt))
        (try clear x0c0 x0c1 x0l x1c0 x1c1 x1l x24c0 x24c1 x24l)
        have hA : Below w25.heap.size w25 (w25.alloc (.cells #[.int .i64 n, .slice a25 0 c25] 26)) := Below.alloc (Below.refl _ _) (Nat.le_refl _) _
        replace x0 := boxed.on x0 hA
        replace x1 := boxed.on x1 hA
        replace x24 := boxed.on x24 hA
        replace r0 := r0.kept hA
        replace r1 := r1.kept hA
        replace r24 := r24.kept hA
        replace r25 := r25.kept hA
        replace hbT := hbT.trans (hA.mono hbT.size)
        have x25 : boxed (w25.alloc (.cells #[.int .i64 n, .slice a25 0 c25] 26)) w25.heap.size 26 n (.slice a25 0 c25) := heap_alloc_last _ _
        clear hA
        skip
        generalize w25.alloc (.cells #[.int .i64 n, .slice a25 0 c25] 26) = WX at x0 x1 x24 x25 r0 r1 r24 r25 hbT ⊢
        have x0c0 := x0.c0
        have x0c1 := x0.c1
        have x0l := x0.lt
        have x1c0 := x1.c0
        have x1c1 := x1.c1
        have x1l := x1.lt
        have x24c0 := x24.c0
        have x24c1 := x24.c1
        have x24l := x24.lt
        have x25c0 := x25.c0
        have x25c1 := x25.c1
        have x25l := x25.lt
        have hnn : (n != n) = false := by simp
        
        
        go_wp2
        go_ret
        exact ⟨rfl, hbT⟩
      · have hU1 : (U == 0) = false := by simp [hU0]
        go_wp2
        go_ret
        exact ⟨rfl, hbT⟩
  · have HBG := Lib.hid (big_yes vc k w hC hmax hm4)
    clear hC hm4 hmax
    go_enter Tryz.func3, Tryz.ntmps3
    go_wp2_with (first | (go_at_call 4; refine Calls.mono (HBG.out) ?_; rintro e w' ⟨rfl, rfl⟩))
    go_ret
    exact ⟨rfl, by (repeat (first | (with_reducible exact Below.refl _ _) | (with_reducible assumption) | (with_reducible refine below_plus' ?_ ?_; ((try simp only [plus_size, World.size_alloc, World.size_drew, World.size_setCell, size_setRow, World.heap_drewN, List.length_append]) <;> omega)) | (with_reducible refine below_alloc' ?_ ?_; ((try simp only [plus_size, World.size_alloc, World.size_drew, World.size_setCell, size_setRow, World.heap_drewN, List.length_append]) <;> omega)) | with_reducible refine Below.drew ?_ | (with_reducible refine below_drewN' ?_ _) | exact Below.refl _ _))⟩
end Go.Proofs.YtgkpdklkeajipaaGreatDoor
