/- TraceOf by the program. Conditions: as each theorem says. -/
import Derived.Test.YtikakoclmmmjdaaOn
import Derived.Test.YtikakoclmmmjdaaNt
namespace Go.Proofs.Ytikakoclmmmjdaa
open Go.RowKit
set_option linter.unusedSimpArgs false
set_option linter.unusedVariables false
open Go.RowKit
theorem nf_zero4 : nf 57896044618658097711785492504343953926634992332820282019728792003956564819968 (fun _ => 0) = (0, []) := nf_eq (by decide) (N := 0) (M := 0) (fun _ _ => rfl) ⟨.inl ⟨rfl, rfl⟩, by simp, by simp, by simp, fun k => by rw [val_nil, rho_zero (by decide)]⟩
theorem trF_ad (F : Nat → Nat → Int → Int) (k : Nat) : adF (trF F k) (F k k) = trF F (k + 1) := rfl
theorem trF_bd {m : Nat} (hm : m ≤ 8) {F : Nat → Nat → Int → Int} (h : bdM m F) (z : Int) : -24008000000000000 ≤ trF F m z ∧ trF F m z ≤ 24008000000000000 := by
  have h1 := sumT_bd (B := 1000000000000) (n := m) (f := fun q => F q q z) (fun q hq => (h q hq q hq).2 z)
  have : (m : Int) * 1000000000000 ≤ 8000000000000 := by omega
  show -24008000000000000 ≤ sumT (fun q => F q q z) m ∧ sumT (fun q => F q q z) m ≤ 24008000000000000
  omega
theorem retP_of {w w' : World} {f g : Int → Int} {e : Ending} (h : RetP w f e w') (hfg : f = g) : RetP w g e w' := hfg ▸ h
set_option maxRecDepth 20000 in
set_option maxHeartbeats 4000000 in
theorem impl_TraceOf (n : Int) (v : Value) (xs : List Int) (w : World) (h : reads w v xs) (hlen : xs.length ≤ 1000000000) (hfit : Fits xs) : Calls Try.prog 18 #[.agg #[.int .i64 n, v]] w (RetB2 2 w (trN n xs) (trL n xs) (trC n xs)) := by
  obtain ⟨a, c, rfl⟩ := readsL_form h
  have HRB := Lib.hid (fun w' (hb : Below w.heap.size w w') => impl_ReducedBurau n (.slice a xs.length c) xs w' (h.kept hb) hlen hfit)
  clear h hfit
  by_cases hc : codL true n xs = 0
  · have HC0 := Lib.hid hc
    have e1 : trN n xs = laN (trM n xs).1 (trM n xs).2 := if_pos hc
    have e2 : trL n xs = laL (trM n xs).1 (trM n xs).2 := if_pos hc
    have e3 : trC n xs = laC (trM n xs).1 (trM n xs).2 := if_pos hc
    rw [e1, e2, e3]
    have hcn : (codL true n xs != 0) = false := by simp [hc]
    have h8 := dimL_le (red := true) (codL_ok hc)
    have HBD := Lib.hid (codL_bd hc h8)
    have HTM := Lib.hid (show trM n xs = nf 9223372036854775808 (trF (lmF true (dimL true n) xs xs.length) (dimL true n)) from rfl)
    clear hc e1 e2 e3
    go_enter Try.func18, Try.ntmps18
    go_upto_region 4 with (first | (go_at_call 16; (with_reducible refine Calls.mono (HRB.out _ ?_) ?_); (repeat (first | (with_reducible exact Below.refl _ _) | (with_reducible assumption) | (with_reducible refine below_plus' ?_ ?_; ((try simp only [plus_size, World.size_alloc, World.size_drew, World.size_setCell, size_setRow, World.heap_drewN, List.length_append]) <;> omega)) | (with_reducible refine below_alloc' ?_ ?_; ((try simp only [plus_size, World.size_alloc, World.size_drew, World.size_setCell, size_setRow, World.heap_drewN, List.length_append]) <;> omega)) | with_reducible refine Below.drew ?_ | (with_reducible refine below_drewN' ?_ _) | exact Below.refl _ _)); rintro e w' ⟨v1, rfl, hB, ht1, hn1⟩; obtain ⟨j, d, rfl⟩ := plus_of_below hB; clear hB))
    obtain ⟨τ, ht1, _⟩ := ht1 HC0.out
    have hm1 := ht1.untag.readsM (by decide)
    clear ht1 hn1
    generalize lmF true (dimL true n) xs xs.length = F at hm1 HBD HTM ⊢
    generalize dimL true n = m at hm1 HBD h8 HTM ⊢
    obtain ⟨am, cm, rfl, hm1⟩ := hm1
    have hm1 : m = 0 ∨ ∃ b, am = some ⟨b, 0, none⟩ ∧ b < (plus ((w.alloc (.cells #[.int .i64 n, .slice a xs.length c] 29)).alloc (.cells #[.int .i64 0, .slice none 0 0] 37)) j d).heap.size ∧ ∀ i, i < m → ∃ rb rc, (plus ((w.alloc (.cells #[.int .i64 n, .slice a xs.length c] 29)).alloc (.cells #[.int .i64 0, .slice none 0 0] 37)) j d).cell? ⟨b, i, none⟩ = some (.slice (some ⟨rb, 0, none⟩) m rc) ∧ rb < (plus ((w.alloc (.cells #[.int .i64 n, .slice a xs.length c] 29)).alloc (.cells #[.int .i64 0, .slice none 0 0] 37)) j d).heap.size ∧ ∃ sa sc, (plus ((w.alloc (.cells #[.int .i64 n, .slice a xs.length c] 29)).alloc (.cells #[.int .i64 0, .slice none 0 0] 37)) j d).cell? ⟨rb, i * 2, none⟩ = some (.int .i64 (nf 9223372036854775808 (F i i)).1) ∧ (plus ((w.alloc (.cells #[.int .i64 n, .slice a xs.length c] 29)).alloc (.cells #[.int .i64 0, .slice none 0 0] 37)) j d).cell? ⟨rb, i * 2 + 1, none⟩ = some (.slice sa (nf 9223372036854775808 (F i i)).2.length sc) ∧ reads (plus ((w.alloc (.cells #[.int .i64 n, .slice a xs.length c] 29)).alloc (.cells #[.int .i64 0, .slice none 0 0] 37)) j d) (.slice sa (nf 9223372036854775808 (F i i)).2.length sc) (nf 9223372036854775808 (F i i)).2 := by
      refine hm1.imp id ?_
      rintro ⟨b, h1, h2, h3⟩
      refine ⟨b, h1, h2, fun i hi => ?_⟩
      obtain ⟨rb, rc, h4, h5, h6⟩ := h3 i hi
      exact ⟨rb, rc, h4, h5, h6 i hi⟩
    have HM := Lib.hid hm1
    clear hm1
    generalize hWL : plus ((w.alloc (.cells #[.int .i64 n, .slice a xs.length c] 29)).alloc (.cells #[.int .i64 0, .slice none 0 0] 37)) j d = WL at HM ⊢
    go_wp2
    obtain ⟨bs, hbs⟩ : ∃ b, b = WL.heap.size := ⟨_, rfl⟩
    rw [← hbs]
    have HBS := Lib.hid hbs
    have HWL := Lib.hid hWL
    clear hbs hWL
    go_loopw [21, 7, 8] (fun s7 sx srow wr => ∃ (k : Nat) (v : Value), k ≤ m ∧ s7 = .int .i64 k ∧ Hid (wr.heap[bs]? = some (.cells #[.int .i64 (nf 57896044618658097711785492504343953926634992332820282019728792003956564819968 (trF F k)).1, v] 57)) ∧ Hid (rdW 78 wr v (nf 57896044618658097711785492504343953926634992332820282019728792003956564819968 (trF F k)).2) ∧ Below WL.heap.size WL wr) (fun s7 _ _ _ => m - (intOf s7).toNat)
    case atStart => exact ⟨0, .slice none 0 0, by omega, by go_num, Lib.hid (by rw [HBS.out, show trF F 0 = fun _ => 0 from rfl, nf_zero4]; exact heap_alloc_last _ _), Lib.hid (by rw [show trF F 0 = fun _ => 0 from rfl, nf_zero4]; exact rdW_nil _ _), by (repeat (first | (with_reducible exact Below.refl _ _) | (with_reducible assumption) | (with_reducible refine below_plus' ?_ ?_; ((try simp only [plus_size, World.size_alloc, World.size_drew, World.size_setCell, size_setRow, World.heap_drewN, List.length_append]) <;> omega)) | (with_reducible refine below_alloc' ?_ ?_; ((try simp only [plus_size, World.size_alloc, World.size_drew, World.size_setCell, size_setRow, World.heap_drewN, List.length_append]) <;> omega)) | with_reducible refine Below.drew ?_ | (with_reducible refine below_drewN' ?_ _) | exact Below.refl _ _))⟩
    case round =>
      obtain ⟨k, v, hk, rfl, HBX, HO, hbel⟩ := hrel
      have hbx := HBX.out
      have ho := HO.out
      clear HBX HO
      have hsz := hbel.size
      obtain ⟨av, cv, rfl⟩ := rdW_form ho
      have hbs2 := heap_lt hbx
      have o6 := nf_is (h := 57896044618658097711785492504343953926634992332820282019728792003956564819968) (by decide) (trF_sup HBD.out k (by omega))
      have d0 : wr.cell? ⟨bs, 0, none⟩ = some (.int .i64 (nf 57896044618658097711785492504343953926634992332820282019728792003956564819968 (trF F k)).1) := cell_of (i := 0) hbx
      have d1 : wr.cell? ⟨bs, 1, none⟩ = some (.slice av (nf 57896044618658097711785492504343953926634992332820282019728792003956564819968 (trF F k)).2.length cv) := cell_of (i := 1) hbx
      rcases Nat.lt_or_ge k m with hkt | hge
      · have hkt1 : (k : Int) < (m : Int) := by omega
        obtain ⟨ba, rfl, hba, hra⟩ := HM.out.resolve_left (by omega)
        obtain ⟨ra, rca, g1, hra1, sa, sca, g3, g4, g5⟩ := hra k hkt
        replace g1 := (hbel.cell (p := ⟨ba, k, none⟩) hba).trans g1
        replace g3 := (hbel.cell (p := ⟨ra, k * 2, none⟩) hra1).trans g3
        replace g4 := (hbel.cell (p := ⟨ra, k * 2 + 1, none⟩) hra1).trans g4
        replace g5 := g5.kept hbel
        have hba2 : ba < wr.heap.size := by omega
        have hra2 : ra < wr.heap.size := by omega
        have hf := (HBD.out k hkt k hkt).1
        have htwo := nf_two hf (fun z => by have := (HBD.out k hkt k hkt).2 z; omega)
        have o1 := nf_is (h := 57896044618658097711785492504343953926634992332820282019728792003956564819968) (by decide) hf
        rw [htwo] at o1
        have o9 := (nf_is (h := 9223372036854775808) (by decide) hf).fits
        have hl9 := (nf_is (h := 9223372036854775808) (by decide) hf).len
        have hM9 := sup_adF (trF_sup HBD.out k (by omega)) hf
        have HPO := Lib.hid (fun w' (hb : Below wr.heap.size wr w') => polyOf_any (nf 9223372036854775808 (F k k)).1 (.slice sa (nf 9223372036854775808 (F k k)).2.length sca) (nf 9223372036854775808 (F k k)).2 w' (g5.kept hb) (by omega) o9)
        obtain ⟨A2, hA2⟩ : ∃ A2, (nf 57896044618658097711785492504343953926634992332820282019728792003956564819968 (trF F (k + 1))) = A2 := ⟨_, rfl⟩
        have HAD := Lib.hid (fun w' v2 (hb : Below wr.heap.size wr w') (h2 : rdW 78 w' v2 (nf 9223372036854775808 (F k k)).2) => (show Calls Try.prog 37 #[.agg #[.int .i64 (nf 57896044618658097711785492504343953926634992332820282019728792003956564819968 (trF F k)).1, .slice av (nf 57896044618658097711785492504343953926634992332820282019728792003956564819968 (trF F k)).2.length cv], .agg #[.int .i64 (nf 9223372036854775808 (F k k)).1, v2]] w' (RetQ w' A2) from by
          rw [← hA2, ← trF_ad]
          exact add_nf (nf 57896044618658097711785492504343953926634992332820282019728792003956564819968 (trF F k)).1 (.slice av (nf 57896044618658097711785492504343953926634992332820282019728792003956564819968 (trF F k)).2.length cv) (nf 57896044618658097711785492504343953926634992332820282019728792003956564819968 (trF F k)).2 (nf 9223372036854775808 (F k k)).1 v2 (nf 9223372036854775808 (F k k)).2 (trF F k) (F k k) 1000 w' (ho.kept hb) h2 o6 o1 (by decide) hM9))
        have HNX := Lib.hid hA2
        clear hra o1 o6 hM9 hf g5 htwo o9 hl9 hA2
        generalize nf 9223372036854775808 (F k k) = Q at *
        generalize nf 57896044618658097711785492504343953926634992332820282019728792003956564819968 (trF F k) = Ak at *
        go_upto_region 8 with (fail)
        refine wp_plus0 ?_
        refine region_ghostW (W := wr) [5, 6, 7] (by kernel_rfl) (by kernel_rfl) (by kernel_rfl) ?_
        repeat (refine wpPlain_step (fun K hK => ?_); go_simp; first | (refine hK _ ?_; clear hK K) | (apply Exists.intro; refine ⟨fun _ => ?_, hK _ ?_⟩; (fail); clear hK K))
        refine wpPlain_nil ?_
        intro j1 d1
        rw [plus_plus]
        refine gchain_cons _ rfl ?_
        go_wp2_with (first | (go_at_call 38; (with_reducible refine Calls.mono (HPO.out _ ?_) ?_); (repeat (first | (with_reducible exact Below.refl _ _) | (with_reducible assumption) | (with_reducible refine below_plus' ?_ ?_; ((try simp only [plus_size, World.size_alloc, World.size_drew, World.size_setCell, size_setRow, World.heap_drewN, List.length_append]) <;> omega)) | (with_reducible refine below_alloc' ?_ ?_; ((try simp only [plus_size, World.size_alloc, World.size_drew, World.size_setCell, size_setRow, World.heap_drewN, List.length_append]) <;> omega)) | with_reducible refine Below.drew ?_ | (with_reducible refine below_drewN' ?_ _) | exact Below.refl _ _)); rintro e w1 ⟨vT, rfl, hBT, hoT⟩; have hrT := hoT.typed; obtain ⟨aT, cT, rfl⟩ := rdW_form hrT))
        have hB1 : Below wr.heap.size wr w1 := Below.trans (show Below wr.heap.size wr _ by (repeat (first | (with_reducible exact Below.refl _ _) | (with_reducible assumption) | (with_reducible refine below_plus' ?_ ?_; ((try simp only [plus_size, World.size_alloc, World.size_drew, World.size_setCell, size_setRow, World.heap_drewN, List.length_append]) <;> omega)) | (with_reducible refine below_alloc' ?_ ?_; ((try simp only [plus_size, World.size_alloc, World.size_drew, World.size_setCell, size_setRow, World.heap_drewN, List.length_append]) <;> omega)) | with_reducible refine Below.drew ?_ | (with_reducible refine below_drewN' ?_ _) | exact Below.refl _ _))) (hBT.mono (by ((try simp only [plus_size, World.size_alloc, World.size_drew, World.size_setCell, size_setRow, World.heap_drewN, List.length_append]) <;> omega)))
        refine gExit_normal ⟨.inr (later_of_below hB1), fun j2 d2 => ?_⟩
        have hB2 : Below wr.heap.size wr (plus w1 j2 d2) := hB1.trans (show Below wr.heap.size w1 (plus w1 j2 d2) from (show Below w1.heap.size w1 (plus w1 j2 d2) by (repeat (first | (with_reducible exact Below.refl _ _) | (with_reducible assumption) | (with_reducible refine below_plus' ?_ ?_; ((try simp only [plus_size, World.size_alloc, World.size_drew, World.size_setCell, size_setRow, World.heap_drewN, List.length_append]) <;> omega)) | (with_reducible refine below_alloc' ?_ ?_; ((try simp only [plus_size, World.size_alloc, World.size_drew, World.size_setCell, size_setRow, World.heap_drewN, List.length_append]) <;> omega)) | with_reducible refine Below.drew ?_ | (with_reducible refine below_drewN' ?_ _) | exact Below.refl _ _))).mono hB1.size)
        have hrT2 := hrT.kept (show Below w1.heap.size w1 (plus w1 j2 d2) by (repeat (first | (with_reducible exact Below.refl _ _) | (with_reducible assumption) | (with_reducible refine below_plus' ?_ ?_; ((try simp only [plus_size, World.size_alloc, World.size_drew, World.size_setCell, size_setRow, World.heap_drewN, List.length_append]) <;> omega)) | (with_reducible refine below_alloc' ?_ ?_; ((try simp only [plus_size, World.size_alloc, World.size_drew, World.size_setCell, size_setRow, World.heap_drewN, List.length_append]) <;> omega)) | with_reducible refine Below.drew ?_ | (with_reducible refine below_drewN' ?_ _) | exact Below.refl _ _)))
        clear hoT hBT hrT
        generalize plus w1 j2 d2 = WT9 at hB2 hrT2 ⊢
        refine gchain_cons _ rfl ?_
        go_wp2_with (first | (go_at_call 37; (with_reducible refine Calls.mono (HAD.out _ _ ?_ ?_) ?_); (exact hB2); (exact hrT2); intro e w2 hh; obtain ⟨aS, cS, rfl, hBS, hrS⟩ := retQ_form hh; clear hh))
        have hB3 : Below wr.heap.size wr w2 := hB2.trans (hBS.mono hB2.size)
        refine gExit_normal ⟨.inr (later_of_below hB3), fun j3 d3 => ?_⟩
        have hB4 : Below w2.heap.size w2 (plus w2 j3 d3) := by (repeat (first | (with_reducible exact Below.refl _ _) | (with_reducible assumption) | (with_reducible refine below_plus' ?_ ?_; ((try simp only [plus_size, World.size_alloc, World.size_drew, World.size_setCell, size_setRow, World.heap_drewN, List.length_append]) <;> omega)) | (with_reducible refine below_alloc' ?_ ?_; ((try simp only [plus_size, World.size_alloc, World.size_drew, World.size_setCell, size_setRow, World.heap_drewN, List.length_append]) <;> omega)) | with_reducible refine Below.drew ?_ | (with_reducible refine below_drewN' ?_ _) | exact Below.refl _ _))
        have hB5 : Below wr.heap.size wr (plus w2 j3 d3) := hB3.trans (hB4.mono hB3.size)
        have hoS2 := hrS.kept hB4
        have hbx5 := (hB5.block bs hbs2).trans hbx
        clear hrS hBS hB4 hB3
        generalize plus w2 j3 d3 = WS at hB5 hoS2 hbx5 ⊢
        have e0 := heap_lt hbx5
        have e1 : WS.cell? ⟨bs, 0, none⟩ = some (.int .i64 Ak.1) := cell_of (i := 0) hbx5
        have e2 : WS.cell? ⟨bs, 1, none⟩ = some (.slice av Ak.2.length cv) := cell_of (i := 1) hbx5
        have e3 := frozen_of_row WS bs 0 _ _ hbx5
        have e4 := frozen_of_row WS bs 1 _ _ hbx5
        refine gchain_cons _ rfl ?_
        go_wp2
        refine gExit_normal ⟨.inl (by kernel_rfl), fun j4 d4 => ?_⟩
        refine gchain_nil ?_
        obtain ⟨hbx6, gg⟩ := boxSet (P := A2) (a := aS) (c := cS) hbx5
        have ho6 := rdW.block (e := 78) (by decide) hbx5 gg hoS2
        have hb6 : Below WL.heap.size WL _ := (hbel.trans (hB5.mono hbel.size)).trans (below_of_grown gg (Nat.le_trans hbel.size hB5.size) (fun q hq => by cases hq; have := HBS.out; omega))
        clear gg hoS2 hbx5 e0 e1 e2 e3 e4 hB5
        generalize (World.setCell (World.setCell WS _ _) _ _) = WY at ho6 hb6 hbx6 ⊢
        have hb7 : Below WY.heap.size WY (plus WY j4 d4) := by (repeat (first | (with_reducible exact Below.refl _ _) | (with_reducible assumption) | (with_reducible refine below_plus' ?_ ?_; ((try simp only [plus_size, World.size_alloc, World.size_drew, World.size_setCell, size_setRow, World.heap_drewN, List.length_append]) <;> omega)) | (with_reducible refine below_alloc' ?_ ?_; ((try simp only [plus_size, World.size_alloc, World.size_drew, World.size_setCell, size_setRow, World.heap_drewN, List.length_append]) <;> omega)) | with_reducible refine Below.drew ?_ | (with_reducible refine below_drewN' ?_ _) | exact Below.refl _ _))
        replace ho6 := ho6.kept hb7
        have hbx7 := (hb7.block bs (heap_lt hbx6)).trans hbx6
        replace hb6 := hb6.trans (hb7.mono hb6.size)
        clear hbx6 hb7
        generalize plus WY j4 d4 = WZ at ho6 hb6 hbx7 ⊢
        go_wp2
        go_roundw
        case rel => exact ⟨k + 1, _, by omega, by go_num, Lib.hid (by rw [HNX.out]; exact hbx7), Lib.hid (by rw [HNX.out]; exact ho6), hb6⟩
        case measure => simp [intOf]; omega
      · obtain rfl : m = k := by omega
        have hge1 : ¬ ((m : Int) < (m : Int)) := by omega
        have hla := fun w' (hb : Below wr.heap.size wr w') => laurent_any (nf 57896044618658097711785492504343953926634992332820282019728792003956564819968 (trF F m)).1 (.slice av (nf 57896044618658097711785492504343953926634992332820282019728792003956564819968 (trF F m)).2.length cv) (nf 57896044618658097711785492504343953926634992332820282019728792003956564819968 (trF F m)).2 w' (ho.kept hb).w (by have := o6.len; omega) (by have := o6.lo; omega) (by have := o6.ab; omega) o6.fw
        clear o6
        obtain ⟨Q, hQ⟩ : ∃ Q, (nf 57896044618658097711785492504343953926634992332820282019728792003956564819968 (trF F m)) = Q := ⟨_, rfl⟩
        rw [hQ] at hla d0 d1 ho hbx
        have HQ := Lib.hid (show nf 9223372036854775808 (trF F m) = Q from by rw [← hQ, nf_two (trF_sup HBD.out m (Nat.le_refl _)) (trF_bd h8 HBD.out)])
        clear hQ
        obtain ⟨jq, dq, rfl⟩ := plus_of_below hbel
        obtain ⟨j2, hj2⟩ := plus_split (o := (.cells #[.int .i64 Q.1, .slice av Q.2.length cv] 57)) (by rw [← HBS.out]; exact hbx)
        have hbs3 := HBS.out
        subst hbs3
        have hwl := HWL.out
        subst hwl
        rw [hj2] at hla ⊢
        have HLA := Lib.hid hla
        clear hj2 hbx d0 d1 hbel hsz hbs2 ho hla
        obtain ⟨L, hL⟩ : ∃ L, laL Q.1 Q.2 = L := ⟨_, rfl⟩
        have HL := Lib.hid hL
        rw [hL] at HLA
        clear hL
        go_wp2_with (first | (go_at_call 39; (with_reducible refine Calls.mono (HLA.out _ ?_) ?_); (repeat (first | (with_reducible exact Below.refl _ _) | (with_reducible assumption) | (with_reducible refine below_plus' ?_ ?_; ((try simp only [plus_size, World.size_alloc, World.size_drew, World.size_setCell, size_setRow, World.heap_drewN, List.length_append]) <;> omega)) | (with_reducible refine below_alloc' ?_ ?_; ((try simp only [plus_size, World.size_alloc, World.size_drew, World.size_setCell, size_setRow, World.heap_drewN, List.length_append]) <;> omega)) | with_reducible refine Below.drew ?_ | (with_reducible refine below_drewN' ?_ _) | exact Below.refl _ _)); intro e w9 hh; obtain ⟨vG, rfl, hB, hoG⟩ := retL_form hh; clear hh; obtain ⟨aG, cG, rfl⟩ := readsL_form hoG.reads; obtain ⟨j5, d5, rfl⟩ := plus_of_below hB; rw [plus_in] at hoG ⊢; clear hB))
        refine bodyPost_ret (v := .tuple #[.agg #[.int .i64 (laN Q.1 Q.2), .slice aG L.length cG], .int .i64 (laC Q.1 Q.2)]) (by simp [results, Try.results18, go_sem]) rfl ?_
        exact ⟨_, by rw [HTM.out, HQ.out], by (repeat (first | (with_reducible exact Below.refl _ _) | (with_reducible assumption) | (with_reducible refine below_plus' ?_ ?_; ((try simp only [plus_size, World.size_alloc, World.size_drew, World.size_setCell, size_setRow, World.heap_drewN, List.length_append]) <;> omega)) | (with_reducible refine below_alloc' ?_ ?_; ((try simp only [plus_size, World.size_alloc, World.size_drew, World.size_setCell, size_setRow, World.heap_drewN, List.length_append]) <;> omega)) | with_reducible refine Below.drew ?_ | (with_reducible refine below_drewN' ?_ _) | exact Below.refl _ _)), by rw [HTM.out, HQ.out, HL.out]; (try simp only [plus_in, plus_plus] at hoG ⊢); exact own_farG hoG (by ((try simp only [plus_size, World.size_alloc, World.size_drew, World.size_setCell, size_setRow, World.heap_drewN, List.length_append]) <;> omega)) (by ((try simp only [plus_size, World.size_alloc, World.size_drew, World.size_setCell, size_setRow, World.heap_drewN, List.length_append]) <;> omega)) (by ((try simp only [plus_size, World.size_alloc, World.size_drew, World.size_setCell, size_setRow, World.heap_drewN, List.length_append]) <;> omega)) (by first | exact List.prefix_rfl | exact ⟨[], by simp only [List.append_assoc, List.append_nil, List.cons_append, List.nil_append]⟩)⟩
  · have e1 : trN n xs = 0 := if_neg hc
    have e2 : trL n xs = [] := if_neg hc
    have e3 : trC n xs = codL true n xs := if_neg hc
    rw [e1, e2, e3]
    have hcn : (codL true n xs != 0) = true := by simp [hc]
    have HN := Lib.hid hc
    clear hc e1 e2 e3
    go_enter Try.func18, Try.ntmps18
    go_wp2_with (first | (go_at_call 16; (with_reducible refine Calls.mono (HRB.out _ ?_) ?_); (repeat (first | (with_reducible exact Below.refl _ _) | (with_reducible assumption) | (with_reducible refine below_plus' ?_ ?_; ((try simp only [plus_size, World.size_alloc, World.size_drew, World.size_setCell, size_setRow, World.heap_drewN, List.length_append]) <;> omega)) | (with_reducible refine below_alloc' ?_ ?_; ((try simp only [plus_size, World.size_alloc, World.size_drew, World.size_setCell, size_setRow, World.heap_drewN, List.length_append]) <;> omega)) | with_reducible refine Below.drew ?_ | (with_reducible refine below_drewN' ?_ _) | exact Below.refl _ _)); rintro e w' ⟨v1, rfl, hB, ht1, hn1⟩; obtain ⟨j, d, rfl⟩ := plus_of_below hB; clear hB))
    refine bodyPost_ret (v := .tuple #[.agg #[.int .i64 0, .slice none 0 0], .int .i64 (codL true n xs)]) (by simp [results, Try.results18, go_sem]) rfl ?_
    exact ⟨_, rfl, by (repeat (first | (with_reducible exact Below.refl _ _) | (with_reducible assumption) | (with_reducible refine below_plus' ?_ ?_; ((try simp only [plus_size, World.size_alloc, World.size_drew, World.size_setCell, size_setRow, World.heap_drewN, List.length_append]) <;> omega)) | (with_reducible refine below_alloc' ?_ ?_; ((try simp only [plus_size, World.size_alloc, World.size_drew, World.size_setCell, size_setRow, World.heap_drewN, List.length_append]) <;> omega)) | with_reducible refine Below.drew ?_ | (with_reducible refine below_drewN' ?_ _) | exact Below.refl _ _)), own_nil _ _ _⟩
end Go.Proofs.Ytikakoclmmmjdaa
