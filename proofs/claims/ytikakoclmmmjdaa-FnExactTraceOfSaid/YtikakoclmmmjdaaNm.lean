/- TraceOf, by the reference. Conditions: as each theorem says. -/
import Derived.Test.YtikakoclmmmjdaaNl
import Derived.Test.YtikakoclmmmjdaaNt
namespace Go.Proofs.Ytikakoclmmmjdaa
open Go.RowKit
set_option linter.unusedSimpArgs false
set_option linter.unusedVariables false
open Go.RowKit
theorem plus_split {W : World} {j : List Obj} {d : Nat} {o : Obj} (h : (plus W j d).heap[W.heap.size]? = some o) : ∃ j', plus W j d = plus (W.alloc o) j' d := by
  have h2 : (W.heap ++ j.toArray)[W.heap.size]? = some o := h
  cases j with
  | nil =>
    rw [Array.getElem?_eq_none (by simp)] at h2
    cases h2
  | cons a j =>
    rw [Array.getElem?_append_right (Nat.le_refl _)] at h2
    simp at h2
    subst h2
    refine ⟨j, ?_⟩
    have e : W.alloc a = plus W [a] W.drawn := by
      have := plus_alloc W [] W.drawn a
      rwa [← plus_nil W] at this
    rw [e, plus_plus]; rfl
set_option maxRecDepth 20000 in
set_option maxHeartbeats 4000000 in
theorem spec_TraceOf (n : Int) (v : Value) (xs : List Int) (w : World) (h : reads w v xs) (hlen : xs.length ≤ 1000000000) (hfit : Fits xs) : Calls Try.prog 17 #[.agg #[.int .i64 n, v]] w (RetB2 2 w (trN n xs) (trL n xs) (trC n xs)) := by
  obtain ⟨a, c, rfl⟩ := readsL_form h
  have HRB := Lib.hid (fun w' (hb : Below w.heap.size w w') => spec_ReducedBurau n (.slice a xs.length c) xs w' (h.kept hb) hlen hfit)
  clear h hfit
  by_cases hc : codL true n xs = 0
  · have HC0 := Lib.hid hc
    have e1 : trN n xs = laN (trM n xs).1 (trM n xs).2 := if_pos hc
    have e2 : trL n xs = laL (trM n xs).1 (trM n xs).2 := if_pos hc
    have e3 : trC n xs = laC (trM n xs).1 (trM n xs).2 := if_pos hc
    rw [e1, e2, e3]
    have hcn : (codL true n xs != 0) = false := by simp [hc]
    have h8 := dimL_le (red := true) (codL_ok hc)
    have HBD := Lib.hid (codL_bd hc h8)
    have HTM := Lib.hid (show trM n xs = nf 9223372036854775808 (trF (lmF true (dimL true n) xs xs.length) (dimL true n)) from rfl)
    clear hc e1 e2 e3
    go_enter Try.func17, Try.ntmps17
    go_upto_region 4 with (first | (go_at_call 15; (with_reducible refine Calls.mono (HRB.out _ ?_) ?_); (repeat (first | (with_reducible exact Below.refl _ _) | (with_reducible assumption) | (with_reducible refine below_plus' ?_ ?_; ((try simp only [plus_size, World.size_alloc, World.size_drew, World.size_setCell, size_setRow, World.heap_drewN, List.length_append]) <;> omega)) | (with_reducible refine below_alloc' ?_ ?_; ((try simp only [plus_size, World.size_alloc, World.size_drew, World.size_setCell, size_setRow, World.heap_drewN, List.length_append]) <;> omega)) | with_reducible refine Below.drew ?_ | (with_reducible refine below_drewN' ?_ _) | exact Below.refl _ _)); rintro e w' ⟨v1, rfl, hB, ht1, hn1⟩; obtain ⟨j, d, rfl⟩ := plus_of_below hB; clear hB))
    have hm1 := (ht1 HC0.out).readsM (by decide)
    clear ht1 hn1
    generalize lmF true (dimL true n) xs xs.length = F at hm1 HBD HTM ⊢
    generalize dimL true n = m at hm1 HBD h8 HTM ⊢
    obtain ⟨am, cm, rfl, hm1⟩ := hm1
    have hm1 : m = 0 ∨ ∃ b, am = some ⟨b, 0, none⟩ ∧ b < (plus ((w.alloc (.cells #[.int .i64 n, .slice a xs.length c] 29)).alloc (.cells #[.int .i64 0, .slice none 0 0] 37)) j d).heap.size ∧ ∀ i, i < m → ∃ rb rc, (plus ((w.alloc (.cells #[.int .i64 n, .slice a xs.length c] 29)).alloc (.cells #[.int .i64 0, .slice none 0 0] 37)) j d).cell? ⟨b, i, none⟩ = some (.slice (some ⟨rb, 0, none⟩) m rc) ∧ rb < (plus ((w.alloc (.cells #[.int .i64 n, .slice a xs.length c] 29)).alloc (.cells #[.int .i64 0, .slice none 0 0] 37)) j d).heap.size ∧ ∃ sa sc, (plus ((w.alloc (.cells #[.int .i64 n, .slice a xs.length c] 29)).alloc (.cells #[.int .i64 0, .slice none 0 0] 37)) j d).cell? ⟨rb, i * 2, none⟩ = some (.int .i64 (nf 9223372036854775808 (F i i)).1) ∧ (plus ((w.alloc (.cells #[.int .i64 n, .slice a xs.length c] 29)).alloc (.cells #[.int .i64 0, .slice none 0 0] 37)) j d).cell? ⟨rb, i * 2 + 1, none⟩ = some (.slice sa (nf 9223372036854775808 (F i i)).2.length sc) ∧ reads (plus ((w.alloc (.cells #[.int .i64 n, .slice a xs.length c] 29)).alloc (.cells #[.int .i64 0, .slice none 0 0] 37)) j d) (.slice sa (nf 9223372036854775808 (F i i)).2.length sc) (nf 9223372036854775808 (F i i)).2 := by
      refine hm1.imp id ?_
      rintro ⟨b, h1, h2, h3⟩
      refine ⟨b, h1, h2, fun i hi => ?_⟩
      obtain ⟨rb, rc, h4, h5, h6⟩ := h3 i hi
      exact ⟨rb, rc, h4, h5, h6 i hi⟩
    have HM := Lib.hid hm1
    clear hm1
    generalize hWL : plus ((w.alloc (.cells #[.int .i64 n, .slice a xs.length c] 29)).alloc (.cells #[.int .i64 0, .slice none 0 0] 37)) j d = WL at HM ⊢
    go_wp2
    obtain ⟨bs, hbs⟩ : ∃ b, b = WL.heap.size := ⟨_, rfl⟩
    rw [← hbs]
    have HBS := Lib.hid hbs
    have HWL := Lib.hid hWL
    clear hbs hWL
    go_loopw [7] (fun s7 wr => ∃ (k : Nat) (v : Value), k ≤ m ∧ s7 = .int .i64 k ∧ Hid (wr.heap[bs]? = some (.cells #[.int .i64 (nf 9223372036854775808 (trF F k)).1, v] 37)) ∧ Hid (own 2 wr WL.heap.size v (nf 9223372036854775808 (trF F k)).2) ∧ Below WL.heap.size WL wr) (fun s7 _ => m - (intOf s7).toNat)
    case atStart => exact ⟨0, .slice none 0 0, by omega, rfl, Lib.hid (by rw [HBS.out, show trF F 0 = fun _ => 0 from rfl, nf_zero]; exact heap_alloc_last _ _), Lib.hid (by rw [show trF F 0 = fun _ => 0 from rfl, nf_zero]; exact own_nil _ _ _), by (repeat (first | (with_reducible exact Below.refl _ _) | (with_reducible assumption) | (with_reducible refine below_plus' ?_ ?_; ((try simp only [plus_size, World.size_alloc, World.size_drew, World.size_setCell, size_setRow, World.heap_drewN, List.length_append]) <;> omega)) | (with_reducible refine below_alloc' ?_ ?_; ((try simp only [plus_size, World.size_alloc, World.size_drew, World.size_setCell, size_setRow, World.heap_drewN, List.length_append]) <;> omega)) | with_reducible refine Below.drew ?_ | (with_reducible refine below_drewN' ?_ _) | exact Below.refl _ _))⟩
    case round =>
      obtain ⟨k, v, hk, rfl, HBX, HO, hbel⟩ := hrel
      have hbx := HBX.out
      have ho := HO.out
      clear HBX HO
      have hsz := hbel.size
      obtain ⟨av, cv, rfl⟩ := readsL_form ho.reads
      have hbs2 := heap_lt hbx
      have o6 := nf_is (h := 9223372036854775808) (by decide) (trF_sup HBD.out k (by omega))
      have d0 : wr.cell? ⟨bs, 0, none⟩ = some (.int .i64 (nf 9223372036854775808 (trF F k)).1) := cell_of (i := 0) hbx
      have d1 : wr.cell? ⟨bs, 1, none⟩ = some (.slice av (nf 9223372036854775808 (trF F k)).2.length cv) := cell_of (i := 1) hbx
      rcases Nat.lt_or_ge k m with hkt | hge
      · have hkt1 : (k : Int) < (m : Int) := by omega
        obtain ⟨ba, rfl, hba, hra⟩ := HM.out.resolve_left (by omega)
        obtain ⟨ra, rca, g1, hra1, sa, sca, g3, g4, g5⟩ := hra k hkt
        replace g1 := (hbel.cell (p := ⟨ba, k, none⟩) hba).trans g1
        replace g3 := (hbel.cell (p := ⟨ra, k * 2, none⟩) hra1).trans g3
        replace g4 := (hbel.cell (p := ⟨ra, k * 2 + 1, none⟩) hra1).trans g4
        replace g5 := g5.kept hbel
        have hba2 : ba < wr.heap.size := by omega
        have hra2 : ra < wr.heap.size := by omega
        have hf := (HBD.out k hkt k hkt).1
        have o1 := nf_is (h := 9223372036854775808) (by decide) hf
        have hM9 := sup_add 1 (trF_sup HBD.out k (by omega)) hf
        have hst := trF_succ F k
        have HAD := Lib.hid (fun w' (hb : Below wr.heap.size wr w') => l05Add_nf 1 (nf 9223372036854775808 (trF F k)).1 (.slice av (nf 9223372036854775808 (trF F k)).2.length cv) (nf 9223372036854775808 (trF F k)).2 (nf 9223372036854775808 (F k k)).1 (.slice sa (nf 9223372036854775808 (F k k)).2.length sca) (nf 9223372036854775808 (F k k)).2 (trF F k) (F k k) 1000 w' (ho.reads.kept hb) (g5.kept hb) o6 o1 (by decide) hM9)
        rw [← hst] at HAD
        clear hra o1 o6 hM9 hst hf g5
        generalize nf 9223372036854775808 (F k k) = Q at *
        obtain ⟨A2, hA2⟩ : ∃ A2, (nf 9223372036854775808 (trF F (k + 1))) = A2 := ⟨_, rfl⟩
        rw [hA2] at HAD
        have HNX := Lib.hid hA2
        clear hA2
        generalize nf 9223372036854775808 (trF F k) = Ak at *
        go_upto_region 8 with (fail)
        refine wp_plus0 ?_
        refine region_ghostW (W := wr) [8, 9] (by kernel_rfl) (by kernel_rfl) (by kernel_rfl) ?_
        repeat (refine wpPlain_step (fun K hK => ?_); go_simp; first | (refine hK _ ?_; clear hK K) | (apply Exists.intro; refine ⟨fun _ => ?_, hK _ ?_⟩; (fail); clear hK K))
        refine wpPlain_nil ?_
        intro j1 d1
        rw [plus_plus]
        refine gchain_cons _ rfl ?_
        go_wp2_with (first | (go_at_call 35; (with_reducible refine Calls.mono (HAD.out _ ?_) ?_); (repeat (first | (with_reducible exact Below.refl _ _) | (with_reducible assumption) | (with_reducible refine below_plus' ?_ ?_; ((try simp only [plus_size, World.size_alloc, World.size_drew, World.size_setCell, size_setRow, World.heap_drewN, List.length_append]) <;> omega)) | (with_reducible refine below_alloc' ?_ ?_; ((try simp only [plus_size, World.size_alloc, World.size_drew, World.size_setCell, size_setRow, World.heap_drewN, List.length_append]) <;> omega)) | with_reducible refine Below.drew ?_ | (with_reducible refine below_drewN' ?_ _) | exact Below.refl _ _)); intro e w2 hh; obtain ⟨vS, rfl, hBS, hoS⟩ := retB_form hh; clear hh; obtain ⟨aS, cS, rfl⟩ := readsL_form hoS.reads))
        have hB3 : Below wr.heap.size wr w2 := Below.trans (show Below wr.heap.size wr _ by (repeat (first | (with_reducible exact Below.refl _ _) | (with_reducible assumption) | (with_reducible refine below_plus' ?_ ?_; ((try simp only [plus_size, World.size_alloc, World.size_drew, World.size_setCell, size_setRow, World.heap_drewN, List.length_append]) <;> omega)) | (with_reducible refine below_alloc' ?_ ?_; ((try simp only [plus_size, World.size_alloc, World.size_drew, World.size_setCell, size_setRow, World.heap_drewN, List.length_append]) <;> omega)) | with_reducible refine Below.drew ?_ | (with_reducible refine below_drewN' ?_ _) | exact Below.refl _ _))) (hBS.mono (by ((try simp only [plus_size, World.size_alloc, World.size_drew, World.size_setCell, size_setRow, World.heap_drewN, List.length_append]) <;> omega)))
        refine gExit_normal ⟨.inr (later_of_below hB3), fun j3 d3 => ?_⟩
        have hB4 : Below w2.heap.size w2 (plus w2 j3 d3) := by (repeat (first | (with_reducible exact Below.refl _ _) | (with_reducible assumption) | (with_reducible refine below_plus' ?_ ?_; ((try simp only [plus_size, World.size_alloc, World.size_drew, World.size_setCell, size_setRow, World.heap_drewN, List.length_append]) <;> omega)) | (with_reducible refine below_alloc' ?_ ?_; ((try simp only [plus_size, World.size_alloc, World.size_drew, World.size_setCell, size_setRow, World.heap_drewN, List.length_append]) <;> omega)) | with_reducible refine Below.drew ?_ | (with_reducible refine below_drewN' ?_ _) | exact Below.refl _ _))
        have hB5 : Below wr.heap.size wr (plus w2 j3 d3) := hB3.trans (hB4.mono hB3.size)
        have hoS2 := (hoS.kept hB4).mono (show WL.heap.size ≤ _ by ((try simp only [plus_size, World.size_alloc, World.size_drew, World.size_setCell, size_setRow, World.heap_drewN, List.length_append]) <;> omega))
        have hbx5 := (hB5.block bs hbs2).trans hbx
        clear hoS hBS hB4 hB3
        generalize plus w2 j3 d3 = WS at hB5 hoS2 hbx5 ⊢
        have e0 := heap_lt hbx5
        have e1 : WS.cell? ⟨bs, 0, none⟩ = some (.int .i64 Ak.1) := cell_of (i := 0) hbx5
        have e2 : WS.cell? ⟨bs, 1, none⟩ = some (.slice av Ak.2.length cv) := cell_of (i := 1) hbx5
        have e3 := frozen_of_row WS bs 0 _ _ hbx5
        have e4 := frozen_of_row WS bs 1 _ _ hbx5
        refine gchain_cons _ rfl ?_
        go_wp2
        refine gExit_normal ⟨.inl (by kernel_rfl), fun j4 d4 => ?_⟩
        refine gchain_nil ?_
        have h1 := heap_setCell_same WS bs 0 _ _ (.int .i64 A2.1) hbx5
        have h2 := heap_setCell_same _ bs 1 _ _ (.slice aS A2.2.length cS) h1
        have gg := grownBy_trans (grownBy_setCell WS bs 0 (.int .i64 A2.1)) (grownBy_setCell (WS.setCell ⟨bs, 0, none⟩ (.int .i64 A2.1)) bs 1 (.slice aS A2.2.length cS))
        have ho6 := own_blockB (e := 2) (by decide) hbx5 gg hoS2
        have hb6 : Below WL.heap.size WL _ := (hbel.trans (hB5.mono hbel.size)).trans (below_of_grown gg (Nat.le_trans hbel.size hB5.size) (fun q hq => by cases hq; have := HBS.out; omega))
        have hbx6 : ((WS.setCell ⟨bs, 0, none⟩ (.int .i64 A2.1)).setCell ⟨bs, 1, none⟩ (.slice aS A2.2.length cS)).heap[bs]? = some (.cells #[.int .i64 A2.1, .slice aS A2.2.length cS] 37) := by rw [h2]; simp
        clear h1 h2 gg hoS2 hbx5 e0 e1 e2 e3 e4 hB5
        generalize (World.setCell (World.setCell WS _ _) _ _) = WY at ho6 hb6 hbx6 ⊢
        have hb7 : Below WY.heap.size WY (plus WY j4 d4) := by (repeat (first | (with_reducible exact Below.refl _ _) | (with_reducible assumption) | (with_reducible refine below_plus' ?_ ?_; ((try simp only [plus_size, World.size_alloc, World.size_drew, World.size_setCell, size_setRow, World.heap_drewN, List.length_append]) <;> omega)) | (with_reducible refine below_alloc' ?_ ?_; ((try simp only [plus_size, World.size_alloc, World.size_drew, World.size_setCell, size_setRow, World.heap_drewN, List.length_append]) <;> omega)) | with_reducible refine Below.drew ?_ | (with_reducible refine below_drewN' ?_ _) | exact Below.refl _ _))
        replace ho6 : own 2 (plus WY j4 d4) _ _ _ := own.kept ho6 hb7
        have hbx7 := (hb7.block bs (heap_lt hbx6)).trans hbx6
        replace hb6 := hb6.trans (hb7.mono hb6.size)
        clear hbx6 hb7
        generalize plus WY j4 d4 = WZ at ho6 hb6 hbx7 ⊢
        go_wp2
        go_roundw
        case rel => exact ⟨k + 1, _, by omega, by go_num, Lib.hid (by rw [HNX.out]; exact hbx7), Lib.hid (by rw [HNX.out]; exact ho6), hb6⟩
        case measure => simp [intOf]; omega
      · obtain rfl : m = k := by omega
        have hge1 : ¬ ((m : Int) < (m : Int)) := by omega
        have his := fun w' (hb : Below wr.heap.size wr w') => spec_IsP (nf 9223372036854775808 (trF F m)).1 (.slice av (nf 9223372036854775808 (trF F m)).2.length cv) (nf 9223372036854775808 (trF F m)).2 w' (ho.reads.kept hb) (by have := o6.len; omega) o6.fits
        clear o6
        obtain ⟨Q, hQ⟩ : ∃ Q, nf 9223372036854775808 (trF F m) = Q := ⟨_, rfl⟩
        rw [hQ] at his d0 d1 ho hbx
        have HQ := Lib.hid hQ
        clear hQ
        obtain ⟨jq, dq, rfl⟩ := plus_of_below hbel
        obtain ⟨j2, hj2⟩ := plus_split (o := (.cells #[.int .i64 Q.1, .slice av Q.2.length cv] 37)) (by rw [← HBS.out]; exact hbx)
        have hbs3 := HBS.out
        subst hbs3
        have hwl := HWL.out
        subst hwl
        rw [hj2] at ho his ⊢
        clear hj2 hbx d0 d1 hbel hsz hbs2
        cases hok : okL Q.1 Q.2 with
        | false =>
          simp only [hok] at his
          have HIS := Lib.hid his
          have HO := Lib.hid (la_no hok)
          clear his hok
          go_wp2_with (first | (go_at_call 36; (with_reducible refine Calls.mono (HIS.out _ ?_) ?_); (repeat (first | (with_reducible exact Below.refl _ _) | (with_reducible assumption) | (with_reducible refine below_plus' ?_ ?_; ((try simp only [plus_size, World.size_alloc, World.size_drew, World.size_setCell, size_setRow, World.heap_drewN, List.length_append]) <;> omega)) | (with_reducible refine below_alloc' ?_ ?_; ((try simp only [plus_size, World.size_alloc, World.size_drew, World.size_setCell, size_setRow, World.heap_drewN, List.length_append]) <;> omega)) | with_reducible refine Below.drew ?_ | (with_reducible refine below_drewN' ?_ _) | exact Below.refl _ _)); rintro e w' ⟨rfl, hB⟩; obtain ⟨j5, d5, rfl⟩ := plus_of_below hB; rw [plus_plus]; clear hB))
          refine bodyPost_ret (v := .tuple #[.agg #[.int .i64 0, .slice none 0 0], .int .i64 3]) (by simp [results, Try.results17, go_sem]) rfl ?_
          exact ⟨_, by rw [HTM.out, HQ.out, HO.out.1, HO.out.2.2], by (repeat (first | (with_reducible exact Below.refl _ _) | (with_reducible assumption) | (with_reducible refine below_plus' ?_ ?_; ((try simp only [plus_size, World.size_alloc, World.size_drew, World.size_setCell, size_setRow, World.heap_drewN, List.length_append]) <;> omega)) | (with_reducible refine below_alloc' ?_ ?_; ((try simp only [plus_size, World.size_alloc, World.size_drew, World.size_setCell, size_setRow, World.heap_drewN, List.length_append]) <;> omega)) | with_reducible refine Below.drew ?_ | (with_reducible refine below_drewN' ?_ _) | exact Below.refl _ _)), by rw [HTM.out, HQ.out, HO.out.2.1]; exact own_nil _ _ _⟩
        | true =>
          simp only [hok] at his
          have HIS := Lib.hid his
          have HO := Lib.hid (la_yes hok)
          clear his hok
          go_wp2_with (first | (go_at_call 36; (with_reducible refine Calls.mono (HIS.out _ ?_) ?_); (repeat (first | (with_reducible exact Below.refl _ _) | (with_reducible assumption) | (with_reducible refine below_plus' ?_ ?_; ((try simp only [plus_size, World.size_alloc, World.size_drew, World.size_setCell, size_setRow, World.heap_drewN, List.length_append]) <;> omega)) | (with_reducible refine below_alloc' ?_ ?_; ((try simp only [plus_size, World.size_alloc, World.size_drew, World.size_setCell, size_setRow, World.heap_drewN, List.length_append]) <;> omega)) | with_reducible refine Below.drew ?_ | (with_reducible refine below_drewN' ?_ _) | exact Below.refl _ _)); rintro e w' ⟨rfl, hB⟩; obtain ⟨j5, d5, rfl⟩ := plus_of_below hB; rw [plus_plus]; clear hB))
          refine bodyPost_ret (v := .tuple #[.agg #[.int .i64 Q.1, .slice av Q.2.length cv], .int .i64 0]) (by simp [results, Try.results17, go_sem]) rfl ?_
          exact ⟨_, by rw [HTM.out, HQ.out, HO.out.1, HO.out.2.2], by (repeat (first | (with_reducible exact Below.refl _ _) | (with_reducible assumption) | (with_reducible refine below_plus' ?_ ?_; ((try simp only [plus_size, World.size_alloc, World.size_drew, World.size_setCell, size_setRow, World.heap_drewN, List.length_append]) <;> omega)) | (with_reducible refine below_alloc' ?_ ?_; ((try simp only [plus_size, World.size_alloc, World.size_drew, World.size_setCell, size_setRow, World.heap_drewN, List.length_append]) <;> omega)) | with_reducible refine Below.drew ?_ | (with_reducible refine below_drewN' ?_ _) | exact Below.refl _ _)), by rw [HTM.out, HQ.out, HO.out.2.1]; (try simp only [plus_in, plus_plus] at ho ⊢); exact own_farG ho (by ((try simp only [plus_size, World.size_alloc, World.size_drew, World.size_setCell, size_setRow, World.heap_drewN, List.length_append]) <;> omega)) (by ((try simp only [plus_size, World.size_alloc, World.size_drew, World.size_setCell, size_setRow, World.heap_drewN, List.length_append]) <;> omega)) (by ((try simp only [plus_size, World.size_alloc, World.size_drew, World.size_setCell, size_setRow, World.heap_drewN, List.length_append]) <;> omega)) (by first | exact List.prefix_rfl | exact ⟨j5, by simp only [List.append_assoc]⟩)⟩
  · have e1 : trN n xs = 0 := if_neg hc
    have e2 : trL n xs = [] := if_neg hc
    have e3 : trC n xs = codL true n xs := if_neg hc
    rw [e1, e2, e3]
    have hcn : (codL true n xs != 0) = true := by simp [hc]
    have HN := Lib.hid hc
    clear hc e1 e2 e3
    go_enter Try.func17, Try.ntmps17
    go_wp2_with (first | (go_at_call 15; (with_reducible refine Calls.mono (HRB.out _ ?_) ?_); (repeat (first | (with_reducible exact Below.refl _ _) | (with_reducible assumption) | (with_reducible refine below_plus' ?_ ?_; ((try simp only [plus_size, World.size_alloc, World.size_drew, World.size_setCell, size_setRow, World.heap_drewN, List.length_append]) <;> omega)) | (with_reducible refine below_alloc' ?_ ?_; ((try simp only [plus_size, World.size_alloc, World.size_drew, World.size_setCell, size_setRow, World.heap_drewN, List.length_append]) <;> omega)) | with_reducible refine Below.drew ?_ | (with_reducible refine below_drewN' ?_ _) | exact Below.refl _ _)); rintro e w' ⟨v1, rfl, hB, ht1, hn1⟩; obtain ⟨j, d, rfl⟩ := plus_of_below hB; clear hB))
    refine bodyPost_ret (v := .tuple #[.agg #[.int .i64 0, .slice none 0 0], .int .i64 (codL true n xs)]) (by simp [results, Try.results17, go_sem]) rfl ?_
    exact ⟨_, rfl, by (repeat (first | (with_reducible exact Below.refl _ _) | (with_reducible assumption) | (with_reducible refine below_plus' ?_ ?_; ((try simp only [plus_size, World.size_alloc, World.size_drew, World.size_setCell, size_setRow, World.heap_drewN, List.length_append]) <;> omega)) | (with_reducible refine below_alloc' ?_ ?_; ((try simp only [plus_size, World.size_alloc, World.size_drew, World.size_setCell, size_setRow, World.heap_drewN, List.length_append]) <;> omega)) | with_reducible refine Below.drew ?_ | (with_reducible refine below_drewN' ?_ _) | exact Below.refl _ _)), own_nil _ _ _⟩
end Go.Proofs.Ytikakoclmmmjdaa
