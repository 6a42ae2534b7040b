/- matrixOf with Burau's matrices. Conditions: as each theorem says. -/
import Derived.Test.YtikakoclmmmjdaaOl
import Derived.Test.YtikakoclmmmjdaaOg
namespace Go.Proofs.Ytikakoclmmmjdaa
open Go.RowKit
set_option linter.unusedSimpArgs false
set_option linter.unusedVariables false
open Go.RowKit
set_option maxRecDepth 20000 in
set_option maxHeartbeats 4000000 in
theorem matrixOf_b (n : Int) (v : Value) (zs : List Int) (m : Nat) (w : World) (h : reads w v zs) (hm : m ≤ 8) (hl : zs.length ≤ 1000000000) (hz : ∀ i, i < zs.length → nth zs i ≠ 0 ∧ (nth zs i).natAbs + 1 ≤ m) : Calls Try.prog 27 #[.agg #[.int .i64 n, v], .int .i64 (m : Int), .func (.func 28) #[] #[]] w (RetMx false w m zs) := by
  obtain ⟨a, c, rfl⟩ := readsL_form h
  have HR := Lib.hid h
  have HZ := Lib.hid hz
  clear h hz
  go_enter Try.func27, Try.ntmps27
  go_upto_region 2 with ((go_at_call 49; (with_reducible refine Calls.mono (unitRows_any m _ (by omega)) ?_); rintro e w1 ⟨v8, rfl, hB1, ht1⟩))
  rw [← nfM_unit4, show (fun i j => val (unitP i j)) = lmF false m zs 0 from rfl] at ht1
  obtain ⟨vs, ht1⟩ := ht1.vs
  have hB0 : Below w.heap.size w w1 := Below.trans (show Below w.heap.size w _ by (repeat (first | (with_reducible exact Below.refl _ _) | (with_reducible assumption) | (with_reducible refine below_plus' ?_ ?_; ((try simp only [plus_size, World.size_alloc, World.size_drew, World.size_setCell, size_setRow, World.heap_drewN, List.length_append]) <;> omega)) | (with_reducible refine below_alloc' ?_ ?_; ((try simp only [plus_size, World.size_alloc, World.size_drew, World.size_setCell, size_setRow, World.heap_drewN, List.length_append]) <;> omega)) | with_reducible refine Below.drew ?_ | (with_reducible refine below_drewN' ?_ _) | exact Below.refl _ _))) (hB1.mono (by ((try simp only [plus_size, World.size_alloc, World.size_drew, World.size_setCell, size_setRow, World.heap_drewN, List.length_append]) <;> omega)))
  have ht0 : tabW 70 57 (Cw 78) w1 w.heap.size v8 (plT m m (nfM 57896044618658097711785492504343953926634992332820282019728792003956564819968 (lmF false m zs 0))) vs := ht1.mono (by ((try simp only [plus_size, World.size_alloc, World.size_drew, World.size_setCell, size_setRow, World.heap_drewN, List.length_append]) <;> omega))
  have hbx : w1.heap[w.heap.size]? = some (.cells #[.int .i64 n, .slice a zs.length c] 29) := (hB1.block _ (by ((try simp only [plus_size, World.size_alloc, World.size_drew, World.size_setCell, size_setRow, World.heap_drewN, List.length_append]) <;> omega))).trans (by (repeat (first | (refine heap_at _ _ _ ?_; ((try simp only [plus_size, World.size_alloc, World.size_drew, World.size_setCell, size_setRow, World.heap_drewN, List.length_append]) <;> omega)) | (refine heap_past' ?_ ?_; ((try simp only [plus_size, World.size_alloc, World.size_drew, World.size_setCell, size_setRow, World.heap_drewN, List.length_append]) <;> omega)) | (refine heap_plus' ?_ ?_; ((try simp only [plus_size, World.size_alloc, World.size_drew, World.size_setCell, size_setRow, World.heap_drewN, List.length_append]) <;> omega)) | assumption)))
  have hbl9 := heap_lt hbx
  have x0 : w1.cell? ⟨w.heap.size, 0, none⟩ = some (.int .i64 n) := cell_of (i := 0) hbx
  have x1 : w1.cell? ⟨w.heap.size, 1, none⟩ = some (.slice a zs.length c) := cell_of (i := 1) hbx
  clear ht1 hB1
  obtain ⟨a8, c8, rfl⟩ := ht0.tab.len
  rw [plT_length] at ht0 ⊢
  go_wp2
  go_loopw [10, 12, 13, 14, 20, 26] (fun s10 s12 s13 s14 sk s26 wr => ∃ k : Nat, k ≤ zs.length ∧ sk = .int .i64 k ∧ tabW 70 57 (Cw 78) wr w.heap.size (.slice a8 m c8) (plT m m (nfM 57896044618658097711785492504343953926634992332820282019728792003956564819968 (lmF false m zs k))) vs ∧ Hid (∀ q, q < k → allM m (nfM 9223372036854775808 (lmF false m zs (q + 1))) = true) ∧ Below w.heap.size w wr) (fun _ _ _ _ sk _ _ => zs.length - (intOf sk).toNat)
  case atStart => exact ⟨0, by omega, by go_num, ht0, Lib.hid (fun q hq => by omega), hB0⟩
  case round =>
    clear ht0 hB0 x0 x1 hbl9 hbx
    obtain ⟨k, hk, rfl, ht, HP, hbel⟩ := hrel
    have hsz := hbel.size
    have HBD := Lib.hid (lmF_bd (red := false) hm k HP.out)
    rcases Nat.lt_or_ge k zs.length with hlt | hge
    · have hlt1 : (k : Int) < (zs.length : Int) := by omega
      obtain ⟨b, o, rfl, hbl, hc⟩ := reads_cells HR.out (by omega)
      have g1 := (hbel.cell (p := ⟨b, o + k, none⟩) hbl).trans (hc k hlt)
      obtain ⟨hz1, hz2⟩ := HZ.out k hlt
      have hbl2 : b < wr.heap.size := by omega
      have hm0 : 0 < m := by omega
      have HSU := Lib.hid (bdM_sup HBD.out)
      have HLAW := Lib.hid (fun r (hr : r < m) j (hj : j < m) => (congrFun (congrFun (lmF_succ false m zs k) r) j).trans (stB_law (fun q hq => HSU.out r hr q hq) hj hz1 hz2))
      have HTW := Lib.hid (fun i (hi : i < m) j (hj : j < m) => lmF_two hm HBD.out hi hj)
      have HSN := Lib.hid (show supM m 1501 (lmF false m zs (k + 1)) from fun i _ j hj => sup_mmF (A := 1500) (F := lmF false m zs k) (i := i) (sup_stp false m (nth zs k)) hj m (Nat.le_refl _))
      clear hc
      generalize nth zs k = z at g1 hz1 hz2 HLAW
      obtain ⟨F0, hF0⟩ : ∃ F, (nfM 57896044618658097711785492504343953926634992332820282019728792003956564819968 (lmF false m zs k)) = F := ⟨_, rfl⟩
      obtain ⟨F1, hF1⟩ : ∃ F, (nfM 57896044618658097711785492504343953926634992332820282019728792003956564819968 (lmF false m zs (k + 1))) = F := ⟨_, rfl⟩
      rw [hF0, ← mixR_0 F0 F1] at ht
      have HF0 := Lib.hid hF0
      have HF1 := Lib.hid hF1
      clear hF0 hF1
      obtain ⟨g8, c8', hv8, hg8B, hg8l, hcg⟩ := ht.at (by rw [plT_length]; omega)
      rw [plT_length] at hv8
      cases hv8
      clear hcg hg8l
      go_wp2
      go_loopw [12, 26] (fun s12 sr wr => ∃ r : Nat, r ≤ m ∧ sr = .int .i64 r ∧ tabW 70 57 (Cw 78) wr w.heap.size (.slice (some ⟨g8, 0, none⟩) m c8) (plT m m (mixR F0 F1 r)) vs ∧ Below w.heap.size w wr) (fun _ sr _ => m - (intOf sr).toNat)
      case atStart => exact ⟨0, by omega, by go_num, ht, hbel⟩
      case round =>
        clear ht hbel hsz g1 hbl2
        obtain ⟨r, hr, rfl, ht, hbel⟩ := hrel
        have hsz := hbel.size
        rcases Nat.lt_or_ge r m with hrt | hge
        · have hrt1 : (r : Int) < (m : Int) := by omega
          obtain ⟨g8', c8', hv8, _, hg8l, hcg⟩ := ht.at (by rw [plT_length]; omega)
          rw [plT_length] at hv8 hcg
          cases hv8
          have g2 := hcg r hrt
          obtain ⟨kb, ck, hkv, hkB, hkl⟩ := ht.row hrt hm0
          rw [hkv] at g2
          have hrow := ht.2.2.1 r (by rw [plT_length]; exact hrt)
          rw [prow_plT hrt, hkv, show mixR F0 F1 r r = F0 r from if_neg (by omega), ← HF0.out] at hrow
          obtain ⟨cur, hcur⟩ := hrow.block rfl
          have HST := Lib.hid (fun w' (h : rowG 57 (Cw 78) w' w.heap.size (.slice (some ⟨kb, 0, none⟩) m ck) (plL m ((nfM 57896044618658097711785492504343953926634992332820282019728792003956564819968 (lmF false m zs k)) r))) => stepBurau_any w.heap.size kb ck m z (lmF false m zs k r) 1500 w' h (fun j hj => HSU.out r hrt j hj) (by omega) hm hz1 hz2)
          clear hcg
          go_wp2_with (first | (go_at_call 28; (with_reducible refine Calls.mono (HST.out _ hrow) ?_); rintro e w2 ⟨rfl, hgr, hr2⟩))
          have hB9 : Below w.heap.size w w2 := hbel.trans (below_of_grown hgr hsz (at_le hkB))
          have hC9 := Cw_block (e := 78) (by decide) hcur hgr
          have ht9 := ht.wrote (by decide) (i := r) (by rw [plT_length]; exact hrt) (w' := w2) (r := plL m (F1 r)) (by rw [hkv]; exact hgr) hC9 (by
            rw [hkv, ← HF1.out]
            rw [plL_ext (fun j hj => show nf 57896044618658097711785492504343953926634992332820282019728792003956564819968 (stB z (lmF false m zs k r) j) = (nfM 57896044618658097711785492504343953926634992332820282019728792003956564819968 (lmF false m zs (k + 1))) r j from by rw [← HLAW.out r hrt j hj]; rfl)] at hr2
            exact hr2)
          rw [plT_set, mixR_set] at ht9
          go_roundw
          case rel => exact ⟨r + 1, by omega, by go_num, ht9, hB9⟩
          case measure => simp [intOf]; omega
        · obtain rfl : m = r := by omega
          have hge1 : ¬ ((m : Int) < (m : Int)) := by omega
          have ht9 := ht.tab
          rw [mixR_all, ← HF1.out] at ht9
          have htw : tabW 70 57 (Cw 78) wr w.heap.size (.slice (some ⟨g8, 0, none⟩) m c8) (plT m m (nfM 57896044618658097711785492504343953926634992332820282019728792003956564819968 (lmF false m zs (k + 1)))) vs := by
            have := ht
            unfold tabW at this ⊢
            rw [mixR_all, ← HF1.out] at this
            exact this
          obtain ⟨ok, hok⟩ : ∃ ok, allM m (nfM 57896044618658097711785492504343953926634992332820282019728792003956564819968 (lmF false m zs (k + 1))) = ok := ⟨_, rfl⟩
          have HLA := Lib.hid (show Calls Try.prog 50 #[.slice (some ⟨g8, 0, none⟩) m c8] wr (fun e w' => ∃ v', e = .returned (.tuple #[v', .int .i64 (if ok = true then 0 else 3)]) ∧ Below wr.heap.size wr w') from
            (laurents_any _ m 1501 (lmF false m zs (k + 1)) wr (ht9.rdM (by decide)) hm HSN.out (by decide)).mono (fun e w' h => by
              obtain ⟨v', h1, h2, _, _⟩ := retLa_form h
              rw [hok] at h1
              exact ⟨v', h1, h2⟩))
          have HOK := Lib.hid ((allM_two HTW.out).symm.trans hok)
          clear hok ht9 ht
          cases ok with
          | true =>
            go_wp2_with (first | (go_at_call 50; (with_reducible refine Calls.mono HLA.out ?_); rintro e w2 ⟨vL, rfl, hBL⟩))
            go_roundw
            case rel => exact ⟨k + 1, by omega, by go_num, htw.below hBL (Cw_below hBL), Lib.hid (fun q hq => by
              rcases Nat.lt_or_ge q k with h9 | h9
              · exact HP.out q h9
              · obtain rfl : q = k := by omega
                exact HOK.out), hbel.trans (hBL.mono hsz)⟩
            case measure => simp [intOf]; omega
          | false =>
            have HB := Lib.hid (preL_bad (red := false) hlt HOK.out)
            go_wp2_with (first | (go_at_call 50; (with_reducible refine Calls.mono HLA.out ?_); rintro e w2 ⟨vL, rfl, hBL⟩))
            go_ret2
            exact ⟨_, by rw [HB.out]; rfl, hbel.trans (hBL.mono hsz), (fun h => by rw [HB.out] at h; cases h), fun _ => rfl⟩
    · obtain rfl : zs.length = k := by omega
      have hge1 : ¬ ((zs.length : Int) < (zs.length : Int)) := by omega
      have hall1 : allM m (nfM 9223372036854775808 (lmF false m zs zs.length)) = true := by
        rcases Nat.eq_zero_or_pos zs.length with h0 | h0
        · rw [h0]
          exact allM_unit m _ (by decide)
        · have := HP.out (zs.length - 1) (by omega)
          rwa [show zs.length - 1 + 1 = zs.length by omega] at this
      have hall : allM m (nfM 57896044618658097711785492504343953926634992332820282019728792003956564819968 (lmF false m zs zs.length)) = true := (allM_two (fun i hi j hj => bdM_two HBD.out hi hj)).trans hall1
      have HB := Lib.hid (preL_good (red := false) HP.out)
      have HLA := Lib.hid (show Calls Try.prog 50 #[.slice a8 m c8] wr (fun e w' => ∃ v', e = .returned (.tuple #[v', .int .i64 0]) ∧ Below wr.heap.size wr w' ∧ ∃ τ, tabG 50 37 (Ctag 2 wr.heap.size) w' wr.heap.size v' (plT m m (tgP τ (nfM 57896044618658097711785492504343953926634992332820282019728792003956564819968 (lmF false m zs zs.length)))) ∧ TagsOk m τ m 0 w'.heap.size) from
        (laurents_any _ m 1500 (lmF false m zs zs.length) wr (ht.tab.rdM (by decide)) hm (bdM_sup HBD.out) (by decide)).mono (fun e w' h => by
          obtain ⟨v', h1, h2, h3, _⟩ := retLa_form h
          rw [if_pos hall] at h1
          exact ⟨v', h1, h2, h3 hall⟩))
      have HT4 := Lib.hid (fun τ => tgP_two (τ := τ) (fun i hi j hj => bdM_two HBD.out hi hj))
      clear hall hall1
      go_wp2_with (go_at_call 50; (with_reducible refine Calls.mono HLA.out ?_); rintro e w2 ⟨vL, rfl, hBL, τ, htL, hTL⟩)
      go_ret2
      exact ⟨vL, by rw [HB.out]; rfl, hbel.trans (hBL.mono hsz), fun _ => ⟨τ, by rw [← HT4.out τ]; exact htL.mono hsz (Ctag_mono hsz), hTL⟩, (fun h => by rw [HB.out] at h; cases h)⟩
end Go.Proofs.Ytikakoclmmmjdaa
