/- Matrices of polynomials with limits again, by the program. Conditions: as each theorem says. -/
import Derived.Test.YtikakoclmmmjdaaOh
namespace Go.Proofs.Ytikakoclmmmjdaa
open Go.RowKit
set_option linter.unusedSimpArgs false
set_option linter.unusedVariables false
open Go.RowKit
/-- what laurents answers -/
def RetLa (w : World) (m : Nat) (F : Nat → Nat → Pol) : Ending → World → Prop := fun e w' => ∃ v', e = .returned (.tuple #[v', .int .i64 (if allM m F = true then 0 else 3)]) ∧ Below w.heap.size w w' ∧ (allM m F = true → ∃ τ, tabG 50 37 (Ctag 2 w.heap.size) w' w.heap.size v' (plT m m (tgP τ F)) ∧ TagsOk m τ m 0 w'.heap.size) ∧ (allM m F = false → v' = .slice none 0 0)
set_option maxRecDepth 20000 in
set_option maxHeartbeats 4000000 in
theorem laurents_any (va : Value) (m A : Nat) (G : Nat → Nat → Int → Int) (w : World) (ha : rdM w va m (nfM 57896044618658097711785492504343953926634992332820282019728792003956564819968 G)) (hm : m ≤ 8) (hG : supM m A G) (hA : A ≤ 2400) : Calls Try.prog 50 #[va] w (RetLa w m (nfM 57896044618658097711785492504343953926634992332820282019728792003956564819968 G)) := by
  obtain ⟨aa, ca, rfl, ha⟩ := ha
  have HA := Lib.hid ha
  have HG := Lib.hid hG
  clear ha hG
  go_enter Try.func50, Try.ntmps50
  go_wp2
  go_loopw [4, 6, 7, 9, 10, 11, 15] (fun so s6 s7 s9 s10 s11 si wr => ∃ (i : Nat) (τ : Nat → Nat → Int), i ≤ m ∧ si = .int .i64 i ∧ tabG 50 37 (Ctag 2 w.heap.size) wr w.heap.size so (plT m i (tgP τ (nfM 57896044618658097711785492504343953926634992332820282019728792003956564819968 G))) ∧ Hid (TagsOk m τ i 0 wr.heap.size) ∧ Hid (∀ x, x < i → ∀ y, y < m → okL ((nfM 57896044618658097711785492504343953926634992332820282019728792003956564819968 G) x y).1 ((nfM 57896044618658097711785492504343953926634992332820282019728792003956564819968 G) x y).2 = true) ∧ Below w.heap.size w wr) (fun _ _ _ _ _ _ si _ => m - (intOf si).toNat)
  case atStart => exact ⟨0, fun _ _ => 0, by omega, rfl, tabG_made rfl (Nat.le_refl _) (by decide) rfl, Lib.hid (TagsOk.start _ _ _), Lib.hid (fun x hx => by omega), by (repeat (first | (with_reducible exact Below.refl _ _) | (with_reducible assumption) | (with_reducible refine below_plus' ?_ ?_; ((try simp only [plus_size, World.size_alloc, World.size_drew, World.size_setCell, size_setRow, World.heap_drewN, List.length_append]) <;> omega)) | (with_reducible refine below_alloc' ?_ ?_; ((try simp only [plus_size, World.size_alloc, World.size_drew, World.size_setCell, size_setRow, World.heap_drewN, List.length_append]) <;> omega)) | with_reducible refine Below.drew ?_ | (with_reducible refine below_drewN' ?_ _) | exact Below.refl _ _))⟩
  case round =>
    obtain ⟨i, τ, hi, rfl, ht, HT, HOK, hbel⟩ := hrel
    obtain ⟨WO, hWO⟩ : ∃ x, x = wr := ⟨_, rfl⟩
    subst hWO
    have hszO := hbel.size
    obtain ⟨ta, co, rfl⟩ := ht.len
    rcases Nat.lt_or_ge i m with hlt | hge
    · have hlt1 : (i : Int) < (m : Int) := by omega
      obtain ⟨ba, rfl, hba, hra⟩ := HA.out.resolve_left (by omega)
      obtain ⟨ra, rca, g1, hra1, g2⟩ := hra i hlt
      have HR := Lib.hid g2
      replace g1 := (hbel.cell (p := ⟨ba, i, none⟩) hba).trans g1
      have hba2 : ba < WO.heap.size := by omega
      clear hra g2
      go_wp2
      go_loopw [7, 9, 10, 11, 22] (fun s7 s9 s10 s11 sj wr => ∃ (j : Nat) (τ' : Nat → Nat → Int), j ≤ m ∧ sj = .int .i64 j ∧ rowG 37 (Ctag 2 w.heap.size) wr WO.heap.size s7 (plL j (tgP τ' (nfM 57896044618658097711785492504343953926634992332820282019728792003956564819968 G) i)) ∧ Hid (TagsOk m τ' i j wr.heap.size) ∧ Hid (plT m i (tgP τ (nfM 57896044618658097711785492504343953926634992332820282019728792003956564819968 G)) = plT m i (tgP τ' (nfM 57896044618658097711785492504343953926634992332820282019728792003956564819968 G))) ∧ Hid (∀ y, y < j → okL ((nfM 57896044618658097711785492504343953926634992332820282019728792003956564819968 G) i y).1 ((nfM 57896044618658097711785492504343953926634992332820282019728792003956564819968 G) i y).2 = true) ∧ Below WO.heap.size WO wr) (fun _ _ _ _ sj _ => m - (intOf sj).toNat)
      case atStart => exact ⟨0, τ, by omega, rfl, rowG_made rfl (Nat.le_refl _) (by decide) rfl, Lib.hid (HT.out.mono (by ((try simp only [plus_size, World.size_alloc, World.size_drew, World.size_setCell, size_setRow, World.heap_drewN, List.length_append]) <;> omega))), Lib.hid rfl, Lib.hid (fun y hy => by omega), by (repeat (first | (with_reducible exact Below.refl _ _) | (with_reducible assumption) | (with_reducible refine below_plus' ?_ ?_; ((try simp only [plus_size, World.size_alloc, World.size_drew, World.size_setCell, size_setRow, World.heap_drewN, List.length_append]) <;> omega)) | (with_reducible refine below_alloc' ?_ ?_; ((try simp only [plus_size, World.size_alloc, World.size_drew, World.size_setCell, size_setRow, World.heap_drewN, List.length_append]) <;> omega)) | with_reducible refine Below.drew ?_ | (with_reducible refine below_drewN' ?_ _) | exact Below.refl _ _))⟩
      case round =>
        obtain ⟨j, τ', hj, rfl, hr, HTj, HTE, HOKj, hbel2⟩ := hrel
        obtain ⟨WR, hWR⟩ : ∃ x, x = wr := ⟨_, rfl⟩
        subst hWR
        have hszR := hbel2.size
        obtain ⟨tr, cr, rfl⟩ := hr.len
        rcases Nat.lt_or_ge j m with hjt | hge
        · have hjt1 : (j : Int) < (m : Int) := by omega
          have hbW : Below w.heap.size w WR := hbel.trans (hbel2.mono hbel.size)
          obtain ⟨sa, sca, g3, g4, g5⟩ := HR.out j hjt
          obtain ⟨P, hP⟩ : ∃ P, (nfM 57896044618658097711785492504343953926634992332820282019728792003956564819968 G) i j = P := ⟨_, rfl⟩
          rw [hP] at g3 g4 g5
          replace g3 := (hbW.cell (p := ⟨ra, j * 2, none⟩) hra1).trans g3
          replace g4 := (hbW.cell (p := ⟨ra, j * 2 + 1, none⟩) hra1).trans g4
          replace g5 := g5.kept hbW
          have hra2 : ra < WR.heap.size := by omega
          have n1 : isNf 57896044618658097711785492504343953926634992332820282019728792003956564819968 A (G i j) P := hP ▸ nf_is (by decide) (HG.out i hlt j hjt)
          have hl1 := n1.len
          have hl2 := n1.lo
          have hl3 := n1.ab
          have hla := fun w' (hb : Below WR.heap.size WR w') => laurent_any P.1 (.slice sa P.2.length sca) P.2 w' (g5.kept hb).w (by omega) (by omega) (by omega) n1.fw
          have HP := Lib.hid hP
          clear n1 g5 hP
          cases hok : okL P.1 P.2 with
          | true =>
            obtain ⟨e1, e2, e3⟩ := la_yes hok
            rw [e1, e2, e3] at hla
            have HLA := Lib.hid hla
            have HO2 := Lib.hid hok
            clear hla e1 e2 e3 hok
            go_upto_region 10 with ((go_at_call 39; (with_reducible refine Calls.mono (HLA.out _ ?_) ?_); (repeat (first | (with_reducible exact Below.refl _ _) | (with_reducible assumption) | (with_reducible refine below_plus' ?_ ?_; ((try simp only [plus_size, World.size_alloc, World.size_drew, World.size_setCell, size_setRow, World.heap_drewN, List.length_append]) <;> omega)) | (with_reducible refine below_alloc' ?_ ?_; ((try simp only [plus_size, World.size_alloc, World.size_drew, World.size_setCell, size_setRow, World.heap_drewN, List.length_append]) <;> omega)) | with_reducible refine Below.drew ?_ | (with_reducible refine below_drewN' ?_ _) | exact Below.refl _ _)); intro e w2 hh; obtain ⟨vG, rfl, hBG, hoG⟩ := retL_form hh; clear hh; obtain ⟨aG, cG, rfl⟩ := readsL_form hoG.reads; have hB3 : Below WR.heap.size WR w2 := Below.trans (show Below WR.heap.size WR _ by (repeat (first | (with_reducible exact Below.refl _ _) | (with_reducible assumption) | (with_reducible refine below_plus' ?_ ?_; ((try simp only [plus_size, World.size_alloc, World.size_drew, World.size_setCell, size_setRow, World.heap_drewN, List.length_append]) <;> omega)) | (with_reducible refine below_alloc' ?_ ?_; ((try simp only [plus_size, World.size_alloc, World.size_drew, World.size_setCell, size_setRow, World.heap_drewN, List.length_append]) <;> omega)) | with_reducible refine Below.drew ?_ | (with_reducible refine below_drewN' ?_ _) | exact Below.refl _ _))) (hBG.mono (by ((try simp only [plus_size, World.size_alloc, World.size_drew, World.size_setCell, size_setRow, World.heap_drewN, List.length_append]) <;> omega))); have hz3 := hB3.size))
            obtain ⟨t, ht1, ht2⟩ : ∃ t : Int, (∀ k, (Value.slice aG P.2.length cG).ownBlock = some k → t = (k : Int)) ∧ (((WR.heap.size : Int) ≤ t ∧ t < w2.heap.size) ∨ t = -1 - (8 * (i : Int) + j)) := by
              cases hk : (Value.slice aG P.2.length cG).ownBlock with
              | none => exact ⟨_, (fun k h => by cases h), .inr rfl⟩
              | some k =>
                have := hoG.lt k hk
                refine ⟨k, fun k' h => by cases h; rfl, .inl ⟨?_, ?_⟩⟩
                · have h9 := this.1; (simp only [World.size_alloc] at h9); omega
                · omega
            have hct : Ctag 2 w.heap.size w2 (.slice aG P.2.length cG) (t :: P.2) := ⟨t, P.2, rfl, hoG.mono (by have := hbW.size; ((try simp only [plus_size, World.size_alloc, World.size_drew, World.size_setCell, size_setRow, World.heap_drewN, List.length_append]) <;> omega)), ht1⟩
            have HTG := Lib.hid (HTj.out.push hm hjt hB3.size ht2)
            clear ht1 ht2 hoG hBG
            go_wp2_with (first | (at_builtin; go_loud (refine wpList_appendPol rfl _ _ 50 rfl 37 Try.underlying50 infoLt (Ctag 2 w.heap.size) WO.heap.size (.slice tr (plL j (tgP τ' (nfM 57896044618658097711785492504343953926634992332820282019728792003956564819968 G) i)).length cr) (plL j (tgP τ' (nfM 57896044618658097711785492504343953926634992332820282019728792003956564819968 G) i)) rfl _ 1 rfl P.1 (.slice aG P.2.length cG) (t :: P.2) rfl (by rw [World.cell?_alloc_at _ _ _ _ (by ((try simp only [plus_size, World.size_alloc, World.size_drew, World.size_setCell, size_setRow, World.heap_drewN, List.length_append]) <;> omega))]; rfl) (by rw [World.cell?_alloc_at _ _ _ _ (by ((try simp only [plus_size, World.size_alloc, World.size_drew, World.size_setCell, size_setRow, World.heap_drewN, List.length_append]) <;> omega))]; rfl) (hr.keepT (by (repeat (first | (with_reducible exact Below.refl _ _) | (with_reducible assumption) | (with_reducible refine below_plus' ?_ ?_; ((try simp only [plus_size, World.size_alloc, World.size_drew, World.size_setCell, size_setRow, World.heap_drewN, List.length_append]) <;> omega)) | (with_reducible refine below_alloc' ?_ ?_; ((try simp only [plus_size, World.size_alloc, World.size_drew, World.size_setCell, size_setRow, World.heap_drewN, List.length_append]) <;> omega)) | with_reducible refine Below.drew ?_ | (with_reducible refine below_drewN' ?_ _) | exact Below.refl _ _)))) (Ctag_below (show Below w2.heap.size w2 _ by (repeat (first | (with_reducible exact Below.refl _ _) | (with_reducible assumption) | (with_reducible refine below_plus' ?_ ?_; ((try simp only [plus_size, World.size_alloc, World.size_drew, World.size_setCell, size_setRow, World.heap_drewN, List.length_append]) <;> omega)) | (with_reducible refine below_alloc' ?_ ?_; ((try simp only [plus_size, World.size_alloc, World.size_drew, World.size_setCell, size_setRow, World.heap_drewN, List.length_append]) <;> omega)) | with_reducible refine Below.drew ?_ | (with_reducible refine below_drewN' ?_ _) | exact Below.refl _ _))) _ _ hct) (fun w' x ys hg => Ctag_row (by decide) (hr.keepT (by (repeat (first | (with_reducible exact Below.refl _ _) | (with_reducible assumption) | (with_reducible refine below_plus' ?_ ?_; ((try simp only [plus_size, World.size_alloc, World.size_drew, World.size_setCell, size_setRow, World.heap_drewN, List.length_append]) <;> omega)) | (with_reducible refine below_alloc' ?_ ?_; ((try simp only [plus_size, World.size_alloc, World.size_drew, World.size_setCell, size_setRow, World.heap_drewN, List.length_append]) <;> omega)) | with_reducible refine Below.drew ?_ | (with_reducible refine below_drewN' ?_ _) | exact Below.refl _ _)))) hg x ys) (by rw [plL_length]; omega) (by ((try simp only [plus_size, World.size_alloc, World.size_drew, World.size_setCell, size_setRow, World.heap_drewN, List.length_append]) <;> omega)) ?_); intro v' w' hr' hB' hg'))
            have hw29 : w2.heap.size ≤ w'.heap.size := by have := hB'.size; (simp only [World.size_alloc] at this); omega
            go_roundw
            case rel => exact ⟨j + 1, updT τ' i j t, by omega, by go_num, by
              rw [← plL_succ, ← tgR_upd]
              rw [show tgP (updT τ' i j t) (nfM 57896044618658097711785492504343953926634992332820282019728792003956564819968 G) i j = (P.1, t :: P.2) by show (((nfM 57896044618658097711785492504343953926634992332820282019728792003956564819968 G) i j).1, updT τ' i j t i j :: ((nfM 57896044618658097711785492504343953926634992332820282019728792003956564819968 G) i j).2) = _; rw [HP.out, show updT τ' i j t i j = t from if_pos ⟨rfl, rfl⟩]]
              exact hr', Lib.hid (HTG.out.mono hw29), Lib.hid (HTE.out.trans tgP_upd), Lib.hid (fun y hy => by
              rcases Nat.lt_or_ge y j with h9 | h9
              · exact HOKj.out y h9
              · obtain rfl : y = j := by omega
                rw [HP.out]; exact HO2.out), Below.trans (hbel2.trans ((hB3.mono hszR).trans (show Below WO.heap.size w2 _ from (show Below w2.heap.size w2 _ by (repeat (first | (with_reducible exact Below.refl _ _) | (with_reducible assumption) | (with_reducible refine below_plus' ?_ ?_; ((try simp only [plus_size, World.size_alloc, World.size_drew, World.size_setCell, size_setRow, World.heap_drewN, List.length_append]) <;> omega)) | (with_reducible refine below_alloc' ?_ ?_; ((try simp only [plus_size, World.size_alloc, World.size_drew, World.size_setCell, size_setRow, World.heap_drewN, List.length_append]) <;> omega)) | with_reducible refine Below.drew ?_ | (with_reducible refine below_drewN' ?_ _) | exact Below.refl _ _))).mono (by omega)))) hB'⟩
            case measure => simp [intOf]; omega
          | false =>
            obtain ⟨e1, e2, e3⟩ := la_no hok
            rw [e1, e2, e3] at hla
            have HLA := Lib.hid hla
            have HB := Lib.hid (allM_bad (F := (nfM 57896044618658097711785492504343953926634992332820282019728792003956564819968 G)) hlt hjt (by rw [HP.out]; exact hok))
            clear hla e1 e2 e3 hok
            go_upto_region 10 with ((go_at_call 39; (with_reducible refine Calls.mono (HLA.out _ ?_) ?_); (repeat (first | (with_reducible exact Below.refl _ _) | (with_reducible assumption) | (with_reducible refine below_plus' ?_ ?_; ((try simp only [plus_size, World.size_alloc, World.size_drew, World.size_setCell, size_setRow, World.heap_drewN, List.length_append]) <;> omega)) | (with_reducible refine below_alloc' ?_ ?_; ((try simp only [plus_size, World.size_alloc, World.size_drew, World.size_setCell, size_setRow, World.heap_drewN, List.length_append]) <;> omega)) | with_reducible refine Below.drew ?_ | (with_reducible refine below_drewN' ?_ _) | exact Below.refl _ _)); intro e w2 hh; obtain ⟨vG, rfl, hBG, hoG⟩ := retL_form hh; clear hh; obtain ⟨aG, cG, rfl⟩ := readsL_form hoG.reads; have hB3 : Below WR.heap.size WR w2 := Below.trans (show Below WR.heap.size WR _ by (repeat (first | (with_reducible exact Below.refl _ _) | (with_reducible assumption) | (with_reducible refine below_plus' ?_ ?_; ((try simp only [plus_size, World.size_alloc, World.size_drew, World.size_setCell, size_setRow, World.heap_drewN, List.length_append]) <;> omega)) | (with_reducible refine below_alloc' ?_ ?_; ((try simp only [plus_size, World.size_alloc, World.size_drew, World.size_setCell, size_setRow, World.heap_drewN, List.length_append]) <;> omega)) | with_reducible refine Below.drew ?_ | (with_reducible refine below_drewN' ?_ _) | exact Below.refl _ _))) (hBG.mono (by ((try simp only [plus_size, World.size_alloc, World.size_drew, World.size_setCell, size_setRow, World.heap_drewN, List.length_append]) <;> omega))); have hz3 := hB3.size))
            go_wp2
            go_ret2
            exact ⟨_, by rw [HB.out]; rfl, hbW.trans ((show Below WR.heap.size WR _ by (repeat (first | (with_reducible exact Below.refl _ _) | (with_reducible assumption) | (with_reducible refine below_plus' ?_ ?_; ((try simp only [plus_size, World.size_alloc, World.size_drew, World.size_setCell, size_setRow, World.heap_drewN, List.length_append]) <;> omega)) | (with_reducible refine below_alloc' ?_ ?_; ((try simp only [plus_size, World.size_alloc, World.size_drew, World.size_setCell, size_setRow, World.heap_drewN, List.length_append]) <;> omega)) | with_reducible refine Below.drew ?_ | (with_reducible refine below_drewN' ?_ _) | exact Below.refl _ _))).mono hbW.size), (fun h => by rw [HB.out] at h; cases h), fun _ => rfl⟩
        · obtain rfl : m = j := by omega
          have hge1 : ¬ ((m : Int) < (m : Int)) := by omega
          have ht2 : tabG 50 37 (Ctag 2 w.heap.size) WO w.heap.size (.slice ta (plT m i (tgP τ' (nfM 57896044618658097711785492504343953926634992332820282019728792003956564819968 G))).length co) (plT m i (tgP τ' (nfM 57896044618658097711785492504343953926634992332820282019728792003956564819968 G))) := by rw [← HTE.out]; exact ht
          have ht3 := ht2.keepT hbel2
          (rw [HTE.out])
          go_wp2_with (first | (at_builtin; go_loud (refine wpList_appendTab rfl _ _ 26 rfl 50 37 Try.underlying26 infoLS (by decide) (Ctag 2 w.heap.size) w.heap.size (.slice ta (plT m i (tgP τ' (nfM 57896044618658097711785492504343953926634992332820282019728792003956564819968 G))).length co) (plT m i (tgP τ' (nfM 57896044618658097711785492504343953926634992332820282019728792003956564819968 G))) rfl _ rfl (.slice tr (plL m (tgP τ' (nfM 57896044618658097711785492504343953926634992332820282019728792003956564819968 G) i)).length cr) (plL m (tgP τ' (nfM 57896044618658097711785492504343953926634992332820282019728792003956564819968 G) i)) (by rw [World.cell?_alloc_at _ _ _ _ (by ((try simp only [plus_size, World.size_alloc, World.size_drew, World.size_setCell, size_setRow, World.heap_drewN, List.length_append]) <;> omega))]; rfl) (ht3.keepT (by (repeat (first | (with_reducible exact Below.refl _ _) | (with_reducible assumption) | (with_reducible refine below_plus' ?_ ?_; ((try simp only [plus_size, World.size_alloc, World.size_drew, World.size_setCell, size_setRow, World.heap_drewN, List.length_append]) <;> omega)) | (with_reducible refine below_alloc' ?_ ?_; ((try simp only [plus_size, World.size_alloc, World.size_drew, World.size_setCell, size_setRow, World.heap_drewN, List.length_append]) <;> omega)) | with_reducible refine Below.drew ?_ | (with_reducible refine below_drewN' ?_ _) | exact Below.refl _ _)))) ((hr.keepT (by (repeat (first | (with_reducible exact Below.refl _ _) | (with_reducible assumption) | (with_reducible refine below_plus' ?_ ?_; ((try simp only [plus_size, World.size_alloc, World.size_drew, World.size_setCell, size_setRow, World.heap_drewN, List.length_append]) <;> omega)) | (with_reducible refine below_alloc' ?_ ?_; ((try simp only [plus_size, World.size_alloc, World.size_drew, World.size_setCell, size_setRow, World.heap_drewN, List.length_append]) <;> omega)) | with_reducible refine Below.drew ?_ | (with_reducible refine below_drewN' ?_ _) | exact Below.refl _ _)))).mono hszO (fun x xs h => h)) (tabG_far2 ht2 (fun k hk => (hr.lt k hk).1) (fun vs hvs => row_back (Below.trans hbel2 ((show Below WR.heap.size WR _ by (repeat (first | (with_reducible exact Below.refl _ _) | (with_reducible assumption) | (with_reducible refine below_plus' ?_ ?_; ((try simp only [plus_size, World.size_alloc, World.size_drew, World.size_setCell, size_setRow, World.heap_drewN, List.length_append]) <;> omega)) | (with_reducible refine below_alloc' ?_ ?_; ((try simp only [plus_size, World.size_alloc, World.size_drew, World.size_setCell, size_setRow, World.heap_drewN, List.length_append]) <;> omega)) | with_reducible refine Below.drew ?_ | (with_reducible refine below_drewN' ?_ _) | exact Below.refl _ _))).mono hszR)) (fun k hk => (ht2.lt k hk).2) hvs)) (fun w' x ys hg => Ctag_tab (by decide) (ht3.keepT (by (repeat (first | (with_reducible exact Below.refl _ _) | (with_reducible assumption) | (with_reducible refine below_plus' ?_ ?_; ((try simp only [plus_size, World.size_alloc, World.size_drew, World.size_setCell, size_setRow, World.heap_drewN, List.length_append]) <;> omega)) | (with_reducible refine below_alloc' ?_ ?_; ((try simp only [plus_size, World.size_alloc, World.size_drew, World.size_setCell, size_setRow, World.heap_drewN, List.length_append]) <;> omega)) | with_reducible refine Below.drew ?_ | (with_reducible refine below_drewN' ?_ _) | exact Below.refl _ _)))) hg x ys) (by rw [plT_length]; omega) (by ((try simp only [plus_size, World.size_alloc, World.size_drew, World.size_setCell, size_setRow, World.heap_drewN, List.length_append]) <;> omega)) ?_; intro v' w' ht' hg' hB')))
          have hw29 : WR.heap.size ≤ w'.heap.size := by have := hB'.size; have := hg'.size; (simp only [World.size_alloc] at this); omega
          go_roundw
          case rel => exact ⟨i + 1, τ', by omega, by go_num, by rw [← plT_succ]; exact ht', Lib.hid (HTj.out.row.mono hw29), Lib.hid (fun x hx y hy => by
            rcases Nat.lt_or_ge x i with h9 | h9
            · exact HOK.out x h9 y hy
            · obtain rfl : x = i := by omega
              exact HOKj.out y hy), Below.trans (hbel.trans ((hbel2.mono hbel.size).trans ((show Below WR.heap.size WR (WR.alloc _) by (repeat (first | (with_reducible exact Below.refl _ _) | (with_reducible assumption) | (with_reducible refine below_plus' ?_ ?_; ((try simp only [plus_size, World.size_alloc, World.size_drew, World.size_setCell, size_setRow, World.heap_drewN, List.length_append]) <;> omega)) | (with_reducible refine below_alloc' ?_ ?_; ((try simp only [plus_size, World.size_alloc, World.size_drew, World.size_setCell, size_setRow, World.heap_drewN, List.length_append]) <;> omega)) | with_reducible refine Below.drew ?_ | (with_reducible refine below_drewN' ?_ _) | exact Below.refl _ _))).mono (by omega)))) hB'⟩
          case measure => simp [intOf]; omega
    · obtain rfl : m = i := by omega
      have hge1 : ¬ ((m : Int) < (m : Int)) := by omega
      have HB := Lib.hid (allM_good (F := (nfM 57896044618658097711785492504343953926634992332820282019728792003956564819968 G)) HOK.out)
      go_wp2
      go_ret2
      exact ⟨_, by rw [HB.out]; rfl, hbel, fun _ => ⟨τ, ht, HT.out⟩, (fun h => by rw [HB.out] at h; cases h)⟩
end Go.Proofs.Ytikakoclmmmjdaa
