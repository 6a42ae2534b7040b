/- Pure braids drawn over a code. Conditions: as each theorem says. -/
import Derived.Test.YtblpbkfenmkhbaaGreatDoorQg
namespace Go.Proofs.YtblpbkfenmkhbaaGreatDoor
open Go.RowKit
set_option linter.unusedSimpArgs false
set_option linter.unusedVariables false
open Go.RowKit
set_option maxRecDepth 20000 in
set_option maxHeartbeats 8000000 in
theorem drawPure_any (vc : Value) (m : Nat) (w : World) (hC : readsC w vc m) (hm : m ≤ 1000000000) : Calls Tryz.prog 27 #[vc] w (Wd1 w 83) := by
  have HC := Lib.hid hC
  clear hC
  go_enter Tryz.func27, Tryz.ntmps27
  go_upto_region 3 with (first | (go_at_call 30; refine Calls.mono (spoil_any w _ g vc m HC.out hm (S.kept (by (repeat (first | (with_reducible exact Below.refl _ _) | (with_reducible assumption) | (with_reducible refine below_plus' ?_ ?_; ((try simp only [plus_size, World.size_alloc, World.size_drew, World.size_setCell, size_setRow, World.heap_drewN, List.length_append]) <;> omega)) | (with_reducible refine below_alloc' ?_ ?_; ((try simp only [plus_size, World.size_alloc, World.size_drew, World.size_setCell, size_setRow, World.heap_drewN, List.length_append]) <;> omega)) | with_reducible refine Below.drew ?_ | (with_reducible refine below_drewN' ?_ _) | exact Below.refl _ _))))) ?_; rintro e w1 ⟨n1, v1, l1, rfl, ho1, hlen1, hx1, hn1, S1, hg⟩; obtain ⟨a1, c1, rfl, hs⟩ := id ho1.reads; clear hs; replace S := S1; clear S1; replace G := grownBy_trans (grown_below G (by (repeat (first | (with_reducible exact Below.refl _ _) | (with_reducible assumption) | (with_reducible refine below_plus' ?_ ?_; ((try simp only [plus_size, World.size_alloc, World.size_drew, World.size_setCell, size_setRow, World.heap_drewN, List.length_append]) <;> omega)) | (with_reducible refine below_alloc' ?_ ?_; ((try simp only [plus_size, World.size_alloc, World.size_drew, World.size_setCell, size_setRow, World.heap_drewN, List.length_append]) <;> omega)) | with_reducible refine Below.drew ?_ | (with_reducible refine below_drewN' ?_ _) | exact Below.refl _ _)))) hg; have L := S.lt; replace h2b := grown_of (kept_of h2b (by (repeat (first | (with_reducible exact Below.refl _ _) | (with_reducible assumption) | (with_reducible refine below_plus' ?_ ?_; ((try simp only [plus_size, World.size_alloc, World.size_drew, World.size_setCell, size_setRow, World.heap_drewN, List.length_append]) <;> omega)) | (with_reducible refine below_alloc' ?_ ?_; ((try simp only [plus_size, World.size_alloc, World.size_drew, World.size_setCell, size_setRow, World.heap_drewN, List.length_append]) <;> omega)) | with_reducible refine Below.drew ?_ | (with_reducible refine below_drewN' ?_ _) | exact Below.refl _ _)))) hg (by simp; omega))
                                        | (go_at_call 29; refine Calls.mono (from_any vc m _ (HC.out.kept (by (repeat (first | (with_reducible exact Below.refl _ _) | (with_reducible assumption) | (with_reducible refine below_plus' ?_ ?_; ((try simp only [plus_size, World.size_alloc, World.size_drew, World.size_setCell, size_setRow, World.heap_drewN, List.length_append]) <;> omega)) | (with_reducible refine below_alloc' ?_ ?_; ((try simp only [plus_size, World.size_alloc, World.size_drew, World.size_setCell, size_setRow, World.heap_drewN, List.length_append]) <;> omega)) | with_reducible refine Below.drew ?_ | (with_reducible refine below_drewN' ?_ _) | exact Below.refl _ _)))) hm) ?_; rintro e wf ⟨g, rfl, S1⟩; have S := src_baseJ S1 (show Below w.heap.size w _ by (repeat (first | (with_reducible exact Below.refl _ _) | (with_reducible assumption) | (with_reducible refine below_plus' ?_ ?_; ((try simp only [plus_size, World.size_alloc, World.size_drew, World.size_setCell, size_setRow, World.heap_drewN, List.length_append]) <;> omega)) | (with_reducible refine below_alloc' ?_ ?_; ((try simp only [plus_size, World.size_alloc, World.size_drew, World.size_setCell, size_setRow, World.heap_drewN, List.length_append]) <;> omega)) | with_reducible refine Below.drew ?_ | (with_reducible refine below_drewN' ?_ _) | exact Below.refl _ _))); have G := below_grownJ (row := some g) S.bel; have L := S.lt; have hlo := S1.lo; (try simp only [plus_size, World.size_alloc, World.size_drew, World.heap_drewN, size_setRow] at hlo); have h2b : wf.heap[w.heap.size]? = some (.cells #[.int .i64 0, .slice none 0 0] 26) := kept_of (by (repeat (first | (refine heap_at _ _ _ ?_; ((try simp only [plus_size, World.size_alloc, World.size_drew, World.size_setCell, size_setRow, World.heap_drewN, List.length_append]) <;> omega)) | (refine heap_past' ?_ ?_; ((try simp only [plus_size, World.size_alloc, World.size_drew, World.size_setCell, size_setRow, World.heap_drewN, List.length_append]) <;> omega)) | (refine heap_plus' ?_ ?_; ((try simp only [plus_size, World.size_alloc, World.size_drew, World.size_setCell, size_setRow, World.heap_drewN, List.length_append]) <;> omega)) | assumption))) S1.bel; have hgw : w.heap.size < g := (by have := S1.lo; (try simp only [World.size_alloc] at this); omega); clear S1))
  have h5 : (w1.alloc (.cells #[.int .i64 n1, .slice a1 l1.length c1] 26)).heap[w1.heap.size]? = some (.cells #[.int .i64 n1, .slice a1 l1.length c1] 26) := heap_alloc_last _ _
  have hb5 := heap_lt h2b
  have hbx : Below w1.heap.size w1 (w1.alloc (.cells #[.int .i64 n1, .slice a1 l1.length c1] 26)) := by (repeat (first | (with_reducible exact Below.refl _ _) | (with_reducible assumption) | (with_reducible refine below_plus' ?_ ?_; ((try simp only [plus_size, World.size_alloc, World.size_drew, World.size_setCell, size_setRow, World.heap_drewN, List.length_append]) <;> omega)) | (with_reducible refine below_alloc' ?_ ?_; ((try simp only [plus_size, World.size_alloc, World.size_drew, World.size_setCell, size_setRow, World.heap_drewN, List.length_append]) <;> omega)) | with_reducible refine Below.drew ?_ | (with_reducible refine below_drewN' ?_ _) | exact Below.refl _ _))
  replace h2b := kept_of h2b hbx
  replace S := S.kept hbx
  replace ho1 := ho1.kept hbx
  replace G := grown_below G hbx
  have hb4g : w1.heap.size ≠ g := fun e => by have := S.box; obtain ⟨i, x, _, _, hb⟩ := this; rw [← e, h5] at hb; cases hb
  clear hbx hg L
  generalize w1.alloc (.cells #[.int .i64 n1, .slice a1 l1.length c1] 26) = wx at h2b h5 S ho1 G ⊢
  generalize w1.heap.size = b4 at h5 hb5 hb4g ⊢
  have x4 : boxed wx b4 26 n1 (.slice a1 l1.length c1) := h5
  replace h2b : boxed wx w.heap.size 26 0 (.slice none 0 0) := h2b
  clear h5
  have hL := S.lt
  have hGS := G.size
  have c40 := x4.c0
  have c41 := x4.c1
  have c4l := x4.lt
  have x2 : boxed _ w.heap.size 26 0 (.slice none 0 0) := h2b
  have c20 := x2.c0
  have c21 := x2.c1
  have c2l := x2.lt
  have c22 := x2.fr0
  have c23 := x2.fr1
  have hlt : (l1.length : Int) < 60 := by omega
  go_upto_region 4 with (first | (go_at_call 32; refine Calls.mono (nextN w _ g vc m _ HC.out hm S (by omega) (by omega)) ?_; rintro e wq ⟨q, hq, rfl, S1, hg⟩; replace ho1 := own_next ho1 S hg; replace x4 := boxed.onG x4 hg (by simp; omega); replace h2b := boxed.onG h2b hg (by simp; omega); replace S := S1; replace G := grownBy_trans G hg; clear S1 hg; have hL := S.lt; have hGS := G.size; clear c40 c41 c4l c20 c21 c2l c22 c23 x2; have c40 := x4.c0; have c41 := x4.c1; have c4l := x4.lt; have x2 : boxed _ w.heap.size 26 0 (.slice none 0 0) := h2b; have c20 := x2.c0; have c21 := x2.c1; have c2l := x2.lt; have c22 := x2.fr0; have c23 := x2.fr1))
  · obtain ⟨IV, hIV⟩ : ∃ IV, IV = l1 := ⟨_, rfl⟩
    have hIL : IV.length = l1.length := by simp [hIV]
    have hIX : Lts 100 IV := by
      rw [hIV]
      exact hx1
    have hinv : ∀ w', own 2 w' w.heap.size (.slice a1 l1.length c1) l1 → Calls Tryz.prog 41 #[.slice a1 l1.length c1] w' (RetInts 2 w' IV) := fun w' h => by
      rw [hIV]
      exact l01Own_any _ l1 w' h.reads (by omega)
    obtain ⟨LA, hLA⟩ : ∃ LA, LA = l1 ++ IV := ⟨_, rfl⟩
    have hLL : LA.length ≤ 82 := by rw [hLA, List.length_append]; omega
    have HXA := Lib.hid (show Lts 100 LA from by rw [hLA]; exact fun x hx => (List.mem_append.1 hx).elim (hx1 x) (hIX x))
    have HINV := Lib.hid hinv
    have HLA := Lib.hid hLA
    have hsum : l1.length + IV.length ≤ 1000000000 := by omega
    clear hIV hIX hinv hLA
    have HIL := Lib.hid hIL
    clear hIL
    clear c40 c41 c4l c20 c21 c2l c22 c23 x2
    go_cut [] from 18 to 30 (fun wc => ∃ (aF : Option Addr) (cF : Nat) (LF : List Int), boxed wc b4 26 n1 (.slice aF LF.length cF) ∧ own 2 wc w.heap.size (.slice aF LF.length cF) LF ∧ Hid (Lts 100 LF) ∧ Hid (LF.length ≤ 83) ∧ Src w wc g vc m ∧ boxed wc w.heap.size 26 0 (.slice none 0 0))
    case first =>
      refine wp_region_held_drew (S := fun _ => True) (by kernel_rfl) trivial (fun hHeld => ?_)
      refine drewK (fun w0 hB => ?_)
      have M : Mv w b4 g vc m n1 (.slice a1 l1.length c1) _ := ⟨x4, h2b, S, G⟩
      clear x4 h2b S G hL hGS
      replace M := M.kept hB
      replace ho1 := ho1.kept hB
      clear hB
      refine wpAnyH_take (i := 0) (oi := ?oi1) (v := ?v1) ?hi1 (by kernel_rfl) (by kernel_rfl) (by kernel_rfl) ?hQ1 (Or.inl ⟨?hw1, ?hy1⟩) hHeld ?rest1
      case hi1 => exact gt3 (by rfl)
      case hQ1 => exact fun _ _ _ h => h
      case hw1 => rfl
      case hy1 => (intro w hSw; (try dsimp only at hSw); first | (go_simp; done) | (go_simp; with_reducible rfl))
      (try simp only [Act.put, List.setIfInBounds_toArray, List.set_cons_zero, List.set_cons_succ])
      refine wpAnyH_take (i := 3) (oi := ?oi2) (v := ?v2) ?hi2 (by kernel_rfl) (by kernel_rfl) (by kernel_rfl) ?hQ2 (Or.inl ⟨?hw2, ?hy2⟩) hHeld ?rest2
      case hi2 => exact gt3 (by rfl)
      case hQ2 => exact fun _ _ _ h => h
      case hw2 => rfl
      case hy2 => (intro w hSw; (try dsimp only at hSw); first | (go_simp; done) | (go_simp; with_reducible rfl))
      (try simp only [Act.put, List.setIfInBounds_toArray, List.set_cons_zero, List.set_cons_succ])
      refine wpAnyH_take (i := 7) (oi := ?oi3) (v := ?v3) ?hi3 (by kernel_rfl) (by kernel_rfl) (by kernel_rfl) ?hQ3 (Or.inl ⟨?hw3, ?hy3⟩) hHeld ?rest3
      case hi3 => exact gt3 (by rfl)
      case hQ3 => exact fun _ _ _ h => h
      case hw3 => rfl
      case hy3 => (intro w hSw; (try dsimp only at hSw); first | (go_simp; done) | (go_simp; with_reducible rfl))
      (try simp only [Act.put, List.setIfInBounds_toArray, List.set_cons_zero, List.set_cons_succ])
      refine wpAnyH_ready (rs := [1, 4, 8]) (by kernel_rfl) (by simp) ?_
      refine AllReadyH.cons (o := ?oi4) ?hi4 (fun K hK => ?step4) ?more4
      case hi4 => exact gt3 (by rfl)
      case step4 =>
       (have c41 := M.x4.c1; have c4l := M.x4.lt; have c4f := M.x4.fr1; go_simp)
       refine hK.out _ _ trivial (fun hHeld => ?_)
       clear hK K
       (try simp only [Act.put, List.setIfInBounds_toArray, List.set_cons_zero, List.set_cons_succ])
       refine wpAnyH_ready (rs := [2, 4, 8]) (by kernel_rfl) (by simp) ?_
       refine AllReadyH.cons (o := ?oi5) ?hi5 (fun K hK => ?step5) ?more5
       case hi5 => exact gt3 (by rfl)
       case step5 =>
        (go_simp; go_at_call 41; refine Calls.mono (l01Own_any _ l1 _ ho1.reads (by omega)) ?_; intro e w15 hh; obtain ⟨vo, rfl, hB, hoo⟩ := retI_formJ hh; clear hh; obtain ⟨ao, co, rfl, hs⟩ := id hoo.reads; clear hs; have ho2 := hoo.mono (B' := w.heap.size) M.G.size; clear hoo; replace M := M.kept hB; replace ho1 := ho1.kept hB; clear hB; dsimp only)
        refine hK.out _ _ trivial (fun hHeld => ?_)
        clear hK K
        (try simp only [Act.put, List.setIfInBounds_toArray, List.set_cons_zero, List.set_cons_succ])
        refine wpAnyH_ready (rs := [4, 8]) (by kernel_rfl) (by simp) ?_
        refine AllReadyH.cons (o := ?oi6) ?hi6 (fun K hK => ?step6) ?more6
        case hi6 => exact gt3 (by rfl)
        case step6 =>
         (have c41 := M.x4.c1; have c4l := M.x4.lt; have c4f := M.x4.fr1; go_simp)
         refine hK.out _ _ trivial (fun hHeld => ?_)
         clear hK K
         (try simp only [Act.put, List.setIfInBounds_toArray, List.set_cons_zero, List.set_cons_succ])
         refine wpAnyH_ready (rs := [5, 8]) (by kernel_rfl) (by simp) ?_
         refine AllReadyH.cons (o := ?oi7) ?hi7 (fun K hK => ?step7) ?more7
         case hi7 => exact gt3 (by rfl)
         case step7 =>
          (go_simp; go_at_call 41; refine Calls.mono (HINV.out _ ho1) ?_; intro e w17 hh; obtain ⟨vi, rfl, hB, hoi⟩ := retI_formJ hh; clear hh; have hri := hoi.reads; clear hoi ho1; obtain ⟨ai, ci, rfl⟩ := reads_formJ hri; replace M := M.kept hB; replace ho2 := ho2.kept hB; clear hB; dsimp only)
          refine hK.out _ _ trivial (fun hHeld => ?_)
          clear hK K
          (try simp only [Act.put, List.setIfInBounds_toArray, List.set_cons_zero, List.set_cons_succ])
          refine wpAnyH_ready (rs := [6, 8]) (by kernel_rfl) (by simp) ?_
          refine AllReadyH.cons (o := ?oi8) ?hi8 (fun K hK => ?step8) ?more8
          case hi8 => exact gt3 (by rfl)
          case step8 =>
           (refine step_appendW rfl _ _ 24 rfl 2 Tryz.underlying24 infoI w.heap.size _ _ l1 IV rfl rfl ho2 hri (by omega) M.G.size ?_; intro v' w18 hoA hgr hB hnew; clear hnew; rw [← HLA.out] at hoA; obtain ⟨aA, cA, rfl, hs⟩ := id hoA.reads; clear hs hri; replace M := M.grow ho2 hgr; clear hgr hB; clear ho2)
           refine hK.out _ _ trivial (fun hHeld => ?_)
           clear hK K
           (try simp only [Act.put, List.setIfInBounds_toArray, List.set_cons_zero, List.set_cons_succ])
           refine wpAnyH_one (i := 8) (by kernel_rfl) (gt3 rfl) (fun K hK => ?_)
           (go_simp; refine stepB [(1 : Int), 1, -1] 3 rfl rfl ?_; intro w19 hB hb8 hr8; have hg8 : w18.heap.size ≠ g := (by have := M.S.lt; omega); replace M := M.kept hB; replace hoA := hoA.kept hB; clear hB; generalize w18.heap.size = b8 at hr8 hb8 hg8 ⊢)
           refine hK.out _ _ trivial (fun hHeld => ?_)
           clear hK K
           (try simp only [Act.put, List.setIfInBounds_toArray, List.set_cons_zero, List.set_cons_succ])
           refine wpAnyH_one (i := 9) (by kernel_rfl) (gt3 rfl) (fun K hK => ?_)
           (go_simp; go_at_call 31; refine Calls.mono (pick_any w _ g vc m _ [(1 : Int), 1, -1] HC.out hm M.S hr8 (by simp) (by simp) (fun k e => by cases e; exact hg8)) ?_; rintro e w20 ⟨k, hk, rfl, S1, hg⟩; obtain ⟨z, ez⟩ : ∃ z, nth [(1 : Int), 1, -1] k = z := ⟨_, rfl⟩; have hz : -1 ≤ z ∧ z ≤ 1 := (by have hx : ∀ x ∈ ([(1 : Int), 1, -1] : List Int), -1 ≤ x ∧ x ≤ 1 := (by decide); have := hx _ (nth_mem hk); rw [ez] at this; exact this); rw [ez]; clear ez hk k hr8 hg8 hb8; replace hoA := own_next hoA M.S hg; replace M := M.src hb4g hgw hg S1; clear S1 hg; dsimp only)
           refine hK.out _ _ trivial (fun hHeld => ?_)
           clear hK K
           (try simp only [Act.put, List.setIfInBounds_toArray, List.set_cons_zero, List.set_cons_succ])
           refine wpAnyH_one (i := 10) (by kernel_rfl) (gt3 rfl) (fun K hK => ?_)
           (go_simp; refine stepB [z] 1 rfl rfl ?_; intro w21 hB hb10 hr10; clear hb10; replace M := M.kept hB; replace hoA := hoA.kept hB; clear hB)
           refine hK.out _ _ trivial (fun hHeld => ?_)
           clear hK K
           (try simp only [Act.put, List.setIfInBounds_toArray, List.set_cons_zero, List.set_cons_succ])
           refine wpAnyH_one (i := 11) (by kernel_rfl) (gt3 rfl) (fun K hK => ?_)
           (refine step_appendW rfl _ _ 24 rfl 2 Tryz.underlying24 infoI w.heap.size _ _ LA [z] rfl rfl hoA hr10 (by simp; omega) M.G.size ?_; intro v' w22 hoF hgr hB hnew; clear hnew; obtain ⟨aF, cF, rfl, hs⟩ := id hoF.reads; clear hs hr10; replace M := M.grow hoA hgr; clear hgr hB; clear hoA)
           refine hK.out _ _ trivial (fun hHeld => ?_)
           clear hK K
           (try simp only [Act.put, List.setIfInBounds_toArray, List.set_cons_zero, List.set_cons_succ])
           refine wpAnyH_take (i := 12) (oi := ?oi13) (v := ?v13) ?hi13 (by kernel_rfl) (by kernel_rfl) (by kernel_rfl) ?hQ13 (Or.inl ⟨?hw13, ?hy13⟩) hHeld ?rest13
           case hi13 => exact gt3 (by rfl)
           case hQ13 => exact fun _ _ _ h => h
           case hw13 => rfl
           case hy13 => (intro w hSw; (try dsimp only at hSw); first | (go_simp; done) | (go_simp; with_reducible rfl))
           (try simp only [Act.put, List.setIfInBounds_toArray, List.set_cons_zero, List.set_cons_succ])
           refine wpAnyH_one (i := 13) (by kernel_rfl) (gt3 rfl) (fun K hK => ?_)
           (have c41 := M.x4.c1; have c4l := M.x4.lt; have c4f := M.x4.fr1; go_simp; clear c41 c4l c4f)
           refine hK.out _ _ trivial (fun hHeld => ?_)
           clear hK K
           (try simp only [Act.put, List.setIfInBounds_toArray, List.set_cons_zero, List.set_cons_succ])
           refine wpAnyH_done (by kernel_rfl) ?_ _
           have HX9 := Lib.hid (HXA.out.snoc (z := z) (by omega) (by omega))
           obtain ⟨LF, hLF⟩ : ∃ LF, LA ++ [z] = LF := ⟨_, rfl⟩
           have hlF : LF.length = LA.length + 1 := by rw [← hLF]; simp
           rw [hLF] at hoF HX9
           have hl1 : (LA ++ [z]).length = LF.length := by rw [hLF]
           have g3 := grownBy_setCell w22 b4 1 (.slice aF LF.length cF)
           have h4' : boxed (w22.setCell ⟨b4, 1, none⟩ (.slice aF LF.length cF)) b4 26 n1 (.slice aF LF.length cF) := put1_boxed M.x4
           (try rw [hl1] at hoF)
           have hoF' := hoF.apart g3 (fun k h1 h2 => by cases h2; exact own_neD hoF M.x4 (by decide) h1)
           have S' := M.S.apart g3 (by simp; omega) (fun b e => by cases e; omega)
           have h2b' : boxed (w22.setCell ⟨b4, 1, none⟩ (.slice aF LF.length cF)) w.heap.size 26 0 (.slice none 0 0) := grown_of M.h2b g3 (by simp; omega)
           clear M hoF g3 hLF
           (try rw [hlF] at hl1)
           (try simp only [hl1])
           (try rw [← hlF])
           go_wp2
           go_meet
           case rel => exact ⟨aF, cF, LF, h4', hoF', HX9, Lib.hid (by omega), S', h2b'⟩
          refine AllReadyH.cons (o := ?oi15) ?hi15 (fun K hK => ?step15) ?more15
          case hi15 => exact gt3 (by rfl)
          case step15 =>
           (go_simp; refine stepB [(1 : Int), 1, -1] 3 rfl rfl ?_; intro w25 hB hb8 hr8; have hg8 : w17.heap.size ≠ g := (by have := M.S.lt; omega); have hne8 : ∀ k, (Value.slice ao l1.length co).ownBlock = some k → some k ≠ some w17.heap.size := (fun k e e2 => by have := (ho2.lt k e).2; cases e2; omega); replace M := M.kept hB; replace ho2 := ho2.kept hB; replace hri := hri.kept hB; clear hB; generalize w17.heap.size = b8 at hr8 hb8 hg8 hne8 ⊢)
           refine hK.out _ _ trivial (fun hHeld => ?_)
           clear hK K
           (try simp only [Act.put, List.setIfInBounds_toArray, List.set_cons_zero, List.set_cons_succ])
           refine wpAnyH_one (i := 6) (by kernel_rfl) (gt3 rfl) (fun K hK => ?_)
           (refine step_appendW rfl _ _ 24 rfl 2 Tryz.underlying24 infoI w.heap.size _ _ l1 IV rfl rfl ho2 hri (by omega) M.G.size ?_; intro v' w26 hoA hgr hB hnew; clear hnew; rw [← HLA.out] at hoA; obtain ⟨aA, cA, rfl, hs⟩ := id hoA.reads; clear hs hri; replace hr8 := reads.apart hr8 hgr (fun _ k e h9 => by cases e; exact hne8 _ h9 rfl); replace M := M.grow ho2 hgr; clear hgr hB; clear ho2; clear hne8)
           refine hK.out _ _ trivial (fun hHeld => ?_)
           clear hK K
           (try simp only [Act.put, List.setIfInBounds_toArray, List.set_cons_zero, List.set_cons_succ])
           refine wpAnyH_one (i := 9) (by kernel_rfl) (gt3 rfl) (fun K hK => ?_)
           (go_simp; go_at_call 31; refine Calls.mono (pick_any w _ g vc m _ [(1 : Int), 1, -1] HC.out hm M.S hr8 (by simp) (by simp) (fun k e => by cases e; exact hg8)) ?_; rintro e w27 ⟨k, hk, rfl, S1, hg⟩; obtain ⟨z, ez⟩ : ∃ z, nth [(1 : Int), 1, -1] k = z := ⟨_, rfl⟩; have hz : -1 ≤ z ∧ z ≤ 1 := (by have hx : ∀ x ∈ ([(1 : Int), 1, -1] : List Int), -1 ≤ x ∧ x ≤ 1 := (by decide); have := hx _ (nth_mem hk); rw [ez] at this; exact this); rw [ez]; clear ez hk k hr8 hg8 hb8; replace hoA := own_next hoA M.S hg; replace M := M.src hb4g hgw hg S1; clear S1 hg; dsimp only)
           refine hK.out _ _ trivial (fun hHeld => ?_)
           clear hK K
           (try simp only [Act.put, List.setIfInBounds_toArray, List.set_cons_zero, List.set_cons_succ])
           refine wpAnyH_one (i := 10) (by kernel_rfl) (gt3 rfl) (fun K hK => ?_)
           (go_simp; refine stepB [z] 1 rfl rfl ?_; intro w28 hB hb10 hr10; clear hb10; replace M := M.kept hB; replace hoA := hoA.kept hB; clear hB)
           refine hK.out _ _ trivial (fun hHeld => ?_)
           clear hK K
           (try simp only [Act.put, List.setIfInBounds_toArray, List.set_cons_zero, List.set_cons_succ])
           refine wpAnyH_one (i := 11) (by kernel_rfl) (gt3 rfl) (fun K hK => ?_)
           (refine step_appendW rfl _ _ 24 rfl 2 Tryz.underlying24 infoI w.heap.size _ _ LA [z] rfl rfl hoA hr10 (by simp; omega) M.G.size ?_; intro v' w29 hoF hgr hB hnew; clear hnew; obtain ⟨aF, cF, rfl, hs⟩ := id hoF.reads; clear hs hr10; replace M := M.grow hoA hgr; clear hgr hB; clear hoA)
           refine hK.out _ _ trivial (fun hHeld => ?_)
           clear hK K
           (try simp only [Act.put, List.setIfInBounds_toArray, List.set_cons_zero, List.set_cons_succ])
           refine wpAnyH_take (i := 12) (oi := ?oi20) (v := ?v20) ?hi20 (by kernel_rfl) (by kernel_rfl) (by kernel_rfl) ?hQ20 (Or.inl ⟨?hw20, ?hy20⟩) hHeld ?rest20
           case hi20 => exact gt3 (by rfl)
           case hQ20 => exact fun _ _ _ h => h
           case hw20 => rfl
           case hy20 => (intro w hSw; (try dsimp only at hSw); first | (go_simp; done) | (go_simp; with_reducible rfl))
           (try simp only [Act.put, List.setIfInBounds_toArray, List.set_cons_zero, List.set_cons_succ])
           refine wpAnyH_one (i := 13) (by kernel_rfl) (gt3 rfl) (fun K hK => ?_)
           (have c41 := M.x4.c1; have c4l := M.x4.lt; have c4f := M.x4.fr1; go_simp; clear c41 c4l c4f)
           refine hK.out _ _ trivial (fun hHeld => ?_)
           clear hK K
           (try simp only [Act.put, List.setIfInBounds_toArray, List.set_cons_zero, List.set_cons_succ])
           refine wpAnyH_done (by kernel_rfl) ?_ _
           have HX9 := Lib.hid (HXA.out.snoc (z := z) (by omega) (by omega))
           obtain ⟨LF, hLF⟩ : ∃ LF, LA ++ [z] = LF := ⟨_, rfl⟩
           have hlF : LF.length = LA.length + 1 := by rw [← hLF]; simp
           rw [hLF] at hoF HX9
           have hl1 : (LA ++ [z]).length = LF.length := by rw [hLF]
           have g3 := grownBy_setCell w29 b4 1 (.slice aF LF.length cF)
           have h4' : boxed (w29.setCell ⟨b4, 1, none⟩ (.slice aF LF.length cF)) b4 26 n1 (.slice aF LF.length cF) := put1_boxed M.x4
           (try rw [hl1] at hoF)
           have hoF' := hoF.apart g3 (fun k h1 h2 => by cases h2; exact own_neD hoF M.x4 (by decide) h1)
           have S' := M.S.apart g3 (by simp; omega) (fun b e => by cases e; omega)
           have h2b' : boxed (w29.setCell ⟨b4, 1, none⟩ (.slice aF LF.length cF)) w.heap.size 26 0 (.slice none 0 0) := grown_of M.h2b g3 (by simp; omega)
           clear M hoF g3 hLF
           (try rw [hlF] at hl1)
           (try simp only [hl1])
           (try rw [← hlF])
           go_wp2
           go_meet
           case rel => exact ⟨aF, cF, LF, h4', hoF', HX9, Lib.hid (by omega), S', h2b'⟩
          exact AllReadyH.nil
         refine AllReadyH.cons (o := ?oi22) ?hi22 (fun K hK => ?step22) ?more22
         case hi22 => exact gt3 (by rfl)
         case step22 =>
          (go_simp; refine stepB [(1 : Int), 1, -1] 3 rfl rfl ?_; intro w32 hB hb8 hr8; have hg8 : w15.heap.size ≠ g := (by have := M.S.lt; omega); have hne8 : ∀ k, (Value.slice ao l1.length co).ownBlock = some k → some k ≠ some w15.heap.size := (fun k e e2 => by have := (ho2.lt k e).2; cases e2; omega); replace M := M.kept hB; replace ho1 := ho1.kept hB; replace ho2 := ho2.kept hB; clear hB; generalize w15.heap.size = b8 at hr8 hb8 hg8 hne8 ⊢)
          refine hK.out _ _ trivial (fun hHeld => ?_)
          clear hK K
          (try simp only [Act.put, List.setIfInBounds_toArray, List.set_cons_zero, List.set_cons_succ])
          refine wpAnyH_one (i := 5) (by kernel_rfl) (gt3 rfl) (fun K hK => ?_)
          (go_simp; go_at_call 41; refine Calls.mono (HINV.out _ ho1) ?_; intro e w33 hh; obtain ⟨vi, rfl, hB, hoi⟩ := retI_formJ hh; clear hh; have hri := hoi.reads; clear hoi ho1; obtain ⟨ai, ci, rfl⟩ := reads_formJ hri; replace M := M.kept hB; replace ho2 := ho2.kept hB; replace hr8 := hr8.kept hB; clear hB; dsimp only)
          refine hK.out _ _ trivial (fun hHeld => ?_)
          clear hK K
          (try simp only [Act.put, List.setIfInBounds_toArray, List.set_cons_zero, List.set_cons_succ])
          refine wpAnyH_one (i := 6) (by kernel_rfl) (gt3 rfl) (fun K hK => ?_)
          (refine step_appendW rfl _ _ 24 rfl 2 Tryz.underlying24 infoI w.heap.size _ _ l1 IV rfl rfl ho2 hri (by omega) M.G.size ?_; intro v' w34 hoA hgr hB hnew; clear hnew; rw [← HLA.out] at hoA; obtain ⟨aA, cA, rfl, hs⟩ := id hoA.reads; clear hs hri; replace hr8 := reads.apart hr8 hgr (fun _ k e h9 => by cases e; exact hne8 _ h9 rfl); replace M := M.grow ho2 hgr; clear hgr hB; clear ho2; clear hne8)
          refine hK.out _ _ trivial (fun hHeld => ?_)
          clear hK K
          (try simp only [Act.put, List.setIfInBounds_toArray, List.set_cons_zero, List.set_cons_succ])
          refine wpAnyH_one (i := 9) (by kernel_rfl) (gt3 rfl) (fun K hK => ?_)
          (go_simp; go_at_call 31; refine Calls.mono (pick_any w _ g vc m _ [(1 : Int), 1, -1] HC.out hm M.S hr8 (by simp) (by simp) (fun k e => by cases e; exact hg8)) ?_; rintro e w35 ⟨k, hk, rfl, S1, hg⟩; obtain ⟨z, ez⟩ : ∃ z, nth [(1 : Int), 1, -1] k = z := ⟨_, rfl⟩; have hz : -1 ≤ z ∧ z ≤ 1 := (by have hx : ∀ x ∈ ([(1 : Int), 1, -1] : List Int), -1 ≤ x ∧ x ≤ 1 := (by decide); have := hx _ (nth_mem hk); rw [ez] at this; exact this); rw [ez]; clear ez hk k hr8 hg8 hb8; replace hoA := own_next hoA M.S hg; replace M := M.src hb4g hgw hg S1; clear S1 hg; dsimp only)
          refine hK.out _ _ trivial (fun hHeld => ?_)
          clear hK K
          (try simp only [Act.put, List.setIfInBounds_toArray, List.set_cons_zero, List.set_cons_succ])
          refine wpAnyH_one (i := 10) (by kernel_rfl) (gt3 rfl) (fun K hK => ?_)
          (go_simp; refine stepB [z] 1 rfl rfl ?_; intro w36 hB hb10 hr10; clear hb10; replace M := M.kept hB; replace hoA := hoA.kept hB; clear hB)
          refine hK.out _ _ trivial (fun hHeld => ?_)
          clear hK K
          (try simp only [Act.put, List.setIfInBounds_toArray, List.set_cons_zero, List.set_cons_succ])
          refine wpAnyH_one (i := 11) (by kernel_rfl) (gt3 rfl) (fun K hK => ?_)
          (refine step_appendW rfl _ _ 24 rfl 2 Tryz.underlying24 infoI w.heap.size _ _ LA [z] rfl rfl hoA hr10 (by simp; omega) M.G.size ?_; intro v' w37 hoF hgr hB hnew; clear hnew; obtain ⟨aF, cF, rfl, hs⟩ := id hoF.reads; clear hs hr10; replace M := M.grow hoA hgr; clear hgr hB; clear hoA)
          refine hK.out _ _ trivial (fun hHeld => ?_)
          clear hK K
          (try simp only [Act.put, List.setIfInBounds_toArray, List.set_cons_zero, List.set_cons_succ])
          refine wpAnyH_take (i := 12) (oi := ?oi28) (v := ?v28) ?hi28 (by kernel_rfl) (by kernel_rfl) (by kernel_rfl) ?hQ28 (Or.inl ⟨?hw28, ?hy28⟩) hHeld ?rest28
          case hi28 => exact gt3 (by rfl)
          case hQ28 => exact fun _ _ _ h => h
          case hw28 => rfl
          case hy28 => (intro w hSw; (try dsimp only at hSw); first | (go_simp; done) | (go_simp; with_reducible rfl))
          (try simp only [Act.put, List.setIfInBounds_toArray, List.set_cons_zero, List.set_cons_succ])
          refine wpAnyH_one (i := 13) (by kernel_rfl) (gt3 rfl) (fun K hK => ?_)
          (have c41 := M.x4.c1; have c4l := M.x4.lt; have c4f := M.x4.fr1; go_simp; clear c41 c4l c4f)
          refine hK.out _ _ trivial (fun hHeld => ?_)
          clear hK K
          (try simp only [Act.put, List.setIfInBounds_toArray, List.set_cons_zero, List.set_cons_succ])
          refine wpAnyH_done (by kernel_rfl) ?_ _
          have HX9 := Lib.hid (HXA.out.snoc (z := z) (by omega) (by omega))
          obtain ⟨LF, hLF⟩ : ∃ LF, LA ++ [z] = LF := ⟨_, rfl⟩
          have hlF : LF.length = LA.length + 1 := by rw [← hLF]; simp
          rw [hLF] at hoF HX9
          have hl1 : (LA ++ [z]).length = LF.length := by rw [hLF]
          have g3 := grownBy_setCell w37 b4 1 (.slice aF LF.length cF)
          have h4' : boxed (w37.setCell ⟨b4, 1, none⟩ (.slice aF LF.length cF)) b4 26 n1 (.slice aF LF.length cF) := put1_boxed M.x4
          (try rw [hl1] at hoF)
          have hoF' := hoF.apart g3 (fun k h1 h2 => by cases h2; exact own_neD hoF M.x4 (by decide) h1)
          have S' := M.S.apart g3 (by simp; omega) (fun b e => by cases e; omega)
          have h2b' : boxed (w37.setCell ⟨b4, 1, none⟩ (.slice aF LF.length cF)) w.heap.size 26 0 (.slice none 0 0) := grown_of M.h2b g3 (by simp; omega)
          clear M hoF g3 hLF
          (try rw [hlF] at hl1)
          (try simp only [hl1])
          (try rw [← hlF])
          go_wp2
          go_meet
          case rel => exact ⟨aF, cF, LF, h4', hoF', HX9, Lib.hid (by omega), S', h2b'⟩
         exact AllReadyH.nil
        refine AllReadyH.cons (o := ?oi30) ?hi30 (fun K hK => ?step30) ?more30
        case hi30 => exact gt3 (by rfl)
        case step30 =>
         (go_simp; refine stepB [(1 : Int), 1, -1] 3 rfl rfl ?_; intro w40 hB hb8 hr8; have hg8 : w15.heap.size ≠ g := (by have := M.S.lt; omega); have hne8 : ∀ k, (Value.slice ao l1.length co).ownBlock = some k → some k ≠ some w15.heap.size := (fun k e e2 => by have := (ho2.lt k e).2; cases e2; omega); replace M := M.kept hB; replace ho1 := ho1.kept hB; replace ho2 := ho2.kept hB; clear hB; generalize w15.heap.size = b8 at hr8 hb8 hg8 hne8 ⊢)
         refine hK.out _ _ trivial (fun hHeld => ?_)
         clear hK K
         (try simp only [Act.put, List.setIfInBounds_toArray, List.set_cons_zero, List.set_cons_succ])
         refine wpAnyH_one (i := 4) (by kernel_rfl) (gt3 rfl) (fun K hK => ?_)
         (have c41 := M.x4.c1; have c4l := M.x4.lt; have c4f := M.x4.fr1; go_simp)
         refine hK.out _ _ trivial (fun hHeld => ?_)
         clear hK K
         (try simp only [Act.put, List.setIfInBounds_toArray, List.set_cons_zero, List.set_cons_succ])
         refine wpAnyH_one (i := 5) (by kernel_rfl) (gt3 rfl) (fun K hK => ?_)
         (go_simp; go_at_call 41; refine Calls.mono (HINV.out _ ho1) ?_; intro e w42 hh; obtain ⟨vi, rfl, hB, hoi⟩ := retI_formJ hh; clear hh; have hri := hoi.reads; clear hoi ho1; obtain ⟨ai, ci, rfl⟩ := reads_formJ hri; replace M := M.kept hB; replace ho2 := ho2.kept hB; replace hr8 := hr8.kept hB; clear hB; dsimp only)
         refine hK.out _ _ trivial (fun hHeld => ?_)
         clear hK K
         (try simp only [Act.put, List.setIfInBounds_toArray, List.set_cons_zero, List.set_cons_succ])
         refine wpAnyH_one (i := 6) (by kernel_rfl) (gt3 rfl) (fun K hK => ?_)
         (refine step_appendW rfl _ _ 24 rfl 2 Tryz.underlying24 infoI w.heap.size _ _ l1 IV rfl rfl ho2 hri (by omega) M.G.size ?_; intro v' w43 hoA hgr hB hnew; clear hnew; rw [← HLA.out] at hoA; obtain ⟨aA, cA, rfl, hs⟩ := id hoA.reads; clear hs hri; replace hr8 := reads.apart hr8 hgr (fun _ k e h9 => by cases e; exact hne8 _ h9 rfl); replace M := M.grow ho2 hgr; clear hgr hB; clear ho2; clear hne8)
         refine hK.out _ _ trivial (fun hHeld => ?_)
         clear hK K
         (try simp only [Act.put, List.setIfInBounds_toArray, List.set_cons_zero, List.set_cons_succ])
         refine wpAnyH_one (i := 9) (by kernel_rfl) (gt3 rfl) (fun K hK => ?_)
         (go_simp; go_at_call 31; refine Calls.mono (pick_any w _ g vc m _ [(1 : Int), 1, -1] HC.out hm M.S hr8 (by simp) (by simp) (fun k e => by cases e; exact hg8)) ?_; rintro e w44 ⟨k, hk, rfl, S1, hg⟩; obtain ⟨z, ez⟩ : ∃ z, nth [(1 : Int), 1, -1] k = z := ⟨_, rfl⟩; have hz : -1 ≤ z ∧ z ≤ 1 := (by have hx : ∀ x ∈ ([(1 : Int), 1, -1] : List Int), -1 ≤ x ∧ x ≤ 1 := (by decide); have := hx _ (nth_mem hk); rw [ez] at this; exact this); rw [ez]; clear ez hk k hr8 hg8 hb8; replace hoA := own_next hoA M.S hg; replace M := M.src hb4g hgw hg S1; clear S1 hg; dsimp only)
         refine hK.out _ _ trivial (fun hHeld => ?_)
         clear hK K
         (try simp only [Act.put, List.setIfInBounds_toArray, List.set_cons_zero, List.set_cons_succ])
         refine wpAnyH_one (i := 10) (by kernel_rfl) (gt3 rfl) (fun K hK => ?_)
         (go_simp; refine stepB [z] 1 rfl rfl ?_; intro w45 hB hb10 hr10; clear hb10; replace M := M.kept hB; replace hoA := hoA.kept hB; clear hB)
         refine hK.out _ _ trivial (fun hHeld => ?_)
         clear hK K
         (try simp only [Act.put, List.setIfInBounds_toArray, List.set_cons_zero, List.set_cons_succ])
         refine wpAnyH_one (i := 11) (by kernel_rfl) (gt3 rfl) (fun K hK => ?_)
         (refine step_appendW rfl _ _ 24 rfl 2 Tryz.underlying24 infoI w.heap.size _ _ LA [z] rfl rfl hoA hr10 (by simp; omega) M.G.size ?_; intro v' w46 hoF hgr hB hnew; clear hnew; obtain ⟨aF, cF, rfl, hs⟩ := id hoF.reads; clear hs hr10; replace M := M.grow hoA hgr; clear hgr hB; clear hoA)
         refine hK.out _ _ trivial (fun hHeld => ?_)
         clear hK K
         (try simp only [Act.put, List.setIfInBounds_toArray, List.set_cons_zero, List.set_cons_succ])
         refine wpAnyH_take (i := 12) (oi := ?oi37) (v := ?v37) ?hi37 (by kernel_rfl) (by kernel_rfl) (by kernel_rfl) ?hQ37 (Or.inl ⟨?hw37, ?hy37⟩) hHeld ?rest37
         case hi37 => exact gt3 (by rfl)
         case hQ37 => exact fun _ _ _ h => h
         case hw37 => rfl
         case hy37 => (intro w hSw; (try dsimp only at hSw); first | (go_simp; done) | (go_simp; with_reducible rfl))
         (try simp only [Act.put, List.setIfInBounds_toArray, List.set_cons_zero, List.set_cons_succ])
         refine wpAnyH_one (i := 13) (by kernel_rfl) (gt3 rfl) (fun K hK => ?_)
         (have c41 := M.x4.c1; have c4l := M.x4.lt; have c4f := M.x4.fr1; go_simp; clear c41 c4l c4f)
         refine hK.out _ _ trivial (fun hHeld => ?_)
         clear hK K
         (try simp only [Act.put, List.setIfInBounds_toArray, List.set_cons_zero, List.set_cons_succ])
         refine wpAnyH_done (by kernel_rfl) ?_ _
         have HX9 := Lib.hid (HXA.out.snoc (z := z) (by omega) (by omega))
         obtain ⟨LF, hLF⟩ : ∃ LF, LA ++ [z] = LF := ⟨_, rfl⟩
         have hlF : LF.length = LA.length + 1 := by rw [← hLF]; simp
         rw [hLF] at hoF HX9
         have hl1 : (LA ++ [z]).length = LF.length := by rw [hLF]
         have g3 := grownBy_setCell w46 b4 1 (.slice aF LF.length cF)
         have h4' : boxed (w46.setCell ⟨b4, 1, none⟩ (.slice aF LF.length cF)) b4 26 n1 (.slice aF LF.length cF) := put1_boxed M.x4
         (try rw [hl1] at hoF)
         have hoF' := hoF.apart g3 (fun k h1 h2 => by cases h2; exact own_neD hoF M.x4 (by decide) h1)
         have S' := M.S.apart g3 (by simp; omega) (fun b e => by cases e; omega)
         have h2b' : boxed (w46.setCell ⟨b4, 1, none⟩ (.slice aF LF.length cF)) w.heap.size 26 0 (.slice none 0 0) := grown_of M.h2b g3 (by simp; omega)
         clear M hoF g3 hLF
         (try rw [hlF] at hl1)
         (try simp only [hl1])
         (try rw [← hlF])
         go_wp2
         go_meet
         case rel => exact ⟨aF, cF, LF, h4', hoF', HX9, Lib.hid (by omega), S', h2b'⟩
        exact AllReadyH.nil
       refine AllReadyH.cons (o := ?oi39) ?hi39 (fun K hK => ?step39) ?more39
       case hi39 => exact gt3 (by rfl)
       case step39 =>
        (have c41 := M.x4.c1; have c4l := M.x4.lt; have c4f := M.x4.fr1; go_simp)
        refine hK.out _ _ trivial (fun hHeld => ?_)
        clear hK K
        (try simp only [Act.put, List.setIfInBounds_toArray, List.set_cons_zero, List.set_cons_succ])
        refine wpAnyH_ready (rs := [2, 8]) (by kernel_rfl) (by simp) ?_
        refine AllReadyH.cons (o := ?oi40) ?hi40 (fun K hK => ?step40) ?more40
        case hi40 => exact gt3 (by rfl)
        case step40 =>
         (go_simp; go_at_call 41; refine Calls.mono (l01Own_any _ l1 _ ho1.reads (by omega)) ?_; intro e w50 hh; obtain ⟨vo, rfl, hB, hoo⟩ := retI_formJ hh; clear hh; obtain ⟨ao, co, rfl, hs⟩ := id hoo.reads; clear hs; have ho2 := hoo.mono (B' := w.heap.size) M.G.size; clear hoo; replace M := M.kept hB; replace ho1 := ho1.kept hB; clear hB; dsimp only)
         refine hK.out _ _ trivial (fun hHeld => ?_)
         clear hK K
         (try simp only [Act.put, List.setIfInBounds_toArray, List.set_cons_zero, List.set_cons_succ])
         refine wpAnyH_ready (rs := [5, 8]) (by kernel_rfl) (by simp) ?_
         refine AllReadyH.cons (o := ?oi41) ?hi41 (fun K hK => ?step41) ?more41
         case hi41 => exact gt3 (by rfl)
         case step41 =>
          (go_simp; go_at_call 41; refine Calls.mono (HINV.out _ ho1) ?_; intro e w51 hh; obtain ⟨vi, rfl, hB, hoi⟩ := retI_formJ hh; clear hh; have hri := hoi.reads; clear hoi ho1; obtain ⟨ai, ci, rfl⟩ := reads_formJ hri; replace M := M.kept hB; replace ho2 := ho2.kept hB; clear hB; dsimp only)
          refine hK.out _ _ trivial (fun hHeld => ?_)
          clear hK K
          (try simp only [Act.put, List.setIfInBounds_toArray, List.set_cons_zero, List.set_cons_succ])
          refine wpAnyH_ready (rs := [6, 8]) (by kernel_rfl) (by simp) ?_
          refine AllReadyH.cons (o := ?oi42) ?hi42 (fun K hK => ?step42) ?more42
          case hi42 => exact gt3 (by rfl)
          case step42 =>
           (refine step_appendW rfl _ _ 24 rfl 2 Tryz.underlying24 infoI w.heap.size _ _ l1 IV rfl rfl ho2 hri (by omega) M.G.size ?_; intro v' w52 hoA hgr hB hnew; clear hnew; rw [← HLA.out] at hoA; obtain ⟨aA, cA, rfl, hs⟩ := id hoA.reads; clear hs hri; replace M := M.grow ho2 hgr; clear hgr hB; clear ho2)
           refine hK.out _ _ trivial (fun hHeld => ?_)
           clear hK K
           (try simp only [Act.put, List.setIfInBounds_toArray, List.set_cons_zero, List.set_cons_succ])
           refine wpAnyH_one (i := 8) (by kernel_rfl) (gt3 rfl) (fun K hK => ?_)
           (go_simp; refine stepB [(1 : Int), 1, -1] 3 rfl rfl ?_; intro w53 hB hb8 hr8; have hg8 : w52.heap.size ≠ g := (by have := M.S.lt; omega); replace M := M.kept hB; replace hoA := hoA.kept hB; clear hB; generalize w52.heap.size = b8 at hr8 hb8 hg8 ⊢)
           refine hK.out _ _ trivial (fun hHeld => ?_)
           clear hK K
           (try simp only [Act.put, List.setIfInBounds_toArray, List.set_cons_zero, List.set_cons_succ])
           refine wpAnyH_one (i := 9) (by kernel_rfl) (gt3 rfl) (fun K hK => ?_)
           (go_simp; go_at_call 31; refine Calls.mono (pick_any w _ g vc m _ [(1 : Int), 1, -1] HC.out hm M.S hr8 (by simp) (by simp) (fun k e => by cases e; exact hg8)) ?_; rintro e w54 ⟨k, hk, rfl, S1, hg⟩; obtain ⟨z, ez⟩ : ∃ z, nth [(1 : Int), 1, -1] k = z := ⟨_, rfl⟩; have hz : -1 ≤ z ∧ z ≤ 1 := (by have hx : ∀ x ∈ ([(1 : Int), 1, -1] : List Int), -1 ≤ x ∧ x ≤ 1 := (by decide); have := hx _ (nth_mem hk); rw [ez] at this; exact this); rw [ez]; clear ez hk k hr8 hg8 hb8; replace hoA := own_next hoA M.S hg; replace M := M.src hb4g hgw hg S1; clear S1 hg; dsimp only)
           refine hK.out _ _ trivial (fun hHeld => ?_)
           clear hK K
           (try simp only [Act.put, List.setIfInBounds_toArray, List.set_cons_zero, List.set_cons_succ])
           refine wpAnyH_one (i := 10) (by kernel_rfl) (gt3 rfl) (fun K hK => ?_)
           (go_simp; refine stepB [z] 1 rfl rfl ?_; intro w55 hB hb10 hr10; clear hb10; replace M := M.kept hB; replace hoA := hoA.kept hB; clear hB)
           refine hK.out _ _ trivial (fun hHeld => ?_)
           clear hK K
           (try simp only [Act.put, List.setIfInBounds_toArray, List.set_cons_zero, List.set_cons_succ])
           refine wpAnyH_one (i := 11) (by kernel_rfl) (gt3 rfl) (fun K hK => ?_)
           (refine step_appendW rfl _ _ 24 rfl 2 Tryz.underlying24 infoI w.heap.size _ _ LA [z] rfl rfl hoA hr10 (by simp; omega) M.G.size ?_; intro v' w56 hoF hgr hB hnew; clear hnew; obtain ⟨aF, cF, rfl, hs⟩ := id hoF.reads; clear hs hr10; replace M := M.grow hoA hgr; clear hgr hB; clear hoA)
           refine hK.out _ _ trivial (fun hHeld => ?_)
           clear hK K
           (try simp only [Act.put, List.setIfInBounds_toArray, List.set_cons_zero, List.set_cons_succ])
           refine wpAnyH_take (i := 12) (oi := ?oi47) (v := ?v47) ?hi47 (by kernel_rfl) (by kernel_rfl) (by kernel_rfl) ?hQ47 (Or.inl ⟨?hw47, ?hy47⟩) hHeld ?rest47
           case hi47 => exact gt3 (by rfl)
           case hQ47 => exact fun _ _ _ h => h
           case hw47 => rfl
           case hy47 => (intro w hSw; (try dsimp only at hSw); first | (go_simp; done) | (go_simp; with_reducible rfl))
           (try simp only [Act.put, List.setIfInBounds_toArray, List.set_cons_zero, List.set_cons_succ])
           refine wpAnyH_one (i := 13) (by kernel_rfl) (gt3 rfl) (fun K hK => ?_)
           (have c41 := M.x4.c1; have c4l := M.x4.lt; have c4f := M.x4.fr1; go_simp; clear c41 c4l c4f)
           refine hK.out _ _ trivial (fun hHeld => ?_)
           clear hK K
           (try simp only [Act.put, List.setIfInBounds_toArray, List.set_cons_zero, List.set_cons_succ])
           refine wpAnyH_done (by kernel_rfl) ?_ _
           have HX9 := Lib.hid (HXA.out.snoc (z := z) (by omega) (by omega))
           obtain ⟨LF, hLF⟩ : ∃ LF, LA ++ [z] = LF := ⟨_, rfl⟩
           have hlF : LF.length = LA.length + 1 := by rw [← hLF]; simp
           rw [hLF] at hoF HX9
           have hl1 : (LA ++ [z]).length = LF.length := by rw [hLF]
           have g3 := grownBy_setCell w56 b4 1 (.slice aF LF.length cF)
           have h4' : boxed (w56.setCell ⟨b4, 1, none⟩ (.slice aF LF.length cF)) b4 26 n1 (.slice aF LF.length cF) := put1_boxed M.x4
           (try rw [hl1] at hoF)
           have hoF' := hoF.apart g3 (fun k h1 h2 => by cases h2; exact own_neD hoF M.x4 (by decide) h1)
           have S' := M.S.apart g3 (by simp; omega) (fun b e => by cases e; omega)
           have h2b' : boxed (w56.setCell ⟨b4, 1, none⟩ (.slice aF LF.length cF)) w.heap.size 26 0 (.slice none 0 0) := grown_of M.h2b g3 (by simp; omega)
           clear M hoF g3 hLF
           (try rw [hlF] at hl1)
           (try simp only [hl1])
           (try rw [← hlF])
           go_wp2
           go_meet
           case rel => exact ⟨aF, cF, LF, h4', hoF', HX9, Lib.hid (by omega), S', h2b'⟩
          refine AllReadyH.cons (o := ?oi49) ?hi49 (fun K hK => ?step49) ?more49
          case hi49 => exact gt3 (by rfl)
          case step49 =>
           (go_simp; refine stepB [(1 : Int), 1, -1] 3 rfl rfl ?_; intro w59 hB hb8 hr8; have hg8 : w51.heap.size ≠ g := (by have := M.S.lt; omega); have hne8 : ∀ k, (Value.slice ao l1.length co).ownBlock = some k → some k ≠ some w51.heap.size := (fun k e e2 => by have := (ho2.lt k e).2; cases e2; omega); replace M := M.kept hB; replace ho2 := ho2.kept hB; replace hri := hri.kept hB; clear hB; generalize w51.heap.size = b8 at hr8 hb8 hg8 hne8 ⊢)
           refine hK.out _ _ trivial (fun hHeld => ?_)
           clear hK K
           (try simp only [Act.put, List.setIfInBounds_toArray, List.set_cons_zero, List.set_cons_succ])
           refine wpAnyH_one (i := 6) (by kernel_rfl) (gt3 rfl) (fun K hK => ?_)
           (refine step_appendW rfl _ _ 24 rfl 2 Tryz.underlying24 infoI w.heap.size _ _ l1 IV rfl rfl ho2 hri (by omega) M.G.size ?_; intro v' w60 hoA hgr hB hnew; clear hnew; rw [← HLA.out] at hoA; obtain ⟨aA, cA, rfl, hs⟩ := id hoA.reads; clear hs hri; replace hr8 := reads.apart hr8 hgr (fun _ k e h9 => by cases e; exact hne8 _ h9 rfl); replace M := M.grow ho2 hgr; clear hgr hB; clear ho2; clear hne8)
           refine hK.out _ _ trivial (fun hHeld => ?_)
           clear hK K
           (try simp only [Act.put, List.setIfInBounds_toArray, List.set_cons_zero, List.set_cons_succ])
           refine wpAnyH_one (i := 9) (by kernel_rfl) (gt3 rfl) (fun K hK => ?_)
           (go_simp; go_at_call 31; refine Calls.mono (pick_any w _ g vc m _ [(1 : Int), 1, -1] HC.out hm M.S hr8 (by simp) (by simp) (fun k e => by cases e; exact hg8)) ?_; rintro e w61 ⟨k, hk, rfl, S1, hg⟩; obtain ⟨z, ez⟩ : ∃ z, nth [(1 : Int), 1, -1] k = z := ⟨_, rfl⟩; have hz : -1 ≤ z ∧ z ≤ 1 := (by have hx : ∀ x ∈ ([(1 : Int), 1, -1] : List Int), -1 ≤ x ∧ x ≤ 1 := (by decide); have := hx _ (nth_mem hk); rw [ez] at this; exact this); rw [ez]; clear ez hk k hr8 hg8 hb8; replace hoA := own_next hoA M.S hg; replace M := M.src hb4g hgw hg S1; clear S1 hg; dsimp only)
           refine hK.out _ _ trivial (fun hHeld => ?_)
           clear hK K
           (try simp only [Act.put, List.setIfInBounds_toArray, List.set_cons_zero, List.set_cons_succ])
           refine wpAnyH_one (i := 10) (by kernel_rfl) (gt3 rfl) (fun K hK => ?_)
           (go_simp; refine stepB [z] 1 rfl rfl ?_; intro w62 hB hb10 hr10; clear hb10; replace M := M.kept hB; replace hoA := hoA.kept hB; clear hB)
           refine hK.out _ _ trivial (fun hHeld => ?_)
           clear hK K
           (try simp only [Act.put, List.setIfInBounds_toArray, List.set_cons_zero, List.set_cons_succ])
           refine wpAnyH_one (i := 11) (by kernel_rfl) (gt3 rfl) (fun K hK => ?_)
           (refine step_appendW rfl _ _ 24 rfl 2 Tryz.underlying24 infoI w.heap.size _ _ LA [z] rfl rfl hoA hr10 (by simp; omega) M.G.size ?_; intro v' w63 hoF hgr hB hnew; clear hnew; obtain ⟨aF, cF, rfl, hs⟩ := id hoF.reads; clear hs hr10; replace M := M.grow hoA hgr; clear hgr hB; clear hoA)
           refine hK.out _ _ trivial (fun hHeld => ?_)
           clear hK K
           (try simp only [Act.put, List.setIfInBounds_toArray, List.set_cons_zero, List.set_cons_succ])
           refine wpAnyH_take (i := 12) (oi := ?oi54) (v := ?v54) ?hi54 (by kernel_rfl) (by kernel_rfl) (by kernel_rfl) ?hQ54 (Or.inl ⟨?hw54, ?hy54⟩) hHeld ?rest54
           case hi54 => exact gt3 (by rfl)
           case hQ54 => exact fun _ _ _ h => h
           case hw54 => rfl
           case hy54 => (intro w hSw; (try dsimp only at hSw); first | (go_simp; done) | (go_simp; with_reducible rfl))
           (try simp only [Act.put, List.setIfInBounds_toArray, List.set_cons_zero, List.set_cons_succ])
           refine wpAnyH_one (i := 13) (by kernel_rfl) (gt3 rfl) (fun K hK => ?_)
           (have c41 := M.x4.c1; have c4l := M.x4.lt; have c4f := M.x4.fr1; go_simp; clear c41 c4l c4f)
           refine hK.out _ _ trivial (fun hHeld => ?_)
           clear hK K
           (try simp only [Act.put, List.setIfInBounds_toArray, List.set_cons_zero, List.set_cons_succ])
           refine wpAnyH_done (by kernel_rfl) ?_ _
           have HX9 := Lib.hid (HXA.out.snoc (z := z) (by omega) (by omega))
           obtain ⟨LF, hLF⟩ : ∃ LF, LA ++ [z] = LF := ⟨_, rfl⟩
           have hlF : LF.length = LA.length + 1 := by rw [← hLF]; simp
           rw [hLF] at hoF HX9
           have hl1 : (LA ++ [z]).length = LF.length := by rw [hLF]
           have g3 := grownBy_setCell w63 b4 1 (.slice aF LF.length cF)
           have h4' : boxed (w63.setCell ⟨b4, 1, none⟩ (.slice aF LF.length cF)) b4 26 n1 (.slice aF LF.length cF) := put1_boxed M.x4
           (try rw [hl1] at hoF)
           have hoF' := hoF.apart g3 (fun k h1 h2 => by cases h2; exact own_neD hoF M.x4 (by decide) h1)
           have S' := M.S.apart g3 (by simp; omega) (fun b e => by cases e; omega)
           have h2b' : boxed (w63.setCell ⟨b4, 1, none⟩ (.slice aF LF.length cF)) w.heap.size 26 0 (.slice none 0 0) := grown_of M.h2b g3 (by simp; omega)
           clear M hoF g3 hLF
           (try rw [hlF] at hl1)
           (try simp only [hl1])
           (try rw [← hlF])
           go_wp2
           go_meet
           case rel => exact ⟨aF, cF, LF, h4', hoF', HX9, Lib.hid (by omega), S', h2b'⟩
          exact AllReadyH.nil
         refine AllReadyH.cons (o := ?oi56) ?hi56 (fun K hK => ?step56) ?more56
         case hi56 => exact gt3 (by rfl)
         case step56 =>
          (go_simp; refine stepB [(1 : Int), 1, -1] 3 rfl rfl ?_; intro w66 hB hb8 hr8; have hg8 : w50.heap.size ≠ g := (by have := M.S.lt; omega); have hne8 : ∀ k, (Value.slice ao l1.length co).ownBlock = some k → some k ≠ some w50.heap.size := (fun k e e2 => by have := (ho2.lt k e).2; cases e2; omega); replace M := M.kept hB; replace ho1 := ho1.kept hB; replace ho2 := ho2.kept hB; clear hB; generalize w50.heap.size = b8 at hr8 hb8 hg8 hne8 ⊢)
          refine hK.out _ _ trivial (fun hHeld => ?_)
          clear hK K
          (try simp only [Act.put, List.setIfInBounds_toArray, List.set_cons_zero, List.set_cons_succ])
          refine wpAnyH_one (i := 5) (by kernel_rfl) (gt3 rfl) (fun K hK => ?_)
          (go_simp; go_at_call 41; refine Calls.mono (HINV.out _ ho1) ?_; intro e w67 hh; obtain ⟨vi, rfl, hB, hoi⟩ := retI_formJ hh; clear hh; have hri := hoi.reads; clear hoi ho1; obtain ⟨ai, ci, rfl⟩ := reads_formJ hri; replace M := M.kept hB; replace ho2 := ho2.kept hB; replace hr8 := hr8.kept hB; clear hB; dsimp only)
          refine hK.out _ _ trivial (fun hHeld => ?_)
          clear hK K
          (try simp only [Act.put, List.setIfInBounds_toArray, List.set_cons_zero, List.set_cons_succ])
          refine wpAnyH_one (i := 6) (by kernel_rfl) (gt3 rfl) (fun K hK => ?_)
          (refine step_appendW rfl _ _ 24 rfl 2 Tryz.underlying24 infoI w.heap.size _ _ l1 IV rfl rfl ho2 hri (by omega) M.G.size ?_; intro v' w68 hoA hgr hB hnew; clear hnew; rw [← HLA.out] at hoA; obtain ⟨aA, cA, rfl, hs⟩ := id hoA.reads; clear hs hri; replace hr8 := reads.apart hr8 hgr (fun _ k e h9 => by cases e; exact hne8 _ h9 rfl); replace M := M.grow ho2 hgr; clear hgr hB; clear ho2; clear hne8)
          refine hK.out _ _ trivial (fun hHeld => ?_)
          clear hK K
          (try simp only [Act.put, List.setIfInBounds_toArray, List.set_cons_zero, List.set_cons_succ])
          refine wpAnyH_one (i := 9) (by kernel_rfl) (gt3 rfl) (fun K hK => ?_)
          (go_simp; go_at_call 31; refine Calls.mono (pick_any w _ g vc m _ [(1 : Int), 1, -1] HC.out hm M.S hr8 (by simp) (by simp) (fun k e => by cases e; exact hg8)) ?_; rintro e w69 ⟨k, hk, rfl, S1, hg⟩; obtain ⟨z, ez⟩ : ∃ z, nth [(1 : Int), 1, -1] k = z := ⟨_, rfl⟩; have hz : -1 ≤ z ∧ z ≤ 1 := (by have hx : ∀ x ∈ ([(1 : Int), 1, -1] : List Int), -1 ≤ x ∧ x ≤ 1 := (by decide); have := hx _ (nth_mem hk); rw [ez] at this; exact this); rw [ez]; clear ez hk k hr8 hg8 hb8; replace hoA := own_next hoA M.S hg; replace M := M.src hb4g hgw hg S1; clear S1 hg; dsimp only)
          refine hK.out _ _ trivial (fun hHeld => ?_)
          clear hK K
          (try simp only [Act.put, List.setIfInBounds_toArray, List.set_cons_zero, List.set_cons_succ])
          refine wpAnyH_one (i := 10) (by kernel_rfl) (gt3 rfl) (fun K hK => ?_)
          (go_simp; refine stepB [z] 1 rfl rfl ?_; intro w70 hB hb10 hr10; clear hb10; replace M := M.kept hB; replace hoA := hoA.kept hB; clear hB)
          refine hK.out _ _ trivial (fun hHeld => ?_)
          clear hK K
          (try simp only [Act.put, List.setIfInBounds_toArray, List.set_cons_zero, List.set_cons_succ])
          refine wpAnyH_one (i := 11) (by kernel_rfl) (gt3 rfl) (fun K hK => ?_)
          (refine step_appendW rfl _ _ 24 rfl 2 Tryz.underlying24 infoI w.heap.size _ _ LA [z] rfl rfl hoA hr10 (by simp; omega) M.G.size ?_; intro v' w71 hoF hgr hB hnew; clear hnew; obtain ⟨aF, cF, rfl, hs⟩ := id hoF.reads; clear hs hr10; replace M := M.grow hoA hgr; clear hgr hB; clear hoA)
          refine hK.out _ _ trivial (fun hHeld => ?_)
          clear hK K
          (try simp only [Act.put, List.setIfInBounds_toArray, List.set_cons_zero, List.set_cons_succ])
          refine wpAnyH_take (i := 12) (oi := ?oi62) (v := ?v62) ?hi62 (by kernel_rfl) (by kernel_rfl) (by kernel_rfl) ?hQ62 (Or.inl ⟨?hw62, ?hy62⟩) hHeld ?rest62
          case hi62 => exact gt3 (by rfl)
          case hQ62 => exact fun _ _ _ h => h
          case hw62 => rfl
          case hy62 => (intro w hSw; (try dsimp only at hSw); first | (go_simp; done) | (go_simp; with_reducible rfl))
          (try simp only [Act.put, List.setIfInBounds_toArray, List.set_cons_zero, List.set_cons_succ])
          refine wpAnyH_one (i := 13) (by kernel_rfl) (gt3 rfl) (fun K hK => ?_)
          (have c41 := M.x4.c1; have c4l := M.x4.lt; have c4f := M.x4.fr1; go_simp; clear c41 c4l c4f)
          refine hK.out _ _ trivial (fun hHeld => ?_)
          clear hK K
          (try simp only [Act.put, List.setIfInBounds_toArray, List.set_cons_zero, List.set_cons_succ])
          refine wpAnyH_done (by kernel_rfl) ?_ _
          have HX9 := Lib.hid (HXA.out.snoc (z := z) (by omega) (by omega))
          obtain ⟨LF, hLF⟩ : ∃ LF, LA ++ [z] = LF := ⟨_, rfl⟩
          have hlF : LF.length = LA.length + 1 := by rw [← hLF]; simp
          rw [hLF] at hoF HX9
          have hl1 : (LA ++ [z]).length = LF.length := by rw [hLF]
          have g3 := grownBy_setCell w71 b4 1 (.slice aF LF.length cF)
          have h4' : boxed (w71.setCell ⟨b4, 1, none⟩ (.slice aF LF.length cF)) b4 26 n1 (.slice aF LF.length cF) := put1_boxed M.x4
          (try rw [hl1] at hoF)
          have hoF' := hoF.apart g3 (fun k h1 h2 => by cases h2; exact own_neD hoF M.x4 (by decide) h1)
          have S' := M.S.apart g3 (by simp; omega) (fun b e => by cases e; omega)
          have h2b' : boxed (w71.setCell ⟨b4, 1, none⟩ (.slice aF LF.length cF)) w.heap.size 26 0 (.slice none 0 0) := grown_of M.h2b g3 (by simp; omega)
          clear M hoF g3 hLF
          (try rw [hlF] at hl1)
          (try simp only [hl1])
          (try rw [← hlF])
          go_wp2
          go_meet
          case rel => exact ⟨aF, cF, LF, h4', hoF', HX9, Lib.hid (by omega), S', h2b'⟩
         exact AllReadyH.nil
        refine AllReadyH.cons (o := ?oi64) ?hi64 (fun K hK => ?step64) ?more64
        case hi64 => exact gt3 (by rfl)
        case step64 =>
         (go_simp; refine stepB [(1 : Int), 1, -1] 3 rfl rfl ?_; intro w74 hB hb8 hr8; have hg8 : w0.heap.size ≠ g := (by have := M.S.lt; omega); replace M := M.kept hB; replace ho1 := ho1.kept hB; clear hB; generalize w0.heap.size = b8 at hr8 hb8 hg8 ⊢)
         refine hK.out _ _ trivial (fun hHeld => ?_)
         clear hK K
         (try simp only [Act.put, List.setIfInBounds_toArray, List.set_cons_zero, List.set_cons_succ])
         refine wpAnyH_one (i := 2) (by kernel_rfl) (gt3 rfl) (fun K hK => ?_)
         (go_simp; go_at_call 41; refine Calls.mono (l01Own_any _ l1 _ ho1.reads (by omega)) ?_; intro e w75 hh; obtain ⟨vo, rfl, hB, hoo⟩ := retI_formJ hh; clear hh; obtain ⟨ao, co, rfl, hs⟩ := id hoo.reads; clear hs; have hne8 : ∀ k, (Value.slice ao l1.length co).ownBlock = some k → some k ≠ some b8 := (fun k e e2 => by have := (hoo.lt k e).1; cases e2; omega); have ho2 := hoo.mono (B' := w.heap.size) M.G.size; clear hoo; replace M := M.kept hB; replace ho1 := ho1.kept hB; replace hr8 := hr8.kept hB; clear hB; dsimp only)
         refine hK.out _ _ trivial (fun hHeld => ?_)
         clear hK K
         (try simp only [Act.put, List.setIfInBounds_toArray, List.set_cons_zero, List.set_cons_succ])
         refine wpAnyH_one (i := 5) (by kernel_rfl) (gt3 rfl) (fun K hK => ?_)
         (go_simp; go_at_call 41; refine Calls.mono (HINV.out _ ho1) ?_; intro e w76 hh; obtain ⟨vi, rfl, hB, hoi⟩ := retI_formJ hh; clear hh; have hri := hoi.reads; clear hoi ho1; obtain ⟨ai, ci, rfl⟩ := reads_formJ hri; replace M := M.kept hB; replace ho2 := ho2.kept hB; replace hr8 := hr8.kept hB; clear hB; dsimp only)
         refine hK.out _ _ trivial (fun hHeld => ?_)
         clear hK K
         (try simp only [Act.put, List.setIfInBounds_toArray, List.set_cons_zero, List.set_cons_succ])
         refine wpAnyH_one (i := 6) (by kernel_rfl) (gt3 rfl) (fun K hK => ?_)
         (refine step_appendW rfl _ _ 24 rfl 2 Tryz.underlying24 infoI w.heap.size _ _ l1 IV rfl rfl ho2 hri (by omega) M.G.size ?_; intro v' w77 hoA hgr hB hnew; clear hnew; rw [← HLA.out] at hoA; obtain ⟨aA, cA, rfl, hs⟩ := id hoA.reads; clear hs hri; replace hr8 := reads.apart hr8 hgr (fun _ k e h9 => by cases e; exact hne8 _ h9 rfl); replace M := M.grow ho2 hgr; clear hgr hB; clear ho2; clear hne8)
         refine hK.out _ _ trivial (fun hHeld => ?_)
         clear hK K
         (try simp only [Act.put, List.setIfInBounds_toArray, List.set_cons_zero, List.set_cons_succ])
         refine wpAnyH_one (i := 9) (by kernel_rfl) (gt3 rfl) (fun K hK => ?_)
         (go_simp; go_at_call 31; refine Calls.mono (pick_any w _ g vc m _ [(1 : Int), 1, -1] HC.out hm M.S hr8 (by simp) (by simp) (fun k e => by cases e; exact hg8)) ?_; rintro e w78 ⟨k, hk, rfl, S1, hg⟩; obtain ⟨z, ez⟩ : ∃ z, nth [(1 : Int), 1, -1] k = z := ⟨_, rfl⟩; have hz : -1 ≤ z ∧ z ≤ 1 := (by have hx : ∀ x ∈ ([(1 : Int), 1, -1] : List Int), -1 ≤ x ∧ x ≤ 1 := (by decide); have := hx _ (nth_mem hk); rw [ez] at this; exact this); rw [ez]; clear ez hk k hr8 hg8 hb8; replace hoA := own_next hoA M.S hg; replace M := M.src hb4g hgw hg S1; clear S1 hg; dsimp only)
         refine hK.out _ _ trivial (fun hHeld => ?_)
         clear hK K
         (try simp only [Act.put, List.setIfInBounds_toArray, List.set_cons_zero, List.set_cons_succ])
         refine wpAnyH_one (i := 10) (by kernel_rfl) (gt3 rfl) (fun K hK => ?_)
         (go_simp; refine stepB [z] 1 rfl rfl ?_; intro w79 hB hb10 hr10; clear hb10; replace M := M.kept hB; replace hoA := hoA.kept hB; clear hB)
         refine hK.out _ _ trivial (fun hHeld => ?_)
         clear hK K
         (try simp only [Act.put, List.setIfInBounds_toArray, List.set_cons_zero, List.set_cons_succ])
         refine wpAnyH_one (i := 11) (by kernel_rfl) (gt3 rfl) (fun K hK => ?_)
         (refine step_appendW rfl _ _ 24 rfl 2 Tryz.underlying24 infoI w.heap.size _ _ LA [z] rfl rfl hoA hr10 (by simp; omega) M.G.size ?_; intro v' w80 hoF hgr hB hnew; clear hnew; obtain ⟨aF, cF, rfl, hs⟩ := id hoF.reads; clear hs hr10; replace M := M.grow hoA hgr; clear hgr hB; clear hoA)
         refine hK.out _ _ trivial (fun hHeld => ?_)
         clear hK K
         (try simp only [Act.put, List.setIfInBounds_toArray, List.set_cons_zero, List.set_cons_succ])
         refine wpAnyH_take (i := 12) (oi := ?oi71) (v := ?v71) ?hi71 (by kernel_rfl) (by kernel_rfl) (by kernel_rfl) ?hQ71 (Or.inl ⟨?hw71, ?hy71⟩) hHeld ?rest71
         case hi71 => exact gt3 (by rfl)
         case hQ71 => exact fun _ _ _ h => h
         case hw71 => rfl
         case hy71 => (intro w hSw; (try dsimp only at hSw); first | (go_simp; done) | (go_simp; with_reducible rfl))
         (try simp only [Act.put, List.setIfInBounds_toArray, List.set_cons_zero, List.set_cons_succ])
         refine wpAnyH_one (i := 13) (by kernel_rfl) (gt3 rfl) (fun K hK => ?_)
         (have c41 := M.x4.c1; have c4l := M.x4.lt; have c4f := M.x4.fr1; go_simp; clear c41 c4l c4f)
         refine hK.out _ _ trivial (fun hHeld => ?_)
         clear hK K
         (try simp only [Act.put, List.setIfInBounds_toArray, List.set_cons_zero, List.set_cons_succ])
         refine wpAnyH_done (by kernel_rfl) ?_ _
         have HX9 := Lib.hid (HXA.out.snoc (z := z) (by omega) (by omega))
         obtain ⟨LF, hLF⟩ : ∃ LF, LA ++ [z] = LF := ⟨_, rfl⟩
         have hlF : LF.length = LA.length + 1 := by rw [← hLF]; simp
         rw [hLF] at hoF HX9
         have hl1 : (LA ++ [z]).length = LF.length := by rw [hLF]
         have g3 := grownBy_setCell w80 b4 1 (.slice aF LF.length cF)
         have h4' : boxed (w80.setCell ⟨b4, 1, none⟩ (.slice aF LF.length cF)) b4 26 n1 (.slice aF LF.length cF) := put1_boxed M.x4
         (try rw [hl1] at hoF)
         have hoF' := hoF.apart g3 (fun k h1 h2 => by cases h2; exact own_neD hoF M.x4 (by decide) h1)
         have S' := M.S.apart g3 (by simp; omega) (fun b e => by cases e; omega)
         have h2b' : boxed (w80.setCell ⟨b4, 1, none⟩ (.slice aF LF.length cF)) w.heap.size 26 0 (.slice none 0 0) := grown_of M.h2b g3 (by simp; omega)
         clear M hoF g3 hLF
         (try rw [hlF] at hl1)
         (try simp only [hl1])
         (try rw [← hlF])
         go_wp2
         go_meet
         case rel => exact ⟨aF, cF, LF, h4', hoF', HX9, Lib.hid (by omega), S', h2b'⟩
        exact AllReadyH.nil
       refine AllReadyH.cons (o := ?oi73) ?hi73 (fun K hK => ?step73) ?more73
       case hi73 => exact gt3 (by rfl)
       case step73 =>
        (go_simp; refine stepB [(1 : Int), 1, -1] 3 rfl rfl ?_; intro w83 hB hb8 hr8; have hg8 : w0.heap.size ≠ g := (by have := M.S.lt; omega); replace M := M.kept hB; replace ho1 := ho1.kept hB; clear hB; generalize w0.heap.size = b8 at hr8 hb8 hg8 ⊢)
        refine hK.out _ _ trivial (fun hHeld => ?_)
        clear hK K
        (try simp only [Act.put, List.setIfInBounds_toArray, List.set_cons_zero, List.set_cons_succ])
        refine wpAnyH_ready (rs := [2, 4]) (by kernel_rfl) (by simp) ?_
        refine AllReadyH.cons (o := ?oi74) ?hi74 (fun K hK => ?step74) ?more74
        case hi74 => exact gt3 (by rfl)
        case step74 =>
         (go_simp; go_at_call 41; refine Calls.mono (l01Own_any _ l1 _ ho1.reads (by omega)) ?_; intro e w84 hh; obtain ⟨vo, rfl, hB, hoo⟩ := retI_formJ hh; clear hh; obtain ⟨ao, co, rfl, hs⟩ := id hoo.reads; clear hs; have hne8 : ∀ k, (Value.slice ao l1.length co).ownBlock = some k → some k ≠ some b8 := (fun k e e2 => by have := (hoo.lt k e).1; cases e2; omega); have ho2 := hoo.mono (B' := w.heap.size) M.G.size; clear hoo; replace M := M.kept hB; replace ho1 := ho1.kept hB; replace hr8 := hr8.kept hB; clear hB; dsimp only)
         refine hK.out _ _ trivial (fun hHeld => ?_)
         clear hK K
         (try simp only [Act.put, List.setIfInBounds_toArray, List.set_cons_zero, List.set_cons_succ])
         refine wpAnyH_one (i := 4) (by kernel_rfl) (gt3 rfl) (fun K hK => ?_)
         (have c41 := M.x4.c1; have c4l := M.x4.lt; have c4f := M.x4.fr1; go_simp)
         refine hK.out _ _ trivial (fun hHeld => ?_)
         clear hK K
         (try simp only [Act.put, List.setIfInBounds_toArray, List.set_cons_zero, List.set_cons_succ])
         refine wpAnyH_one (i := 5) (by kernel_rfl) (gt3 rfl) (fun K hK => ?_)
         (go_simp; go_at_call 41; refine Calls.mono (HINV.out _ ho1) ?_; intro e w86 hh; obtain ⟨vi, rfl, hB, hoi⟩ := retI_formJ hh; clear hh; have hri := hoi.reads; clear hoi ho1; obtain ⟨ai, ci, rfl⟩ := reads_formJ hri; replace M := M.kept hB; replace ho2 := ho2.kept hB; replace hr8 := hr8.kept hB; clear hB; dsimp only)
         refine hK.out _ _ trivial (fun hHeld => ?_)
         clear hK K
         (try simp only [Act.put, List.setIfInBounds_toArray, List.set_cons_zero, List.set_cons_succ])
         refine wpAnyH_one (i := 6) (by kernel_rfl) (gt3 rfl) (fun K hK => ?_)
         (refine step_appendW rfl _ _ 24 rfl 2 Tryz.underlying24 infoI w.heap.size _ _ l1 IV rfl rfl ho2 hri (by omega) M.G.size ?_; intro v' w87 hoA hgr hB hnew; clear hnew; rw [← HLA.out] at hoA; obtain ⟨aA, cA, rfl, hs⟩ := id hoA.reads; clear hs hri; replace hr8 := reads.apart hr8 hgr (fun _ k e h9 => by cases e; exact hne8 _ h9 rfl); replace M := M.grow ho2 hgr; clear hgr hB; clear ho2; clear hne8)
         refine hK.out _ _ trivial (fun hHeld => ?_)
         clear hK K
         (try simp only [Act.put, List.setIfInBounds_toArray, List.set_cons_zero, List.set_cons_succ])
         refine wpAnyH_one (i := 9) (by kernel_rfl) (gt3 rfl) (fun K hK => ?_)
         (go_simp; go_at_call 31; refine Calls.mono (pick_any w _ g vc m _ [(1 : Int), 1, -1] HC.out hm M.S hr8 (by simp) (by simp) (fun k e => by cases e; exact hg8)) ?_; rintro e w88 ⟨k, hk, rfl, S1, hg⟩; obtain ⟨z, ez⟩ : ∃ z, nth [(1 : Int), 1, -1] k = z := ⟨_, rfl⟩; have hz : -1 ≤ z ∧ z ≤ 1 := (by have hx : ∀ x ∈ ([(1 : Int), 1, -1] : List Int), -1 ≤ x ∧ x ≤ 1 := (by decide); have := hx _ (nth_mem hk); rw [ez] at this; exact this); rw [ez]; clear ez hk k hr8 hg8 hb8; replace hoA := own_next hoA M.S hg; replace M := M.src hb4g hgw hg S1; clear S1 hg; dsimp only)
         refine hK.out _ _ trivial (fun hHeld => ?_)
         clear hK K
         (try simp only [Act.put, List.setIfInBounds_toArray, List.set_cons_zero, List.set_cons_succ])
         refine wpAnyH_one (i := 10) (by kernel_rfl) (gt3 rfl) (fun K hK => ?_)
         (go_simp; refine stepB [z] 1 rfl rfl ?_; intro w89 hB hb10 hr10; clear hb10; replace M := M.kept hB; replace hoA := hoA.kept hB; clear hB)
         refine hK.out _ _ trivial (fun hHeld => ?_)
         clear hK K
         (try simp only [Act.put, List.setIfInBounds_toArray, List.set_cons_zero, List.set_cons_succ])
         refine wpAnyH_one (i := 11) (by kernel_rfl) (gt3 rfl) (fun K hK => ?_)
         (refine step_appendW rfl _ _ 24 rfl 2 Tryz.underlying24 infoI w.heap.size _ _ LA [z] rfl rfl hoA hr10 (by simp; omega) M.G.size ?_; intro v' w90 hoF hgr hB hnew; clear hnew; obtain ⟨aF, cF, rfl, hs⟩ := id hoF.reads; clear hs hr10; replace M := M.grow hoA hgr; clear hgr hB; clear hoA)
         refine hK.out _ _ trivial (fun hHeld => ?_)
         clear hK K
         (try simp only [Act.put, List.setIfInBounds_toArray, List.set_cons_zero, List.set_cons_succ])
         refine wpAnyH_take (i := 12) (oi := ?oi81) (v := ?v81) ?hi81 (by kernel_rfl) (by kernel_rfl) (by kernel_rfl) ?hQ81 (Or.inl ⟨?hw81, ?hy81⟩) hHeld ?rest81
         case hi81 => exact gt3 (by rfl)
         case hQ81 => exact fun _ _ _ h => h
         case hw81 => rfl
         case hy81 => (intro w hSw; (try dsimp only at hSw); first | (go_simp; done) | (go_simp; with_reducible rfl))
         (try simp only [Act.put, List.setIfInBounds_toArray, List.set_cons_zero, List.set_cons_succ])
         refine wpAnyH_one (i := 13) (by kernel_rfl) (gt3 rfl) (fun K hK => ?_)
         (have c41 := M.x4.c1; have c4l := M.x4.lt; have c4f := M.x4.fr1; go_simp; clear c41 c4l c4f)
         refine hK.out _ _ trivial (fun hHeld => ?_)
         clear hK K
         (try simp only [Act.put, List.setIfInBounds_toArray, List.set_cons_zero, List.set_cons_succ])
         refine wpAnyH_done (by kernel_rfl) ?_ _
         have HX9 := Lib.hid (HXA.out.snoc (z := z) (by omega) (by omega))
         obtain ⟨LF, hLF⟩ : ∃ LF, LA ++ [z] = LF := ⟨_, rfl⟩
         have hlF : LF.length = LA.length + 1 := by rw [← hLF]; simp
         rw [hLF] at hoF HX9
         have hl1 : (LA ++ [z]).length = LF.length := by rw [hLF]
         have g3 := grownBy_setCell w90 b4 1 (.slice aF LF.length cF)
         have h4' : boxed (w90.setCell ⟨b4, 1, none⟩ (.slice aF LF.length cF)) b4 26 n1 (.slice aF LF.length cF) := put1_boxed M.x4
         (try rw [hl1] at hoF)
         have hoF' := hoF.apart g3 (fun k h1 h2 => by cases h2; exact own_neD hoF M.x4 (by decide) h1)
         have S' := M.S.apart g3 (by simp; omega) (fun b e => by cases e; omega)
         have h2b' : boxed (w90.setCell ⟨b4, 1, none⟩ (.slice aF LF.length cF)) w.heap.size 26 0 (.slice none 0 0) := grown_of M.h2b g3 (by simp; omega)
         clear M hoF g3 hLF
         (try rw [hlF] at hl1)
         (try simp only [hl1])
         (try rw [← hlF])
         go_wp2
         go_meet
         case rel => exact ⟨aF, cF, LF, h4', hoF', HX9, Lib.hid (by omega), S', h2b'⟩
        refine AllReadyH.cons (o := ?oi83) ?hi83 (fun K hK => ?step83) ?more83
        case hi83 => exact gt3 (by rfl)
        case step83 =>
         (have c41 := M.x4.c1; have c4l := M.x4.lt; have c4f := M.x4.fr1; go_simp)
         refine hK.out _ _ trivial (fun hHeld => ?_)
         clear hK K
         (try simp only [Act.put, List.setIfInBounds_toArray, List.set_cons_zero, List.set_cons_succ])
         refine wpAnyH_one (i := 2) (by kernel_rfl) (gt3 rfl) (fun K hK => ?_)
         (go_simp; go_at_call 41; refine Calls.mono (l01Own_any _ l1 _ ho1.reads (by omega)) ?_; intro e w94 hh; obtain ⟨vo, rfl, hB, hoo⟩ := retI_formJ hh; clear hh; obtain ⟨ao, co, rfl, hs⟩ := id hoo.reads; clear hs; have hne8 : ∀ k, (Value.slice ao l1.length co).ownBlock = some k → some k ≠ some b8 := (fun k e e2 => by have := (hoo.lt k e).1; cases e2; omega); have ho2 := hoo.mono (B' := w.heap.size) M.G.size; clear hoo; replace M := M.kept hB; replace ho1 := ho1.kept hB; replace hr8 := hr8.kept hB; clear hB; dsimp only)
         refine hK.out _ _ trivial (fun hHeld => ?_)
         clear hK K
         (try simp only [Act.put, List.setIfInBounds_toArray, List.set_cons_zero, List.set_cons_succ])
         refine wpAnyH_one (i := 5) (by kernel_rfl) (gt3 rfl) (fun K hK => ?_)
         (go_simp; go_at_call 41; refine Calls.mono (HINV.out _ ho1) ?_; intro e w95 hh; obtain ⟨vi, rfl, hB, hoi⟩ := retI_formJ hh; clear hh; have hri := hoi.reads; clear hoi ho1; obtain ⟨ai, ci, rfl⟩ := reads_formJ hri; replace M := M.kept hB; replace ho2 := ho2.kept hB; replace hr8 := hr8.kept hB; clear hB; dsimp only)
         refine hK.out _ _ trivial (fun hHeld => ?_)
         clear hK K
         (try simp only [Act.put, List.setIfInBounds_toArray, List.set_cons_zero, List.set_cons_succ])
         refine wpAnyH_one (i := 6) (by kernel_rfl) (gt3 rfl) (fun K hK => ?_)
         (refine step_appendW rfl _ _ 24 rfl 2 Tryz.underlying24 infoI w.heap.size _ _ l1 IV rfl rfl ho2 hri (by omega) M.G.size ?_; intro v' w96 hoA hgr hB hnew; clear hnew; rw [← HLA.out] at hoA; obtain ⟨aA, cA, rfl, hs⟩ := id hoA.reads; clear hs hri; replace hr8 := reads.apart hr8 hgr (fun _ k e h9 => by cases e; exact hne8 _ h9 rfl); replace M := M.grow ho2 hgr; clear hgr hB; clear ho2; clear hne8)
         refine hK.out _ _ trivial (fun hHeld => ?_)
         clear hK K
         (try simp only [Act.put, List.setIfInBounds_toArray, List.set_cons_zero, List.set_cons_succ])
         refine wpAnyH_one (i := 9) (by kernel_rfl) (gt3 rfl) (fun K hK => ?_)
         (go_simp; go_at_call 31; refine Calls.mono (pick_any w _ g vc m _ [(1 : Int), 1, -1] HC.out hm M.S hr8 (by simp) (by simp) (fun k e => by cases e; exact hg8)) ?_; rintro e w97 ⟨k, hk, rfl, S1, hg⟩; obtain ⟨z, ez⟩ : ∃ z, nth [(1 : Int), 1, -1] k = z := ⟨_, rfl⟩; have hz : -1 ≤ z ∧ z ≤ 1 := (by have hx : ∀ x ∈ ([(1 : Int), 1, -1] : List Int), -1 ≤ x ∧ x ≤ 1 := (by decide); have := hx _ (nth_mem hk); rw [ez] at this; exact this); rw [ez]; clear ez hk k hr8 hg8 hb8; replace hoA := own_next hoA M.S hg; replace M := M.src hb4g hgw hg S1; clear S1 hg; dsimp only)
         refine hK.out _ _ trivial (fun hHeld => ?_)
         clear hK K
         (try simp only [Act.put, List.setIfInBounds_toArray, List.set_cons_zero, List.set_cons_succ])
         refine wpAnyH_one (i := 10) (by kernel_rfl) (gt3 rfl) (fun K hK => ?_)
         (go_simp; refine stepB [z] 1 rfl rfl ?_; intro w98 hB hb10 hr10; clear hb10; replace M := M.kept hB; replace hoA := hoA.kept hB; clear hB)
         refine hK.out _ _ trivial (fun hHeld => ?_)
         clear hK K
         (try simp only [Act.put, List.setIfInBounds_toArray, List.set_cons_zero, List.set_cons_succ])
         refine wpAnyH_one (i := 11) (by kernel_rfl) (gt3 rfl) (fun K hK => ?_)
         (refine step_appendW rfl _ _ 24 rfl 2 Tryz.underlying24 infoI w.heap.size _ _ LA [z] rfl rfl hoA hr10 (by simp; omega) M.G.size ?_; intro v' w99 hoF hgr hB hnew; clear hnew; obtain ⟨aF, cF, rfl, hs⟩ := id hoF.reads; clear hs hr10; replace M := M.grow hoA hgr; clear hgr hB; clear hoA)
         refine hK.out _ _ trivial (fun hHeld => ?_)
         clear hK K
         (try simp only [Act.put, List.setIfInBounds_toArray, List.set_cons_zero, List.set_cons_succ])
         refine wpAnyH_take (i := 12) (oi := ?oi90) (v := ?v90) ?hi90 (by kernel_rfl) (by kernel_rfl) (by kernel_rfl) ?hQ90 (Or.inl ⟨?hw90, ?hy90⟩) hHeld ?rest90
         case hi90 => exact gt3 (by rfl)
         case hQ90 => exact fun _ _ _ h => h
         case hw90 => rfl
         case hy90 => (intro w hSw; (try dsimp only at hSw); first | (go_simp; done) | (go_simp; with_reducible rfl))
         (try simp only [Act.put, List.setIfInBounds_toArray, List.set_cons_zero, List.set_cons_succ])
         refine wpAnyH_one (i := 13) (by kernel_rfl) (gt3 rfl) (fun K hK => ?_)
         (have c41 := M.x4.c1; have c4l := M.x4.lt; have c4f := M.x4.fr1; go_simp; clear c41 c4l c4f)
         refine hK.out _ _ trivial (fun hHeld => ?_)
         clear hK K
         (try simp only [Act.put, List.setIfInBounds_toArray, List.set_cons_zero, List.set_cons_succ])
         refine wpAnyH_done (by kernel_rfl) ?_ _
         have HX9 := Lib.hid (HXA.out.snoc (z := z) (by omega) (by omega))
         obtain ⟨LF, hLF⟩ : ∃ LF, LA ++ [z] = LF := ⟨_, rfl⟩
         have hlF : LF.length = LA.length + 1 := by rw [← hLF]; simp
         rw [hLF] at hoF HX9
         have hl1 : (LA ++ [z]).length = LF.length := by rw [hLF]
         have g3 := grownBy_setCell w99 b4 1 (.slice aF LF.length cF)
         have h4' : boxed (w99.setCell ⟨b4, 1, none⟩ (.slice aF LF.length cF)) b4 26 n1 (.slice aF LF.length cF) := put1_boxed M.x4
         (try rw [hl1] at hoF)
         have hoF' := hoF.apart g3 (fun k h1 h2 => by cases h2; exact own_neD hoF M.x4 (by decide) h1)
         have S' := M.S.apart g3 (by simp; omega) (fun b e => by cases e; omega)
         have h2b' : boxed (w99.setCell ⟨b4, 1, none⟩ (.slice aF LF.length cF)) w.heap.size 26 0 (.slice none 0 0) := grown_of M.h2b g3 (by simp; omega)
         clear M hoF g3 hLF
         (try rw [hlF] at hl1)
         (try simp only [hl1])
         (try rw [← hlF])
         go_wp2
         go_meet
         case rel => exact ⟨aF, cF, LF, h4', hoF', HX9, Lib.hid (by omega), S', h2b'⟩
        exact AllReadyH.nil
       exact AllReadyH.nil
      refine AllReadyH.cons (o := ?oi92) ?hi92 (fun K hK => ?step92) ?more92
      case hi92 => exact gt3 (by rfl)
      case step92 =>
       (have c41 := M.x4.c1; have c4l := M.x4.lt; have c4f := M.x4.fr1; go_simp)
       refine hK.out _ _ trivial (fun hHeld => ?_)
       clear hK K
       (try simp only [Act.put, List.setIfInBounds_toArray, List.set_cons_zero, List.set_cons_succ])
       refine wpAnyH_ready (rs := [1, 8]) (by kernel_rfl) (by simp) ?_
       refine AllReadyH.cons (o := ?oi93) ?hi93 (fun K hK => ?step93) ?more93
       case hi93 => exact gt3 (by rfl)
       case step93 =>
        (have c41 := M.x4.c1; have c4l := M.x4.lt; have c4f := M.x4.fr1; go_simp)
        refine hK.out _ _ trivial (fun hHeld => ?_)
        clear hK K
        (try simp only [Act.put, List.setIfInBounds_toArray, List.set_cons_zero, List.set_cons_succ])
        refine wpAnyH_ready (rs := [2, 8]) (by kernel_rfl) (by simp) ?_
        refine AllReadyH.cons (o := ?oi94) ?hi94 (fun K hK => ?step94) ?more94
        case hi94 => exact gt3 (by rfl)
        case step94 =>
         (go_simp; go_at_call 41; refine Calls.mono (l01Own_any _ l1 _ ho1.reads (by omega)) ?_; intro e w104 hh; obtain ⟨vo, rfl, hB, hoo⟩ := retI_formJ hh; clear hh; obtain ⟨ao, co, rfl, hs⟩ := id hoo.reads; clear hs; have ho2 := hoo.mono (B' := w.heap.size) M.G.size; clear hoo; replace M := M.kept hB; replace ho1 := ho1.kept hB; clear hB; dsimp only)
         refine hK.out _ _ trivial (fun hHeld => ?_)
         clear hK K
         (try simp only [Act.put, List.setIfInBounds_toArray, List.set_cons_zero, List.set_cons_succ])
         refine wpAnyH_ready (rs := [5, 8]) (by kernel_rfl) (by simp) ?_
         refine AllReadyH.cons (o := ?oi95) ?hi95 (fun K hK => ?step95) ?more95
         case hi95 => exact gt3 (by rfl)
         case step95 =>
          (go_simp; go_at_call 41; refine Calls.mono (HINV.out _ ho1) ?_; intro e w105 hh; obtain ⟨vi, rfl, hB, hoi⟩ := retI_formJ hh; clear hh; have hri := hoi.reads; clear hoi ho1; obtain ⟨ai, ci, rfl⟩ := reads_formJ hri; replace M := M.kept hB; replace ho2 := ho2.kept hB; clear hB; dsimp only)
          refine hK.out _ _ trivial (fun hHeld => ?_)
          clear hK K
          (try simp only [Act.put, List.setIfInBounds_toArray, List.set_cons_zero, List.set_cons_succ])
          refine wpAnyH_ready (rs := [6, 8]) (by kernel_rfl) (by simp) ?_
          refine AllReadyH.cons (o := ?oi96) ?hi96 (fun K hK => ?step96) ?more96
          case hi96 => exact gt3 (by rfl)
          case step96 =>
           (refine step_appendW rfl _ _ 24 rfl 2 Tryz.underlying24 infoI w.heap.size _ _ l1 IV rfl rfl ho2 hri (by omega) M.G.size ?_; intro v' w106 hoA hgr hB hnew; clear hnew; rw [← HLA.out] at hoA; obtain ⟨aA, cA, rfl, hs⟩ := id hoA.reads; clear hs hri; replace M := M.grow ho2 hgr; clear hgr hB; clear ho2)
           refine hK.out _ _ trivial (fun hHeld => ?_)
           clear hK K
           (try simp only [Act.put, List.setIfInBounds_toArray, List.set_cons_zero, List.set_cons_succ])
           refine wpAnyH_one (i := 8) (by kernel_rfl) (gt3 rfl) (fun K hK => ?_)
           (go_simp; refine stepB [(1 : Int), 1, -1] 3 rfl rfl ?_; intro w107 hB hb8 hr8; have hg8 : w106.heap.size ≠ g := (by have := M.S.lt; omega); replace M := M.kept hB; replace hoA := hoA.kept hB; clear hB; generalize w106.heap.size = b8 at hr8 hb8 hg8 ⊢)
           refine hK.out _ _ trivial (fun hHeld => ?_)
           clear hK K
           (try simp only [Act.put, List.setIfInBounds_toArray, List.set_cons_zero, List.set_cons_succ])
           refine wpAnyH_one (i := 9) (by kernel_rfl) (gt3 rfl) (fun K hK => ?_)
           (go_simp; go_at_call 31; refine Calls.mono (pick_any w _ g vc m _ [(1 : Int), 1, -1] HC.out hm M.S hr8 (by simp) (by simp) (fun k e => by cases e; exact hg8)) ?_; rintro e w108 ⟨k, hk, rfl, S1, hg⟩; obtain ⟨z, ez⟩ : ∃ z, nth [(1 : Int), 1, -1] k = z := ⟨_, rfl⟩; have hz : -1 ≤ z ∧ z ≤ 1 := (by have hx : ∀ x ∈ ([(1 : Int), 1, -1] : List Int), -1 ≤ x ∧ x ≤ 1 := (by decide); have := hx _ (nth_mem hk); rw [ez] at this; exact this); rw [ez]; clear ez hk k hr8 hg8 hb8; replace hoA := own_next hoA M.S hg; replace M := M.src hb4g hgw hg S1; clear S1 hg; dsimp only)
           refine hK.out _ _ trivial (fun hHeld => ?_)
           clear hK K
           (try simp only [Act.put, List.setIfInBounds_toArray, List.set_cons_zero, List.set_cons_succ])
           refine wpAnyH_one (i := 10) (by kernel_rfl) (gt3 rfl) (fun K hK => ?_)
           (go_simp; refine stepB [z] 1 rfl rfl ?_; intro w109 hB hb10 hr10; clear hb10; replace M := M.kept hB; replace hoA := hoA.kept hB; clear hB)
           refine hK.out _ _ trivial (fun hHeld => ?_)
           clear hK K
           (try simp only [Act.put, List.setIfInBounds_toArray, List.set_cons_zero, List.set_cons_succ])
           refine wpAnyH_one (i := 11) (by kernel_rfl) (gt3 rfl) (fun K hK => ?_)
           (refine step_appendW rfl _ _ 24 rfl 2 Tryz.underlying24 infoI w.heap.size _ _ LA [z] rfl rfl hoA hr10 (by simp; omega) M.G.size ?_; intro v' w110 hoF hgr hB hnew; clear hnew; obtain ⟨aF, cF, rfl, hs⟩ := id hoF.reads; clear hs hr10; replace M := M.grow hoA hgr; clear hgr hB; clear hoA)
           refine hK.out _ _ trivial (fun hHeld => ?_)
           clear hK K
           (try simp only [Act.put, List.setIfInBounds_toArray, List.set_cons_zero, List.set_cons_succ])
           refine wpAnyH_take (i := 12) (oi := ?oi101) (v := ?v101) ?hi101 (by kernel_rfl) (by kernel_rfl) (by kernel_rfl) ?hQ101 (Or.inl ⟨?hw101, ?hy101⟩) hHeld ?rest101
           case hi101 => exact gt3 (by rfl)
           case hQ101 => exact fun _ _ _ h => h
           case hw101 => rfl
           case hy101 => (intro w hSw; (try dsimp only at hSw); first | (go_simp; done) | (go_simp; with_reducible rfl))
           (try simp only [Act.put, List.setIfInBounds_toArray, List.set_cons_zero, List.set_cons_succ])
           refine wpAnyH_one (i := 13) (by kernel_rfl) (gt3 rfl) (fun K hK => ?_)
           (have c41 := M.x4.c1; have c4l := M.x4.lt; have c4f := M.x4.fr1; go_simp; clear c41 c4l c4f)
           refine hK.out _ _ trivial (fun hHeld => ?_)
           clear hK K
           (try simp only [Act.put, List.setIfInBounds_toArray, List.set_cons_zero, List.set_cons_succ])
           refine wpAnyH_done (by kernel_rfl) ?_ _
           have HX9 := Lib.hid (HXA.out.snoc (z := z) (by omega) (by omega))
           obtain ⟨LF, hLF⟩ : ∃ LF, LA ++ [z] = LF := ⟨_, rfl⟩
           have hlF : LF.length = LA.length + 1 := by rw [← hLF]; simp
           rw [hLF] at hoF HX9
           have hl1 : (LA ++ [z]).length = LF.length := by rw [hLF]
           have g3 := grownBy_setCell w110 b4 1 (.slice aF LF.length cF)
           have h4' : boxed (w110.setCell ⟨b4, 1, none⟩ (.slice aF LF.length cF)) b4 26 n1 (.slice aF LF.length cF) := put1_boxed M.x4
           (try rw [hl1] at hoF)
           have hoF' := hoF.apart g3 (fun k h1 h2 => by cases h2; exact own_neD hoF M.x4 (by decide) h1)
           have S' := M.S.apart g3 (by simp; omega) (fun b e => by cases e; omega)
           have h2b' : boxed (w110.setCell ⟨b4, 1, none⟩ (.slice aF LF.length cF)) w.heap.size 26 0 (.slice none 0 0) := grown_of M.h2b g3 (by simp; omega)
           clear M hoF g3 hLF
           (try rw [hlF] at hl1)
           (try simp only [hl1])
           (try rw [← hlF])
           go_wp2
           go_meet
           case rel => exact ⟨aF, cF, LF, h4', hoF', HX9, Lib.hid (by omega), S', h2b'⟩
          refine AllReadyH.cons (o := ?oi103) ?hi103 (fun K hK => ?step103) ?more103
          case hi103 => exact gt3 (by rfl)
          case step103 =>
           (go_simp; refine stepB [(1 : Int), 1, -1] 3 rfl rfl ?_; intro w113 hB hb8 hr8; have hg8 : w105.heap.size ≠ g := (by have := M.S.lt; omega); have hne8 : ∀ k, (Value.slice ao l1.length co).ownBlock = some k → some k ≠ some w105.heap.size := (fun k e e2 => by have := (ho2.lt k e).2; cases e2; omega); replace M := M.kept hB; replace ho2 := ho2.kept hB; replace hri := hri.kept hB; clear hB; generalize w105.heap.size = b8 at hr8 hb8 hg8 hne8 ⊢)
           refine hK.out _ _ trivial (fun hHeld => ?_)
           clear hK K
           (try simp only [Act.put, List.setIfInBounds_toArray, List.set_cons_zero, List.set_cons_succ])
           refine wpAnyH_one (i := 6) (by kernel_rfl) (gt3 rfl) (fun K hK => ?_)
           (refine step_appendW rfl _ _ 24 rfl 2 Tryz.underlying24 infoI w.heap.size _ _ l1 IV rfl rfl ho2 hri (by omega) M.G.size ?_; intro v' w114 hoA hgr hB hnew; clear hnew; rw [← HLA.out] at hoA; obtain ⟨aA, cA, rfl, hs⟩ := id hoA.reads; clear hs hri; replace hr8 := reads.apart hr8 hgr (fun _ k e h9 => by cases e; exact hne8 _ h9 rfl); replace M := M.grow ho2 hgr; clear hgr hB; clear ho2; clear hne8)
           refine hK.out _ _ trivial (fun hHeld => ?_)
           clear hK K
           (try simp only [Act.put, List.setIfInBounds_toArray, List.set_cons_zero, List.set_cons_succ])
           refine wpAnyH_one (i := 9) (by kernel_rfl) (gt3 rfl) (fun K hK => ?_)
           (go_simp; go_at_call 31; refine Calls.mono (pick_any w _ g vc m _ [(1 : Int), 1, -1] HC.out hm M.S hr8 (by simp) (by simp) (fun k e => by cases e; exact hg8)) ?_; rintro e w115 ⟨k, hk, rfl, S1, hg⟩; obtain ⟨z, ez⟩ : ∃ z, nth [(1 : Int), 1, -1] k = z := ⟨_, rfl⟩; have hz : -1 ≤ z ∧ z ≤ 1 := (by have hx : ∀ x ∈ ([(1 : Int), 1, -1] : List Int), -1 ≤ x ∧ x ≤ 1 := (by decide); have := hx _ (nth_mem hk); rw [ez] at this; exact this); rw [ez]; clear ez hk k hr8 hg8 hb8; replace hoA := own_next hoA M.S hg; replace M := M.src hb4g hgw hg S1; clear S1 hg; dsimp only)
           refine hK.out _ _ trivial (fun hHeld => ?_)
           clear hK K
           (try simp only [Act.put, List.setIfInBounds_toArray, List.set_cons_zero, List.set_cons_succ])
           refine wpAnyH_one (i := 10) (by kernel_rfl) (gt3 rfl) (fun K hK => ?_)
           (go_simp; refine stepB [z] 1 rfl rfl ?_; intro w116 hB hb10 hr10; clear hb10; replace M := M.kept hB; replace hoA := hoA.kept hB; clear hB)
           refine hK.out _ _ trivial (fun hHeld => ?_)
           clear hK K
           (try simp only [Act.put, List.setIfInBounds_toArray, List.set_cons_zero, List.set_cons_succ])
           refine wpAnyH_one (i := 11) (by kernel_rfl) (gt3 rfl) (fun K hK => ?_)
           (refine step_appendW rfl _ _ 24 rfl 2 Tryz.underlying24 infoI w.heap.size _ _ LA [z] rfl rfl hoA hr10 (by simp; omega) M.G.size ?_; intro v' w117 hoF hgr hB hnew; clear hnew; obtain ⟨aF, cF, rfl, hs⟩ := id hoF.reads; clear hs hr10; replace M := M.grow hoA hgr; clear hgr hB; clear hoA)
           refine hK.out _ _ trivial (fun hHeld => ?_)
           clear hK K
           (try simp only [Act.put, List.setIfInBounds_toArray, List.set_cons_zero, List.set_cons_succ])
           refine wpAnyH_take (i := 12) (oi := ?oi108) (v := ?v108) ?hi108 (by kernel_rfl) (by kernel_rfl) (by kernel_rfl) ?hQ108 (Or.inl ⟨?hw108, ?hy108⟩) hHeld ?rest108
           case hi108 => exact gt3 (by rfl)
           case hQ108 => exact fun _ _ _ h => h
           case hw108 => rfl
           case hy108 => (intro w hSw; (try dsimp only at hSw); first | (go_simp; done) | (go_simp; with_reducible rfl))
           (try simp only [Act.put, List.setIfInBounds_toArray, List.set_cons_zero, List.set_cons_succ])
           refine wpAnyH_one (i := 13) (by kernel_rfl) (gt3 rfl) (fun K hK => ?_)
           (have c41 := M.x4.c1; have c4l := M.x4.lt; have c4f := M.x4.fr1; go_simp; clear c41 c4l c4f)
           refine hK.out _ _ trivial (fun hHeld => ?_)
           clear hK K
           (try simp only [Act.put, List.setIfInBounds_toArray, List.set_cons_zero, List.set_cons_succ])
           refine wpAnyH_done (by kernel_rfl) ?_ _
           have HX9 := Lib.hid (HXA.out.snoc (z := z) (by omega) (by omega))
           obtain ⟨LF, hLF⟩ : ∃ LF, LA ++ [z] = LF := ⟨_, rfl⟩
           have hlF : LF.length = LA.length + 1 := by rw [← hLF]; simp
           rw [hLF] at hoF HX9
           have hl1 : (LA ++ [z]).length = LF.length := by rw [hLF]
           have g3 := grownBy_setCell w117 b4 1 (.slice aF LF.length cF)
           have h4' : boxed (w117.setCell ⟨b4, 1, none⟩ (.slice aF LF.length cF)) b4 26 n1 (.slice aF LF.length cF) := put1_boxed M.x4
           (try rw [hl1] at hoF)
           have hoF' := hoF.apart g3 (fun k h1 h2 => by cases h2; exact own_neD hoF M.x4 (by decide) h1)
           have S' := M.S.apart g3 (by simp; omega) (fun b e => by cases e; omega)
           have h2b' : boxed (w117.setCell ⟨b4, 1, none⟩ (.slice aF LF.length cF)) w.heap.size 26 0 (.slice none 0 0) := grown_of M.h2b g3 (by simp; omega)
           clear M hoF g3 hLF
           (try rw [hlF] at hl1)
           (try simp only [hl1])
           (try rw [← hlF])
           go_wp2
           go_meet
           case rel => exact ⟨aF, cF, LF, h4', hoF', HX9, Lib.hid (by omega), S', h2b'⟩
          exact AllReadyH.nil
         refine AllReadyH.cons (o := ?oi110) ?hi110 (fun K hK => ?step110) ?more110
         case hi110 => exact gt3 (by rfl)
         case step110 =>
          (go_simp; refine stepB [(1 : Int), 1, -1] 3 rfl rfl ?_; intro w120 hB hb8 hr8; have hg8 : w104.heap.size ≠ g := (by have := M.S.lt; omega); have hne8 : ∀ k, (Value.slice ao l1.length co).ownBlock = some k → some k ≠ some w104.heap.size := (fun k e e2 => by have := (ho2.lt k e).2; cases e2; omega); replace M := M.kept hB; replace ho1 := ho1.kept hB; replace ho2 := ho2.kept hB; clear hB; generalize w104.heap.size = b8 at hr8 hb8 hg8 hne8 ⊢)
          refine hK.out _ _ trivial (fun hHeld => ?_)
          clear hK K
          (try simp only [Act.put, List.setIfInBounds_toArray, List.set_cons_zero, List.set_cons_succ])
          refine wpAnyH_one (i := 5) (by kernel_rfl) (gt3 rfl) (fun K hK => ?_)
          (go_simp; go_at_call 41; refine Calls.mono (HINV.out _ ho1) ?_; intro e w121 hh; obtain ⟨vi, rfl, hB, hoi⟩ := retI_formJ hh; clear hh; have hri := hoi.reads; clear hoi ho1; obtain ⟨ai, ci, rfl⟩ := reads_formJ hri; replace M := M.kept hB; replace ho2 := ho2.kept hB; replace hr8 := hr8.kept hB; clear hB; dsimp only)
          refine hK.out _ _ trivial (fun hHeld => ?_)
          clear hK K
          (try simp only [Act.put, List.setIfInBounds_toArray, List.set_cons_zero, List.set_cons_succ])
          refine wpAnyH_one (i := 6) (by kernel_rfl) (gt3 rfl) (fun K hK => ?_)
          (refine step_appendW rfl _ _ 24 rfl 2 Tryz.underlying24 infoI w.heap.size _ _ l1 IV rfl rfl ho2 hri (by omega) M.G.size ?_; intro v' w122 hoA hgr hB hnew; clear hnew; rw [← HLA.out] at hoA; obtain ⟨aA, cA, rfl, hs⟩ := id hoA.reads; clear hs hri; replace hr8 := reads.apart hr8 hgr (fun _ k e h9 => by cases e; exact hne8 _ h9 rfl); replace M := M.grow ho2 hgr; clear hgr hB; clear ho2; clear hne8)
          refine hK.out _ _ trivial (fun hHeld => ?_)
          clear hK K
          (try simp only [Act.put, List.setIfInBounds_toArray, List.set_cons_zero, List.set_cons_succ])
          refine wpAnyH_one (i := 9) (by kernel_rfl) (gt3 rfl) (fun K hK => ?_)
          (go_simp; go_at_call 31; refine Calls.mono (pick_any w _ g vc m _ [(1 : Int), 1, -1] HC.out hm M.S hr8 (by simp) (by simp) (fun k e => by cases e; exact hg8)) ?_; rintro e w123 ⟨k, hk, rfl, S1, hg⟩; obtain ⟨z, ez⟩ : ∃ z, nth [(1 : Int), 1, -1] k = z := ⟨_, rfl⟩; have hz : -1 ≤ z ∧ z ≤ 1 := (by have hx : ∀ x ∈ ([(1 : Int), 1, -1] : List Int), -1 ≤ x ∧ x ≤ 1 := (by decide); have := hx _ (nth_mem hk); rw [ez] at this; exact this); rw [ez]; clear ez hk k hr8 hg8 hb8; replace hoA := own_next hoA M.S hg; replace M := M.src hb4g hgw hg S1; clear S1 hg; dsimp only)
          refine hK.out _ _ trivial (fun hHeld => ?_)
          clear hK K
          (try simp only [Act.put, List.setIfInBounds_toArray, List.set_cons_zero, List.set_cons_succ])
          refine wpAnyH_one (i := 10) (by kernel_rfl) (gt3 rfl) (fun K hK => ?_)
          (go_simp; refine stepB [z] 1 rfl rfl ?_; intro w124 hB hb10 hr10; clear hb10; replace M := M.kept hB; replace hoA := hoA.kept hB; clear hB)
          refine hK.out _ _ trivial (fun hHeld => ?_)
          clear hK K
          (try simp only [Act.put, List.setIfInBounds_toArray, List.set_cons_zero, List.set_cons_succ])
          refine wpAnyH_one (i := 11) (by kernel_rfl) (gt3 rfl) (fun K hK => ?_)
          (refine step_appendW rfl _ _ 24 rfl 2 Tryz.underlying24 infoI w.heap.size _ _ LA [z] rfl rfl hoA hr10 (by simp; omega) M.G.size ?_; intro v' w125 hoF hgr hB hnew; clear hnew; obtain ⟨aF, cF, rfl, hs⟩ := id hoF.reads; clear hs hr10; replace M := M.grow hoA hgr; clear hgr hB; clear hoA)
          refine hK.out _ _ trivial (fun hHeld => ?_)
          clear hK K
          (try simp only [Act.put, List.setIfInBounds_toArray, List.set_cons_zero, List.set_cons_succ])
          refine wpAnyH_take (i := 12) (oi := ?oi116) (v := ?v116) ?hi116 (by kernel_rfl) (by kernel_rfl) (by kernel_rfl) ?hQ116 (Or.inl ⟨?hw116, ?hy116⟩) hHeld ?rest116
          case hi116 => exact gt3 (by rfl)
          case hQ116 => exact fun _ _ _ h => h
          case hw116 => rfl
          case hy116 => (intro w hSw; (try dsimp only at hSw); first | (go_simp; done) | (go_simp; with_reducible rfl))
          (try simp only [Act.put, List.setIfInBounds_toArray, List.set_cons_zero, List.set_cons_succ])
          refine wpAnyH_one (i := 13) (by kernel_rfl) (gt3 rfl) (fun K hK => ?_)
          (have c41 := M.x4.c1; have c4l := M.x4.lt; have c4f := M.x4.fr1; go_simp; clear c41 c4l c4f)
          refine hK.out _ _ trivial (fun hHeld => ?_)
          clear hK K
          (try simp only [Act.put, List.setIfInBounds_toArray, List.set_cons_zero, List.set_cons_succ])
          refine wpAnyH_done (by kernel_rfl) ?_ _
          have HX9 := Lib.hid (HXA.out.snoc (z := z) (by omega) (by omega))
          obtain ⟨LF, hLF⟩ : ∃ LF, LA ++ [z] = LF := ⟨_, rfl⟩
          have hlF : LF.length = LA.length + 1 := by rw [← hLF]; simp
          rw [hLF] at hoF HX9
          have hl1 : (LA ++ [z]).length = LF.length := by rw [hLF]
          have g3 := grownBy_setCell w125 b4 1 (.slice aF LF.length cF)
          have h4' : boxed (w125.setCell ⟨b4, 1, none⟩ (.slice aF LF.length cF)) b4 26 n1 (.slice aF LF.length cF) := put1_boxed M.x4
          (try rw [hl1] at hoF)
          have hoF' := hoF.apart g3 (fun k h1 h2 => by cases h2; exact own_neD hoF M.x4 (by decide) h1)
          have S' := M.S.apart g3 (by simp; omega) (fun b e => by cases e; omega)
          have h2b' : boxed (w125.setCell ⟨b4, 1, none⟩ (.slice aF LF.length cF)) w.heap.size 26 0 (.slice none 0 0) := grown_of M.h2b g3 (by simp; omega)
          clear M hoF g3 hLF
          (try rw [hlF] at hl1)
          (try simp only [hl1])
          (try rw [← hlF])
          go_wp2
          go_meet
          case rel => exact ⟨aF, cF, LF, h4', hoF', HX9, Lib.hid (by omega), S', h2b'⟩
         exact AllReadyH.nil
        refine AllReadyH.cons (o := ?oi118) ?hi118 (fun K hK => ?step118) ?more118
        case hi118 => exact gt3 (by rfl)
        case step118 =>
         (go_simp; refine stepB [(1 : Int), 1, -1] 3 rfl rfl ?_; intro w128 hB hb8 hr8; have hg8 : w0.heap.size ≠ g := (by have := M.S.lt; omega); replace M := M.kept hB; replace ho1 := ho1.kept hB; clear hB; generalize w0.heap.size = b8 at hr8 hb8 hg8 ⊢)
         refine hK.out _ _ trivial (fun hHeld => ?_)
         clear hK K
         (try simp only [Act.put, List.setIfInBounds_toArray, List.set_cons_zero, List.set_cons_succ])
         refine wpAnyH_one (i := 2) (by kernel_rfl) (gt3 rfl) (fun K hK => ?_)
         (go_simp; go_at_call 41; refine Calls.mono (l01Own_any _ l1 _ ho1.reads (by omega)) ?_; intro e w129 hh; obtain ⟨vo, rfl, hB, hoo⟩ := retI_formJ hh; clear hh; obtain ⟨ao, co, rfl, hs⟩ := id hoo.reads; clear hs; have hne8 : ∀ k, (Value.slice ao l1.length co).ownBlock = some k → some k ≠ some b8 := (fun k e e2 => by have := (hoo.lt k e).1; cases e2; omega); have ho2 := hoo.mono (B' := w.heap.size) M.G.size; clear hoo; replace M := M.kept hB; replace ho1 := ho1.kept hB; replace hr8 := hr8.kept hB; clear hB; dsimp only)
         refine hK.out _ _ trivial (fun hHeld => ?_)
         clear hK K
         (try simp only [Act.put, List.setIfInBounds_toArray, List.set_cons_zero, List.set_cons_succ])
         refine wpAnyH_one (i := 5) (by kernel_rfl) (gt3 rfl) (fun K hK => ?_)
         (go_simp; go_at_call 41; refine Calls.mono (HINV.out _ ho1) ?_; intro e w130 hh; obtain ⟨vi, rfl, hB, hoi⟩ := retI_formJ hh; clear hh; have hri := hoi.reads; clear hoi ho1; obtain ⟨ai, ci, rfl⟩ := reads_formJ hri; replace M := M.kept hB; replace ho2 := ho2.kept hB; replace hr8 := hr8.kept hB; clear hB; dsimp only)
         refine hK.out _ _ trivial (fun hHeld => ?_)
         clear hK K
         (try simp only [Act.put, List.setIfInBounds_toArray, List.set_cons_zero, List.set_cons_succ])
         refine wpAnyH_one (i := 6) (by kernel_rfl) (gt3 rfl) (fun K hK => ?_)
         (refine step_appendW rfl _ _ 24 rfl 2 Tryz.underlying24 infoI w.heap.size _ _ l1 IV rfl rfl ho2 hri (by omega) M.G.size ?_; intro v' w131 hoA hgr hB hnew; clear hnew; rw [← HLA.out] at hoA; obtain ⟨aA, cA, rfl, hs⟩ := id hoA.reads; clear hs hri; replace hr8 := reads.apart hr8 hgr (fun _ k e h9 => by cases e; exact hne8 _ h9 rfl); replace M := M.grow ho2 hgr; clear hgr hB; clear ho2; clear hne8)
         refine hK.out _ _ trivial (fun hHeld => ?_)
         clear hK K
         (try simp only [Act.put, List.setIfInBounds_toArray, List.set_cons_zero, List.set_cons_succ])
         refine wpAnyH_one (i := 9) (by kernel_rfl) (gt3 rfl) (fun K hK => ?_)
         (go_simp; go_at_call 31; refine Calls.mono (pick_any w _ g vc m _ [(1 : Int), 1, -1] HC.out hm M.S hr8 (by simp) (by simp) (fun k e => by cases e; exact hg8)) ?_; rintro e w132 ⟨k, hk, rfl, S1, hg⟩; obtain ⟨z, ez⟩ : ∃ z, nth [(1 : Int), 1, -1] k = z := ⟨_, rfl⟩; have hz : -1 ≤ z ∧ z ≤ 1 := (by have hx : ∀ x ∈ ([(1 : Int), 1, -1] : List Int), -1 ≤ x ∧ x ≤ 1 := (by decide); have := hx _ (nth_mem hk); rw [ez] at this; exact this); rw [ez]; clear ez hk k hr8 hg8 hb8; replace hoA := own_next hoA M.S hg; replace M := M.src hb4g hgw hg S1; clear S1 hg; dsimp only)
         refine hK.out _ _ trivial (fun hHeld => ?_)
         clear hK K
         (try simp only [Act.put, List.setIfInBounds_toArray, List.set_cons_zero, List.set_cons_succ])
         refine wpAnyH_one (i := 10) (by kernel_rfl) (gt3 rfl) (fun K hK => ?_)
         (go_simp; refine stepB [z] 1 rfl rfl ?_; intro w133 hB hb10 hr10; clear hb10; replace M := M.kept hB; replace hoA := hoA.kept hB; clear hB)
         refine hK.out _ _ trivial (fun hHeld => ?_)
         clear hK K
         (try simp only [Act.put, List.setIfInBounds_toArray, List.set_cons_zero, List.set_cons_succ])
         refine wpAnyH_one (i := 11) (by kernel_rfl) (gt3 rfl) (fun K hK => ?_)
         (refine step_appendW rfl _ _ 24 rfl 2 Tryz.underlying24 infoI w.heap.size _ _ LA [z] rfl rfl hoA hr10 (by simp; omega) M.G.size ?_; intro v' w134 hoF hgr hB hnew; clear hnew; obtain ⟨aF, cF, rfl, hs⟩ := id hoF.reads; clear hs hr10; replace M := M.grow hoA hgr; clear hgr hB; clear hoA)
         refine hK.out _ _ trivial (fun hHeld => ?_)
         clear hK K
         (try simp only [Act.put, List.setIfInBounds_toArray, List.set_cons_zero, List.set_cons_succ])
         refine wpAnyH_take (i := 12) (oi := ?oi125) (v := ?v125) ?hi125 (by kernel_rfl) (by kernel_rfl) (by kernel_rfl) ?hQ125 (Or.inl ⟨?hw125, ?hy125⟩) hHeld ?rest125
         case hi125 => exact gt3 (by rfl)
         case hQ125 => exact fun _ _ _ h => h
         case hw125 => rfl
         case hy125 => (intro w hSw; (try dsimp only at hSw); first | (go_simp; done) | (go_simp; with_reducible rfl))
         (try simp only [Act.put, List.setIfInBounds_toArray, List.set_cons_zero, List.set_cons_succ])
         refine wpAnyH_one (i := 13) (by kernel_rfl) (gt3 rfl) (fun K hK => ?_)
         (have c41 := M.x4.c1; have c4l := M.x4.lt; have c4f := M.x4.fr1; go_simp; clear c41 c4l c4f)
         refine hK.out _ _ trivial (fun hHeld => ?_)
         clear hK K
         (try simp only [Act.put, List.setIfInBounds_toArray, List.set_cons_zero, List.set_cons_succ])
         refine wpAnyH_done (by kernel_rfl) ?_ _
         have HX9 := Lib.hid (HXA.out.snoc (z := z) (by omega) (by omega))
         obtain ⟨LF, hLF⟩ : ∃ LF, LA ++ [z] = LF := ⟨_, rfl⟩
         have hlF : LF.length = LA.length + 1 := by rw [← hLF]; simp
         rw [hLF] at hoF HX9
         have hl1 : (LA ++ [z]).length = LF.length := by rw [hLF]
         have g3 := grownBy_setCell w134 b4 1 (.slice aF LF.length cF)
         have h4' : boxed (w134.setCell ⟨b4, 1, none⟩ (.slice aF LF.length cF)) b4 26 n1 (.slice aF LF.length cF) := put1_boxed M.x4
         (try rw [hl1] at hoF)
         have hoF' := hoF.apart g3 (fun k h1 h2 => by cases h2; exact own_neD hoF M.x4 (by decide) h1)
         have S' := M.S.apart g3 (by simp; omega) (fun b e => by cases e; omega)
         have h2b' : boxed (w134.setCell ⟨b4, 1, none⟩ (.slice aF LF.length cF)) w.heap.size 26 0 (.slice none 0 0) := grown_of M.h2b g3 (by simp; omega)
         clear M hoF g3 hLF
         (try rw [hlF] at hl1)
         (try simp only [hl1])
         (try rw [← hlF])
         go_wp2
         go_meet
         case rel => exact ⟨aF, cF, LF, h4', hoF', HX9, Lib.hid (by omega), S', h2b'⟩
        exact AllReadyH.nil
       refine AllReadyH.cons (o := ?oi127) ?hi127 (fun K hK => ?step127) ?more127
       case hi127 => exact gt3 (by rfl)
       case step127 =>
        (go_simp; refine stepB [(1 : Int), 1, -1] 3 rfl rfl ?_; intro w137 hB hb8 hr8; have hg8 : w0.heap.size ≠ g := (by have := M.S.lt; omega); replace M := M.kept hB; replace ho1 := ho1.kept hB; clear hB; generalize w0.heap.size = b8 at hr8 hb8 hg8 ⊢)
        refine hK.out _ _ trivial (fun hHeld => ?_)
        clear hK K
        (try simp only [Act.put, List.setIfInBounds_toArray, List.set_cons_zero, List.set_cons_succ])
        refine wpAnyH_one (i := 1) (by kernel_rfl) (gt3 rfl) (fun K hK => ?_)
        (have c41 := M.x4.c1; have c4l := M.x4.lt; have c4f := M.x4.fr1; go_simp)
        refine hK.out _ _ trivial (fun hHeld => ?_)
        clear hK K
        (try simp only [Act.put, List.setIfInBounds_toArray, List.set_cons_zero, List.set_cons_succ])
        refine wpAnyH_one (i := 2) (by kernel_rfl) (gt3 rfl) (fun K hK => ?_)
        (go_simp; go_at_call 41; refine Calls.mono (l01Own_any _ l1 _ ho1.reads (by omega)) ?_; intro e w139 hh; obtain ⟨vo, rfl, hB, hoo⟩ := retI_formJ hh; clear hh; obtain ⟨ao, co, rfl, hs⟩ := id hoo.reads; clear hs; have hne8 : ∀ k, (Value.slice ao l1.length co).ownBlock = some k → some k ≠ some b8 := (fun k e e2 => by have := (hoo.lt k e).1; cases e2; omega); have ho2 := hoo.mono (B' := w.heap.size) M.G.size; clear hoo; replace M := M.kept hB; replace ho1 := ho1.kept hB; replace hr8 := hr8.kept hB; clear hB; dsimp only)
        refine hK.out _ _ trivial (fun hHeld => ?_)
        clear hK K
        (try simp only [Act.put, List.setIfInBounds_toArray, List.set_cons_zero, List.set_cons_succ])
        refine wpAnyH_one (i := 5) (by kernel_rfl) (gt3 rfl) (fun K hK => ?_)
        (go_simp; go_at_call 41; refine Calls.mono (HINV.out _ ho1) ?_; intro e w140 hh; obtain ⟨vi, rfl, hB, hoi⟩ := retI_formJ hh; clear hh; have hri := hoi.reads; clear hoi ho1; obtain ⟨ai, ci, rfl⟩ := reads_formJ hri; replace M := M.kept hB; replace ho2 := ho2.kept hB; replace hr8 := hr8.kept hB; clear hB; dsimp only)
        refine hK.out _ _ trivial (fun hHeld => ?_)
        clear hK K
        (try simp only [Act.put, List.setIfInBounds_toArray, List.set_cons_zero, List.set_cons_succ])
        refine wpAnyH_one (i := 6) (by kernel_rfl) (gt3 rfl) (fun K hK => ?_)
        (refine step_appendW rfl _ _ 24 rfl 2 Tryz.underlying24 infoI w.heap.size _ _ l1 IV rfl rfl ho2 hri (by omega) M.G.size ?_; intro v' w141 hoA hgr hB hnew; clear hnew; rw [← HLA.out] at hoA; obtain ⟨aA, cA, rfl, hs⟩ := id hoA.reads; clear hs hri; replace hr8 := reads.apart hr8 hgr (fun _ k e h9 => by cases e; exact hne8 _ h9 rfl); replace M := M.grow ho2 hgr; clear hgr hB; clear ho2; clear hne8)
        refine hK.out _ _ trivial (fun hHeld => ?_)
        clear hK K
        (try simp only [Act.put, List.setIfInBounds_toArray, List.set_cons_zero, List.set_cons_succ])
        refine wpAnyH_one (i := 9) (by kernel_rfl) (gt3 rfl) (fun K hK => ?_)
        (go_simp; go_at_call 31; refine Calls.mono (pick_any w _ g vc m _ [(1 : Int), 1, -1] HC.out hm M.S hr8 (by simp) (by simp) (fun k e => by cases e; exact hg8)) ?_; rintro e w142 ⟨k, hk, rfl, S1, hg⟩; obtain ⟨z, ez⟩ : ∃ z, nth [(1 : Int), 1, -1] k = z := ⟨_, rfl⟩; have hz : -1 ≤ z ∧ z ≤ 1 := (by have hx : ∀ x ∈ ([(1 : Int), 1, -1] : List Int), -1 ≤ x ∧ x ≤ 1 := (by decide); have := hx _ (nth_mem hk); rw [ez] at this; exact this); rw [ez]; clear ez hk k hr8 hg8 hb8; replace hoA := own_next hoA M.S hg; replace M := M.src hb4g hgw hg S1; clear S1 hg; dsimp only)
        refine hK.out _ _ trivial (fun hHeld => ?_)
        clear hK K
        (try simp only [Act.put, List.setIfInBounds_toArray, List.set_cons_zero, List.set_cons_succ])
        refine wpAnyH_one (i := 10) (by kernel_rfl) (gt3 rfl) (fun K hK => ?_)
        (go_simp; refine stepB [z] 1 rfl rfl ?_; intro w143 hB hb10 hr10; clear hb10; replace M := M.kept hB; replace hoA := hoA.kept hB; clear hB)
        refine hK.out _ _ trivial (fun hHeld => ?_)
        clear hK K
        (try simp only [Act.put, List.setIfInBounds_toArray, List.set_cons_zero, List.set_cons_succ])
        refine wpAnyH_one (i := 11) (by kernel_rfl) (gt3 rfl) (fun K hK => ?_)
        (refine step_appendW rfl _ _ 24 rfl 2 Tryz.underlying24 infoI w.heap.size _ _ LA [z] rfl rfl hoA hr10 (by simp; omega) M.G.size ?_; intro v' w144 hoF hgr hB hnew; clear hnew; obtain ⟨aF, cF, rfl, hs⟩ := id hoF.reads; clear hs hr10; replace M := M.grow hoA hgr; clear hgr hB; clear hoA)
        refine hK.out _ _ trivial (fun hHeld => ?_)
        clear hK K
        (try simp only [Act.put, List.setIfInBounds_toArray, List.set_cons_zero, List.set_cons_succ])
        refine wpAnyH_take (i := 12) (oi := ?oi135) (v := ?v135) ?hi135 (by kernel_rfl) (by kernel_rfl) (by kernel_rfl) ?hQ135 (Or.inl ⟨?hw135, ?hy135⟩) hHeld ?rest135
        case hi135 => exact gt3 (by rfl)
        case hQ135 => exact fun _ _ _ h => h
        case hw135 => rfl
        case hy135 => (intro w hSw; (try dsimp only at hSw); first | (go_simp; done) | (go_simp; with_reducible rfl))
        (try simp only [Act.put, List.setIfInBounds_toArray, List.set_cons_zero, List.set_cons_succ])
        refine wpAnyH_one (i := 13) (by kernel_rfl) (gt3 rfl) (fun K hK => ?_)
        (have c41 := M.x4.c1; have c4l := M.x4.lt; have c4f := M.x4.fr1; go_simp; clear c41 c4l c4f)
        refine hK.out _ _ trivial (fun hHeld => ?_)
        clear hK K
        (try simp only [Act.put, List.setIfInBounds_toArray, List.set_cons_zero, List.set_cons_succ])
        refine wpAnyH_done (by kernel_rfl) ?_ _
        have HX9 := Lib.hid (HXA.out.snoc (z := z) (by omega) (by omega))
        obtain ⟨LF, hLF⟩ : ∃ LF, LA ++ [z] = LF := ⟨_, rfl⟩
        have hlF : LF.length = LA.length + 1 := by rw [← hLF]; simp
        rw [hLF] at hoF HX9
        have hl1 : (LA ++ [z]).length = LF.length := by rw [hLF]
        have g3 := grownBy_setCell w144 b4 1 (.slice aF LF.length cF)
        have h4' : boxed (w144.setCell ⟨b4, 1, none⟩ (.slice aF LF.length cF)) b4 26 n1 (.slice aF LF.length cF) := put1_boxed M.x4
        (try rw [hl1] at hoF)
        have hoF' := hoF.apart g3 (fun k h1 h2 => by cases h2; exact own_neD hoF M.x4 (by decide) h1)
        have S' := M.S.apart g3 (by simp; omega) (fun b e => by cases e; omega)
        have h2b' : boxed (w144.setCell ⟨b4, 1, none⟩ (.slice aF LF.length cF)) w.heap.size 26 0 (.slice none 0 0) := grown_of M.h2b g3 (by simp; omega)
        clear M hoF g3 hLF
        (try rw [hlF] at hl1)
        (try simp only [hl1])
        (try rw [← hlF])
        go_wp2
        go_meet
        case rel => exact ⟨aF, cF, LF, h4', hoF', HX9, Lib.hid (by omega), S', h2b'⟩
       exact AllReadyH.nil
      refine AllReadyH.cons (o := ?oi137) ?hi137 (fun K hK => ?step137) ?more137
      case hi137 => exact gt3 (by rfl)
      case step137 =>
       (go_simp; refine stepB [(1 : Int), 1, -1] 3 rfl rfl ?_; intro w147 hB hb8 hr8; have hg8 : w0.heap.size ≠ g := (by have := M.S.lt; omega); replace M := M.kept hB; replace ho1 := ho1.kept hB; clear hB; generalize w0.heap.size = b8 at hr8 hb8 hg8 ⊢)
       refine hK.out _ _ trivial (fun hHeld => ?_)
       clear hK K
       (try simp only [Act.put, List.setIfInBounds_toArray, List.set_cons_zero, List.set_cons_succ])
       refine wpAnyH_ready (rs := [1, 4]) (by kernel_rfl) (by simp) ?_
       refine AllReadyH.cons (o := ?oi138) ?hi138 (fun K hK => ?step138) ?more138
       case hi138 => exact gt3 (by rfl)
       case step138 =>
        (have c41 := M.x4.c1; have c4l := M.x4.lt; have c4f := M.x4.fr1; go_simp)
        refine hK.out _ _ trivial (fun hHeld => ?_)
        clear hK K
        (try simp only [Act.put, List.setIfInBounds_toArray, List.set_cons_zero, List.set_cons_succ])
        refine wpAnyH_ready (rs := [2, 4]) (by kernel_rfl) (by simp) ?_
        refine AllReadyH.cons (o := ?oi139) ?hi139 (fun K hK => ?step139) ?more139
        case hi139 => exact gt3 (by rfl)
        case step139 =>
         (go_simp; go_at_call 41; refine Calls.mono (l01Own_any _ l1 _ ho1.reads (by omega)) ?_; intro e w149 hh; obtain ⟨vo, rfl, hB, hoo⟩ := retI_formJ hh; clear hh; obtain ⟨ao, co, rfl, hs⟩ := id hoo.reads; clear hs; have hne8 : ∀ k, (Value.slice ao l1.length co).ownBlock = some k → some k ≠ some b8 := (fun k e e2 => by have := (hoo.lt k e).1; cases e2; omega); have ho2 := hoo.mono (B' := w.heap.size) M.G.size; clear hoo; replace M := M.kept hB; replace ho1 := ho1.kept hB; replace hr8 := hr8.kept hB; clear hB; dsimp only)
         refine hK.out _ _ trivial (fun hHeld => ?_)
         clear hK K
         (try simp only [Act.put, List.setIfInBounds_toArray, List.set_cons_zero, List.set_cons_succ])
         refine wpAnyH_one (i := 4) (by kernel_rfl) (gt3 rfl) (fun K hK => ?_)
         (have c41 := M.x4.c1; have c4l := M.x4.lt; have c4f := M.x4.fr1; go_simp)
         refine hK.out _ _ trivial (fun hHeld => ?_)
         clear hK K
         (try simp only [Act.put, List.setIfInBounds_toArray, List.set_cons_zero, List.set_cons_succ])
         refine wpAnyH_one (i := 5) (by kernel_rfl) (gt3 rfl) (fun K hK => ?_)
         (go_simp; go_at_call 41; refine Calls.mono (HINV.out _ ho1) ?_; intro e w151 hh; obtain ⟨vi, rfl, hB, hoi⟩ := retI_formJ hh; clear hh; have hri := hoi.reads; clear hoi ho1; obtain ⟨ai, ci, rfl⟩ := reads_formJ hri; replace M := M.kept hB; replace ho2 := ho2.kept hB; replace hr8 := hr8.kept hB; clear hB; dsimp only)
         refine hK.out _ _ trivial (fun hHeld => ?_)
         clear hK K
         (try simp only [Act.put, List.setIfInBounds_toArray, List.set_cons_zero, List.set_cons_succ])
         refine wpAnyH_one (i := 6) (by kernel_rfl) (gt3 rfl) (fun K hK => ?_)
         (refine step_appendW rfl _ _ 24 rfl 2 Tryz.underlying24 infoI w.heap.size _ _ l1 IV rfl rfl ho2 hri (by omega) M.G.size ?_; intro v' w152 hoA hgr hB hnew; clear hnew; rw [← HLA.out] at hoA; obtain ⟨aA, cA, rfl, hs⟩ := id hoA.reads; clear hs hri; replace hr8 := reads.apart hr8 hgr (fun _ k e h9 => by cases e; exact hne8 _ h9 rfl); replace M := M.grow ho2 hgr; clear hgr hB; clear ho2; clear hne8)
         refine hK.out _ _ trivial (fun hHeld => ?_)
         clear hK K
         (try simp only [Act.put, List.setIfInBounds_toArray, List.set_cons_zero, List.set_cons_succ])
         refine wpAnyH_one (i := 9) (by kernel_rfl) (gt3 rfl) (fun K hK => ?_)
         (go_simp; go_at_call 31; refine Calls.mono (pick_any w _ g vc m _ [(1 : Int), 1, -1] HC.out hm M.S hr8 (by simp) (by simp) (fun k e => by cases e; exact hg8)) ?_; rintro e w153 ⟨k, hk, rfl, S1, hg⟩; obtain ⟨z, ez⟩ : ∃ z, nth [(1 : Int), 1, -1] k = z := ⟨_, rfl⟩; have hz : -1 ≤ z ∧ z ≤ 1 := (by have hx : ∀ x ∈ ([(1 : Int), 1, -1] : List Int), -1 ≤ x ∧ x ≤ 1 := (by decide); have := hx _ (nth_mem hk); rw [ez] at this; exact this); rw [ez]; clear ez hk k hr8 hg8 hb8; replace hoA := own_next hoA M.S hg; replace M := M.src hb4g hgw hg S1; clear S1 hg; dsimp only)
         refine hK.out _ _ trivial (fun hHeld => ?_)
         clear hK K
         (try simp only [Act.put, List.setIfInBounds_toArray, List.set_cons_zero, List.set_cons_succ])
         refine wpAnyH_one (i := 10) (by kernel_rfl) (gt3 rfl) (fun K hK => ?_)
         (go_simp; refine stepB [z] 1 rfl rfl ?_; intro w154 hB hb10 hr10; clear hb10; replace M := M.kept hB; replace hoA := hoA.kept hB; clear hB)
         refine hK.out _ _ trivial (fun hHeld => ?_)
         clear hK K
         (try simp only [Act.put, List.setIfInBounds_toArray, List.set_cons_zero, List.set_cons_succ])
         refine wpAnyH_one (i := 11) (by kernel_rfl) (gt3 rfl) (fun K hK => ?_)
         (refine step_appendW rfl _ _ 24 rfl 2 Tryz.underlying24 infoI w.heap.size _ _ LA [z] rfl rfl hoA hr10 (by simp; omega) M.G.size ?_; intro v' w155 hoF hgr hB hnew; clear hnew; obtain ⟨aF, cF, rfl, hs⟩ := id hoF.reads; clear hs hr10; replace M := M.grow hoA hgr; clear hgr hB; clear hoA)
         refine hK.out _ _ trivial (fun hHeld => ?_)
         clear hK K
         (try simp only [Act.put, List.setIfInBounds_toArray, List.set_cons_zero, List.set_cons_succ])
         refine wpAnyH_take (i := 12) (oi := ?oi146) (v := ?v146) ?hi146 (by kernel_rfl) (by kernel_rfl) (by kernel_rfl) ?hQ146 (Or.inl ⟨?hw146, ?hy146⟩) hHeld ?rest146
         case hi146 => exact gt3 (by rfl)
         case hQ146 => exact fun _ _ _ h => h
         case hw146 => rfl
         case hy146 => (intro w hSw; (try dsimp only at hSw); first | (go_simp; done) | (go_simp; with_reducible rfl))
         (try simp only [Act.put, List.setIfInBounds_toArray, List.set_cons_zero, List.set_cons_succ])
         refine wpAnyH_one (i := 13) (by kernel_rfl) (gt3 rfl) (fun K hK => ?_)
         (have c41 := M.x4.c1; have c4l := M.x4.lt; have c4f := M.x4.fr1; go_simp; clear c41 c4l c4f)
         refine hK.out _ _ trivial (fun hHeld => ?_)
         clear hK K
         (try simp only [Act.put, List.setIfInBounds_toArray, List.set_cons_zero, List.set_cons_succ])
         refine wpAnyH_done (by kernel_rfl) ?_ _
         have HX9 := Lib.hid (HXA.out.snoc (z := z) (by omega) (by omega))
         obtain ⟨LF, hLF⟩ : ∃ LF, LA ++ [z] = LF := ⟨_, rfl⟩
         have hlF : LF.length = LA.length + 1 := by rw [← hLF]; simp
         rw [hLF] at hoF HX9
         have hl1 : (LA ++ [z]).length = LF.length := by rw [hLF]
         have g3 := grownBy_setCell w155 b4 1 (.slice aF LF.length cF)
         have h4' : boxed (w155.setCell ⟨b4, 1, none⟩ (.slice aF LF.length cF)) b4 26 n1 (.slice aF LF.length cF) := put1_boxed M.x4
         (try rw [hl1] at hoF)
         have hoF' := hoF.apart g3 (fun k h1 h2 => by cases h2; exact own_neD hoF M.x4 (by decide) h1)
         have S' := M.S.apart g3 (by simp; omega) (fun b e => by cases e; omega)
         have h2b' : boxed (w155.setCell ⟨b4, 1, none⟩ (.slice aF LF.length cF)) w.heap.size 26 0 (.slice none 0 0) := grown_of M.h2b g3 (by simp; omega)
         clear M hoF g3 hLF
         (try rw [hlF] at hl1)
         (try simp only [hl1])
         (try rw [← hlF])
         go_wp2
         go_meet
         case rel => exact ⟨aF, cF, LF, h4', hoF', HX9, Lib.hid (by omega), S', h2b'⟩
        refine AllReadyH.cons (o := ?oi148) ?hi148 (fun K hK => ?step148) ?more148
        case hi148 => exact gt3 (by rfl)
        case step148 =>
         (have c41 := M.x4.c1; have c4l := M.x4.lt; have c4f := M.x4.fr1; go_simp)
         refine hK.out _ _ trivial (fun hHeld => ?_)
         clear hK K
         (try simp only [Act.put, List.setIfInBounds_toArray, List.set_cons_zero, List.set_cons_succ])
         refine wpAnyH_one (i := 2) (by kernel_rfl) (gt3 rfl) (fun K hK => ?_)
         (go_simp; go_at_call 41; refine Calls.mono (l01Own_any _ l1 _ ho1.reads (by omega)) ?_; intro e w159 hh; obtain ⟨vo, rfl, hB, hoo⟩ := retI_formJ hh; clear hh; obtain ⟨ao, co, rfl, hs⟩ := id hoo.reads; clear hs; have hne8 : ∀ k, (Value.slice ao l1.length co).ownBlock = some k → some k ≠ some b8 := (fun k e e2 => by have := (hoo.lt k e).1; cases e2; omega); have ho2 := hoo.mono (B' := w.heap.size) M.G.size; clear hoo; replace M := M.kept hB; replace ho1 := ho1.kept hB; replace hr8 := hr8.kept hB; clear hB; dsimp only)
         refine hK.out _ _ trivial (fun hHeld => ?_)
         clear hK K
         (try simp only [Act.put, List.setIfInBounds_toArray, List.set_cons_zero, List.set_cons_succ])
         refine wpAnyH_one (i := 5) (by kernel_rfl) (gt3 rfl) (fun K hK => ?_)
         (go_simp; go_at_call 41; refine Calls.mono (HINV.out _ ho1) ?_; intro e w160 hh; obtain ⟨vi, rfl, hB, hoi⟩ := retI_formJ hh; clear hh; have hri := hoi.reads; clear hoi ho1; obtain ⟨ai, ci, rfl⟩ := reads_formJ hri; replace M := M.kept hB; replace ho2 := ho2.kept hB; replace hr8 := hr8.kept hB; clear hB; dsimp only)
         refine hK.out _ _ trivial (fun hHeld => ?_)
         clear hK K
         (try simp only [Act.put, List.setIfInBounds_toArray, List.set_cons_zero, List.set_cons_succ])
         refine wpAnyH_one (i := 6) (by kernel_rfl) (gt3 rfl) (fun K hK => ?_)
         (refine step_appendW rfl _ _ 24 rfl 2 Tryz.underlying24 infoI w.heap.size _ _ l1 IV rfl rfl ho2 hri (by omega) M.G.size ?_; intro v' w161 hoA hgr hB hnew; clear hnew; rw [← HLA.out] at hoA; obtain ⟨aA, cA, rfl, hs⟩ := id hoA.reads; clear hs hri; replace hr8 := reads.apart hr8 hgr (fun _ k e h9 => by cases e; exact hne8 _ h9 rfl); replace M := M.grow ho2 hgr; clear hgr hB; clear ho2; clear hne8)
         refine hK.out _ _ trivial (fun hHeld => ?_)
         clear hK K
         (try simp only [Act.put, List.setIfInBounds_toArray, List.set_cons_zero, List.set_cons_succ])
         refine wpAnyH_one (i := 9) (by kernel_rfl) (gt3 rfl) (fun K hK => ?_)
         (go_simp; go_at_call 31; refine Calls.mono (pick_any w _ g vc m _ [(1 : Int), 1, -1] HC.out hm M.S hr8 (by simp) (by simp) (fun k e => by cases e; exact hg8)) ?_; rintro e w162 ⟨k, hk, rfl, S1, hg⟩; obtain ⟨z, ez⟩ : ∃ z, nth [(1 : Int), 1, -1] k = z := ⟨_, rfl⟩; have hz : -1 ≤ z ∧ z ≤ 1 := (by have hx : ∀ x ∈ ([(1 : Int), 1, -1] : List Int), -1 ≤ x ∧ x ≤ 1 := (by decide); have := hx _ (nth_mem hk); rw [ez] at this; exact this); rw [ez]; clear ez hk k hr8 hg8 hb8; replace hoA := own_next hoA M.S hg; replace M := M.src hb4g hgw hg S1; clear S1 hg; dsimp only)
         refine hK.out _ _ trivial (fun hHeld => ?_)
         clear hK K
         (try simp only [Act.put, List.setIfInBounds_toArray, List.set_cons_zero, List.set_cons_succ])
         refine wpAnyH_one (i := 10) (by kernel_rfl) (gt3 rfl) (fun K hK => ?_)
         (go_simp; refine stepB [z] 1 rfl rfl ?_; intro w163 hB hb10 hr10; clear hb10; replace M := M.kept hB; replace hoA := hoA.kept hB; clear hB)
         refine hK.out _ _ trivial (fun hHeld => ?_)
         clear hK K
         (try simp only [Act.put, List.setIfInBounds_toArray, List.set_cons_zero, List.set_cons_succ])
         refine wpAnyH_one (i := 11) (by kernel_rfl) (gt3 rfl) (fun K hK => ?_)
         (refine step_appendW rfl _ _ 24 rfl 2 Tryz.underlying24 infoI w.heap.size _ _ LA [z] rfl rfl hoA hr10 (by simp; omega) M.G.size ?_; intro v' w164 hoF hgr hB hnew; clear hnew; obtain ⟨aF, cF, rfl, hs⟩ := id hoF.reads; clear hs hr10; replace M := M.grow hoA hgr; clear hgr hB; clear hoA)
         refine hK.out _ _ trivial (fun hHeld => ?_)
         clear hK K
         (try simp only [Act.put, List.setIfInBounds_toArray, List.set_cons_zero, List.set_cons_succ])
         refine wpAnyH_take (i := 12) (oi := ?oi155) (v := ?v155) ?hi155 (by kernel_rfl) (by kernel_rfl) (by kernel_rfl) ?hQ155 (Or.inl ⟨?hw155, ?hy155⟩) hHeld ?rest155
         case hi155 => exact gt3 (by rfl)
         case hQ155 => exact fun _ _ _ h => h
         case hw155 => rfl
         case hy155 => (intro w hSw; (try dsimp only at hSw); first | (go_simp; done) | (go_simp; with_reducible rfl))
         (try simp only [Act.put, List.setIfInBounds_toArray, List.set_cons_zero, List.set_cons_succ])
         refine wpAnyH_one (i := 13) (by kernel_rfl) (gt3 rfl) (fun K hK => ?_)
         (have c41 := M.x4.c1; have c4l := M.x4.lt; have c4f := M.x4.fr1; go_simp; clear c41 c4l c4f)
         refine hK.out _ _ trivial (fun hHeld => ?_)
         clear hK K
         (try simp only [Act.put, List.setIfInBounds_toArray, List.set_cons_zero, List.set_cons_succ])
         refine wpAnyH_done (by kernel_rfl) ?_ _
         have HX9 := Lib.hid (HXA.out.snoc (z := z) (by omega) (by omega))
         obtain ⟨LF, hLF⟩ : ∃ LF, LA ++ [z] = LF := ⟨_, rfl⟩
         have hlF : LF.length = LA.length + 1 := by rw [← hLF]; simp
         rw [hLF] at hoF HX9
         have hl1 : (LA ++ [z]).length = LF.length := by rw [hLF]
         have g3 := grownBy_setCell w164 b4 1 (.slice aF LF.length cF)
         have h4' : boxed (w164.setCell ⟨b4, 1, none⟩ (.slice aF LF.length cF)) b4 26 n1 (.slice aF LF.length cF) := put1_boxed M.x4
         (try rw [hl1] at hoF)
         have hoF' := hoF.apart g3 (fun k h1 h2 => by cases h2; exact own_neD hoF M.x4 (by decide) h1)
         have S' := M.S.apart g3 (by simp; omega) (fun b e => by cases e; omega)
         have h2b' : boxed (w164.setCell ⟨b4, 1, none⟩ (.slice aF LF.length cF)) w.heap.size 26 0 (.slice none 0 0) := grown_of M.h2b g3 (by simp; omega)
         clear M hoF g3 hLF
         (try rw [hlF] at hl1)
         (try simp only [hl1])
         (try rw [← hlF])
         go_wp2
         go_meet
         case rel => exact ⟨aF, cF, LF, h4', hoF', HX9, Lib.hid (by omega), S', h2b'⟩
        exact AllReadyH.nil
       refine AllReadyH.cons (o := ?oi157) ?hi157 (fun K hK => ?step157) ?more157
       case hi157 => exact gt3 (by rfl)
       case step157 =>
        (have c41 := M.x4.c1; have c4l := M.x4.lt; have c4f := M.x4.fr1; go_simp)
        refine hK.out _ _ trivial (fun hHeld => ?_)
        clear hK K
        (try simp only [Act.put, List.setIfInBounds_toArray, List.set_cons_zero, List.set_cons_succ])
        refine wpAnyH_one (i := 1) (by kernel_rfl) (gt3 rfl) (fun K hK => ?_)
        (have c41 := M.x4.c1; have c4l := M.x4.lt; have c4f := M.x4.fr1; go_simp)
        refine hK.out _ _ trivial (fun hHeld => ?_)
        clear hK K
        (try simp only [Act.put, List.setIfInBounds_toArray, List.set_cons_zero, List.set_cons_succ])
        refine wpAnyH_one (i := 2) (by kernel_rfl) (gt3 rfl) (fun K hK => ?_)
        (go_simp; go_at_call 41; refine Calls.mono (l01Own_any _ l1 _ ho1.reads (by omega)) ?_; intro e w169 hh; obtain ⟨vo, rfl, hB, hoo⟩ := retI_formJ hh; clear hh; obtain ⟨ao, co, rfl, hs⟩ := id hoo.reads; clear hs; have hne8 : ∀ k, (Value.slice ao l1.length co).ownBlock = some k → some k ≠ some b8 := (fun k e e2 => by have := (hoo.lt k e).1; cases e2; omega); have ho2 := hoo.mono (B' := w.heap.size) M.G.size; clear hoo; replace M := M.kept hB; replace ho1 := ho1.kept hB; replace hr8 := hr8.kept hB; clear hB; dsimp only)
        refine hK.out _ _ trivial (fun hHeld => ?_)
        clear hK K
        (try simp only [Act.put, List.setIfInBounds_toArray, List.set_cons_zero, List.set_cons_succ])
        refine wpAnyH_one (i := 5) (by kernel_rfl) (gt3 rfl) (fun K hK => ?_)
        (go_simp; go_at_call 41; refine Calls.mono (HINV.out _ ho1) ?_; intro e w170 hh; obtain ⟨vi, rfl, hB, hoi⟩ := retI_formJ hh; clear hh; have hri := hoi.reads; clear hoi ho1; obtain ⟨ai, ci, rfl⟩ := reads_formJ hri; replace M := M.kept hB; replace ho2 := ho2.kept hB; replace hr8 := hr8.kept hB; clear hB; dsimp only)
        refine hK.out _ _ trivial (fun hHeld => ?_)
        clear hK K
        (try simp only [Act.put, List.setIfInBounds_toArray, List.set_cons_zero, List.set_cons_succ])
        refine wpAnyH_one (i := 6) (by kernel_rfl) (gt3 rfl) (fun K hK => ?_)
        (refine step_appendW rfl _ _ 24 rfl 2 Tryz.underlying24 infoI w.heap.size _ _ l1 IV rfl rfl ho2 hri (by omega) M.G.size ?_; intro v' w171 hoA hgr hB hnew; clear hnew; rw [← HLA.out] at hoA; obtain ⟨aA, cA, rfl, hs⟩ := id hoA.reads; clear hs hri; replace hr8 := reads.apart hr8 hgr (fun _ k e h9 => by cases e; exact hne8 _ h9 rfl); replace M := M.grow ho2 hgr; clear hgr hB; clear ho2; clear hne8)
        refine hK.out _ _ trivial (fun hHeld => ?_)
        clear hK K
        (try simp only [Act.put, List.setIfInBounds_toArray, List.set_cons_zero, List.set_cons_succ])
        refine wpAnyH_one (i := 9) (by kernel_rfl) (gt3 rfl) (fun K hK => ?_)
        (go_simp; go_at_call 31; refine Calls.mono (pick_any w _ g vc m _ [(1 : Int), 1, -1] HC.out hm M.S hr8 (by simp) (by simp) (fun k e => by cases e; exact hg8)) ?_; rintro e w172 ⟨k, hk, rfl, S1, hg⟩; obtain ⟨z, ez⟩ : ∃ z, nth [(1 : Int), 1, -1] k = z := ⟨_, rfl⟩; have hz : -1 ≤ z ∧ z ≤ 1 := (by have hx : ∀ x ∈ ([(1 : Int), 1, -1] : List Int), -1 ≤ x ∧ x ≤ 1 := (by decide); have := hx _ (nth_mem hk); rw [ez] at this; exact this); rw [ez]; clear ez hk k hr8 hg8 hb8; replace hoA := own_next hoA M.S hg; replace M := M.src hb4g hgw hg S1; clear S1 hg; dsimp only)
        refine hK.out _ _ trivial (fun hHeld => ?_)
        clear hK K
        (try simp only [Act.put, List.setIfInBounds_toArray, List.set_cons_zero, List.set_cons_succ])
        refine wpAnyH_one (i := 10) (by kernel_rfl) (gt3 rfl) (fun K hK => ?_)
        (go_simp; refine stepB [z] 1 rfl rfl ?_; intro w173 hB hb10 hr10; clear hb10; replace M := M.kept hB; replace hoA := hoA.kept hB; clear hB)
        refine hK.out _ _ trivial (fun hHeld => ?_)
        clear hK K
        (try simp only [Act.put, List.setIfInBounds_toArray, List.set_cons_zero, List.set_cons_succ])
        refine wpAnyH_one (i := 11) (by kernel_rfl) (gt3 rfl) (fun K hK => ?_)
        (refine step_appendW rfl _ _ 24 rfl 2 Tryz.underlying24 infoI w.heap.size _ _ LA [z] rfl rfl hoA hr10 (by simp; omega) M.G.size ?_; intro v' w174 hoF hgr hB hnew; clear hnew; obtain ⟨aF, cF, rfl, hs⟩ := id hoF.reads; clear hs hr10; replace M := M.grow hoA hgr; clear hgr hB; clear hoA)
        refine hK.out _ _ trivial (fun hHeld => ?_)
        clear hK K
        (try simp only [Act.put, List.setIfInBounds_toArray, List.set_cons_zero, List.set_cons_succ])
        refine wpAnyH_take (i := 12) (oi := ?oi165) (v := ?v165) ?hi165 (by kernel_rfl) (by kernel_rfl) (by kernel_rfl) ?hQ165 (Or.inl ⟨?hw165, ?hy165⟩) hHeld ?rest165
        case hi165 => exact gt3 (by rfl)
        case hQ165 => exact fun _ _ _ h => h
        case hw165 => rfl
        case hy165 => (intro w hSw; (try dsimp only at hSw); first | (go_simp; done) | (go_simp; with_reducible rfl))
        (try simp only [Act.put, List.setIfInBounds_toArray, List.set_cons_zero, List.set_cons_succ])
        refine wpAnyH_one (i := 13) (by kernel_rfl) (gt3 rfl) (fun K hK => ?_)
        (have c41 := M.x4.c1; have c4l := M.x4.lt; have c4f := M.x4.fr1; go_simp; clear c41 c4l c4f)
        refine hK.out _ _ trivial (fun hHeld => ?_)
        clear hK K
        (try simp only [Act.put, List.setIfInBounds_toArray, List.set_cons_zero, List.set_cons_succ])
        refine wpAnyH_done (by kernel_rfl) ?_ _
        have HX9 := Lib.hid (HXA.out.snoc (z := z) (by omega) (by omega))
        obtain ⟨LF, hLF⟩ : ∃ LF, LA ++ [z] = LF := ⟨_, rfl⟩
        have hlF : LF.length = LA.length + 1 := by rw [← hLF]; simp
        rw [hLF] at hoF HX9
        have hl1 : (LA ++ [z]).length = LF.length := by rw [hLF]
        have g3 := grownBy_setCell w174 b4 1 (.slice aF LF.length cF)
        have h4' : boxed (w174.setCell ⟨b4, 1, none⟩ (.slice aF LF.length cF)) b4 26 n1 (.slice aF LF.length cF) := put1_boxed M.x4
        (try rw [hl1] at hoF)
        have hoF' := hoF.apart g3 (fun k h1 h2 => by cases h2; exact own_neD hoF M.x4 (by decide) h1)
        have S' := M.S.apart g3 (by simp; omega) (fun b e => by cases e; omega)
        have h2b' : boxed (w174.setCell ⟨b4, 1, none⟩ (.slice aF LF.length cF)) w.heap.size 26 0 (.slice none 0 0) := grown_of M.h2b g3 (by simp; omega)
        clear M hoF g3 hLF
        (try rw [hlF] at hl1)
        (try simp only [hl1])
        (try rw [← hlF])
        go_wp2
        go_meet
        case rel => exact ⟨aF, cF, LF, h4', hoF', HX9, Lib.hid (by omega), S', h2b'⟩
       exact AllReadyH.nil
      exact AllReadyH.nil
    case rest =>
      clear x4 ho1 S h2b G hL hGS
      obtain ⟨aF, cF, LF, x4, ho9, HX9, HLF, S, h2b⟩ := hcut
      have c40 := x4.c0
      have c41 := x4.c1
      have c4l := x4.lt
      have x2 : boxed _ w.heap.size 26 0 (.slice none 0 0) := h2b
      have c20 := x2.c0
      have c21 := x2.c1
      have c2l := x2.lt
      have c22 := x2.fr0
      have c23 := x2.fr1
      go_wp2
      have hLF := HLF.out
      refine bodyPost_gen (fun Y => boxed Y w.heap.size 26 n1 (.slice aF LF.length cF) ∧ own 2 Y w.heap.size (.slice aF LF.length cF) LF ∧ Below w.heap.size w Y) ⟨put2_boxed x2, ho9.apart (put2_grown _ w.heap.size (.int .i64 n1) (.slice aF LF.length cF)) (fun k h1 h2 => by cases h2; exact own_neD ho9 x2 (by decide) h1), S.bel.trans (below_of_grown (put2_grown _ w.heap.size (.int .i64 n1) (.slice aF LF.length cF)) S.bel.size (fun k e => by cases e; omega))⟩ fun Y hY => ?_
      obtain ⟨hY1, hY2, hY3⟩ := hY
      have k0 := hY1.c0
      have k1 := hY1.c1
      refine bodyPost_ret (v := .agg #[.int .i64 n1, .slice aF LF.length cF]) (by simp [results, Tryz.results27, go_sem, k0, k1]) rfl ?_
      exact ⟨_, _, _, rfl, hY2, by omega, HX9.out, hn1, hY3⟩
  · have ho9 := ho1
    have HX9 := Lib.hid hx1
    refine bodyPost_gen (fun Y => boxed Y w.heap.size 26 n1 (.slice a1 l1.length c1) ∧ own 2 Y w.heap.size (.slice a1 l1.length c1) l1 ∧ Below w.heap.size w Y) ⟨put2_boxed x2, ho9.apart (put2_grown _ w.heap.size (.int .i64 n1) (.slice a1 l1.length c1)) (fun k h1 h2 => by cases h2; exact own_neD ho9 x2 (by decide) h1), S.bel.trans (below_of_grown (put2_grown _ w.heap.size (.int .i64 n1) (.slice a1 l1.length c1)) S.bel.size (fun k e => by cases e; omega))⟩ fun Y hY => ?_
    obtain ⟨hY1, hY2, hY3⟩ := hY
    have k0 := hY1.c0
    have k1 := hY1.c1
    refine bodyPost_ret (v := .agg #[.int .i64 n1, .slice a1 l1.length c1]) (by simp [results, Tryz.results27, go_sem, k0, k1]) rfl ?_
    exact ⟨_, _, _, rfl, hY2, by omega, HX9.out, hn1, hY3⟩
end Go.Proofs.YtblpbkfenmkhbaaGreatDoor
