/- ParseBraid by the program. Conditions: as each theorem says. -/
import Derived.Test.YtblpbkfenmkhbaaGreatDoorHg
namespace Go.Proofs.YtblpbkfenmkhbaaGreatDoor
open Go.RowKit
set_option linter.unusedSimpArgs false
set_option linter.unusedVariables false
open Go.RowKit
set_option maxRecDepth 20000 in
set_option maxHeartbeats 4000000 in
theorem impl_ParseBraid (l : List UInt8) (w : World) (hl : l.length ≤ 4000000000) (hd : Door w) : Calls Tryz.prog 19 #[.string (strB l)] w (RetB2 2 w (parN l) (parL l) (parC l)) := by
  have HD := Lib.hid (fun w' (hb : Below w.heap.size w w') => hd.on hb)
  have HTC := Lib.hid (fun (n : Int) (xs : List Int) (h : isText l (n, xs)) => text_cut h)
  have hcl := cut_le l 58
  clear hd
  obtain ⟨hd, hhd⟩ : ∃ hd, (Lib.cut l [58]).1 = hd := ⟨_, rfl⟩
  obtain ⟨rs, hrs⟩ : ∃ rs, (Lib.cut l [58]).2.1 = rs := ⟨_, rfl⟩
  have HH := Lib.hid hhd
  have HR := Lib.hid hrs
  have hcut := fun w hs hd => cut_any l w hs hd
  rw [hhd, hrs] at hcl
  simp only [hhd, hrs] at hcut
  have HCUT := Lib.hid hcut
  clear hhd hrs hcut
  by_cases hpx : ∃ v, Lib.parseIntB 64 hd = .ok v
  · obtain ⟨n0, hp⟩ := hpx
    have HP := Lib.hid (fun w => parse_ok (strB hd) w (by rw [strB_size]; omega) (v := n0) (by rw [strB_list]; exact hp))
    have HN := Lib.hid hp
    clear hp
    go_enter Tryz.func19, Tryz.ntmps19
    go_upto_region 3 with (first | (go_at_call 52; refine Calls.mono (HCUT.out _ hl (HD.out _ ?_)) ?_; (repeat (first | (with_reducible exact Below.refl _ _) | (with_reducible assumption) | (with_reducible refine below_plus' ?_ ?_; ((try simp only [plus_size, World.size_alloc, World.size_drew, World.size_setCell, size_setRow, World.heap_drewN, List.length_append]) <;> omega)) | (with_reducible refine below_alloc' ?_ ?_; ((try simp only [plus_size, World.size_alloc, World.size_drew, World.size_setCell, size_setRow, World.heap_drewN, List.length_append]) <;> omega)) | with_reducible refine Below.drew ?_ | (with_reducible refine below_drewN' ?_ _) | exact Below.refl _ _)); rintro e w' ⟨rfl, hB⟩; obtain ⟨j, d, rfl⟩ := plus_of_below hB; clear hB) | (go_at_call 53; refine Calls.mono (HP.out _) ?_; rintro e w' ⟨rfl, hB⟩; obtain ⟨j, d, rfl⟩ := plus_of_below hB; clear hB))
    refine wpc_gen (fun X => Below w.heap.size w X ∧ boxed X w.heap.size 26 0 (.slice none 0 0)) ⟨by (repeat (first | (with_reducible exact Below.refl _ _) | (with_reducible assumption) | (with_reducible refine below_plus' ?_ ?_; ((try simp only [plus_size, World.size_alloc, World.size_drew, World.size_setCell, size_setRow, World.heap_drewN, List.length_append]) <;> omega)) | (with_reducible refine below_alloc' ?_ ?_; ((try simp only [plus_size, World.size_alloc, World.size_drew, World.size_setCell, size_setRow, World.heap_drewN, List.length_append]) <;> omega)) | with_reducible refine Below.drew ?_ | (with_reducible refine below_drewN' ?_ _) | exact Below.refl _ _)), by unfold boxed; (repeat (first | (refine heap_at _ _ _ ?_; ((try simp only [plus_size, World.size_alloc, World.size_drew, World.size_setCell, size_setRow, World.heap_drewN, List.length_append]) <;> omega)) | (refine heap_past' ?_ ?_; ((try simp only [plus_size, World.size_alloc, World.size_drew, World.size_setCell, size_setRow, World.heap_drewN, List.length_append]) <;> omega)) | (refine heap_plus' ?_ ?_; ((try simp only [plus_size, World.size_alloc, World.size_drew, World.size_setCell, size_setRow, World.heap_drewN, List.length_append]) <;> omega)) | assumption))⟩ fun W1 hW1 => ?_
    obtain ⟨hB0, hbr⟩ := hW1
    have d0 := hbr.c0
    have d1 := hbr.c1
    have dl := hbr.lt
    have df := hbr.fr0
    have dg := hbr.fr1
    by_cases h800 : rs.length ≤ 800
    · have hz : ¬ (800 : Int) < ((strB rs).size : Int) := by rw [strB_size]; omega
      have HSP := Lib.hid (fun w hd' => split_any (strB rs) w (by rw [strB_size]; omega) hd')
      have hcount := Lib.countB_le ⟨#[32]⟩ (by decide) (strB rs).size (strB rs) (Nat.le_refl _)
      have hwlen := Lib.splitB_all ⟨#[32]⟩ (by decide) 0 _ (strB rs) rfl
      have heach := splitB_each ⟨#[32]⟩ (Lib.countB (strB rs) ⟨#[32]⟩) (strB rs)
      have HWS := Lib.hid (show ∀ n xs, isText l (n, xs) → Lib.splitB ⟨#[32]⟩ 0 (Lib.countB (strB rs) ⟨#[32]⟩) (strB rs) = strB [] :: xs.map (fun x => strB (decL x)) ∧ ∀ j, j < xs.length → Lib.parseIntB 64 (decL (nth xs j)) = .ok (nth xs j) from fun n xs hp => by
        obtain ⟨q1, q2, q3, q4, q5⟩ := HTC.out _ _ hp
        have := HR.out
        rw [q1] at this
        simp only at this
        rw [← this]
        exact ⟨q4, q5⟩)
      have HN0 := Lib.hid (show ∀ p, isText l p → p.1 = n0 from fun p hp => by
        obtain ⟨n, xs⟩ := p
        obtain ⟨q1, q2, q3, q4, q5⟩ := HTC.out _ _ hp
        have := HH.out
        rw [q1] at this
        simp only at this
        have h2 := HN.out
        rw [← this, q2] at h2
        simpa using h2)
      rw [strB_size] at hcount
      obtain ⟨WS, hWS⟩ : ∃ WS, Lib.splitB ⟨#[32]⟩ 0 (Lib.countB (strB rs) ⟨#[32]⟩) (strB rs) = WS := ⟨_, rfl⟩
      rw [hWS] at HSP hwlen heach HWS
      clear hWS
      have hWl : WS.length ≤ 801 := by omega
      have HSZ := Lib.hid (show ∀ i, (WS.getD i ByteArray.empty).size ≤ 4000000000 from fun i => by
        by_cases hi : i < WS.length
        · have := heach WS[i] (List.getElem_mem hi)
          rw [strB_size] at this
          rw [show WS.getD i ByteArray.empty = WS[i] by simp [hi]]
          omega
        · rw [show WS.getD i ByteArray.empty = ByteArray.empty by simp [List.getElem?_eq_none (by omega : WS.length ≤ i)]]
          decide)
      clear hcount hwlen heach
      go_upto_region 7 with ((go_at_call 54; refine Calls.mono (HSP.out _ (HD.out _ ?_)) ?_; (repeat (first | (with_reducible exact Below.refl _ _) | (with_reducible assumption) | (with_reducible refine below_plus' ?_ ?_; ((try simp only [plus_size, World.size_alloc, World.size_drew, World.size_setCell, size_setRow, World.heap_drewN, List.length_append]) <;> omega)) | (with_reducible refine below_alloc' ?_ ?_; ((try simp only [plus_size, World.size_alloc, World.size_drew, World.size_setCell, size_setRow, World.heap_drewN, List.length_append]) <;> omega)) | with_reducible refine Below.drew ?_ | (with_reducible refine below_drewN' ?_ _) | exact Below.refl _ _)); rintro e w' ⟨rfl, rfl⟩))
      refine wpc_gen (fun X => boxed X W1.heap.size 26 n0 (.slice none 0 0) ∧ X.heap[W1.heap.size + 1]? = some (.cells (WS.map Value.string).toArray 9) ∧ Below W1.heap.size W1 X ∧ X.heap.size = W1.heap.size + 1 + 1) ⟨by unfold boxed; (repeat (first | (refine heap_at _ _ _ ?_; ((try simp only [plus_size, World.size_alloc, World.size_drew, World.size_setCell, size_setRow, World.heap_drewN, List.length_append]) <;> omega)) | (refine heap_past' ?_ ?_; ((try simp only [plus_size, World.size_alloc, World.size_drew, World.size_setCell, size_setRow, World.heap_drewN, List.length_append]) <;> omega)) | (refine heap_plus' ?_ ?_; ((try simp only [plus_size, World.size_alloc, World.size_drew, World.size_setCell, size_setRow, World.heap_drewN, List.length_append]) <;> omega)) | assumption)), by (repeat (first | (refine heap_at _ _ _ ?_; ((try simp only [plus_size, World.size_alloc, World.size_drew, World.size_setCell, size_setRow, World.heap_drewN, List.length_append]) <;> omega)) | (refine heap_past' ?_ ?_; ((try simp only [plus_size, World.size_alloc, World.size_drew, World.size_setCell, size_setRow, World.heap_drewN, List.length_append]) <;> omega)) | (refine heap_plus' ?_ ?_; ((try simp only [plus_size, World.size_alloc, World.size_drew, World.size_setCell, size_setRow, World.heap_drewN, List.length_append]) <;> omega)) | assumption)), by (repeat (first | (with_reducible exact Below.refl _ _) | (with_reducible assumption) | (with_reducible refine below_plus' ?_ ?_; ((try simp only [plus_size, World.size_alloc, World.size_drew, World.size_setCell, size_setRow, World.heap_drewN, List.length_append]) <;> omega)) | (with_reducible refine below_alloc' ?_ ?_; ((try simp only [plus_size, World.size_alloc, World.size_drew, World.size_setCell, size_setRow, World.heap_drewN, List.length_append]) <;> omega)) | with_reducible refine Below.drew ?_ | (with_reducible refine below_drewN' ?_ _) | exact Below.refl _ _)), by simp only [World.size_alloc]⟩ fun W2 hW2 => ?_
      obtain ⟨hx6, hwd, hB12, hs2⟩ := hW2
      have Hc2 := Lib.hid (show ∀ i, i < WS.length → W2.cell? ⟨W1.heap.size + 1, i, none⟩ = some (.string (WS.getD i ByteArray.empty)) from fun i hi => by
        rw [cell_of hwd]
        simp [hi])
      have hbr2 := hbr.kept hB12
      have hB2 := hB0.trans (hB12.mono hB0.size)
      have hs1 := hbr.lt
      generalize hb6 : W1.heap.size = b6 at *
      clear d0 d1 dl df dg hwd hbr HSP
      go_loopw [40] (fun sl wr => ∃ (k : Nat) (vo : Value) (ys : List Int), k ≤ WS.length ∧ sl = .int .i64 k ∧ W2.grownBy wr (some b6) ∧ boxed wr b6 26 n0 vo ∧ own 2 wr W2.heap.size vo ys ∧ Hid (ys.length = k - 1 ∧ (∀ j, j < ys.length → -9223372036854775808 ≤ nth ys j ∧ nth ys j < 9223372036854775808) ∧ ∀ p, isText l p → p.1 = n0 ∧ ys = p.2.take (k - 1))) (fun sl _ => WS.length - (intOf sl).toNat)
      case atStart => exact ⟨0, _, [], by omega, rfl, grown_refl _ _, hx6, own_nil _ _ _, Lib.hid ⟨rfl, fun j hj => by simp at hj, fun p hp => ⟨HN0.out p hp, by simp⟩⟩⟩
      case round =>
        clear hx6
        obtain ⟨k, vo, ys, hk, rfl, hg6, hbx, hown, HY⟩ := hrel
        have hgs := hg6.size
        obtain ⟨ao, co, rfl, hs⟩ := id hown.reads
        clear hs
        have c0 := hbx.c0
        have c1 := hbx.c1
        have cl := hbx.lt
        have cf := hbx.fr1
        have hbr' := hbr2.grown hg6 (by rintro ⟨⟩; omega)
        have d0 := hbr'.c0
        have d1 := hbr'.c1
        have dl := hbr'.lt
        have df := hbr'.fr0
        have dg := hbr'.fr1
        have hBw : Below w.heap.size w wr := hB2.grown hg6 hB2.size (fun k e => by cases e; omega)
        by_cases hlt : k < WS.length
        · have hck := cell_grown hg6 (by omega) (fun e => by have := Option.some.inj e; omega) (Hc2.out k hlt)
          by_cases hk0 : k = 0
          · subst hk0
            go_wp2
            go_roundw
            case rel =>
              have hy := HY.out
              obtain rfl : ys = [] := List.eq_nil_of_length_eq_zero (by have := hy.1; omega)
              exact ⟨1, _, [], by omega, by go_num, hg6, hbx, hown, Lib.hid ⟨rfl, fun j hj => by simp at hj, fun p hp => by simp [(hy.2.2 p hp).1]⟩⟩
            case measure => simp [intOf]; omega
          · have hkz : ((k : Int) == 0) = false := beq_eq_false_iff_ne.2 (by omega)
            have hkp : 0 < k := by omega
            have hszk := HSZ.out k
            have HWk := Lib.hid (show ∀ n xs, isText l (n, xs) → k - 1 < xs.length ∧ Lib.parseIntB 64 (WS.getD k ByteArray.empty).data.toList = .ok (nth xs (k - 1)) from fun n xs hp => by
              obtain ⟨h1, h2⟩ := HWS.out n xs hp
              rw [h1] at hlt
              have hx : k - 1 < xs.length := by simp at hlt; omega
              refine ⟨hx, ?_⟩
              rw [h1, show k = (k - 1) + 1 by omega, List.getD_cons_succ, Nat.add_sub_cancel]
              rw [show (xs.map (fun x => strB (decL x))).getD (k - 1) ByteArray.empty = strB (decL (nth xs (k - 1))) by simp [nth, hx], strB_list]
              exact h2 _ hx)
            generalize WS.getD k ByteArray.empty = s at *
            have hll : ys.length < 1000000000 := by have := HY.out.1; omega
            by_cases hpx : ∃ v, Lib.parseIntB 64 s.data.toList = .ok v
            · obtain ⟨v, hp⟩ := hpx
              have HPk := Lib.hid (fun w => parse_ok s w hszk hp)
              have HV := Lib.hid hp
              clear hp
              go_wp2_with (first | (go_at_call 53; refine Calls.mono (HPk.out _) ?_; rintro e w' ⟨rfl, hB⟩; obtain ⟨j, d, rfl⟩ := plus_of_below hB; clear hB)
                                                      | (at_builtin; go_loud (refine wpList_appendL rfl _ _ 24 rfl 2 Tryz.underlying24 infoI W2.heap.size (.slice ao ys.length co) _ ys [_] rfl rfl (own.kept hown ?_) (reads_built (by ((try simp only [plus_size, World.size_alloc, World.size_drew, World.size_setCell, size_setRow, World.heap_drewN, List.length_append]) <;> omega)) rfl rfl) (by simp; omega) (by ((try simp only [plus_size, World.size_alloc, World.size_drew, World.size_setCell, size_setRow, World.heap_drewN, List.length_append]) <;> omega)) ?_; (· (repeat (first | (with_reducible exact Below.refl _ _) | (with_reducible assumption) | (with_reducible refine below_plus' ?_ ?_; ((try simp only [plus_size, World.size_alloc, World.size_drew, World.size_setCell, size_setRow, World.heap_drewN, List.length_append]) <;> omega)) | (with_reducible refine below_alloc' ?_ ?_; ((try simp only [plus_size, World.size_alloc, World.size_drew, World.size_setCell, size_setRow, World.heap_drewN, List.length_append]) <;> omega)) | with_reducible refine Below.drew ?_ | (with_reducible refine below_drewN' ?_ _) | exact Below.refl _ _))); intro v' w' hown' hgr hB; obtain ⟨av, cv, rfl, hs'⟩ := id hown'.reads; clear hs'; have hbx' := (hbx.kept (show Below wr.heap.size wr _ by (repeat (first | (with_reducible exact Below.refl _ _) | (with_reducible assumption) | (with_reducible refine below_plus' ?_ ?_; ((try simp only [plus_size, World.size_alloc, World.size_drew, World.size_setCell, size_setRow, World.heap_drewN, List.length_append]) <;> omega)) | (with_reducible refine below_alloc' ?_ ?_; ((try simp only [plus_size, World.size_alloc, World.size_drew, World.size_setCell, size_setRow, World.heap_drewN, List.length_append]) <;> omega)) | with_reducible refine Below.drew ?_ | (with_reducible refine below_drewN' ?_ _) | exact Below.refl _ _)))).grown hgr (fun e => by have := (hown.lt _ e).1; omega); have c0' := hbx'.c0; have c1' := hbx'.c1; have cl' := hbx'.lt; have cf' := hbx'.fr1)))
              simp only [List.length_append, List.length_cons, List.length_nil, Nat.zero_add] at hown' hbx'
              have hgW := grown_then_below hg6 (show Below W2.heap.size wr w' from Below.trans (show Below W2.heap.size wr _ by (repeat (first | (with_reducible exact Below.refl _ _) | (with_reducible assumption) | (with_reducible refine below_plus' ?_ ?_; ((try simp only [plus_size, World.size_alloc, World.size_drew, World.size_setCell, size_setRow, World.heap_drewN, List.length_append]) <;> omega)) | (with_reducible refine below_alloc' ?_ ?_; ((try simp only [plus_size, World.size_alloc, World.size_drew, World.size_setCell, size_setRow, World.heap_drewN, List.length_append]) <;> omega)) | with_reducible refine Below.drew ?_ | (with_reducible refine below_drewN' ?_ _) | exact Below.refl _ _))) hB)
              go_roundw
              case rel =>
                refine ⟨k + 1, _, ys ++ [_], by omega, by go_num, grownBy_trans hgW (grownBy_setCell _ _ _ _), put1_boxed hbx', hown'.apart (grownBy_setCell _ _ _ _) (fun q hq e => ?_), ?_⟩
                · have := (hown'.lt q hq).1
                  cases e; omega
                · have hy := HY.out
                  refine Lib.hid ⟨by simp; omega, fun j hj => ?_, fun p hp => ?_⟩
                  · by_cases hj2 : j < ys.length
                    · rw [nth_left hj2]; exact hy.2.1 j hj2
                    · obtain rfl : j = ys.length := by simp at hj; omega
                      rw [nth_last]
                      have := Lib.parseIntB_bounds HV.out
                      rw [show (2 ^ (64 - 1) : Nat) = 9223372036854775808 by decide] at this
                      omega
                  · obtain ⟨n, xs⟩ := p
                    obtain ⟨w1, w2⟩ := HWk.out n xs hp
                    obtain ⟨y1, y2⟩ := hy.2.2 _ hp
                    rw [HV.out] at w2
                    simp only [Lib.NumEnd.ok.injEq] at w2
                    refine ⟨y1, ?_⟩
                    simp only at y2 ⊢
                    rw [y2, show k + 1 - 1 = (k - 1) + 1 by omega, List.take_succ_eq_append_getElem w1, w2]
                    simp [nth, w1]
              case measure => simp [intOf]; omega
            · have HPk := Lib.hid (fun w hd' => parse_bad s w hszk hd' (fun v e => hpx ⟨v, e⟩))
              have NB := Lib.hid (show ∀ p, ¬ isText l p from fun p hp => by
                obtain ⟨n, xs⟩ := p
                exact hpx ⟨_, (HWk.out n xs hp).2⟩)
              clear hpx
              go_wp2_with (first | (go_at_call 53; refine Calls.mono (HPk.out _ (HD.out _ ?_)) ?_; (repeat (first | (with_reducible exact Below.refl _ _) | (with_reducible assumption) | (with_reducible refine below_plus' ?_ ?_; ((try simp only [plus_size, World.size_alloc, World.size_drew, World.size_setCell, size_setRow, World.heap_drewN, List.length_append]) <;> omega)) | (with_reducible refine below_alloc' ?_ ?_; ((try simp only [plus_size, World.size_alloc, World.size_drew, World.size_setCell, size_setRow, World.heap_drewN, List.length_append]) <;> omega)) | with_reducible refine Below.drew ?_ | (with_reducible refine below_drewN' ?_ _) | exact Below.refl _ _)); rintro e w' ⟨⟨x, t, N, rfl⟩, hB⟩; obtain ⟨j, d, rfl⟩ := plus_of_below hB; clear hB))
              refine bodyPost_gen (fun Y => boxed Y w.heap.size 26 0 (.slice none 0 0) ∧ Below w.heap.size w Y) ⟨(put2_boxed hbr').kept (below_plus (Below.refl _ _) (Nat.le_refl _) j d), below_plus (put2_below _ _ hBw (Nat.le_refl _)) (put2_below _ _ hBw (Nat.le_refl _)).size j d⟩ fun Y hY => ?_
              obtain ⟨hY1, hY2⟩ := hY
              have y0 := hY1.c0
              have y1 := hY1.c1
              refine bodyPost_ret (v := .tuple #[.agg #[.int .i64 0, .slice none 0 0], .int .i64 6]) (by simp [results, Tryz.results19, go_sem, y0, y1]) rfl ?_
              obtain ⟨z1, z2, z3⟩ := par_no NB.out
              rw [z1, z2, z3]
              exact ⟨_, rfl, hY2, own_nil _ _ _⟩
        · obtain rfl : k = WS.length := by omega
          have hy := HY.out
          have hfit : Fits ys := fun x hx => by obtain ⟨i, hi, rfl⟩ := mem_nth hx; have := hy.2.1 i hi; omega
          have hlen : ys.length ≤ 1000000000 := by have := hy.1; omega
          have HTX := Lib.hid (show ∀ p, isText l p → p = (n0, ys) from fun p hp => by
            obtain ⟨n, xs⟩ := p
            obtain ⟨y1, y2⟩ := hy.2.2 _ hp
            have h1 := (HWS.out n xs hp).1
            have : xs.length + 1 = WS.length := by rw [h1]; simp
            simp only at y1 y2
            rw [y1, y2, List.take_of_length_le (by omega)])
          have HBT := Lib.hid (fun w' (hb : Below wr.heap.size wr w') => impl_BraidText n0 (.slice ao ys.length co) ys w' (hown.reads.kept hb) hlen hfit (HD.out w' (hBw.trans (hb.mono hBw.size))).1)
          clear hy hfit
          cases hok : okW n0 ys with
          | false =>
            have NB := Lib.hid (show ∀ p, ¬ isText l p from fun p hp => by
              have := HTX.out p hp
              subst this
              have := hp.1
              simp only at this
              rw [this] at hok; cases hok)
            simp only [hok] at HBT
            go_wp2_with (first | (go_at_call 55; refine Calls.mono (HBT.out _ ?_) ?_; (repeat (first | (with_reducible exact Below.refl _ _) | (with_reducible assumption) | (with_reducible refine below_plus' ?_ ?_; ((try simp only [plus_size, World.size_alloc, World.size_drew, World.size_setCell, size_setRow, World.heap_drewN, List.length_append]) <;> omega)) | (with_reducible refine below_alloc' ?_ ?_; ((try simp only [plus_size, World.size_alloc, World.size_drew, World.size_setCell, size_setRow, World.heap_drewN, List.length_append]) <;> omega)) | with_reducible refine Below.drew ?_ | (with_reducible refine below_drewN' ?_ _) | exact Below.refl _ _)); rintro e w' ⟨rfl, hB⟩; obtain ⟨j, d, rfl⟩ := plus_of_below hB; clear hB))
            refine bodyPost_gen (fun Y => boxed Y w.heap.size 26 0 (.slice none 0 0) ∧ Below w.heap.size w Y) ⟨(put2_boxed hbr').kept (below_plus (Below.refl _ _) (Nat.le_refl _) j d), below_plus (put2_below _ _ hBw (Nat.le_refl _)) (put2_below _ _ hBw (Nat.le_refl _)).size j d⟩ fun Y hY => ?_
            obtain ⟨hY1, hY2⟩ := hY
            have y0 := hY1.c0
            have y1 := hY1.c1
            refine bodyPost_ret (v := .tuple #[.agg #[.int .i64 0, .slice none 0 0], .int .i64 6]) (by simp [results, Tryz.results19, go_sem, y0, y1]) rfl ?_
            obtain ⟨z1, z2, z3⟩ := par_no NB.out
            rw [z1, z2, z3]
            exact ⟨_, rfl, hY2, own_nil _ _ _⟩
          | true =>
            have htx : textL n0 ys = braidT n0 ys ys.length := by simp [textL, hok]
            simp only [hok, htx, if_true] at HBT
            by_cases he : l = braidT n0 ys ys.length
            · have HT := Lib.hid (show isText l (n0, ys) from ⟨hok, he⟩)
              rw [← he] at HBT
              clear hok htx he
              go_wp2_with (first | (go_at_call 55; refine Calls.mono (HBT.out _ ?_) ?_; (repeat (first | (with_reducible exact Below.refl _ _) | (with_reducible assumption) | (with_reducible refine below_plus' ?_ ?_; ((try simp only [plus_size, World.size_alloc, World.size_drew, World.size_setCell, size_setRow, World.heap_drewN, List.length_append]) <;> omega)) | (with_reducible refine below_alloc' ?_ ?_; ((try simp only [plus_size, World.size_alloc, World.size_drew, World.size_setCell, size_setRow, World.heap_drewN, List.length_append]) <;> omega)) | with_reducible refine Below.drew ?_ | (with_reducible refine below_drewN' ?_ _) | exact Below.refl _ _)); rintro e w' ⟨rfl, hB⟩; obtain ⟨j, d, rfl⟩ := plus_of_below hB; clear hB))
              refine bodyPost_gen (fun Y => boxed Y w.heap.size 26 n0 (.slice ao ys.length co) ∧ Below w.heap.size w Y ∧ own 2 Y w.heap.size (.slice ao ys.length co) ys) ⟨(put2_boxed hbr').kept (below_plus (Below.refl _ _) (Nat.le_refl _) j d), below_plus (put2_below _ _ hBw (Nat.le_refl _)) (put2_below _ _ hBw (Nat.le_refl _)).size j d, ((hown.apart (put2_grown _ _ _ _) (fun q hq e => by have := (hown.lt q hq).1; cases e; omega)).kept (below_plus (Below.refl _ _) (Nat.le_refl _) j d)).mono (by omega)⟩ fun Y hY => ?_
              obtain ⟨hY1, hY2, hY3⟩ := hY
              have y0 := hY1.c0
              have y1 := hY1.c1
              refine bodyPost_ret (v := .tuple #[.agg #[.int .i64 n0, .slice ao ys.length co], .int .i64 0]) (by simp [results, Tryz.results19, go_sem, y0, y1]) rfl ?_
              obtain ⟨z1, z2, z3⟩ := par_yes HT.out
              rw [z1, z2, z3]
              exact ⟨_, rfl, hY2, hY3⟩
            · have NB := Lib.hid (show ∀ p, ¬ isText l p from fun p hp => by
                have := HTX.out p hp
                subst this
                exact he hp.2)
              have hne : ((strB (braidT n0 ys ys.length)).toList == (strB l).toList) = false := by
                rw [Lib.toList_data, Lib.toList_data, strB_list, strB_list]
                exact beq_eq_false_iff_ne.2 fun e => he e.symm
              clear hok htx
              generalize strB (braidT n0 ys ys.length) = T at *
              go_wp2_with (first | (go_at_call 55; refine Calls.mono (HBT.out _ ?_) ?_; (repeat (first | (with_reducible exact Below.refl _ _) | (with_reducible assumption) | (with_reducible refine below_plus' ?_ ?_; ((try simp only [plus_size, World.size_alloc, World.size_drew, World.size_setCell, size_setRow, World.heap_drewN, List.length_append]) <;> omega)) | (with_reducible refine below_alloc' ?_ ?_; ((try simp only [plus_size, World.size_alloc, World.size_drew, World.size_setCell, size_setRow, World.heap_drewN, List.length_append]) <;> omega)) | with_reducible refine Below.drew ?_ | (with_reducible refine below_drewN' ?_ _) | exact Below.refl _ _)); rintro e w' ⟨rfl, hB⟩; obtain ⟨j, d, rfl⟩ := plus_of_below hB; clear hB))
              refine bodyPost_gen (fun Y => boxed Y w.heap.size 26 0 (.slice none 0 0) ∧ Below w.heap.size w Y) ⟨(put2_boxed hbr').kept (below_plus (Below.refl _ _) (Nat.le_refl _) j d), below_plus (put2_below _ _ hBw (Nat.le_refl _)) (put2_below _ _ hBw (Nat.le_refl _)).size j d⟩ fun Y hY => ?_
              obtain ⟨hY1, hY2⟩ := hY
              have y0 := hY1.c0
              have y1 := hY1.c1
              refine bodyPost_ret (v := .tuple #[.agg #[.int .i64 0, .slice none 0 0], .int .i64 6]) (by simp [results, Tryz.results19, go_sem, y0, y1]) rfl ?_
              obtain ⟨z1, z2, z3⟩ := par_no NB.out
              rw [z1, z2, z3]
              exact ⟨_, rfl, hY2, own_nil _ _ _⟩
    · have hz : (800 : Int) < ((strB rs).size : Int) := by rw [strB_size]; omega
      have NB := Lib.hid (show ∀ p, ¬ isText l p from fun p hp => by
        obtain ⟨n, xs⟩ := p
        obtain ⟨q1, q2, q3, q4, q5⟩ := HTC.out _ _ hp
        have := HR.out
        rw [q1] at this
        simp only at this
        rw [this] at q3
        exact h800 q3)
      go_wp2
      refine bodyPost_gen (fun Y => boxed Y w.heap.size 26 0 (.slice none 0 0) ∧ Below w.heap.size w Y) ⟨put2_boxed hbr, put2_below _ _ hB0 (Nat.le_refl _)⟩ fun Y hY => ?_
      obtain ⟨hY1, hY2⟩ := hY
      have y0 := hY1.c0
      have y1 := hY1.c1
      refine bodyPost_ret (v := .tuple #[.agg #[.int .i64 0, .slice none 0 0], .int .i64 6]) (by simp [results, Tryz.results19, go_sem, y0, y1]) rfl ?_
      obtain ⟨z1, z2, z3⟩ := par_no NB.out
      rw [z1, z2, z3]
      exact ⟨_, rfl, hY2, own_nil _ _ _⟩
  · have HP := Lib.hid (fun w hd' => parse_bad (strB hd) w (by rw [strB_size]; omega) hd' (fun v => by rw [strB_list]; exact fun e => hpx ⟨v, e⟩))
    have NB := Lib.hid (show ∀ p, ¬ isText l p from fun p hp => by
      obtain ⟨n, xs⟩ := p
      obtain ⟨q1, q2, q3, q4, q5⟩ := HTC.out _ _ hp
      have := HH.out
      rw [q1] at this
      simp only at this
      rw [this] at q2
      exact hpx ⟨n, q2⟩)
    clear hpx
    go_enter Tryz.func19, Tryz.ntmps19
    go_upto_region 3 with (first | (go_at_call 52; refine Calls.mono (HCUT.out _ hl (HD.out _ ?_)) ?_; (repeat (first | (with_reducible exact Below.refl _ _) | (with_reducible assumption) | (with_reducible refine below_plus' ?_ ?_; ((try simp only [plus_size, World.size_alloc, World.size_drew, World.size_setCell, size_setRow, World.heap_drewN, List.length_append]) <;> omega)) | (with_reducible refine below_alloc' ?_ ?_; ((try simp only [plus_size, World.size_alloc, World.size_drew, World.size_setCell, size_setRow, World.heap_drewN, List.length_append]) <;> omega)) | with_reducible refine Below.drew ?_ | (with_reducible refine below_drewN' ?_ _) | exact Below.refl _ _)); rintro e w' ⟨rfl, hB⟩; obtain ⟨j, d, rfl⟩ := plus_of_below hB; clear hB) | (go_at_call 53; refine Calls.mono (HP.out _ (HD.out _ ?_)) ?_; (repeat (first | (with_reducible exact Below.refl _ _) | (with_reducible assumption) | (with_reducible refine below_plus' ?_ ?_; ((try simp only [plus_size, World.size_alloc, World.size_drew, World.size_setCell, size_setRow, World.heap_drewN, List.length_append]) <;> omega)) | (with_reducible refine below_alloc' ?_ ?_; ((try simp only [plus_size, World.size_alloc, World.size_drew, World.size_setCell, size_setRow, World.heap_drewN, List.length_append]) <;> omega)) | with_reducible refine Below.drew ?_ | (with_reducible refine below_drewN' ?_ _) | exact Below.refl _ _)); rintro e w' ⟨⟨x, t, N, rfl⟩, hB⟩; obtain ⟨j, d, rfl⟩ := plus_of_below hB; clear hB))
    refine wpc_gen (fun X => Below w.heap.size w X ∧ boxed X w.heap.size 26 0 (.slice none 0 0)) ⟨by (repeat (first | (with_reducible exact Below.refl _ _) | (with_reducible assumption) | (with_reducible refine below_plus' ?_ ?_; ((try simp only [plus_size, World.size_alloc, World.size_drew, World.size_setCell, size_setRow, World.heap_drewN, List.length_append]) <;> omega)) | (with_reducible refine below_alloc' ?_ ?_; ((try simp only [plus_size, World.size_alloc, World.size_drew, World.size_setCell, size_setRow, World.heap_drewN, List.length_append]) <;> omega)) | with_reducible refine Below.drew ?_ | (with_reducible refine below_drewN' ?_ _) | exact Below.refl _ _)), by unfold boxed; (repeat (first | (refine heap_at _ _ _ ?_; ((try simp only [plus_size, World.size_alloc, World.size_drew, World.size_setCell, size_setRow, World.heap_drewN, List.length_append]) <;> omega)) | (refine heap_past' ?_ ?_; ((try simp only [plus_size, World.size_alloc, World.size_drew, World.size_setCell, size_setRow, World.heap_drewN, List.length_append]) <;> omega)) | (refine heap_plus' ?_ ?_; ((try simp only [plus_size, World.size_alloc, World.size_drew, World.size_setCell, size_setRow, World.heap_drewN, List.length_append]) <;> omega)) | assumption))⟩ fun W1 hW1 => ?_
    obtain ⟨hB0, hbr⟩ := hW1
    have d0 := hbr.c0
    have d1 := hbr.c1
    have dl := hbr.lt
    have df := hbr.fr0
    have dg := hbr.fr1
    go_wp2
    refine bodyPost_gen (fun Y => boxed Y w.heap.size 26 0 (.slice none 0 0) ∧ Below w.heap.size w Y) ⟨put2_boxed hbr, put2_below _ _ hB0 (Nat.le_refl _)⟩ fun Y hY => ?_
    obtain ⟨hY1, hY2⟩ := hY
    have y0 := hY1.c0
    have y1 := hY1.c1
    refine bodyPost_ret (v := .tuple #[.agg #[.int .i64 0, .slice none 0 0], .int .i64 6]) (by simp [results, Tryz.results19, go_sem, y0, y1]) rfl ?_
    obtain ⟨z1, z2, z3⟩ := par_no NB.out
    rw [z1, z2, z3]
    exact ⟨_, rfl, hY2, own_nil _ _ _⟩
end Go.Proofs.YtblpbkfenmkhbaaGreatDoor
