/- Texts of braids read by the reference. Conditions: as each theorem says. -/
import Derived.Test.YtblpbkfenmkhbaaGreatDoorHd
import Derived.Test.YtblpbkfenmkhbaaGreatDoorMa
import Derived.BigRegion
import Derived.Deep.RegionWith
import Derived.Deep.Cut
import Derived.Deep.CutRange
namespace Go.Proofs.YtblpbkfenmkhbaaGreatDoor
open Go.RowKit
set_option linter.unusedSimpArgs false
set_option linter.unusedVariables false
open Go.RowKit
theorem boxed.fr0 {w b T n v} (h : boxed w b T n v) : w.frozen? ⟨b, 0, none⟩ = false := frozen_of_row w b 0 _ T h
theorem boxed.fr1 {w b T n v} (h : boxed w b T n v) : w.frozen? ⟨b, 1, none⟩ = false := frozen_of_row w b 1 _ T h
theorem grown_then_below {w a b : World} {row : Option Nat} (h : w.grownBy a row) (hb : Below w.heap.size a b) : w.grownBy b row :=
  ⟨hb.os.trans h.os, hb.tape.trans h.tape, hb.output.trans h.output, Nat.le_trans h.size hb.size, fun k hk hr => (hb.block k hk).trans (h.block k hk hr)⟩
theorem put2_boxed {w : World} {b : Nat} {T : TypeId} {n n' : Int} {v v' : Value} (h : boxed w b T n v) : boxed ((w.setCell ⟨b, 0, none⟩ (.int .i64 n')).setCell ⟨b, 1, none⟩ v') b T n' v' := by
  have h1 := heap_setCell_same w b 0 _ T (.int .i64 n') h
  have h2 := heap_setCell_same _ b 1 _ T v' h1
  unfold boxed
  rw [h2]
  simp
theorem put2_below {w0 w : World} {b : Nat} (x y : Value) (h : Below w0.heap.size w0 w) (hb : w0.heap.size ≤ b) : Below w0.heap.size w0 ((w.setCell ⟨b, 0, none⟩ x).setCell ⟨b, 1, none⟩ y) :=
  h.grown (grownBy_trans (grownBy_setCell w b 0 x) (grownBy_setCell _ b 1 y)) h.size (fun k e => by cases e; exact hb)
theorem bodyPost_gen {P : Program} {fn : Func} {R : Ending → World → Prop} {e : Exit} {a : Act} {X : World} (F : World → Prop) (hf : F X) (h : ∀ Y, F Y → bodyPost P fn R e a Y) : bodyPost P fn R e a X := h X hf
theorem byteAt_snoc (l : List UInt8) (b : UInt8) : byteAt (l ++ [b]) l.length = b.toNat := by simp [byteAt]
theorem take_snoc {l : List UInt8} {m : Nat} (h : l.length = m + 1) (e : byteAt l m = 58) : l = l.take m ++ [58] := by
  have h2 : m < l.length := by omega
  have e2 : l[m] = 58 := by
    apply UInt8.toNat_inj.1
    simp only [byteAt, List.getD_eq_getElem?_getD, List.getElem?_eq_getElem h2, Option.getD_some] at e
    rw [e]; rfl
  rw [← e2, ← List.take_succ_eq_append_getElem h2, List.take_of_length_le (by omega)]
theorem wpc_gen {P : Program} {c : Code} {Q : Exit → Act → World → Prop} {a : Act} {X : World} (F : World → Prop) (hf : F X) (h : ∀ Y, F Y → c.wp P Q a Y) : c.wp P Q a X := h X hf
theorem put1_boxed {w : World} {b : Nat} {T : TypeId} {n : Int} {v v' : Value} (h : boxed w b T n v) : boxed (w.setCell ⟨b, 1, none⟩ v') b T n v' := by
  have h2 := heap_setCell_same w b 1 _ T v' h
  unfold boxed
  rw [h2]
  simp
theorem cell_grown {w w' : World} {b k : Nat} {row : Option Nat} {x : Value} (hg : w.grownBy w' row) (hb : b < w.heap.size) (hne : row ≠ some b) (h : w.cell? ⟨b, k, none⟩ = some x) : w'.cell? ⟨b, k, none⟩ = some x := by
  rw [← h]
  exact World.cell?_of_block (hg.block b hb (fun e => hne e.symm))
theorem Fits_of {xs : List Int} (h : ∀ j, j < xs.length → -1000000000 ≤ nth xs j ∧ nth xs j ≤ 1000000000) : Fits xs := fun x hx => by obtain ⟨i, hi, rfl⟩ := mem_nth hx; have := h i hi; omega
theorem nth_left {ys : List Int} {x : Int} {j : Nat} (h : j < ys.length) : nth (ys ++ [x]) j = nth ys j := by simp [nth, List.getElem?_append_left h]
theorem nth_last {ys : List Int} {x : Int} : nth (ys ++ [x]) ys.length = x := by simp [nth]
theorem getD_tail {W : List (List UInt8)} {j : Nat} : W.tail.getD j [] = W.getD (j + 1) [] := by cases W <;> simp
theorem cons_tail {W : List (List UInt8)} (h : 0 < W.length) : W = W.getD 0 [] :: W.tail := by
  cases W with
  | nil => simp at h
  | cons a W => simp
theorem put2_grown (w : World) (b : Nat) (x y : Value) : w.grownBy ((w.setCell ⟨b, 0, none⟩ x).setCell ⟨b, 1, none⟩ y) (some b) := grownBy_trans (grownBy_setCell w b 0 x) (grownBy_setCell _ b 1 y)
theorem grown_refl (w : World) (row : Option Nat) : w.grownBy w row := ⟨rfl, rfl, rfl, Nat.le_refl _, fun _ _ _ => rfl⟩
set_option maxRecDepth 20000 in
set_option maxHeartbeats 2000000 in
theorem l01Read_any (l : List UInt8) (w : World) (hl : l.length ≤ 4000000000) : Calls Tryz.prog 56 #[.string (strB l)] w (RetR 2 l w) := by
  have HSP := Lib.hid (fun w => l01Split_any l 32 w hl)
  have hwp : 0 < (wordsS 32 l).length := List.length_pos_iff.2 (wordsS_ne 32 l)
  have hwl := words_len 32 l
  have HWD := Lib.hid (fun i => words_getD 32 l i)
  have HTR := Lib.hid (fun (n : Int) (xs : List Int) (h : isText l (n, xs)) => text_read h.1 h.2)
  have HRT := Lib.hid (fun (n : Int) (ys : List Int) f rest => read_text (l := l) (f := f) (rest := rest) (n := n) (ys := ys))
  go_enter Tryz.func56, Tryz.ntmps56
  go_upto_region 2 with ((go_at_call 73; refine Calls.mono (HSP.out _) ?_; rintro e w1 ⟨v, rfl, hB, ho⟩; obtain ⟨g, c, rfl, hgB, hgl, hcl⟩ := ho.cell hwp; obtain ⟨W1, hW1⟩ : ∃ W1, W1 = w1 := ⟨_, rfl⟩; subst hW1; have hcell0 := hcl 0 hwp; have Hcl := Lib.hid hcl; clear ho hcl))
  have hB0 : Below w.heap.size w W1 := below_of_alloc hB
  have hb2 : boxed W1 w.heap.size 26 0 (.slice none 0 0) := kept_of (heap_alloc_last _ _) hB
  have hs1 := hB.size
  rw [World.size_alloc] at hgB hs1
  clear hB
  generalize wordsS 32 l = W at *
  obtain ⟨w0, hw0⟩ : ∃ w0, W.getD 0 [] = w0 := ⟨_, rfl⟩
  have hl0 := HWD.out 0
  rw [hw0] at hcell0 hl0
  have HG := Lib.hid (strB_get w0)
  have HZ := Lib.hid (strB_size w0)
  have HX := Lib.hid (strB_extract w0)
  obtain ⟨s, hs⟩ : ∃ s, strB w0 = s := ⟨_, rfl⟩
  rw [hs] at HG HZ HX hcell0
  have H0 := Lib.hid hw0
  clear hs hw0
  have d0 := hb2.c0
  have d1 := hb2.c1
  have dl := hb2.lt
  have df := hb2.fr0
  have dg := hb2.fr1
  by_cases e0 : s.size = 0
  · have NB := Lib.hid (show ∀ p, ¬ isText l p from fun p hp => (by obtain ⟨n, xs⟩ := p; obtain ⟨q1, q2, q3, q4⟩ := HTR.out _ _ hp; have := congrArg (fun x => x.getD 0 []) q1; simp only [H0.out] at this; have hz := HZ.out; rw [e0, this] at hz; simp at hz))
    go_wp2
    refine bodyPost_gen (fun Y => boxed Y w.heap.size 26 0 (.slice none 0 0) ∧ Below w.heap.size w Y) ⟨put2_boxed hb2, put2_below _ _ hB0 (Nat.le_refl _)⟩ fun Y hY => ?_
    obtain ⟨hY1, hY2⟩ := hY
    have y0 := hY1.c0
    have y1 := hY1.c1
    refine bodyPost_ret (v := .tuple #[.agg #[.int .i64 0, .slice none 0 0], .bool false]) (by simp [results, Tryz.results56, go_sem, y0, y1]) rfl ?_
    exact ⟨0, .slice none 0 0, [], false, rfl, hY2, own_nil _ _ _, fun h => (by cases h), fun _ p hp => NB.out p hp⟩
  · obtain ⟨m, hm⟩ : ∃ m, s.size = m + 1 := ⟨s.size - 1, by omega⟩
    have hml : m < s.size := by omega
    have hmb : m ≤ 4000000000 := by have := HZ.out; omega
    have hm0 : ((m : Int) + 1 == 0) = false := beq_eq_false_iff_ne.2 (by omega)
    by_cases e1 : byteAt w0 m = 58
    · have hb : ((s[m]'hml).toNat : Int) = 58 := by rw [HG.out, e1]; rfl
      by_cases e2 : W.length ≤ 201
      · have e3 : ¬ (201 : Int) < (W.length : Int) := by omega
        have hz := HZ.out
        rw [hm] at hz
        have HF := Lib.hid (show w0 = w0.take m ++ [58] from take_snoc hz.symm e1)
        have HN0 := Lib.hid (show ∀ w, Calls Tryz.prog 74 #[.string (s.extract 0 m)] w fun e w' => e = .returned (.int .i64 (numS (w0.take m))) ∧ w = w' from fun w => by rw [HX.out, List.drop_zero]; exact l01Number_any _ w (by rw [List.length_take]; omega))
        clear hz e1
        go_upto_region 6 with ((go_at_call 74; refine Calls.mono (HN0.out _) ?_; rintro e w' ⟨rfl, rfl⟩))
        obtain ⟨N, hN⟩ : ∃ N, numS (w0.take m) = N := ⟨_, rfl⟩
        rw [hN]
        have HN := Lib.hid hN
        clear hN
        refine wpc_gen (fun X => boxed X W1.heap.size 26 N (.slice none 0 0) ∧ Below W1.heap.size W1 X ∧ X.heap.size = W1.heap.size + 1) ⟨heap_alloc_last _ _, by (repeat (first | (with_reducible exact Below.refl _ _) | (with_reducible assumption) | (with_reducible refine below_plus' ?_ ?_; ((try simp only [plus_size, World.size_alloc, World.size_drew, World.size_setCell, size_setRow, World.heap_drewN, List.length_append]) <;> omega)) | (with_reducible refine below_alloc' ?_ ?_; ((try simp only [plus_size, World.size_alloc, World.size_drew, World.size_setCell, size_setRow, World.heap_drewN, List.length_append]) <;> omega)) | with_reducible refine Below.drew ?_ | (with_reducible refine below_drewN' ?_ _) | exact Below.refl _ _)), World.size_alloc _ _⟩ fun W2 hW2 => ?_
        obtain ⟨hx6, hB12, hs2⟩ := hW2
        have Hc2 := Lib.hid (fun i (hi : i < W.length) => (hB12.cell (p := ⟨g, i, none⟩) hgl).trans (Hcl.out i hi))
        have hbr := hb2.kept hB12
        have hB2 := hB0.trans (hB12.mono hB0.size)
        generalize hb6 : W1.heap.size = b6 at *
        clear hcell0 d0 d1 dl df dg Hcl hB12 hB0 hb2 HG HZ HX HN0 HSP hb
        go_wp2
        go_loopw [7] (fun sl wr => ∃ (k : Nat) (vo : Value) (ys : List Int), 1 ≤ k ∧ k ≤ W.length ∧ sl = .int .i64 k ∧ W2.grownBy wr (some b6) ∧ boxed wr b6 26 N vo ∧ own 2 wr W2.heap.size vo ys ∧ Hid (ys.length + 1 = k ∧ ∀ j, j < ys.length → 1 ≤ numS (bareS (W.getD (j + 1) [])) ∧ nth ys j = signS (W.getD (j + 1) []) * numS (bareS (W.getD (j + 1) [])))) (fun sl _ => W.length - (intOf sl).toNat)
        case atStart => exact ⟨1, _, [], by omega, by omega, rfl, grown_refl _ _, hx6, own_nil _ _ _, Lib.hid ⟨rfl, fun j hj => by simp at hj⟩⟩
        case round =>
          clear hx6
          obtain ⟨k, vo, ys, hk1, hk, rfl, hg6, hbx, hown, HY⟩ := hrel
          have hgs := hg6.size
          obtain ⟨ao, co, rfl, hs⟩ := id hown.reads
          clear hs
          have c0 := hbx.c0
          have c1 := hbx.c1
          have cl := hbx.lt
          have cf := hbx.fr1
          have hbr' := hbr.grown hg6 (by rintro ⟨⟩; omega)
          have d0 := hbr'.c0
          have d1 := hbr'.c1
          have dl := hbr'.lt
          have df := hbr'.fr0
          have dg := hbr'.fr1
          have hBw : Below w.heap.size w wr := hB2.grown hg6 hB2.size (fun k e => by cases e; omega)
          by_cases hlt : k < W.length
          · have hck := cell_grown hg6 (by omega) (by rintro ⟨⟩; omega) (Hc2.out k hlt)
            have hwk := HWD.out k
            obtain ⟨wd, hwd⟩ : ∃ wd, W.getD k [] = wd := ⟨_, rfl⟩
            rw [hwd] at hck hwk
            have HG := Lib.hid (strB_get wd)
            have HZ := Lib.hid (strB_size wd)
            have HX := Lib.hid (strB_extract wd)
            obtain ⟨s, hs⟩ : ∃ s, strB wd = s := ⟨_, rfl⟩
            rw [hs] at HG HZ HX hck
            have HS := Lib.hid hs
            have HWd := Lib.hid hwd
            clear hs hwd
            have hll : ys.length < 1000000000 := by have := HY.out.1; omega
            have NB := Lib.hid (show numS (bareS wd) < 1 → ∀ p, ¬ isText l p from fun hv p hp => (by obtain ⟨n, xs⟩ := p; obtain ⟨q1, q2, q3, q4⟩ := HTR.out _ _ hp; have h5 : W.getD k [] = decL (nth xs (k - 1)) := (by rw [q1, show k = (k - 1) + 1 by omega, List.getD_cons_succ, Nat.add_sub_cancel]; exact getD_map_decL (by rw [q1] at hlt; simp at hlt; omega)); rw [HWd.out] at h5; have := (q4 (k - 1) (by rw [q1] at hlt; simp at hlt; omega)).1; rw [← h5] at this; omega))
            by_cases e0 : s.size = 0
            · have hbad := NB.out (by have := HZ.out; rw [e0] at this; rw [show wd = [] from List.eq_nil_of_length_eq_zero this.symm]; rw [show bareS [] = [] from rfl, numS_bad (fun h => by have := h.1; simp at this)]; omega)
              have HB := Lib.hid hbad
              have HNk := Lib.hid (show ∀ w, Calls Tryz.prog 74 #[.string s] w fun e w' => e = .returned (.int .i64 (-1)) ∧ w = w' from fun w => by have h1 := l01Number_any wd w (by omega); rw [HS.out] at h1; have := HZ.out; rw [e0] at this; rw [show wd = [] from List.eq_nil_of_length_eq_zero this.symm, numS_bad (l := []) (fun h => by have := h.1; simp at this)] at h1; exact h1)
              clear hbad
              go_wp2_with (first | (go_at_call 74; refine Calls.mono (HNk.out _) ?_; rintro e w' ⟨rfl, rfl⟩))
              refine bodyPost_gen (fun Y => boxed Y w.heap.size 26 0 (.slice none 0 0) ∧ Below w.heap.size w Y) ⟨put2_boxed hbr', put2_below _ _ hBw (Nat.le_refl _)⟩ fun Y hY => ?_
              obtain ⟨hY1, hY2⟩ := hY
              have y0 := hY1.c0
              have y1 := hY1.c1
              refine bodyPost_ret (v := .tuple #[.agg #[.int .i64 0, .slice none 0 0], .bool false]) (by simp [results, Tryz.results56, go_sem, y0, y1]) rfl ?_
              exact ⟨0, .slice none 0 0, [], false, rfl, hY2, own_nil _ _ _, fun h => (by cases h), fun _ p hp => HB.out p hp⟩
            · have hp : 0 < s.size := by omega
              by_cases e45 : byteAt wd 0 = 45
              · have hb : ((s[0]'hp).toNat : Int) = 45 := by rw [HG.out, e45]; rfl
                have hmin : minusS wd = true := by unfold minusS; rw [decide_eq_true_eq]; exact ⟨by have := HZ.out; omega, e45⟩
                have HBr := Lib.hid (show bareS wd = wd.drop 1 ∧ signS wd = -1 from ⟨if_pos hmin, if_pos hmin⟩)
                have HNk := Lib.hid (show ∀ w, Calls Tryz.prog 74 #[.string (s.extract 1 s.size)] w fun e w' => e = .returned (.int .i64 (numS (bareS wd))) ∧ w = w' from fun w => by rw [HX.out, HZ.out, List.take_length, HBr.out.1]; exact l01Number_any _ w (by rw [List.length_drop]; omega))
                have hz1 : 1 ≤ s.size := by omega
                clear e45 hmin
                have hvb := numS_le (bareS wd)
                obtain ⟨V, hV⟩ : ∃ V, numS (bareS wd) = V := ⟨_, rfl⟩
                rw [hV] at NB HNk hvb
                by_cases hv : V < 1
                · have HB := Lib.hid (NB.out hv)
                  go_wp2_with (first | (go_at_call 74; refine Calls.mono (HNk.out _) ?_; rintro e w' ⟨rfl, rfl⟩))
                  refine bodyPost_gen (fun Y => boxed Y w.heap.size 26 0 (.slice none 0 0) ∧ Below w.heap.size w Y) ⟨put2_boxed hbr', put2_below _ _ hBw (Nat.le_refl _)⟩ fun Y hY => ?_
                  obtain ⟨hY1, hY2⟩ := hY
                  have y0 := hY1.c0
                  have y1 := hY1.c1
                  refine bodyPost_ret (v := .tuple #[.agg #[.int .i64 0, .slice none 0 0], .bool false]) (by simp [results, Tryz.results56, go_sem, y0, y1]) rfl ?_
                  exact ⟨0, .slice none 0 0, [], false, rfl, hY2, own_nil _ _ _, fun h => (by cases h), fun _ p hp => HB.out p hp⟩
                · have HV := Lib.hid hV
                  clear hV
                  go_wp2_with (first | (go_at_call 74; refine Calls.mono (HNk.out _) ?_; rintro e w' ⟨rfl, rfl⟩) | (at_builtin; go_loud (refine wpList_appendL rfl _ _ 24 rfl 2 Tryz.underlying24 infoI W2.heap.size (.slice ao ys.length co) _ ys [_] rfl rfl (own.kept hown ?_) (reads_built rfl rfl rfl) (by simp; omega) (by ((try simp only [plus_size, World.size_alloc, World.size_drew, World.size_setCell, size_setRow, World.heap_drewN, List.length_append]) <;> omega)) ?_; (· (repeat (first | (with_reducible exact Below.refl _ _) | (with_reducible assumption) | (with_reducible refine below_plus' ?_ ?_; ((try simp only [plus_size, World.size_alloc, World.size_drew, World.size_setCell, size_setRow, World.heap_drewN, List.length_append]) <;> omega)) | (with_reducible refine below_alloc' ?_ ?_; ((try simp only [plus_size, World.size_alloc, World.size_drew, World.size_setCell, size_setRow, World.heap_drewN, List.length_append]) <;> omega)) | with_reducible refine Below.drew ?_ | (with_reducible refine below_drewN' ?_ _) | exact Below.refl _ _))); intro v' w' hown' hgr hB; obtain ⟨av, cv, rfl, hs'⟩ := id hown'.reads; clear hs'; have hbx' := (hbx.kept (show Below wr.heap.size wr _ from (Below.refl _ _).alloc (Nat.le_refl _) _)).grown hgr (fun e => by have := (hown.lt _ e).1; omega); have c0' := hbx'.c0; have c1' := hbx'.c1; have cl' := hbx'.lt; have cf' := hbx'.fr1)))
                  simp only [List.length_append, List.length_cons, List.length_nil, Nat.zero_add] at hown' hbx'
                  have hgW := grown_then_below hg6 (Below.mono (show Below W2.heap.size wr w' from Below.trans (show Below W2.heap.size wr _ from (Below.refl _ _).alloc (by omega) _) hB) (Nat.le_refl _))
                  go_roundw
                  case rel =>
                    refine ⟨k + 1, _, ys ++ [_], by omega, by omega, by go_num, grownBy_trans hgW (grownBy_setCell _ _ _ _), put1_boxed hbx', hown'.apart (grownBy_setCell _ _ _ _) (fun q hq e => ?_), ?_⟩
                    · have := (hown'.lt q hq).1
                      cases e; omega
                    · have hy := HY.out
                      refine Lib.hid ⟨by simp; omega, fun j hj => ?_⟩
                      by_cases hj2 : j < ys.length
                      · have := hy.2 j hj2
                        rw [nth_left hj2]
                        exact this
                      · obtain rfl : j = ys.length := by simp at hj; omega
                        rw [hy.1, HWd.out, HV.out, HBr.out.2, nth_last]
                        omega
                  case measure => simp [intOf]; omega
              · have hb : ¬ ((s[0]'hp).toNat : Int) = 45 := by rw [HG.out]; omega
                have hmin : ¬ minusS wd = true := by unfold minusS; rw [decide_eq_true_eq]; exact fun h => e45 h.2
                have HBr := Lib.hid (show bareS wd = wd ∧ signS wd = 1 from ⟨if_neg hmin, if_neg hmin⟩)
                have HNk := Lib.hid (show ∀ w, Calls Tryz.prog 74 #[.string s] w fun e w' => e = .returned (.int .i64 (numS (bareS wd))) ∧ w = w' from fun w => by rw [HBr.out.1, ← HS.out]; exact l01Number_any _ w (by omega))
                clear e45 hmin
                have hvb := numS_le (bareS wd)
                obtain ⟨V, hV⟩ : ∃ V, numS (bareS wd) = V := ⟨_, rfl⟩
                rw [hV] at NB HNk hvb
                by_cases hv : V < 1
                · have HB := Lib.hid (NB.out hv)
                  go_wp2_with (first | (go_at_call 74; refine Calls.mono (HNk.out _) ?_; rintro e w' ⟨rfl, rfl⟩))
                  refine bodyPost_gen (fun Y => boxed Y w.heap.size 26 0 (.slice none 0 0) ∧ Below w.heap.size w Y) ⟨put2_boxed hbr', put2_below _ _ hBw (Nat.le_refl _)⟩ fun Y hY => ?_
                  obtain ⟨hY1, hY2⟩ := hY
                  have y0 := hY1.c0
                  have y1 := hY1.c1
                  refine bodyPost_ret (v := .tuple #[.agg #[.int .i64 0, .slice none 0 0], .bool false]) (by simp [results, Tryz.results56, go_sem, y0, y1]) rfl ?_
                  exact ⟨0, .slice none 0 0, [], false, rfl, hY2, own_nil _ _ _, fun h => (by cases h), fun _ p hp => HB.out p hp⟩
                · have HV := Lib.hid hV
                  clear hV
                  go_wp2_with (first | (go_at_call 74; refine Calls.mono (HNk.out _) ?_; rintro e w' ⟨rfl, rfl⟩) | (at_builtin; go_loud (refine wpList_appendL rfl _ _ 24 rfl 2 Tryz.underlying24 infoI W2.heap.size (.slice ao ys.length co) _ ys [_] rfl rfl (own.kept hown ?_) (reads_built rfl rfl rfl) (by simp; omega) (by ((try simp only [plus_size, World.size_alloc, World.size_drew, World.size_setCell, size_setRow, World.heap_drewN, List.length_append]) <;> omega)) ?_; (· (repeat (first | (with_reducible exact Below.refl _ _) | (with_reducible assumption) | (with_reducible refine below_plus' ?_ ?_; ((try simp only [plus_size, World.size_alloc, World.size_drew, World.size_setCell, size_setRow, World.heap_drewN, List.length_append]) <;> omega)) | (with_reducible refine below_alloc' ?_ ?_; ((try simp only [plus_size, World.size_alloc, World.size_drew, World.size_setCell, size_setRow, World.heap_drewN, List.length_append]) <;> omega)) | with_reducible refine Below.drew ?_ | (with_reducible refine below_drewN' ?_ _) | exact Below.refl _ _))); intro v' w' hown' hgr hB; obtain ⟨av, cv, rfl, hs'⟩ := id hown'.reads; clear hs'; have hbx' := (hbx.kept (show Below wr.heap.size wr _ from (Below.refl _ _).alloc (Nat.le_refl _) _)).grown hgr (fun e => by have := (hown.lt _ e).1; omega); have c0' := hbx'.c0; have c1' := hbx'.c1; have cl' := hbx'.lt; have cf' := hbx'.fr1)))
                  simp only [List.length_append, List.length_cons, List.length_nil, Nat.zero_add] at hown' hbx'
                  have hgW := grown_then_below hg6 (Below.mono (show Below W2.heap.size wr w' from Below.trans (show Below W2.heap.size wr _ from (Below.refl _ _).alloc (by omega) _) hB) (Nat.le_refl _))
                  go_roundw
                  case rel =>
                    refine ⟨k + 1, _, ys ++ [_], by omega, by omega, by go_num, grownBy_trans hgW (grownBy_setCell _ _ _ _), put1_boxed hbx', hown'.apart (grownBy_setCell _ _ _ _) (fun q hq e => ?_), ?_⟩
                    · have := (hown'.lt q hq).1
                      cases e; omega
                    · have hy := HY.out
                      refine Lib.hid ⟨by simp; omega, fun j hj => ?_⟩
                      by_cases hj2 : j < ys.length
                      · have := hy.2 j hj2
                        rw [nth_left hj2]
                        exact this
                      · obtain rfl : j = ys.length := by simp at hj; omega
                        rw [hy.1, HWd.out, HV.out, HBr.out.2, nth_last]
                        omega
                  case measure => simp [intOf]; omega
          · obtain rfl : k = W.length := by omega
            have hy := HY.out
            have hfit : Fits ys := Fits_of fun j hj => by
              have h1 := numS_le (bareS (W.getD (j + 1) []))
              have h2 : signS (W.getD (j + 1) []) = 1 ∨ signS (W.getD (j + 1) []) = -1 := by unfold signS; split <;> simp
              rw [(hy.2 j hj).2]
              rcases h2 with h2 | h2 <;> rw [h2] <;> omega
            have HIs := Lib.hid (fun w' (h : reads w' (.slice ao ys.length co) ys) => spec_Is N (.slice ao ys.length co) ys w' h (by omega) hfit)
            have HOK := Lib.hid (show okW N ys = true → isText l (N, ys) from fun hok => by
              refine ⟨hok, HRT.out N ys (w0.take m) W.tail ?_ HN.out (by rw [List.length_tail]; omega) (fun j hj => by rw [getD_tail]; exact hy.2 j hj) hok⟩
              rw [← HF.out, ← H0.out]
              exact cons_tail hwp)
            have HNO := Lib.hid (show okW N ys = false → ∀ p, ¬ isText l p from fun hok p hp => by
              obtain ⟨n, xs⟩ := p
              obtain ⟨q1, q2, q3, q4⟩ := HTR.out _ _ hp
              have hw0 := H0.out
              rw [q1, List.getD_cons_zero] at hw0
              have hf := HF.out
              rw [← hw0] at hf
              have hdl := List.append_cancel_right hf
              have hNn := HN.out
              rw [← hw0, ← hdl, q2] at hNn
              have hlen : ys.length = xs.length := by have := hy.1; rw [q1] at this; simpa using this
              have hyx : ys = xs := ext_nth hlen fun j hj => by
                rw [(hy.2 j hj).2, q1, List.getD_cons_succ, getD_map_decL (by omega)]
                exact (q4 j (by omega)).2
              have := hp.1
              simp only [hNn, ← hyx] at this
              rw [this] at hok
              cases hok)
            have hrd := hown.reads
            clear hy hfit
            generalize okW N ys = G at HIs HOK HNO
            go_upto_region 17 with (fail)
            refine region_plus_tail 3 (by kernel_rfl) (by kernel_rfl) ?_
            simp only [List.take_succ_cons, List.take_zero, List.drop_succ_cons, List.drop_zero]
            repeat (go_big_quiet_step (first | (go_at_call 38; exact calls_plus (HIs.out _ (hrd.kept (by rw [plusq_eq]; (repeat (first | (with_reducible exact Below.refl _ _) | (with_reducible assumption) | (with_reducible refine below_plus' ?_ ?_; ((try simp only [plus_size, World.size_alloc, World.size_drew, World.size_setCell, size_setRow, World.heap_drewN, List.length_append]) <;> omega)) | (with_reducible refine below_alloc' ?_ ?_; ((try simp only [plus_size, World.size_alloc, World.size_drew, World.size_setCell, size_setRow, World.heap_drewN, List.length_append]) <;> omega)) | with_reducible refine Below.drew ?_ | (with_reducible refine below_drewN' ?_ _) | exact Below.refl _ _))))))))
            refine wpQuiet_nil ?_
            intro _ hw'
            obtain ⟨q, hw''⟩ := hw'
            subst hw''
            rw [plusq_eq]
            generalize q.j = j
            generalize q.d = d
            clear q
            go_wp2
            refine bodyPost_gen (fun Y => boxed Y w.heap.size 26 N (.slice ao ys.length co) ∧ Below w.heap.size w Y ∧ own 2 Y W2.heap.size (.slice ao ys.length co) ys) ⟨(put2_boxed hbr').kept (below_plus (Below.refl _ _) (Nat.le_refl _) j d), below_plus (put2_below _ _ hBw (Nat.le_refl _)) (put2_below _ _ hBw (Nat.le_refl _)).size j d, (hown.apart (put2_grown _ _ _ _) (fun q hq e => ?_)).kept (below_plus (Below.refl _ _) (Nat.le_refl _) j d)⟩ fun Y hY => ?_
            · have := (hown.lt q hq).1
              cases e; omega
            · obtain ⟨hY1, hY2, hY3⟩ := hY
              have y0 := hY1.c0
              have y1 := hY1.c1
              refine bodyPost_ret (v := .tuple #[.agg #[.int .i64 N, .slice ao ys.length co], .bool G]) (by simp [results, Tryz.results56, go_sem, y0, y1]) rfl ?_
              exact ⟨N, _, ys, G, rfl, hY2, hY3.mono (by omega), HOK.out, HNO.out⟩
      · have e3 : (201 : Int) < (W.length : Int) := by omega
        have NB := Lib.hid (show ∀ p, ¬ isText l p from fun p hp => (by obtain ⟨n, xs⟩ := p; obtain ⟨q1, q2, q3, q4⟩ := HTR.out _ _ hp; have := congrArg List.length q1; simp at this; omega))
        clear e1
        go_wp2
        refine bodyPost_gen (fun Y => boxed Y w.heap.size 26 0 (.slice none 0 0) ∧ Below w.heap.size w Y) ⟨put2_boxed hb2, put2_below _ _ hB0 (Nat.le_refl _)⟩ fun Y hY => ?_
        obtain ⟨hY1, hY2⟩ := hY
        have y0 := hY1.c0
        have y1 := hY1.c1
        refine bodyPost_ret (v := .tuple #[.agg #[.int .i64 0, .slice none 0 0], .bool false]) (by simp [results, Tryz.results56, go_sem, y0, y1]) rfl ?_
        exact ⟨0, .slice none 0 0, [], false, rfl, hY2, own_nil _ _ _, fun h => (by cases h), fun _ p hp => NB.out p hp⟩
    · have hb : ¬ ((s[m]'hml).toNat : Int) = 58 := by
        rw [HG.out]
        omega
      have NB := Lib.hid (show ∀ p, ¬ isText l p from fun p hp => (by obtain ⟨n, xs⟩ := p; obtain ⟨q1, q2, q3, q4⟩ := HTR.out _ _ hp; have h5 := congrArg (fun x => x.getD 0 []) q1; simp only [H0.out, List.getD_cons_zero] at h5; have hz := HZ.out; rw [hm, h5, List.length_append, List.length_singleton] at hz; rw [h5, show m = (decL n).length by omega] at e1; exact e1 (byteAt_snoc _ _)))
      clear e1
      go_wp2
      refine bodyPost_gen (fun Y => boxed Y w.heap.size 26 0 (.slice none 0 0) ∧ Below w.heap.size w Y) ⟨put2_boxed hb2, put2_below _ _ hB0 (Nat.le_refl _)⟩ fun Y hY => ?_
      obtain ⟨hY1, hY2⟩ := hY
      have y0 := hY1.c0
      have y1 := hY1.c1
      refine bodyPost_ret (v := .tuple #[.agg #[.int .i64 0, .slice none 0 0], .bool false]) (by simp [results, Tryz.results56, go_sem, y0, y1]) rfl ?_
      exact ⟨0, .slice none 0 0, [], false, rfl, hY2, own_nil _ _ _, fun h => (by cases h), fun _ p hp => NB.out p hp⟩
end Go.Proofs.YtblpbkfenmkhbaaGreatDoor
