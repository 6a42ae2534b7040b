/- The reduced matrix of a letter, by the reference. Conditions: as each theorem says. -/
import Derived.Test.YtikakoclmmmjdaaYb
namespace Go.Proofs.Ytikakoclmmmjdaa
open Go.RowKit
set_option linter.unusedSimpArgs false
set_option linter.unusedVariables false
open Go.RowKit
theorem wp_gen {P : Program} {c : Code} {Q : Exit → Act → World → Prop} {a : Act} {X : World} (F : World → Prop) (hf : F X) (h : ∀ Y, F Y → c.wp P Q a Y) : c.wp P Q a X := h X hf
theorem grown_below {w w1 w2 : World} {row : Option Nat} (h : w.grownBy w1 row) (hb : Below w1.heap.size w1 w2) : w.grownBy w2 row :=
  grownBy_trans h ⟨hb.os, hb.tape, hb.output, hb.size, fun k hk _ => hb.block k hk⟩
theorem grown_of_below {w w1 : World} (row : Option Nat) (hb : Below w.heap.size w w1) : w.grownBy w1 row := ⟨hb.os, hb.tape, hb.output, hb.size, fun k hk _ => hb.block k hk⟩
/-- the reduced matrix of a letter: its own row, and the matrix -/
def sideA (z : Int) : Pol := (if 0 < z then 1 else 0, [1])
def sideB (z : Int) : Pol := (if 0 < z then 0 else -1, [1])
def smallR (z : Int) (p : Nat) : Nat → Pol := fun j => if j = p then (sgn z, [-1]) else if j + 1 = p then sideA z else if j = p + 1 then sideB z else (0, [])
def smallP (z : Int) : Nat → Nat → Pol := setT unitP (z.natAbs - 1) (smallR z (z.natAbs - 1))
/-- a row that is being written, beside two polynomials in a block of their own -/
structure SmSt (T e : TypeId) (w w1 : World) (m kb ck b9 : Nat) (qa qb : Pol) (vA vB : Value) (X : World) (f : Nat → Pol) : Prop where
  ne : T ≠ e
  row : rowG T (Co e) X w.heap.size (.slice (some ⟨kb, 0, none⟩) m ck) (plL m f)
  gr : w1.grownBy X (some kb)
  bel : Below w.heap.size w X
  kB : w.heap.size ≤ kb
  cA : Co e X vA qa.2
  cB : Co e X vB qb.2
  bx : X.heap[b9]? = some (.cells #[.int .i64 qa.1, vA, .int .i64 qb.1, vB] T)
  far : kb ≠ b9
theorem SmSt.step {T e : TypeId} {w w1 : World} {m kb ck b9 : Nat} {qa qb : Pol} {vA vB : Value} {X Y : World} {f : Nat → Pol} (h : SmSt T e w w1 m kb ck b9 qa qb vA vB X f) (hb : Below X.heap.size X Y) {t : Nat} (ht : t < m) (l : Int) (sv : Value) (xs : List Int) (hx : Co e Y sv xs) :
    ∃ cur, Y.heap[kb]? = some (.cells cur T (0, 0)) ∧ t * 2 + (#[.int .i64 l, sv] : Array Value).size ≤ cur.size ∧ SmSt T e w w1 m kb ck b9 qa qb vA vB (Y.setRow kb (putA cur (t * 2) #[.int .i64 l, sv])) (updP f t (l, xs)) := by
  have hl := lt_of_block h.bx
  obtain ⟨cur, hcur, hsz, hgr, hput⟩ := (h.row.keep hb).put (t := t) (by rw [plL_length]; exact ht) l sv xs
  have hC := Co_block (e := e) h.ne hcur hgr
  have hr := hput hC (hC _ _ hx)
  rw [plL_set] at hr
  have hB := h.bel.trans (hb.mono h.bel.size)
  exact ⟨cur, hcur, hsz, h.ne, hr, grownBy_trans (grown_below h.gr hb) hgr, hB.trans (below_of_grown hgr hB.size (at_le h.kB)), h.kB, hC _ _ (own.kept h.cA hb), hC _ _ (own.kept h.cB hb),
    (hgr.block _ (Nat.lt_of_lt_of_le hl hb.size) (fun e => h.far (by cases e; rfl))).trans ((hb.block _ hl).trans h.bx), h.far⟩
theorem plT_eq {m : Nat} {F G : Nat → Nat → Pol} (h : ∀ i j, i < m → j < m → F i j = G i j) : plT m m F = plT m m G := by
  unfold plT
  apply List.map_congr_left
  intro i hi
  exact plL_ext fun j hj => h i j (by simpa using hi) hj
theorem SmSt.cells {T e : TypeId} {w w1 : World} {m kb ck b9 : Nat} {qa qb : Pol} {vA vB : Value} {X : World} {f : Nat → Pol} (h : SmSt T e w w1 m kb ck b9 qa qb vA vB X f) : X.cell? ⟨b9, 0, none⟩ = some (.int .i64 qa.1) ∧ X.cell? ⟨b9, 1, none⟩ = some vA ∧ X.cell? ⟨b9, 2, none⟩ = some (.int .i64 qb.1) ∧ X.cell? ⟨b9, 3, none⟩ = some vB ∧ b9 < X.heap.size := by
  refine ⟨?_, ?_, ?_, ?_, lt_of_block h.bx⟩ <;> simp [World.cell?, h.bx]
set_option maxHeartbeats 4000000 in
theorem l05Small_any (m : Nat) (z : Int) (w : World) (h8 : m ≤ 8) (hz0 : z ≠ 0) (hz1 : z.natAbs ≤ m) : Calls Try.prog 44 #[.int .i64 ((m : Int) + 1), .int .i64 z] w (RetTabP 50 37 2 w (plT m m (smallP z))) := by
  have hm1 : (m : Int) + 1 - 1 = m := by omega
  by_cases hz : 0 < z
  · obtain ⟨p1, rfl⟩ : ∃ p1 : Nat, z = p1 := ⟨z.natAbs, by omega⟩
    obtain ⟨p, hpa, hpb⟩ : ∃ p, p < p1 ∧ p1 ≤ p + 1 := ⟨p1 - 1, by omega, by omega⟩
    have hpm : (p1 : Int) - 1 = p := by omega
    have hpl : p < m := by omega
    clear hz1 hz0

    go_enter Try.func44, Try.ntmps44
    go_upto_region 8 with (first | (go_at_call 42; go_loud ((with_reducible refine Calls.mono (l05Unit_any m _ h8) ?_); rintro e w1 ⟨vo, rfl, hB1, ht⟩; obtain ⟨g, co, rv, rfl, hgB, hgl, hcg, hrow, hw⟩ := ht.wrote (by decide) (i := p) (by rw [plT_length]; omega); rw [prow_plT (by omega)] at hrow; obtain ⟨kb, ck, sv0, rfl, hkB, hkl, _, _, _⟩ := hrow.at (i := p) (by rw [plL_length]; omega); (simp only [plT_length, plL_length] at ht hw hrow hcg ⊢); obtain ⟨c0, hk0⟩ := hrow.block rfl; have hsz1 := hB1.size)) | (have h9 := hoa; clear h9; go_at_call 63; go_loud ((with_reducible refine Calls.mono (l05Term_any (1) (0) _ (by decide) (by decide) (by decide)) ?_); rintro e wb ⟨vb, rfl, hBb, hob⟩; obtain ⟨ab, cb, rfl⟩ := readsL_form hob.reads; obtain ⟨jb, db, rfl⟩ := plus_of_below hBb; clear hBb)) | (go_at_call 63; go_loud ((with_reducible refine Calls.mono (l05Term_any (1) (1) _ (by decide) (by decide) (by decide)) ?_); rintro e wa ⟨va, rfl, hBa, hoa⟩; obtain ⟨aa, ca, rfl⟩ := readsL_form hoa.reads; obtain ⟨ja, da, rfl⟩ := plus_of_below hBa; clear hBa)))
    have HW := Lib.hid hw
    refine wp_gen (fun X => SmSt 37 2 w w1 m kb ck (w1.heap.size + ja.length + jb.length) (1, [1]) (0, [1]) (.slice aa 1 ca) (.slice ab 1 cb) X (unitP p)) ⟨by decide, hrow.keep (by (repeat (first | (with_reducible exact Below.refl _ _) | (with_reducible assumption) | (with_reducible refine below_plus' ?_ ?_; ((try simp only [plus_size, World.size_alloc, World.size_drew, World.size_setCell, size_setRow, World.heap_drewN, List.length_append]) <;> omega)) | (with_reducible refine below_alloc' ?_ ?_; ((try simp only [plus_size, World.size_alloc, World.size_drew, World.size_setCell, size_setRow, World.heap_drewN, List.length_append]) <;> omega)) | with_reducible refine Below.drew ?_ | (with_reducible refine below_drewN' ?_ _) | exact Below.refl _ _))), grown_of_below _ (by (repeat (first | (with_reducible exact Below.refl _ _) | (with_reducible assumption) | (with_reducible refine below_plus' ?_ ?_; ((try simp only [plus_size, World.size_alloc, World.size_drew, World.size_setCell, size_setRow, World.heap_drewN, List.length_append]) <;> omega)) | (with_reducible refine below_alloc' ?_ ?_; ((try simp only [plus_size, World.size_alloc, World.size_drew, World.size_setCell, size_setRow, World.heap_drewN, List.length_append]) <;> omega)) | with_reducible refine Below.drew ?_ | (with_reducible refine below_drewN' ?_ _) | exact Below.refl _ _))), by (repeat (first | (with_reducible exact Below.refl _ _) | (with_reducible assumption) | (with_reducible refine below_plus' ?_ ?_; ((try simp only [plus_size, World.size_alloc, World.size_drew, World.size_setCell, size_setRow, World.heap_drewN, List.length_append]) <;> omega)) | (with_reducible refine below_alloc' ?_ ?_; ((try simp only [plus_size, World.size_alloc, World.size_drew, World.size_setCell, size_setRow, World.heap_drewN, List.length_append]) <;> omega)) | with_reducible refine Below.drew ?_ | (with_reducible refine below_drewN' ?_ _) | exact Below.refl _ _)), hkB, (hoa.kept (by (repeat (first | (with_reducible exact Below.refl _ _) | (with_reducible assumption) | (with_reducible refine below_plus' ?_ ?_; ((try simp only [plus_size, World.size_alloc, World.size_drew, World.size_setCell, size_setRow, World.heap_drewN, List.length_append]) <;> omega)) | (with_reducible refine below_alloc' ?_ ?_; ((try simp only [plus_size, World.size_alloc, World.size_drew, World.size_setCell, size_setRow, World.heap_drewN, List.length_append]) <;> omega)) | with_reducible refine Below.drew ?_ | (with_reducible refine below_drewN' ?_ _) | exact Below.refl _ _)))).mono (Nat.zero_le _), (hob.kept (by (repeat (first | (with_reducible exact Below.refl _ _) | (with_reducible assumption) | (with_reducible refine below_plus' ?_ ?_; ((try simp only [plus_size, World.size_alloc, World.size_drew, World.size_setCell, size_setRow, World.heap_drewN, List.length_append]) <;> omega)) | (with_reducible refine below_alloc' ?_ ?_; ((try simp only [plus_size, World.size_alloc, World.size_drew, World.size_setCell, size_setRow, World.heap_drewN, List.length_append]) <;> omega)) | with_reducible refine Below.drew ?_ | (with_reducible refine below_drewN' ?_ _) | exact Below.refl _ _)))).mono (Nat.zero_le _), by (repeat (first | (refine heap_at _ _ _ ?_; ((try simp only [plus_size, World.size_alloc, World.size_drew, World.size_setCell, size_setRow, World.heap_drewN, List.length_append]) <;> omega)) | (refine heap_past' ?_ ?_; ((try simp only [plus_size, World.size_alloc, World.size_drew, World.size_setCell, size_setRow, World.heap_drewN, List.length_append]) <;> omega)) | (refine heap_plus' ?_ ?_; ((try simp only [plus_size, World.size_alloc, World.size_drew, World.size_setCell, size_setRow, World.heap_drewN, List.length_append]) <;> omega)) | assumption)), by omega⟩ fun X hS => ?_
    generalize w1.heap.size + ja.length + jb.length = b9 at hS ⊢
    clear hw hrow hcg ht
    go_upto_region 9 with (first | (go_at_call 63; go_loud ((with_reducible refine Calls.mono (l05Term_any (-1) (1) _ (by decide) (by decide) (by decide)) ?_); rintro e we ⟨ve, rfl, hBe, hoe⟩; obtain ⟨ae, ce, rfl⟩ := readsL_form hoe.reads; obtain ⟨cur, hcur, hsz, hS1⟩ := hS.step hBe (t := p) (by omega) (1) (.slice ae 1 ce) [-1] (hoe.mono (Nat.zero_le _)); clear hS)) | ((with_reducible apply wpList_store_sub rfl rfl 37 _ _ rfl (kb) (p * 2) rfl _ rfl cur 37); (exact hcur); (exact infoLt2); (exact hsz); (exact pol_one _ _ _ _); revert hS1; generalize (World.setRow _ _ _) = w3; intro hS; obtain ⟨k0, k1, k2, k3, l9⟩ := hS.cells; clear hcur hsz))
    by_cases h1 : 1 < p1
    · have h1i : (1 : Int) < p1 := by omega
      obtain ⟨q, hqa, hqb⟩ : ∃ q, q < p ∧ p ≤ q + 1 := ⟨p - 1, by omega, by omega⟩
      have hqm : (p1 : Int) - 2 = q := by omega
      obtain ⟨cur, hcur, hsz, hS1⟩ := hS.step (Below.refl _ _) (t := q) (by omega) (1) (.slice aa 1 ca) [1] (hS.cA)
      go_upto_region 11 with (((with_reducible apply wpList_store_sub rfl rfl 37 _ _ rfl (kb) (q * 2) rfl _ rfl cur 37); (exact hcur); (exact infoLt2); (exact hsz); (exact pol_one _ _ _ _); revert hS1; generalize (World.setRow _ _ _) = w3; intro hS; obtain ⟨k0, k1, k2, k3, l9⟩ := hS.cells; clear hcur hsz))
      by_cases h2 : p1 < m
      · have h2i : (p1 : Int) < m := by omega
        obtain ⟨cur, hcur, hsz, hS1⟩ := hS.step (Below.refl _ _) (t := p1) (by omega) (0) (.slice ab 1 cb) [1] (hS.cB)
        go_upto_region 13 with (((with_reducible apply wpList_store_sub rfl rfl 37 _ _ rfl (kb) (p1 * 2) rfl _ rfl cur 37); (exact hcur); (exact infoLt2); (exact hsz); (exact pol_one _ _ _ _); revert hS1; generalize (World.setRow _ _ _) = w3; intro hS; obtain ⟨k0, k1, k2, k3, l9⟩ := hS.cells; clear hcur hsz))
        go_wp2
        go_ret
        refine ⟨_, rfl, hS.bel, ?_⟩
        have hF := HW.out _ _ hS.gr (Co_block (by decide) hk0 hS.gr) hS.row
        rw [plT_set, plT_eq (G := smallP (p1 : Int)) (fun i j hi hj => ?_)] at hF
        · exact hF
        · rw [smallP, show (p1 : Int).natAbs - 1 = p by omega]
          simp only [setT]
          by_cases hi2 : i = p
          · simp only [if_pos hi2, updP, unitP, smallR, sideA, sideB, sgn]
            (repeat' split) <;> first | rfl | omega
          · simp only [if_neg hi2]
      · have h2i : ¬ (p1 : Int) < m := by omega
        go_wp2
        go_ret
        refine ⟨_, rfl, hS.bel, ?_⟩
        have hF := HW.out _ _ hS.gr (Co_block (by decide) hk0 hS.gr) hS.row
        rw [plT_set, plT_eq (G := smallP (p1 : Int)) (fun i j hi hj => ?_)] at hF
        · exact hF
        · rw [smallP, show (p1 : Int).natAbs - 1 = p by omega]
          simp only [setT]
          by_cases hi2 : i = p
          · simp only [if_pos hi2, updP, unitP, smallR, sideA, sideB, sgn]
            (repeat' split) <;> first | rfl | omega
          · simp only [if_neg hi2]
    · have h1i : ¬ (1 : Int) < p1 := by omega
      go_upto_region 11 with (fail)
      by_cases h2 : p1 < m
      · have h2i : (p1 : Int) < m := by omega
        obtain ⟨cur, hcur, hsz, hS1⟩ := hS.step (Below.refl _ _) (t := p1) (by omega) (0) (.slice ab 1 cb) [1] (hS.cB)
        go_upto_region 13 with (((with_reducible apply wpList_store_sub rfl rfl 37 _ _ rfl (kb) (p1 * 2) rfl _ rfl cur 37); (exact hcur); (exact infoLt2); (exact hsz); (exact pol_one _ _ _ _); revert hS1; generalize (World.setRow _ _ _) = w3; intro hS; obtain ⟨k0, k1, k2, k3, l9⟩ := hS.cells; clear hcur hsz))
        go_wp2
        go_ret
        refine ⟨_, rfl, hS.bel, ?_⟩
        have hF := HW.out _ _ hS.gr (Co_block (by decide) hk0 hS.gr) hS.row
        rw [plT_set, plT_eq (G := smallP (p1 : Int)) (fun i j hi hj => ?_)] at hF
        · exact hF
        · rw [smallP, show (p1 : Int).natAbs - 1 = p by omega]
          simp only [setT]
          by_cases hi2 : i = p
          · simp only [if_pos hi2, updP, unitP, smallR, sideA, sideB, sgn]
            (repeat' split) <;> first | rfl | omega
          · simp only [if_neg hi2]
      · have h2i : ¬ (p1 : Int) < m := by omega
        go_wp2
        go_ret
        refine ⟨_, rfl, hS.bel, ?_⟩
        have hF := HW.out _ _ hS.gr (Co_block (by decide) hk0 hS.gr) hS.row
        rw [plT_set, plT_eq (G := smallP (p1 : Int)) (fun i j hi hj => ?_)] at hF
        · exact hF
        · rw [smallP, show (p1 : Int).natAbs - 1 = p by omega]
          simp only [setT]
          by_cases hi2 : i = p
          · simp only [if_pos hi2, updP, unitP, smallR, sideA, sideB, sgn]
            (repeat' split) <;> first | rfl | omega
          · simp only [if_neg hi2]

  · obtain ⟨p1, rfl⟩ : ∃ p1 : Nat, z = -(p1 : Int) := ⟨z.natAbs, by omega⟩
    obtain ⟨p, hpa, hpb⟩ : ∃ p, p < p1 ∧ p1 ≤ p + 1 := ⟨p1 - 1, by omega, by omega⟩
    have hpm : (p1 : Int) - 1 = p := by omega
    have hpl : p < m := by omega
    clear hz1 hz0

    go_enter Try.func44, Try.ntmps44
    go_upto_region 8 with (first | (go_at_call 42; go_loud ((with_reducible refine Calls.mono (l05Unit_any m _ h8) ?_); rintro e w1 ⟨vo, rfl, hB1, ht⟩; obtain ⟨g, co, rv, rfl, hgB, hgl, hcg, hrow, hw⟩ := ht.wrote (by decide) (i := p) (by rw [plT_length]; omega); rw [prow_plT (by omega)] at hrow; obtain ⟨kb, ck, sv0, rfl, hkB, hkl, _, _, _⟩ := hrow.at (i := p) (by rw [plL_length]; omega); (simp only [plT_length, plL_length] at ht hw hrow hcg ⊢); obtain ⟨c0, hk0⟩ := hrow.block rfl; have hsz1 := hB1.size)) | (have h9 := hoc; clear h9; go_at_call 63; go_loud ((with_reducible refine Calls.mono (l05Term_any (1) (-1) _ (by decide) (by decide) (by decide)) ?_); rintro e wd ⟨vd, rfl, hBd, hod⟩; obtain ⟨ad, cd, rfl⟩ := readsL_form hod.reads; obtain ⟨jd, dd, rfl⟩ := plus_of_below hBd; clear hBd)) | (have h9 := hob; clear h9; go_at_call 63; go_loud ((with_reducible refine Calls.mono (l05Term_any (1) (0) _ (by decide) (by decide) (by decide)) ?_); rintro e wc ⟨vc, rfl, hBc, hoc⟩; obtain ⟨ac, cc, rfl⟩ := readsL_form hoc.reads; obtain ⟨jc, dc, rfl⟩ := plus_of_below hBc; clear hBc)) | (have h9 := hoa; clear h9; go_at_call 63; go_loud ((with_reducible refine Calls.mono (l05Term_any (1) (0) _ (by decide) (by decide) (by decide)) ?_); rintro e wb ⟨vb, rfl, hBb, hob⟩; obtain ⟨ab, cb, rfl⟩ := readsL_form hob.reads; obtain ⟨jb, db, rfl⟩ := plus_of_below hBb; clear hBb)) | (go_at_call 63; go_loud ((with_reducible refine Calls.mono (l05Term_any (1) (1) _ (by decide) (by decide) (by decide)) ?_); rintro e wa ⟨va, rfl, hBa, hoa⟩; obtain ⟨aa, ca, rfl⟩ := readsL_form hoa.reads; obtain ⟨ja, da, rfl⟩ := plus_of_below hBa; clear hBa)))
    have HW := Lib.hid hw
    refine wp_gen (fun X => SmSt 37 2 w w1 m kb ck (w1.heap.size + ja.length + jb.length + 1 + jc.length + jd.length) (0, [1]) (-1, [1]) (.slice ac 1 cc) (.slice ad 1 cd) X (unitP p)) ⟨by decide, hrow.keep (by (repeat (first | (with_reducible exact Below.refl _ _) | (with_reducible assumption) | (with_reducible refine below_plus' ?_ ?_; ((try simp only [plus_size, World.size_alloc, World.size_drew, World.size_setCell, size_setRow, World.heap_drewN, List.length_append]) <;> omega)) | (with_reducible refine below_alloc' ?_ ?_; ((try simp only [plus_size, World.size_alloc, World.size_drew, World.size_setCell, size_setRow, World.heap_drewN, List.length_append]) <;> omega)) | with_reducible refine Below.drew ?_ | (with_reducible refine below_drewN' ?_ _) | exact Below.refl _ _))), grown_of_below _ (by (repeat (first | (with_reducible exact Below.refl _ _) | (with_reducible assumption) | (with_reducible refine below_plus' ?_ ?_; ((try simp only [plus_size, World.size_alloc, World.size_drew, World.size_setCell, size_setRow, World.heap_drewN, List.length_append]) <;> omega)) | (with_reducible refine below_alloc' ?_ ?_; ((try simp only [plus_size, World.size_alloc, World.size_drew, World.size_setCell, size_setRow, World.heap_drewN, List.length_append]) <;> omega)) | with_reducible refine Below.drew ?_ | (with_reducible refine below_drewN' ?_ _) | exact Below.refl _ _))), by (repeat (first | (with_reducible exact Below.refl _ _) | (with_reducible assumption) | (with_reducible refine below_plus' ?_ ?_; ((try simp only [plus_size, World.size_alloc, World.size_drew, World.size_setCell, size_setRow, World.heap_drewN, List.length_append]) <;> omega)) | (with_reducible refine below_alloc' ?_ ?_; ((try simp only [plus_size, World.size_alloc, World.size_drew, World.size_setCell, size_setRow, World.heap_drewN, List.length_append]) <;> omega)) | with_reducible refine Below.drew ?_ | (with_reducible refine below_drewN' ?_ _) | exact Below.refl _ _)), hkB, (hoc.kept (by (repeat (first | (with_reducible exact Below.refl _ _) | (with_reducible assumption) | (with_reducible refine below_plus' ?_ ?_; ((try simp only [plus_size, World.size_alloc, World.size_drew, World.size_setCell, size_setRow, World.heap_drewN, List.length_append]) <;> omega)) | (with_reducible refine below_alloc' ?_ ?_; ((try simp only [plus_size, World.size_alloc, World.size_drew, World.size_setCell, size_setRow, World.heap_drewN, List.length_append]) <;> omega)) | with_reducible refine Below.drew ?_ | (with_reducible refine below_drewN' ?_ _) | exact Below.refl _ _)))).mono (Nat.zero_le _), (hod.kept (by (repeat (first | (with_reducible exact Below.refl _ _) | (with_reducible assumption) | (with_reducible refine below_plus' ?_ ?_; ((try simp only [plus_size, World.size_alloc, World.size_drew, World.size_setCell, size_setRow, World.heap_drewN, List.length_append]) <;> omega)) | (with_reducible refine below_alloc' ?_ ?_; ((try simp only [plus_size, World.size_alloc, World.size_drew, World.size_setCell, size_setRow, World.heap_drewN, List.length_append]) <;> omega)) | with_reducible refine Below.drew ?_ | (with_reducible refine below_drewN' ?_ _) | exact Below.refl _ _)))).mono (Nat.zero_le _), by (repeat (first | (refine heap_at _ _ _ ?_; ((try simp only [plus_size, World.size_alloc, World.size_drew, World.size_setCell, size_setRow, World.heap_drewN, List.length_append]) <;> omega)) | (refine heap_past' ?_ ?_; ((try simp only [plus_size, World.size_alloc, World.size_drew, World.size_setCell, size_setRow, World.heap_drewN, List.length_append]) <;> omega)) | (refine heap_plus' ?_ ?_; ((try simp only [plus_size, World.size_alloc, World.size_drew, World.size_setCell, size_setRow, World.heap_drewN, List.length_append]) <;> omega)) | assumption)), by omega⟩ fun X hS => ?_
    generalize w1.heap.size + ja.length + jb.length + 1 + jc.length + jd.length = b9 at hS ⊢
    clear hw hrow hcg ht
    go_upto_region 9 with (first | (go_at_call 63; go_loud ((with_reducible refine Calls.mono (l05Term_any (-1) (-1) _ (by decide) (by decide) (by decide)) ?_); rintro e we ⟨ve, rfl, hBe, hoe⟩; obtain ⟨ae, ce, rfl⟩ := readsL_form hoe.reads; obtain ⟨cur, hcur, hsz, hS1⟩ := hS.step hBe (t := p) (by omega) (-1) (.slice ae 1 ce) [-1] (hoe.mono (Nat.zero_le _)); clear hS)) | ((with_reducible apply wpList_store_sub rfl rfl 37 _ _ rfl (kb) (p * 2) rfl _ rfl cur 37); (exact hcur); (exact infoLt2); (exact hsz); (exact pol_one _ _ _ _); revert hS1; generalize (World.setRow _ _ _) = w3; intro hS; obtain ⟨k0, k1, k2, k3, l9⟩ := hS.cells; clear hcur hsz))
    by_cases h1 : 1 < p1
    · have h1i : (1 : Int) < p1 := by omega
      obtain ⟨q, hqa, hqb⟩ : ∃ q, q < p ∧ p ≤ q + 1 := ⟨p - 1, by omega, by omega⟩
      have hqm : (p1 : Int) - 2 = q := by omega
      obtain ⟨cur, hcur, hsz, hS1⟩ := hS.step (Below.refl _ _) (t := q) (by omega) (0) (.slice ac 1 cc) [1] (hS.cA)
      go_upto_region 11 with (((with_reducible apply wpList_store_sub rfl rfl 37 _ _ rfl (kb) (q * 2) rfl _ rfl cur 37); (exact hcur); (exact infoLt2); (exact hsz); (exact pol_one _ _ _ _); revert hS1; generalize (World.setRow _ _ _) = w3; intro hS; obtain ⟨k0, k1, k2, k3, l9⟩ := hS.cells; clear hcur hsz))
      by_cases h2 : p1 < m
      · have h2i : (p1 : Int) < m := by omega
        obtain ⟨cur, hcur, hsz, hS1⟩ := hS.step (Below.refl _ _) (t := p1) (by omega) (-1) (.slice ad 1 cd) [1] (hS.cB)
        go_upto_region 13 with (((with_reducible apply wpList_store_sub rfl rfl 37 _ _ rfl (kb) (p1 * 2) rfl _ rfl cur 37); (exact hcur); (exact infoLt2); (exact hsz); (exact pol_one _ _ _ _); revert hS1; generalize (World.setRow _ _ _) = w3; intro hS; obtain ⟨k0, k1, k2, k3, l9⟩ := hS.cells; clear hcur hsz))
        go_wp2
        go_ret
        refine ⟨_, rfl, hS.bel, ?_⟩
        have hF := HW.out _ _ hS.gr (Co_block (by decide) hk0 hS.gr) hS.row
        rw [plT_set, plT_eq (G := smallP (-(p1 : Int))) (fun i j hi hj => ?_)] at hF
        · exact hF
        · rw [smallP, show (-(p1 : Int)).natAbs - 1 = p by omega]
          simp only [setT]
          by_cases hi2 : i = p
          · simp only [if_pos hi2, updP, unitP, smallR, sideA, sideB, sgn]
            (repeat' split) <;> first | rfl | omega
          · simp only [if_neg hi2]
      · have h2i : ¬ (p1 : Int) < m := by omega
        go_wp2
        go_ret
        refine ⟨_, rfl, hS.bel, ?_⟩
        have hF := HW.out _ _ hS.gr (Co_block (by decide) hk0 hS.gr) hS.row
        rw [plT_set, plT_eq (G := smallP (-(p1 : Int))) (fun i j hi hj => ?_)] at hF
        · exact hF
        · rw [smallP, show (-(p1 : Int)).natAbs - 1 = p by omega]
          simp only [setT]
          by_cases hi2 : i = p
          · simp only [if_pos hi2, updP, unitP, smallR, sideA, sideB, sgn]
            (repeat' split) <;> first | rfl | omega
          · simp only [if_neg hi2]
    · have h1i : ¬ (1 : Int) < p1 := by omega
      go_upto_region 11 with (fail)
      by_cases h2 : p1 < m
      · have h2i : (p1 : Int) < m := by omega
        obtain ⟨cur, hcur, hsz, hS1⟩ := hS.step (Below.refl _ _) (t := p1) (by omega) (-1) (.slice ad 1 cd) [1] (hS.cB)
        go_upto_region 13 with (((with_reducible apply wpList_store_sub rfl rfl 37 _ _ rfl (kb) (p1 * 2) rfl _ rfl cur 37); (exact hcur); (exact infoLt2); (exact hsz); (exact pol_one _ _ _ _); revert hS1; generalize (World.setRow _ _ _) = w3; intro hS; obtain ⟨k0, k1, k2, k3, l9⟩ := hS.cells; clear hcur hsz))
        go_wp2
        go_ret
        refine ⟨_, rfl, hS.bel, ?_⟩
        have hF := HW.out _ _ hS.gr (Co_block (by decide) hk0 hS.gr) hS.row
        rw [plT_set, plT_eq (G := smallP (-(p1 : Int))) (fun i j hi hj => ?_)] at hF
        · exact hF
        · rw [smallP, show (-(p1 : Int)).natAbs - 1 = p by omega]
          simp only [setT]
          by_cases hi2 : i = p
          · simp only [if_pos hi2, updP, unitP, smallR, sideA, sideB, sgn]
            (repeat' split) <;> first | rfl | omega
          · simp only [if_neg hi2]
      · have h2i : ¬ (p1 : Int) < m := by omega
        go_wp2
        go_ret
        refine ⟨_, rfl, hS.bel, ?_⟩
        have hF := HW.out _ _ hS.gr (Co_block (by decide) hk0 hS.gr) hS.row
        rw [plT_set, plT_eq (G := smallP (-(p1 : Int))) (fun i j hi hj => ?_)] at hF
        · exact hF
        · rw [smallP, show (-(p1 : Int)).natAbs - 1 = p by omega]
          simp only [setT]
          by_cases hi2 : i = p
          · simp only [if_pos hi2, updP, unitP, smallR, sideA, sideB, sgn]
            (repeat' split) <;> first | rfl | omega
          · simp only [if_neg hi2]

end Go.Proofs.Ytikakoclmmmjdaa
