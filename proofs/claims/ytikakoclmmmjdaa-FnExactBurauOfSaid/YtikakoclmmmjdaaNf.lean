/- Burau's matrix of a letter, by the reference. Conditions: as each theorem says. -/
import Derived.Test.YtikakoclmmmjdaaNe
namespace Go.Proofs.Ytikakoclmmmjdaa
open Go.RowKit
set_option linter.unusedSimpArgs false
set_option linter.unusedVariables false
open Go.RowKit
/-- a table of polynomials whose rows are the values vs -/
def tabW (S T : TypeId) (C : Cont) (w : World) (B : Nat) (v : Value) (M : List (List Pol)) (vs : List Value) : Prop :=
  vs.length = M.length ∧ w.ownsRow B S 1 v M.length vs ∧ (∀ i, i < M.length → rowG T C w B (slot vs i) (prow M i)) ∧ (∀ i j, i < M.length → j < M.length → i ≠ j → ∀ k, (slot vs i).ownBlock = some k → (slot vs j).ownBlock ≠ some k)
theorem tabG.vs {S T : TypeId} {C : Cont} {w : World} {B : Nat} {v : Value} {M : List (List Pol)} (h : tabG S T C w B v M) : ∃ vs, tabW S T C w B v M vs := h
theorem tabW.tab {S T : TypeId} {C : Cont} {w : World} {B : Nat} {v : Value} {M : List (List Pol)} {vs : List Value} (h : tabW S T C w B v M vs) : tabG S T C w B v M := ⟨vs, h⟩
theorem tabW.at {S T : TypeId} {C : Cont} {w : World} {B : Nat} {v : Value} {M : List (List Pol)} {vs : List Value} (h : tabW S T C w B v M vs) (h0 : 0 < M.length) : ∃ g c, v = .slice (some ⟨g, 0, none⟩) M.length c ∧ B ≤ g ∧ g < w.heap.size ∧ ∀ i, i < M.length → w.cell? ⟨g, i, none⟩ = some (slot vs i) := by
  obtain ⟨h1, h2, h3, h4⟩ := h
  have hl := h2.lt
  have hlc := fun g hg => World.ownsRow.cells h2 (g := g) hg
  rcases h2.2 with ⟨rfl, hn⟩ | ⟨g, cap, cur, rfl, hg, hh, _⟩
  · omega
  · refine ⟨g, cap, rfl, (hl g rfl).1, (hl g rfl).2, fun i hi => ?_⟩
    have := hlc g rfl i (slot vs i) (slot_get (by omega))
    have e : (⟨g, 0, none⟩ : Addr).add i = ⟨g, 0 + i, none⟩ := by unfold Addr.add; split <;> simp_all
    rw [e, Nat.zero_add] at this
    exact this
theorem tabW.wrote {S T : TypeId} {C : Cont} {w : World} {B : Nat} {v : Value} {M : List (List Pol)} {vs : List Value} (hST : S ≠ T) (h : tabW S T C w B v M vs) {i : Nat} (hi : i < M.length) {w' : World} {r : List Pol} (hgr : w.grownBy w' (slot vs i).ownBlock) (hC : ∀ x xs, C w x xs → C w' x xs) (hr : rowG T C w' B (slot vs i) r) : tabW S T C w' B v (M.set i r) vs := by
  obtain ⟨h1, h2, h3, h4⟩ := h
  refine ⟨by rw [List.length_set]; exact h1, ?_, fun j hj => ?_, fun a b ha hb => h4 a b (by rwa [List.length_set] at ha) (by rwa [List.length_set] at hb)⟩
  · rw [List.length_set]
    refine h2.kept hgr ?_
    cases hvo : v.ownBlock with
    | none => exact .inl rfl
    | some k =>
      refine .inr fun e => ?_
      obtain ⟨c1, hk⟩ := row_block h2 hvo
      obtain ⟨c2, hk2⟩ := (h3 i hi).block e.symm
      exact block_ne hST hk hk2 rfl
  · rw [List.length_set] at hj
    by_cases hij : i = j
    · subst hij
      rw [prow_set_same hi]
      exact hr
    · rw [prow_set_other hij]
      exact (h3 j hj).kept hgr (fun k hk e => h4 i j hi hj hij k e hk) hC
theorem tabW.below {S T : TypeId} {C : Cont} {w w' : World} {B : Nat} {v : Value} {M : List (List Pol)} {vs : List Value} (h : tabW S T C w B v M vs) (hb : Below w.heap.size w w') (hC : ∀ x xs, C w x xs → C w' x xs) : tabW S T C w' B v M vs :=
  ⟨h.1, h.2.1.kept (row := none) ⟨hb.os, hb.tape, hb.output, hb.size, fun k hk _ => hb.block k hk⟩ (by cases v.ownBlock <;> simp), fun i hi => (h.2.2.1 i hi).below hb hC, h.2.2.2⟩
/-- one entry is written -/
theorem tabW.put {S T e : TypeId} {w : World} {B m k g c : Nat} {v : Value} {F : Nat → Nat → Pol} {vs : List Value} (hST : S ≠ T) (hTe : T ≠ e) (h : tabW S T (Co e) w B v (plT m k F) vs) {i t : Nat} (hi : i < k) (ht : t < m) (hv : slot vs i = .slice (some ⟨g, 0, none⟩) m c) (l : Int) (sv : Value) (xs : List Int) (hx : Co e w sv xs) :
    ∃ cur, w.heap[g]? = some (.cells cur T (0, 0)) ∧ t * 2 + (#[.int .i64 l, sv] : Array Value).size ≤ cur.size ∧ w.grownBy (w.setRow g (putA cur (t * 2) #[.int .i64 l, sv])) (some g) ∧ B ≤ g ∧ g < w.heap.size ∧
      tabW S T (Co e) (w.setRow g (putA cur (t * 2) #[.int .i64 l, sv])) B v (plT m k (setT F i (updP (F i) t (l, xs)))) vs := by
  have hr := h.2.2.1 i (by rw [plT_length]; exact hi)
  rw [prow_plT hi, hv] at hr
  have hlt := hr.lt g rfl
  obtain ⟨cur, hcur, hsz, hgr, hput⟩ := hr.put (t := t) (by rw [plL_length]; exact ht) l sv xs
  have hC := Co_block (e := e) hTe hcur hgr
  have hr2 := hput hC (hC _ _ hx)
  rw [plL_set] at hr2
  refine ⟨cur, hcur, hsz, hgr, hlt.1, hlt.2, ?_⟩
  have := h.wrote hST (i := i) (by rw [plT_length]; exact hi) (r := plL m (updP (F i) t (l, xs))) (by rw [hv]; exact hgr) hC (by rw [hv]; exact hr2)
  rw [plT_set] at this
  exact this
theorem tabW.row {S T : TypeId} {C : Cont} {w : World} {B m k : Nat} {v : Value} {F : Nat → Nat → Pol} {vs : List Value} (h : tabW S T C w B v (plT m k F) vs) {i : Nat} (hi : i < k) (hm : 0 < m) : ∃ g c, slot vs i = .slice (some ⟨g, 0, none⟩) m c ∧ B ≤ g ∧ g < w.heap.size := by
  have hr := h.2.2.1 i (by rw [plT_length]; exact hi)
  rw [prow_plT hi] at hr
  obtain ⟨g, c, sv, hv, h1, h2, _⟩ := hr.at (i := 0) (by rw [plL_length]; exact hm)
  rw [plL_length] at hv
  exact ⟨g, c, hv, h1, h2⟩
theorem own_two {e : TypeId} {w : World} {B b : Nat} {x y : Int} (hb : b = w.heap.size) (hB : B ≤ w.heap.size) : own e (w.alloc (.cells #[.int .i64 x, .int .i64 y] e)) B (.slice (some ⟨b, 0, none⟩) 2 2) [x, y] := by
  subst hb
  exact ⟨rfl, .inr ⟨w.heap.size, 2, _, rfl, hB, heap_alloc_last _ _, by simp, by decide, rfl, rfl⟩⟩
/-- the matrix of a letter -/
def letR (z : Int) (p : Nat) : Nat → Pol := fun j => if j = p then (if 0 < z then (0, [1, -1]) else (0, [])) else if j = p + 1 then (if 0 < z then (1, [1]) else (0, [1])) else (0, [])
def letQ (z : Int) (p : Nat) : Nat → Pol := fun j => if j = p then (if 0 < z then (0, [1]) else (-1, [1])) else if j = p + 1 then (if 0 < z then (0, []) else (-1, [-1, 1])) else (0, [])
def letterP (z : Int) : Nat → Nat → Pol := setT (setT unitP (z.natAbs - 1) (letR z (z.natAbs - 1))) z.natAbs (letQ z (z.natAbs - 1))
theorem let_pos {p p1 : Nat} (ha : p < p1) (hb : p1 ≤ p + 1) (i j : Nat) : setT (setT (setT (setT unitP p (updP (unitP p) p (0, [1, -1]))) p (updP (setT unitP p (updP (unitP p) p (0, [1, -1])) p) p1 (1, [1]))) p1 (updP (setT (setT unitP p (updP (unitP p) p (0, [1, -1]))) p (updP (setT unitP p (updP (unitP p) p (0, [1, -1])) p) p1 (1, [1])) p1) p (0, [1]))) p1 (updP (setT (setT (setT unitP p (updP (unitP p) p (0, [1, -1]))) p (updP (setT unitP p (updP (unitP p) p (0, [1, -1])) p) p1 (1, [1]))) p1 (updP (setT (setT unitP p (updP (unitP p) p (0, [1, -1]))) p (updP (setT unitP p (updP (unitP p) p (0, [1, -1])) p) p1 (1, [1])) p1) p (0, [1])) p1) p1 (0, [])) i j = letterP p1 i j := by
  obtain rfl : p1 = p + 1 := by omega
  have e : ((p + 1 : Nat) : Int).natAbs = p + 1 := by omega
  have z : (0 : Int) < ((p + 1 : Nat) : Int) := by omega
  generalize ((p + 1 : Nat) : Int) = zz at e z ⊢
  simp only [letterP, e, Nat.add_sub_cancel, setT]
  by_cases h1 : i = p + 1
  · have h2 : ¬ p + 1 = p := by omega
    by_cases h3 : j = p + 1
    · have h4 : ¬ j = p := by omega
      simp [h1, h3, updP, unitP, letQ, letR, z]
    · by_cases h4 : j = p <;> simp [h1, h3, h4, updP, unitP, letQ, letR, z]
  · by_cases h2 : i = p
    · by_cases h3 : j = p + 1
      · simp [h2, h3, updP, unitP, letQ, letR, z]
      · by_cases h4 : j = p <;> simp [h2, h3, h4, updP, unitP, letQ, letR, z]
    · simp [h1, h2]
theorem let_neg {p p1 : Nat} (ha : p < p1) (hb : p1 ≤ p + 1) (i j : Nat) : setT (setT (setT (setT unitP p (updP (unitP p) p (0, []))) p (updP (setT unitP p (updP (unitP p) p (0, [])) p) p1 (0, [1]))) p1 (updP (setT (setT unitP p (updP (unitP p) p (0, []))) p (updP (setT unitP p (updP (unitP p) p (0, [])) p) p1 (0, [1])) p1) p (-1, [1]))) p1 (updP (setT (setT (setT unitP p (updP (unitP p) p (0, []))) p (updP (setT unitP p (updP (unitP p) p (0, [])) p) p1 (0, [1]))) p1 (updP (setT (setT unitP p (updP (unitP p) p (0, []))) p (updP (setT unitP p (updP (unitP p) p (0, [])) p) p1 (0, [1])) p1) p (-1, [1])) p1) p1 (-1, [-1, 1])) i j = letterP (-(p1 : Int)) i j := by
  obtain rfl : p1 = p + 1 := by omega
  have e : (-((p + 1 : Nat) : Int)).natAbs = p + 1 := by omega
  have z : ¬ (0 : Int) < (-((p + 1 : Nat) : Int)) := by omega
  generalize (-((p + 1 : Nat) : Int)) = zz at e z ⊢
  simp only [letterP, e, Nat.add_sub_cancel, setT]
  by_cases h1 : i = p + 1
  · have h2 : ¬ p + 1 = p := by omega
    by_cases h3 : j = p + 1
    · have h4 : ¬ j = p := by omega
      simp [h1, h3, updP, unitP, letQ, letR, z]
    · by_cases h4 : j = p <;> simp [h1, h3, h4, updP, unitP, letQ, letR, z]
  · by_cases h2 : i = p
    · by_cases h3 : j = p + 1
      · simp [h2, h3, updP, unitP, letQ, letR, z]
      · by_cases h4 : j = p <;> simp [h2, h3, h4, updP, unitP, letQ, letR, z]
    · simp [h1, h2]
/-- a table that is being written -/
structure LtSt (S T e : TypeId) (w : World) (n : Nat) (v : Value) (vs : List Value) (X : World) (F : Nat → Nat → Pol) : Prop where
  tab : tabW S T (Co e) X w.heap.size v (plT n n F) vs
  bel : Below w.heap.size w X
theorem LtSt.step {S T e : TypeId} {w X Y : World} {n g c : Nat} {v : Value} {vs : List Value} {F : Nat → Nat → Pol} (h : LtSt S T e w n v vs X F) (hST : S ≠ T) (hTe : T ≠ e) (hb : Below X.heap.size X Y) {i t : Nat} (hi : i < n) (ht : t < n) (hv : slot vs i = .slice (some ⟨g, 0, none⟩) n c) (l : Int) (sv : Value) (xs : List Int) (hx : Co e Y sv xs) :
    ∃ cur, Y.heap[g]? = some (.cells cur T (0, 0)) ∧ t * 2 + (#[.int .i64 l, sv] : Array Value).size ≤ cur.size ∧ LtSt S T e w n v vs (Y.setRow g (putA cur (t * 2) #[.int .i64 l, sv])) (setT F i (updP (F i) t (l, xs))) := by
  obtain ⟨cur, h1, h2, h3, h4, h5, h6⟩ := (h.tab.below hb (Co_below hb)).put hST hTe hi ht hv l sv xs hx
  have hB := h.bel.trans (hb.mono h.bel.size)
  exact ⟨cur, h1, h2, h6, hB.trans (below_of_grown h3 hB.size (at_le h4))⟩
set_option maxHeartbeats 4000000 in
theorem l05Letter_any (n : Nat) (z : Int) (w : World) (h8 : n ≤ 8) (hz0 : z ≠ 0) (hz1 : z.natAbs + 1 ≤ n) : Calls Try.prog 45 #[.int .i64 (n : Int), .int .i64 z] w (RetTabP 50 37 2 w (plT n n (letterP z))) := by
  by_cases hz : 0 < z
  · obtain ⟨p1, rfl⟩ : ∃ p1 : Nat, z = p1 := ⟨z.natAbs, by omega⟩
    obtain ⟨p, hpa, hpb⟩ : ∃ p, p < p1 ∧ p1 ≤ p + 1 := ⟨p1 - 1, by omega, by omega⟩
    have hpm : (p1 : Int) - 1 = p := by omega
    have hpl : p < n := by omega
    have hpl1 : p1 < n := by omega
    clear hz1 hz0
    go_enter Try.func45, Try.ntmps45
    go_upto_region 3 with ((go_at_call 42; go_loud ((with_reducible refine Calls.mono (l05Unit_any n _ h8) ?_); rintro e w1 ⟨vo, rfl, hB1, ht⟩; obtain ⟨vs, ht⟩ := ht.vs; obtain ⟨g, co, rfl, hgB, hgl, hcg⟩ := ht.at (by rw [plT_length]; omega); rw [plT_length] at hcg; obtain ⟨ka, ca, hka, hkaB, hkal⟩ := ht.row (i := p) (by omega) (by omega); obtain ⟨kb, cb, hkb, hkbB, hkbl⟩ := ht.row (i := p1) (by omega) (by omega); (simp only [plT_length] at ht ⊢); have g1 := hcg p (by omega); have g2 := hcg p1 (by omega); rw [hka] at g1; rw [hkb] at g2; have hS : LtSt 50 37 2 w n _ vs w1 unitP := ⟨ht, hB1⟩; clear ht hcg)))
    go_quiet (fail)
    go_upto_region 4 with (fail)
    refine wp_gen (fun X => LtSt 50 37 2 w n (.slice (some ⟨g, 0, none⟩) n co) vs X unitP) ⟨hS.tab.below (by (repeat (first | (with_reducible exact Below.refl _ _) | (with_reducible assumption) | (with_reducible refine below_plus' ?_ ?_; ((try simp only [plus_size, World.size_alloc, World.size_drew, World.size_setCell, size_setRow, World.heap_drewN, List.length_append]) <;> omega)) | (with_reducible refine below_alloc' ?_ ?_; ((try simp only [plus_size, World.size_alloc, World.size_drew, World.size_setCell, size_setRow, World.heap_drewN, List.length_append]) <;> omega)) | with_reducible refine Below.drew ?_ | (with_reducible refine below_drewN' ?_ _) | exact Below.refl _ _))) (Co_below (by (repeat (first | (with_reducible exact Below.refl _ _) | (with_reducible assumption) | (with_reducible refine below_plus' ?_ ?_; ((try simp only [plus_size, World.size_alloc, World.size_drew, World.size_setCell, size_setRow, World.heap_drewN, List.length_append]) <;> omega)) | (with_reducible refine below_alloc' ?_ ?_; ((try simp only [plus_size, World.size_alloc, World.size_drew, World.size_setCell, size_setRow, World.heap_drewN, List.length_append]) <;> omega)) | with_reducible refine Below.drew ?_ | (with_reducible refine below_drewN' ?_ _) | exact Below.refl _ _)))), hS.bel.trans ((show Below w1.heap.size w1 _ by (repeat (first | (with_reducible exact Below.refl _ _) | (with_reducible assumption) | (with_reducible refine below_plus' ?_ ?_; ((try simp only [plus_size, World.size_alloc, World.size_drew, World.size_setCell, size_setRow, World.heap_drewN, List.length_append]) <;> omega)) | (with_reducible refine below_alloc' ?_ ?_; ((try simp only [plus_size, World.size_alloc, World.size_drew, World.size_setCell, size_setRow, World.heap_drewN, List.length_append]) <;> omega)) | with_reducible refine Below.drew ?_ | (with_reducible refine below_drewN' ?_ _) | exact Below.refl _ _))).mono hS.bel.size)⟩ fun X hS => ?_
    go_upto_region 5 with (fail)
    obtain ⟨cur, hcur, hsz, hS1⟩ := hS.step (by decide) (by decide) (show Below X.heap.size X (X.alloc (.cells #[.int .i64 (1), .int .i64 (-1)] 2)) by (repeat (first | (with_reducible exact Below.refl _ _) | (with_reducible assumption) | (with_reducible refine below_plus' ?_ ?_; ((try simp only [plus_size, World.size_alloc, World.size_drew, World.size_setCell, size_setRow, World.heap_drewN, List.length_append]) <;> omega)) | (with_reducible refine below_alloc' ?_ ?_; ((try simp only [plus_size, World.size_alloc, World.size_drew, World.size_setCell, size_setRow, World.heap_drewN, List.length_append]) <;> omega)) | with_reducible refine Below.drew ?_ | (with_reducible refine below_drewN' ?_ _) | exact Below.refl _ _))) (i := p) (t := p) (by omega) (by omega) hka (0) (.slice (some ⟨X.heap.size, 0, none⟩) 2 2) [1, -1] (own_two rfl (Nat.zero_le _)); clear hS
    go_upto_region 6 with (((with_reducible apply wpList_store_sub rfl rfl 37 _ _ rfl (ka) (p * 2) rfl _ rfl cur 37); (exact hcur); (exact infoLt2); (exact hsz); (exact pol_one _ _ _ _); revert hS1; generalize (World.setRow _ _ _) = w9; intro hS; clear hcur hsz))
    go_upto_region 7 with (first | (go_at_call 63; go_loud ((with_reducible refine Calls.mono (l05Term_any (1) (1) _ (by decide) (by decide) (by decide)) ?_); rintro e we ⟨ve, rfl, hBe, hoe⟩; obtain ⟨ae, ce, rfl⟩ := readsL_form hoe.reads; obtain ⟨cur, hcur, hsz, hS1⟩ := hS.step (by decide) (by decide) hBe (i := p) (t := p1) (by omega) (by omega) hka (1) (.slice ae 1 ce) [1] (hoe.mono (Nat.zero_le _)); clear hS)) | ((with_reducible apply wpList_store_sub rfl rfl 37 _ _ rfl (ka) (p1 * 2) rfl _ rfl cur 37); (exact hcur); (exact infoLt2); (exact hsz); (exact pol_one _ _ _ _); revert hS1; generalize (World.setRow _ _ _) = w9; intro hS; clear hcur hsz))
    go_upto_region 8 with (first | (go_at_call 63; go_loud ((with_reducible refine Calls.mono (l05Term_any (1) (0) _ (by decide) (by decide) (by decide)) ?_); rintro e we ⟨ve, rfl, hBe, hoe⟩; obtain ⟨ae, ce, rfl⟩ := readsL_form hoe.reads; obtain ⟨cur, hcur, hsz, hS1⟩ := hS.step (by decide) (by decide) hBe (i := p1) (t := p) (by omega) (by omega) hkb (0) (.slice ae 1 ce) [1] (hoe.mono (Nat.zero_le _)); clear hS)) | ((with_reducible apply wpList_store_sub rfl rfl 37 _ _ rfl (kb) (p * 2) rfl _ rfl cur 37); (exact hcur); (exact infoLt2); (exact hsz); (exact pol_one _ _ _ _); revert hS1; generalize (World.setRow _ _ _) = w9; intro hS; clear hcur hsz))
    obtain ⟨cur, hcur, hsz, hS1⟩ := hS.step (by decide) (by decide) (Below.refl _ _) (i := p1) (t := p1) (by omega) (by omega) hkb (0) (.slice none 0 0) [] (Co_nil _ _); clear hS
    go_upto_region 13 with (((with_reducible apply wpList_store_sub rfl rfl 37 _ _ rfl (kb) (p1 * 2) rfl _ rfl cur 37); (exact hcur); (exact infoLt2); (exact hsz); (exact pol_one _ _ _ _); revert hS1; generalize (World.setRow _ _ _) = w9; intro hS; clear hcur hsz))
    go_wp2
    go_ret
    refine ⟨_, rfl, hS.bel, ?_⟩
    have hF := hS.tab.tab
    rw [plT_eq (fun i j hi hj => let_pos hpa hpb i j)] at hF
    exact hF
  · obtain ⟨p1, rfl⟩ : ∃ p1 : Nat, z = -(p1 : Int) := ⟨z.natAbs, by omega⟩
    obtain ⟨p, hpa, hpb⟩ : ∃ p, p < p1 ∧ p1 ≤ p + 1 := ⟨p1 - 1, by omega, by omega⟩
    have hpm : (p1 : Int) - 1 = p := by omega
    have hpl : p < n := by omega
    have hpl1 : p1 < n := by omega
    clear hz1 hz0
    go_enter Try.func45, Try.ntmps45
    go_upto_region 3 with ((go_at_call 42; go_loud ((with_reducible refine Calls.mono (l05Unit_any n _ h8) ?_); rintro e w1 ⟨vo, rfl, hB1, ht⟩; obtain ⟨vs, ht⟩ := ht.vs; obtain ⟨g, co, rfl, hgB, hgl, hcg⟩ := ht.at (by rw [plT_length]; omega); rw [plT_length] at hcg; obtain ⟨ka, ca, hka, hkaB, hkal⟩ := ht.row (i := p) (by omega) (by omega); obtain ⟨kb, cb, hkb, hkbB, hkbl⟩ := ht.row (i := p1) (by omega) (by omega); (simp only [plT_length] at ht ⊢); have g1 := hcg p (by omega); have g2 := hcg p1 (by omega); rw [hka] at g1; rw [hkb] at g2; have hS : LtSt 50 37 2 w n _ vs w1 unitP := ⟨ht, hB1⟩; clear ht hcg)))
    go_quiet (fail)
    go_upto_region 4 with (fail)
    refine wp_gen (fun X => LtSt 50 37 2 w n (.slice (some ⟨g, 0, none⟩) n co) vs X unitP) ⟨hS.tab.below (by (repeat (first | (with_reducible exact Below.refl _ _) | (with_reducible assumption) | (with_reducible refine below_plus' ?_ ?_; ((try simp only [plus_size, World.size_alloc, World.size_drew, World.size_setCell, size_setRow, World.heap_drewN, List.length_append]) <;> omega)) | (with_reducible refine below_alloc' ?_ ?_; ((try simp only [plus_size, World.size_alloc, World.size_drew, World.size_setCell, size_setRow, World.heap_drewN, List.length_append]) <;> omega)) | with_reducible refine Below.drew ?_ | (with_reducible refine below_drewN' ?_ _) | exact Below.refl _ _))) (Co_below (by (repeat (first | (with_reducible exact Below.refl _ _) | (with_reducible assumption) | (with_reducible refine below_plus' ?_ ?_; ((try simp only [plus_size, World.size_alloc, World.size_drew, World.size_setCell, size_setRow, World.heap_drewN, List.length_append]) <;> omega)) | (with_reducible refine below_alloc' ?_ ?_; ((try simp only [plus_size, World.size_alloc, World.size_drew, World.size_setCell, size_setRow, World.heap_drewN, List.length_append]) <;> omega)) | with_reducible refine Below.drew ?_ | (with_reducible refine below_drewN' ?_ _) | exact Below.refl _ _)))), hS.bel.trans ((show Below w1.heap.size w1 _ by (repeat (first | (with_reducible exact Below.refl _ _) | (with_reducible assumption) | (with_reducible refine below_plus' ?_ ?_; ((try simp only [plus_size, World.size_alloc, World.size_drew, World.size_setCell, size_setRow, World.heap_drewN, List.length_append]) <;> omega)) | (with_reducible refine below_alloc' ?_ ?_; ((try simp only [plus_size, World.size_alloc, World.size_drew, World.size_setCell, size_setRow, World.heap_drewN, List.length_append]) <;> omega)) | with_reducible refine Below.drew ?_ | (with_reducible refine below_drewN' ?_ _) | exact Below.refl _ _))).mono hS.bel.size)⟩ fun X hS => ?_
    go_upto_region 9 with (fail)
    obtain ⟨cur, hcur, hsz, hS1⟩ := hS.step (by decide) (by decide) (Below.refl _ _) (i := p) (t := p) (by omega) (by omega) hka (0) (.slice none 0 0) [] (Co_nil _ _); clear hS
    go_upto_region 10 with (((with_reducible apply wpList_store_sub rfl rfl 37 _ _ rfl (ka) (p * 2) rfl _ rfl cur 37); (exact hcur); (exact infoLt2); (exact hsz); (exact pol_one _ _ _ _); revert hS1; generalize (World.setRow _ _ _) = w9; intro hS; clear hcur hsz))
    go_upto_region 11 with (first | (go_at_call 63; go_loud ((with_reducible refine Calls.mono (l05Term_any (1) (0) _ (by decide) (by decide) (by decide)) ?_); rintro e we ⟨ve, rfl, hBe, hoe⟩; obtain ⟨ae, ce, rfl⟩ := readsL_form hoe.reads; obtain ⟨cur, hcur, hsz, hS1⟩ := hS.step (by decide) (by decide) hBe (i := p) (t := p1) (by omega) (by omega) hka (0) (.slice ae 1 ce) [1] (hoe.mono (Nat.zero_le _)); clear hS)) | ((with_reducible apply wpList_store_sub rfl rfl 37 _ _ rfl (ka) (p1 * 2) rfl _ rfl cur 37); (exact hcur); (exact infoLt2); (exact hsz); (exact pol_one _ _ _ _); revert hS1; generalize (World.setRow _ _ _) = w9; intro hS; clear hcur hsz))
    go_upto_region 12 with (first | (go_at_call 63; go_loud ((with_reducible refine Calls.mono (l05Term_any (1) (-1) _ (by decide) (by decide) (by decide)) ?_); rintro e we ⟨ve, rfl, hBe, hoe⟩; obtain ⟨ae, ce, rfl⟩ := readsL_form hoe.reads; obtain ⟨cur, hcur, hsz, hS1⟩ := hS.step (by decide) (by decide) hBe (i := p1) (t := p) (by omega) (by omega) hkb (-1) (.slice ae 1 ce) [1] (hoe.mono (Nat.zero_le _)); clear hS)) | ((with_reducible apply wpList_store_sub rfl rfl 37 _ _ rfl (kb) (p * 2) rfl _ rfl cur 37); (exact hcur); (exact infoLt2); (exact hsz); (exact pol_one _ _ _ _); revert hS1; generalize (World.setRow _ _ _) = w9; intro hS; clear hcur hsz))
    obtain ⟨cur, hcur, hsz, hS1⟩ := hS.step (by decide) (by decide) (show Below w9.heap.size w9 (w9.alloc (.cells #[.int .i64 (-1), .int .i64 (1)] 2)) by (repeat (first | (with_reducible exact Below.refl _ _) | (with_reducible assumption) | (with_reducible refine below_plus' ?_ ?_; ((try simp only [plus_size, World.size_alloc, World.size_drew, World.size_setCell, size_setRow, World.heap_drewN, List.length_append]) <;> omega)) | (with_reducible refine below_alloc' ?_ ?_; ((try simp only [plus_size, World.size_alloc, World.size_drew, World.size_setCell, size_setRow, World.heap_drewN, List.length_append]) <;> omega)) | with_reducible refine Below.drew ?_ | (with_reducible refine below_drewN' ?_ _) | exact Below.refl _ _))) (i := p1) (t := p1) (by omega) (by omega) hkb (-1) (.slice (some ⟨w9.heap.size, 0, none⟩) 2 2) [-1, 1] (own_two rfl (Nat.zero_le _)); clear hS
    go_upto_region 13 with (((with_reducible apply wpList_store_sub rfl rfl 37 _ _ rfl (kb) (p1 * 2) rfl _ rfl cur 37); (exact hcur); (exact infoLt2); (exact hsz); (exact pol_one _ _ _ _); revert hS1; generalize (World.setRow _ _ _) = w9; intro hS; clear hcur hsz))
    go_wp2
    go_ret
    refine ⟨_, rfl, hS.bel, ?_⟩
    have hF := hS.tab.tab
    rw [plT_eq (fun i j hi hj => let_neg hpa hpb i j)] at hF
    exact hF
end Go.Proofs.Ytikakoclmmmjdaa
