/- A letter's reduced matrix behind a row, by the program. Conditions: as each theorem says. -/
import Derived.Test.YtikakoclmmmjdaaOe
import Derived.Test.YtikakoclmmmjdaaGt
import Derived.Deep.Cut
import Derived.Deep.CutRange
import Derived.Deep.RegionWith
namespace Go.Proofs.Ytikakoclmmmjdaa
open Go.RowKit
set_option linter.unusedSimpArgs false
set_option linter.unusedVariables false
open Go.RowKit
/-- a row behind a letter's reduced matrix -/
def stR (z : Int) (f : Nat → Int → Int) : Nat → Int → Int := fun j =>
  if j + 1 = z.natAbs then ngF (shF (if 0 < z then 1 else -1) (f j))
  else if j + 2 = z.natAbs then adF (f j) (if 0 < z then shF 1 (f (j + 1)) else f (j + 1))
  else if j = z.natAbs then adF (f j) (if 0 < z then f (j - 1) else shF (-1) (f (j - 1)))
  else f j
def supR (m N : Nat) (f : Nat → Int → Int) : Prop := ∀ j, j < m → sup (f j) N
theorem sup_stR {m N : Nat} {f : Nat → Int → Int} {z : Int} (h : supR m N f) (hz : z.natAbs ≤ m) : supR m (N + 1) (stR z f) := fun j hj => by
  unfold stR
  split
  · exact sup_ngF (sup_shF (h j hj) (by split <;> omega) (by split <;> omega))
  · split
    · refine sup_adF (sup_le (h j hj) (by omega)) ?_
      split
      · exact sup_shF (h _ (by omega)) (by decide) (by decide)
      · exact sup_le (h _ (by omega)) (by omega)
    · split
      · refine sup_adF (sup_le (h j hj) (by omega)) ?_
        split
        · exact sup_le (h _ (by omega)) (by omega)
        · exact sup_shF (h _ (by omega)) (by decide) (by decide)
      · exact sup_le (h j hj) (by omega)
theorem RSt.putP {T e : TypeId} {w : World} {B kb ck m b5 b6 : Nat} {X Y : World} {P5 P6 P : Pol} {fs : Nat → Pol} (h : RSt T e w B kb ck m b5 b6 X P5 P6 fs) (hb : Below X.heap.size X Y) {t : Nat} (ht : t < m) {sv : Value} (hx : rdW e Y sv P.2) :
    ∃ cur, Y.heap[kb]? = some (.cells cur T (0, 0)) ∧ t * 2 + (#[.int .i64 P.1, sv] : Array Value).size ≤ cur.size ∧ RSt T e w B kb ck m b5 b6 (Y.setRow kb (putA cur (t * 2) #[.int .i64 P.1, sv])) P5 P6 (updP fs t P) := h.put hb ht P.1 sv P.2 hx
theorem RSt.set5k {T e : TypeId} {w : World} {B kb ck m b5 b6 : Nat} {X : World} {P5 P6 P : Pol} {fs : Nat → Pol} (h : RSt T e w B kb ck m b5 b6 X P5 P6 fs) {a : Option Addr} {c n : Nat} (hn : n = P.2.length) (hx : rdW e X (.slice a P.2.length c) P.2) : RSt T e w B kb ck m b5 b6 ((X.setCell ⟨b5, 0, none⟩ (.int .i64 P.1)).setCell ⟨b5, 1, none⟩ (.slice a n c)) P P6 fs ∧ ∀ v xs, rdW e X v xs → rdW e ((X.setCell ⟨b5, 0, none⟩ (.int .i64 P.1)).setCell ⟨b5, 1, none⟩ (.slice a n c)) v xs := by
  subst hn
  obtain ⟨a5, c5, h1, h2⟩ := h.x5
  obtain ⟨g1, g2⟩ := boxSet (P := P) (a := a) (c := c) h1
  exact ⟨h.set5 hx, fun v xs hv => rdW.block h.ne h1 g2 hv⟩
theorem RSt.set6k {T e : TypeId} {w : World} {B kb ck m b5 b6 : Nat} {X : World} {P5 P6 P : Pol} {fs : Nat → Pol} (h : RSt T e w B kb ck m b5 b6 X P5 P6 fs) {a : Option Addr} {c n : Nat} (hn : n = P.2.length) (hx : rdW e X (.slice a P.2.length c) P.2) : RSt T e w B kb ck m b5 b6 ((X.setCell ⟨b6, 0, none⟩ (.int .i64 P.1)).setCell ⟨b6, 1, none⟩ (.slice a n c)) P5 P fs := by
  subst hn
  exact h.set6 hx
theorem stR_fin {z : Int} {f : Nat → Int → Int} {m p p1 : Nat} (hz : z.natAbs = p1) (hp : p + 1 = p1) {N A1 A2 : Pol} {fs : Nat → Pol} (hN : nf 57896044618658097711785492504343953926634992332820282019728792003956564819968 (ngF (shF (if 0 < z then 1 else -1) (f p))) = N) (hQ : ∀ j, j + 1 = p → nf 57896044618658097711785492504343953926634992332820282019728792003956564819968 (adF (f j) (if 0 < z then shF 1 (f p) else f p)) = A1) (hR : nf 57896044618658097711785492504343953926634992332820282019728792003956564819968 (adF (f p1) (if 0 < z then f p else shF (-1) (f p))) = A2)
    (hfs : ∀ j, j < m → fs j = if j = p1 then A2 else if j + 1 = p then A1 else if j = p then N else nf 57896044618658097711785492504343953926634992332820282019728792003956564819968 (f j)) : ∀ j, j < m → fs j = nf 57896044618658097711785492504343953926634992332820282019728792003956564819968 (stR z f j) := fun j hj => by
  rw [hfs j hj]
  unfold stR
  rw [hz]
  by_cases h1 : j = p1
  · rw [if_pos h1, if_neg (by omega), if_neg (by omega), if_pos h1, ← hR, h1, show p1 - 1 = p by omega]
  · rw [if_neg h1]
    by_cases h2 : j + 1 = p
    · rw [if_pos h2, if_neg (by omega), if_pos (by omega), ← hQ j h2, h2]
    · rw [if_neg h2]
      by_cases h3 : j = p
      · rw [if_pos h3, if_pos (by omega), ← hN, h3]
      · rw [if_neg h3, if_neg (by omega), if_neg (by omega), if_neg h1]
theorem rst_start {T e : TypeId} {w X : World} {B kb ck m b5 b6 : Nat} {P5 P6 : Pol} {fs : Nat → Pol} (hT : T ≠ e) (h : rowG T (Cw e) w B (.slice (some ⟨kb, 0, none⟩) m ck) (plL m fs)) (hB : Below w.heap.size w X) (h5 : w.heap.size ≤ b5) (h6 : w.heap.size ≤ b6) (h56 : b5 ≠ b6) (x5 : pbx T e X b5 P5) (x6 : pbx T e X b6 P6) : RSt T e w B kb ck m b5 b6 X P5 P6 fs := by
  have hk := (h.lt kb rfl).2
  exact ⟨hT, h.keepW hB, grown_of_belowW _ hB, by omega, by omega, h56, h5, h6, x5, x6⟩
/-- a polynomial is handed back -/
def RetQ (w : World) (P : Pol) : Ending → World → Prop := fun e w' => ∃ a c, e = .returned (.agg #[.int .i64 P.1, .slice a P.2.length c]) ∧ Below w.heap.size w w' ∧ rdW 78 w' (.slice a P.2.length c) P.2
theorem retQ_form {w w' : World} {P : Pol} {en : Ending} (h : RetQ w P en w') : ∃ a c, en = .returned (.agg #[.int .i64 P.1, .slice a P.2.length c]) ∧ Below w.heap.size w w' ∧ rdW 78 w' (.slice a P.2.length c) P.2 := h
set_option maxRecDepth 20000 in
set_option maxHeartbeats 8000000 in
theorem stepReduced_any (B kb ck m : Nat) (z : Int) (f : Nat → Int → Int) (A : Nat) (w : World) (h : rowG 57 (Cw 78) w B (.slice (some ⟨kb, 0, none⟩) m ck) (plL m (fun j => nf 57896044618658097711785492504343953926634992332820282019728792003956564819968 (f j)))) (hf : supR m A f) (hA : A ≤ 2000) (hm : m ≤ 8) (hz0 : z ≠ 0) (hz1 : z.natAbs ≤ m) : Calls Try.prog 34 #[.slice (some ⟨kb, 0, none⟩) m ck, .int .i64 z] w fun e w' => e = .returned (.tuple #[]) ∧ w.grownBy w' (some kb) ∧ rowG 57 (Cw 78) w' B (.slice (some ⟨kb, 0, none⟩) m ck) (plL m (fun j => nf 57896044618658097711785492504343953926634992332820282019728792003956564819968 (stR z f j))) := by
  by_cases hz : 0 < z
  · obtain ⟨p1, rfl⟩ : ∃ p1 : Nat, z = p1 := ⟨z.natAbs, by omega⟩
    obtain ⟨p, hpa, hpb⟩ : ∃ p, p < p1 ∧ p1 ≤ p + 1 := ⟨p1 - 1, by omega, by omega⟩
    have hpm : (p1 : Int) - 1 = p := by omega
    have hpl : p < m := by omega
    have hab : (((p1 : Int).natAbs : Nat) : Int) = p1 := by omega
    have hp1m : p1 ≤ m := by omega
    have hpw : IntKind.i64.wrap (p : Int) = (p : Int) := by rw [IntKind.wrap_i64]; omega
    have hpi : (p : Int) < (m : Int) := by omega
    have hzn : ¬ (p1 : Int) < 0 := by omega
    clear hz0 hz1
    obtain ⟨g, c0, sv, hv, hgB, hgl, g1, g2, g3⟩ := h.at (i := p) (by rw [plL_length]; exact hpl)
    rw [plL_length] at hv
    cases hv
    rw [pAt_plL hpl] at g1 g3
    obtain ⟨a0, c0, rfl⟩ := rdW_form g3
    obtain ⟨P0, hP0⟩ : ∃ P, nf 57896044618658097711785492504343953926634992332820282019728792003956564819968 (f p) = P := ⟨_, rfl⟩
    obtain ⟨S1, hS1⟩ : ∃ P, nf 57896044618658097711785492504343953926634992332820282019728792003956564819968 (shF 1 (f p)) = P := ⟨_, rfl⟩
    obtain ⟨N1, hN1⟩ : ∃ P, nf 57896044618658097711785492504343953926634992332820282019728792003956564819968 (ngF (shF 1 (f p))) = P := ⟨_, rfl⟩
    obtain ⟨A2, hA2⟩ : ∃ P, nf 57896044618658097711785492504343953926634992332820282019728792003956564819968 (adF (f p1) (f p)) = P := ⟨_, rfl⟩
    have n0 := nf_is (h := 57896044618658097711785492504343953926634992332820282019728792003956564819968) (by decide) (hf p hpl)
    have n1 := sup_shF (hf p hpl) (s := 1) (by decide) (by decide)
    have n2 := nf_is (h := 57896044618658097711785492504343953926634992332820282019728792003956564819968) (by decide) n1
    have HE2 := Lib.hid (show S1.2 = P0.2 by
      have e := congrArg Prod.snd (shift_fin n0 n1 (by decide) (by decide))
      rw [hS1] at e
      rw [← hP0]; exact e)
    have HEN := Lib.hid (show nf 57896044618658097711785492504343953926634992332820282019728792003956564819968 (ngF (shF (if 0 < (p1 : Int) then 1 else -1) (f p))) = N1 by rw [if_pos hz]; exact hN1)
    have HER := Lib.hid (show nf 57896044618658097711785492504343953926634992332820282019728792003956564819968 (adF (f p1) (if 0 < (p1 : Int) then f p else shF (-1) (f p))) = A2 by rw [if_pos hz]; exact hA2)
    have HSH := Lib.hid (fun w' (hb : Below w.heap.size w w') => shift_nf P0.1 (.slice a0 P0.2.length c0) P0.2 1 (f p) A w' (by rw [← hP0]; exact g3.kept hb) (by rw [← hP0]; exact n0) (by omega) n1 (by decide) (by decide))
    have HNG := Lib.hid (fun w' v (hv : rdW 78 w' v S1.2) => (show Calls Try.prog 53 #[.agg #[.int .i64 S1.1, v]] w' (RetQ w' N1) from by
      rw [← hN1]; exact negative_nf S1.1 v S1.2 (shF 1 (f p)) (A + 1) w' hv (by rw [← hS1]; exact n2) (by omega) (sup_ngF n1)))
    have HAQ := Lib.hid (fun (q : Nat) (hq : q < m) w' v1 v2 (h1 : rdW 78 w' v1 (nf 57896044618658097711785492504343953926634992332820282019728792003956564819968 (f q)).2) (h2 : rdW 78 w' v2 S1.2) => (show Calls Try.prog 37 #[.agg #[.int .i64 (nf 57896044618658097711785492504343953926634992332820282019728792003956564819968 (f q)).1, v1], .agg #[.int .i64 S1.1, v2]] w' (RetQ w' (nf 57896044618658097711785492504343953926634992332820282019728792003956564819968 (adF (f q) (shF 1 (f p))))) from
      add_nf _ v1 _ S1.1 v2 S1.2 (f q) (shF 1 (f p)) (A + 1) w' h1 h2 ((nf_is (by decide) (hf q hq)).mono (by omega)) (by rw [← hS1]; exact n2) (by omega) (sup_adF (sup_le (hf q hq) (by omega)) n1)))
    have HAR := Lib.hid (fun (hq : p1 < m) w' v1 v2 (h1 : rdW 78 w' v1 (nf 57896044618658097711785492504343953926634992332820282019728792003956564819968 (f p1)).2) (h2 : rdW 78 w' v2 P0.2) => (show Calls Try.prog 37 #[.agg #[.int .i64 (nf 57896044618658097711785492504343953926634992332820282019728792003956564819968 (f p1)).1, v1], .agg #[.int .i64 P0.1, v2]] w' (RetQ w' A2) from by
      rw [← hA2]; exact add_nf _ v1 _ P0.1 v2 P0.2 (f p1) (f p) A w' h1 h2 (nf_is (by decide) (hf p1 hq)) (by rw [← hP0]; exact n0) (by omega) (sup_adF (hf p1 hq) (hf p hpl))))
    simp only [hP0, hS1] at g1 g2 g3 HSH
    go_enter Try.func34, Try.ntmps34
    go_upto_region 1 with ((go_at_call 51; refine (sizeZ_any _ _ (by omega) (by omega)).mono ?_; rw [hab]; rintro e w' ⟨rfl, rfl⟩))
    go_cut [5, 6] from 9 to 19 (fun s5 s6 wc => ∃ b5 b6, s5 = .pointer (some ⟨b5, 0, none⟩) ∧ s6 = .pointer (some ⟨b6, 0, none⟩) ∧ RSt 57 78 w B kb ck m b5 b6 wc S1 P0 (fun j => nf 57896044618658097711785492504343953926634992332820282019728792003956564819968 (f j)))
    case first =>
      refine wp_plus0 ?_
      refine region_ghostWT (W := w) [11, 12, 13, 14] (by kernel_rfl) (by kernel_rfl) (by kernel_rfl) ?_
      repeat (refine wpPlain_step (fun K hK => ?_); go_simp; first | (refine hK _ ?_; clear hK K) | (apply Exists.intro; refine ⟨fun _ => ?_, hK _ ?_⟩; ((go_at_call 52; (with_reducible refine Calls.mono (HSH.out _ ?_) ?_); (rw [plusq_eq]; (repeat (first | (with_reducible exact Below.refl _ _) | (with_reducible assumption) | (with_reducible refine below_plus' ?_ ?_; ((try simp only [plus_size, World.size_alloc, World.size_drew, World.size_setCell, size_setRow, World.heap_drewN, List.length_append]) <;> omega)) | (with_reducible refine below_alloc' ?_ ?_; ((try simp only [plus_size, World.size_alloc, World.size_drew, World.size_setCell, size_setRow, World.heap_drewN, List.length_append]) <;> omega)) | with_reducible refine Below.drew ?_ | (with_reducible refine below_drewN' ?_ _) | exact Below.refl _ _))); rintro e w'' ⟨he, hB, hE⟩; exact ⟨he, hB⟩)); clear hK K))
      refine wpPlain_nil ?_
      intro j1 d1
      rw [plus_plus, List.nil_append]
      refine gtree_step [11, 12] (by kernel_rfl) (gtree_all2 ⟨_, rfl, ?_⟩ ⟨_, rfl, ?_⟩)
      · go_wp2
        refine gExit_normal ⟨.inr (later_of_below (by (repeat (first | (with_reducible exact Below.refl _ _) | (with_reducible assumption) | (with_reducible refine below_plus' ?_ ?_; ((try simp only [plus_size, World.size_alloc, World.size_drew, World.size_setCell, size_setRow, World.heap_drewN, List.length_append]) <;> omega)) | (with_reducible refine below_alloc' ?_ ?_; ((try simp only [plus_size, World.size_alloc, World.size_drew, World.size_setCell, size_setRow, World.heap_drewN, List.length_append]) <;> omega)) | with_reducible refine Below.drew ?_ | (with_reducible refine below_drewN' ?_ _) | exact Below.refl _ _)))), fun j2 d2 => ?_⟩
        refine gtree_step [12] (by kernel_rfl) (gtree_all1 ⟨_, rfl, ?_⟩)
        go_wp2
        refine gExit_normal ⟨.inr (later_of_below (by (repeat (first | (with_reducible exact Below.refl _ _) | (with_reducible assumption) | (with_reducible refine below_plus' ?_ ?_; ((try simp only [plus_size, World.size_alloc, World.size_drew, World.size_setCell, size_setRow, World.heap_drewN, List.length_append]) <;> omega)) | (with_reducible refine below_alloc' ?_ ?_; ((try simp only [plus_size, World.size_alloc, World.size_drew, World.size_setCell, size_setRow, World.heap_drewN, List.length_append]) <;> omega)) | with_reducible refine Below.drew ?_ | (with_reducible refine below_drewN' ?_ _) | exact Below.refl _ _)))), fun j3 d3 => ?_⟩
        refine gtree_step [13] (by kernel_rfl) (gtree_all1 ⟨_, rfl, ?_⟩)
        go_wp2
        refine gExit_normal ⟨.inr (later_of_below (by (repeat (first | (with_reducible exact Below.refl _ _) | (with_reducible assumption) | (with_reducible refine below_plus' ?_ ?_; ((try simp only [plus_size, World.size_alloc, World.size_drew, World.size_setCell, size_setRow, World.heap_drewN, List.length_append]) <;> omega)) | (with_reducible refine below_alloc' ?_ ?_; ((try simp only [plus_size, World.size_alloc, World.size_drew, World.size_setCell, size_setRow, World.heap_drewN, List.length_append]) <;> omega)) | with_reducible refine Below.drew ?_ | (with_reducible refine below_drewN' ?_ _) | exact Below.refl _ _)))), fun j4 d4 => ?_⟩
        refine gtree_step [14] (by kernel_rfl) (gtree_all1 ⟨_, rfl, ?_⟩)
        go_wp2
        refine gExit_normal ⟨.inl (by kernel_rfl), fun j5 d5 => ?_⟩
        refine gtree_nil ?_
        go_wp2
        go_meet
        case rel =>
          exact ⟨_, _, rfl, rfl, rst_start (by decide) h (by (repeat (first | (with_reducible exact Below.refl _ _) | (with_reducible assumption) | (with_reducible refine below_plus' ?_ ?_; ((try simp only [plus_size, World.size_alloc, World.size_drew, World.size_setCell, size_setRow, World.heap_drewN, List.length_append]) <;> omega)) | (with_reducible refine below_alloc' ?_ ?_; ((try simp only [plus_size, World.size_alloc, World.size_drew, World.size_setCell, size_setRow, World.heap_drewN, List.length_append]) <;> omega)) | with_reducible refine Below.drew ?_ | (with_reducible refine below_drewN' ?_ _) | exact Below.refl _ _))) (by ((try simp only [plus_size, World.size_alloc, World.size_drew, World.size_setCell, size_setRow, World.heap_drewN, List.length_append]) <;> omega)) (by ((try simp only [plus_size, World.size_alloc, World.size_drew, World.size_setCell, size_setRow, World.heap_drewN, List.length_append]) <;> omega)) (by ((try simp only [plus_size, World.size_alloc, World.size_drew, World.size_setCell, size_setRow, World.heap_drewN, List.length_append]) <;> omega)) ⟨a0, c0, by rw [HE2.out]; (repeat (first | (refine heap_at _ _ _ ?_; ((try simp only [plus_size, World.size_alloc, World.size_drew, World.size_setCell, size_setRow, World.heap_drewN, List.length_append]) <;> omega)) | (refine heap_past' ?_ ?_; ((try simp only [plus_size, World.size_alloc, World.size_drew, World.size_setCell, size_setRow, World.heap_drewN, List.length_append]) <;> omega)) | (refine heap_plus' ?_ ?_; ((try simp only [plus_size, World.size_alloc, World.size_drew, World.size_setCell, size_setRow, World.heap_drewN, List.length_append]) <;> omega)) | assumption)), by rw [HE2.out]; exact g3.kept (by (repeat (first | (with_reducible exact Below.refl _ _) | (with_reducible assumption) | (with_reducible refine below_plus' ?_ ?_; ((try simp only [plus_size, World.size_alloc, World.size_drew, World.size_setCell, size_setRow, World.heap_drewN, List.length_append]) <;> omega)) | (with_reducible refine below_alloc' ?_ ?_; ((try simp only [plus_size, World.size_alloc, World.size_drew, World.size_setCell, size_setRow, World.heap_drewN, List.length_append]) <;> omega)) | with_reducible refine Below.drew ?_ | (with_reducible refine below_drewN' ?_ _) | exact Below.refl _ _)))⟩ ⟨a0, c0, by (repeat (first | (refine heap_at _ _ _ ?_; ((try simp only [plus_size, World.size_alloc, World.size_drew, World.size_setCell, size_setRow, World.heap_drewN, List.length_append]) <;> omega)) | (refine heap_past' ?_ ?_; ((try simp only [plus_size, World.size_alloc, World.size_drew, World.size_setCell, size_setRow, World.heap_drewN, List.length_append]) <;> omega)) | (refine heap_plus' ?_ ?_; ((try simp only [plus_size, World.size_alloc, World.size_drew, World.size_setCell, size_setRow, World.heap_drewN, List.length_append]) <;> omega)) | assumption)), g3.kept (by (repeat (first | (with_reducible exact Below.refl _ _) | (with_reducible assumption) | (with_reducible refine below_plus' ?_ ?_; ((try simp only [plus_size, World.size_alloc, World.size_drew, World.size_setCell, size_setRow, World.heap_drewN, List.length_append]) <;> omega)) | (with_reducible refine below_alloc' ?_ ?_; ((try simp only [plus_size, World.size_alloc, World.size_drew, World.size_setCell, size_setRow, World.heap_drewN, List.length_append]) <;> omega)) | with_reducible refine Below.drew ?_ | (with_reducible refine below_drewN' ?_ _) | exact Below.refl _ _)))⟩⟩
      · go_wp2
        refine gExit_normal ⟨.inr (later_of_below (by (repeat (first | (with_reducible exact Below.refl _ _) | (with_reducible assumption) | (with_reducible refine below_plus' ?_ ?_; ((try simp only [plus_size, World.size_alloc, World.size_drew, World.size_setCell, size_setRow, World.heap_drewN, List.length_append]) <;> omega)) | (with_reducible refine below_alloc' ?_ ?_; ((try simp only [plus_size, World.size_alloc, World.size_drew, World.size_setCell, size_setRow, World.heap_drewN, List.length_append]) <;> omega)) | with_reducible refine Below.drew ?_ | (with_reducible refine below_drewN' ?_ _) | exact Below.refl _ _)))), fun j2 d2 => ?_⟩
        refine gtree_step [11] (by kernel_rfl) (gtree_all1 ⟨_, rfl, ?_⟩)
        go_wp2
        refine gExit_normal ⟨.inr (later_of_below (by (repeat (first | (with_reducible exact Below.refl _ _) | (with_reducible assumption) | (with_reducible refine below_plus' ?_ ?_; ((try simp only [plus_size, World.size_alloc, World.size_drew, World.size_setCell, size_setRow, World.heap_drewN, List.length_append]) <;> omega)) | (with_reducible refine below_alloc' ?_ ?_; ((try simp only [plus_size, World.size_alloc, World.size_drew, World.size_setCell, size_setRow, World.heap_drewN, List.length_append]) <;> omega)) | with_reducible refine Below.drew ?_ | (with_reducible refine below_drewN' ?_ _) | exact Below.refl _ _)))), fun j3 d3 => ?_⟩
        refine gtree_step [13] (by kernel_rfl) (gtree_all1 ⟨_, rfl, ?_⟩)
        go_wp2
        refine gExit_normal ⟨.inr (later_of_below (by (repeat (first | (with_reducible exact Below.refl _ _) | (with_reducible assumption) | (with_reducible refine below_plus' ?_ ?_; ((try simp only [plus_size, World.size_alloc, World.size_drew, World.size_setCell, size_setRow, World.heap_drewN, List.length_append]) <;> omega)) | (with_reducible refine below_alloc' ?_ ?_; ((try simp only [plus_size, World.size_alloc, World.size_drew, World.size_setCell, size_setRow, World.heap_drewN, List.length_append]) <;> omega)) | with_reducible refine Below.drew ?_ | (with_reducible refine below_drewN' ?_ _) | exact Below.refl _ _)))), fun j4 d4 => ?_⟩
        refine gtree_step [14] (by kernel_rfl) (gtree_all1 ⟨_, rfl, ?_⟩)
        go_wp2
        refine gExit_normal ⟨.inl (by kernel_rfl), fun j5 d5 => ?_⟩
        refine gtree_nil ?_
        go_wp2
        go_meet
        case rel =>
          exact ⟨_, _, rfl, rfl, rst_start (by decide) h (by (repeat (first | (with_reducible exact Below.refl _ _) | (with_reducible assumption) | (with_reducible refine below_plus' ?_ ?_; ((try simp only [plus_size, World.size_alloc, World.size_drew, World.size_setCell, size_setRow, World.heap_drewN, List.length_append]) <;> omega)) | (with_reducible refine below_alloc' ?_ ?_; ((try simp only [plus_size, World.size_alloc, World.size_drew, World.size_setCell, size_setRow, World.heap_drewN, List.length_append]) <;> omega)) | with_reducible refine Below.drew ?_ | (with_reducible refine below_drewN' ?_ _) | exact Below.refl _ _))) (by ((try simp only [plus_size, World.size_alloc, World.size_drew, World.size_setCell, size_setRow, World.heap_drewN, List.length_append]) <;> omega)) (by ((try simp only [plus_size, World.size_alloc, World.size_drew, World.size_setCell, size_setRow, World.heap_drewN, List.length_append]) <;> omega)) (by ((try simp only [plus_size, World.size_alloc, World.size_drew, World.size_setCell, size_setRow, World.heap_drewN, List.length_append]) <;> omega)) ⟨a0, c0, by rw [HE2.out]; (repeat (first | (refine heap_at _ _ _ ?_; ((try simp only [plus_size, World.size_alloc, World.size_drew, World.size_setCell, size_setRow, World.heap_drewN, List.length_append]) <;> omega)) | (refine heap_past' ?_ ?_; ((try simp only [plus_size, World.size_alloc, World.size_drew, World.size_setCell, size_setRow, World.heap_drewN, List.length_append]) <;> omega)) | (refine heap_plus' ?_ ?_; ((try simp only [plus_size, World.size_alloc, World.size_drew, World.size_setCell, size_setRow, World.heap_drewN, List.length_append]) <;> omega)) | assumption)), by rw [HE2.out]; exact g3.kept (by (repeat (first | (with_reducible exact Below.refl _ _) | (with_reducible assumption) | (with_reducible refine below_plus' ?_ ?_; ((try simp only [plus_size, World.size_alloc, World.size_drew, World.size_setCell, size_setRow, World.heap_drewN, List.length_append]) <;> omega)) | (with_reducible refine below_alloc' ?_ ?_; ((try simp only [plus_size, World.size_alloc, World.size_drew, World.size_setCell, size_setRow, World.heap_drewN, List.length_append]) <;> omega)) | with_reducible refine Below.drew ?_ | (with_reducible refine below_drewN' ?_ _) | exact Below.refl _ _)))⟩ ⟨a0, c0, by (repeat (first | (refine heap_at _ _ _ ?_; ((try simp only [plus_size, World.size_alloc, World.size_drew, World.size_setCell, size_setRow, World.heap_drewN, List.length_append]) <;> omega)) | (refine heap_past' ?_ ?_; ((try simp only [plus_size, World.size_alloc, World.size_drew, World.size_setCell, size_setRow, World.heap_drewN, List.length_append]) <;> omega)) | (refine heap_plus' ?_ ?_; ((try simp only [plus_size, World.size_alloc, World.size_drew, World.size_setCell, size_setRow, World.heap_drewN, List.length_append]) <;> omega)) | assumption)), g3.kept (by (repeat (first | (with_reducible exact Below.refl _ _) | (with_reducible assumption) | (with_reducible refine below_plus' ?_ ?_; ((try simp only [plus_size, World.size_alloc, World.size_drew, World.size_setCell, size_setRow, World.heap_drewN, List.length_append]) <;> omega)) | (with_reducible refine below_alloc' ?_ ?_; ((try simp only [plus_size, World.size_alloc, World.size_drew, World.size_setCell, size_setRow, World.heap_drewN, List.length_append]) <;> omega)) | with_reducible refine Below.drew ?_ | (with_reducible refine below_drewN' ?_ _) | exact Below.refl _ _)))⟩⟩
    case rest =>
      obtain ⟨b5, b6, rfl, rfl, hS⟩ := hcut
      clear g1 g2 g3 h HSH HE2
      obtain ⟨hl5, a5, c5, p50, p51, hr5, hb5⟩ := hS.x5.cells
      go_upto_region 3 with (first | (go_at_call 53; (with_reducible refine Calls.mono (HNG.out _ _ hr5) ?_); intro e w2 hh; obtain ⟨aN, cN, rfl, hB2, hR2⟩ := retQ_form hh; clear hh; obtain ⟨cur, hcur, hsz, hS1⟩ := hS.putP hB2 (t := p) hpl (P := N1) hR2; clear hS hl5 p50 p51 hr5 hb5) | ((with_reducible apply wpList_store_sub rfl rfl 57 _ _ rfl (kb) (p * 2) rfl _ rfl cur 57); (exact hcur); (exact infoPt2); (exact hsz); (exact pol_one _ _ _ _); revert hS1; generalize (World.setRow _ _ _) = w3; intro hS; clear hcur hsz))
      by_cases h7 : 2 ≤ p1
      · have h7i : (2 : Int) ≤ (p1 : Int) := by omega
        obtain ⟨q, hqa, hqb⟩ : ∃ q, q < p ∧ p ≤ q + 1 := ⟨p - 1, by omega, by omega⟩
        have hqm : (p1 : Int) - 2 = q := by omega
        have hqw : IntKind.i64.wrap (q : Int) = (q : Int) := by rw [IntKind.wrap_i64]; omega
        have hqi : (q : Int) < (m : Int) := by omega
        obtain ⟨A1, hA1⟩ : ∃ P, nf 57896044618658097711785492504343953926634992332820282019728792003956564819968 (adF (f q) (shF 1 (f p))) = P := ⟨_, rfl⟩
        have HEQ := Lib.hid (show ∀ j, j + 1 = p → nf 57896044618658097711785492504343953926634992332820282019728792003956564819968 (adF (f j) (if 0 < (p1 : Int) then shF 1 (f p) else f p)) = A1 from fun j hj => by
          obtain rfl : j = q := by omega
          rw [if_pos (by omega)]; exact hA1)
        have HAQ1 := Lib.hid (HAQ.out q (by omega))
        rw [hA1] at HAQ1
        clear hA1
        obtain ⟨hl5, a5, c5, p50, p51, hr5, hb5⟩ := hS.x5.cells
        obtain ⟨hlk, aE, cE, q0, q1, hrE⟩ := hS.entry (t := q) (by omega)
        have hue : (updP (fun j => nf 57896044618658097711785492504343953926634992332820282019728792003956564819968 (f j)) p N1) q = nf 57896044618658097711785492504343953926634992332820282019728792003956564819968 (f q) := by
          simp only [updP]
          repeat rw [if_neg (by omega)]
        rw [hue] at q0 q1 hrE
        clear hue
        obtain ⟨E0, hE0⟩ : ∃ P, nf 57896044618658097711785492504343953926634992332820282019728792003956564819968 (f q) = P := ⟨_, rfl⟩
        rw [hE0] at q0 q1 hrE HAQ1
        clear hE0
        go_upto_region 7 with (fail)
        refine wp_plus0 ?_
        refine region_ghostW (W := w3) [9, 11] (by kernel_rfl) (by kernel_rfl) (by kernel_rfl) ?_
        repeat (refine wpPlain_step (fun K hK => ?_); go_simp; first | (refine hK _ ?_; clear hK K) | (apply Exists.intro; refine ⟨fun _ => ?_, hK _ ?_⟩; (fail); clear hK K))
        refine wpPlain_nil ?_
        intro j1 d1
        rw [plus_plus, List.nil_append]
        refine gchain_cons _ rfl ?_
        go_wp2_with (first | (go_at_call 37; (with_reducible refine Calls.mono (HAQ1.out _ _ _ ?_ ?_) ?_); (exact hrE.kept (by (repeat (first | (with_reducible exact Below.refl _ _) | (with_reducible assumption) | (with_reducible refine below_plus' ?_ ?_; ((try simp only [plus_size, World.size_alloc, World.size_drew, World.size_setCell, size_setRow, World.heap_drewN, List.length_append]) <;> omega)) | (with_reducible refine below_alloc' ?_ ?_; ((try simp only [plus_size, World.size_alloc, World.size_drew, World.size_setCell, size_setRow, World.heap_drewN, List.length_append]) <;> omega)) | with_reducible refine Below.drew ?_ | (with_reducible refine below_drewN' ?_ _) | exact Below.refl _ _)))); (exact hr5.kept (by (repeat (first | (with_reducible exact Below.refl _ _) | (with_reducible assumption) | (with_reducible refine below_plus' ?_ ?_; ((try simp only [plus_size, World.size_alloc, World.size_drew, World.size_setCell, size_setRow, World.heap_drewN, List.length_append]) <;> omega)) | (with_reducible refine below_alloc' ?_ ?_; ((try simp only [plus_size, World.size_alloc, World.size_drew, World.size_setCell, size_setRow, World.heap_drewN, List.length_append]) <;> omega)) | with_reducible refine Below.drew ?_ | (with_reducible refine below_drewN' ?_ _) | exact Below.refl _ _)))); intro e w2 hh; obtain ⟨aN, cN, rfl, hB2, hR2⟩ := retQ_form hh; clear hh))
        have hB3 : Below w3.heap.size w3 w2 := Below.trans (show Below w3.heap.size w3 (plus w3 j1 d1) by (repeat (first | (with_reducible exact Below.refl _ _) | (with_reducible assumption) | (with_reducible refine below_plus' ?_ ?_; ((try simp only [plus_size, World.size_alloc, World.size_drew, World.size_setCell, size_setRow, World.heap_drewN, List.length_append]) <;> omega)) | (with_reducible refine below_alloc' ?_ ?_; ((try simp only [plus_size, World.size_alloc, World.size_drew, World.size_setCell, size_setRow, World.heap_drewN, List.length_append]) <;> omega)) | with_reducible refine Below.drew ?_ | (with_reducible refine below_drewN' ?_ _) | exact Below.refl _ _))) (hB2.mono (by ((try simp only [plus_size, World.size_alloc, World.size_drew, World.size_setCell, size_setRow, World.heap_drewN, List.length_append]) <;> omega)))
        refine gExit_normal ⟨.inr (later_of_below hB3), fun j2 d2 => ?_⟩
        obtain ⟨cur, hcur, hsz, hS1⟩ := hS.putP (hB3.trans ((show Below w2.heap.size w2 (plus w2 j2 d2) by (repeat (first | (with_reducible exact Below.refl _ _) | (with_reducible assumption) | (with_reducible refine below_plus' ?_ ?_; ((try simp only [plus_size, World.size_alloc, World.size_drew, World.size_setCell, size_setRow, World.heap_drewN, List.length_append]) <;> omega)) | (with_reducible refine below_alloc' ?_ ?_; ((try simp only [plus_size, World.size_alloc, World.size_drew, World.size_setCell, size_setRow, World.heap_drewN, List.length_append]) <;> omega)) | with_reducible refine Below.drew ?_ | (with_reducible refine below_drewN' ?_ _) | exact Below.refl _ _))).mono hB3.size)) (t := q) (by omega) (P := A1) (hR2.kept (by (repeat (first | (with_reducible exact Below.refl _ _) | (with_reducible assumption) | (with_reducible refine below_plus' ?_ ?_; ((try simp only [plus_size, World.size_alloc, World.size_drew, World.size_setCell, size_setRow, World.heap_drewN, List.length_append]) <;> omega)) | (with_reducible refine below_alloc' ?_ ?_; ((try simp only [plus_size, World.size_alloc, World.size_drew, World.size_setCell, size_setRow, World.heap_drewN, List.length_append]) <;> omega)) | with_reducible refine Below.drew ?_ | (with_reducible refine below_drewN' ?_ _) | exact Below.refl _ _))))
        clear hS hlk q0 q1 hrE hl5 p50 p51 hr5 hb5 hR2 hB2
        refine gchain_cons _ rfl ?_
        go_wp2_with (((with_reducible apply wpList_store_sub rfl rfl 57 _ _ rfl (kb) (q * 2) rfl _ rfl cur 57); (exact hcur); (exact infoPt2); (exact hsz); (exact pol_one _ _ _ _); revert hS1; generalize (World.setRow _ _ _) = w3; intro hS; clear hcur hsz))
        refine gExit_normal ⟨.inl (by kernel_rfl), fun j3 d3 => ?_⟩
        replace hS := hS.below (show Below w3.heap.size w3 (plus w3 j3 d3) by (repeat (first | (with_reducible exact Below.refl _ _) | (with_reducible assumption) | (with_reducible refine below_plus' ?_ ?_; ((try simp only [plus_size, World.size_alloc, World.size_drew, World.size_setCell, size_setRow, World.heap_drewN, List.length_append]) <;> omega)) | (with_reducible refine below_alloc' ?_ ?_; ((try simp only [plus_size, World.size_alloc, World.size_drew, World.size_setCell, size_setRow, World.heap_drewN, List.length_append]) <;> omega)) | with_reducible refine Below.drew ?_ | (with_reducible refine below_drewN' ?_ _) | exact Below.refl _ _)))
        refine gchain_nil ?_
        generalize plus w3 j3 d3 = w4 at hS ⊢
        by_cases h9 : p1 < m
        · have h9i : (p1 : Int) < (m : Int) := by omega
          have hpw1 : IntKind.i64.wrap (p1 : Int) = (p1 : Int) := by rw [IntKind.wrap_i64]; omega
          have HAR1 := Lib.hid (HAR.out h9)
          obtain ⟨hl6, a6, c6, p60, p61, hr6, hb6⟩ := hS.x6.cells
          obtain ⟨hlk, aE, cE, q0, q1, hrE⟩ := hS.entry (t := p1) (by omega)
          have hue : (updP (updP (fun j => nf 57896044618658097711785492504343953926634992332820282019728792003956564819968 (f j)) p N1) q A1) p1 = nf 57896044618658097711785492504343953926634992332820282019728792003956564819968 (f p1) := by
            simp only [updP]
            repeat rw [if_neg (by omega)]
          rw [hue] at q0 q1 hrE
          clear hue
          obtain ⟨E0, hE0⟩ : ∃ P, nf 57896044618658097711785492504343953926634992332820282019728792003956564819968 (f p1) = P := ⟨_, rfl⟩
          rw [hE0] at q0 q1 hrE HAR1
          clear hE0
          go_upto_region 9 with (fail)
          refine wp_plus0 ?_
          refine region_ghostW (W := w4) [7, 9] (by kernel_rfl) (by kernel_rfl) (by kernel_rfl) ?_
          repeat (refine wpPlain_step (fun K hK => ?_); go_simp; first | (refine hK _ ?_; clear hK K) | (apply Exists.intro; refine ⟨fun _ => ?_, hK _ ?_⟩; (fail); clear hK K))
          refine wpPlain_nil ?_
          intro j1 d1
          rw [plus_plus, List.nil_append]
          refine gchain_cons _ rfl ?_
          go_wp2_with (first | (go_at_call 37; (with_reducible refine Calls.mono (HAR1.out _ _ _ ?_ ?_) ?_); (exact hrE.kept (by (repeat (first | (with_reducible exact Below.refl _ _) | (with_reducible assumption) | (with_reducible refine below_plus' ?_ ?_; ((try simp only [plus_size, World.size_alloc, World.size_drew, World.size_setCell, size_setRow, World.heap_drewN, List.length_append]) <;> omega)) | (with_reducible refine below_alloc' ?_ ?_; ((try simp only [plus_size, World.size_alloc, World.size_drew, World.size_setCell, size_setRow, World.heap_drewN, List.length_append]) <;> omega)) | with_reducible refine Below.drew ?_ | (with_reducible refine below_drewN' ?_ _) | exact Below.refl _ _)))); (exact hr6.kept (by (repeat (first | (with_reducible exact Below.refl _ _) | (with_reducible assumption) | (with_reducible refine below_plus' ?_ ?_; ((try simp only [plus_size, World.size_alloc, World.size_drew, World.size_setCell, size_setRow, World.heap_drewN, List.length_append]) <;> omega)) | (with_reducible refine below_alloc' ?_ ?_; ((try simp only [plus_size, World.size_alloc, World.size_drew, World.size_setCell, size_setRow, World.heap_drewN, List.length_append]) <;> omega)) | with_reducible refine Below.drew ?_ | (with_reducible refine below_drewN' ?_ _) | exact Below.refl _ _)))); intro e w2 hh; obtain ⟨aN, cN, rfl, hB2, hR2⟩ := retQ_form hh; clear hh))
          have hB3 : Below w4.heap.size w4 w2 := Below.trans (show Below w4.heap.size w4 (plus w4 j1 d1) by (repeat (first | (with_reducible exact Below.refl _ _) | (with_reducible assumption) | (with_reducible refine below_plus' ?_ ?_; ((try simp only [plus_size, World.size_alloc, World.size_drew, World.size_setCell, size_setRow, World.heap_drewN, List.length_append]) <;> omega)) | (with_reducible refine below_alloc' ?_ ?_; ((try simp only [plus_size, World.size_alloc, World.size_drew, World.size_setCell, size_setRow, World.heap_drewN, List.length_append]) <;> omega)) | with_reducible refine Below.drew ?_ | (with_reducible refine below_drewN' ?_ _) | exact Below.refl _ _))) (hB2.mono (by ((try simp only [plus_size, World.size_alloc, World.size_drew, World.size_setCell, size_setRow, World.heap_drewN, List.length_append]) <;> omega)))
          refine gExit_normal ⟨.inr (later_of_below hB3), fun j2 d2 => ?_⟩
          obtain ⟨cur, hcur, hsz, hS1⟩ := hS.putP (hB3.trans ((show Below w2.heap.size w2 (plus w2 j2 d2) by (repeat (first | (with_reducible exact Below.refl _ _) | (with_reducible assumption) | (with_reducible refine below_plus' ?_ ?_; ((try simp only [plus_size, World.size_alloc, World.size_drew, World.size_setCell, size_setRow, World.heap_drewN, List.length_append]) <;> omega)) | (with_reducible refine below_alloc' ?_ ?_; ((try simp only [plus_size, World.size_alloc, World.size_drew, World.size_setCell, size_setRow, World.heap_drewN, List.length_append]) <;> omega)) | with_reducible refine Below.drew ?_ | (with_reducible refine below_drewN' ?_ _) | exact Below.refl _ _))).mono hB3.size)) (t := p1) (by omega) (P := A2) (hR2.kept (by (repeat (first | (with_reducible exact Below.refl _ _) | (with_reducible assumption) | (with_reducible refine below_plus' ?_ ?_; ((try simp only [plus_size, World.size_alloc, World.size_drew, World.size_setCell, size_setRow, World.heap_drewN, List.length_append]) <;> omega)) | (with_reducible refine below_alloc' ?_ ?_; ((try simp only [plus_size, World.size_alloc, World.size_drew, World.size_setCell, size_setRow, World.heap_drewN, List.length_append]) <;> omega)) | with_reducible refine Below.drew ?_ | (with_reducible refine below_drewN' ?_ _) | exact Below.refl _ _))))
          clear hS hlk q0 q1 hrE hl6 p60 p61 hr6 hb6 hR2 hB2
          refine gchain_cons _ rfl ?_
          go_wp2_with (((with_reducible apply wpList_store_sub rfl rfl 57 _ _ rfl (kb) (p1 * 2) rfl _ rfl cur 57); (exact hcur); (exact infoPt2); (exact hsz); (exact pol_one _ _ _ _); revert hS1; generalize (World.setRow _ _ _) = w3; intro hS; clear hcur hsz))
          refine gExit_normal ⟨.inl (by kernel_rfl), fun j3 d3 => ?_⟩
          replace hS := hS.below (show Below w3.heap.size w3 (plus w3 j3 d3) by (repeat (first | (with_reducible exact Below.refl _ _) | (with_reducible assumption) | (with_reducible refine below_plus' ?_ ?_; ((try simp only [plus_size, World.size_alloc, World.size_drew, World.size_setCell, size_setRow, World.heap_drewN, List.length_append]) <;> omega)) | (with_reducible refine below_alloc' ?_ ?_; ((try simp only [plus_size, World.size_alloc, World.size_drew, World.size_setCell, size_setRow, World.heap_drewN, List.length_append]) <;> omega)) | with_reducible refine Below.drew ?_ | (with_reducible refine below_drewN' ?_ _) | exact Below.refl _ _)))
          refine gchain_nil ?_
          generalize plus w3 j3 d3 = w4 at hS ⊢
          go_wp2
          go_end0
          refine ⟨rfl, hS.gr, ?_⟩
          have hF := hS.row
          rw [plL_ext (stR_fin (z := (p1 : Int)) (p1 := p1) (p := p) (A1 := A1) (A2 := A2) (by omega) (by omega) HEN.out HEQ.out HER.out (fun j hj => by simp only [updP]; (repeat' split) <;> first | rfl | omega))] at hF
          exact hF
        · have h9i : ¬ (p1 : Int) < (m : Int) := by omega
          go_wp2
          go_end0
          refine ⟨rfl, hS.gr, ?_⟩
          have hF := hS.row
          rw [plL_ext (stR_fin (z := (p1 : Int)) (p1 := p1) (p := p) (A1 := A1) (A2 := A2) (by omega) (by omega) HEN.out HEQ.out HER.out (fun j hj => by simp only [updP]; (repeat' split) <;> first | rfl | omega))] at hF
          exact hF
      · have h7i : ¬ (2 : Int) ≤ (p1 : Int) := by omega
        by_cases h9 : p1 < m
        · have h9i : (p1 : Int) < (m : Int) := by omega
          have hpw1 : IntKind.i64.wrap (p1 : Int) = (p1 : Int) := by rw [IntKind.wrap_i64]; omega
          have HAR1 := Lib.hid (HAR.out h9)
          obtain ⟨hl6, a6, c6, p60, p61, hr6, hb6⟩ := hS.x6.cells
          obtain ⟨hlk, aE, cE, q0, q1, hrE⟩ := hS.entry (t := p1) (by omega)
          have hue : (updP (fun j => nf 57896044618658097711785492504343953926634992332820282019728792003956564819968 (f j)) p N1) p1 = nf 57896044618658097711785492504343953926634992332820282019728792003956564819968 (f p1) := by
            simp only [updP]
            repeat rw [if_neg (by omega)]
          rw [hue] at q0 q1 hrE
          clear hue
          obtain ⟨E0, hE0⟩ : ∃ P, nf 57896044618658097711785492504343953926634992332820282019728792003956564819968 (f p1) = P := ⟨_, rfl⟩
          rw [hE0] at q0 q1 hrE HAR1
          clear hE0
          go_upto_region 9 with (fail)
          refine wp_plus0 ?_
          refine region_ghostW (W := w3) [7, 9] (by kernel_rfl) (by kernel_rfl) (by kernel_rfl) ?_
          repeat (refine wpPlain_step (fun K hK => ?_); go_simp; first | (refine hK _ ?_; clear hK K) | (apply Exists.intro; refine ⟨fun _ => ?_, hK _ ?_⟩; (fail); clear hK K))
          refine wpPlain_nil ?_
          intro j1 d1
          rw [plus_plus, List.nil_append]
          refine gchain_cons _ rfl ?_
          go_wp2_with (first | (go_at_call 37; (with_reducible refine Calls.mono (HAR1.out _ _ _ ?_ ?_) ?_); (exact hrE.kept (by (repeat (first | (with_reducible exact Below.refl _ _) | (with_reducible assumption) | (with_reducible refine below_plus' ?_ ?_; ((try simp only [plus_size, World.size_alloc, World.size_drew, World.size_setCell, size_setRow, World.heap_drewN, List.length_append]) <;> omega)) | (with_reducible refine below_alloc' ?_ ?_; ((try simp only [plus_size, World.size_alloc, World.size_drew, World.size_setCell, size_setRow, World.heap_drewN, List.length_append]) <;> omega)) | with_reducible refine Below.drew ?_ | (with_reducible refine below_drewN' ?_ _) | exact Below.refl _ _)))); (exact hr6.kept (by (repeat (first | (with_reducible exact Below.refl _ _) | (with_reducible assumption) | (with_reducible refine below_plus' ?_ ?_; ((try simp only [plus_size, World.size_alloc, World.size_drew, World.size_setCell, size_setRow, World.heap_drewN, List.length_append]) <;> omega)) | (with_reducible refine below_alloc' ?_ ?_; ((try simp only [plus_size, World.size_alloc, World.size_drew, World.size_setCell, size_setRow, World.heap_drewN, List.length_append]) <;> omega)) | with_reducible refine Below.drew ?_ | (with_reducible refine below_drewN' ?_ _) | exact Below.refl _ _)))); intro e w2 hh; obtain ⟨aN, cN, rfl, hB2, hR2⟩ := retQ_form hh; clear hh))
          have hB3 : Below w3.heap.size w3 w2 := Below.trans (show Below w3.heap.size w3 (plus w3 j1 d1) by (repeat (first | (with_reducible exact Below.refl _ _) | (with_reducible assumption) | (with_reducible refine below_plus' ?_ ?_; ((try simp only [plus_size, World.size_alloc, World.size_drew, World.size_setCell, size_setRow, World.heap_drewN, List.length_append]) <;> omega)) | (with_reducible refine below_alloc' ?_ ?_; ((try simp only [plus_size, World.size_alloc, World.size_drew, World.size_setCell, size_setRow, World.heap_drewN, List.length_append]) <;> omega)) | with_reducible refine Below.drew ?_ | (with_reducible refine below_drewN' ?_ _) | exact Below.refl _ _))) (hB2.mono (by ((try simp only [plus_size, World.size_alloc, World.size_drew, World.size_setCell, size_setRow, World.heap_drewN, List.length_append]) <;> omega)))
          refine gExit_normal ⟨.inr (later_of_below hB3), fun j2 d2 => ?_⟩
          obtain ⟨cur, hcur, hsz, hS1⟩ := hS.putP (hB3.trans ((show Below w2.heap.size w2 (plus w2 j2 d2) by (repeat (first | (with_reducible exact Below.refl _ _) | (with_reducible assumption) | (with_reducible refine below_plus' ?_ ?_; ((try simp only [plus_size, World.size_alloc, World.size_drew, World.size_setCell, size_setRow, World.heap_drewN, List.length_append]) <;> omega)) | (with_reducible refine below_alloc' ?_ ?_; ((try simp only [plus_size, World.size_alloc, World.size_drew, World.size_setCell, size_setRow, World.heap_drewN, List.length_append]) <;> omega)) | with_reducible refine Below.drew ?_ | (with_reducible refine below_drewN' ?_ _) | exact Below.refl _ _))).mono hB3.size)) (t := p1) (by omega) (P := A2) (hR2.kept (by (repeat (first | (with_reducible exact Below.refl _ _) | (with_reducible assumption) | (with_reducible refine below_plus' ?_ ?_; ((try simp only [plus_size, World.size_alloc, World.size_drew, World.size_setCell, size_setRow, World.heap_drewN, List.length_append]) <;> omega)) | (with_reducible refine below_alloc' ?_ ?_; ((try simp only [plus_size, World.size_alloc, World.size_drew, World.size_setCell, size_setRow, World.heap_drewN, List.length_append]) <;> omega)) | with_reducible refine Below.drew ?_ | (with_reducible refine below_drewN' ?_ _) | exact Below.refl _ _))))
          clear hS hlk q0 q1 hrE hl6 p60 p61 hr6 hb6 hR2 hB2
          refine gchain_cons _ rfl ?_
          go_wp2_with (((with_reducible apply wpList_store_sub rfl rfl 57 _ _ rfl (kb) (p1 * 2) rfl _ rfl cur 57); (exact hcur); (exact infoPt2); (exact hsz); (exact pol_one _ _ _ _); revert hS1; generalize (World.setRow _ _ _) = w3; intro hS; clear hcur hsz))
          refine gExit_normal ⟨.inl (by kernel_rfl), fun j3 d3 => ?_⟩
          replace hS := hS.below (show Below w3.heap.size w3 (plus w3 j3 d3) by (repeat (first | (with_reducible exact Below.refl _ _) | (with_reducible assumption) | (with_reducible refine below_plus' ?_ ?_; ((try simp only [plus_size, World.size_alloc, World.size_drew, World.size_setCell, size_setRow, World.heap_drewN, List.length_append]) <;> omega)) | (with_reducible refine below_alloc' ?_ ?_; ((try simp only [plus_size, World.size_alloc, World.size_drew, World.size_setCell, size_setRow, World.heap_drewN, List.length_append]) <;> omega)) | with_reducible refine Below.drew ?_ | (with_reducible refine below_drewN' ?_ _) | exact Below.refl _ _)))
          refine gchain_nil ?_
          generalize plus w3 j3 d3 = w4 at hS ⊢
          go_wp2
          go_end0
          refine ⟨rfl, hS.gr, ?_⟩
          have hF := hS.row
          rw [plL_ext (stR_fin (z := (p1 : Int)) (p1 := p1) (p := p) (A1 := N1) (A2 := A2) (by omega) (by omega) HEN.out (fun j hj => by omega) HER.out (fun j hj => by simp only [updP]; (repeat' split) <;> first | rfl | omega))] at hF
          exact hF
        · have h9i : ¬ (p1 : Int) < (m : Int) := by omega
          go_wp2
          go_end0
          refine ⟨rfl, hS.gr, ?_⟩
          have hF := hS.row
          rw [plL_ext (stR_fin (z := (p1 : Int)) (p1 := p1) (p := p) (A1 := N1) (A2 := A2) (by omega) (by omega) HEN.out (fun j hj => by omega) HER.out (fun j hj => by simp only [updP]; (repeat' split) <;> first | rfl | omega))] at hF
          exact hF
    
  · obtain ⟨p1, rfl⟩ : ∃ p1 : Nat, z = -(p1 : Int) := ⟨z.natAbs, by omega⟩
    obtain ⟨p, hpa, hpb⟩ : ∃ p, p < p1 ∧ p1 ≤ p + 1 := ⟨p1 - 1, by omega, by omega⟩
    have hpm : (p1 : Int) - 1 = p := by omega
    have hpl : p < m := by omega
    have hab : (((-(p1 : Int)).natAbs : Nat) : Int) = p1 := by omega
    have hp1m : p1 ≤ m := by omega
    have hpw : IntKind.i64.wrap (p : Int) = (p : Int) := by rw [IntKind.wrap_i64]; omega
    have hpi : (p : Int) < (m : Int) := by omega
    have hzn : -(p1 : Int) < 0 := by omega
    clear hz0 hz1
    obtain ⟨g, c0, sv, hv, hgB, hgl, g1, g2, g3⟩ := h.at (i := p) (by rw [plL_length]; exact hpl)
    rw [plL_length] at hv
    cases hv
    rw [pAt_plL hpl] at g1 g3
    obtain ⟨a0, c0, rfl⟩ := rdW_form g3
    obtain ⟨P0, hP0⟩ : ∃ P, nf 57896044618658097711785492504343953926634992332820282019728792003956564819968 (f p) = P := ⟨_, rfl⟩
    obtain ⟨S1, hS1⟩ : ∃ P, nf 57896044618658097711785492504343953926634992332820282019728792003956564819968 (shF 1 (f p)) = P := ⟨_, rfl⟩
    obtain ⟨N1, hN1⟩ : ∃ P, nf 57896044618658097711785492504343953926634992332820282019728792003956564819968 (ngF (shF 1 (f p))) = P := ⟨_, rfl⟩
    obtain ⟨S2, hS2⟩ : ∃ P, nf 57896044618658097711785492504343953926634992332820282019728792003956564819968 (shF (-1) (f p)) = P := ⟨_, rfl⟩
    obtain ⟨N2, hN2⟩ : ∃ P, nf 57896044618658097711785492504343953926634992332820282019728792003956564819968 (ngF (shF (-1) (f p))) = P := ⟨_, rfl⟩
    obtain ⟨A2, hA2⟩ : ∃ P, nf 57896044618658097711785492504343953926634992332820282019728792003956564819968 (adF (f p1) (shF (-1) (f p))) = P := ⟨_, rfl⟩
    have n0 := nf_is (h := 57896044618658097711785492504343953926634992332820282019728792003956564819968) (by decide) (hf p hpl)
    have n1 := sup_shF (hf p hpl) (s := 1) (by decide) (by decide)
    have n2 := nf_is (h := 57896044618658097711785492504343953926634992332820282019728792003956564819968) (by decide) n1
    have HE2 := Lib.hid (show S1.2 = P0.2 by
      have e := congrArg Prod.snd (shift_fin n0 n1 (by decide) (by decide))
      rw [hS1] at e
      rw [← hP0]; exact e)
    have n3 := sup_shF (hf p hpl) (s := -1) (by decide) (by decide)
    have n4 := nf_is (h := 57896044618658097711785492504343953926634992332820282019728792003956564819968) (by decide) n3
    have HE3 := Lib.hid (show S2.2 = P0.2 by
      have e := congrArg Prod.snd (shift_fin n0 n3 (by decide) (by decide))
      rw [hS2] at e
      rw [← hP0]; exact e)
    have HSH2 := Lib.hid (fun w' v (hv : rdW 78 w' v P0.2) => (show Calls Try.prog 52 #[.agg #[.int .i64 P0.1, v], .int .i64 (-1)] w' (fun e w'' => e = .returned (.agg #[.int .i64 S2.1, v]) ∧ Below w'.heap.size w' w'' ∧ S2.2 = P0.2) from by
      rw [← hS2]; exact shift_nf P0.1 v P0.2 (-1) (f p) A w' hv (by rw [← hP0]; exact n0) (by omega) n3 (by decide) (by decide)))
    have HNG2 := Lib.hid (fun w' v (hv : rdW 78 w' v S2.2) => (show Calls Try.prog 53 #[.agg #[.int .i64 S2.1, v]] w' (RetQ w' N2) from by
      rw [← hN2]; exact negative_nf S2.1 v S2.2 (shF (-1) (f p)) (A + 1) w' hv (by rw [← hS2]; exact n4) (by omega) (sup_ngF n3)))
    have HEN := Lib.hid (show nf 57896044618658097711785492504343953926634992332820282019728792003956564819968 (ngF (shF (if 0 < -(p1 : Int) then 1 else -1) (f p))) = N2 by rw [if_neg hz]; exact hN2)
    have HER := Lib.hid (show nf 57896044618658097711785492504343953926634992332820282019728792003956564819968 (adF (f p1) (if 0 < -(p1 : Int) then f p else shF (-1) (f p))) = A2 by rw [if_neg hz]; exact hA2)
    have HSH := Lib.hid (fun w' (hb : Below w.heap.size w w') => shift_nf P0.1 (.slice a0 P0.2.length c0) P0.2 1 (f p) A w' (by rw [← hP0]; exact g3.kept hb) (by rw [← hP0]; exact n0) (by omega) n1 (by decide) (by decide))
    have HNG := Lib.hid (fun w' v (hv : rdW 78 w' v S1.2) => (show Calls Try.prog 53 #[.agg #[.int .i64 S1.1, v]] w' (RetQ w' N1) from by
      rw [← hN1]; exact negative_nf S1.1 v S1.2 (shF 1 (f p)) (A + 1) w' hv (by rw [← hS1]; exact n2) (by omega) (sup_ngF n1)))
    have HAQ := Lib.hid (fun (q : Nat) (hq : q < m) w' v1 v2 (h1 : rdW 78 w' v1 (nf 57896044618658097711785492504343953926634992332820282019728792003956564819968 (f q)).2) (h2 : rdW 78 w' v2 P0.2) => (show Calls Try.prog 37 #[.agg #[.int .i64 (nf 57896044618658097711785492504343953926634992332820282019728792003956564819968 (f q)).1, v1], .agg #[.int .i64 P0.1, v2]] w' (RetQ w' (nf 57896044618658097711785492504343953926634992332820282019728792003956564819968 (adF (f q) (f p)))) from
      add_nf _ v1 _ P0.1 v2 P0.2 (f q) (f p) A w' h1 h2 (nf_is (by decide) (hf q hq)) (by rw [← hP0]; exact n0) (by omega) (sup_adF (hf q hq) (hf p hpl))))
    have HAR := Lib.hid (fun (hq : p1 < m) w' v1 v2 (h1 : rdW 78 w' v1 (nf 57896044618658097711785492504343953926634992332820282019728792003956564819968 (f p1)).2) (h2 : rdW 78 w' v2 S2.2) => (show Calls Try.prog 37 #[.agg #[.int .i64 (nf 57896044618658097711785492504343953926634992332820282019728792003956564819968 (f p1)).1, v1], .agg #[.int .i64 S2.1, v2]] w' (RetQ w' A2) from by
      rw [← hA2]; exact add_nf _ v1 _ S2.1 v2 S2.2 (f p1) (shF (-1) (f p)) (A + 1) w' h1 h2 ((nf_is (by decide) (hf p1 hq)).mono (by omega)) (by rw [← hS2]; exact n4) (by omega) (sup_adF (sup_le (hf p1 hq) (by omega)) n3)))
    simp only [hP0, hS1] at g1 g2 g3 HSH
    go_enter Try.func34, Try.ntmps34
    go_upto_region 1 with ((go_at_call 51; refine (sizeZ_any _ _ (by omega) (by omega)).mono ?_; rw [hab]; rintro e w' ⟨rfl, rfl⟩))
    go_cut [5, 6] from 9 to 19 (fun s5 s6 wc => ∃ b5 b6, s5 = .pointer (some ⟨b5, 0, none⟩) ∧ s6 = .pointer (some ⟨b6, 0, none⟩) ∧ RSt 57 78 w B kb ck m b5 b6 wc S1 P0 (fun j => nf 57896044618658097711785492504343953926634992332820282019728792003956564819968 (f j)))
    case first =>
      refine wp_plus0 ?_
      refine region_ghostWT (W := w) [11, 12, 13, 14] (by kernel_rfl) (by kernel_rfl) (by kernel_rfl) ?_
      repeat (refine wpPlain_step (fun K hK => ?_); go_simp; first | (refine hK _ ?_; clear hK K) | (apply Exists.intro; refine ⟨fun _ => ?_, hK _ ?_⟩; ((go_at_call 52; (with_reducible refine Calls.mono (HSH.out _ ?_) ?_); (rw [plusq_eq]; (repeat (first | (with_reducible exact Below.refl _ _) | (with_reducible assumption) | (with_reducible refine below_plus' ?_ ?_; ((try simp only [plus_size, World.size_alloc, World.size_drew, World.size_setCell, size_setRow, World.heap_drewN, List.length_append]) <;> omega)) | (with_reducible refine below_alloc' ?_ ?_; ((try simp only [plus_size, World.size_alloc, World.size_drew, World.size_setCell, size_setRow, World.heap_drewN, List.length_append]) <;> omega)) | with_reducible refine Below.drew ?_ | (with_reducible refine below_drewN' ?_ _) | exact Below.refl _ _))); rintro e w'' ⟨he, hB, hE⟩; exact ⟨he, hB⟩)); clear hK K))
      refine wpPlain_nil ?_
      intro j1 d1
      rw [plus_plus, List.nil_append]
      refine gtree_step [11, 12] (by kernel_rfl) (gtree_all2 ⟨_, rfl, ?_⟩ ⟨_, rfl, ?_⟩)
      · go_wp2
        refine gExit_normal ⟨.inr (later_of_below (by (repeat (first | (with_reducible exact Below.refl _ _) | (with_reducible assumption) | (with_reducible refine below_plus' ?_ ?_; ((try simp only [plus_size, World.size_alloc, World.size_drew, World.size_setCell, size_setRow, World.heap_drewN, List.length_append]) <;> omega)) | (with_reducible refine below_alloc' ?_ ?_; ((try simp only [plus_size, World.size_alloc, World.size_drew, World.size_setCell, size_setRow, World.heap_drewN, List.length_append]) <;> omega)) | with_reducible refine Below.drew ?_ | (with_reducible refine below_drewN' ?_ _) | exact Below.refl _ _)))), fun j2 d2 => ?_⟩
        refine gtree_step [12] (by kernel_rfl) (gtree_all1 ⟨_, rfl, ?_⟩)
        go_wp2
        refine gExit_normal ⟨.inr (later_of_below (by (repeat (first | (with_reducible exact Below.refl _ _) | (with_reducible assumption) | (with_reducible refine below_plus' ?_ ?_; ((try simp only [plus_size, World.size_alloc, World.size_drew, World.size_setCell, size_setRow, World.heap_drewN, List.length_append]) <;> omega)) | (with_reducible refine below_alloc' ?_ ?_; ((try simp only [plus_size, World.size_alloc, World.size_drew, World.size_setCell, size_setRow, World.heap_drewN, List.length_append]) <;> omega)) | with_reducible refine Below.drew ?_ | (with_reducible refine below_drewN' ?_ _) | exact Below.refl _ _)))), fun j3 d3 => ?_⟩
        refine gtree_step [13] (by kernel_rfl) (gtree_all1 ⟨_, rfl, ?_⟩)
        go_wp2
        refine gExit_normal ⟨.inr (later_of_below (by (repeat (first | (with_reducible exact Below.refl _ _) | (with_reducible assumption) | (with_reducible refine below_plus' ?_ ?_; ((try simp only [plus_size, World.size_alloc, World.size_drew, World.size_setCell, size_setRow, World.heap_drewN, List.length_append]) <;> omega)) | (with_reducible refine below_alloc' ?_ ?_; ((try simp only [plus_size, World.size_alloc, World.size_drew, World.size_setCell, size_setRow, World.heap_drewN, List.length_append]) <;> omega)) | with_reducible refine Below.drew ?_ | (with_reducible refine below_drewN' ?_ _) | exact Below.refl _ _)))), fun j4 d4 => ?_⟩
        refine gtree_step [14] (by kernel_rfl) (gtree_all1 ⟨_, rfl, ?_⟩)
        go_wp2
        refine gExit_normal ⟨.inl (by kernel_rfl), fun j5 d5 => ?_⟩
        refine gtree_nil ?_
        go_wp2
        go_meet
        case rel =>
          exact ⟨_, _, rfl, rfl, rst_start (by decide) h (by (repeat (first | (with_reducible exact Below.refl _ _) | (with_reducible assumption) | (with_reducible refine below_plus' ?_ ?_; ((try simp only [plus_size, World.size_alloc, World.size_drew, World.size_setCell, size_setRow, World.heap_drewN, List.length_append]) <;> omega)) | (with_reducible refine below_alloc' ?_ ?_; ((try simp only [plus_size, World.size_alloc, World.size_drew, World.size_setCell, size_setRow, World.heap_drewN, List.length_append]) <;> omega)) | with_reducible refine Below.drew ?_ | (with_reducible refine below_drewN' ?_ _) | exact Below.refl _ _))) (by ((try simp only [plus_size, World.size_alloc, World.size_drew, World.size_setCell, size_setRow, World.heap_drewN, List.length_append]) <;> omega)) (by ((try simp only [plus_size, World.size_alloc, World.size_drew, World.size_setCell, size_setRow, World.heap_drewN, List.length_append]) <;> omega)) (by ((try simp only [plus_size, World.size_alloc, World.size_drew, World.size_setCell, size_setRow, World.heap_drewN, List.length_append]) <;> omega)) ⟨a0, c0, by rw [HE2.out]; (repeat (first | (refine heap_at _ _ _ ?_; ((try simp only [plus_size, World.size_alloc, World.size_drew, World.size_setCell, size_setRow, World.heap_drewN, List.length_append]) <;> omega)) | (refine heap_past' ?_ ?_; ((try simp only [plus_size, World.size_alloc, World.size_drew, World.size_setCell, size_setRow, World.heap_drewN, List.length_append]) <;> omega)) | (refine heap_plus' ?_ ?_; ((try simp only [plus_size, World.size_alloc, World.size_drew, World.size_setCell, size_setRow, World.heap_drewN, List.length_append]) <;> omega)) | assumption)), by rw [HE2.out]; exact g3.kept (by (repeat (first | (with_reducible exact Below.refl _ _) | (with_reducible assumption) | (with_reducible refine below_plus' ?_ ?_; ((try simp only [plus_size, World.size_alloc, World.size_drew, World.size_setCell, size_setRow, World.heap_drewN, List.length_append]) <;> omega)) | (with_reducible refine below_alloc' ?_ ?_; ((try simp only [plus_size, World.size_alloc, World.size_drew, World.size_setCell, size_setRow, World.heap_drewN, List.length_append]) <;> omega)) | with_reducible refine Below.drew ?_ | (with_reducible refine below_drewN' ?_ _) | exact Below.refl _ _)))⟩ ⟨a0, c0, by (repeat (first | (refine heap_at _ _ _ ?_; ((try simp only [plus_size, World.size_alloc, World.size_drew, World.size_setCell, size_setRow, World.heap_drewN, List.length_append]) <;> omega)) | (refine heap_past' ?_ ?_; ((try simp only [plus_size, World.size_alloc, World.size_drew, World.size_setCell, size_setRow, World.heap_drewN, List.length_append]) <;> omega)) | (refine heap_plus' ?_ ?_; ((try simp only [plus_size, World.size_alloc, World.size_drew, World.size_setCell, size_setRow, World.heap_drewN, List.length_append]) <;> omega)) | assumption)), g3.kept (by (repeat (first | (with_reducible exact Below.refl _ _) | (with_reducible assumption) | (with_reducible refine below_plus' ?_ ?_; ((try simp only [plus_size, World.size_alloc, World.size_drew, World.size_setCell, size_setRow, World.heap_drewN, List.length_append]) <;> omega)) | (with_reducible refine below_alloc' ?_ ?_; ((try simp only [plus_size, World.size_alloc, World.size_drew, World.size_setCell, size_setRow, World.heap_drewN, List.length_append]) <;> omega)) | with_reducible refine Below.drew ?_ | (with_reducible refine below_drewN' ?_ _) | exact Below.refl _ _)))⟩⟩
      · go_wp2
        refine gExit_normal ⟨.inr (later_of_below (by (repeat (first | (with_reducible exact Below.refl _ _) | (with_reducible assumption) | (with_reducible refine below_plus' ?_ ?_; ((try simp only [plus_size, World.size_alloc, World.size_drew, World.size_setCell, size_setRow, World.heap_drewN, List.length_append]) <;> omega)) | (with_reducible refine below_alloc' ?_ ?_; ((try simp only [plus_size, World.size_alloc, World.size_drew, World.size_setCell, size_setRow, World.heap_drewN, List.length_append]) <;> omega)) | with_reducible refine Below.drew ?_ | (with_reducible refine below_drewN' ?_ _) | exact Below.refl _ _)))), fun j2 d2 => ?_⟩
        refine gtree_step [11] (by kernel_rfl) (gtree_all1 ⟨_, rfl, ?_⟩)
        go_wp2
        refine gExit_normal ⟨.inr (later_of_below (by (repeat (first | (with_reducible exact Below.refl _ _) | (with_reducible assumption) | (with_reducible refine below_plus' ?_ ?_; ((try simp only [plus_size, World.size_alloc, World.size_drew, World.size_setCell, size_setRow, World.heap_drewN, List.length_append]) <;> omega)) | (with_reducible refine below_alloc' ?_ ?_; ((try simp only [plus_size, World.size_alloc, World.size_drew, World.size_setCell, size_setRow, World.heap_drewN, List.length_append]) <;> omega)) | with_reducible refine Below.drew ?_ | (with_reducible refine below_drewN' ?_ _) | exact Below.refl _ _)))), fun j3 d3 => ?_⟩
        refine gtree_step [13] (by kernel_rfl) (gtree_all1 ⟨_, rfl, ?_⟩)
        go_wp2
        refine gExit_normal ⟨.inr (later_of_below (by (repeat (first | (with_reducible exact Below.refl _ _) | (with_reducible assumption) | (with_reducible refine below_plus' ?_ ?_; ((try simp only [plus_size, World.size_alloc, World.size_drew, World.size_setCell, size_setRow, World.heap_drewN, List.length_append]) <;> omega)) | (with_reducible refine below_alloc' ?_ ?_; ((try simp only [plus_size, World.size_alloc, World.size_drew, World.size_setCell, size_setRow, World.heap_drewN, List.length_append]) <;> omega)) | with_reducible refine Below.drew ?_ | (with_reducible refine below_drewN' ?_ _) | exact Below.refl _ _)))), fun j4 d4 => ?_⟩
        refine gtree_step [14] (by kernel_rfl) (gtree_all1 ⟨_, rfl, ?_⟩)
        go_wp2
        refine gExit_normal ⟨.inl (by kernel_rfl), fun j5 d5 => ?_⟩
        refine gtree_nil ?_
        go_wp2
        go_meet
        case rel =>
          exact ⟨_, _, rfl, rfl, rst_start (by decide) h (by (repeat (first | (with_reducible exact Below.refl _ _) | (with_reducible assumption) | (with_reducible refine below_plus' ?_ ?_; ((try simp only [plus_size, World.size_alloc, World.size_drew, World.size_setCell, size_setRow, World.heap_drewN, List.length_append]) <;> omega)) | (with_reducible refine below_alloc' ?_ ?_; ((try simp only [plus_size, World.size_alloc, World.size_drew, World.size_setCell, size_setRow, World.heap_drewN, List.length_append]) <;> omega)) | with_reducible refine Below.drew ?_ | (with_reducible refine below_drewN' ?_ _) | exact Below.refl _ _))) (by ((try simp only [plus_size, World.size_alloc, World.size_drew, World.size_setCell, size_setRow, World.heap_drewN, List.length_append]) <;> omega)) (by ((try simp only [plus_size, World.size_alloc, World.size_drew, World.size_setCell, size_setRow, World.heap_drewN, List.length_append]) <;> omega)) (by ((try simp only [plus_size, World.size_alloc, World.size_drew, World.size_setCell, size_setRow, World.heap_drewN, List.length_append]) <;> omega)) ⟨a0, c0, by rw [HE2.out]; (repeat (first | (refine heap_at _ _ _ ?_; ((try simp only [plus_size, World.size_alloc, World.size_drew, World.size_setCell, size_setRow, World.heap_drewN, List.length_append]) <;> omega)) | (refine heap_past' ?_ ?_; ((try simp only [plus_size, World.size_alloc, World.size_drew, World.size_setCell, size_setRow, World.heap_drewN, List.length_append]) <;> omega)) | (refine heap_plus' ?_ ?_; ((try simp only [plus_size, World.size_alloc, World.size_drew, World.size_setCell, size_setRow, World.heap_drewN, List.length_append]) <;> omega)) | assumption)), by rw [HE2.out]; exact g3.kept (by (repeat (first | (with_reducible exact Below.refl _ _) | (with_reducible assumption) | (with_reducible refine below_plus' ?_ ?_; ((try simp only [plus_size, World.size_alloc, World.size_drew, World.size_setCell, size_setRow, World.heap_drewN, List.length_append]) <;> omega)) | (with_reducible refine below_alloc' ?_ ?_; ((try simp only [plus_size, World.size_alloc, World.size_drew, World.size_setCell, size_setRow, World.heap_drewN, List.length_append]) <;> omega)) | with_reducible refine Below.drew ?_ | (with_reducible refine below_drewN' ?_ _) | exact Below.refl _ _)))⟩ ⟨a0, c0, by (repeat (first | (refine heap_at _ _ _ ?_; ((try simp only [plus_size, World.size_alloc, World.size_drew, World.size_setCell, size_setRow, World.heap_drewN, List.length_append]) <;> omega)) | (refine heap_past' ?_ ?_; ((try simp only [plus_size, World.size_alloc, World.size_drew, World.size_setCell, size_setRow, World.heap_drewN, List.length_append]) <;> omega)) | (refine heap_plus' ?_ ?_; ((try simp only [plus_size, World.size_alloc, World.size_drew, World.size_setCell, size_setRow, World.heap_drewN, List.length_append]) <;> omega)) | assumption)), g3.kept (by (repeat (first | (with_reducible exact Below.refl _ _) | (with_reducible assumption) | (with_reducible refine below_plus' ?_ ?_; ((try simp only [plus_size, World.size_alloc, World.size_drew, World.size_setCell, size_setRow, World.heap_drewN, List.length_append]) <;> omega)) | (with_reducible refine below_alloc' ?_ ?_; ((try simp only [plus_size, World.size_alloc, World.size_drew, World.size_setCell, size_setRow, World.heap_drewN, List.length_append]) <;> omega)) | with_reducible refine Below.drew ?_ | (with_reducible refine below_drewN' ?_ _) | exact Below.refl _ _)))⟩⟩
    case rest =>
      obtain ⟨b5, b6, rfl, rfl, hS⟩ := hcut
      clear g1 g2 g3 h HSH HE2
      obtain ⟨hl5, a5, c5, p50, p51, hr5, hb5⟩ := hS.x5.cells
      go_upto_region 4 with (first | (go_at_call 53; (with_reducible refine Calls.mono (HNG.out _ _ hr5) ?_); intro e w2 hh; obtain ⟨aN, cN, rfl, hB2, hR2⟩ := retQ_form hh; clear hh; obtain ⟨cur, hcur, hsz, hS1⟩ := hS.putP hB2 (t := p) hpl (P := N1) hR2; clear hS hl5 p50 p51 hr5 hb5) | ((with_reducible apply wpList_store_sub rfl rfl 57 _ _ rfl (kb) (p * 2) rfl _ rfl cur 57); (exact hcur); (exact infoPt2); (exact hsz); (exact pol_one _ _ _ _); revert hS1; generalize (World.setRow _ _ _) = w3; intro hS; clear hcur hsz))
      go_cut [] from 27 to 30 (fun wc => RSt 57 78 w B kb ck m b5 b6 wc P0 S2 (updP (fun j => nf 57896044618658097711785492504343953926634992332820282019728792003956564819968 (f j)) p N1))
      case first =>
        obtain ⟨hl6, a6, c6, p60, p61, hr6, hb6⟩ := hS.x6.cells
        clear hl6 p60 p61
        refine region_ghostCT (fun _ => True) (fun _ _ _ _ => trivial) trivial [0, 1, 2, 3, 4] (by kernel_rfl) (by kernel_rfl) (by kernel_rfl) ?_
        repeat (refine wpPlain_step (fun K hK => ?_); go_simp; refine hK _ ?_; clear hK K)
        refine wpPlain_nil ?_
        intro j1 d1
        have hbx := (show Below w3.heap.size w3 (plus w3 j1 d1) by (repeat (first | (with_reducible exact Below.refl _ _) | (with_reducible assumption) | (with_reducible refine below_plus' ?_ ?_; ((try simp only [plus_size, World.size_alloc, World.size_drew, World.size_setCell, size_setRow, World.heap_drewN, List.length_append]) <;> omega)) | (with_reducible refine below_alloc' ?_ ?_; ((try simp only [plus_size, World.size_alloc, World.size_drew, World.size_setCell, size_setRow, World.heap_drewN, List.length_append]) <;> omega)) | with_reducible refine Below.drew ?_ | (with_reducible refine below_drewN' ?_ _) | exact Below.refl _ _)))
        replace hS := hS.below hbx
        replace hb6 := (hbx.block _ (heap_lt hb6)).trans hb6
        replace hr6 := hr6.kept hbx
        clear hbx
        generalize plus w3 j1 d1 = y1 at hS hb6 hr6 ⊢
        refine gtree_step [0, 1] (by kernel_rfl) (gtree_all2 ⟨_, rfl, ?_⟩ ⟨_, rfl, ?_⟩)
        · have p60 : y1.cell? ⟨b6, 0, none⟩ = some (.int .i64 P0.1) := cell_of (i := 0) hb6
          have p61 : y1.cell? ⟨b6, 1, none⟩ = some (.slice a6 P0.2.length c6) := cell_of (i := 1) hb6
          have hl6 := heap_lt hb6
          go_wp2
          clear p60 p61 hl6
          refine gExit_normal ⟨.inr trivial, fun j d => ?_⟩
          have hbx := (show Below y1.heap.size y1 (plus y1 j d) by (repeat (first | (with_reducible exact Below.refl _ _) | (with_reducible assumption) | (with_reducible refine below_plus' ?_ ?_; ((try simp only [plus_size, World.size_alloc, World.size_drew, World.size_setCell, size_setRow, World.heap_drewN, List.length_append]) <;> omega)) | (with_reducible refine below_alloc' ?_ ?_; ((try simp only [plus_size, World.size_alloc, World.size_drew, World.size_setCell, size_setRow, World.heap_drewN, List.length_append]) <;> omega)) | with_reducible refine Below.drew ?_ | (with_reducible refine below_drewN' ?_ _) | exact Below.refl _ _)))
          replace hS := hS.below hbx
          replace hb6 := (hbx.block _ (heap_lt hb6)).trans hb6
          replace hr6 := hr6.kept hbx
          clear hbx
          generalize plus y1 j d = y2 at hS hb6 hr6 ⊢
          refine gtree_step [1] (by kernel_rfl) (gtree_all1 ⟨_, rfl, ?_⟩)
          have p60 : y2.cell? ⟨b6, 0, none⟩ = some (.int .i64 P0.1) := cell_of (i := 0) hb6
          have p61 : y2.cell? ⟨b6, 1, none⟩ = some (.slice a6 P0.2.length c6) := cell_of (i := 1) hb6
          have hl6 := heap_lt hb6
          go_wp2
          clear p60 p61 hl6
          refine gExit_normal ⟨.inr trivial, fun j d => ?_⟩
          have hbx := (show Below y2.heap.size y2 (plus y2 j d) by (repeat (first | (with_reducible exact Below.refl _ _) | (with_reducible assumption) | (with_reducible refine below_plus' ?_ ?_; ((try simp only [plus_size, World.size_alloc, World.size_drew, World.size_setCell, size_setRow, World.heap_drewN, List.length_append]) <;> omega)) | (with_reducible refine below_alloc' ?_ ?_; ((try simp only [plus_size, World.size_alloc, World.size_drew, World.size_setCell, size_setRow, World.heap_drewN, List.length_append]) <;> omega)) | with_reducible refine Below.drew ?_ | (with_reducible refine below_drewN' ?_ _) | exact Below.refl _ _)))
          replace hS := hS.below hbx
          replace hb6 := (hbx.block _ (heap_lt hb6)).trans hb6
          replace hr6 := hr6.kept hbx
          clear hbx
          generalize plus y2 j d = y3 at hS hb6 hr6 ⊢
          refine gtree_step [2] (by kernel_rfl) (gtree_all1 ⟨_, rfl, ?_⟩)
          go_wp2_with (first | (go_at_call 52; (with_reducible refine Calls.mono (HSH2.out _ _ hr6) ?_); rintro e x9 ⟨rfl, hB2, hE9⟩))
          replace hS := hS.below hB2
          replace hb6 := (hB2.block _ (heap_lt hb6)).trans hb6
          replace hr6 := hr6.kept hB2
          clear hB2 hE9
          refine gExit_normal ⟨.inr trivial, fun j d => ?_⟩
          have hbx := (show Below x9.heap.size x9 (plus x9 j d) by (repeat (first | (with_reducible exact Below.refl _ _) | (with_reducible assumption) | (with_reducible refine below_plus' ?_ ?_; ((try simp only [plus_size, World.size_alloc, World.size_drew, World.size_setCell, size_setRow, World.heap_drewN, List.length_append]) <;> omega)) | (with_reducible refine below_alloc' ?_ ?_; ((try simp only [plus_size, World.size_alloc, World.size_drew, World.size_setCell, size_setRow, World.heap_drewN, List.length_append]) <;> omega)) | with_reducible refine Below.drew ?_ | (with_reducible refine below_drewN' ?_ _) | exact Below.refl _ _)))
          replace hS := hS.below hbx
          replace hb6 := (hbx.block _ (heap_lt hb6)).trans hb6
          replace hr6 := hr6.kept hbx
          clear hbx
          generalize plus x9 j d = y4 at hS hb6 hr6 ⊢
          refine gtree_step [3] (by kernel_rfl) (gtree_all1 ⟨_, rfl, ?_⟩)
          obtain ⟨hl5, a5, c5, p50, p51, hr5, hb5⟩ := hS.x5.cells
          have f0 := frozen_of_row y4 b5 0 _ _ hb5
          have f1 := frozen_of_row y4 b5 1 _ _ hb5
          go_wp2
          obtain ⟨hS9, hR9⟩ := hS.set5k (P := P0) (a := a6) (c := c6) rfl hr6
          replace hr6 := hR9 _ _ hr6
          clear hS hR9 hb6 f0 f1 hl5 p50 p51 hr5 hb5
          have hS := hS9
          clear hS9
          generalize World.setCell (World.setCell y4 _ _) _ _ = x8 at hS hr6 ⊢
          refine gExit_normal ⟨.inr trivial, fun j d => ?_⟩
          have hbx := (show Below x8.heap.size x8 (plus x8 j d) by (repeat (first | (with_reducible exact Below.refl _ _) | (with_reducible assumption) | (with_reducible refine below_plus' ?_ ?_; ((try simp only [plus_size, World.size_alloc, World.size_drew, World.size_setCell, size_setRow, World.heap_drewN, List.length_append]) <;> omega)) | (with_reducible refine below_alloc' ?_ ?_; ((try simp only [plus_size, World.size_alloc, World.size_drew, World.size_setCell, size_setRow, World.heap_drewN, List.length_append]) <;> omega)) | with_reducible refine Below.drew ?_ | (with_reducible refine below_drewN' ?_ _) | exact Below.refl _ _)))
          replace hS := hS.below hbx
          replace hr6 := hr6.kept hbx
          clear hbx
          generalize plus x8 j d = y5 at hS hr6 ⊢
          refine gtree_step [4] (by kernel_rfl) (gtree_all1 ⟨_, rfl, ?_⟩)
          obtain ⟨hl6, a7, c7, p60, p61, hr7, hb7⟩ := hS.x6.cells
          have f0 := frozen_of_row y5 b6 0 _ _ hb7
          have f1 := frozen_of_row y5 b6 1 _ _ hb7
          go_wp2
          have hS9 := hS.set6k (P := S2) (a := a6) (c := c6) (n := P0.2.length) (by rw [HE3.out]) (by rw [HE3.out]; exact hr6)
          clear hS f0 f1 hl6 p60 p61 hr7 hb7 hr6
          have hS := hS9
          clear hS9
          generalize World.setCell (World.setCell y5 _ _) _ _ = x8 at hS ⊢
          refine gExit_normal ⟨.inr trivial, fun j d => ?_⟩
          replace hS := hS.below (show Below x8.heap.size x8 (plus x8 j d) by (repeat (first | (with_reducible exact Below.refl _ _) | (with_reducible assumption) | (with_reducible refine below_plus' ?_ ?_; ((try simp only [plus_size, World.size_alloc, World.size_drew, World.size_setCell, size_setRow, World.heap_drewN, List.length_append]) <;> omega)) | (with_reducible refine below_alloc' ?_ ?_; ((try simp only [plus_size, World.size_alloc, World.size_drew, World.size_setCell, size_setRow, World.heap_drewN, List.length_append]) <;> omega)) | with_reducible refine Below.drew ?_ | (with_reducible refine below_drewN' ?_ _) | exact Below.refl _ _)))
          generalize plus x8 j d = x7 at hS ⊢
          refine gtree_nil ?_
          go_wp2
          go_meet
          case rel => exact hS
        · have p60 : y1.cell? ⟨b6, 0, none⟩ = some (.int .i64 P0.1) := cell_of (i := 0) hb6
          have p61 : y1.cell? ⟨b6, 1, none⟩ = some (.slice a6 P0.2.length c6) := cell_of (i := 1) hb6
          have hl6 := heap_lt hb6
          go_wp2
          clear p60 p61 hl6
          refine gExit_normal ⟨.inr trivial, fun j d => ?_⟩
          have hbx := (show Below y1.heap.size y1 (plus y1 j d) by (repeat (first | (with_reducible exact Below.refl _ _) | (with_reducible assumption) | (with_reducible refine below_plus' ?_ ?_; ((try simp only [plus_size, World.size_alloc, World.size_drew, World.size_setCell, size_setRow, World.heap_drewN, List.length_append]) <;> omega)) | (with_reducible refine below_alloc' ?_ ?_; ((try simp only [plus_size, World.size_alloc, World.size_drew, World.size_setCell, size_setRow, World.heap_drewN, List.length_append]) <;> omega)) | with_reducible refine Below.drew ?_ | (with_reducible refine below_drewN' ?_ _) | exact Below.refl _ _)))
          replace hS := hS.below hbx
          replace hb6 := (hbx.block _ (heap_lt hb6)).trans hb6
          replace hr6 := hr6.kept hbx
          clear hbx
          generalize plus y1 j d = y6 at hS hb6 hr6 ⊢
          refine gtree_step [0, 2] (by kernel_rfl) (gtree_all2 ⟨_, rfl, ?_⟩ ⟨_, rfl, ?_⟩)
          · have p60 : y6.cell? ⟨b6, 0, none⟩ = some (.int .i64 P0.1) := cell_of (i := 0) hb6
            have p61 : y6.cell? ⟨b6, 1, none⟩ = some (.slice a6 P0.2.length c6) := cell_of (i := 1) hb6
            have hl6 := heap_lt hb6
            go_wp2
            clear p60 p61 hl6
            refine gExit_normal ⟨.inr trivial, fun j d => ?_⟩
            have hbx := (show Below y6.heap.size y6 (plus y6 j d) by (repeat (first | (with_reducible exact Below.refl _ _) | (with_reducible assumption) | (with_reducible refine below_plus' ?_ ?_; ((try simp only [plus_size, World.size_alloc, World.size_drew, World.size_setCell, size_setRow, World.heap_drewN, List.length_append]) <;> omega)) | (with_reducible refine below_alloc' ?_ ?_; ((try simp only [plus_size, World.size_alloc, World.size_drew, World.size_setCell, size_setRow, World.heap_drewN, List.length_append]) <;> omega)) | with_reducible refine Below.drew ?_ | (with_reducible refine below_drewN' ?_ _) | exact Below.refl _ _)))
            replace hS := hS.below hbx
            replace hb6 := (hbx.block _ (heap_lt hb6)).trans hb6
            replace hr6 := hr6.kept hbx
            clear hbx
            generalize plus y6 j d = y7 at hS hb6 hr6 ⊢
            refine gtree_step [2] (by kernel_rfl) (gtree_all1 ⟨_, rfl, ?_⟩)
            go_wp2_with (first | (go_at_call 52; (with_reducible refine Calls.mono (HSH2.out _ _ hr6) ?_); rintro e x9 ⟨rfl, hB2, hE9⟩))
            replace hS := hS.below hB2
            replace hb6 := (hB2.block _ (heap_lt hb6)).trans hb6
            replace hr6 := hr6.kept hB2
            clear hB2 hE9
            refine gExit_normal ⟨.inr trivial, fun j d => ?_⟩
            have hbx := (show Below x9.heap.size x9 (plus x9 j d) by (repeat (first | (with_reducible exact Below.refl _ _) | (with_reducible assumption) | (with_reducible refine below_plus' ?_ ?_; ((try simp only [plus_size, World.size_alloc, World.size_drew, World.size_setCell, size_setRow, World.heap_drewN, List.length_append]) <;> omega)) | (with_reducible refine below_alloc' ?_ ?_; ((try simp only [plus_size, World.size_alloc, World.size_drew, World.size_setCell, size_setRow, World.heap_drewN, List.length_append]) <;> omega)) | with_reducible refine Below.drew ?_ | (with_reducible refine below_drewN' ?_ _) | exact Below.refl _ _)))
            replace hS := hS.below hbx
            replace hb6 := (hbx.block _ (heap_lt hb6)).trans hb6
            replace hr6 := hr6.kept hbx
            clear hbx
            generalize plus x9 j d = y8 at hS hb6 hr6 ⊢
            refine gtree_step [3] (by kernel_rfl) (gtree_all1 ⟨_, rfl, ?_⟩)
            obtain ⟨hl5, a5, c5, p50, p51, hr5, hb5⟩ := hS.x5.cells
            have f0 := frozen_of_row y8 b5 0 _ _ hb5
            have f1 := frozen_of_row y8 b5 1 _ _ hb5
            go_wp2
            obtain ⟨hS9, hR9⟩ := hS.set5k (P := P0) (a := a6) (c := c6) rfl hr6
            replace hr6 := hR9 _ _ hr6
            clear hS hR9 hb6 f0 f1 hl5 p50 p51 hr5 hb5
            have hS := hS9
            clear hS9
            generalize World.setCell (World.setCell y8 _ _) _ _ = x8 at hS hr6 ⊢
            refine gExit_normal ⟨.inr trivial, fun j d => ?_⟩
            have hbx := (show Below x8.heap.size x8 (plus x8 j d) by (repeat (first | (with_reducible exact Below.refl _ _) | (with_reducible assumption) | (with_reducible refine below_plus' ?_ ?_; ((try simp only [plus_size, World.size_alloc, World.size_drew, World.size_setCell, size_setRow, World.heap_drewN, List.length_append]) <;> omega)) | (with_reducible refine below_alloc' ?_ ?_; ((try simp only [plus_size, World.size_alloc, World.size_drew, World.size_setCell, size_setRow, World.heap_drewN, List.length_append]) <;> omega)) | with_reducible refine Below.drew ?_ | (with_reducible refine below_drewN' ?_ _) | exact Below.refl _ _)))
            replace hS := hS.below hbx
            replace hr6 := hr6.kept hbx
            clear hbx
            generalize plus x8 j d = y9 at hS hr6 ⊢
            refine gtree_step [4] (by kernel_rfl) (gtree_all1 ⟨_, rfl, ?_⟩)
            obtain ⟨hl6, a7, c7, p60, p61, hr7, hb7⟩ := hS.x6.cells
            have f0 := frozen_of_row y9 b6 0 _ _ hb7
            have f1 := frozen_of_row y9 b6 1 _ _ hb7
            go_wp2
            have hS9 := hS.set6k (P := S2) (a := a6) (c := c6) (n := P0.2.length) (by rw [HE3.out]) (by rw [HE3.out]; exact hr6)
            clear hS f0 f1 hl6 p60 p61 hr7 hb7 hr6
            have hS := hS9
            clear hS9
            generalize World.setCell (World.setCell y9 _ _) _ _ = x8 at hS ⊢
            refine gExit_normal ⟨.inr trivial, fun j d => ?_⟩
            replace hS := hS.below (show Below x8.heap.size x8 (plus x8 j d) by (repeat (first | (with_reducible exact Below.refl _ _) | (with_reducible assumption) | (with_reducible refine below_plus' ?_ ?_; ((try simp only [plus_size, World.size_alloc, World.size_drew, World.size_setCell, size_setRow, World.heap_drewN, List.length_append]) <;> omega)) | (with_reducible refine below_alloc' ?_ ?_; ((try simp only [plus_size, World.size_alloc, World.size_drew, World.size_setCell, size_setRow, World.heap_drewN, List.length_append]) <;> omega)) | with_reducible refine Below.drew ?_ | (with_reducible refine below_drewN' ?_ _) | exact Below.refl _ _)))
            generalize plus x8 j d = x7 at hS ⊢
            refine gtree_nil ?_
            go_wp2
            go_meet
            case rel => exact hS
          · go_wp2_with (first | (go_at_call 52; (with_reducible refine Calls.mono (HSH2.out _ _ hr6) ?_); rintro e x9 ⟨rfl, hB2, hE9⟩))
            replace hS := hS.below hB2
            replace hb6 := (hB2.block _ (heap_lt hb6)).trans hb6
            replace hr6 := hr6.kept hB2
            clear hB2 hE9
            refine gExit_normal ⟨.inr trivial, fun j d => ?_⟩
            have hbx := (show Below x9.heap.size x9 (plus x9 j d) by (repeat (first | (with_reducible exact Below.refl _ _) | (with_reducible assumption) | (with_reducible refine below_plus' ?_ ?_; ((try simp only [plus_size, World.size_alloc, World.size_drew, World.size_setCell, size_setRow, World.heap_drewN, List.length_append]) <;> omega)) | (with_reducible refine below_alloc' ?_ ?_; ((try simp only [plus_size, World.size_alloc, World.size_drew, World.size_setCell, size_setRow, World.heap_drewN, List.length_append]) <;> omega)) | with_reducible refine Below.drew ?_ | (with_reducible refine below_drewN' ?_ _) | exact Below.refl _ _)))
            replace hS := hS.below hbx
            replace hb6 := (hbx.block _ (heap_lt hb6)).trans hb6
            replace hr6 := hr6.kept hbx
            clear hbx
            generalize plus x9 j d = y10 at hS hb6 hr6 ⊢
            refine gtree_step [0] (by kernel_rfl) (gtree_all1 ⟨_, rfl, ?_⟩)
            have p60 : y10.cell? ⟨b6, 0, none⟩ = some (.int .i64 P0.1) := cell_of (i := 0) hb6
            have p61 : y10.cell? ⟨b6, 1, none⟩ = some (.slice a6 P0.2.length c6) := cell_of (i := 1) hb6
            have hl6 := heap_lt hb6
            go_wp2
            clear p60 p61 hl6
            refine gExit_normal ⟨.inr trivial, fun j d => ?_⟩
            have hbx := (show Below y10.heap.size y10 (plus y10 j d) by (repeat (first | (with_reducible exact Below.refl _ _) | (with_reducible assumption) | (with_reducible refine below_plus' ?_ ?_; ((try simp only [plus_size, World.size_alloc, World.size_drew, World.size_setCell, size_setRow, World.heap_drewN, List.length_append]) <;> omega)) | (with_reducible refine below_alloc' ?_ ?_; ((try simp only [plus_size, World.size_alloc, World.size_drew, World.size_setCell, size_setRow, World.heap_drewN, List.length_append]) <;> omega)) | with_reducible refine Below.drew ?_ | (with_reducible refine below_drewN' ?_ _) | exact Below.refl _ _)))
            replace hS := hS.below hbx
            replace hb6 := (hbx.block _ (heap_lt hb6)).trans hb6
            replace hr6 := hr6.kept hbx
            clear hbx
            generalize plus y10 j d = y11 at hS hb6 hr6 ⊢
            refine gtree_step [3] (by kernel_rfl) (gtree_all1 ⟨_, rfl, ?_⟩)
            obtain ⟨hl5, a5, c5, p50, p51, hr5, hb5⟩ := hS.x5.cells
            have f0 := frozen_of_row y11 b5 0 _ _ hb5
            have f1 := frozen_of_row y11 b5 1 _ _ hb5
            go_wp2
            obtain ⟨hS9, hR9⟩ := hS.set5k (P := P0) (a := a6) (c := c6) rfl hr6
            replace hr6 := hR9 _ _ hr6
            clear hS hR9 hb6 f0 f1 hl5 p50 p51 hr5 hb5
            have hS := hS9
            clear hS9
            generalize World.setCell (World.setCell y11 _ _) _ _ = x8 at hS hr6 ⊢
            refine gExit_normal ⟨.inr trivial, fun j d => ?_⟩
            have hbx := (show Below x8.heap.size x8 (plus x8 j d) by (repeat (first | (with_reducible exact Below.refl _ _) | (with_reducible assumption) | (with_reducible refine below_plus' ?_ ?_; ((try simp only [plus_size, World.size_alloc, World.size_drew, World.size_setCell, size_setRow, World.heap_drewN, List.length_append]) <;> omega)) | (with_reducible refine below_alloc' ?_ ?_; ((try simp only [plus_size, World.size_alloc, World.size_drew, World.size_setCell, size_setRow, World.heap_drewN, List.length_append]) <;> omega)) | with_reducible refine Below.drew ?_ | (with_reducible refine below_drewN' ?_ _) | exact Below.refl _ _)))
            replace hS := hS.below hbx
            replace hr6 := hr6.kept hbx
            clear hbx
            generalize plus x8 j d = y12 at hS hr6 ⊢
            refine gtree_step [4] (by kernel_rfl) (gtree_all1 ⟨_, rfl, ?_⟩)
            obtain ⟨hl6, a7, c7, p60, p61, hr7, hb7⟩ := hS.x6.cells
            have f0 := frozen_of_row y12 b6 0 _ _ hb7
            have f1 := frozen_of_row y12 b6 1 _ _ hb7
            go_wp2
            have hS9 := hS.set6k (P := S2) (a := a6) (c := c6) (n := P0.2.length) (by rw [HE3.out]) (by rw [HE3.out]; exact hr6)
            clear hS f0 f1 hl6 p60 p61 hr7 hb7 hr6
            have hS := hS9
            clear hS9
            generalize World.setCell (World.setCell y12 _ _) _ _ = x8 at hS ⊢
            refine gExit_normal ⟨.inr trivial, fun j d => ?_⟩
            replace hS := hS.below (show Below x8.heap.size x8 (plus x8 j d) by (repeat (first | (with_reducible exact Below.refl _ _) | (with_reducible assumption) | (with_reducible refine below_plus' ?_ ?_; ((try simp only [plus_size, World.size_alloc, World.size_drew, World.size_setCell, size_setRow, World.heap_drewN, List.length_append]) <;> omega)) | (with_reducible refine below_alloc' ?_ ?_; ((try simp only [plus_size, World.size_alloc, World.size_drew, World.size_setCell, size_setRow, World.heap_drewN, List.length_append]) <;> omega)) | with_reducible refine Below.drew ?_ | (with_reducible refine below_drewN' ?_ _) | exact Below.refl _ _)))
            generalize plus x8 j d = x7 at hS ⊢
            refine gtree_nil ?_
            go_wp2
            go_meet
            case rel => exact hS
        
      case rest =>
        have hS := hcut
        clear hcut
        obtain ⟨hl6, a6, c6, p60, p61, hr6, hb6⟩ := hS.x6.cells
        go_upto_region 6 with (first | (go_at_call 53; (with_reducible refine Calls.mono (HNG2.out _ _ hr6) ?_); intro e w2 hh; obtain ⟨aN, cN, rfl, hB2, hR2⟩ := retQ_form hh; clear hh; obtain ⟨cur, hcur, hsz, hS1⟩ := hS.putP hB2 (t := p) hpl (P := N2) hR2; clear hS hl6 p60 p61 hr6 hb6) | ((with_reducible apply wpList_store_sub rfl rfl 57 _ _ rfl (kb) (p * 2) rfl _ rfl cur 57); (exact hcur); (exact infoPt2); (exact hsz); (exact pol_one _ _ _ _); revert hS1; generalize (World.setRow _ _ _) = w3; intro hS; clear hcur hsz))
        by_cases h7 : 2 ≤ p1
        · have h7i : (2 : Int) ≤ (p1 : Int) := by omega
          obtain ⟨q, hqa, hqb⟩ : ∃ q, q < p ∧ p ≤ q + 1 := ⟨p - 1, by omega, by omega⟩
          have hqm : (p1 : Int) - 2 = q := by omega
          have hqw : IntKind.i64.wrap (q : Int) = (q : Int) := by rw [IntKind.wrap_i64]; omega
          have hqi : (q : Int) < (m : Int) := by omega
          obtain ⟨A1, hA1⟩ : ∃ P, nf 57896044618658097711785492504343953926634992332820282019728792003956564819968 (adF (f q) (f p)) = P := ⟨_, rfl⟩
          have HEQ := Lib.hid (show ∀ j, j + 1 = p → nf 57896044618658097711785492504343953926634992332820282019728792003956564819968 (adF (f j) (if 0 < (-(p1 : Int)) then shF 1 (f p) else f p)) = A1 from fun j hj => by
            obtain rfl : j = q := by omega
            rw [if_neg (by omega)]; exact hA1)
          have HAQ1 := Lib.hid (HAQ.out q (by omega))
          rw [hA1] at HAQ1
          clear hA1
          obtain ⟨hl5, a5, c5, p50, p51, hr5, hb5⟩ := hS.x5.cells
          obtain ⟨hlk, aE, cE, q0, q1, hrE⟩ := hS.entry (t := q) (by omega)
          have hue : (updP (updP (fun j => nf 57896044618658097711785492504343953926634992332820282019728792003956564819968 (f j)) p N1) p N2) q = nf 57896044618658097711785492504343953926634992332820282019728792003956564819968 (f q) := by
            simp only [updP]
            repeat rw [if_neg (by omega)]
          rw [hue] at q0 q1 hrE
          clear hue
          obtain ⟨E0, hE0⟩ : ∃ P, nf 57896044618658097711785492504343953926634992332820282019728792003956564819968 (f q) = P := ⟨_, rfl⟩
          rw [hE0] at q0 q1 hrE HAQ1
          clear hE0
          go_upto_region 7 with (fail)
          refine wp_plus0 ?_
          refine region_ghostW (W := w3) [9, 11] (by kernel_rfl) (by kernel_rfl) (by kernel_rfl) ?_
          repeat (refine wpPlain_step (fun K hK => ?_); go_simp; first | (refine hK _ ?_; clear hK K) | (apply Exists.intro; refine ⟨fun _ => ?_, hK _ ?_⟩; (fail); clear hK K))
          refine wpPlain_nil ?_
          intro j1 d1
          rw [plus_plus, List.nil_append]
          refine gchain_cons _ rfl ?_
          go_wp2_with (first | (go_at_call 37; (with_reducible refine Calls.mono (HAQ1.out _ _ _ ?_ ?_) ?_); (exact hrE.kept (by (repeat (first | (with_reducible exact Below.refl _ _) | (with_reducible assumption) | (with_reducible refine below_plus' ?_ ?_; ((try simp only [plus_size, World.size_alloc, World.size_drew, World.size_setCell, size_setRow, World.heap_drewN, List.length_append]) <;> omega)) | (with_reducible refine below_alloc' ?_ ?_; ((try simp only [plus_size, World.size_alloc, World.size_drew, World.size_setCell, size_setRow, World.heap_drewN, List.length_append]) <;> omega)) | with_reducible refine Below.drew ?_ | (with_reducible refine below_drewN' ?_ _) | exact Below.refl _ _)))); (exact hr5.kept (by (repeat (first | (with_reducible exact Below.refl _ _) | (with_reducible assumption) | (with_reducible refine below_plus' ?_ ?_; ((try simp only [plus_size, World.size_alloc, World.size_drew, World.size_setCell, size_setRow, World.heap_drewN, List.length_append]) <;> omega)) | (with_reducible refine below_alloc' ?_ ?_; ((try simp only [plus_size, World.size_alloc, World.size_drew, World.size_setCell, size_setRow, World.heap_drewN, List.length_append]) <;> omega)) | with_reducible refine Below.drew ?_ | (with_reducible refine below_drewN' ?_ _) | exact Below.refl _ _)))); intro e w2 hh; obtain ⟨aN, cN, rfl, hB2, hR2⟩ := retQ_form hh; clear hh))
          have hB3 : Below w3.heap.size w3 w2 := Below.trans (show Below w3.heap.size w3 (plus w3 j1 d1) by (repeat (first | (with_reducible exact Below.refl _ _) | (with_reducible assumption) | (with_reducible refine below_plus' ?_ ?_; ((try simp only [plus_size, World.size_alloc, World.size_drew, World.size_setCell, size_setRow, World.heap_drewN, List.length_append]) <;> omega)) | (with_reducible refine below_alloc' ?_ ?_; ((try simp only [plus_size, World.size_alloc, World.size_drew, World.size_setCell, size_setRow, World.heap_drewN, List.length_append]) <;> omega)) | with_reducible refine Below.drew ?_ | (with_reducible refine below_drewN' ?_ _) | exact Below.refl _ _))) (hB2.mono (by ((try simp only [plus_size, World.size_alloc, World.size_drew, World.size_setCell, size_setRow, World.heap_drewN, List.length_append]) <;> omega)))
          refine gExit_normal ⟨.inr (later_of_below hB3), fun j2 d2 => ?_⟩
          obtain ⟨cur, hcur, hsz, hS1⟩ := hS.putP (hB3.trans ((show Below w2.heap.size w2 (plus w2 j2 d2) by (repeat (first | (with_reducible exact Below.refl _ _) | (with_reducible assumption) | (with_reducible refine below_plus' ?_ ?_; ((try simp only [plus_size, World.size_alloc, World.size_drew, World.size_setCell, size_setRow, World.heap_drewN, List.length_append]) <;> omega)) | (with_reducible refine below_alloc' ?_ ?_; ((try simp only [plus_size, World.size_alloc, World.size_drew, World.size_setCell, size_setRow, World.heap_drewN, List.length_append]) <;> omega)) | with_reducible refine Below.drew ?_ | (with_reducible refine below_drewN' ?_ _) | exact Below.refl _ _))).mono hB3.size)) (t := q) (by omega) (P := A1) (hR2.kept (by (repeat (first | (with_reducible exact Below.refl _ _) | (with_reducible assumption) | (with_reducible refine below_plus' ?_ ?_; ((try simp only [plus_size, World.size_alloc, World.size_drew, World.size_setCell, size_setRow, World.heap_drewN, List.length_append]) <;> omega)) | (with_reducible refine below_alloc' ?_ ?_; ((try simp only [plus_size, World.size_alloc, World.size_drew, World.size_setCell, size_setRow, World.heap_drewN, List.length_append]) <;> omega)) | with_reducible refine Below.drew ?_ | (with_reducible refine below_drewN' ?_ _) | exact Below.refl _ _))))
          clear hS hlk q0 q1 hrE hl5 p50 p51 hr5 hb5 hR2 hB2
          refine gchain_cons _ rfl ?_
          go_wp2_with (((with_reducible apply wpList_store_sub rfl rfl 57 _ _ rfl (kb) (q * 2) rfl _ rfl cur 57); (exact hcur); (exact infoPt2); (exact hsz); (exact pol_one _ _ _ _); revert hS1; generalize (World.setRow _ _ _) = w3; intro hS; clear hcur hsz))
          refine gExit_normal ⟨.inl (by kernel_rfl), fun j3 d3 => ?_⟩
          replace hS := hS.below (show Below w3.heap.size w3 (plus w3 j3 d3) by (repeat (first | (with_reducible exact Below.refl _ _) | (with_reducible assumption) | (with_reducible refine below_plus' ?_ ?_; ((try simp only [plus_size, World.size_alloc, World.size_drew, World.size_setCell, size_setRow, World.heap_drewN, List.length_append]) <;> omega)) | (with_reducible refine below_alloc' ?_ ?_; ((try simp only [plus_size, World.size_alloc, World.size_drew, World.size_setCell, size_setRow, World.heap_drewN, List.length_append]) <;> omega)) | with_reducible refine Below.drew ?_ | (with_reducible refine below_drewN' ?_ _) | exact Below.refl _ _)))
          refine gchain_nil ?_
          generalize plus w3 j3 d3 = w4 at hS ⊢
          by_cases h9 : p1 < m
          · have h9i : (p1 : Int) < (m : Int) := by omega
            have hpw1 : IntKind.i64.wrap (p1 : Int) = (p1 : Int) := by rw [IntKind.wrap_i64]; omega
            have HAR1 := Lib.hid (HAR.out h9)
            obtain ⟨hl6, a6, c6, p60, p61, hr6, hb6⟩ := hS.x6.cells
            obtain ⟨hlk, aE, cE, q0, q1, hrE⟩ := hS.entry (t := p1) (by omega)
            have hue : (updP (updP (updP (fun j => nf 57896044618658097711785492504343953926634992332820282019728792003956564819968 (f j)) p N1) p N2) q A1) p1 = nf 57896044618658097711785492504343953926634992332820282019728792003956564819968 (f p1) := by
              simp only [updP]
              repeat rw [if_neg (by omega)]
            rw [hue] at q0 q1 hrE
            clear hue
            obtain ⟨E0, hE0⟩ : ∃ P, nf 57896044618658097711785492504343953926634992332820282019728792003956564819968 (f p1) = P := ⟨_, rfl⟩
            rw [hE0] at q0 q1 hrE HAR1
            clear hE0
            go_upto_region 9 with (fail)
            refine wp_plus0 ?_
            refine region_ghostW (W := w4) [7, 9] (by kernel_rfl) (by kernel_rfl) (by kernel_rfl) ?_
            repeat (refine wpPlain_step (fun K hK => ?_); go_simp; first | (refine hK _ ?_; clear hK K) | (apply Exists.intro; refine ⟨fun _ => ?_, hK _ ?_⟩; (fail); clear hK K))
            refine wpPlain_nil ?_
            intro j1 d1
            rw [plus_plus, List.nil_append]
            refine gchain_cons _ rfl ?_
            go_wp2_with (first | (go_at_call 37; (with_reducible refine Calls.mono (HAR1.out _ _ _ ?_ ?_) ?_); (exact hrE.kept (by (repeat (first | (with_reducible exact Below.refl _ _) | (with_reducible assumption) | (with_reducible refine below_plus' ?_ ?_; ((try simp only [plus_size, World.size_alloc, World.size_drew, World.size_setCell, size_setRow, World.heap_drewN, List.length_append]) <;> omega)) | (with_reducible refine below_alloc' ?_ ?_; ((try simp only [plus_size, World.size_alloc, World.size_drew, World.size_setCell, size_setRow, World.heap_drewN, List.length_append]) <;> omega)) | with_reducible refine Below.drew ?_ | (with_reducible refine below_drewN' ?_ _) | exact Below.refl _ _)))); (exact hr6.kept (by (repeat (first | (with_reducible exact Below.refl _ _) | (with_reducible assumption) | (with_reducible refine below_plus' ?_ ?_; ((try simp only [plus_size, World.size_alloc, World.size_drew, World.size_setCell, size_setRow, World.heap_drewN, List.length_append]) <;> omega)) | (with_reducible refine below_alloc' ?_ ?_; ((try simp only [plus_size, World.size_alloc, World.size_drew, World.size_setCell, size_setRow, World.heap_drewN, List.length_append]) <;> omega)) | with_reducible refine Below.drew ?_ | (with_reducible refine below_drewN' ?_ _) | exact Below.refl _ _)))); intro e w2 hh; obtain ⟨aN, cN, rfl, hB2, hR2⟩ := retQ_form hh; clear hh))
            have hB3 : Below w4.heap.size w4 w2 := Below.trans (show Below w4.heap.size w4 (plus w4 j1 d1) by (repeat (first | (with_reducible exact Below.refl _ _) | (with_reducible assumption) | (with_reducible refine below_plus' ?_ ?_; ((try simp only [plus_size, World.size_alloc, World.size_drew, World.size_setCell, size_setRow, World.heap_drewN, List.length_append]) <;> omega)) | (with_reducible refine below_alloc' ?_ ?_; ((try simp only [plus_size, World.size_alloc, World.size_drew, World.size_setCell, size_setRow, World.heap_drewN, List.length_append]) <;> omega)) | with_reducible refine Below.drew ?_ | (with_reducible refine below_drewN' ?_ _) | exact Below.refl _ _))) (hB2.mono (by ((try simp only [plus_size, World.size_alloc, World.size_drew, World.size_setCell, size_setRow, World.heap_drewN, List.length_append]) <;> omega)))
            refine gExit_normal ⟨.inr (later_of_below hB3), fun j2 d2 => ?_⟩
            obtain ⟨cur, hcur, hsz, hS1⟩ := hS.putP (hB3.trans ((show Below w2.heap.size w2 (plus w2 j2 d2) by (repeat (first | (with_reducible exact Below.refl _ _) | (with_reducible assumption) | (with_reducible refine below_plus' ?_ ?_; ((try simp only [plus_size, World.size_alloc, World.size_drew, World.size_setCell, size_setRow, World.heap_drewN, List.length_append]) <;> omega)) | (with_reducible refine below_alloc' ?_ ?_; ((try simp only [plus_size, World.size_alloc, World.size_drew, World.size_setCell, size_setRow, World.heap_drewN, List.length_append]) <;> omega)) | with_reducible refine Below.drew ?_ | (with_reducible refine below_drewN' ?_ _) | exact Below.refl _ _))).mono hB3.size)) (t := p1) (by omega) (P := A2) (hR2.kept (by (repeat (first | (with_reducible exact Below.refl _ _) | (with_reducible assumption) | (with_reducible refine below_plus' ?_ ?_; ((try simp only [plus_size, World.size_alloc, World.size_drew, World.size_setCell, size_setRow, World.heap_drewN, List.length_append]) <;> omega)) | (with_reducible refine below_alloc' ?_ ?_; ((try simp only [plus_size, World.size_alloc, World.size_drew, World.size_setCell, size_setRow, World.heap_drewN, List.length_append]) <;> omega)) | with_reducible refine Below.drew ?_ | (with_reducible refine below_drewN' ?_ _) | exact Below.refl _ _))))
            clear hS hlk q0 q1 hrE hl6 p60 p61 hr6 hb6 hR2 hB2
            refine gchain_cons _ rfl ?_
            go_wp2_with (((with_reducible apply wpList_store_sub rfl rfl 57 _ _ rfl (kb) (p1 * 2) rfl _ rfl cur 57); (exact hcur); (exact infoPt2); (exact hsz); (exact pol_one _ _ _ _); revert hS1; generalize (World.setRow _ _ _) = w3; intro hS; clear hcur hsz))
            refine gExit_normal ⟨.inl (by kernel_rfl), fun j3 d3 => ?_⟩
            replace hS := hS.below (show Below w3.heap.size w3 (plus w3 j3 d3) by (repeat (first | (with_reducible exact Below.refl _ _) | (with_reducible assumption) | (with_reducible refine below_plus' ?_ ?_; ((try simp only [plus_size, World.size_alloc, World.size_drew, World.size_setCell, size_setRow, World.heap_drewN, List.length_append]) <;> omega)) | (with_reducible refine below_alloc' ?_ ?_; ((try simp only [plus_size, World.size_alloc, World.size_drew, World.size_setCell, size_setRow, World.heap_drewN, List.length_append]) <;> omega)) | with_reducible refine Below.drew ?_ | (with_reducible refine below_drewN' ?_ _) | exact Below.refl _ _)))
            refine gchain_nil ?_
            generalize plus w3 j3 d3 = w4 at hS ⊢
            go_wp2
            go_end0
            refine ⟨rfl, hS.gr, ?_⟩
            have hF := hS.row
            rw [plL_ext (stR_fin (z := (-(p1 : Int))) (p1 := p1) (p := p) (A1 := A1) (A2 := A2) (by omega) (by omega) HEN.out HEQ.out HER.out (fun j hj => by simp only [updP]; (repeat' split) <;> first | rfl | omega))] at hF
            exact hF
          · have h9i : ¬ (p1 : Int) < (m : Int) := by omega
            go_wp2
            go_end0
            refine ⟨rfl, hS.gr, ?_⟩
            have hF := hS.row
            rw [plL_ext (stR_fin (z := (-(p1 : Int))) (p1 := p1) (p := p) (A1 := A1) (A2 := A2) (by omega) (by omega) HEN.out HEQ.out HER.out (fun j hj => by simp only [updP]; (repeat' split) <;> first | rfl | omega))] at hF
            exact hF
        · have h7i : ¬ (2 : Int) ≤ (p1 : Int) := by omega
          by_cases h9 : p1 < m
          · have h9i : (p1 : Int) < (m : Int) := by omega
            have hpw1 : IntKind.i64.wrap (p1 : Int) = (p1 : Int) := by rw [IntKind.wrap_i64]; omega
            have HAR1 := Lib.hid (HAR.out h9)
            obtain ⟨hl6, a6, c6, p60, p61, hr6, hb6⟩ := hS.x6.cells
            obtain ⟨hlk, aE, cE, q0, q1, hrE⟩ := hS.entry (t := p1) (by omega)
            have hue : (updP (updP (fun j => nf 57896044618658097711785492504343953926634992332820282019728792003956564819968 (f j)) p N1) p N2) p1 = nf 57896044618658097711785492504343953926634992332820282019728792003956564819968 (f p1) := by
              simp only [updP]
              repeat rw [if_neg (by omega)]
            rw [hue] at q0 q1 hrE
            clear hue
            obtain ⟨E0, hE0⟩ : ∃ P, nf 57896044618658097711785492504343953926634992332820282019728792003956564819968 (f p1) = P := ⟨_, rfl⟩
            rw [hE0] at q0 q1 hrE HAR1
            clear hE0
            go_upto_region 9 with (fail)
            refine wp_plus0 ?_
            refine region_ghostW (W := w3) [7, 9] (by kernel_rfl) (by kernel_rfl) (by kernel_rfl) ?_
            repeat (refine wpPlain_step (fun K hK => ?_); go_simp; first | (refine hK _ ?_; clear hK K) | (apply Exists.intro; refine ⟨fun _ => ?_, hK _ ?_⟩; (fail); clear hK K))
            refine wpPlain_nil ?_
            intro j1 d1
            rw [plus_plus, List.nil_append]
            refine gchain_cons _ rfl ?_
            go_wp2_with (first | (go_at_call 37; (with_reducible refine Calls.mono (HAR1.out _ _ _ ?_ ?_) ?_); (exact hrE.kept (by (repeat (first | (with_reducible exact Below.refl _ _) | (with_reducible assumption) | (with_reducible refine below_plus' ?_ ?_; ((try simp only [plus_size, World.size_alloc, World.size_drew, World.size_setCell, size_setRow, World.heap_drewN, List.length_append]) <;> omega)) | (with_reducible refine below_alloc' ?_ ?_; ((try simp only [plus_size, World.size_alloc, World.size_drew, World.size_setCell, size_setRow, World.heap_drewN, List.length_append]) <;> omega)) | with_reducible refine Below.drew ?_ | (with_reducible refine below_drewN' ?_ _) | exact Below.refl _ _)))); (exact hr6.kept (by (repeat (first | (with_reducible exact Below.refl _ _) | (with_reducible assumption) | (with_reducible refine below_plus' ?_ ?_; ((try simp only [plus_size, World.size_alloc, World.size_drew, World.size_setCell, size_setRow, World.heap_drewN, List.length_append]) <;> omega)) | (with_reducible refine below_alloc' ?_ ?_; ((try simp only [plus_size, World.size_alloc, World.size_drew, World.size_setCell, size_setRow, World.heap_drewN, List.length_append]) <;> omega)) | with_reducible refine Below.drew ?_ | (with_reducible refine below_drewN' ?_ _) | exact Below.refl _ _)))); intro e w2 hh; obtain ⟨aN, cN, rfl, hB2, hR2⟩ := retQ_form hh; clear hh))
            have hB3 : Below w3.heap.size w3 w2 := Below.trans (show Below w3.heap.size w3 (plus w3 j1 d1) by (repeat (first | (with_reducible exact Below.refl _ _) | (with_reducible assumption) | (with_reducible refine below_plus' ?_ ?_; ((try simp only [plus_size, World.size_alloc, World.size_drew, World.size_setCell, size_setRow, World.heap_drewN, List.length_append]) <;> omega)) | (with_reducible refine below_alloc' ?_ ?_; ((try simp only [plus_size, World.size_alloc, World.size_drew, World.size_setCell, size_setRow, World.heap_drewN, List.length_append]) <;> omega)) | with_reducible refine Below.drew ?_ | (with_reducible refine below_drewN' ?_ _) | exact Below.refl _ _))) (hB2.mono (by ((try simp only [plus_size, World.size_alloc, World.size_drew, World.size_setCell, size_setRow, World.heap_drewN, List.length_append]) <;> omega)))
            refine gExit_normal ⟨.inr (later_of_below hB3), fun j2 d2 => ?_⟩
            obtain ⟨cur, hcur, hsz, hS1⟩ := hS.putP (hB3.trans ((show Below w2.heap.size w2 (plus w2 j2 d2) by (repeat (first | (with_reducible exact Below.refl _ _) | (with_reducible assumption) | (with_reducible refine below_plus' ?_ ?_; ((try simp only [plus_size, World.size_alloc, World.size_drew, World.size_setCell, size_setRow, World.heap_drewN, List.length_append]) <;> omega)) | (with_reducible refine below_alloc' ?_ ?_; ((try simp only [plus_size, World.size_alloc, World.size_drew, World.size_setCell, size_setRow, World.heap_drewN, List.length_append]) <;> omega)) | with_reducible refine Below.drew ?_ | (with_reducible refine below_drewN' ?_ _) | exact Below.refl _ _))).mono hB3.size)) (t := p1) (by omega) (P := A2) (hR2.kept (by (repeat (first | (with_reducible exact Below.refl _ _) | (with_reducible assumption) | (with_reducible refine below_plus' ?_ ?_; ((try simp only [plus_size, World.size_alloc, World.size_drew, World.size_setCell, size_setRow, World.heap_drewN, List.length_append]) <;> omega)) | (with_reducible refine below_alloc' ?_ ?_; ((try simp only [plus_size, World.size_alloc, World.size_drew, World.size_setCell, size_setRow, World.heap_drewN, List.length_append]) <;> omega)) | with_reducible refine Below.drew ?_ | (with_reducible refine below_drewN' ?_ _) | exact Below.refl _ _))))
            clear hS hlk q0 q1 hrE hl6 p60 p61 hr6 hb6 hR2 hB2
            refine gchain_cons _ rfl ?_
            go_wp2_with (((with_reducible apply wpList_store_sub rfl rfl 57 _ _ rfl (kb) (p1 * 2) rfl _ rfl cur 57); (exact hcur); (exact infoPt2); (exact hsz); (exact pol_one _ _ _ _); revert hS1; generalize (World.setRow _ _ _) = w3; intro hS; clear hcur hsz))
            refine gExit_normal ⟨.inl (by kernel_rfl), fun j3 d3 => ?_⟩
            replace hS := hS.below (show Below w3.heap.size w3 (plus w3 j3 d3) by (repeat (first | (with_reducible exact Below.refl _ _) | (with_reducible assumption) | (with_reducible refine below_plus' ?_ ?_; ((try simp only [plus_size, World.size_alloc, World.size_drew, World.size_setCell, size_setRow, World.heap_drewN, List.length_append]) <;> omega)) | (with_reducible refine below_alloc' ?_ ?_; ((try simp only [plus_size, World.size_alloc, World.size_drew, World.size_setCell, size_setRow, World.heap_drewN, List.length_append]) <;> omega)) | with_reducible refine Below.drew ?_ | (with_reducible refine below_drewN' ?_ _) | exact Below.refl _ _)))
            refine gchain_nil ?_
            generalize plus w3 j3 d3 = w4 at hS ⊢
            go_wp2
            go_end0
            refine ⟨rfl, hS.gr, ?_⟩
            have hF := hS.row
            rw [plL_ext (stR_fin (z := (-(p1 : Int))) (p1 := p1) (p := p) (A1 := N2) (A2 := A2) (by omega) (by omega) HEN.out (fun j hj => by omega) HER.out (fun j hj => by simp only [updP]; (repeat' split) <;> first | rfl | omega))] at hF
            exact hF
          · have h9i : ¬ (p1 : Int) < (m : Int) := by omega
            go_wp2
            go_end0
            refine ⟨rfl, hS.gr, ?_⟩
            have hF := hS.row
            rw [plL_ext (stR_fin (z := (-(p1 : Int))) (p1 := p1) (p := p) (A1 := N2) (A2 := A2) (by omega) (by omega) HEN.out (fun j hj => by omega) HER.out (fun j hj => by simp only [updP]; (repeat' split) <;> first | rfl | omega))] at hF
            exact hF
    
end Go.Proofs.Ytikakoclmmmjdaa
