/- Burau's matrix of a letter behind a row, by the program. Conditions: as each theorem says. -/
import Derived.Test.YtikakoclmmmjdaaOk
import Derived.Deep.Cut
import Derived.Deep.CutRange
import Derived.Deep.RegionWith
namespace Go.Proofs.Ytikakoclmmmjdaa
open Go.RowKit
set_option linter.unusedSimpArgs false
set_option linter.unusedVariables false
open Go.RowKit
theorem stB_fin {z : Int} {f : Nat → Int → Int} {m p p1 : Nat} (hz : z.natAbs = p1) (hp : p + 1 = p1) {A1 A2 : Pol} {fs : Nat → Pol} (h1 : nf 57896044618658097711785492504343953926634992332820282019728792003956564819968 (if 0 < z then adF (adF (f p) (ngF (shF 1 (f p)))) (f p1) else shF (-1) (f p1)) = A1) (h2 : nf 57896044618658097711785492504343953926634992332820282019728792003956564819968 (if 0 < z then shF 1 (f p) else adF (adF (f p) (f p1)) (ngF (shF (-1) (f p1)))) = A2)
    (hfs : ∀ j, j < m → fs j = if j = p1 then A2 else if j = p then A1 else nf 57896044618658097711785492504343953926634992332820282019728792003956564819968 (f j)) : ∀ j, j < m → fs j = nf 57896044618658097711785492504343953926634992332820282019728792003956564819968 (stB z f j) := fun j hj => by
  rw [hfs j hj]
  unfold stB
  rw [hz]
  by_cases h3 : j = p1
  · rw [if_pos h3, if_neg (by omega), if_pos h3, ← h2, h3, show p1 - 1 = p by omega]
  · rw [if_neg h3]
    by_cases h4 : j = p
    · rw [if_pos h4, if_pos (by omega), ← h1, h4, hp]
    · rw [if_neg h4, if_neg (by omega), if_neg h3]
theorem setRow_grown (Y : World) (b : Nat) (c : Array Value) : Y.grownBy (Y.setRow b c) (some b) := ⟨rfl, rfl, rfl, by simp, fun k _ hk => setRow_other _ _ k _ (fun e => hk (by rw [e]))⟩
theorem shift_pure {f : Int → Int} {A : Nat} {s : Int} {a : Option Addr} {c : Nat} (k1 : isNf 57896044618658097711785492504343953926634992332820282019728792003956564819968 A f (nf 57896044618658097711785492504343953926634992332820282019728792003956564819968 f)) (hA : A ≤ 2400) (hM : sup (shF s f) (A + 1)) (h1 : -1 ≤ s) (h2 : s ≤ 1) (w : World) : Calls Try.prog 52 #[.agg #[.int .i64 (nf 57896044618658097711785492504343953926634992332820282019728792003956564819968 f).1, .slice a (nf 57896044618658097711785492504343953926634992332820282019728792003956564819968 f).2.length c], .int .i64 s] w fun e w' => e = .returned (.agg #[.int .i64 (nf 57896044618658097711785492504343953926634992332820282019728792003956564819968 (shF s f)).1, .slice a (nf 57896044618658097711785492504343953926634992332820282019728792003956564819968 f).2.length c]) ∧ Below w.heap.size w w' := by
  have p1 := k1.lo
  have p3 := k1.ab
  have hl := k1.len
  rw [shift_fin k1 hM h1 h2]
  exact shift_any (nf 57896044618658097711785492504343953926634992332820282019728792003956564819968 f).1 a (nf 57896044618658097711785492504343953926634992332820282019728792003956564819968 f).2.length c s w (by omega) (by omega) (by omega)
set_option maxRecDepth 20000 in
set_option maxHeartbeats 8000000 in
theorem stepBurau_any (B kb ck m : Nat) (z : Int) (f : Nat → Int → Int) (A : Nat) (w : World) (h : rowG 57 (Cw 78) w B (.slice (some ⟨kb, 0, none⟩) m ck) (plL m (fun j => nf 57896044618658097711785492504343953926634992332820282019728792003956564819968 (f j)))) (hf : supR m A f) (hA : A ≤ 2000) (hm : m ≤ 8) (hz0 : z ≠ 0) (hz1 : z.natAbs + 1 ≤ m) : Calls Try.prog 28 #[.slice (some ⟨kb, 0, none⟩) m ck, .int .i64 z] w fun e w' => e = .returned (.tuple #[]) ∧ w.grownBy w' (some kb) ∧ rowG 57 (Cw 78) w' B (.slice (some ⟨kb, 0, none⟩) m ck) (plL m (fun j => nf 57896044618658097711785492504343953926634992332820282019728792003956564819968 (stB z f j))) := by
  by_cases hz : 0 < z
  · obtain ⟨p1, rfl⟩ : ∃ p1 : Nat, z = p1 := ⟨z.natAbs, by omega⟩
    obtain ⟨p, hpa, hpb⟩ : ∃ p, p < p1 ∧ p1 ≤ p + 1 := ⟨p1 - 1, by omega, by omega⟩
    have hpm : (p1 : Int) - 1 = p := by omega
    have hpl : p < m := by omega
    have hpl1 : p1 < m := by omega
    have hab : (((p1 : Int).natAbs : Nat) : Int) = p1 := by omega
    have hpw : IntKind.i64.wrap (p : Int) = (p : Int) := by rw [IntKind.wrap_i64]; omega
    have hpw1 : IntKind.i64.wrap (p1 : Int) = (p1 : Int) := by rw [IntKind.wrap_i64]; omega
    have hpi : (p : Int) < (m : Int) := by omega
    have hpi1 : (p1 : Int) < (m : Int) := by omega
    have hzn : 0 < (p1 : Int) := by omega
    clear hz0 hz1
    obtain ⟨g, c0, sv, hv, hgB, hgl, g1, g2, g3⟩ := h.at (i := p) (by rw [plL_length]; exact hpl)
    rw [plL_length] at hv
    cases hv
    obtain ⟨g, c1, sv1, hv, _, _, k1, k2, k3⟩ := h.at (i := p1) (by rw [plL_length]; exact hpl1)
    rw [plL_length] at hv
    cases hv
    rw [pAt_plL hpl] at g1 g3
    rw [pAt_plL hpl1] at k1 k3
    obtain ⟨a0, c0, rfl⟩ := rdW_form g3
    obtain ⟨a1, c1, rfl⟩ := rdW_form k3
    obtain ⟨P0, hP0⟩ : ∃ P, nf 57896044618658097711785492504343953926634992332820282019728792003956564819968 (f p) = P := ⟨_, rfl⟩
    obtain ⟨Q0, hQ0⟩ : ∃ P, nf 57896044618658097711785492504343953926634992332820282019728792003956564819968 (f p1) = P := ⟨_, rfl⟩
    have n0 := nf_is (h := 57896044618658097711785492504343953926634992332820282019728792003956564819968) (by decide) (hf p hpl)
    have m0 := nf_is (h := 57896044618658097711785492504343953926634992332820282019728792003956564819968) (by decide) (hf p1 hpl1)
    obtain ⟨S1, hS1⟩ : ∃ P, nf 57896044618658097711785492504343953926634992332820282019728792003956564819968 (shF 1 (f p)) = P := ⟨_, rfl⟩
    obtain ⟨N1, hN1⟩ : ∃ P, nf 57896044618658097711785492504343953926634992332820282019728792003956564819968 (ngF (shF 1 (f p))) = P := ⟨_, rfl⟩
    obtain ⟨U1, hU1⟩ : ∃ P, nf 57896044618658097711785492504343953926634992332820282019728792003956564819968 (adF (f p) (ngF (shF 1 (f p)))) = P := ⟨_, rfl⟩
    obtain ⟨V1, hV1⟩ : ∃ P, nf 57896044618658097711785492504343953926634992332820282019728792003956564819968 (adF (adF (f p) (ngF (shF 1 (f p)))) (f p1)) = P := ⟨_, rfl⟩
    have n1 := sup_shF (hf p hpl) (s := 1) (by decide) (by decide)
    have n2 := nf_is (h := 57896044618658097711785492504343953926634992332820282019728792003956564819968) (by decide) n1
    have n3 := sup_ngF n1
    have n4 := nf_is (h := 57896044618658097711785492504343953926634992332820282019728792003956564819968) (by decide) n3
    have n5 := sup_adF (sup_le (hf p hpl) (Nat.le_succ A)) n3
    have n6 := nf_is (h := 57896044618658097711785492504343953926634992332820282019728792003956564819968) (by decide) n5
    have HE2 := Lib.hid (show S1.2 = P0.2 by
      have e := congrArg Prod.snd (shift_fin n0 n1 (by decide) (by decide))
      rw [hS1] at e
      rw [← hP0]; exact e)
    have HSH := Lib.hid (fun a c w' => shift_pure (a := a) (c := c) (s := 1) n0 (by omega) n1 (by decide) (by decide) w')
    have HNG := Lib.hid (fun w' v (hv : rdW 78 w' v S1.2) => (show Calls Try.prog 53 #[.agg #[.int .i64 S1.1, v]] w' (RetQ w' N1) from by
      rw [← hN1]; exact negative_nf S1.1 v S1.2 (shF 1 (f p)) (A + 1) w' hv (by rw [← hS1]; exact n2) (by omega) n3))
    have HU := Lib.hid (fun w' v1 v2 (h1 : rdW 78 w' v1 P0.2) (h2 : rdW 78 w' v2 N1.2) => (show Calls Try.prog 37 #[.agg #[.int .i64 P0.1, v1], .agg #[.int .i64 N1.1, v2]] w' (RetQ w' U1) from by
      rw [← hU1]; exact add_nf P0.1 v1 P0.2 N1.1 v2 N1.2 (f p) (ngF (shF 1 (f p))) (A + 1) w' h1 h2 (by rw [← hP0]; exact n0.mono (by omega)) (by rw [← hN1]; exact n4) (by omega) n5))
    have HV := Lib.hid (fun w' v1 v2 (h1 : rdW 78 w' v1 U1.2) (h2 : rdW 78 w' v2 Q0.2) => (show Calls Try.prog 37 #[.agg #[.int .i64 U1.1, v1], .agg #[.int .i64 Q0.1, v2]] w' (RetQ w' V1) from by
      rw [← hV1]; exact add_nf U1.1 v1 U1.2 Q0.1 v2 Q0.2 (adF (f p) (ngF (shF 1 (f p)))) (f p1) (A + 1) w' h1 h2 (by rw [← hU1]; exact n6) (by rw [← hQ0]; exact m0.mono (by omega)) (by omega) (sup_adF n5 (sup_le (hf p1 hpl1) (Nat.le_succ A)))))
    have H1 := Lib.hid (show nf 57896044618658097711785492504343953926634992332820282019728792003956564819968 (if 0 < (p1 : Int) then adF (adF (f p) (ngF (shF 1 (f p)))) (f p1) else shF (-1) (f p1)) = V1 by rw [if_pos hz]; exact hV1)
    have H2 := Lib.hid (show nf 57896044618658097711785492504343953926634992332820282019728792003956564819968 (if 0 < (p1 : Int) then shF 1 (f p) else adF (adF (f p) (f p1)) (ngF (shF (-1) (f p1)))) = S1 by rw [if_pos hz]; exact hS1)
    rw [hP0, hS1] at HSH
    simp only [hP0] at g1 g2 g3
    simp only [hQ0] at k1 k2 k3
    clear n0 m0 n1 n2 n3 n4 n5 n6 hN1 hU1 hV1
    go_enter Try.func28, Try.ntmps28
    go_upto_region 1 with ((go_at_call 51; refine (sizeZ_any _ _ (by omega) (by omega)).mono ?_; rw [hab]; rintro e w' ⟨rfl, rfl⟩))
    go_cut [5, 6] from 9 to 17 (fun s5 s6 wc => ∃ b5 b6, s5 = .pointer (some ⟨b5, 0, none⟩) ∧ s6 = .pointer (some ⟨b6, 0, none⟩) ∧ RSt 57 78 w B kb ck m b5 b6 wc P0 Q0 (fun j => nf 57896044618658097711785492504343953926634992332820282019728792003956564819968 (f j)))
    case first =>
      refine wp_plus0 ?_
      refine region_ghostWT (W := w) [9, 10, 11, 12] (by kernel_rfl) (by kernel_rfl) (by kernel_rfl) ?_
      repeat (refine wpPlain_step (fun K hK => ?_); go_simp; first | (refine hK _ ?_; clear hK K) | (apply Exists.intro; refine ⟨fun _ => ?_, hK _ ?_⟩; (fail); clear hK K))
      refine wpPlain_nil ?_
      intro j1 d1
      rw [plus_plus, List.nil_append]
      refine gtree_step [9, 10] (by kernel_rfl) (gtree_all2 ⟨_, rfl, ?_⟩ ⟨_, rfl, ?_⟩)
      · go_wp2
        refine gExit_normal ⟨.inr (later_of_below (by (repeat (first | (with_reducible exact Below.refl _ _) | (with_reducible assumption) | (with_reducible refine below_plus' ?_ ?_; ((try simp only [plus_size, World.size_alloc, World.size_drew, World.size_setCell, size_setRow, World.heap_drewN, List.length_append]) <;> omega)) | (with_reducible refine below_alloc' ?_ ?_; ((try simp only [plus_size, World.size_alloc, World.size_drew, World.size_setCell, size_setRow, World.heap_drewN, List.length_append]) <;> omega)) | with_reducible refine Below.drew ?_ | (with_reducible refine below_drewN' ?_ _) | exact Below.refl _ _)))), fun j2 d2 => ?_⟩
        refine gtree_step [10] (by kernel_rfl) (gtree_all1 ⟨_, rfl, ?_⟩)
        go_wp2
        refine gExit_normal ⟨.inr (later_of_below (by (repeat (first | (with_reducible exact Below.refl _ _) | (with_reducible assumption) | (with_reducible refine below_plus' ?_ ?_; ((try simp only [plus_size, World.size_alloc, World.size_drew, World.size_setCell, size_setRow, World.heap_drewN, List.length_append]) <;> omega)) | (with_reducible refine below_alloc' ?_ ?_; ((try simp only [plus_size, World.size_alloc, World.size_drew, World.size_setCell, size_setRow, World.heap_drewN, List.length_append]) <;> omega)) | with_reducible refine Below.drew ?_ | (with_reducible refine below_drewN' ?_ _) | exact Below.refl _ _)))), fun j3 d3 => ?_⟩
        refine gtree_step [11] (by kernel_rfl) (gtree_all1 ⟨_, rfl, ?_⟩)
        go_wp2
        refine gExit_normal ⟨.inr (later_of_below (by (repeat (first | (with_reducible exact Below.refl _ _) | (with_reducible assumption) | (with_reducible refine below_plus' ?_ ?_; ((try simp only [plus_size, World.size_alloc, World.size_drew, World.size_setCell, size_setRow, World.heap_drewN, List.length_append]) <;> omega)) | (with_reducible refine below_alloc' ?_ ?_; ((try simp only [plus_size, World.size_alloc, World.size_drew, World.size_setCell, size_setRow, World.heap_drewN, List.length_append]) <;> omega)) | with_reducible refine Below.drew ?_ | (with_reducible refine below_drewN' ?_ _) | exact Below.refl _ _)))), fun j4 d4 => ?_⟩
        refine gtree_step [12] (by kernel_rfl) (gtree_all1 ⟨_, rfl, ?_⟩)
        go_wp2
        refine gExit_normal ⟨.inl (by kernel_rfl), fun j5 d5 => ?_⟩
        refine gtree_nil ?_
        go_wp2
        go_meet
        case rel =>
          exact ⟨_, _, rfl, rfl, rst_start (by decide) h (by (repeat (first | (with_reducible exact Below.refl _ _) | (with_reducible assumption) | (with_reducible refine below_plus' ?_ ?_; ((try simp only [plus_size, World.size_alloc, World.size_drew, World.size_setCell, size_setRow, World.heap_drewN, List.length_append]) <;> omega)) | (with_reducible refine below_alloc' ?_ ?_; ((try simp only [plus_size, World.size_alloc, World.size_drew, World.size_setCell, size_setRow, World.heap_drewN, List.length_append]) <;> omega)) | with_reducible refine Below.drew ?_ | (with_reducible refine below_drewN' ?_ _) | exact Below.refl _ _))) (by ((try simp only [plus_size, World.size_alloc, World.size_drew, World.size_setCell, size_setRow, World.heap_drewN, List.length_append]) <;> omega)) (by ((try simp only [plus_size, World.size_alloc, World.size_drew, World.size_setCell, size_setRow, World.heap_drewN, List.length_append]) <;> omega)) (by ((try simp only [plus_size, World.size_alloc, World.size_drew, World.size_setCell, size_setRow, World.heap_drewN, List.length_append]) <;> omega)) ⟨a0, c0, by (repeat (first | (refine heap_at _ _ _ ?_; ((try simp only [plus_size, World.size_alloc, World.size_drew, World.size_setCell, size_setRow, World.heap_drewN, List.length_append]) <;> omega)) | (refine heap_past' ?_ ?_; ((try simp only [plus_size, World.size_alloc, World.size_drew, World.size_setCell, size_setRow, World.heap_drewN, List.length_append]) <;> omega)) | (refine heap_plus' ?_ ?_; ((try simp only [plus_size, World.size_alloc, World.size_drew, World.size_setCell, size_setRow, World.heap_drewN, List.length_append]) <;> omega)) | assumption)), g3.kept (by (repeat (first | (with_reducible exact Below.refl _ _) | (with_reducible assumption) | (with_reducible refine below_plus' ?_ ?_; ((try simp only [plus_size, World.size_alloc, World.size_drew, World.size_setCell, size_setRow, World.heap_drewN, List.length_append]) <;> omega)) | (with_reducible refine below_alloc' ?_ ?_; ((try simp only [plus_size, World.size_alloc, World.size_drew, World.size_setCell, size_setRow, World.heap_drewN, List.length_append]) <;> omega)) | with_reducible refine Below.drew ?_ | (with_reducible refine below_drewN' ?_ _) | exact Below.refl _ _)))⟩ ⟨a1, c1, by (repeat (first | (refine heap_at _ _ _ ?_; ((try simp only [plus_size, World.size_alloc, World.size_drew, World.size_setCell, size_setRow, World.heap_drewN, List.length_append]) <;> omega)) | (refine heap_past' ?_ ?_; ((try simp only [plus_size, World.size_alloc, World.size_drew, World.size_setCell, size_setRow, World.heap_drewN, List.length_append]) <;> omega)) | (refine heap_plus' ?_ ?_; ((try simp only [plus_size, World.size_alloc, World.size_drew, World.size_setCell, size_setRow, World.heap_drewN, List.length_append]) <;> omega)) | assumption)), k3.kept (by (repeat (first | (with_reducible exact Below.refl _ _) | (with_reducible assumption) | (with_reducible refine below_plus' ?_ ?_; ((try simp only [plus_size, World.size_alloc, World.size_drew, World.size_setCell, size_setRow, World.heap_drewN, List.length_append]) <;> omega)) | (with_reducible refine below_alloc' ?_ ?_; ((try simp only [plus_size, World.size_alloc, World.size_drew, World.size_setCell, size_setRow, World.heap_drewN, List.length_append]) <;> omega)) | with_reducible refine Below.drew ?_ | (with_reducible refine below_drewN' ?_ _) | exact Below.refl _ _)))⟩⟩
      · go_wp2
        refine gExit_normal ⟨.inr (later_of_below (by (repeat (first | (with_reducible exact Below.refl _ _) | (with_reducible assumption) | (with_reducible refine below_plus' ?_ ?_; ((try simp only [plus_size, World.size_alloc, World.size_drew, World.size_setCell, size_setRow, World.heap_drewN, List.length_append]) <;> omega)) | (with_reducible refine below_alloc' ?_ ?_; ((try simp only [plus_size, World.size_alloc, World.size_drew, World.size_setCell, size_setRow, World.heap_drewN, List.length_append]) <;> omega)) | with_reducible refine Below.drew ?_ | (with_reducible refine below_drewN' ?_ _) | exact Below.refl _ _)))), fun j2 d2 => ?_⟩
        refine gtree_step [9] (by kernel_rfl) (gtree_all1 ⟨_, rfl, ?_⟩)
        go_wp2
        refine gExit_normal ⟨.inr (later_of_below (by (repeat (first | (with_reducible exact Below.refl _ _) | (with_reducible assumption) | (with_reducible refine below_plus' ?_ ?_; ((try simp only [plus_size, World.size_alloc, World.size_drew, World.size_setCell, size_setRow, World.heap_drewN, List.length_append]) <;> omega)) | (with_reducible refine below_alloc' ?_ ?_; ((try simp only [plus_size, World.size_alloc, World.size_drew, World.size_setCell, size_setRow, World.heap_drewN, List.length_append]) <;> omega)) | with_reducible refine Below.drew ?_ | (with_reducible refine below_drewN' ?_ _) | exact Below.refl _ _)))), fun j3 d3 => ?_⟩
        refine gtree_step [11] (by kernel_rfl) (gtree_all1 ⟨_, rfl, ?_⟩)
        go_wp2
        refine gExit_normal ⟨.inr (later_of_below (by (repeat (first | (with_reducible exact Below.refl _ _) | (with_reducible assumption) | (with_reducible refine below_plus' ?_ ?_; ((try simp only [plus_size, World.size_alloc, World.size_drew, World.size_setCell, size_setRow, World.heap_drewN, List.length_append]) <;> omega)) | (with_reducible refine below_alloc' ?_ ?_; ((try simp only [plus_size, World.size_alloc, World.size_drew, World.size_setCell, size_setRow, World.heap_drewN, List.length_append]) <;> omega)) | with_reducible refine Below.drew ?_ | (with_reducible refine below_drewN' ?_ _) | exact Below.refl _ _)))), fun j4 d4 => ?_⟩
        refine gtree_step [12] (by kernel_rfl) (gtree_all1 ⟨_, rfl, ?_⟩)
        go_wp2
        refine gExit_normal ⟨.inl (by kernel_rfl), fun j5 d5 => ?_⟩
        refine gtree_nil ?_
        go_wp2
        go_meet
        case rel =>
          exact ⟨_, _, rfl, rfl, rst_start (by decide) h (by (repeat (first | (with_reducible exact Below.refl _ _) | (with_reducible assumption) | (with_reducible refine below_plus' ?_ ?_; ((try simp only [plus_size, World.size_alloc, World.size_drew, World.size_setCell, size_setRow, World.heap_drewN, List.length_append]) <;> omega)) | (with_reducible refine below_alloc' ?_ ?_; ((try simp only [plus_size, World.size_alloc, World.size_drew, World.size_setCell, size_setRow, World.heap_drewN, List.length_append]) <;> omega)) | with_reducible refine Below.drew ?_ | (with_reducible refine below_drewN' ?_ _) | exact Below.refl _ _))) (by ((try simp only [plus_size, World.size_alloc, World.size_drew, World.size_setCell, size_setRow, World.heap_drewN, List.length_append]) <;> omega)) (by ((try simp only [plus_size, World.size_alloc, World.size_drew, World.size_setCell, size_setRow, World.heap_drewN, List.length_append]) <;> omega)) (by ((try simp only [plus_size, World.size_alloc, World.size_drew, World.size_setCell, size_setRow, World.heap_drewN, List.length_append]) <;> omega)) ⟨a0, c0, by (repeat (first | (refine heap_at _ _ _ ?_; ((try simp only [plus_size, World.size_alloc, World.size_drew, World.size_setCell, size_setRow, World.heap_drewN, List.length_append]) <;> omega)) | (refine heap_past' ?_ ?_; ((try simp only [plus_size, World.size_alloc, World.size_drew, World.size_setCell, size_setRow, World.heap_drewN, List.length_append]) <;> omega)) | (refine heap_plus' ?_ ?_; ((try simp only [plus_size, World.size_alloc, World.size_drew, World.size_setCell, size_setRow, World.heap_drewN, List.length_append]) <;> omega)) | assumption)), g3.kept (by (repeat (first | (with_reducible exact Below.refl _ _) | (with_reducible assumption) | (with_reducible refine below_plus' ?_ ?_; ((try simp only [plus_size, World.size_alloc, World.size_drew, World.size_setCell, size_setRow, World.heap_drewN, List.length_append]) <;> omega)) | (with_reducible refine below_alloc' ?_ ?_; ((try simp only [plus_size, World.size_alloc, World.size_drew, World.size_setCell, size_setRow, World.heap_drewN, List.length_append]) <;> omega)) | with_reducible refine Below.drew ?_ | (with_reducible refine below_drewN' ?_ _) | exact Below.refl _ _)))⟩ ⟨a1, c1, by (repeat (first | (refine heap_at _ _ _ ?_; ((try simp only [plus_size, World.size_alloc, World.size_drew, World.size_setCell, size_setRow, World.heap_drewN, List.length_append]) <;> omega)) | (refine heap_past' ?_ ?_; ((try simp only [plus_size, World.size_alloc, World.size_drew, World.size_setCell, size_setRow, World.heap_drewN, List.length_append]) <;> omega)) | (refine heap_plus' ?_ ?_; ((try simp only [plus_size, World.size_alloc, World.size_drew, World.size_setCell, size_setRow, World.heap_drewN, List.length_append]) <;> omega)) | assumption)), k3.kept (by (repeat (first | (with_reducible exact Below.refl _ _) | (with_reducible assumption) | (with_reducible refine below_plus' ?_ ?_; ((try simp only [plus_size, World.size_alloc, World.size_drew, World.size_setCell, size_setRow, World.heap_drewN, List.length_append]) <;> omega)) | (with_reducible refine below_alloc' ?_ ?_; ((try simp only [plus_size, World.size_alloc, World.size_drew, World.size_setCell, size_setRow, World.heap_drewN, List.length_append]) <;> omega)) | with_reducible refine Below.drew ?_ | (with_reducible refine below_drewN' ?_ _) | exact Below.refl _ _)))⟩⟩
    case rest =>
      obtain ⟨b5, b6, rfl, rfl, hS⟩ := hcut
      obtain ⟨hl5, a5, c5, p50, p51, hr5, hb5⟩ := hS.x5.cells
      obtain ⟨hl6, a6, c6, p60, p61, hr6, hb6⟩ := hS.x6.cells
      clear g1 g2 g3 k1 k2 k3 h hl5 p50 p51 hl6 p60 p61
      go_upto_region 3 with (fail)
      refine region_ghostC (fun X => X.heap[b5]? = some (.cells #[.int .i64 P0.1, .slice a5 P0.2.length c5] 57) ∧ X.heap[b6]? = some (.cells #[.int .i64 Q0.1, .slice a6 Q0.2.length c6] 57)) (fun X Y hX hb => ⟨(hb.block _ (heap_lt hX.1)).trans hX.1, (hb.block _ (heap_lt hX.2)).trans hX.2⟩) ⟨hb5, hb6⟩ [8, 9, 11, 15, 17] (by kernel_rfl) (by kernel_rfl) (by kernel_rfl) ?_
      repeat (refine wpPlain_step (fun K hK => ?_); go_simp; first | (refine hK _ ?_; clear hK K) | (refine ⟨_, fun _ _ _ => rfl, hK _ ?_⟩; clear hK K) | (apply Exists.intro; refine ⟨fun w9 h95 h96 => ?_, hK _ ?_⟩; (have hC9 := And.intro h95 h96; clear h95 h96; first | (have p50 : w9.cell? ⟨b5, 0, none⟩ = some (.int .i64 P0.1) := cell_of (i := 0) hC9.1; have p51 : w9.cell? ⟨b5, 1, none⟩ = some (.slice a5 P0.2.length c5) := cell_of (i := 1) hC9.1; have p60 : w9.cell? ⟨b6, 0, none⟩ = some (.int .i64 Q0.1) := cell_of (i := 0) hC9.2; have p61 : w9.cell? ⟨b6, 1, none⟩ = some (.slice a6 Q0.2.length c6) := cell_of (i := 1) hC9.2; have hl5 := heap_lt hC9.1; have hl6 := heap_lt hC9.2; go_simp; first | done | exact rfl) | (go_at_call 52; (with_reducible refine Calls.mono (HSH.out _ _ _) ?_); rintro e w'' ⟨he, hB⟩; exact ⟨he, hB⟩)); clear hK K))
      refine wpPlain_nil ?_
      intro j d
      obtain ⟨y0, hy0⟩ : ∃ y, y = wc := ⟨_, rfl⟩
      have hbx : Below wc.heap.size wc (plus wc j d) := (by (repeat (first | (with_reducible exact Below.refl _ _) | (with_reducible assumption) | (with_reducible refine below_plus' ?_ ?_; ((try simp only [plus_size, World.size_alloc, World.size_drew, World.size_setCell, size_setRow, World.heap_drewN, List.length_append]) <;> omega)) | (with_reducible refine below_alloc' ?_ ?_; ((try simp only [plus_size, World.size_alloc, World.size_drew, World.size_setCell, size_setRow, World.heap_drewN, List.length_append]) <;> omega)) | with_reducible refine Below.drew ?_ | (with_reducible refine below_drewN' ?_ _) | exact Below.refl _ _)))
      replace hS := hS.below hbx
      replace hb5 := (hbx.block _ (heap_lt hb5)).trans hb5
      replace hb6 := (hbx.block _ (heap_lt hb6)).trans hb6
      replace hr5 := hr5.kept hbx
      replace hr6 := hr6.kept hbx
      clear hbx
      generalize plus wc j d = y1 at hS hb5 hb6 hr5 hr6  ⊢
      refine gchain_cons _ rfl ?_
      go_wp2_with (first | (go_at_call 53; (with_reducible refine Calls.mono (HNG.out _ _ (by rw [HE2.out]; exact hr5)) ?_); intro e y1' hh; obtain ⟨aN, cN, rfl, hB2, hrN⟩ := retQ_form hh; clear hh))
      replace hS := hS.below hB2
      replace hb5 := (hB2.block _ (heap_lt hb5)).trans hb5
      replace hb6 := (hB2.block _ (heap_lt hb6)).trans hb6
      replace hr5 := hr5.kept hB2
      replace hr6 := hr6.kept hB2
      clear hB2
      refine gExit_normal ⟨.inr ⟨hb5, hb6⟩, fun j d => ?_⟩
      have hbx : Below y1'.heap.size y1' (plus y1' j d) := (by (repeat (first | (with_reducible exact Below.refl _ _) | (with_reducible assumption) | (with_reducible refine below_plus' ?_ ?_; ((try simp only [plus_size, World.size_alloc, World.size_drew, World.size_setCell, size_setRow, World.heap_drewN, List.length_append]) <;> omega)) | (with_reducible refine below_alloc' ?_ ?_; ((try simp only [plus_size, World.size_alloc, World.size_drew, World.size_setCell, size_setRow, World.heap_drewN, List.length_append]) <;> omega)) | with_reducible refine Below.drew ?_ | (with_reducible refine below_drewN' ?_ _) | exact Below.refl _ _)))
      replace hS := hS.below hbx
      replace hb5 := (hbx.block _ (heap_lt hb5)).trans hb5
      replace hb6 := (hbx.block _ (heap_lt hb6)).trans hb6
      replace hr5 := hr5.kept hbx
      replace hr6 := hr6.kept hbx
      replace hrN := hrN.kept hbx
      clear hbx
      generalize plus y1' j d = y2 at hS hb5 hb6 hr5 hr6 hrN ⊢
      refine gchain_cons _ rfl ?_
      go_wp2_with (first | (go_at_call 37; (with_reducible refine Calls.mono (HU.out _ _ _ hr5 hrN) ?_); intro e y2' hh; obtain ⟨aU, cU, rfl, hB2, hrU⟩ := retQ_form hh; clear hh))
      replace hS := hS.below hB2
      replace hb5 := (hB2.block _ (heap_lt hb5)).trans hb5
      replace hb6 := (hB2.block _ (heap_lt hb6)).trans hb6
      replace hr5 := hr5.kept hB2
      replace hr6 := hr6.kept hB2
      clear hB2
      refine gExit_normal ⟨.inr ⟨hb5, hb6⟩, fun j d => ?_⟩
      have hbx : Below y2'.heap.size y2' (plus y2' j d) := (by (repeat (first | (with_reducible exact Below.refl _ _) | (with_reducible assumption) | (with_reducible refine below_plus' ?_ ?_; ((try simp only [plus_size, World.size_alloc, World.size_drew, World.size_setCell, size_setRow, World.heap_drewN, List.length_append]) <;> omega)) | (with_reducible refine below_alloc' ?_ ?_; ((try simp only [plus_size, World.size_alloc, World.size_drew, World.size_setCell, size_setRow, World.heap_drewN, List.length_append]) <;> omega)) | with_reducible refine Below.drew ?_ | (with_reducible refine below_drewN' ?_ _) | exact Below.refl _ _)))
      replace hS := hS.below hbx
      replace hb5 := (hbx.block _ (heap_lt hb5)).trans hb5
      replace hb6 := (hbx.block _ (heap_lt hb6)).trans hb6
      replace hr5 := hr5.kept hbx
      replace hr6 := hr6.kept hbx
      replace hrU := hrU.kept hbx
      clear hbx
      generalize plus y2' j d = y3 at hS hb5 hb6 hr5 hr6 hrU ⊢
      refine gchain_cons _ rfl ?_
      go_wp2_with (first | (go_at_call 37; (with_reducible refine Calls.mono (HV.out _ _ _ hrU hr6) ?_); intro e y3' hh; obtain ⟨aV, cV, rfl, hB2, hrV⟩ := retQ_form hh; clear hh))
      replace hS := hS.below hB2
      replace hb5 := (hB2.block _ (heap_lt hb5)).trans hb5
      replace hb6 := (hB2.block _ (heap_lt hb6)).trans hb6
      replace hr5 := hr5.kept hB2
      replace hr6 := hr6.kept hB2
      clear hB2
      refine gExit_normal ⟨.inr ⟨hb5, hb6⟩, fun j d => ?_⟩
      have hbx : Below y3'.heap.size y3' (plus y3' j d) := (by (repeat (first | (with_reducible exact Below.refl _ _) | (with_reducible assumption) | (with_reducible refine below_plus' ?_ ?_; ((try simp only [plus_size, World.size_alloc, World.size_drew, World.size_setCell, size_setRow, World.heap_drewN, List.length_append]) <;> omega)) | (with_reducible refine below_alloc' ?_ ?_; ((try simp only [plus_size, World.size_alloc, World.size_drew, World.size_setCell, size_setRow, World.heap_drewN, List.length_append]) <;> omega)) | with_reducible refine Below.drew ?_ | (with_reducible refine below_drewN' ?_ _) | exact Below.refl _ _)))
      replace hS := hS.below hbx
      replace hb5 := (hbx.block _ (heap_lt hb5)).trans hb5
      replace hb6 := (hbx.block _ (heap_lt hb6)).trans hb6
      replace hr5 := hr5.kept hbx
      replace hr6 := hr6.kept hbx
      replace hrV := hrV.kept hbx
      clear hbx
      generalize plus y3' j d = y4 at hS hb5 hb6 hr5 hr6 hrV ⊢
      obtain ⟨cur9, hcur, hsz, hS1⟩ := hS.putP (Below.refl _ _) (t := p) (by omega) (P := V1) (sv := .slice aV V1.2.length cV) hrV
      have hg9 := setRow_grown y4 kb (putA cur9 (p * 2) #[.int .i64 V1.1, .slice aV V1.2.length cV])
      have h59 := (hg9.block b5 (heap_lt hb5) (fun e => hS.n5 (by cases e; rfl))).trans hb5
      have h69 := (hg9.block b6 (heap_lt hb6) (fun e => hS.n6 (by cases e; rfl))).trans hb6
      have r59 := rdW.block (e := 78) (by decide) hcur hg9 hr5
      clear hg9 hS hb5 hb6 hr5 hr6
      refine gchain_cons _ rfl ?_
      go_wp2_with ((with_reducible apply wpList_store_sub rfl rfl 57 _ _ rfl (kb) (p * 2) rfl _ rfl cur9 57); (exact hcur); (exact infoPt2); (exact hsz); (exact pol_one _ _ _ _); revert hS1 h59 h69 r59; generalize (World.setRow _ _ _) = w3; intro hS hb5 hb6 hr9; clear hcur hsz)
      refine gExit_normal ⟨.inr ⟨hb5, hb6⟩, fun j d => ?_⟩
      have hbx : Below w3.heap.size w3 (plus w3 j d) := (by (repeat (first | (with_reducible exact Below.refl _ _) | (with_reducible assumption) | (with_reducible refine below_plus' ?_ ?_; ((try simp only [plus_size, World.size_alloc, World.size_drew, World.size_setCell, size_setRow, World.heap_drewN, List.length_append]) <;> omega)) | (with_reducible refine below_alloc' ?_ ?_; ((try simp only [plus_size, World.size_alloc, World.size_drew, World.size_setCell, size_setRow, World.heap_drewN, List.length_append]) <;> omega)) | with_reducible refine Below.drew ?_ | (with_reducible refine below_drewN' ?_ _) | exact Below.refl _ _)))
      replace hS := hS.below hbx
      replace hr9 := hr9.kept hbx
      clear hbx hb5 hb6
      generalize plus w3 j d = y5 at hS hr9 ⊢
      obtain ⟨cur9, hcur, hsz, hS1⟩ := hS.putP (Below.refl _ _) (t := p1) (by omega) (P := S1) (sv := .slice a5 P0.2.length c5) (by rw [HE2.out]; exact hr9)
      clear hS
      refine gchain_cons _ rfl ?_
      go_wp2_with ((with_reducible apply wpList_store_sub rfl rfl 57 _ _ rfl (kb) (p1 * 2) rfl _ rfl cur9 57); (exact hcur); (exact infoPt2); (exact hsz); (exact pol_one _ _ _ _); revert hS1; generalize (World.setRow _ _ _) = w4; intro hS; clear hcur hsz)
      refine gExit_normal ⟨.inl (by kernel_rfl), fun j d => ?_⟩
      replace hS := hS.below (show Below w4.heap.size w4 (plus w4 j d) by (repeat (first | (with_reducible exact Below.refl _ _) | (with_reducible assumption) | (with_reducible refine below_plus' ?_ ?_; ((try simp only [plus_size, World.size_alloc, World.size_drew, World.size_setCell, size_setRow, World.heap_drewN, List.length_append]) <;> omega)) | (with_reducible refine below_alloc' ?_ ?_; ((try simp only [plus_size, World.size_alloc, World.size_drew, World.size_setCell, size_setRow, World.heap_drewN, List.length_append]) <;> omega)) | with_reducible refine Below.drew ?_ | (with_reducible refine below_drewN' ?_ _) | exact Below.refl _ _)))
      refine gchain_nil ?_
      generalize plus w4 j d = y6 at hS ⊢
      go_wp2
      go_end0
      refine ⟨rfl, hS.gr, ?_⟩
      have hF := hS.row
      rw [plL_ext (stB_fin (z := (p1 : Int)) (p1 := p1) (p := p) (by omega) (by omega) H1.out H2.out (fun j hj => by simp only [updP]))] at hF
      exact hF
    
  · obtain ⟨p1, rfl⟩ : ∃ p1 : Nat, z = -(p1 : Int) := ⟨z.natAbs, by omega⟩
    obtain ⟨p, hpa, hpb⟩ : ∃ p, p < p1 ∧ p1 ≤ p + 1 := ⟨p1 - 1, by omega, by omega⟩
    have hpm : (p1 : Int) - 1 = p := by omega
    have hpl : p < m := by omega
    have hpl1 : p1 < m := by omega
    have hab : (((-(p1 : Int)).natAbs : Nat) : Int) = p1 := by omega
    have hpw : IntKind.i64.wrap (p : Int) = (p : Int) := by rw [IntKind.wrap_i64]; omega
    have hpw1 : IntKind.i64.wrap (p1 : Int) = (p1 : Int) := by rw [IntKind.wrap_i64]; omega
    have hpi : (p : Int) < (m : Int) := by omega
    have hpi1 : (p1 : Int) < (m : Int) := by omega
    have hzn : ¬ 0 < -(p1 : Int) := by omega
    clear hz0 hz1
    obtain ⟨g, c0, sv, hv, hgB, hgl, g1, g2, g3⟩ := h.at (i := p) (by rw [plL_length]; exact hpl)
    rw [plL_length] at hv
    cases hv
    obtain ⟨g, c1, sv1, hv, _, _, k1, k2, k3⟩ := h.at (i := p1) (by rw [plL_length]; exact hpl1)
    rw [plL_length] at hv
    cases hv
    rw [pAt_plL hpl] at g1 g3
    rw [pAt_plL hpl1] at k1 k3
    obtain ⟨a0, c0, rfl⟩ := rdW_form g3
    obtain ⟨a1, c1, rfl⟩ := rdW_form k3
    obtain ⟨P0, hP0⟩ : ∃ P, nf 57896044618658097711785492504343953926634992332820282019728792003956564819968 (f p) = P := ⟨_, rfl⟩
    obtain ⟨Q0, hQ0⟩ : ∃ P, nf 57896044618658097711785492504343953926634992332820282019728792003956564819968 (f p1) = P := ⟨_, rfl⟩
    have n0 := nf_is (h := 57896044618658097711785492504343953926634992332820282019728792003956564819968) (by decide) (hf p hpl)
    have m0 := nf_is (h := 57896044618658097711785492504343953926634992332820282019728792003956564819968) (by decide) (hf p1 hpl1)
    obtain ⟨S1, hS1⟩ : ∃ P, nf 57896044618658097711785492504343953926634992332820282019728792003956564819968 (shF (-1) (f p1)) = P := ⟨_, rfl⟩
    obtain ⟨N1, hN1⟩ : ∃ P, nf 57896044618658097711785492504343953926634992332820282019728792003956564819968 (ngF (shF (-1) (f p1))) = P := ⟨_, rfl⟩
    obtain ⟨U1, hU1⟩ : ∃ P, nf 57896044618658097711785492504343953926634992332820282019728792003956564819968 (adF (f p) (f p1)) = P := ⟨_, rfl⟩
    obtain ⟨V1, hV1⟩ : ∃ P, nf 57896044618658097711785492504343953926634992332820282019728792003956564819968 (adF (adF (f p) (f p1)) (ngF (shF (-1) (f p1)))) = P := ⟨_, rfl⟩
    have n1 := sup_shF (hf p1 hpl1) (s := -1) (by decide) (by decide)
    have n2 := nf_is (h := 57896044618658097711785492504343953926634992332820282019728792003956564819968) (by decide) n1
    have n3 := sup_ngF n1
    have n4 := nf_is (h := 57896044618658097711785492504343953926634992332820282019728792003956564819968) (by decide) n3
    have n5 := sup_adF (hf p hpl) (hf p1 hpl1)
    have n6 := nf_is (h := 57896044618658097711785492504343953926634992332820282019728792003956564819968) (by decide) n5
    have HE2 := Lib.hid (show S1.2 = Q0.2 by
      have e := congrArg Prod.snd (shift_fin m0 n1 (by decide) (by decide))
      rw [hS1] at e
      rw [← hQ0]; exact e)
    have HSH := Lib.hid (fun a c w' => shift_pure (a := a) (c := c) (s := -1) m0 (by omega) n1 (by decide) (by decide) w')
    have HNG := Lib.hid (fun w' v (hv : rdW 78 w' v S1.2) => (show Calls Try.prog 53 #[.agg #[.int .i64 S1.1, v]] w' (RetQ w' N1) from by
      rw [← hN1]; exact negative_nf S1.1 v S1.2 (shF (-1) (f p1)) (A + 1) w' hv (by rw [← hS1]; exact n2) (by omega) n3))
    have HU := Lib.hid (fun w' v1 v2 (h1 : rdW 78 w' v1 P0.2) (h2 : rdW 78 w' v2 Q0.2) => (show Calls Try.prog 37 #[.agg #[.int .i64 P0.1, v1], .agg #[.int .i64 Q0.1, v2]] w' (RetQ w' U1) from by
      rw [← hU1]; exact add_nf P0.1 v1 P0.2 Q0.1 v2 Q0.2 (f p) (f p1) A w' h1 h2 (by rw [← hP0]; exact n0) (by rw [← hQ0]; exact m0) (by omega) n5))
    have HV := Lib.hid (fun w' v1 v2 (h1 : rdW 78 w' v1 U1.2) (h2 : rdW 78 w' v2 N1.2) => (show Calls Try.prog 37 #[.agg #[.int .i64 U1.1, v1], .agg #[.int .i64 N1.1, v2]] w' (RetQ w' V1) from by
      rw [← hV1]; exact add_nf U1.1 v1 U1.2 N1.1 v2 N1.2 (adF (f p) (f p1)) (ngF (shF (-1) (f p1))) (A + 1) w' h1 h2 (by rw [← hU1]; exact n6.mono (by omega)) (by rw [← hN1]; exact n4) (by omega) (sup_adF (sup_le n5 (Nat.le_succ A)) n3)))
    have H1 := Lib.hid (show nf 57896044618658097711785492504343953926634992332820282019728792003956564819968 (if 0 < (-(p1 : Int)) then adF (adF (f p) (ngF (shF 1 (f p)))) (f p1) else shF (-1) (f p1)) = S1 by rw [if_neg hz]; exact hS1)
    have H2 := Lib.hid (show nf 57896044618658097711785492504343953926634992332820282019728792003956564819968 (if 0 < (-(p1 : Int)) then shF 1 (f p) else adF (adF (f p) (f p1)) (ngF (shF (-1) (f p1)))) = V1 by rw [if_neg hz]; exact hV1)
    rw [hQ0, hS1] at HSH
    simp only [hP0] at g1 g2 g3
    simp only [hQ0] at k1 k2 k3
    clear n0 m0 n1 n2 n3 n4 n5 n6 hN1 hU1 hV1
    go_enter Try.func28, Try.ntmps28
    go_upto_region 1 with ((go_at_call 51; refine (sizeZ_any _ _ (by omega) (by omega)).mono ?_; rw [hab]; rintro e w' ⟨rfl, rfl⟩))
    go_cut [5, 6] from 9 to 17 (fun s5 s6 wc => ∃ b5 b6, s5 = .pointer (some ⟨b5, 0, none⟩) ∧ s6 = .pointer (some ⟨b6, 0, none⟩) ∧ RSt 57 78 w B kb ck m b5 b6 wc P0 Q0 (fun j => nf 57896044618658097711785492504343953926634992332820282019728792003956564819968 (f j)))
    case first =>
      refine wp_plus0 ?_
      refine region_ghostWT (W := w) [9, 10, 11, 12] (by kernel_rfl) (by kernel_rfl) (by kernel_rfl) ?_
      repeat (refine wpPlain_step (fun K hK => ?_); go_simp; first | (refine hK _ ?_; clear hK K) | (apply Exists.intro; refine ⟨fun _ => ?_, hK _ ?_⟩; (fail); clear hK K))
      refine wpPlain_nil ?_
      intro j1 d1
      rw [plus_plus, List.nil_append]
      refine gtree_step [9, 10] (by kernel_rfl) (gtree_all2 ⟨_, rfl, ?_⟩ ⟨_, rfl, ?_⟩)
      · go_wp2
        refine gExit_normal ⟨.inr (later_of_below (by (repeat (first | (with_reducible exact Below.refl _ _) | (with_reducible assumption) | (with_reducible refine below_plus' ?_ ?_; ((try simp only [plus_size, World.size_alloc, World.size_drew, World.size_setCell, size_setRow, World.heap_drewN, List.length_append]) <;> omega)) | (with_reducible refine below_alloc' ?_ ?_; ((try simp only [plus_size, World.size_alloc, World.size_drew, World.size_setCell, size_setRow, World.heap_drewN, List.length_append]) <;> omega)) | with_reducible refine Below.drew ?_ | (with_reducible refine below_drewN' ?_ _) | exact Below.refl _ _)))), fun j2 d2 => ?_⟩
        refine gtree_step [10] (by kernel_rfl) (gtree_all1 ⟨_, rfl, ?_⟩)
        go_wp2
        refine gExit_normal ⟨.inr (later_of_below (by (repeat (first | (with_reducible exact Below.refl _ _) | (with_reducible assumption) | (with_reducible refine below_plus' ?_ ?_; ((try simp only [plus_size, World.size_alloc, World.size_drew, World.size_setCell, size_setRow, World.heap_drewN, List.length_append]) <;> omega)) | (with_reducible refine below_alloc' ?_ ?_; ((try simp only [plus_size, World.size_alloc, World.size_drew, World.size_setCell, size_setRow, World.heap_drewN, List.length_append]) <;> omega)) | with_reducible refine Below.drew ?_ | (with_reducible refine below_drewN' ?_ _) | exact Below.refl _ _)))), fun j3 d3 => ?_⟩
        refine gtree_step [11] (by kernel_rfl) (gtree_all1 ⟨_, rfl, ?_⟩)
        go_wp2
        refine gExit_normal ⟨.inr (later_of_below (by (repeat (first | (with_reducible exact Below.refl _ _) | (with_reducible assumption) | (with_reducible refine below_plus' ?_ ?_; ((try simp only [plus_size, World.size_alloc, World.size_drew, World.size_setCell, size_setRow, World.heap_drewN, List.length_append]) <;> omega)) | (with_reducible refine below_alloc' ?_ ?_; ((try simp only [plus_size, World.size_alloc, World.size_drew, World.size_setCell, size_setRow, World.heap_drewN, List.length_append]) <;> omega)) | with_reducible refine Below.drew ?_ | (with_reducible refine below_drewN' ?_ _) | exact Below.refl _ _)))), fun j4 d4 => ?_⟩
        refine gtree_step [12] (by kernel_rfl) (gtree_all1 ⟨_, rfl, ?_⟩)
        go_wp2
        refine gExit_normal ⟨.inl (by kernel_rfl), fun j5 d5 => ?_⟩
        refine gtree_nil ?_
        go_wp2
        go_meet
        case rel =>
          exact ⟨_, _, rfl, rfl, rst_start (by decide) h (by (repeat (first | (with_reducible exact Below.refl _ _) | (with_reducible assumption) | (with_reducible refine below_plus' ?_ ?_; ((try simp only [plus_size, World.size_alloc, World.size_drew, World.size_setCell, size_setRow, World.heap_drewN, List.length_append]) <;> omega)) | (with_reducible refine below_alloc' ?_ ?_; ((try simp only [plus_size, World.size_alloc, World.size_drew, World.size_setCell, size_setRow, World.heap_drewN, List.length_append]) <;> omega)) | with_reducible refine Below.drew ?_ | (with_reducible refine below_drewN' ?_ _) | exact Below.refl _ _))) (by ((try simp only [plus_size, World.size_alloc, World.size_drew, World.size_setCell, size_setRow, World.heap_drewN, List.length_append]) <;> omega)) (by ((try simp only [plus_size, World.size_alloc, World.size_drew, World.size_setCell, size_setRow, World.heap_drewN, List.length_append]) <;> omega)) (by ((try simp only [plus_size, World.size_alloc, World.size_drew, World.size_setCell, size_setRow, World.heap_drewN, List.length_append]) <;> omega)) ⟨a0, c0, by (repeat (first | (refine heap_at _ _ _ ?_; ((try simp only [plus_size, World.size_alloc, World.size_drew, World.size_setCell, size_setRow, World.heap_drewN, List.length_append]) <;> omega)) | (refine heap_past' ?_ ?_; ((try simp only [plus_size, World.size_alloc, World.size_drew, World.size_setCell, size_setRow, World.heap_drewN, List.length_append]) <;> omega)) | (refine heap_plus' ?_ ?_; ((try simp only [plus_size, World.size_alloc, World.size_drew, World.size_setCell, size_setRow, World.heap_drewN, List.length_append]) <;> omega)) | assumption)), g3.kept (by (repeat (first | (with_reducible exact Below.refl _ _) | (with_reducible assumption) | (with_reducible refine below_plus' ?_ ?_; ((try simp only [plus_size, World.size_alloc, World.size_drew, World.size_setCell, size_setRow, World.heap_drewN, List.length_append]) <;> omega)) | (with_reducible refine below_alloc' ?_ ?_; ((try simp only [plus_size, World.size_alloc, World.size_drew, World.size_setCell, size_setRow, World.heap_drewN, List.length_append]) <;> omega)) | with_reducible refine Below.drew ?_ | (with_reducible refine below_drewN' ?_ _) | exact Below.refl _ _)))⟩ ⟨a1, c1, by (repeat (first | (refine heap_at _ _ _ ?_; ((try simp only [plus_size, World.size_alloc, World.size_drew, World.size_setCell, size_setRow, World.heap_drewN, List.length_append]) <;> omega)) | (refine heap_past' ?_ ?_; ((try simp only [plus_size, World.size_alloc, World.size_drew, World.size_setCell, size_setRow, World.heap_drewN, List.length_append]) <;> omega)) | (refine heap_plus' ?_ ?_; ((try simp only [plus_size, World.size_alloc, World.size_drew, World.size_setCell, size_setRow, World.heap_drewN, List.length_append]) <;> omega)) | assumption)), k3.kept (by (repeat (first | (with_reducible exact Below.refl _ _) | (with_reducible assumption) | (with_reducible refine below_plus' ?_ ?_; ((try simp only [plus_size, World.size_alloc, World.size_drew, World.size_setCell, size_setRow, World.heap_drewN, List.length_append]) <;> omega)) | (with_reducible refine below_alloc' ?_ ?_; ((try simp only [plus_size, World.size_alloc, World.size_drew, World.size_setCell, size_setRow, World.heap_drewN, List.length_append]) <;> omega)) | with_reducible refine Below.drew ?_ | (with_reducible refine below_drewN' ?_ _) | exact Below.refl _ _)))⟩⟩
      · go_wp2
        refine gExit_normal ⟨.inr (later_of_below (by (repeat (first | (with_reducible exact Below.refl _ _) | (with_reducible assumption) | (with_reducible refine below_plus' ?_ ?_; ((try simp only [plus_size, World.size_alloc, World.size_drew, World.size_setCell, size_setRow, World.heap_drewN, List.length_append]) <;> omega)) | (with_reducible refine below_alloc' ?_ ?_; ((try simp only [plus_size, World.size_alloc, World.size_drew, World.size_setCell, size_setRow, World.heap_drewN, List.length_append]) <;> omega)) | with_reducible refine Below.drew ?_ | (with_reducible refine below_drewN' ?_ _) | exact Below.refl _ _)))), fun j2 d2 => ?_⟩
        refine gtree_step [9] (by kernel_rfl) (gtree_all1 ⟨_, rfl, ?_⟩)
        go_wp2
        refine gExit_normal ⟨.inr (later_of_below (by (repeat (first | (with_reducible exact Below.refl _ _) | (with_reducible assumption) | (with_reducible refine below_plus' ?_ ?_; ((try simp only [plus_size, World.size_alloc, World.size_drew, World.size_setCell, size_setRow, World.heap_drewN, List.length_append]) <;> omega)) | (with_reducible refine below_alloc' ?_ ?_; ((try simp only [plus_size, World.size_alloc, World.size_drew, World.size_setCell, size_setRow, World.heap_drewN, List.length_append]) <;> omega)) | with_reducible refine Below.drew ?_ | (with_reducible refine below_drewN' ?_ _) | exact Below.refl _ _)))), fun j3 d3 => ?_⟩
        refine gtree_step [11] (by kernel_rfl) (gtree_all1 ⟨_, rfl, ?_⟩)
        go_wp2
        refine gExit_normal ⟨.inr (later_of_below (by (repeat (first | (with_reducible exact Below.refl _ _) | (with_reducible assumption) | (with_reducible refine below_plus' ?_ ?_; ((try simp only [plus_size, World.size_alloc, World.size_drew, World.size_setCell, size_setRow, World.heap_drewN, List.length_append]) <;> omega)) | (with_reducible refine below_alloc' ?_ ?_; ((try simp only [plus_size, World.size_alloc, World.size_drew, World.size_setCell, size_setRow, World.heap_drewN, List.length_append]) <;> omega)) | with_reducible refine Below.drew ?_ | (with_reducible refine below_drewN' ?_ _) | exact Below.refl _ _)))), fun j4 d4 => ?_⟩
        refine gtree_step [12] (by kernel_rfl) (gtree_all1 ⟨_, rfl, ?_⟩)
        go_wp2
        refine gExit_normal ⟨.inl (by kernel_rfl), fun j5 d5 => ?_⟩
        refine gtree_nil ?_
        go_wp2
        go_meet
        case rel =>
          exact ⟨_, _, rfl, rfl, rst_start (by decide) h (by (repeat (first | (with_reducible exact Below.refl _ _) | (with_reducible assumption) | (with_reducible refine below_plus' ?_ ?_; ((try simp only [plus_size, World.size_alloc, World.size_drew, World.size_setCell, size_setRow, World.heap_drewN, List.length_append]) <;> omega)) | (with_reducible refine below_alloc' ?_ ?_; ((try simp only [plus_size, World.size_alloc, World.size_drew, World.size_setCell, size_setRow, World.heap_drewN, List.length_append]) <;> omega)) | with_reducible refine Below.drew ?_ | (with_reducible refine below_drewN' ?_ _) | exact Below.refl _ _))) (by ((try simp only [plus_size, World.size_alloc, World.size_drew, World.size_setCell, size_setRow, World.heap_drewN, List.length_append]) <;> omega)) (by ((try simp only [plus_size, World.size_alloc, World.size_drew, World.size_setCell, size_setRow, World.heap_drewN, List.length_append]) <;> omega)) (by ((try simp only [plus_size, World.size_alloc, World.size_drew, World.size_setCell, size_setRow, World.heap_drewN, List.length_append]) <;> omega)) ⟨a0, c0, by (repeat (first | (refine heap_at _ _ _ ?_; ((try simp only [plus_size, World.size_alloc, World.size_drew, World.size_setCell, size_setRow, World.heap_drewN, List.length_append]) <;> omega)) | (refine heap_past' ?_ ?_; ((try simp only [plus_size, World.size_alloc, World.size_drew, World.size_setCell, size_setRow, World.heap_drewN, List.length_append]) <;> omega)) | (refine heap_plus' ?_ ?_; ((try simp only [plus_size, World.size_alloc, World.size_drew, World.size_setCell, size_setRow, World.heap_drewN, List.length_append]) <;> omega)) | assumption)), g3.kept (by (repeat (first | (with_reducible exact Below.refl _ _) | (with_reducible assumption) | (with_reducible refine below_plus' ?_ ?_; ((try simp only [plus_size, World.size_alloc, World.size_drew, World.size_setCell, size_setRow, World.heap_drewN, List.length_append]) <;> omega)) | (with_reducible refine below_alloc' ?_ ?_; ((try simp only [plus_size, World.size_alloc, World.size_drew, World.size_setCell, size_setRow, World.heap_drewN, List.length_append]) <;> omega)) | with_reducible refine Below.drew ?_ | (with_reducible refine below_drewN' ?_ _) | exact Below.refl _ _)))⟩ ⟨a1, c1, by (repeat (first | (refine heap_at _ _ _ ?_; ((try simp only [plus_size, World.size_alloc, World.size_drew, World.size_setCell, size_setRow, World.heap_drewN, List.length_append]) <;> omega)) | (refine heap_past' ?_ ?_; ((try simp only [plus_size, World.size_alloc, World.size_drew, World.size_setCell, size_setRow, World.heap_drewN, List.length_append]) <;> omega)) | (refine heap_plus' ?_ ?_; ((try simp only [plus_size, World.size_alloc, World.size_drew, World.size_setCell, size_setRow, World.heap_drewN, List.length_append]) <;> omega)) | assumption)), k3.kept (by (repeat (first | (with_reducible exact Below.refl _ _) | (with_reducible assumption) | (with_reducible refine below_plus' ?_ ?_; ((try simp only [plus_size, World.size_alloc, World.size_drew, World.size_setCell, size_setRow, World.heap_drewN, List.length_append]) <;> omega)) | (with_reducible refine below_alloc' ?_ ?_; ((try simp only [plus_size, World.size_alloc, World.size_drew, World.size_setCell, size_setRow, World.heap_drewN, List.length_append]) <;> omega)) | with_reducible refine Below.drew ?_ | (with_reducible refine below_drewN' ?_ _) | exact Below.refl _ _)))⟩⟩
    case rest =>
      obtain ⟨b5, b6, rfl, rfl, hS⟩ := hcut
      obtain ⟨hl5, a5, c5, p50, p51, hr5, hb5⟩ := hS.x5.cells
      obtain ⟨hl6, a6, c6, p60, p61, hr6, hb6⟩ := hS.x6.cells
      clear g1 g2 g3 k1 k2 k3 h hl5 p50 p51 hl6 p60 p61
      go_upto_region 4 with (fail)
      refine region_ghostC (fun X => X.heap[b5]? = some (.cells #[.int .i64 P0.1, .slice a5 P0.2.length c5] 57) ∧ X.heap[b6]? = some (.cells #[.int .i64 Q0.1, .slice a6 Q0.2.length c6] 57)) (fun X Y hX hb => ⟨(hb.block _ (heap_lt hX.1)).trans hX.1, (hb.block _ (heap_lt hX.2)).trans hX.2⟩) ⟨hb5, hb6⟩ [9, 11, 12, 13, 15, 17] (by kernel_rfl) (by kernel_rfl) (by kernel_rfl) ?_
      repeat (refine wpPlain_step (fun K hK => ?_); go_simp; first | (refine hK _ ?_; clear hK K) | (refine ⟨_, fun _ _ _ => rfl, hK _ ?_⟩; clear hK K) | (apply Exists.intro; refine ⟨fun w9 h95 h96 => ?_, hK _ ?_⟩; (have hC9 := And.intro h95 h96; clear h95 h96; first | (have p50 : w9.cell? ⟨b5, 0, none⟩ = some (.int .i64 P0.1) := cell_of (i := 0) hC9.1; have p51 : w9.cell? ⟨b5, 1, none⟩ = some (.slice a5 P0.2.length c5) := cell_of (i := 1) hC9.1; have p60 : w9.cell? ⟨b6, 0, none⟩ = some (.int .i64 Q0.1) := cell_of (i := 0) hC9.2; have p61 : w9.cell? ⟨b6, 1, none⟩ = some (.slice a6 Q0.2.length c6) := cell_of (i := 1) hC9.2; have hl5 := heap_lt hC9.1; have hl6 := heap_lt hC9.2; go_simp; first | done | exact rfl) | (go_at_call 52; (with_reducible refine Calls.mono (HSH.out _ _ _) ?_); rintro e w'' ⟨he, hB⟩; exact ⟨he, hB⟩)); clear hK K))
      refine wpPlain_nil ?_
      intro j d
      obtain ⟨y0, hy0⟩ : ∃ y, y = wc := ⟨_, rfl⟩
      have hbx : Below wc.heap.size wc (plus wc j d) := (by (repeat (first | (with_reducible exact Below.refl _ _) | (with_reducible assumption) | (with_reducible refine below_plus' ?_ ?_; ((try simp only [plus_size, World.size_alloc, World.size_drew, World.size_setCell, size_setRow, World.heap_drewN, List.length_append]) <;> omega)) | (with_reducible refine below_alloc' ?_ ?_; ((try simp only [plus_size, World.size_alloc, World.size_drew, World.size_setCell, size_setRow, World.heap_drewN, List.length_append]) <;> omega)) | with_reducible refine Below.drew ?_ | (with_reducible refine below_drewN' ?_ _) | exact Below.refl _ _)))
      replace hS := hS.below hbx
      replace hb5 := (hbx.block _ (heap_lt hb5)).trans hb5
      replace hb6 := (hbx.block _ (heap_lt hb6)).trans hb6
      replace hr5 := hr5.kept hbx
      replace hr6 := hr6.kept hbx
      clear hbx
      generalize plus wc j d = y1 at hS hb5 hb6 hr5 hr6  ⊢
      refine gchain_cons _ rfl ?_
      go_wp2_with (first | (go_at_call 37; (with_reducible refine Calls.mono (HU.out _ _ _ hr5 hr6) ?_); intro e y1' hh; obtain ⟨aU, cU, rfl, hB2, hrU⟩ := retQ_form hh; clear hh))
      replace hS := hS.below hB2
      replace hb5 := (hB2.block _ (heap_lt hb5)).trans hb5
      replace hb6 := (hB2.block _ (heap_lt hb6)).trans hb6
      replace hr5 := hr5.kept hB2
      replace hr6 := hr6.kept hB2
      clear hB2
      refine gExit_normal ⟨.inr ⟨hb5, hb6⟩, fun j d => ?_⟩
      have hbx : Below y1'.heap.size y1' (plus y1' j d) := (by (repeat (first | (with_reducible exact Below.refl _ _) | (with_reducible assumption) | (with_reducible refine below_plus' ?_ ?_; ((try simp only [plus_size, World.size_alloc, World.size_drew, World.size_setCell, size_setRow, World.heap_drewN, List.length_append]) <;> omega)) | (with_reducible refine below_alloc' ?_ ?_; ((try simp only [plus_size, World.size_alloc, World.size_drew, World.size_setCell, size_setRow, World.heap_drewN, List.length_append]) <;> omega)) | with_reducible refine Below.drew ?_ | (with_reducible refine below_drewN' ?_ _) | exact Below.refl _ _)))
      replace hS := hS.below hbx
      replace hb5 := (hbx.block _ (heap_lt hb5)).trans hb5
      replace hb6 := (hbx.block _ (heap_lt hb6)).trans hb6
      replace hr5 := hr5.kept hbx
      replace hr6 := hr6.kept hbx
      replace hrU := hrU.kept hbx
      clear hbx
      generalize plus y1' j d = y2 at hS hb5 hb6 hr5 hr6 hrU ⊢
      refine gchain_cons _ rfl ?_
      go_wp2_with (first | (go_at_call 52; (with_reducible refine Calls.mono (HSH.out _ _ _) ?_); rintro e y2' ⟨rfl, hB2⟩))
      replace hS := hS.below hB2
      replace hb5 := (hB2.block _ (heap_lt hb5)).trans hb5
      replace hb6 := (hB2.block _ (heap_lt hb6)).trans hb6
      replace hr5 := hr5.kept hB2
      replace hr6 := hr6.kept hB2
      replace hrU := hrU.kept hB2
      clear hB2
      refine gExit_normal ⟨.inr ⟨hb5, hb6⟩, fun j d => ?_⟩
      have hbx : Below y2'.heap.size y2' (plus y2' j d) := (by (repeat (first | (with_reducible exact Below.refl _ _) | (with_reducible assumption) | (with_reducible refine below_plus' ?_ ?_; ((try simp only [plus_size, World.size_alloc, World.size_drew, World.size_setCell, size_setRow, World.heap_drewN, List.length_append]) <;> omega)) | (with_reducible refine below_alloc' ?_ ?_; ((try simp only [plus_size, World.size_alloc, World.size_drew, World.size_setCell, size_setRow, World.heap_drewN, List.length_append]) <;> omega)) | with_reducible refine Below.drew ?_ | (with_reducible refine below_drewN' ?_ _) | exact Below.refl _ _)))
      replace hS := hS.below hbx
      replace hb5 := (hbx.block _ (heap_lt hb5)).trans hb5
      replace hb6 := (hbx.block _ (heap_lt hb6)).trans hb6
      replace hr5 := hr5.kept hbx
      replace hr6 := hr6.kept hbx
      replace hrU := hrU.kept hbx
      clear hbx
      generalize plus y2' j d = y7 at hS hb5 hb6 hr5 hr6 hrU ⊢
      refine gchain_cons _ rfl ?_
      go_wp2_with (first | (go_at_call 53; (with_reducible refine Calls.mono (HNG.out _ _ (by rw [HE2.out]; exact hr6)) ?_); intro e y7' hh; obtain ⟨aN, cN, rfl, hB2, hrN⟩ := retQ_form hh; clear hh))
      replace hS := hS.below hB2
      replace hb5 := (hB2.block _ (heap_lt hb5)).trans hb5
      replace hb6 := (hB2.block _ (heap_lt hb6)).trans hb6
      replace hr5 := hr5.kept hB2
      replace hr6 := hr6.kept hB2
      replace hrU := hrU.kept hB2
      clear hB2
      refine gExit_normal ⟨.inr ⟨hb5, hb6⟩, fun j d => ?_⟩
      have hbx : Below y7'.heap.size y7' (plus y7' j d) := (by (repeat (first | (with_reducible exact Below.refl _ _) | (with_reducible assumption) | (with_reducible refine below_plus' ?_ ?_; ((try simp only [plus_size, World.size_alloc, World.size_drew, World.size_setCell, size_setRow, World.heap_drewN, List.length_append]) <;> omega)) | (with_reducible refine below_alloc' ?_ ?_; ((try simp only [plus_size, World.size_alloc, World.size_drew, World.size_setCell, size_setRow, World.heap_drewN, List.length_append]) <;> omega)) | with_reducible refine Below.drew ?_ | (with_reducible refine below_drewN' ?_ _) | exact Below.refl _ _)))
      replace hS := hS.below hbx
      replace hb5 := (hbx.block _ (heap_lt hb5)).trans hb5
      replace hb6 := (hbx.block _ (heap_lt hb6)).trans hb6
      replace hr5 := hr5.kept hbx
      replace hr6 := hr6.kept hbx
      replace hrU := hrU.kept hbx
      replace hrN := hrN.kept hbx
      clear hbx
      generalize plus y7' j d = y3 at hS hb5 hb6 hr5 hr6 hrU hrN ⊢
      refine gchain_cons _ rfl ?_
      go_wp2_with (first | (go_at_call 37; (with_reducible refine Calls.mono (HV.out _ _ _ hrU hrN) ?_); intro e y3' hh; obtain ⟨aV, cV, rfl, hB2, hrV⟩ := retQ_form hh; clear hh))
      replace hS := hS.below hB2
      replace hb5 := (hB2.block _ (heap_lt hb5)).trans hb5
      replace hb6 := (hB2.block _ (heap_lt hb6)).trans hb6
      replace hr5 := hr5.kept hB2
      replace hr6 := hr6.kept hB2
      clear hB2
      refine gExit_normal ⟨.inr ⟨hb5, hb6⟩, fun j d => ?_⟩
      have hbx : Below y3'.heap.size y3' (plus y3' j d) := (by (repeat (first | (with_reducible exact Below.refl _ _) | (with_reducible assumption) | (with_reducible refine below_plus' ?_ ?_; ((try simp only [plus_size, World.size_alloc, World.size_drew, World.size_setCell, size_setRow, World.heap_drewN, List.length_append]) <;> omega)) | (with_reducible refine below_alloc' ?_ ?_; ((try simp only [plus_size, World.size_alloc, World.size_drew, World.size_setCell, size_setRow, World.heap_drewN, List.length_append]) <;> omega)) | with_reducible refine Below.drew ?_ | (with_reducible refine below_drewN' ?_ _) | exact Below.refl _ _)))
      replace hS := hS.below hbx
      replace hb5 := (hbx.block _ (heap_lt hb5)).trans hb5
      replace hb6 := (hbx.block _ (heap_lt hb6)).trans hb6
      replace hr5 := hr5.kept hbx
      replace hr6 := hr6.kept hbx
      replace hrV := hrV.kept hbx
      clear hbx
      generalize plus y3' j d = y4 at hS hb5 hb6 hr5 hr6 hrV ⊢
      obtain ⟨cur9, hcur, hsz, hS1⟩ := hS.putP (Below.refl _ _) (t := p) (by omega) (P := S1) (sv := .slice a6 Q0.2.length c6) (by rw [HE2.out]; exact hr6)
      have hg9 := setRow_grown y4 kb (putA cur9 (p * 2) #[.int .i64 S1.1, .slice a6 Q0.2.length c6])
      have h59 := (hg9.block b5 (heap_lt hb5) (fun e => hS.n5 (by cases e; rfl))).trans hb5
      have h69 := (hg9.block b6 (heap_lt hb6) (fun e => hS.n6 (by cases e; rfl))).trans hb6
      have r59 := rdW.block (e := 78) (by decide) hcur hg9 hrV
      clear hg9 hS hb5 hb6 hr5 hr6
      refine gchain_cons _ rfl ?_
      go_wp2_with ((with_reducible apply wpList_store_sub rfl rfl 57 _ _ rfl (kb) (p * 2) rfl _ rfl cur9 57); (exact hcur); (exact infoPt2); (exact hsz); (exact pol_one _ _ _ _); revert hS1 h59 h69 r59; generalize (World.setRow _ _ _) = w3; intro hS hb5 hb6 hr9; clear hcur hsz)
      refine gExit_normal ⟨.inr ⟨hb5, hb6⟩, fun j d => ?_⟩
      have hbx : Below w3.heap.size w3 (plus w3 j d) := (by (repeat (first | (with_reducible exact Below.refl _ _) | (with_reducible assumption) | (with_reducible refine below_plus' ?_ ?_; ((try simp only [plus_size, World.size_alloc, World.size_drew, World.size_setCell, size_setRow, World.heap_drewN, List.length_append]) <;> omega)) | (with_reducible refine below_alloc' ?_ ?_; ((try simp only [plus_size, World.size_alloc, World.size_drew, World.size_setCell, size_setRow, World.heap_drewN, List.length_append]) <;> omega)) | with_reducible refine Below.drew ?_ | (with_reducible refine below_drewN' ?_ _) | exact Below.refl _ _)))
      replace hS := hS.below hbx
      replace hr9 := hr9.kept hbx
      clear hbx hb5 hb6
      generalize plus w3 j d = y5 at hS hr9 ⊢
      obtain ⟨cur9, hcur, hsz, hS1⟩ := hS.putP (Below.refl _ _) (t := p1) (by omega) (P := V1) (sv := .slice aV V1.2.length cV) hr9
      clear hS
      refine gchain_cons _ rfl ?_
      go_wp2_with ((with_reducible apply wpList_store_sub rfl rfl 57 _ _ rfl (kb) (p1 * 2) rfl _ rfl cur9 57); (exact hcur); (exact infoPt2); (exact hsz); (exact pol_one _ _ _ _); revert hS1; generalize (World.setRow _ _ _) = w4; intro hS; clear hcur hsz)
      refine gExit_normal ⟨.inl (by kernel_rfl), fun j d => ?_⟩
      replace hS := hS.below (show Below w4.heap.size w4 (plus w4 j d) by (repeat (first | (with_reducible exact Below.refl _ _) | (with_reducible assumption) | (with_reducible refine below_plus' ?_ ?_; ((try simp only [plus_size, World.size_alloc, World.size_drew, World.size_setCell, size_setRow, World.heap_drewN, List.length_append]) <;> omega)) | (with_reducible refine below_alloc' ?_ ?_; ((try simp only [plus_size, World.size_alloc, World.size_drew, World.size_setCell, size_setRow, World.heap_drewN, List.length_append]) <;> omega)) | with_reducible refine Below.drew ?_ | (with_reducible refine below_drewN' ?_ _) | exact Below.refl _ _)))
      refine gchain_nil ?_
      generalize plus w4 j d = y6 at hS ⊢
      go_wp2
      go_end0
      refine ⟨rfl, hS.gr, ?_⟩
      have hF := hS.row
      rw [plL_ext (stB_fin (z := (-(p1 : Int))) (p1 := p1) (p := p) (by omega) (by omega) H1.out H2.out (fun j hj => by simp only [updP]))] at hF
      exact hF
    
end Go.Proofs.Ytikakoclmmmjdaa
