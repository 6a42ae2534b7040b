/- What is drawn over a code: polynomials, seldom spoilt. Conditions: as each theorem says. -/
import Derived.Test.YtcipdgmimmngoaaZr
namespace Go.Proofs.Ytcipdgmimmngoaa
open Go.RowKit
set_option linter.unusedSimpArgs false
set_option linter.unusedVariables false
open Go.RowKit
theorem own_neD {e T : TypeId} {w : World} {B b : Nat} {c : Array Value} {v : Value} {xs : List Int} (h : own e w B v xs) (hb : w.heap[b]? = some (.cells c T)) (hT : T ≠ e) : v.ownBlock ≠ some b := by
  intro hv
  rcases h.2 with ⟨rfl, _⟩ | ⟨g, cap, cur, rfl, hg, hh, _⟩
  · cases hv
  · simp only [Value.ownBlock, Option.some.injEq] at hv
    subst hv
    rw [hh] at hb
    cases hb
    exact hT rfl
set_option maxHeartbeats 4000000 in
theorem pspoil_any (W w : World) (g : Nat) (vc : Value) (m : Nat) (hC : readsC W vc m) (hm : m ≤ 1000000000) (S : Src W w g vc m) : Calls Try.prog 42 #[.pointer (some ⟨g, 0, none⟩)] w (Pol W w g vc m 10) := by
  have HC := Lib.hid hC
  clear hC
  have L0 := S.lt
  have G := World.grownBy.refl w (some g)
  go_enter Try.func42, Try.ntmps42
  go_upto_region 2 with (first | (go_at_call 59; refine Calls.mono (pdraw_any W _ g vc m HC.out hm (S.kept (by (repeat (first | (with_reducible exact Below.refl _ _) | (with_reducible assumption) | (with_reducible refine below_plus' ?_ ?_; ((try simp only [plus_size, World.size_alloc, World.size_drew, World.size_setCell, size_setRow, World.heap_drewN, List.length_append]) <;> omega)) | (with_reducible refine below_alloc' ?_ ?_; ((try simp only [plus_size, World.size_alloc, World.size_drew, World.size_setCell, size_setRow, World.heap_drewN, List.length_append]) <;> omega)) | with_reducible refine Below.drew ?_ | (with_reducible refine below_drewN' ?_ _) | exact Below.refl _ _))))) ?_; rintro e wd ⟨low, v, xs, rfl, ho, hlen, hsm, hlow, S1, hg⟩; obtain ⟨a, c, rfl⟩ := readsL_form ho.reads; have h2b : wd.heap[w.heap.size]? = some (.cells #[.int .i64 0, .slice none 0 0] 26) := grown_of (show (w.alloc (.cells #[.int .i64 0, .slice none 0 0] 26)).heap[w.heap.size]? = some (.cells #[.int .i64 0, .slice none 0 0] 26) by (repeat (first | (refine heap_at _ _ _ ?_; ((try simp only [plus_size, World.size_alloc, World.size_drew, World.size_setCell, size_setRow, World.heap_drewN, List.length_append]) <;> omega)) | (refine heap_past' ?_ ?_; ((try simp only [plus_size, World.size_alloc, World.size_drew, World.size_setCell, size_setRow, World.heap_drewN, List.length_append]) <;> omega)) | (refine heap_plus' ?_ ?_; ((try simp only [plus_size, World.size_alloc, World.size_drew, World.size_setCell, size_setRow, World.heap_drewN, List.length_append]) <;> omega)) | assumption))) hg (by simp; omega); replace S := S1; clear S1; replace G := grownBy_trans (grown_below G (by (repeat (first | (with_reducible exact Below.refl _ _) | (with_reducible assumption) | (with_reducible refine below_plus' ?_ ?_; ((try simp only [plus_size, World.size_alloc, World.size_drew, World.size_setCell, size_setRow, World.heap_drewN, List.length_append]) <;> omega)) | (with_reducible refine below_alloc' ?_ ?_; ((try simp only [plus_size, World.size_alloc, World.size_drew, World.size_setCell, size_setRow, World.heap_drewN, List.length_append]) <;> omega)) | with_reducible refine Below.drew ?_ | (with_reducible refine below_drewN' ?_ _) | exact Below.refl _ _)))) hg; have L := S.lt; (simp only [World.size_alloc] at ho)))
  have hdl := heap_lt h2b
  have hbx : (wd.alloc (.cells #[.int .i64 low, .slice a xs.length c] 26)).heap[wd.heap.size]? = some (.cells #[.int .i64 low, .slice a xs.length c] 26) := by (repeat (first | (refine heap_at _ _ _ ?_; ((try simp only [plus_size, World.size_alloc, World.size_drew, World.size_setCell, size_setRow, World.heap_drewN, List.length_append]) <;> omega)) | (refine heap_past' ?_ ?_; ((try simp only [plus_size, World.size_alloc, World.size_drew, World.size_setCell, size_setRow, World.heap_drewN, List.length_append]) <;> omega)) | (refine heap_plus' ?_ ?_; ((try simp only [plus_size, World.size_alloc, World.size_drew, World.size_setCell, size_setRow, World.heap_drewN, List.length_append]) <;> omega)) | assumption))
  have HSM := Lib.hid (show ∀ x ∈ xs, Sml x from hsm)
  clear hsm hg
  replace ho := ho.kept (show Below wd.heap.size wd (wd.alloc (.cells #[.int .i64 low, .slice a xs.length c] 26)) by (repeat (first | (with_reducible exact Below.refl _ _) | (with_reducible assumption) | (with_reducible refine below_plus' ?_ ?_; ((try simp only [plus_size, World.size_alloc, World.size_drew, World.size_setCell, size_setRow, World.heap_drewN, List.length_append]) <;> omega)) | (with_reducible refine below_alloc' ?_ ?_; ((try simp only [plus_size, World.size_alloc, World.size_drew, World.size_setCell, size_setRow, World.heap_drewN, List.length_append]) <;> omega)) | with_reducible refine Below.drew ?_ | (with_reducible refine below_drewN' ?_ _) | exact Below.refl _ _)))
  replace h2b := kept_of h2b (show Below wd.heap.size wd (wd.alloc (.cells #[.int .i64 low, .slice a xs.length c] 26)) by (repeat (first | (with_reducible exact Below.refl _ _) | (with_reducible assumption) | (with_reducible refine below_plus' ?_ ?_; ((try simp only [plus_size, World.size_alloc, World.size_drew, World.size_setCell, size_setRow, World.heap_drewN, List.length_append]) <;> omega)) | (with_reducible refine below_alloc' ?_ ?_; ((try simp only [plus_size, World.size_alloc, World.size_drew, World.size_setCell, size_setRow, World.heap_drewN, List.length_append]) <;> omega)) | with_reducible refine Below.drew ?_ | (with_reducible refine below_drewN' ?_ _) | exact Below.refl _ _)))
  replace S := S.kept (show Below wd.heap.size wd (wd.alloc (.cells #[.int .i64 low, .slice a xs.length c] 26)) by (repeat (first | (with_reducible exact Below.refl _ _) | (with_reducible assumption) | (with_reducible refine below_plus' ?_ ?_; ((try simp only [plus_size, World.size_alloc, World.size_drew, World.size_setCell, size_setRow, World.heap_drewN, List.length_append]) <;> omega)) | (with_reducible refine below_alloc' ?_ ?_; ((try simp only [plus_size, World.size_alloc, World.size_drew, World.size_setCell, size_setRow, World.heap_drewN, List.length_append]) <;> omega)) | with_reducible refine Below.drew ?_ | (with_reducible refine below_drewN' ?_ _) | exact Below.refl _ _)))
  replace G := grown_below G (show Below wd.heap.size wd (wd.alloc (.cells #[.int .i64 low, .slice a xs.length c] 26)) by (repeat (first | (with_reducible exact Below.refl _ _) | (with_reducible assumption) | (with_reducible refine below_plus' ?_ ?_; ((try simp only [plus_size, World.size_alloc, World.size_drew, World.size_setCell, size_setRow, World.heap_drewN, List.length_append]) <;> omega)) | (with_reducible refine below_alloc' ?_ ?_; ((try simp only [plus_size, World.size_alloc, World.size_drew, World.size_setCell, size_setRow, World.heap_drewN, List.length_append]) <;> omega)) | with_reducible refine Below.drew ?_ | (with_reducible refine below_drewN' ?_ _) | exact Below.refl _ _)))
  have hgb := L
  clear L
  have L := S.lt
  have h3 := hbx
  clear hbx
  generalize wd.alloc (.cells #[.int .i64 low, .slice a xs.length c] 26) = wb at ho h2b S G L h3 ⊢
  generalize wd.heap.size = b3 at hdl hgb h3 ⊢
  go_upto_region 3 with (first | (go_at_call 49; refine Calls.mono (nextN W _ g vc m _ HC.out hm (S.kept (by (repeat (first | (with_reducible exact Below.refl _ _) | (with_reducible assumption) | (with_reducible refine below_plus' ?_ ?_; ((try simp only [plus_size, World.size_alloc, World.size_drew, World.size_setCell, size_setRow, World.heap_drewN, List.length_append]) <;> omega)) | (with_reducible refine below_alloc' ?_ ?_; ((try simp only [plus_size, World.size_alloc, World.size_drew, World.size_setCell, size_setRow, World.heap_drewN, List.length_append]) <;> omega)) | with_reducible refine Below.drew ?_ | (with_reducible refine below_drewN' ?_ _) | exact Below.refl _ _)))) (by omega) (by omega)) ?_; rintro e w' ⟨q, hq, rfl, S1, hg⟩; replace S := S1; clear S1; replace G := grownBy_trans (grown_below G (by (repeat (first | (with_reducible exact Below.refl _ _) | (with_reducible assumption) | (with_reducible refine below_plus' ?_ ?_; ((try simp only [plus_size, World.size_alloc, World.size_drew, World.size_setCell, size_setRow, World.heap_drewN, List.length_append]) <;> omega)) | (with_reducible refine below_alloc' ?_ ?_; ((try simp only [plus_size, World.size_alloc, World.size_drew, World.size_setCell, size_setRow, World.heap_drewN, List.length_append]) <;> omega)) | with_reducible refine Below.drew ?_ | (with_reducible refine below_drewN' ?_ _) | exact Below.refl _ _)))) hg; have L := S.lt; replace ho := (ho.kept (by (repeat (first | (with_reducible exact Below.refl _ _) | (with_reducible assumption) | (with_reducible refine below_plus' ?_ ?_; ((try simp only [plus_size, World.size_alloc, World.size_drew, World.size_setCell, size_setRow, World.heap_drewN, List.length_append]) <;> omega)) | (with_reducible refine below_alloc' ?_ ?_; ((try simp only [plus_size, World.size_alloc, World.size_drew, World.size_setCell, size_setRow, World.heap_drewN, List.length_append]) <;> omega)) | with_reducible refine Below.drew ?_ | (with_reducible refine below_drewN' ?_ _) | exact Below.refl _ _)))).apart hg (fun k h1 h2 => by have := (ho.lt k h1).1; cases h2; omega); replace h2b := grown_of (kept_of h2b (by (repeat (first | (with_reducible exact Below.refl _ _) | (with_reducible assumption) | (with_reducible refine below_plus' ?_ ?_; ((try simp only [plus_size, World.size_alloc, World.size_drew, World.size_setCell, size_setRow, World.heap_drewN, List.length_append]) <;> omega)) | (with_reducible refine below_alloc' ?_ ?_; ((try simp only [plus_size, World.size_alloc, World.size_drew, World.size_setCell, size_setRow, World.heap_drewN, List.length_append]) <;> omega)) | with_reducible refine Below.drew ?_ | (with_reducible refine below_drewN' ?_ _) | exact Below.refl _ _)))) hg (by simp; omega); replace h3 := grown_of (kept_of h3 (by (repeat (first | (with_reducible exact Below.refl _ _) | (with_reducible assumption) | (with_reducible refine below_plus' ?_ ?_; ((try simp only [plus_size, World.size_alloc, World.size_drew, World.size_setCell, size_setRow, World.heap_drewN, List.length_append]) <;> omega)) | (with_reducible refine below_alloc' ?_ ?_; ((try simp only [plus_size, World.size_alloc, World.size_drew, World.size_setCell, size_setRow, World.heap_drewN, List.length_append]) <;> omega)) | with_reducible refine Below.drew ?_ | (with_reducible refine below_drewN' ?_ _) | exact Below.refl _ _)))) hg (by simp; omega)))
  clear hg
  have d0 : w'.cell? ⟨b3, 0, none⟩ = some (.int .i64 low) := (cell_of (i := 0) h3).trans rfl
  have d1 : w'.cell? ⟨b3, 1, none⟩ = some (.slice a xs.length c) := (cell_of (i := 1) h3).trans rfl
  have z0 := frozen_of_row w' _ 0 _ _ h3
  have z1 := frozen_of_row w' _ 1 _ _ h3
  by_cases h0 : q = 0
  · subst h0
    go_upto_region 9 with (first | (at_builtin; go_loud (refine wpList_appendL rfl _ _ 22 rfl 2 Try.underlying22 infoI (w.heap.size + 1) _ _ xs [0] rfl rfl (own.kept ho (by (repeat (first | (with_reducible exact Below.refl _ _) | (with_reducible assumption) | (with_reducible refine below_plus' ?_ ?_; ((try simp only [plus_size, World.size_alloc, World.size_drew, World.size_setCell, size_setRow, World.heap_drewN, List.length_append]) <;> omega)) | (with_reducible refine below_alloc' ?_ ?_; ((try simp only [plus_size, World.size_alloc, World.size_drew, World.size_setCell, size_setRow, World.heap_drewN, List.length_append]) <;> omega)) | with_reducible refine Below.drew ?_ | (with_reducible refine below_drewN' ?_ _) | exact Below.refl _ _)))) (reads_built (by ((try simp only [plus_size, World.size_alloc, World.size_drew, World.size_setCell, size_setRow, World.heap_drewN, List.length_append]) <;> omega)) rfl rfl) (by simp; omega) (by have := heap_lt h2b; ((try simp only [plus_size, World.size_alloc, World.size_drew, World.size_setCell, size_setRow, World.heap_drewN, List.length_append]) <;> omega)) ?_; intro v' wz ho' hgr hB; replace S := (S.kept (by (repeat (first | (with_reducible exact Below.refl _ _) | (with_reducible assumption) | (with_reducible refine below_plus' ?_ ?_; ((try simp only [plus_size, World.size_alloc, World.size_drew, World.size_setCell, size_setRow, World.heap_drewN, List.length_append]) <;> omega)) | (with_reducible refine below_alloc' ?_ ?_; ((try simp only [plus_size, World.size_alloc, World.size_drew, World.size_setCell, size_setRow, World.heap_drewN, List.length_append]) <;> omega)) | with_reducible refine Below.drew ?_ | (with_reducible refine below_drewN' ?_ _) | exact Below.refl _ _)))).apart hgr (fun e => by have := (ho.lt _ e).1; omega) (fun k hk => by have := (ho.lt k hk).1; have := S.lo; omega); replace G := grown_trans'' (grown_below G (by (repeat (first | (with_reducible exact Below.refl _ _) | (with_reducible assumption) | (with_reducible refine below_plus' ?_ ?_; ((try simp only [plus_size, World.size_alloc, World.size_drew, World.size_setCell, size_setRow, World.heap_drewN, List.length_append]) <;> omega)) | (with_reducible refine below_alloc' ?_ ?_; ((try simp only [plus_size, World.size_alloc, World.size_drew, World.size_setCell, size_setRow, World.heap_drewN, List.length_append]) <;> omega)) | with_reducible refine Below.drew ?_ | (with_reducible refine below_drewN' ?_ _) | exact Below.refl _ _)))) hgr (fun k hk => by have := (ho.lt k hk).1; omega); replace h2b := grown_of (kept_of h2b (by (repeat (first | (with_reducible exact Below.refl _ _) | (with_reducible assumption) | (with_reducible refine below_plus' ?_ ?_; ((try simp only [plus_size, World.size_alloc, World.size_drew, World.size_setCell, size_setRow, World.heap_drewN, List.length_append]) <;> omega)) | (with_reducible refine below_alloc' ?_ ?_; ((try simp only [plus_size, World.size_alloc, World.size_drew, World.size_setCell, size_setRow, World.heap_drewN, List.length_append]) <;> omega)) | with_reducible refine Below.drew ?_ | (with_reducible refine below_drewN' ?_ _) | exact Below.refl _ _)))) hgr (fun e => by have := (ho.lt _ e).1; omega); replace h3 := grown_of (kept_of h3 (by (repeat (first | (with_reducible exact Below.refl _ _) | (with_reducible assumption) | (with_reducible refine below_plus' ?_ ?_; ((try simp only [plus_size, World.size_alloc, World.size_drew, World.size_setCell, size_setRow, World.heap_drewN, List.length_append]) <;> omega)) | (with_reducible refine below_alloc' ?_ ?_; ((try simp only [plus_size, World.size_alloc, World.size_drew, World.size_setCell, size_setRow, World.heap_drewN, List.length_append]) <;> omega)) | with_reducible refine Below.drew ?_ | (with_reducible refine below_drewN' ?_ _) | exact Below.refl _ _)))) hgr (own_neD ho h3 (by decide)); clear hB hgr d0 d1 z0 z1; have d0 : _ = some _ := (cell_of (i := 0) h3).trans rfl; have d1 : _ = some _ := (cell_of (i := 1) h3).trans rfl; have z0 := frozen_of_row _ _ 0 _ _ h3; have z1 := frozen_of_row _ _ 1 _ _ h3; have L := S.lt; obtain ⟨a2, c2, rfl⟩ := readsL_form ho'.reads)))
    have hL : (xs ++ [0]).length = xs.length + 1 := by simp
    rw [hL] at ho'
    clear hL
    have g3 := grownBy_setCell wz b3 1 (.slice a2 (xs.length + 1) c2)
    have h33 : (wz.setCell ⟨b3, 1, none⟩ (.slice a2 (xs.length + 1) c2)).heap[b3]? = some (.cells #[.int .i64 low, .slice a2 (xs.length + 1) c2] 26) := (heap_setCell_same wz b3 1 _ _ (.slice a2 (xs.length + 1) c2) h3).trans rfl
    have ho3 := ho'.apart g3 (fun k h1 h2 => by cases h2; exact own_neD ho' h3 (by decide) h1)
    have S3 := S.apart g3 (by simp; omega) (fun b e => by cases e; have := S.lo; omega)
    have G3 := grown_trans'' G g3 (fun b e => by cases e; omega)
    have h2b3 := grown_of h2b g3 (by simp; omega)
    have HLL := Lib.hid (show (xs ++ [0]).length = xs.length + 1 by simp)
    have HSM := Lib.hid (show ∀ x ∈ xs ++ [0], Sml x from fun x hx => by
      rcases List.mem_append.1 hx with h | h
      · exact HSM.out x h
      · rw [List.mem_singleton] at h; rw [h]; unfold Sml; omega)
    clear ho ho' S G h2b h3 d0 d1 z0 z1 L
    generalize xs ++ [0] = ys at ho3 h33 g3 HLL HSM S3 G3 h2b3 ⊢
    generalize wz.setCell ⟨b3, 1, none⟩ (.slice a2 (xs.length + 1) c2) = w9 at g3 h33 ho3 S3 G3 h2b3 ⊢
    have ho := ho3
    have S := S3
    have G := G3
    have h2b := h2b3
    have h3 := h33
    have L := S.lt
    clear ho3 S3 G3 h2b3 h33 g3
    have d0 : w9.cell? ⟨b3, 0, none⟩ = some (.int .i64 low) := (cell_of (i := 0) h3).trans rfl
    have d1 : w9.cell? ⟨b3, 1, none⟩ = some (.slice a2 (xs.length + 1) c2) := (cell_of (i := 1) h3).trans rfl
    have y0 : w9.cell? ⟨w.heap.size, 0, none⟩ = some (.int .i64 0) := (cell_of (i := 0) h2b).trans rfl
    have y1 : w9.cell? ⟨w.heap.size, 1, none⟩ = some (.slice none 0 0) := (cell_of (i := 1) h2b).trans rfl
    have z0 := frozen_of_row w9 _ 0 _ _ h2b
    have z1 := frozen_of_row w9 _ 1 _ _ h2b
    go_wp2
    have g1 := grownBy_trans (grownBy_setCell w9 w.heap.size 0 (.int .i64 low)) (grownBy_setCell (w9.setCell ⟨w.heap.size, 0, none⟩ (.int .i64 low)) w.heap.size 1 (.slice a2 (xs.length + 1) c2))
    have b1 := heap_setCell_same w9 w.heap.size 0 _ _ (.int .i64 low) h2b
    have b2 := heap_setCell_same (w9.setCell ⟨w.heap.size, 0, none⟩ (.int .i64 low)) w.heap.size 1 _ _ (.slice a2 (xs.length + 1) c2) b1
    have o1 := ho.apart g1 (fun k h1 h2 => by have := (ho.lt k h1).1; cases h2; omega)
    have s1 := S.apart g1 (by simp; omega) (fun b e => by cases e; have := S.lo; omega)
    have G1 := grown_trans'' G g1 (fun b e => by cases e; omega)
    have k0 : ((w9.setCell ⟨w.heap.size, 0, none⟩ (.int .i64 low)).setCell ⟨w.heap.size, 1, none⟩ (.slice a2 (xs.length + 1) c2)).cell? ⟨w.heap.size, 0, none⟩ = some (.int .i64 low) := (cell_of (i := 0) b2).trans rfl
    have k1 : ((w9.setCell ⟨w.heap.size, 0, none⟩ (.int .i64 low)).setCell ⟨w.heap.size, 1, none⟩ (.slice a2 (xs.length + 1) c2)).cell? ⟨w.heap.size, 1, none⟩ = some (.slice a2 (xs.length + 1) c2) := (cell_of (i := 1) b2).trans rfl
    clear ho S G h2b h3 d0 d1 z0 z1 b1 L
    generalize (w9.setCell ⟨w.heap.size, 0, none⟩ (.int .i64 low)).setCell ⟨w.heap.size, 1, none⟩ (.slice a2 (xs.length + 1) c2) = wz at g1 b2 o1 s1 G1 k0 k1 ⊢
    refine bodyPost_ret (v := .agg #[.int .i64 low, .slice a2 (xs.length + 1) c2]) (by simp [results, Try.results42, go_sem, k0, k1]) rfl ?_
    exact ⟨_, _, ys, rfl, o1.mono (by omega), by first | omega | (have := HLL.out; omega), HSM.out, hlow, s1, G1⟩
  · have h0i : ((q : Int) == 0) = false := by simp; omega
    by_cases h1 : q = 1
    · subst h1
      go_upto_region 9 with (first | (go_at_call 47; refine Calls.mono (pick_any W _ g vc m _ [(1 : Int), 1001, -1001] HC.out hm (S.kept (by (repeat (first | (with_reducible exact Below.refl _ _) | (with_reducible assumption) | (with_reducible refine below_plus' ?_ ?_; ((try simp only [plus_size, World.size_alloc, World.size_drew, World.size_setCell, size_setRow, World.heap_drewN, List.length_append]) <;> omega)) | (with_reducible refine below_alloc' ?_ ?_; ((try simp only [plus_size, World.size_alloc, World.size_drew, World.size_setCell, size_setRow, World.heap_drewN, List.length_append]) <;> omega)) | with_reducible refine Below.drew ?_ | (with_reducible refine below_drewN' ?_ _) | exact Below.refl _ _)))) (reads_built (by ((try simp only [plus_size, World.size_alloc, World.size_drew, World.size_setCell, size_setRow, World.heap_drewN, List.length_append]) <;> omega)) rfl rfl) (by simp) (by simp) (fun k e => by cases e; ((try simp only [plus_size, World.size_alloc, World.size_drew, World.size_setCell, size_setRow, World.heap_drewN, List.length_append]) <;> omega))) ?_; rintro e w' ⟨k, hk, rfl, S1, hg⟩; obtain ⟨lo2, elo⟩ : ∃ z, nth [(1 : Int), 1001, -1001] k = z := ⟨_, rfl⟩; have hlo2 : -3000 ≤ lo2 ∧ lo2 ≤ 3000 := (by have hx : ∀ x ∈ ([(1 : Int), 1001, -1001] : List Int), -3000 ≤ x ∧ x ≤ 3000 := (by decide); have := hx _ (nth_mem hk); rw [elo] at this; exact this); rw [elo]; clear elo hk k; replace S := S1; clear S1; replace G := grownBy_trans (grown_below G (by (repeat (first | (with_reducible exact Below.refl _ _) | (with_reducible assumption) | (with_reducible refine below_plus' ?_ ?_; ((try simp only [plus_size, World.size_alloc, World.size_drew, World.size_setCell, size_setRow, World.heap_drewN, List.length_append]) <;> omega)) | (with_reducible refine below_alloc' ?_ ?_; ((try simp only [plus_size, World.size_alloc, World.size_drew, World.size_setCell, size_setRow, World.heap_drewN, List.length_append]) <;> omega)) | with_reducible refine Below.drew ?_ | (with_reducible refine below_drewN' ?_ _) | exact Below.refl _ _)))) hg; have L := S.lt; replace ho := (ho.kept (by (repeat (first | (with_reducible exact Below.refl _ _) | (with_reducible assumption) | (with_reducible refine below_plus' ?_ ?_; ((try simp only [plus_size, World.size_alloc, World.size_drew, World.size_setCell, size_setRow, World.heap_drewN, List.length_append]) <;> omega)) | (with_reducible refine below_alloc' ?_ ?_; ((try simp only [plus_size, World.size_alloc, World.size_drew, World.size_setCell, size_setRow, World.heap_drewN, List.length_append]) <;> omega)) | with_reducible refine Below.drew ?_ | (with_reducible refine below_drewN' ?_ _) | exact Below.refl _ _)))).apart hg (fun k h1 h2 => by have := (ho.lt k h1).1; cases h2; omega); replace h2b := grown_of (kept_of h2b (by (repeat (first | (with_reducible exact Below.refl _ _) | (with_reducible assumption) | (with_reducible refine below_plus' ?_ ?_; ((try simp only [plus_size, World.size_alloc, World.size_drew, World.size_setCell, size_setRow, World.heap_drewN, List.length_append]) <;> omega)) | (with_reducible refine below_alloc' ?_ ?_; ((try simp only [plus_size, World.size_alloc, World.size_drew, World.size_setCell, size_setRow, World.heap_drewN, List.length_append]) <;> omega)) | with_reducible refine Below.drew ?_ | (with_reducible refine below_drewN' ?_ _) | exact Below.refl _ _)))) hg (by simp; omega); replace h3 := grown_of (kept_of h3 (by (repeat (first | (with_reducible exact Below.refl _ _) | (with_reducible assumption) | (with_reducible refine below_plus' ?_ ?_; ((try simp only [plus_size, World.size_alloc, World.size_drew, World.size_setCell, size_setRow, World.heap_drewN, List.length_append]) <;> omega)) | (with_reducible refine below_alloc' ?_ ?_; ((try simp only [plus_size, World.size_alloc, World.size_drew, World.size_setCell, size_setRow, World.heap_drewN, List.length_append]) <;> omega)) | with_reducible refine Below.drew ?_ | (with_reducible refine below_drewN' ?_ _) | exact Below.refl _ _)))) hg (by simp; omega); clear d0 d1 z0 z1; have d0 : _ = some _ := (cell_of (i := 0) h3).trans rfl; have d1 : _ = some _ := (cell_of (i := 1) h3).trans rfl; have z0 := frozen_of_row _ _ 0 _ _ h3; have z1 := frozen_of_row _ _ 1 _ _ h3))
      have g3 := grownBy_setCell w' b3 0 (.int .i64 lo2)
      have h33 : (w'.setCell ⟨b3, 0, none⟩ (.int .i64 lo2)).heap[b3]? = some (.cells #[.int .i64 lo2, .slice a xs.length c] 26) := (heap_setCell_same w' b3 0 _ _ (.int .i64 lo2) h3).trans rfl
      have ho3 := ho.apart g3 (fun k h1 h2 => by cases h2; exact own_neD ho h3 (by decide) h1)
      have S3 := S.apart g3 (by simp; omega) (fun b e => by cases e; have := S.lo; omega)
      have G3 := grown_trans'' G g3 (fun b e => by cases e; omega)
      have h2b3 := grown_of h2b g3 (by simp; omega)
      clear ho S G h2b h3 d0 d1 z0 z1 L
      generalize w'.setCell ⟨b3, 0, none⟩ (.int .i64 lo2) = w9 at g3 h33 ho3 S3 G3 h2b3 ⊢
      have ho := ho3
      have S := S3
      have G := G3
      have h2b := h2b3
      have h3 := h33
      have L := S.lt
      clear ho3 S3 G3 h2b3 h33 g3
      have d0 : w9.cell? ⟨b3, 0, none⟩ = some (.int .i64 lo2) := (cell_of (i := 0) h3).trans rfl
      have d1 : w9.cell? ⟨b3, 1, none⟩ = some (.slice a xs.length c) := (cell_of (i := 1) h3).trans rfl
      have y0 : w9.cell? ⟨w.heap.size, 0, none⟩ = some (.int .i64 0) := (cell_of (i := 0) h2b).trans rfl
      have y1 : w9.cell? ⟨w.heap.size, 1, none⟩ = some (.slice none 0 0) := (cell_of (i := 1) h2b).trans rfl
      have z0 := frozen_of_row w9 _ 0 _ _ h2b
      have z1 := frozen_of_row w9 _ 1 _ _ h2b
      go_wp2
      have g1 := grownBy_trans (grownBy_setCell w9 w.heap.size 0 (.int .i64 lo2)) (grownBy_setCell (w9.setCell ⟨w.heap.size, 0, none⟩ (.int .i64 lo2)) w.heap.size 1 (.slice a xs.length c))
      have b1 := heap_setCell_same w9 w.heap.size 0 _ _ (.int .i64 lo2) h2b
      have b2 := heap_setCell_same (w9.setCell ⟨w.heap.size, 0, none⟩ (.int .i64 lo2)) w.heap.size 1 _ _ (.slice a xs.length c) b1
      have o1 := ho.apart g1 (fun k h1 h2 => by have := (ho.lt k h1).1; cases h2; omega)
      have s1 := S.apart g1 (by simp; omega) (fun b e => by cases e; have := S.lo; omega)
      have G1 := grown_trans'' G g1 (fun b e => by cases e; omega)
      have k0 : ((w9.setCell ⟨w.heap.size, 0, none⟩ (.int .i64 lo2)).setCell ⟨w.heap.size, 1, none⟩ (.slice a xs.length c)).cell? ⟨w.heap.size, 0, none⟩ = some (.int .i64 lo2) := (cell_of (i := 0) b2).trans rfl
      have k1 : ((w9.setCell ⟨w.heap.size, 0, none⟩ (.int .i64 lo2)).setCell ⟨w.heap.size, 1, none⟩ (.slice a xs.length c)).cell? ⟨w.heap.size, 1, none⟩ = some (.slice a xs.length c) := (cell_of (i := 1) b2).trans rfl
      clear ho S G h2b h3 d0 d1 z0 z1 b1 L
      generalize (w9.setCell ⟨w.heap.size, 0, none⟩ (.int .i64 lo2)).setCell ⟨w.heap.size, 1, none⟩ (.slice a xs.length c) = wz at g1 b2 o1 s1 G1 k0 k1 ⊢
      refine bodyPost_ret (v := .agg #[.int .i64 lo2, .slice a xs.length c]) (by simp [results, Try.results42, go_sem, k0, k1]) rfl ?_
      exact ⟨_, _, xs, rfl, o1.mono (by omega), by first | omega | (have := HLL.out; omega), HSM.out, hlo2, s1, G1⟩
    · have h1i : ((q : Int) == 1) = false := by simp; omega
      by_cases h2 : q = 2
      · subst h2
        go_upto_region 9 with (first | (at_builtin; go_loud (refine wpList_appendL rfl _ _ 22 rfl 2 Try.underlying22 infoI (w.heap.size + 1) _ _ xs [1000000000001] rfl rfl (own.kept ho (by (repeat (first | (with_reducible exact Below.refl _ _) | (with_reducible assumption) | (with_reducible refine below_plus' ?_ ?_; ((try simp only [plus_size, World.size_alloc, World.size_drew, World.size_setCell, size_setRow, World.heap_drewN, List.length_append]) <;> omega)) | (with_reducible refine below_alloc' ?_ ?_; ((try simp only [plus_size, World.size_alloc, World.size_drew, World.size_setCell, size_setRow, World.heap_drewN, List.length_append]) <;> omega)) | with_reducible refine Below.drew ?_ | (with_reducible refine below_drewN' ?_ _) | exact Below.refl _ _)))) (reads_built (by ((try simp only [plus_size, World.size_alloc, World.size_drew, World.size_setCell, size_setRow, World.heap_drewN, List.length_append]) <;> omega)) rfl rfl) (by simp; omega) (by have := heap_lt h2b; ((try simp only [plus_size, World.size_alloc, World.size_drew, World.size_setCell, size_setRow, World.heap_drewN, List.length_append]) <;> omega)) ?_; intro v' wz ho' hgr hB; replace S := (S.kept (by (repeat (first | (with_reducible exact Below.refl _ _) | (with_reducible assumption) | (with_reducible refine below_plus' ?_ ?_; ((try simp only [plus_size, World.size_alloc, World.size_drew, World.size_setCell, size_setRow, World.heap_drewN, List.length_append]) <;> omega)) | (with_reducible refine below_alloc' ?_ ?_; ((try simp only [plus_size, World.size_alloc, World.size_drew, World.size_setCell, size_setRow, World.heap_drewN, List.length_append]) <;> omega)) | with_reducible refine Below.drew ?_ | (with_reducible refine below_drewN' ?_ _) | exact Below.refl _ _)))).apart hgr (fun e => by have := (ho.lt _ e).1; omega) (fun k hk => by have := (ho.lt k hk).1; have := S.lo; omega); replace G := grown_trans'' (grown_below G (by (repeat (first | (with_reducible exact Below.refl _ _) | (with_reducible assumption) | (with_reducible refine below_plus' ?_ ?_; ((try simp only [plus_size, World.size_alloc, World.size_drew, World.size_setCell, size_setRow, World.heap_drewN, List.length_append]) <;> omega)) | (with_reducible refine below_alloc' ?_ ?_; ((try simp only [plus_size, World.size_alloc, World.size_drew, World.size_setCell, size_setRow, World.heap_drewN, List.length_append]) <;> omega)) | with_reducible refine Below.drew ?_ | (with_reducible refine below_drewN' ?_ _) | exact Below.refl _ _)))) hgr (fun k hk => by have := (ho.lt k hk).1; omega); replace h2b := grown_of (kept_of h2b (by (repeat (first | (with_reducible exact Below.refl _ _) | (with_reducible assumption) | (with_reducible refine below_plus' ?_ ?_; ((try simp only [plus_size, World.size_alloc, World.size_drew, World.size_setCell, size_setRow, World.heap_drewN, List.length_append]) <;> omega)) | (with_reducible refine below_alloc' ?_ ?_; ((try simp only [plus_size, World.size_alloc, World.size_drew, World.size_setCell, size_setRow, World.heap_drewN, List.length_append]) <;> omega)) | with_reducible refine Below.drew ?_ | (with_reducible refine below_drewN' ?_ _) | exact Below.refl _ _)))) hgr (fun e => by have := (ho.lt _ e).1; omega); replace h3 := grown_of (kept_of h3 (by (repeat (first | (with_reducible exact Below.refl _ _) | (with_reducible assumption) | (with_reducible refine below_plus' ?_ ?_; ((try simp only [plus_size, World.size_alloc, World.size_drew, World.size_setCell, size_setRow, World.heap_drewN, List.length_append]) <;> omega)) | (with_reducible refine below_alloc' ?_ ?_; ((try simp only [plus_size, World.size_alloc, World.size_drew, World.size_setCell, size_setRow, World.heap_drewN, List.length_append]) <;> omega)) | with_reducible refine Below.drew ?_ | (with_reducible refine below_drewN' ?_ _) | exact Below.refl _ _)))) hgr (own_neD ho h3 (by decide)); clear hB hgr d0 d1 z0 z1; have d0 : _ = some _ := (cell_of (i := 0) h3).trans rfl; have d1 : _ = some _ := (cell_of (i := 1) h3).trans rfl; have z0 := frozen_of_row _ _ 0 _ _ h3; have z1 := frozen_of_row _ _ 1 _ _ h3; have L := S.lt; obtain ⟨a2, c2, rfl⟩ := readsL_form ho'.reads)))
        have hL : (xs ++ [1000000000001]).length = xs.length + 1 := by simp
        rw [hL] at ho'
        clear hL
        have g3 := grownBy_setCell wz b3 1 (.slice a2 (xs.length + 1) c2)
        have h33 : (wz.setCell ⟨b3, 1, none⟩ (.slice a2 (xs.length + 1) c2)).heap[b3]? = some (.cells #[.int .i64 low, .slice a2 (xs.length + 1) c2] 26) := (heap_setCell_same wz b3 1 _ _ (.slice a2 (xs.length + 1) c2) h3).trans rfl
        have ho3 := ho'.apart g3 (fun k h1 h2 => by cases h2; exact own_neD ho' h3 (by decide) h1)
        have S3 := S.apart g3 (by simp; omega) (fun b e => by cases e; have := S.lo; omega)
        have G3 := grown_trans'' G g3 (fun b e => by cases e; omega)
        have h2b3 := grown_of h2b g3 (by simp; omega)
        have HLL := Lib.hid (show (xs ++ [1000000000001]).length = xs.length + 1 by simp)
        have HSM := Lib.hid (show ∀ x ∈ xs ++ [1000000000001], Sml x from fun x hx => by
          rcases List.mem_append.1 hx with h | h
          · exact HSM.out x h
          · rw [List.mem_singleton] at h; rw [h]; unfold Sml; omega)
        clear ho ho' S G h2b h3 d0 d1 z0 z1 L
        generalize xs ++ [1000000000001] = ys at ho3 h33 g3 HLL HSM S3 G3 h2b3 ⊢
        generalize wz.setCell ⟨b3, 1, none⟩ (.slice a2 (xs.length + 1) c2) = w9 at g3 h33 ho3 S3 G3 h2b3 ⊢
        have ho := ho3
        have S := S3
        have G := G3
        have h2b := h2b3
        have h3 := h33
        have L := S.lt
        clear ho3 S3 G3 h2b3 h33 g3
        have d0 : w9.cell? ⟨b3, 0, none⟩ = some (.int .i64 low) := (cell_of (i := 0) h3).trans rfl
        have d1 : w9.cell? ⟨b3, 1, none⟩ = some (.slice a2 (xs.length + 1) c2) := (cell_of (i := 1) h3).trans rfl
        have y0 : w9.cell? ⟨w.heap.size, 0, none⟩ = some (.int .i64 0) := (cell_of (i := 0) h2b).trans rfl
        have y1 : w9.cell? ⟨w.heap.size, 1, none⟩ = some (.slice none 0 0) := (cell_of (i := 1) h2b).trans rfl
        have z0 := frozen_of_row w9 _ 0 _ _ h2b
        have z1 := frozen_of_row w9 _ 1 _ _ h2b
        go_wp2
        have g1 := grownBy_trans (grownBy_setCell w9 w.heap.size 0 (.int .i64 low)) (grownBy_setCell (w9.setCell ⟨w.heap.size, 0, none⟩ (.int .i64 low)) w.heap.size 1 (.slice a2 (xs.length + 1) c2))
        have b1 := heap_setCell_same w9 w.heap.size 0 _ _ (.int .i64 low) h2b
        have b2 := heap_setCell_same (w9.setCell ⟨w.heap.size, 0, none⟩ (.int .i64 low)) w.heap.size 1 _ _ (.slice a2 (xs.length + 1) c2) b1
        have o1 := ho.apart g1 (fun k h1 h2 => by have := (ho.lt k h1).1; cases h2; omega)
        have s1 := S.apart g1 (by simp; omega) (fun b e => by cases e; have := S.lo; omega)
        have G1 := grown_trans'' G g1 (fun b e => by cases e; omega)
        have k0 : ((w9.setCell ⟨w.heap.size, 0, none⟩ (.int .i64 low)).setCell ⟨w.heap.size, 1, none⟩ (.slice a2 (xs.length + 1) c2)).cell? ⟨w.heap.size, 0, none⟩ = some (.int .i64 low) := (cell_of (i := 0) b2).trans rfl
        have k1 : ((w9.setCell ⟨w.heap.size, 0, none⟩ (.int .i64 low)).setCell ⟨w.heap.size, 1, none⟩ (.slice a2 (xs.length + 1) c2)).cell? ⟨w.heap.size, 1, none⟩ = some (.slice a2 (xs.length + 1) c2) := (cell_of (i := 1) b2).trans rfl
        clear ho S G h2b h3 d0 d1 z0 z1 b1 L
        generalize (w9.setCell ⟨w.heap.size, 0, none⟩ (.int .i64 low)).setCell ⟨w.heap.size, 1, none⟩ (.slice a2 (xs.length + 1) c2) = wz at g1 b2 o1 s1 G1 k0 k1 ⊢
        refine bodyPost_ret (v := .agg #[.int .i64 low, .slice a2 (xs.length + 1) c2]) (by simp [results, Try.results42, go_sem, k0, k1]) rfl ?_
        exact ⟨_, _, ys, rfl, o1.mono (by omega), by first | omega | (have := HLL.out; omega), HSM.out, hlow, s1, G1⟩
      · have h2i : ((q : Int) == 2) = false := by simp; omega
        clear d0 d1 z0 z1
        go_upto_region 9 with (fail)
        have d0 : w'.cell? ⟨b3, 0, none⟩ = some (.int .i64 low) := (cell_of (i := 0) h3).trans rfl
        have d1 : w'.cell? ⟨b3, 1, none⟩ = some (.slice a xs.length c) := (cell_of (i := 1) h3).trans rfl
        have y0 : w'.cell? ⟨w.heap.size, 0, none⟩ = some (.int .i64 0) := (cell_of (i := 0) h2b).trans rfl
        have y1 : w'.cell? ⟨w.heap.size, 1, none⟩ = some (.slice none 0 0) := (cell_of (i := 1) h2b).trans rfl
        have z0 := frozen_of_row w' _ 0 _ _ h2b
        have z1 := frozen_of_row w' _ 1 _ _ h2b
        go_wp2
        have g1 := grownBy_trans (grownBy_setCell w' w.heap.size 0 (.int .i64 low)) (grownBy_setCell (w'.setCell ⟨w.heap.size, 0, none⟩ (.int .i64 low)) w.heap.size 1 (.slice a xs.length c))
        have b1 := heap_setCell_same w' w.heap.size 0 _ _ (.int .i64 low) h2b
        have b2 := heap_setCell_same (w'.setCell ⟨w.heap.size, 0, none⟩ (.int .i64 low)) w.heap.size 1 _ _ (.slice a xs.length c) b1
        have o1 := ho.apart g1 (fun k h1 h2 => by have := (ho.lt k h1).1; cases h2; omega)
        have s1 := S.apart g1 (by simp; omega) (fun b e => by cases e; have := S.lo; omega)
        have G1 := grown_trans'' G g1 (fun b e => by cases e; omega)
        have k0 : ((w'.setCell ⟨w.heap.size, 0, none⟩ (.int .i64 low)).setCell ⟨w.heap.size, 1, none⟩ (.slice a xs.length c)).cell? ⟨w.heap.size, 0, none⟩ = some (.int .i64 low) := (cell_of (i := 0) b2).trans rfl
        have k1 : ((w'.setCell ⟨w.heap.size, 0, none⟩ (.int .i64 low)).setCell ⟨w.heap.size, 1, none⟩ (.slice a xs.length c)).cell? ⟨w.heap.size, 1, none⟩ = some (.slice a xs.length c) := (cell_of (i := 1) b2).trans rfl
        clear ho S G h2b h3 d0 d1 z0 z1 b1 L
        generalize (w'.setCell ⟨w.heap.size, 0, none⟩ (.int .i64 low)).setCell ⟨w.heap.size, 1, none⟩ (.slice a xs.length c) = wz at g1 b2 o1 s1 G1 k0 k1 ⊢
        refine bodyPost_ret (v := .agg #[.int .i64 low, .slice a xs.length c]) (by simp [results, Try.results42, go_sem, k0, k1]) rfl ?_
        exact ⟨_, _, xs, rfl, o1.mono (by omega), by first | omega | (have := HLL.out; omega), HSM.out, hlow, s1, G1⟩
end Go.Proofs.Ytcipdgmimmngoaa
