/- One term, by the reference. Conditions: as each theorem says. -/
import Derived.Test.YtnbpkbkgbpfomaaZf
import Derived.Test.YtnbpkbkgbpfomaaTp
namespace Go.Proofs.Ytnbpkbkgbpfomaa
open Go.RowKit
set_option linter.unusedSimpArgs false
set_option linter.unusedVariables false
open Go.RowKit
theorem reads_one1 {w : World} {e : TypeId} {b : Nat} {u : Int} (hb : b = w.heap.size) : reads (w.alloc (.cells #[.int .i64 u] e)) (.slice (some ⟨b, 0, none⟩) 1 1) [u] := by
  refine ⟨_, 1, rfl, .inr ⟨b, 0, rfl, fun i hi => ?_⟩⟩
  have : i = 0 := by simp at hi; omega
  subst this
  rw [World.cell?_alloc_at _ _ _ _ (by omega)]; rfl
theorem trim_one {n k : Int} (hk : k ≠ 0) : trimLow n [k] = n ∧ trimLst [k] = [k] := by
  have h := trim_is (low := n) (xs := [k]) (a := 0) (m := 1) (fun i hi => by omega) (fun i hi => nth_over (by simpa using hi)) (.inr ⟨by simpa [nth] using hk, by simpa [nth] using hk⟩)
  simpa using h
set_option maxHeartbeats 400000 in
theorem l05Term_any (k n : Int) (w : World) (hk : k ≠ 0) (hn1 : -100000 ≤ n) (hn2 : n ≤ 100000) : Calls Try.prog 30 #[.int .i64 k, .int .i64 n] w (RetB 2 w n [k]) := by
  have HT := Lib.hid (trim_one (n := n) hk)
  go_enter Try.func30, Try.ntmps30
  go_wp2_with (first | (go_at_call 34; go_loud (refine Calls.mono (l05Trim_any n _ _ [k] _ ?_ (by simp) (by simp) hn1 hn2) ?_; exact reads_one1 (by ((try simp only [plus_size, World.size_alloc, World.size_drew, World.size_setCell, size_setRow, World.heap_drewN, List.length_append]) <;> omega)); rw [HT.out.1, HT.out.2]); rintro e w' ⟨vG, rfl, hB, hoG⟩; have hrG := hoG.reads; obtain ⟨aG, cG, rfl⟩ := readsL_form hrG; obtain ⟨j, d, rfl⟩ := plus_of_below hB; clear hB))
  refine bodyPost_ret (v := .agg #[.int .i64 n, .slice aG 1 cG]) (by simp [results, Try.results30, go_sem]) rfl ?_
  exact ⟨_, rfl, by (repeat (first | (with_reducible exact Below.refl _ _) | (with_reducible assumption) | (with_reducible refine below_plus' ?_ ?_; ((try simp only [plus_size, World.size_alloc, World.size_drew, World.size_setCell, size_setRow, World.heap_drewN, List.length_append]) <;> omega)) | (with_reducible refine below_alloc' ?_ ?_; ((try simp only [plus_size, World.size_alloc, World.size_drew, World.size_setCell, size_setRow, World.heap_drewN, List.length_append]) <;> omega)) | with_reducible refine Below.drew ?_ | (with_reducible refine below_drewN' ?_ _) | exact Below.refl _ _)), own_farG hoG (by ((try simp only [plus_size, World.size_alloc, World.size_drew, World.size_setCell, size_setRow, World.heap_drewN, List.length_append]) <;> omega)) (by ((try simp only [plus_size, World.size_alloc, World.size_drew, World.size_setCell, size_setRow, World.heap_drewN, List.length_append]) <;> omega)) (by ((try simp only [plus_size, World.size_alloc, World.size_drew, World.size_setCell, size_setRow, World.heap_drewN, List.length_append]) <;> omega)) (by (repeat (first | (with_reducible exact List.prefix_rfl) | (with_reducible exact List.nil_prefix) | (refine List.IsPrefix.trans ?_ (List.prefix_append _ _)))))⟩
end Go.Proofs.Ytnbpkbkgbpfomaa
