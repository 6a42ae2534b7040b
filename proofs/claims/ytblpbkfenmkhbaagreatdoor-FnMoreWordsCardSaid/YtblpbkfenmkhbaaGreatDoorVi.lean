/- Where strands end, by the program. Conditions: as each theorem says. -/
import Derived.Test.YtblpbkfenmkhbaaGreatDoorVh
import Derived.Test.YtblpbkfenmkhbaaGreatDoorMa
namespace Go.Proofs.YtblpbkfenmkhbaaGreatDoor
open Go.RowKit
set_option linter.unusedSimpArgs false
set_option linter.unusedVariables false
theorem own_ne {e T : TypeId} {w : World} {B b : Nat} {c : Array Value} {v : Value} {xs : List Int} (h : own e w B v xs) (hb : w.heap[b]? = some (.cells c T)) (hT : T ≠ e) : v.ownBlock ≠ some b := by
  intro hv
  rcases h.2 with ⟨rfl, _⟩ | ⟨g, cap, cur, rfl, hg, hh, _⟩
  · cases hv
  · simp only [Value.ownBlock, Option.some.injEq] at hv
    subst hv
    rw [hh] at hb
    cases hb
    exact hT rfl
theorem own_made_under {e : TypeId} {w : World} {B b m : Nat} {c : Array Value} {o : Obj} (hb : b = w.heap.size) (hB : B ≤ w.heap.size) (hm : m ≤ maxLen) (hc : c.size = m) : own e ((w.alloc (.cells c e)).alloc o) B (.slice (some ⟨b, 0, none⟩) 0 m) [] :=
  hb ▸ (own_made hB hm hc).kept (Below.alloc (Below.refl _ _) (Nat.le_refl _) o)
theorem reads_one {w : World} {e : TypeId} {b : Nat} {u : Int} (hb : b = w.heap.size) : reads (w.alloc (.cells #[.int .i64 u] e)) (.slice (some ⟨b, 0, none⟩) 1 1) [u] := by
  refine ⟨_, 1, rfl, .inr ⟨b, 0, rfl, fun i hi => ?_⟩⟩
  have : i = 0 := by simp at hi; omega
  subst this
  rw [World.cell?_alloc_at _ _ _ _ (by omega)]; rfl
theorem kept_grown {w w' : World} {o : Obj} {row : Option Nat} {b : Nat} {x : Obj} (h : w.heap[b]? = some x) (hg : (w.alloc o).grownBy w' row) (hne : row ≠ some b) : w'.heap[b]? = some x := by
  rw [hg.block b (by rw [World.size_alloc]; exact Nat.lt_succ_of_lt (heap_lt h)) (fun e => hne e.symm)]
  rw [Below.heap_alloc w o b (heap_lt h)]; exact h
theorem arr_cell {w : World} {b n : Nat} {T : TypeId} {k : IntKind} {f : Nat → Int} (h : w.heap[b]? = some (.cells (arrF k n f) T)) {i : Nat} (hi : i < n) : w.cell? ⟨b, i, none⟩ = some (.int k (f i)) := by
  simp [World.cell?, h, arrF_get k n f i hi]
set_option maxHeartbeats 1000000 in
theorem endsOf_any (m : Nat) (v : Value) (xs : List Int) (w : World) (h : reads w v xs) (h1 : 1 ≤ m) (h2 : m ≤ 8) (hlen : xs.length ≤ 200) (hlet : LetK m (absL xs) xs.length) : Calls Tryz.prog 43 #[.agg #[.int .i64 m, v]] w (RetInts 2 w (lstOf m (backK (seqK m (absL xs) xs.length) m))) := by
  have HF := Lib.hid (fun w' (hb : Below w.heap.size w w') => follow_any m v xs w' (h.kept hb) h1 h2 hlen hlet)
  have hlt8 : ∀ i, i < m → seqK m (absL xs) xs.length i < m := fun i hi => (seq_perm _ hlet).lt i hi
  obtain ⟨a, c, rfl, hs⟩ := id h
  clear hs
  generalize seqK m (absL xs) xs.length = s at HF hlt8 ⊢
  clear h hlet hlen
  go_enter Tryz.func43, Tryz.ntmps43
  go_wp2_with (first | (at_make; refine wpList_make_ints _ rfl _ _ 24 rfl 2 Tryz.underlying24 infoI m rfl rfl (by omega) ?_; intro w' ho hB; have hm0 := (ho.lt _ rfl).2; (simp only [World.size_alloc] at ho hm0); obtain ⟨j0, d0, rfl⟩ := plus_of_below hB; clear hB) | (go_at_call 66; refine Calls.mono (HF.out _ ?_) ?_; (repeat (first | (with_reducible exact Below.refl _ _) | (with_reducible assumption) | (with_reducible refine below_plus' ?_ ?_; ((try simp only [plus_size, World.size_alloc, World.size_drew, World.size_setCell, size_setRow, World.heap_drewN, List.length_append]) <;> omega)) | (with_reducible refine below_alloc' ?_ ?_; ((try simp only [plus_size, World.size_alloc, World.size_drew, World.size_setCell, size_setRow, World.heap_drewN, List.length_append]) <;> omega)) | with_reducible refine Below.drew ?_ | (with_reducible refine below_drewN' ?_ _) | exact Below.refl _ _)); rintro e w' ⟨vs, rfl, hB, hs⟩; obtain ⟨gs, cs, rfl, hgs, _, _⟩ := own_some hs (by rw [lstOf_length]; omega); replace ho := ho.kept hB; (simp only [lstOf_length] at hs ⊢); obtain ⟨j1, d1, rfl⟩ := plus_of_below hB; clear hB))
  go_loopw [12] (fun sl wr => ∃ k : Nat, k ≤ m ∧ sl = .int .i64 k ∧ own 2 wr (w.heap.size + 1) (.slice (some ⟨w.heap.size + 1, 0, none⟩) m m) (lstOf m (backK s k)) ∧ own 2 wr (w.heap.size + 1) (.slice (some ⟨gs, 0, none⟩) m cs) (lstOf m s) ∧ Below (w.heap.size + 1) (w.alloc (.cells #[.int .i64 m, .slice a xs.length c] 26)) wr) (fun sl _ => m - (intOf sl).toNat)
  case atStart => exact ⟨0, by omega, rfl, by rw [show lstOf m (backK s 0) = List.replicate m 0 from ext_nth (by simp [lstOf]) (fun i hi => by rw [lstOf_length] at hi; rw [nth_lstOf hi]; simp [backK, zeroN, nth, hi])]; exact ho, hs.mono (by ((try simp only [plus_size, World.size_alloc, World.size_drew, World.size_setCell, size_setRow, World.heap_drewN, List.length_append]) <;> omega)), by (repeat (first | (with_reducible exact Below.refl _ _) | (with_reducible assumption) | (with_reducible refine below_plus' ?_ ?_; ((try simp only [plus_size, World.size_alloc, World.size_drew, World.size_setCell, size_setRow, World.heap_drewN, List.length_append]) <;> omega)) | (with_reducible refine below_alloc' ?_ ?_; ((try simp only [plus_size, World.size_alloc, World.size_drew, World.size_setCell, size_setRow, World.heap_drewN, List.length_append]) <;> omega)) | with_reducible refine Below.drew ?_ | (with_reducible refine below_drewN' ?_ _) | exact Below.refl _ _))⟩
  case round =>
    clear ho hs
    obtain ⟨k, hk, rfl, ho, hs, hbel⟩ := hrel
    by_cases hlt : k < m
    · have c1 := hs.cell (i := k) (by rw [lstOf_length]; omega)
      rw [nth_lstOf hlt] at c1
      have hsk := hlt8 k hlt
      have f1 := ho.free (s k)
      have c0 := ho.cell (i := s k) (by rw [lstOf_length]; exact hsk)
      have hlt1 := (ho.lt _ rfl).2
      have hlt2 := (hs.lt _ rfl).2
      have e1 := ho.set (s k) (k : Int)
      rw [lstOf_set, backK_succ] at e1
      have hne : gs ≠ w.heap.size + 1 := by have := hgs; have := hm0; (simp only [plus_size, World.size_alloc, World.size_drew, World.heap_drewN] at *); omega
      have e2 := hs.apart (grownBy_setCell wr (w.heap.size + 1) (s k) (.int .i64 (k : Int))) (fun q h3 h4 => hne (by cases h3; cases h4; rfl))
      have e3 := hbel.setCell (p := ⟨w.heap.size + 1, s k, none⟩) (Nat.le_refl _) (.int .i64 (k : Int))
      have E1 := Lib.hid e1
      have E2 := Lib.hid e2
      have E3 := Lib.hid e3
      clear e1 e2 e3 ho hs hbel
      go_wp2
      go_roundw
      case rel => exact ⟨k + 1, by omega, by go_num, E1.out, E2.out, E3.out⟩
      case measure => simp [intOf]; omega
    · obtain rfl : m = k := by omega
      go_wp2
      go_ret
      exact ⟨_, rfl, Below.trans (show Below w.heap.size w (w.alloc (.cells #[.int .i64 m, .slice a xs.length c] 26)) by (repeat (first | (with_reducible exact Below.refl _ _) | (with_reducible assumption) | (with_reducible refine below_plus' ?_ ?_; ((try simp only [plus_size, World.size_alloc, World.size_drew, World.size_setCell, size_setRow, World.heap_drewN, List.length_append]) <;> omega)) | (with_reducible refine below_alloc' ?_ ?_; ((try simp only [plus_size, World.size_alloc, World.size_drew, World.size_setCell, size_setRow, World.heap_drewN, List.length_append]) <;> omega)) | with_reducible refine Below.drew ?_ | (with_reducible refine below_drewN' ?_ _) | exact Below.refl _ _))) (hbel.mono (by ((try simp only [plus_size, World.size_alloc, World.size_drew, World.size_setCell, size_setRow, World.heap_drewN, List.length_append]) <;> omega))), ho.mono (by ((try simp only [plus_size, World.size_alloc, World.size_drew, World.size_setCell, size_setRow, World.heap_drewN, List.length_append]) <;> omega))⟩
end Go.Proofs.YtblpbkfenmkhbaaGreatDoor
