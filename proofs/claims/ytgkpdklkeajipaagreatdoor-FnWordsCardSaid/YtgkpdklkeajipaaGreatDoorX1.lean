/- Tables by the program. Conditions: as each theorem says. -/
import Derived.Test.YtgkpdklkeajipaaGreatDoorTb
import Derived.Test.YtgkpdklkeajipaaGreatDoorVh
namespace Go.Proofs.YtgkpdklkeajipaaGreatDoor
open Go.RowKit
set_option linter.unusedSimpArgs false
set_option linter.unusedVariables false
theorem infoS : (Tryz.prog.info? 24).map (fun i => (i.zero, i.size, i.bytes)) = some (some (.slice none 0 0), 1, 24) := by kernel_rfl
theorem tab_far {E e : TypeId} {w w0 : World} {B b n c : Nat} {v : Value} {M : List (List Int)} (h : tab E e w0 B v M) (hb : w0.heap.size ≤ b) (hm : ∀ vs : List Value, w.ownsRow B E 1 v M.length vs → w0.ownsRow B E 1 v M.length vs) : ∀ k, (Value.slice (some ⟨b, 0, none⟩) n c).ownBlock = some k → ∀ vs : List Value, w.ownsRow B E 1 v M.length vs → ∀ i, i < M.length → (slot vs i).ownBlock ≠ some k := by
  intro k hk vs hvs i hi he
  have := h.rows_lt (hm vs hvs) i hi k he
  have e : b = k := by simpa [Value.ownBlock] using hk
  omega
theorem row_back {E : TypeId} {w w0 : World} {B n : Nat} {v : Value} {vs : List Value} (hb : Below w0.heap.size w0 w) (hl : ∀ k, v.ownBlock = some k → k < w0.heap.size) (h : w.ownsRow B E 1 v n vs) : w0.ownsRow B E 1 v n vs := by
  obtain ⟨h1, h2⟩ := h
  refine ⟨h1, ?_⟩
  rcases h2 with h2 | ⟨g, cap, cur, hv, hg, hh, r⟩
  · exact .inl h2
  · refine .inr ⟨g, cap, cur, hv, hg, ?_, r⟩
    rw [← hb.block g (hl g (by rw [hv]; rfl))]; exact hh
theorem tab.lt {E e : TypeId} {w : World} {B : Nat} {v : Value} {M : List (List Int)} (h : tab E e w B v M) : ∀ k, v.ownBlock = some k → B ≤ k ∧ k < w.heap.size := by
  obtain ⟨vs, h1, h2, h3, h4⟩ := h
  exact h2.lt
/-- what a function answers that hands a table back in memory of its own -/
def RetTab (E e : TypeId) (w : World) (M : List (List Int)) : Ending → World → Prop := fun en w' => ∃ v, en = .returned v ∧ Below w.heap.size w w' ∧ tab E e w' w.heap.size v M
def RetTab2 (E e : TypeId) (w : World) (M : List (List Int)) (c : Int) : Ending → World → Prop := fun en w' => ∃ v, en = .returned (.tuple #[v, .int .i64 c]) ∧ Below w.heap.size w w' ∧ tab E e w' w.heap.size v M
set_option maxHeartbeats 1000000 in
theorem zeroRows_any (m : Nat) (w : World) (h8 : m ≤ 8) : Calls Tryz.prog 38 #[.int .i64 m] w (RetTab 24 2 w (List.replicate m (List.replicate m 0))) := by
  go_enter Tryz.func38, Tryz.ntmps38
  go_wp2
  go_loopw [3, 6] (fun vo sl wr => ∃ (k : Nat), k ≤ m ∧ sl = .int .i64 k ∧ Below w.heap.size w wr ∧ tab 24 2 wr w.heap.size vo (List.replicate k (List.replicate m 0))) (fun _ sl _ => m - (intOf sl).toNat)
  case atStart => exact ⟨0, by omega, rfl, by (repeat (first | (with_reducible exact Below.refl _ _) | (with_reducible assumption) | (with_reducible refine below_plus' ?_ ?_; ((try simp only [plus_size, World.size_alloc, World.size_drew, World.size_setCell, size_setRow, World.heap_drewN, List.length_append]) <;> omega)) | (with_reducible refine below_alloc' ?_ ?_; ((try simp only [plus_size, World.size_alloc, World.size_drew, World.size_setCell, size_setRow, World.heap_drewN, List.length_append]) <;> omega)) | with_reducible refine Below.drew ?_ | (with_reducible refine below_drewN' ?_ _) | exact Below.refl _ _)), tab_made rfl (Nat.le_refl _) (by decide) rfl⟩
  case round =>
    obtain ⟨k, hk, rfl, hbel, ht⟩ := hrel
    have hsz := hbel.size
    by_cases hlt : k < m
    · obtain ⟨MM, hMM⟩ : ∃ MM, List.replicate k (List.replicate m (0 : Int)) = MM := ⟨_, rfl⟩
      have HML := Lib.hid (show MM.length = k by rw [← hMM]; simp)
      rw [hMM] at ht
      obtain ⟨a, c, rfl⟩ := ht.len
      go_wp2_with (first | (at_make; refine wpList_make_ints _ rfl _ _ 24 rfl 2 Tryz.underlying24 infoI m rfl rfl (by omega) ?_; intro w' ho hB; obtain ⟨j0, d0, rfl⟩ := plus_of_below hB; clear hB; have ht2 := ht.kept (show Below wr.heap.size wr (plus wr j0 d0) by (repeat (first | (with_reducible exact Below.refl _ _) | (with_reducible assumption) | (with_reducible refine below_plus' ?_ ?_; ((try simp only [plus_size, World.size_alloc, World.size_drew, World.size_setCell, size_setRow, World.heap_drewN, List.length_append]) <;> omega)) | (with_reducible refine below_alloc' ?_ ?_; ((try simp only [plus_size, World.size_alloc, World.size_drew, World.size_setCell, size_setRow, World.heap_drewN, List.length_append]) <;> omega)) | with_reducible refine Below.drew ?_ | (with_reducible refine below_drewN' ?_ _) | exact Below.refl _ _))))
                                        | (at_builtin; go_loud (refine wpList_appendT rfl _ _ 37 rfl 24 2 Tryz.underlying37 infoS (by decide) w.heap.size (.slice a MM.length c) (MM) rfl _ rfl (.slice (some ⟨wr.heap.size, 0, none⟩) m m) (List.replicate m 0) (by rw [World.cell?_alloc_at _ _ _ _ (by ((try simp only [plus_size, World.size_alloc, World.size_drew, World.size_setCell, size_setRow, World.heap_drewN, List.length_append]) <;> omega))]; rfl) (ht2.kept (by (repeat (first | (with_reducible exact Below.refl _ _) | (with_reducible assumption) | (with_reducible refine below_plus' ?_ ?_; ((try simp only [plus_size, World.size_alloc, World.size_drew, World.size_setCell, size_setRow, World.heap_drewN, List.length_append]) <;> omega)) | (with_reducible refine below_alloc' ?_ ?_; ((try simp only [plus_size, World.size_alloc, World.size_drew, World.size_setCell, size_setRow, World.heap_drewN, List.length_append]) <;> omega)) | with_reducible refine Below.drew ?_ | (with_reducible refine below_drewN' ?_ _) | exact Below.refl _ _)))) ((ho.kept (by (repeat (first | (with_reducible exact Below.refl _ _) | (with_reducible assumption) | (with_reducible refine below_plus' ?_ ?_; ((try simp only [plus_size, World.size_alloc, World.size_drew, World.size_setCell, size_setRow, World.heap_drewN, List.length_append]) <;> omega)) | (with_reducible refine below_alloc' ?_ ?_; ((try simp only [plus_size, World.size_alloc, World.size_drew, World.size_setCell, size_setRow, World.heap_drewN, List.length_append]) <;> omega)) | with_reducible refine Below.drew ?_ | (with_reducible refine below_drewN' ?_ _) | exact Below.refl _ _)))).mono hbel.size) (tab_far ht (Nat.le_refl _) (fun vs hvs => row_back (by (repeat (first | (with_reducible exact Below.refl _ _) | (with_reducible assumption) | (with_reducible refine below_plus' ?_ ?_; ((try simp only [plus_size, World.size_alloc, World.size_drew, World.size_setCell, size_setRow, World.heap_drewN, List.length_append]) <;> omega)) | (with_reducible refine below_alloc' ?_ ?_; ((try simp only [plus_size, World.size_alloc, World.size_drew, World.size_setCell, size_setRow, World.heap_drewN, List.length_append]) <;> omega)) | with_reducible refine Below.drew ?_ | (with_reducible refine below_drewN' ?_ _) | exact Below.refl _ _))) (fun k hk => (ht.lt k hk).2) hvs)) (by rw [HML.out]; omega) (by ((try simp only [plus_size, World.size_alloc, World.size_drew, World.size_setCell, size_setRow, World.heap_drewN, List.length_append]) <;> omega)) ?_; intro v' w' ht' hg' hB')))
      go_roundw
      case rel => exact ⟨k + 1, by omega, by go_num, Below.trans (show Below w.heap.size w _ by (repeat (first | (with_reducible exact Below.refl _ _) | (with_reducible assumption) | (with_reducible refine below_plus' ?_ ?_; ((try simp only [plus_size, World.size_alloc, World.size_drew, World.size_setCell, size_setRow, World.heap_drewN, List.length_append]) <;> omega)) | (with_reducible refine below_alloc' ?_ ?_; ((try simp only [plus_size, World.size_alloc, World.size_drew, World.size_setCell, size_setRow, World.heap_drewN, List.length_append]) <;> omega)) | with_reducible refine Below.drew ?_ | (with_reducible refine below_drewN' ?_ _) | exact Below.refl _ _))) hB', by rw [List.replicate_succ', hMM]; exact ht'⟩
      case measure => simp [intOf]; omega
    · obtain rfl : m = k := by omega
      go_wp2
      go_ret
      exact ⟨_, rfl, hbel, ht⟩
end Go.Proofs.YtgkpdklkeajipaaGreatDoor
