/- Texts drawn and damaged. Conditions: as each theorem says. -/
import Derived.Test.YtblpbkfenmkhbaaGreatDoorQb
import Derived.Test.YtblpbkfenmkhbaaGreatDoorSh
import Derived.BigQuiet
import Derived.BigRegion
namespace Go.Proofs.YtblpbkfenmkhbaaGreatDoor
open Go.RowKit
set_option linter.unusedSimpArgs false
set_option linter.unusedVariables false
open Go.RowKit
/-- a sign's cell -/
theorem sign_cell {w : World} {b q : Nat} {T : TypeId} (h : w.heap[b]? = some (.cells #[.string ⟨#[48]⟩, .string ⟨#[49]⟩, .string ⟨#[50]⟩, .string ⟨#[57]⟩, .string ⟨#[120]⟩, .string ⟨#[45]⟩, .string ⟨#[58]⟩, .string ⟨#[32]⟩, .string ⟨#[43]⟩, .string ⟨#[94]⟩, .string ⟨#[46]⟩, .string ⟨#[10]⟩] T)) (hq : q < 12) : ∃ c : ByteArray, c.size = 1 ∧ w.cell? ⟨b, q, none⟩ = some (.string c) := by
  match q, hq with
  | 0, _ => exact ⟨⟨#[48]⟩, rfl, cell_of (i := 0) h⟩
  | 1, _ => exact ⟨⟨#[49]⟩, rfl, cell_of (i := 1) h⟩
  | 2, _ => exact ⟨⟨#[50]⟩, rfl, cell_of (i := 2) h⟩
  | 3, _ => exact ⟨⟨#[57]⟩, rfl, cell_of (i := 3) h⟩
  | 4, _ => exact ⟨⟨#[120]⟩, rfl, cell_of (i := 4) h⟩
  | 5, _ => exact ⟨⟨#[45]⟩, rfl, cell_of (i := 5) h⟩
  | 6, _ => exact ⟨⟨#[58]⟩, rfl, cell_of (i := 6) h⟩
  | 7, _ => exact ⟨⟨#[32]⟩, rfl, cell_of (i := 7) h⟩
  | 8, _ => exact ⟨⟨#[43]⟩, rfl, cell_of (i := 8) h⟩
  | 9, _ => exact ⟨⟨#[94]⟩, rfl, cell_of (i := 9) h⟩
  | 10, _ => exact ⟨⟨#[46]⟩, rfl, cell_of (i := 10) h⟩
  | 11, _ => exact ⟨⟨#[10]⟩, rfl, cell_of (i := 11) h⟩
theorem ext_size (s : ByteArray) (a b : Nat) (hab : a ≤ b) (hb : b ≤ s.size) : (s.extract a b).size = b - a := by
  simp [ByteArray.size_extract]
  omega
set_option maxHeartbeats 2000000 in
theorem damage_any (W w : World) (g : Nat) (vc : Value) (m h0 t : Nat) (s : ByteArray) (hC : readsC W vc m) (hm : m ≤ 1000000000) (hh0 : h0 < 18446744073709551616) (T : SrcT W w g vc m h0 t) (hs : s.size ≤ 4000000000) : Calls Tryz.prog 51 #[.pointer (some ⟨g, 0, none⟩), .string s] w fun e w' => ∃ (s' : ByteArray) (t' : Nat), e = .returned (.string s') ∧ ((t' = t + 1 ∧ s.size = 0 ∧ s'.size = 1) ∨ (t' = t + 3 ∧ s'.size ≤ s.size + 1)) ∧ SrcT W w' g vc m h0 t' ∧ w.grownBy w' (some g) := by
  have HC := Lib.hid hC
  have HH := Lib.hid hh0
  clear hC hh0
  have G := World.grownBy.refl w (some g)
  have L := T.lt
  go_enter Tryz.func51, Tryz.ntmps51
  go_upto_region 2 with (fail)
  have hb : (w.alloc (.cells #[.string ⟨#[48]⟩, .string ⟨#[49]⟩, .string ⟨#[50]⟩, .string ⟨#[57]⟩, .string ⟨#[120]⟩, .string ⟨#[45]⟩, .string ⟨#[58]⟩, .string ⟨#[32]⟩, .string ⟨#[43]⟩, .string ⟨#[94]⟩, .string ⟨#[46]⟩, .string ⟨#[10]⟩] 9)).heap[w.heap.size]? = some (.cells #[.string ⟨#[48]⟩, .string ⟨#[49]⟩, .string ⟨#[50]⟩, .string ⟨#[57]⟩, .string ⟨#[120]⟩, .string ⟨#[45]⟩, .string ⟨#[58]⟩, .string ⟨#[32]⟩, .string ⟨#[43]⟩, .string ⟨#[94]⟩, .string ⟨#[46]⟩, .string ⟨#[10]⟩] 9) := heap_alloc_last _ _
  have hbx : Below w.heap.size w (w.alloc (.cells #[.string ⟨#[48]⟩, .string ⟨#[49]⟩, .string ⟨#[50]⟩, .string ⟨#[57]⟩, .string ⟨#[120]⟩, .string ⟨#[45]⟩, .string ⟨#[58]⟩, .string ⟨#[32]⟩, .string ⟨#[43]⟩, .string ⟨#[94]⟩, .string ⟨#[46]⟩, .string ⟨#[10]⟩] 9)) := by (repeat (first | (with_reducible exact Below.refl _ _) | (with_reducible assumption) | (with_reducible refine below_plus' ?_ ?_; ((try simp only [plus_size, World.size_alloc, World.size_drew, World.size_setCell, size_setRow, World.heap_drewN, List.length_append]) <;> omega)) | (with_reducible refine below_alloc' ?_ ?_; ((try simp only [plus_size, World.size_alloc, World.size_drew, World.size_setCell, size_setRow, World.heap_drewN, List.length_append]) <;> omega)) | with_reducible refine Below.drew ?_ | (with_reducible refine below_drewN' ?_ _) | exact Below.refl _ _))
  replace T := T.kept hbx
  replace G := grown_below G hbx
  clear hbx
  
  generalize w.alloc (.cells #[.string ⟨#[48]⟩, .string ⟨#[49]⟩, .string ⟨#[50]⟩, .string ⟨#[57]⟩, .string ⟨#[120]⟩, .string ⟨#[45]⟩, .string ⟨#[58]⟩, .string ⟨#[32]⟩, .string ⟨#[43]⟩, .string ⟨#[94]⟩, .string ⟨#[46]⟩, .string ⟨#[10]⟩] 9) = wa at hb T G ⊢
  generalize hbs : w.heap.size = b at hb ⊢
  have hbg : g ≠ b := fun e => by have := T.src.box; obtain ⟨i, x, _, _, hx⟩ := this; rw [e, hb] at hx; cases hx
  have HBS := Lib.hid hbs
  clear hbs
  
  go_upto_region 3 with (first | (go_at_call 32; refine Calls.mono (nextT W _ g vc m _ h0 _ HC.out hm HH.out (T.kept (by (repeat (first | (with_reducible exact Below.refl _ _) | (with_reducible assumption) | (with_reducible refine below_plus' ?_ ?_; ((try simp only [plus_size, World.size_alloc, World.size_drew, World.size_setCell, size_setRow, World.heap_drewN, List.length_append]) <;> omega)) | (with_reducible refine below_alloc' ?_ ?_; ((try simp only [plus_size, World.size_alloc, World.size_drew, World.size_setCell, size_setRow, World.heap_drewN, List.length_append]) <;> omega)) | with_reducible refine Below.drew ?_ | (with_reducible refine below_drewN' ?_ _) | exact Below.refl _ _)))) (by omega) (by omega)) ?_; rintro e w' ⟨q, hq, rfl, T1, hg, zq⟩; have Zq := Lib.hid zq; clear zq; replace T := T1; clear T1; replace G := grownBy_trans (grown_below G (by (repeat (first | (with_reducible exact Below.refl _ _) | (with_reducible assumption) | (with_reducible refine below_plus' ?_ ?_; ((try simp only [plus_size, World.size_alloc, World.size_drew, World.size_setCell, size_setRow, World.heap_drewN, List.length_append]) <;> omega)) | (with_reducible refine below_alloc' ?_ ?_; ((try simp only [plus_size, World.size_alloc, World.size_drew, World.size_setCell, size_setRow, World.heap_drewN, List.length_append]) <;> omega)) | with_reducible refine Below.drew ?_ | (with_reducible refine below_drewN' ?_ _) | exact Below.refl _ _)))) hg; have L := T.lt; have hb2 := grown_of (kept_of hb (by (repeat (first | (with_reducible exact Below.refl _ _) | (with_reducible assumption) | (with_reducible refine below_plus' ?_ ?_; ((try simp only [plus_size, World.size_alloc, World.size_drew, World.size_setCell, size_setRow, World.heap_drewN, List.length_append]) <;> omega)) | (with_reducible refine below_alloc' ?_ ?_; ((try simp only [plus_size, World.size_alloc, World.size_drew, World.size_setCell, size_setRow, World.heap_drewN, List.length_append]) <;> omega)) | with_reducible refine Below.drew ?_ | (with_reducible refine below_drewN' ?_ _) | exact Below.refl _ _)))) hg (by simp; omega); obtain ⟨c, hc1, hc⟩ := sign_cell (q := q) hb2 (by omega); clear hb2))
  by_cases h0s : s.size = 0
  · go_wp2
    go_ret
    exact ⟨c, t + 1, rfl, .inl ⟨rfl, h0s, hc1⟩, T, G⟩
  · have e0 : ((s.size : Int) == 0) = false := beq_eq_false_iff_ne.2 (by omega)
    clear hb hc
    go_upto_region 7 with (first | (go_at_call 32; have h9 := hq2; clear h9; refine Calls.mono (nextT W _ g vc m _ h0 _ HC.out hm HH.out (T.kept (by (repeat (first | (with_reducible exact Below.refl _ _) | (with_reducible assumption) | (with_reducible refine below_plus' ?_ ?_; ((try simp only [plus_size, World.size_alloc, World.size_drew, World.size_setCell, size_setRow, World.heap_drewN, List.length_append]) <;> omega)) | (with_reducible refine below_alloc' ?_ ?_; ((try simp only [plus_size, World.size_alloc, World.size_drew, World.size_setCell, size_setRow, World.heap_drewN, List.length_append]) <;> omega)) | with_reducible refine Below.drew ?_ | (with_reducible refine below_drewN' ?_ _) | exact Below.refl _ _)))) (by omega) (by omega)) ?_; rintro e w' ⟨q3, hq3, rfl, T1, hg, zq3⟩; have Zq3 := Lib.hid zq3; clear zq3; replace T := T1; clear T1; replace G := grownBy_trans (grown_below G (by (repeat (first | (with_reducible exact Below.refl _ _) | (with_reducible assumption) | (with_reducible refine below_plus' ?_ ?_; ((try simp only [plus_size, World.size_alloc, World.size_drew, World.size_setCell, size_setRow, World.heap_drewN, List.length_append]) <;> omega)) | (with_reducible refine below_alloc' ?_ ?_; ((try simp only [plus_size, World.size_alloc, World.size_drew, World.size_setCell, size_setRow, World.heap_drewN, List.length_append]) <;> omega)) | with_reducible refine Below.drew ?_ | (with_reducible refine below_drewN' ?_ _) | exact Below.refl _ _)))) hg; have L := T.lt)
                                        | (go_at_call 32; refine Calls.mono (nextT W _ g vc m _ h0 _ HC.out hm HH.out (T.kept (by (repeat (first | (with_reducible exact Below.refl _ _) | (with_reducible assumption) | (with_reducible refine below_plus' ?_ ?_; ((try simp only [plus_size, World.size_alloc, World.size_drew, World.size_setCell, size_setRow, World.heap_drewN, List.length_append]) <;> omega)) | (with_reducible refine below_alloc' ?_ ?_; ((try simp only [plus_size, World.size_alloc, World.size_drew, World.size_setCell, size_setRow, World.heap_drewN, List.length_append]) <;> omega)) | with_reducible refine Below.drew ?_ | (with_reducible refine below_drewN' ?_ _) | exact Below.refl _ _)))) (by omega) (by omega)) ?_; rintro e w' ⟨q2, hq2, rfl, T1, hg, zq2⟩; have Zq2 := Lib.hid zq2; clear zq2; replace T := T1; clear T1; replace G := grownBy_trans (grown_below G (by (repeat (first | (with_reducible exact Below.refl _ _) | (with_reducible assumption) | (with_reducible refine below_plus' ?_ ?_; ((try simp only [plus_size, World.size_alloc, World.size_drew, World.size_setCell, size_setRow, World.heap_drewN, List.length_append]) <;> omega)) | (with_reducible refine below_alloc' ?_ ?_; ((try simp only [plus_size, World.size_alloc, World.size_drew, World.size_setCell, size_setRow, World.heap_drewN, List.length_append]) <;> omega)) | with_reducible refine Below.drew ?_ | (with_reducible refine below_drewN' ?_ _) | exact Below.refl _ _)))) hg; have L := T.lt))
    have hw2 : IntKind.i64.wrap ((q2 : Int) + 1) = ((q2 + 1 : Nat) : Int) := by rw [IntKind.wrap_i64]; omega
    have x1 := ext_size s 0 q2 (by omega) (by omega)
    have x2 := ext_size s (q2 + 1) s.size (by omega) (by omega)
    have x3 := ext_size s q2 s.size (by omega) (by omega)
    have hT := T.kept (show Below w'.heap.size w' w'.drew by (repeat (first | (with_reducible exact Below.refl _ _) | (with_reducible assumption) | (with_reducible refine below_plus' ?_ ?_; ((try simp only [plus_size, World.size_alloc, World.size_drew, World.size_setCell, size_setRow, World.heap_drewN, List.length_append]) <;> omega)) | (with_reducible refine below_alloc' ?_ ?_; ((try simp only [plus_size, World.size_alloc, World.size_drew, World.size_setCell, size_setRow, World.heap_drewN, List.length_append]) <;> omega)) | with_reducible refine Below.drew ?_ | (with_reducible refine below_drewN' ?_ _) | exact Below.refl _ _)))
    by_cases h3 : q3 = 0
    · subst h3
      go_upto_region 8 with (fail)
      go_region
      all_goals (
        go_wp2
        go_ret
        exact ⟨s.extract 0 q2 ++ c ++ s.extract (q2 + 1) s.size, t + 3, rfl, .inr ⟨rfl, by simp only [ByteArray.size_append]; omega⟩, T.kept (by (repeat (first | (with_reducible exact Below.refl _ _) | (with_reducible assumption) | (with_reducible refine below_plus' ?_ ?_; ((try simp only [plus_size, World.size_alloc, World.size_drew, World.size_setCell, size_setRow, World.heap_drewN, List.length_append]) <;> omega)) | (with_reducible refine below_alloc' ?_ ?_; ((try simp only [plus_size, World.size_alloc, World.size_drew, World.size_setCell, size_setRow, World.heap_drewN, List.length_append]) <;> omega)) | with_reducible refine Below.drew ?_ | (with_reducible refine below_drewN' ?_ _) | exact Below.refl _ _))), grown_below G (by (repeat (first | (with_reducible exact Below.refl _ _) | (with_reducible assumption) | (with_reducible refine below_plus' ?_ ?_; ((try simp only [plus_size, World.size_alloc, World.size_drew, World.size_setCell, size_setRow, World.heap_drewN, List.length_append]) <;> omega)) | (with_reducible refine below_alloc' ?_ ?_; ((try simp only [plus_size, World.size_alloc, World.size_drew, World.size_setCell, size_setRow, World.heap_drewN, List.length_append]) <;> omega)) | with_reducible refine Below.drew ?_ | (with_reducible refine below_drewN' ?_ _) | exact Below.refl _ _)))⟩)
    · have e3 : ((q3 : Int) == 0) = false := beq_eq_false_iff_ne.2 (by omega)
      by_cases h4 : q3 = 1
      · subst h4
        go_upto_region 10 with (fail)
        go_region
        all_goals (
          go_wp2
          go_ret
          exact ⟨s.extract 0 q2 ++ s.extract (q2 + 1) s.size, t + 3, rfl, .inr ⟨rfl, by simp only [ByteArray.size_append]; omega⟩, T.kept (by (repeat (first | (with_reducible exact Below.refl _ _) | (with_reducible assumption) | (with_reducible refine below_plus' ?_ ?_; ((try simp only [plus_size, World.size_alloc, World.size_drew, World.size_setCell, size_setRow, World.heap_drewN, List.length_append]) <;> omega)) | (with_reducible refine below_alloc' ?_ ?_; ((try simp only [plus_size, World.size_alloc, World.size_drew, World.size_setCell, size_setRow, World.heap_drewN, List.length_append]) <;> omega)) | with_reducible refine Below.drew ?_ | (with_reducible refine below_drewN' ?_ _) | exact Below.refl _ _))), grown_below G (by (repeat (first | (with_reducible exact Below.refl _ _) | (with_reducible assumption) | (with_reducible refine below_plus' ?_ ?_; ((try simp only [plus_size, World.size_alloc, World.size_drew, World.size_setCell, size_setRow, World.heap_drewN, List.length_append]) <;> omega)) | (with_reducible refine below_alloc' ?_ ?_; ((try simp only [plus_size, World.size_alloc, World.size_drew, World.size_setCell, size_setRow, World.heap_drewN, List.length_append]) <;> omega)) | with_reducible refine Below.drew ?_ | (with_reducible refine below_drewN' ?_ _) | exact Below.refl _ _)))⟩)
      · have e4 : ((q3 : Int) == 1) = false := beq_eq_false_iff_ne.2 (by omega)
        go_upto_region 11 with (fail)
        go_region
        all_goals (
          go_wp2
          go_ret
          exact ⟨s.extract 0 q2 ++ c ++ s.extract q2 s.size, t + 3, rfl, .inr ⟨rfl, by simp only [ByteArray.size_append]; omega⟩, T.kept (by (repeat (first | (with_reducible exact Below.refl _ _) | (with_reducible assumption) | (with_reducible refine below_plus' ?_ ?_; ((try simp only [plus_size, World.size_alloc, World.size_drew, World.size_setCell, size_setRow, World.heap_drewN, List.length_append]) <;> omega)) | (with_reducible refine below_alloc' ?_ ?_; ((try simp only [plus_size, World.size_alloc, World.size_drew, World.size_setCell, size_setRow, World.heap_drewN, List.length_append]) <;> omega)) | with_reducible refine Below.drew ?_ | (with_reducible refine below_drewN' ?_ _) | exact Below.refl _ _))), grown_below G (by (repeat (first | (with_reducible exact Below.refl _ _) | (with_reducible assumption) | (with_reducible refine below_plus' ?_ ?_; ((try simp only [plus_size, World.size_alloc, World.size_drew, World.size_setCell, size_setRow, World.heap_drewN, List.length_append]) <;> omega)) | (with_reducible refine below_alloc' ?_ ?_; ((try simp only [plus_size, World.size_alloc, World.size_drew, World.size_setCell, size_setRow, World.heap_drewN, List.length_append]) <;> omega)) | with_reducible refine Below.drew ?_ | (with_reducible refine below_drewN' ?_ _) | exact Below.refl _ _)))⟩)
end Go.Proofs.YtblpbkfenmkhbaaGreatDoor
