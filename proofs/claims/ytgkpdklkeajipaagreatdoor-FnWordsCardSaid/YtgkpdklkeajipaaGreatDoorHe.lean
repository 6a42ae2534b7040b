/- Texts of braids read by the reference. Conditions: as each theorem says. -/
import Derived.Test.YtgkpdklkeajipaaGreatDoorHd
import Derived.Test.YtgkpdklkeajipaaGreatDoorMa
import Derived.BigRegion
import Derived.Deep.RegionWith
import Derived.Deep.Cut
import Derived.Deep.CutRange
namespace Go.Proofs.YtgkpdklkeajipaaGreatDoor
open Go.RowKit
set_option linter.unusedSimpArgs false
set_option linter.unusedVariables false
open Go.RowKit
theorem boxed.fr0 {w b T n v} (h : boxed w b T n v) : w.frozen? ⟨b, 0, none⟩ = false := frozen_of_row w b 0 _ T h
theorem boxed.fr1 {w b T n v} (h : boxed w b T n v) : w.frozen? ⟨b, 1, none⟩ = false := frozen_of_row w b 1 _ T h
theorem grown_then_below {w a b : World} {row : Option Nat} (h : w.grownBy a row) (hb : Below w.heap.size a b) : w.grownBy b row :=
  ⟨hb.os.trans h.os, hb.tape.trans h.tape, hb.output.trans h.output, Nat.le_trans h.size hb.size, fun k hk hr => (hb.block k hk).trans (h.block k hk hr)⟩
theorem put2_boxed {w : World} {b : Nat} {T : TypeId} {n n' : Int} {v v' : Value} (h : boxed w b T n v) : boxed ((w.setCell ⟨b, 0, none⟩ (.int .i64 n')).setCell ⟨b, 1, none⟩ v') b T n' v' := by
  have h1 := heap_setCell_same w b 0 _ T (.int .i64 n') h
  have h2 := heap_setCell_same _ b 1 _ T v' h1
  unfold boxed
  rw [h2]
  simp
theorem put2_below {w0 w : World} {b : Nat} (x y : Value) (h : Below w0.heap.size w0 w) (hb : w0.heap.size ≤ b) : Below w0.heap.size w0 ((w.setCell ⟨b, 0, none⟩ x).setCell ⟨b, 1, none⟩ y) :=
  h.grown (grownBy_trans (grownBy_setCell w b 0 x) (grownBy_setCell _ b 1 y)) h.size (fun k e => by cases e; exact hb)
theorem bodyPost_gen {P : Program} {fn : Func} {R : Ending → World → Prop} {e : Exit} {a : Act} {X : World} (F : World → Prop) (hf : F X) (h : ∀ Y, F Y → bodyPost P fn R e a Y) : bodyPost P fn R e a X := h X hf
theorem byteAt_snoc (l : List UInt8) (b : UInt8) : byteAt (l ++ [b]) l.length = b.toNat := by simp [byteAt]
theorem take_snoc {l : List UInt8} {m : Nat} (h : l.length = m + 1) (e : byteAt l m = 58) : l = l.take m ++ [58] := by
  have h2 : m < l.length := by omega
  have e2 : l[m] = 58 := by
    apply UInt8.toNat_inj.1
    simp only [byteAt, List.getD_eq_getElem?_getD, List.getElem?_eq_getElem h2, Option.getD_some] at e
    rw [e]; rfl
  rw [← e2, ← List.take_succ_eq_append_getElem h2, List.take_of_length_le (by omega)]
theorem wpc_gen {P : Program} {c : Code} {Q : Exit → Act → World → Prop} {a : Act} {X : World} (F : World → Prop) (hf : F X) (h : ∀ Y, F Y → c.wp P Q a Y) : c.wp P Q a X := h X hf
theorem put1_boxed {w : World} {b : Nat} {T : TypeId} {n : Int} {v v' : Value} (h : boxed w b T n v) : boxed (w.setCell ⟨b, 1, none⟩ v') b T n v' := by
  have h2 := heap_setCell_same w b 1 _ T v' h
  unfold boxed
  rw [h2]
  simp
theorem cell_grown {w w' : World} {b k : Nat} {row : Option Nat} {x : Value} (hg : w.grownBy w' row) (hb : b < w.heap.size) (hne : row ≠ some b) (h : w.cell? ⟨b, k, none⟩ = some x) : w'.cell? ⟨b, k, none⟩ = some x := by
  rw [← h]
  exact World.cell?_of_block (hg.block b hb (fun e => hne e.symm))
theorem Fits_of {xs : List Int} (h : ∀ j, j < xs.length → -1000000000 ≤ nth xs j ∧ nth xs j ≤ 1000000000) : Fits xs := fun x hx => by obtain ⟨i, hi, rfl⟩ := mem_nth hx; have := h i hi; omega
theorem nth_left {ys : List Int} {x : Int} {j : Nat} (h : j < ys.length) : nth (ys ++ [x]) j = nth ys j := by simp [nth, List.getElem?_append_left h]
theorem nth_last {ys : List Int} {x : Int} : nth (ys ++ [x]) ys.length = x := by simp [nth]
theorem getD_tail {W : List (List UInt8)} {j : Nat} : W.tail.getD j [] = W.getD (j + 1) [] := by cases W <;> simp
theorem cons_tail {W : List (List UInt8)} (h : 0 < W.length) : W = W.getD 0 [] :: W.tail := by
  cases W with
  | nil => simp at h
  | cons a W => simp
theorem put2_grown (w : World) (b : Nat) (x y : Value) : w.grownBy ((w.setCell ⟨b, 0, none⟩ x).setCell ⟨b, 1, none⟩ y) (some b) := grownBy_trans (grownBy_setCell w b 0 x) (grownBy_setCell _ b 1 y)
theorem grown_refl (w : World) (row : Option Nat) : w.grownBy w row := ⟨rfl, rfl, rfl, Nat.le_refl _, fun _ _ _ => rfl⟩
end Go.Proofs.YtgkpdklkeajipaaGreatDoor
