/- Two braids drawn over a code. Conditions: as each theorem says. -/
import Derived.Test.YtblpbkfenmkhbaaGreatDoorJd
import Derived.Deep.RegionHeld3
namespace Go.Proofs.YtblpbkfenmkhbaaGreatDoor
open Go.RowKit
set_option linter.unusedSimpArgs false
set_option linter.unusedVariables false
open Go.RowKit
theorem src_baseJ {W0 W w : World} {g m : Nat} {vc : Value} (h : Src W w g vc m) (hb : Below W0.heap.size W0 W) : Src W0 w g vc m :=
  ⟨Nat.le_trans hb.size h.lo, hb.trans (h.bel.mono hb.size), h.box⟩
theorem below_grownJ {w w' : World} {row : Option Nat} (h : Below w.heap.size w w') : w.grownBy w' row := ⟨h.os, h.tape, h.output, h.size, fun k hk _ => h.block k hk⟩
/-- two braids -/
def Wd2 (w : World) (k1 k2 : Nat) : Ending → World → Prop := fun en w' => ∃ (n : Int) (v1 : Value) (xs : List Int) (m : Int) (v2 : Value) (ys : List Int), en = .returned (.tuple #[.agg #[.int .i64 n, v1], .agg #[.int .i64 m, v2]]) ∧ own 2 w' w.heap.size v1 xs ∧ own 2 w' w.heap.size v2 ys ∧ xs.length ≤ k1 ∧ ys.length ≤ k2 ∧ Lts 100 xs ∧ Lts 100 ys ∧ (-100 ≤ n ∧ n ≤ 100) ∧ (-100 ≤ m ∧ m ≤ 100) ∧ Below w.heap.size w w'
/-- one braid -/
def Wd1 (w : World) (k : Nat) : Ending → World → Prop := fun en w' => ∃ (n : Int) (v1 : Value) (xs : List Int), en = .returned (.agg #[.int .i64 n, v1]) ∧ own 2 w' w.heap.size v1 xs ∧ xs.length ≤ k ∧ Lts 100 xs ∧ (-100 ≤ n ∧ n ≤ 100) ∧ Below w.heap.size w w'
/-- what holds when both results lie in their boxes -/
def Two2 (w Y : World) (b1 b2 : Nat) (n1 n2 : Int) (v1 v2 : Value) (l1 l2 : List Int) : Prop := boxed Y b1 26 n1 v1 ∧ boxed Y b2 26 n2 v2 ∧ own 2 Y w.heap.size v1 l1 ∧ own 2 Y w.heap.size v2 l2 ∧ Below w.heap.size w Y
theorem two_ab {w0 w : World} {b1 b2 : Nat} {k1 k2 n1 n2 : Int} {u1 u2 v1 v2 : Value} {l1 l2 : List Int} (h1 : boxed w b1 26 k1 u1) (h2 : boxed w b2 26 k2 u2) (hne : b1 ≠ b2) (o1 : own 2 w w0.heap.size v1 l1) (o2 : own 2 w w0.heap.size v2 l2) (hb : Below w0.heap.size w0 w) (hb1 : w0.heap.size ≤ b1) (hb2 : w0.heap.size ≤ b2) :
    Two2 w0 ((((w.setCell ⟨b1, 0, none⟩ (.int .i64 n1)).setCell ⟨b1, 1, none⟩ v1).setCell ⟨b2, 0, none⟩ (.int .i64 n2)).setCell ⟨b2, 1, none⟩ v2) b1 b2 n1 n2 v1 v2 l1 l2 := by
  have g1 := put2_grown w b1 (.int .i64 n1) v1
  have x1 : boxed _ b1 26 n1 v1 := put2_boxed (n' := n1) (v' := v1) h1
  have x2 : boxed _ b2 26 k2 u2 := grown_of h2 g1 (fun e => hne (Option.some.inj e))
  have y1 := o1.apart g1 (fun k e e2 => by cases e2; exact own_neD o1 h1 (by decide) e)
  have y2 := o2.apart g1 (fun k e e2 => by cases e2; exact own_neD o2 h1 (by decide) e)
  have z1 := hb.trans (below_of_grown g1 hb.size (fun k e => by cases e; exact hb1))
  have g2 := put2_grown ((w.setCell ⟨b1, 0, none⟩ (.int .i64 n1)).setCell ⟨b1, 1, none⟩ v1) b2 (.int .i64 n2) v2
  refine ⟨grown_of x1 g2 (fun e => hne (Option.some.inj e).symm), put2_boxed x2, (y1.apart g2 (fun k e e2 => by cases e2; exact own_neD y1 x2 (by decide) e)), (y2.apart g2 (fun k e e2 => by cases e2; exact own_neD y2 x2 (by decide) e)), z1.trans (below_of_grown g2 z1.size (fun k e => by cases e; exact hb2))⟩
theorem Two2.swap {w Y : World} {b1 b2 : Nat} {n1 n2 : Int} {v1 v2 : Value} {l1 l2 : List Int} (h : Two2 w Y b1 b2 n1 n2 v1 v2 l1 l2) : Two2 w Y b2 b1 n2 n1 v2 v1 l2 l1 := ⟨h.2.1, h.1, h.2.2.2.1, h.2.2.1, h.2.2.2.2⟩
theorem both_kept {w w' : World} {b : Nat} {T : TypeId} {n : Int} {v : Value} (h : boxed w b T n v) (hb : Below w.heap.size w w') : w'.cell? ⟨b, 0, none⟩ = some (.int .i64 n) ∧ w'.cell? ⟨b, 1, none⟩ = some v := have h2 : boxed w' b T n v := kept_of h hb; ⟨h2.c0, h2.c1⟩
theorem both_put {w : World} {b b1 : Nat} {T : TypeId} {n : Int} {v x y : Value} (h : boxed w b T n v) (hne : b1 ≠ b) : ((w.setCell ⟨b1, 0, none⟩ x).setCell ⟨b1, 1, none⟩ y).cell? ⟨b, 0, none⟩ = some (.int .i64 n) ∧ ((w.setCell ⟨b1, 0, none⟩ x).setCell ⟨b1, 1, none⟩ y).cell? ⟨b, 1, none⟩ = some v := have h2 : boxed _ b T n v := grown_of h (put2_grown w b1 x y) (fun e => hne (Option.some.inj e)); ⟨h2.c0, h2.c1⟩
theorem both_put2 {w : World} {b b1 b2 : Nat} {T : TypeId} {n : Int} {v x y x2 y2 : Value} (h : boxed w b T n v) (hne : b1 ≠ b) (hne2 : b2 ≠ b) : ((((w.setCell ⟨b1, 0, none⟩ x).setCell ⟨b1, 1, none⟩ y).setCell ⟨b2, 0, none⟩ x2).setCell ⟨b2, 1, none⟩ y2).cell? ⟨b, 0, none⟩ = some (.int .i64 n) ∧ ((((w.setCell ⟨b1, 0, none⟩ x).setCell ⟨b1, 1, none⟩ y).setCell ⟨b2, 0, none⟩ x2).setCell ⟨b2, 1, none⟩ y2).cell? ⟨b, 1, none⟩ = some v := both_put (grown_of h (put2_grown w b1 x y) (fun e => hne (Option.some.inj e)) : boxed _ b T n v) hne2
theorem boxed.both {w b T n v} (h : boxed w b T n v) : w.cell? ⟨b, 0, none⟩ = some (.int .i64 n) ∧ w.cell? ⟨b, 1, none⟩ = some v := ⟨h.c0, h.c1⟩
end Go.Proofs.YtblpbkfenmkhbaaGreatDoor
