/- Laws whose answer is a braid beside a code. Conditions: as each theorem says. -/
import Derived.Test.YtfghanmcmjgonaaDoorV3
import Derived.Deep.Cut
import Derived.Deep.CutRange
namespace Go.Proofs.YtfghanmcmjgonaaDoor
open Go.RowKit
set_option linter.unusedSimpArgs false
set_option linter.unusedVariables false
/-- what is known in the midst of a law: the boxes, the lists of its own, and that they lie apart -/
structure MidB (w wr : World) (N : Int) (vg vw : Value) (lw lg : List Int) (b4 b7 : Nat) : Prop where
  bel : Below w.heap.size w wr
  h4 : boxed wr b4 24 N vw
  h7 : boxed wr b7 24 N vg
  ow : own 2 wr w.heap.size vw lw
  og : own 2 wr w.heap.size vg lg
  aw : ∀ k, vw.ownBlock = some k → k ≠ b4 ∧ k ≠ b7 ∧ vg.ownBlock ≠ some k
  ag : ∀ k, vg.ownBlock = some k → k ≠ b4 ∧ k ≠ b7 ∧ vw.ownBlock ≠ some k
theorem MidB.kept {w wr w' : World} {N : Int} {vg vw : Value} {lw lg : List Int} {b4 b7 : Nat} (M : MidB w wr N vg vw lw lg b4 b7) (hb : Below wr.heap.size wr w') : MidB w w' N vg vw lw lg b4 b7 :=
  ⟨M.bel.trans (hb.mono M.bel.size), M.h4.kept hb, M.h7.kept hb, M.ow.kept hb, M.og.kept hb, M.aw, M.ag⟩
theorem MidB.markw {w wr w' : World} {N : Int} {vg vw : Value} {lw lg : List Int} {b4 b7 : Nat} {lq : List Int} (M : MidB w wr N vg vw lw lg b4 b7) (hx : own 2 w' w.heap.size vw lq) (hg : wr.grownBy w' vw.ownBlock) : MidB w w' N vg vw lq lg b4 b7 :=
  ⟨M.bel.trans (below_of_grown hg M.bel.size fun k hk => (M.ow.lt k hk).1), M.h4.grown hg (ne_row fun k hk => (M.aw k hk).1), M.h7.grown hg (ne_row fun k hk => (M.aw k hk).2.1), hx, M.og.apart hg (fun k h1 h2 => (M.aw k h2).2.2 h1), M.aw, M.ag⟩
theorem MidB.markg {w wr w' : World} {N : Int} {vg vw : Value} {lw lg : List Int} {b4 b7 : Nat} {lq : List Int} (M : MidB w wr N vg vw lw lg b4 b7) (hx : own 2 w' w.heap.size vg lq) (hg : wr.grownBy w' vg.ownBlock) : MidB w w' N vg vw lw lq b4 b7 :=
  ⟨M.bel.trans (below_of_grown hg M.bel.size fun k hk => (M.og.lt k hk).1), M.h4.grown hg (ne_row fun k hk => (M.ag k hk).1), M.h7.grown hg (ne_row fun k hk => (M.ag k hk).2.1), M.ow.apart hg (fun k h1 h2 => (M.ag k h2).2.2 h1), hx, M.aw, M.ag⟩
end Go.Proofs.YtfghanmcmjgonaaDoor
