/- The law of LengthsOf. Conditions: as each theorem says. -/
import Derived.Test.YtcfofdjdbojadaaN8
import Derived.Deep.Cut
import Derived.Deep.CutRange
namespace Go.Proofs.Ytcfofdjdbojadaa
open Go.RowKit
set_option linter.unusedSimpArgs false
set_option linter.unusedVariables false
/-- what is known in the midst of the law: the boxes, the lists of its own, and that they lie apart -/
structure MidL (w wr : World) (n z : Int) (v x vw vg : Value) (lw lg : List Int) (b1 b6 gx : Nat) : Prop where
  bel : Below w.heap.size w wr
  h1 : wr.heap[b1]? = some (.cells #[.int .i64 n, .int .i64 z, v] 24)
  h6 : wr.heap[b6]? = some (.cells #[.int .i64 n, .int .i64 z, x] 31)
  ow : own 2 wr w.heap.size vw lw
  og : own 2 wr w.heap.size vg lg
  xb : w.heap.size ≤ gx
  ax : b1 ≠ gx ∧ b6 ≠ gx ∧ vw.ownBlock ≠ some gx ∧ vg.ownBlock ≠ some gx
  ag : ∀ k, vg.ownBlock = some k → b1 ≠ k ∧ b6 ≠ k ∧ vw.ownBlock ≠ some k
section
variable {w wr w' : World} {n z : Int} {v x vw vg : Value} {lw lg lq : List Int} {b1 b6 gx : Nat}
theorem MidL.kept (M : MidL w wr n z v x vw vg lw lg b1 b6 gx) (hb : Below wr.heap.size wr w') : MidL w w' n z v x vw vg lw lg b1 b6 gx :=
  ⟨M.bel.trans (hb.mono M.bel.size), kept_of M.h1 hb, kept_of M.h6 hb, M.ow.kept hb, M.og.kept hb, M.xb, M.ax, M.ag⟩
theorem MidL.markx (M : MidL w wr n z v x vw vg lw lg b1 b6 gx) (hg : wr.grownBy w' (some gx)) : MidL w w' n z v x vw vg lw lg b1 b6 gx :=
  ⟨M.bel.trans (below_of_grown hg M.bel.size fun k hk => by cases hk; exact M.xb), grown_of M.h1 hg (fun e => M.ax.1 (Option.some.inj e).symm), grown_of M.h6 hg (fun e => M.ax.2.1 (Option.some.inj e).symm), M.ow.apart hg (fun k h1 h2 => M.ax.2.2.1 (h1.trans h2.symm)), M.og.apart hg (fun k h1 h2 => M.ax.2.2.2 (h1.trans h2.symm)), M.xb, M.ax, M.ag⟩
theorem MidL.markg (M : MidL w wr n z v x vw vg lw lg b1 b6 gx) (hx : own 2 w' w.heap.size vg lq) (hg : wr.grownBy w' vg.ownBlock) : MidL w w' n z v x vw vg lw lq b1 b6 gx :=
  ⟨M.bel.trans (below_of_grown hg M.bel.size fun k hk => (M.og.lt k hk).1), grown_of M.h1 hg (ne_row fun k hk => fun e => (M.ag k hk).1 e.symm), grown_of M.h6 hg (ne_row fun k hk => fun e => (M.ag k hk).2.1 e.symm), M.ow.apart hg (fun k h1 h2 => (M.ag k h2).2.2 h1), hx, M.xb, M.ax, M.ag⟩
end
set_option maxHeartbeats 400000 in
theorem markNormal_any (n z : Int) (g m : Nat) (s : Nat → Nat → Nat) (w : World) (h : ownP 44 w g m s m) (hlen : m ≤ 100000000) : Calls Try.prog 10 #[.agg #[.int .i64 n, .int .i64 z, .slice (some ⟨g, 0, none⟩) m m], .int .i64 1] w fun e w' => e = .returned (.int .i64 (1 + 8 * m)) ∧ w.grownBy w' (some g) := by
  have hgl := h.lt
  obtain ⟨cur, hc, hcs, _⟩ := h
  have H := Lib.hid (fun w' (hb : Below w.heap.size w w') => markArrs_any g m 1 w' cur ((hb.block g hgl).trans hc) hcs (by decide) (by decide) hlen)
  have HG := Lib.hid (fun (w' w'' : World) (hb : Below w.heap.size w w') (hg : w'.grownBy w'' (some g)) => grown_trans' hb hg)
  clear hc hcs
  go_enter Try.func10, Try.ntmps10
  go_wp2_with (first | (go_at_call 25; refine Calls.mono (H.out _ ?_) ?_; (repeat (first | (with_reducible exact Below.refl _ _) | (with_reducible assumption) | (with_reducible refine below_plus' ?_ ?_; ((try simp only [plus_size, World.size_alloc, World.size_drew, World.size_setCell, size_setRow, World.heap_drewN, List.length_append]) <;> omega)) | (with_reducible refine below_alloc' ?_ ?_; ((try simp only [plus_size, World.size_alloc, World.size_drew, World.size_setCell, size_setRow, World.heap_drewN, List.length_append]) <;> omega)) | with_reducible refine Below.drew ?_ | (with_reducible refine below_drewN' ?_ _) | exact Below.refl _ _)); rintro e w' ⟨rfl, hg⟩; replace hg := HG.out _ _ (by (repeat (first | (with_reducible exact Below.refl _ _) | (with_reducible assumption) | (with_reducible refine below_plus' ?_ ?_; ((try simp only [plus_size, World.size_alloc, World.size_drew, World.size_setCell, size_setRow, World.heap_drewN, List.length_append]) <;> omega)) | (with_reducible refine below_alloc' ?_ ?_; ((try simp only [plus_size, World.size_alloc, World.size_drew, World.size_setCell, size_setRow, World.heap_drewN, List.length_append]) <;> omega)) | with_reducible refine Below.drew ?_ | (with_reducible refine below_drewN' ?_ _) | exact Below.refl _ _))) hg))
  go_ret
  exact ⟨rfl, hg⟩
end Go.Proofs.Ytcfofdjdbojadaa
