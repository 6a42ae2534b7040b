/- Wide numbers compared. Conditions: as each theorem says. -/
import Derived.Test.YtcipdgmimmngoaaZ3
import Derived.Laws.StructEq
import Derived.Stop.BytesEq
namespace Go.Proofs.Ytcipdgmimmngoaa
open Go.RowKit
set_option linter.unusedSimpArgs false
set_option linter.unusedVariables false
/-- two arrays of numbers: are they equal? -/
theorem run_equalIn_arrF {P : Program} (w : World) (d : Nat) (t e : TypeId) (n : Nat) (k : IntKind) (ht : P.underlying t = some (.array n e)) (he : P.underlying e = some (.int k)) (hsz : ∀ w, (sizeOf e).run P w = .ok 1 w) (F G : Nat → Int) :
    (Op.equalIn (d + 2) t (.agg (arrF k n F)) (.agg (arrF k n G))).run P w = .ok ((List.range n).all fun i => F i == G i) w := by
  rw [List.range_eq_range', Op.equalIn]
  simp only [Sem.run_bind, run_underlying ht, Result.andThen_ok, hsz, Std.Legacy.Range.forIn_eq_forIn_range', Std.Legacy.Range.size, Nat.sub_zero, Nat.add_sub_cancel, Nat.div_one]
  have hl : ∀ i ∈ List.range' 0 n 1, i < n := fun i hi => by simpa using (List.mem_range'_1.1 hi).2
  generalize List.range' 0 n 1 = l at hl ⊢
  induction l with
  | nil => simp
  | cons i l ih =>
    have hi : i < n := hl i (by simp)
    have px : ∀ H : Nat → Int, (part e (arrF k n H) (i * 1)).run P w = .ok (.int k (H i)) w := fun H => by
      simp [part, isAgg, run_underlying he, arrF_get k n H i hi]
    have pe := run_equalIn_int (P := P) w d e k k (F i) (G i) he
    have ih' := ih (fun j hj => hl j (List.mem_cons_of_mem _ hj))
    simp only [List.forIn'_cons, List.forIn_cons, Sem.run_bind, px, Result.andThen_ok, pe, List.all_cons]
    cases hb : (F i == G i) with
    | false => simp
    | true => simpa using ih'
theorem eql_arrF {P : Program} (w : World) (t e : TypeId) (n : Nat) (k : IntKind) (ht : P.underlying t = some (.array n e)) (he : P.underlying e = some (.int k)) (hsz : ∀ w, (sizeOf e).run P w = .ok 1 w) (F G : Nat → Int) :
    (binOp .eql t (.agg (arrF k n F)) (.agg (arrF k n G))).run P w = .ok (.bool ((List.range n).all fun i => F i == G i)) w := by
  rw [run_eql_struct, run_equalIn_arrF w 9998 t e n k ht he hsz F G]
  rfl
end Go.Proofs.Ytcipdgmimmngoaa
