/-
  No cell of these rows narrows 'for every input' (looked for: loops, veiled, ifaces, maps, wideKeys, modest, calm, conditions, laid).
  DERIVED. THE GIVEN ROWS OF THIS SEAT. 3 by the template 'for every input the law returns true; each argument reads behind the call as it read before'; 0 by the template 'total and deterministic' (their statements: YtikakoclmmmjdaaTotals.lean).
  GIVEN WITH THE SEED: the statements are not yours to turn. If you find one false, say at which input.
  Laid BY PROGRAM, IN A SANDBOX (cutbox-rows.mjs): the forced cells as the released guide's own fill.sh prints them over the translation 3c164440b1e8bdf9… (all of the seat's roots in one cut). By AI agents, Wed Nov 11 2026. No macro, syntax, notation, axiom, sorry.
-/
import Derived.Test.YtikakoclmmmjdaaChecked
import GoSem.Claim
import GoSem.ClaimJoined
import GoSem.ClaimMapViews
import Derived.JoinedTies
import Derived.KernelRfl
namespace Go.Proofs.Ytikakoclmmmjdaa
/- THE CELL 'sum', in the pinned program and in every row, IS THE sha256 OF THE DUMP (.gsa) THAT YtikakoclmmmjdaaProg.lean LOADS. Nothing in Lean hashes anything: it is a label: what it is worth is what the hold of that sum in a sandbox is worth. -/
noncomputable def Try.pinned : Pinned := { name := "ytikakoclmmmjdaa", sum := "3c164440b1e8bdf95bbe660ce9ed4ac647d99e663a089b5bc5d9d52fe0ebb64f", checked := Try.checked }
namespace Rows
def none {H : Type} : Left H := { results := [], args := [] }

/-- 'laws.FnExactBurauOf': WHATEVER THE INPUT: true; the input reads as it did. -/
def fnExactBurauOfSpec : ChangeSpec := { name := "fnExactBurauOf", fn := fun _ => fun
  | [d] => { results := [.lit (.bool true)], args := [d] }
  | _ => none }
def fnExactBurauOfRow : OpenClaim := { program := "ytikakoclmmmjdaa", sum := "3c164440b1e8bdf95bbe660ce9ed4ac647d99e663a089b5bc5d9d52fe0ebb64f", func := "loop.example/g01205/laws.FnExactBurauOf", spec := "fnExactBurauOf", inPlace := ["math/bits.Sub64", "math/bits.Add64"], unfollowed := true, recurses := true, apart := false }
def FnExactBurauOfSaid : Prop := fnExactBurauOfRow.holds Try.pinned (OpenSpec.ofChange fnExactBurauOfSpec)

/-- ITS FALSE NEIGHBOUR: 'it returns false'. Refute it at one input. -/
def fnExactBurauOfWrong : ChangeSpec := { name := "fnExactBurauOf", fn := fun _ => fun
  | [d] => { results := [.lit (.bool false)], args := [d] }
  | _ => none }
def FnExactBurauOfWrongFalsely : Prop := fnExactBurauOfRow.holds Try.pinned (OpenSpec.ofChange fnExactBurauOfWrong)

/-- 'laws.FnExactReducedBurau': WHATEVER THE INPUT: true; the input reads as it did. -/
def fnExactReducedBurauSpec : ChangeSpec := { name := "fnExactReducedBurau", fn := fun _ => fun
  | [d] => { results := [.lit (.bool true)], args := [d] }
  | _ => none }
def fnExactReducedBurauRow : OpenClaim := { program := "ytikakoclmmmjdaa", sum := "3c164440b1e8bdf95bbe660ce9ed4ac647d99e663a089b5bc5d9d52fe0ebb64f", func := "loop.example/g01205/laws.FnExactReducedBurau", spec := "fnExactReducedBurau", inPlace := ["math/bits.Sub64", "math/bits.Add64"], unfollowed := true, recurses := true, apart := false }
def FnExactReducedBurauSaid : Prop := fnExactReducedBurauRow.holds Try.pinned (OpenSpec.ofChange fnExactReducedBurauSpec)

/-- ITS FALSE NEIGHBOUR: 'it returns false'. Refute it at one input. -/
def fnExactReducedBurauWrong : ChangeSpec := { name := "fnExactReducedBurau", fn := fun _ => fun
  | [d] => { results := [.lit (.bool false)], args := [d] }
  | _ => none }
def FnExactReducedBurauWrongFalsely : Prop := fnExactReducedBurauRow.holds Try.pinned (OpenSpec.ofChange fnExactReducedBurauWrong)

/-- 'laws.FnExactTraceOf': WHATEVER THE INPUT: true; the input reads as it did. -/
def fnExactTraceOfSpec : ChangeSpec := { name := "fnExactTraceOf", fn := fun _ => fun
  | [d] => { results := [.lit (.bool true)], args := [d] }
  | _ => none }
def fnExactTraceOfRow : OpenClaim := { program := "ytikakoclmmmjdaa", sum := "3c164440b1e8bdf95bbe660ce9ed4ac647d99e663a089b5bc5d9d52fe0ebb64f", func := "loop.example/g01205/laws.FnExactTraceOf", spec := "fnExactTraceOf", inPlace := ["math/bits.Sub64", "math/bits.Add64"], unfollowed := true, recurses := true, apart := false }
def FnExactTraceOfSaid : Prop := fnExactTraceOfRow.holds Try.pinned (OpenSpec.ofChange fnExactTraceOfSpec)

/-- ITS FALSE NEIGHBOUR: 'it returns false'. Refute it at one input. -/
def fnExactTraceOfWrong : ChangeSpec := { name := "fnExactTraceOf", fn := fun _ => fun
  | [d] => { results := [.lit (.bool false)], args := [d] }
  | _ => none }
def FnExactTraceOfWrongFalsely : Prop := fnExactTraceOfRow.holds Try.pinned (OpenSpec.ofChange fnExactTraceOfWrong)

/- THE SECOND FORM. 'bulk': how many values and letters a reading holds, each counted each time it is reached (what is shared counts as often as it is met; a slice's spare places count too). A statement '..UptoSaid' is the law's where the arguments, and the package variables that the reading takes, are together of bulk at most 1048576: NARROWER than '..Said'. Prove '..Said' where nothing that the law and all that it calls make is longer than what came in: it says more and counts as full. Else prove '..UptoSaid'. A law counts once. -/
mutual
def uptoBulk {H : Type} : DataW H → Nat
  | .lit (.string bytes) => bytes.length + 1
  | .lit _ => 1
  | .nil => 1
  | .ptr d => uptoBulk d + 1
  | .slice elems spare => uptoBulkAll elems + uptoBulkAll spare + 1
  | .agg parts => uptoBulkAll parts + 1
  | .iface _ d => uptoBulk d + 1
  | .map entries => uptoBulkEntries entries + 1
  | .held _ => 1
def uptoBulkAll {H : Type} : List (DataW H) → Nat
  | [] => 0
  | d :: r => uptoBulk d + uptoBulkAll r
def uptoBulkEntries {H : Type} : List (Lit × DataW H) → Nat
  | [] => 0
  | x :: r => uptoBulkEntry x + uptoBulkEntries r
def uptoBulkEntry {H : Type} : Lit × DataW H → Nat
  | (.string bytes, d) => bytes.length + uptoBulk d + 1
  | (_, d) => uptoBulk d + 1
 end
def uptoSmall : (H : Type) → List (DataW H) → Bool := fun _ ds => decide (uptoBulkAll ds ≤ 1048576)
def OpenSpec.upto (s : _root_.Go.ChangeSpec) : _root_.Go.OpenSpec := { _root_.Go.OpenSpec.ofChange s with cond := some uptoSmall }

/-- 'laws.FnExactBurauOf', WHERE WHAT IT READS IS OF BULK AT MOST 1048576: true; the input reads as it did. -/
def fnExactBurauOfUptoRow : OpenClaim := { program := "ytikakoclmmmjdaa", sum := "3c164440b1e8bdf95bbe660ce9ed4ac647d99e663a089b5bc5d9d52fe0ebb64f", func := "loop.example/g01205/laws.FnExactBurauOf", spec := "fnExactBurauOf", inPlace := ["math/bits.Sub64", "math/bits.Add64"], unfollowed := true, recurses := true, apart := false, narrowed := true }
def FnExactBurauOfUptoSaid : Prop := fnExactBurauOfUptoRow.holds Try.pinned (OpenSpec.upto fnExactBurauOfSpec)

/-- 'laws.FnExactReducedBurau', WHERE WHAT IT READS IS OF BULK AT MOST 1048576: true; the input reads as it did. -/
def fnExactReducedBurauUptoRow : OpenClaim := { program := "ytikakoclmmmjdaa", sum := "3c164440b1e8bdf95bbe660ce9ed4ac647d99e663a089b5bc5d9d52fe0ebb64f", func := "loop.example/g01205/laws.FnExactReducedBurau", spec := "fnExactReducedBurau", inPlace := ["math/bits.Sub64", "math/bits.Add64"], unfollowed := true, recurses := true, apart := false, narrowed := true }
def FnExactReducedBurauUptoSaid : Prop := fnExactReducedBurauUptoRow.holds Try.pinned (OpenSpec.upto fnExactReducedBurauSpec)

/-- 'laws.FnExactTraceOf', WHERE WHAT IT READS IS OF BULK AT MOST 1048576: true; the input reads as it did. -/
def fnExactTraceOfUptoRow : OpenClaim := { program := "ytikakoclmmmjdaa", sum := "3c164440b1e8bdf95bbe660ce9ed4ac647d99e663a089b5bc5d9d52fe0ebb64f", func := "loop.example/g01205/laws.FnExactTraceOf", spec := "fnExactTraceOf", inPlace := ["math/bits.Sub64", "math/bits.Add64"], unfollowed := true, recurses := true, apart := false, narrowed := true }
def FnExactTraceOfUptoSaid : Prop := fnExactTraceOfUptoRow.holds Try.pinned (OpenSpec.upto fnExactTraceOfSpec)

end Rows
end Go.Proofs.Ytikakoclmmmjdaa
