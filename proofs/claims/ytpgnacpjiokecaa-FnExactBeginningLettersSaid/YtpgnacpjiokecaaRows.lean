/-
  No cell of these rows narrows 'for every input' (looked for: loops, veiled, ifaces, maps, wideKeys, modest, calm, conditions, laid).
  DERIVED. THE GIVEN ROWS OF THIS SEAT. 8 by the template 'for every input the law returns true; each argument reads behind the call as it read before'; 0 by the template 'total and deterministic' (their statements: YtpgnacpjiokecaaTotals.lean).
  GIVEN WITH THE SEED: the statements are not yours to turn. If you find one false, say at which input.
  Laid BY PROGRAM, IN A SANDBOX (cutbox-rows.mjs): the forced cells as the released guide's own fill.sh prints them over the translation 64c2c20438d90624… (all of the seat's roots in one cut). By AI agents, Wed Nov 11 2026. No macro, syntax, notation, axiom, sorry.
-/
import Derived.Test.YtpgnacpjiokecaaChecked
import GoSem.Claim
import GoSem.ClaimJoined
import GoSem.ClaimMapViews
import Derived.JoinedTies
import Derived.KernelRfl
namespace Go.Proofs.Ytpgnacpjiokecaa
/- THE CELL 'sum', in the pinned program and in every row, IS THE sha256 OF THE DUMP (.gsa) THAT YtpgnacpjiokecaaProg.lean LOADS. Nothing in Lean hashes anything: it is a label: what it is worth is what the hold of that sum in a sandbox is worth. -/
noncomputable def Try.pinned : Pinned := { name := "ytpgnacpjiokecaa", sum := "64c2c20438d906242b76068c01750687041d0bda58591871cc896d1209f6ce17", checked := Try.checked }
namespace Rows
def none {H : Type} : Left H := { results := [], args := [] }

/-- 'laws.FnExactHalfTurn': WHATEVER THE INPUT: true; the input reads as it did. -/
def fnExactHalfTurnSpec : ChangeSpec := { name := "fnExactHalfTurn", fn := fun _ => fun
  | [d] => { results := [.lit (.bool true)], args := [d] }
  | _ => none }
def fnExactHalfTurnRow : OpenClaim := { program := "ytpgnacpjiokecaa", sum := "64c2c20438d906242b76068c01750687041d0bda58591871cc896d1209f6ce17", func := "loop.example/g01205/laws.FnExactHalfTurn", spec := "fnExactHalfTurn", apart := false }
def FnExactHalfTurnSaid : Prop := fnExactHalfTurnRow.holds Try.pinned (OpenSpec.ofChange fnExactHalfTurnSpec)

/-- ITS FALSE NEIGHBOUR: 'it returns false'. Refute it at one input. -/
def fnExactHalfTurnWrong : ChangeSpec := { name := "fnExactHalfTurn", fn := fun _ => fun
  | [d] => { results := [.lit (.bool false)], args := [d] }
  | _ => none }
def FnExactHalfTurnWrongFalsely : Prop := fnExactHalfTurnRow.holds Try.pinned (OpenSpec.ofChange fnExactHalfTurnWrong)

/-- 'laws.FnExactIsSimple': WHATEVER THE INPUT: true; the input reads as it did. -/
def fnExactIsSimpleSpec : ChangeSpec := { name := "fnExactIsSimple", fn := fun _ => fun
  | [d1, d2] => { results := [.lit (.bool true)], args := [d1, d2] }
  | _ => none }
def fnExactIsSimpleRow : OpenClaim := { program := "ytpgnacpjiokecaa", sum := "64c2c20438d906242b76068c01750687041d0bda58591871cc896d1209f6ce17", func := "loop.example/g01205/laws.FnExactIsSimple", spec := "fnExactIsSimple", apart := false }
def FnExactIsSimpleSaid : Prop := fnExactIsSimpleRow.holds Try.pinned (OpenSpec.ofChange fnExactIsSimpleSpec)

/-- ITS FALSE NEIGHBOUR: 'it returns false'. Refute it at one input. -/
def fnExactIsSimpleWrong : ChangeSpec := { name := "fnExactIsSimple", fn := fun _ => fun
  | [d1, d2] => { results := [.lit (.bool false)], args := [d1, d2] }
  | _ => none }
def FnExactIsSimpleWrongFalsely : Prop := fnExactIsSimpleRow.holds Try.pinned (OpenSpec.ofChange fnExactIsSimpleWrong)

/-- 'laws.FnExactThenSimple': WHATEVER THE INPUT: true; the input reads as it did. -/
def fnExactThenSimpleSpec : ChangeSpec := { name := "fnExactThenSimple", fn := fun _ => fun
  | [d1, d2, d3] => { results := [.lit (.bool true)], args := [d1, d2, d3] }
  | _ => none }
def fnExactThenSimpleRow : OpenClaim := { program := "ytpgnacpjiokecaa", sum := "64c2c20438d906242b76068c01750687041d0bda58591871cc896d1209f6ce17", func := "loop.example/g01205/laws.FnExactThenSimple", spec := "fnExactThenSimple", apart := false }
def FnExactThenSimpleSaid : Prop := fnExactThenSimpleRow.holds Try.pinned (OpenSpec.ofChange fnExactThenSimpleSpec)

/-- ITS FALSE NEIGHBOUR: 'it returns false'. Refute it at one input. -/
def fnExactThenSimpleWrong : ChangeSpec := { name := "fnExactThenSimple", fn := fun _ => fun
  | [d1, d2, d3] => { results := [.lit (.bool false)], args := [d1, d2, d3] }
  | _ => none }
def FnExactThenSimpleWrongFalsely : Prop := fnExactThenSimpleRow.holds Try.pinned (OpenSpec.ofChange fnExactThenSimpleWrong)

/-- 'laws.FnExactComplementOf': WHATEVER THE INPUT: true; the input reads as it did. -/
def fnExactComplementOfSpec : ChangeSpec := { name := "fnExactComplementOf", fn := fun _ => fun
  | [d1, d2] => { results := [.lit (.bool true)], args := [d1, d2] }
  | _ => none }
def fnExactComplementOfRow : OpenClaim := { program := "ytpgnacpjiokecaa", sum := "64c2c20438d906242b76068c01750687041d0bda58591871cc896d1209f6ce17", func := "loop.example/g01205/laws.FnExactComplementOf", spec := "fnExactComplementOf", apart := false }
def FnExactComplementOfSaid : Prop := fnExactComplementOfRow.holds Try.pinned (OpenSpec.ofChange fnExactComplementOfSpec)

/-- ITS FALSE NEIGHBOUR: 'it returns false'. Refute it at one input. -/
def fnExactComplementOfWrong : ChangeSpec := { name := "fnExactComplementOf", fn := fun _ => fun
  | [d1, d2] => { results := [.lit (.bool false)], args := [d1, d2] }
  | _ => none }
def FnExactComplementOfWrongFalsely : Prop := fnExactComplementOfRow.holds Try.pinned (OpenSpec.ofChange fnExactComplementOfWrong)

/-- 'laws.FnExactLeftComplementOf': WHATEVER THE INPUT: true; the input reads as it did. -/
def fnExactLeftComplementOfSpec : ChangeSpec := { name := "fnExactLeftComplementOf", fn := fun _ => fun
  | [d1, d2] => { results := [.lit (.bool true)], args := [d1, d2] }
  | _ => none }
def fnExactLeftComplementOfRow : OpenClaim := { program := "ytpgnacpjiokecaa", sum := "64c2c20438d906242b76068c01750687041d0bda58591871cc896d1209f6ce17", func := "loop.example/g01205/laws.FnExactLeftComplementOf", spec := "fnExactLeftComplementOf", apart := false }
def FnExactLeftComplementOfSaid : Prop := fnExactLeftComplementOfRow.holds Try.pinned (OpenSpec.ofChange fnExactLeftComplementOfSpec)

/-- ITS FALSE NEIGHBOUR: 'it returns false'. Refute it at one input. -/
def fnExactLeftComplementOfWrong : ChangeSpec := { name := "fnExactLeftComplementOf", fn := fun _ => fun
  | [d1, d2] => { results := [.lit (.bool false)], args := [d1, d2] }
  | _ => none }
def FnExactLeftComplementOfWrongFalsely : Prop := fnExactLeftComplementOfRow.holds Try.pinned (OpenSpec.ofChange fnExactLeftComplementOfWrong)

/-- 'laws.FnExactTurnOf': WHATEVER THE INPUT: true; the input reads as it did. -/
def fnExactTurnOfSpec : ChangeSpec := { name := "fnExactTurnOf", fn := fun _ => fun
  | [d1, d2] => { results := [.lit (.bool true)], args := [d1, d2] }
  | _ => none }
def fnExactTurnOfRow : OpenClaim := { program := "ytpgnacpjiokecaa", sum := "64c2c20438d906242b76068c01750687041d0bda58591871cc896d1209f6ce17", func := "loop.example/g01205/laws.FnExactTurnOf", spec := "fnExactTurnOf", apart := false }
def FnExactTurnOfSaid : Prop := fnExactTurnOfRow.holds Try.pinned (OpenSpec.ofChange fnExactTurnOfSpec)

/-- ITS FALSE NEIGHBOUR: 'it returns false'. Refute it at one input. -/
def fnExactTurnOfWrong : ChangeSpec := { name := "fnExactTurnOf", fn := fun _ => fun
  | [d1, d2] => { results := [.lit (.bool false)], args := [d1, d2] }
  | _ => none }
def FnExactTurnOfWrongFalsely : Prop := fnExactTurnOfRow.holds Try.pinned (OpenSpec.ofChange fnExactTurnOfWrong)

/-- 'laws.FnExactBeginningLetters': WHATEVER THE INPUT: true; the input reads as it did. -/
def fnExactBeginningLettersSpec : ChangeSpec := { name := "fnExactBeginningLetters", fn := fun _ => fun
  | [d1, d2] => { results := [.lit (.bool true)], args := [d1, d2] }
  | _ => none }
def fnExactBeginningLettersRow : OpenClaim := { program := "ytpgnacpjiokecaa", sum := "64c2c20438d906242b76068c01750687041d0bda58591871cc896d1209f6ce17", func := "loop.example/g01205/laws.FnExactBeginningLetters", spec := "fnExactBeginningLetters", apart := false }
def FnExactBeginningLettersSaid : Prop := fnExactBeginningLettersRow.holds Try.pinned (OpenSpec.ofChange fnExactBeginningLettersSpec)

/-- ITS FALSE NEIGHBOUR: 'it returns false'. Refute it at one input. -/
def fnExactBeginningLettersWrong : ChangeSpec := { name := "fnExactBeginningLetters", fn := fun _ => fun
  | [d1, d2] => { results := [.lit (.bool false)], args := [d1, d2] }
  | _ => none }
def FnExactBeginningLettersWrongFalsely : Prop := fnExactBeginningLettersRow.holds Try.pinned (OpenSpec.ofChange fnExactBeginningLettersWrong)

/-- 'laws.FnExactEndingLetters': WHATEVER THE INPUT: true; the input reads as it did. -/
def fnExactEndingLettersSpec : ChangeSpec := { name := "fnExactEndingLetters", fn := fun _ => fun
  | [d1, d2] => { results := [.lit (.bool true)], args := [d1, d2] }
  | _ => none }
def fnExactEndingLettersRow : OpenClaim := { program := "ytpgnacpjiokecaa", sum := "64c2c20438d906242b76068c01750687041d0bda58591871cc896d1209f6ce17", func := "loop.example/g01205/laws.FnExactEndingLetters", spec := "fnExactEndingLetters", apart := false }
def FnExactEndingLettersSaid : Prop := fnExactEndingLettersRow.holds Try.pinned (OpenSpec.ofChange fnExactEndingLettersSpec)

/-- ITS FALSE NEIGHBOUR: 'it returns false'. Refute it at one input. -/
def fnExactEndingLettersWrong : ChangeSpec := { name := "fnExactEndingLetters", fn := fun _ => fun
  | [d1, d2] => { results := [.lit (.bool false)], args := [d1, d2] }
  | _ => none }
def FnExactEndingLettersWrongFalsely : Prop := fnExactEndingLettersRow.holds Try.pinned (OpenSpec.ofChange fnExactEndingLettersWrong)

/- THE SECOND FORM. 'bulk': how many values and letters a reading holds, each counted each time it is reached (what is shared counts as often as it is met; a slice's spare places count too). A statement '..UptoSaid' is the law's where the arguments, and the package variables that the reading takes, are together of bulk at most 1048576: NARROWER than '..Said'. Prove '..Said' where nothing that the law and all that it calls make is longer than what came in: it says more and counts as full. Else prove '..UptoSaid'. A law counts once. -/
mutual
def uptoBulk {H : Type} : DataW H → Nat
  | .lit (.string bytes) => bytes.length + 1
  | .lit _ => 1
  | .nil => 1
  | .ptr d => uptoBulk d + 1
  | .slice elems spare => uptoBulkAll elems + uptoBulkAll spare + 1
  | .agg parts => uptoBulkAll parts + 1
  | .iface _ d => uptoBulk d + 1
  | .map entries => uptoBulkEntries entries + 1
  | .held _ => 1
def uptoBulkAll {H : Type} : List (DataW H) → Nat
  | [] => 0
  | d :: r => uptoBulk d + uptoBulkAll r
def uptoBulkEntries {H : Type} : List (Lit × DataW H) → Nat
  | [] => 0
  | x :: r => uptoBulkEntry x + uptoBulkEntries r
def uptoBulkEntry {H : Type} : Lit × DataW H → Nat
  | (.string bytes, d) => bytes.length + uptoBulk d + 1
  | (_, d) => uptoBulk d + 1
 end
def uptoSmall : (H : Type) → List (DataW H) → Bool := fun _ ds => decide (uptoBulkAll ds ≤ 1048576)
def OpenSpec.upto (s : _root_.Go.ChangeSpec) : _root_.Go.OpenSpec := { _root_.Go.OpenSpec.ofChange s with cond := some uptoSmall }

/-- 'laws.FnExactHalfTurn', WHERE WHAT IT READS IS OF BULK AT MOST 1048576: true; the input reads as it did. -/
def fnExactHalfTurnUptoRow : OpenClaim := { program := "ytpgnacpjiokecaa", sum := "64c2c20438d906242b76068c01750687041d0bda58591871cc896d1209f6ce17", func := "loop.example/g01205/laws.FnExactHalfTurn", spec := "fnExactHalfTurn", apart := false, narrowed := true }
def FnExactHalfTurnUptoSaid : Prop := fnExactHalfTurnUptoRow.holds Try.pinned (OpenSpec.upto fnExactHalfTurnSpec)

/-- 'laws.FnExactIsSimple', WHERE WHAT IT READS IS OF BULK AT MOST 1048576: true; the input reads as it did. -/
def fnExactIsSimpleUptoRow : OpenClaim := { program := "ytpgnacpjiokecaa", sum := "64c2c20438d906242b76068c01750687041d0bda58591871cc896d1209f6ce17", func := "loop.example/g01205/laws.FnExactIsSimple", spec := "fnExactIsSimple", apart := false, narrowed := true }
def FnExactIsSimpleUptoSaid : Prop := fnExactIsSimpleUptoRow.holds Try.pinned (OpenSpec.upto fnExactIsSimpleSpec)

/-- 'laws.FnExactThenSimple', WHERE WHAT IT READS IS OF BULK AT MOST 1048576: true; the input reads as it did. -/
def fnExactThenSimpleUptoRow : OpenClaim := { program := "ytpgnacpjiokecaa", sum := "64c2c20438d906242b76068c01750687041d0bda58591871cc896d1209f6ce17", func := "loop.example/g01205/laws.FnExactThenSimple", spec := "fnExactThenSimple", apart := false, narrowed := true }
def FnExactThenSimpleUptoSaid : Prop := fnExactThenSimpleUptoRow.holds Try.pinned (OpenSpec.upto fnExactThenSimpleSpec)

/-- 'laws.FnExactComplementOf', WHERE WHAT IT READS IS OF BULK AT MOST 1048576: true; the input reads as it did. -/
def fnExactComplementOfUptoRow : OpenClaim := { program := "ytpgnacpjiokecaa", sum := "64c2c20438d906242b76068c01750687041d0bda58591871cc896d1209f6ce17", func := "loop.example/g01205/laws.FnExactComplementOf", spec := "fnExactComplementOf", apart := false, narrowed := true }
def FnExactComplementOfUptoSaid : Prop := fnExactComplementOfUptoRow.holds Try.pinned (OpenSpec.upto fnExactComplementOfSpec)

/-- 'laws.FnExactLeftComplementOf', WHERE WHAT IT READS IS OF BULK AT MOST 1048576: true; the input reads as it did. -/
def fnExactLeftComplementOfUptoRow : OpenClaim := { program := "ytpgnacpjiokecaa", sum := "64c2c20438d906242b76068c01750687041d0bda58591871cc896d1209f6ce17", func := "loop.example/g01205/laws.FnExactLeftComplementOf", spec := "fnExactLeftComplementOf", apart := false, narrowed := true }
def FnExactLeftComplementOfUptoSaid : Prop := fnExactLeftComplementOfUptoRow.holds Try.pinned (OpenSpec.upto fnExactLeftComplementOfSpec)

/-- 'laws.FnExactTurnOf', WHERE WHAT IT READS IS OF BULK AT MOST 1048576: true; the input reads as it did. -/
def fnExactTurnOfUptoRow : OpenClaim := { program := "ytpgnacpjiokecaa", sum := "64c2c20438d906242b76068c01750687041d0bda58591871cc896d1209f6ce17", func := "loop.example/g01205/laws.FnExactTurnOf", spec := "fnExactTurnOf", apart := false, narrowed := true }
def FnExactTurnOfUptoSaid : Prop := fnExactTurnOfUptoRow.holds Try.pinned (OpenSpec.upto fnExactTurnOfSpec)

/-- 'laws.FnExactBeginningLetters', WHERE WHAT IT READS IS OF BULK AT MOST 1048576: true; the input reads as it did. -/
def fnExactBeginningLettersUptoRow : OpenClaim := { program := "ytpgnacpjiokecaa", sum := "64c2c20438d906242b76068c01750687041d0bda58591871cc896d1209f6ce17", func := "loop.example/g01205/laws.FnExactBeginningLetters", spec := "fnExactBeginningLetters", apart := false, narrowed := true }
def FnExactBeginningLettersUptoSaid : Prop := fnExactBeginningLettersUptoRow.holds Try.pinned (OpenSpec.upto fnExactBeginningLettersSpec)

/-- 'laws.FnExactEndingLetters', WHERE WHAT IT READS IS OF BULK AT MOST 1048576: true; the input reads as it did. -/
def fnExactEndingLettersUptoRow : OpenClaim := { program := "ytpgnacpjiokecaa", sum := "64c2c20438d906242b76068c01750687041d0bda58591871cc896d1209f6ce17", func := "loop.example/g01205/laws.FnExactEndingLetters", spec := "fnExactEndingLetters", apart := false, narrowed := true }
def FnExactEndingLettersUptoSaid : Prop := fnExactEndingLettersUptoRow.holds Try.pinned (OpenSpec.upto fnExactEndingLettersSpec)

end Rows
end Go.Proofs.Ytpgnacpjiokecaa
