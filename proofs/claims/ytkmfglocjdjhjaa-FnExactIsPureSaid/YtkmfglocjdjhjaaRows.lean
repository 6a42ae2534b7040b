/-
  No cell of these rows narrows 'for every input' (looked for: loops, veiled, ifaces, maps, wideKeys, modest, calm, conditions, laid).
  DERIVED. THE GIVEN ROWS OF THIS SEAT. 16 by the template 'for every input the law returns true; each argument reads behind the call as it read before'; 0 by the template 'total and deterministic' (their statements: YtkmfglocjdjhjaaTotals.lean).
  GIVEN WITH THE SEED: the statements are not yours to turn. If you find one false, say at which input.
  Laid BY PROGRAM, IN A SANDBOX (cutbox-rows.mjs): the forced cells as the released guide's own fill.sh prints them over the translation 8b4f97831012ab90… (all of the seat's roots in one cut). By AI agents, Wed Nov 11 2026. No macro, syntax, notation, axiom, sorry.
-/
import Derived.Test.YtkmfglocjdjhjaaChecked
import GoSem.Claim
import GoSem.ClaimJoined
import GoSem.ClaimMapViews
import Derived.JoinedTies
import Derived.KernelRfl
namespace Go.Proofs.Ytkmfglocjdjhjaa
/- THE CELL 'sum', in the pinned program and in every row, IS THE sha256 OF THE DUMP (.gsa) THAT YtkmfglocjdjhjaaProg.lean LOADS. Nothing in Lean hashes anything: it is a label: what it is worth is what the hold of that sum in a sandbox is worth. -/
noncomputable def Try.pinned : Pinned := { name := "ytkmfglocjdjhjaa", sum := "8b4f97831012ab9059978428bf181eb2a85c156b6071f4e6fd5c078149e81201", checked := Try.checked }
namespace Rows
def none {H : Type} : Left H := { results := [], args := [] }

/-- 'laws.FnExactConstants': WHATEVER THE INPUT: true; the input reads as it did. -/
def fnExactConstantsSpec : ChangeSpec := { name := "fnExactConstants", fn := fun _ => fun
  | [] => { results := [.lit (.bool true)], args := [] }
  | _ => none }
def fnExactConstantsRow : OpenClaim := { program := "ytkmfglocjdjhjaa", sum := "8b4f97831012ab9059978428bf181eb2a85c156b6071f4e6fd5c078149e81201", func := "loop.example/g01205/laws.FnExactConstants", spec := "fnExactConstants", apart := false }
def FnExactConstantsSaid : Prop := fnExactConstantsRow.holds Try.pinned (OpenSpec.ofChange fnExactConstantsSpec)

/-- ITS FALSE NEIGHBOUR: 'it returns false'. Refute it at one input. -/
def fnExactConstantsWrong : ChangeSpec := { name := "fnExactConstants", fn := fun _ => fun
  | [] => { results := [.lit (.bool false)], args := [] }
  | _ => none }
def FnExactConstantsWrongFalsely : Prop := fnExactConstantsRow.holds Try.pinned (OpenSpec.ofChange fnExactConstantsWrong)

/-- 'laws.FnExactIsBraid': WHATEVER THE INPUT: true; the input reads as it did. -/
def fnExactIsBraidSpec : ChangeSpec := { name := "fnExactIsBraid", fn := fun _ => fun
  | [d] => { results := [.lit (.bool true)], args := [d] }
  | _ => none }
def fnExactIsBraidRow : OpenClaim := { program := "ytkmfglocjdjhjaa", sum := "8b4f97831012ab9059978428bf181eb2a85c156b6071f4e6fd5c078149e81201", func := "loop.example/g01205/laws.FnExactIsBraid", spec := "fnExactIsBraid", apart := false }
def FnExactIsBraidSaid : Prop := fnExactIsBraidRow.holds Try.pinned (OpenSpec.ofChange fnExactIsBraidSpec)

/-- ITS FALSE NEIGHBOUR: 'it returns false'. Refute it at one input. -/
def fnExactIsBraidWrong : ChangeSpec := { name := "fnExactIsBraid", fn := fun _ => fun
  | [d] => { results := [.lit (.bool false)], args := [d] }
  | _ => none }
def FnExactIsBraidWrongFalsely : Prop := fnExactIsBraidRow.holds Try.pinned (OpenSpec.ofChange fnExactIsBraidWrong)

/-- 'laws.FnExactHalfTurnBraid': WHATEVER THE INPUT: true; the input reads as it did. -/
def fnExactHalfTurnBraidSpec : ChangeSpec := { name := "fnExactHalfTurnBraid", fn := fun _ => fun
  | [d] => { results := [.lit (.bool true)], args := [d] }
  | _ => none }
def fnExactHalfTurnBraidRow : OpenClaim := { program := "ytkmfglocjdjhjaa", sum := "8b4f97831012ab9059978428bf181eb2a85c156b6071f4e6fd5c078149e81201", func := "loop.example/g01205/laws.FnExactHalfTurnBraid", spec := "fnExactHalfTurnBraid", apart := false }
def FnExactHalfTurnBraidSaid : Prop := fnExactHalfTurnBraidRow.holds Try.pinned (OpenSpec.ofChange fnExactHalfTurnBraidSpec)

/-- ITS FALSE NEIGHBOUR: 'it returns false'. Refute it at one input. -/
def fnExactHalfTurnBraidWrong : ChangeSpec := { name := "fnExactHalfTurnBraid", fn := fun _ => fun
  | [d] => { results := [.lit (.bool false)], args := [d] }
  | _ => none }
def FnExactHalfTurnBraidWrongFalsely : Prop := fnExactHalfTurnBraidRow.holds Try.pinned (OpenSpec.ofChange fnExactHalfTurnBraidWrong)

/-- 'laws.FnExactSumOf': WHATEVER THE INPUT: true; the input reads as it did. -/
def fnExactSumOfSpec : ChangeSpec := { name := "fnExactSumOf", fn := fun _ => fun
  | [d] => { results := [.lit (.bool true)], args := [d] }
  | _ => none }
def fnExactSumOfRow : OpenClaim := { program := "ytkmfglocjdjhjaa", sum := "8b4f97831012ab9059978428bf181eb2a85c156b6071f4e6fd5c078149e81201", func := "loop.example/g01205/laws.FnExactSumOf", spec := "fnExactSumOf", apart := false }
def FnExactSumOfSaid : Prop := fnExactSumOfRow.holds Try.pinned (OpenSpec.ofChange fnExactSumOfSpec)

/-- ITS FALSE NEIGHBOUR: 'it returns false'. Refute it at one input. -/
def fnExactSumOfWrong : ChangeSpec := { name := "fnExactSumOf", fn := fun _ => fun
  | [d] => { results := [.lit (.bool false)], args := [d] }
  | _ => none }
def FnExactSumOfWrongFalsely : Prop := fnExactSumOfRow.holds Try.pinned (OpenSpec.ofChange fnExactSumOfWrong)

/-- 'laws.FnExactReverseOf': WHATEVER THE INPUT: true; the input reads as it did. -/
def fnExactReverseOfSpec : ChangeSpec := { name := "fnExactReverseOf", fn := fun _ => fun
  | [d] => { results := [.lit (.bool true)], args := [d] }
  | _ => none }
def fnExactReverseOfRow : OpenClaim := { program := "ytkmfglocjdjhjaa", sum := "8b4f97831012ab9059978428bf181eb2a85c156b6071f4e6fd5c078149e81201", func := "loop.example/g01205/laws.FnExactReverseOf", spec := "fnExactReverseOf", apart := false }
def FnExactReverseOfSaid : Prop := fnExactReverseOfRow.holds Try.pinned (OpenSpec.ofChange fnExactReverseOfSpec)

/-- ITS FALSE NEIGHBOUR: 'it returns false'. Refute it at one input. -/
def fnExactReverseOfWrong : ChangeSpec := { name := "fnExactReverseOf", fn := fun _ => fun
  | [d] => { results := [.lit (.bool false)], args := [d] }
  | _ => none }
def FnExactReverseOfWrongFalsely : Prop := fnExactReverseOfRow.holds Try.pinned (OpenSpec.ofChange fnExactReverseOfWrong)

/-- 'laws.FnExactProductOf': WHATEVER THE INPUT: true; the input reads as it did. -/
def fnExactProductOfSpec : ChangeSpec := { name := "fnExactProductOf", fn := fun _ => fun
  | [d1, d2] => { results := [.lit (.bool true)], args := [d1, d2] }
  | _ => none }
def fnExactProductOfRow : OpenClaim := { program := "ytkmfglocjdjhjaa", sum := "8b4f97831012ab9059978428bf181eb2a85c156b6071f4e6fd5c078149e81201", func := "loop.example/g01205/laws.FnExactProductOf", spec := "fnExactProductOf", apart := false }
def FnExactProductOfSaid : Prop := fnExactProductOfRow.holds Try.pinned (OpenSpec.ofChange fnExactProductOfSpec)

/-- ITS FALSE NEIGHBOUR: 'it returns false'. Refute it at one input. -/
def fnExactProductOfWrong : ChangeSpec := { name := "fnExactProductOf", fn := fun _ => fun
  | [d1, d2] => { results := [.lit (.bool false)], args := [d1, d2] }
  | _ => none }
def FnExactProductOfWrongFalsely : Prop := fnExactProductOfRow.holds Try.pinned (OpenSpec.ofChange fnExactProductOfWrong)

/-- 'laws.FnExactFreeForm': WHATEVER THE INPUT: true; the input reads as it did. -/
def fnExactFreeFormSpec : ChangeSpec := { name := "fnExactFreeForm", fn := fun _ => fun
  | [d] => { results := [.lit (.bool true)], args := [d] }
  | _ => none }
def fnExactFreeFormRow : OpenClaim := { program := "ytkmfglocjdjhjaa", sum := "8b4f97831012ab9059978428bf181eb2a85c156b6071f4e6fd5c078149e81201", func := "loop.example/g01205/laws.FnExactFreeForm", spec := "fnExactFreeForm", apart := false }
def FnExactFreeFormSaid : Prop := fnExactFreeFormRow.holds Try.pinned (OpenSpec.ofChange fnExactFreeFormSpec)

/-- ITS FALSE NEIGHBOUR: 'it returns false'. Refute it at one input. -/
def fnExactFreeFormWrong : ChangeSpec := { name := "fnExactFreeForm", fn := fun _ => fun
  | [d] => { results := [.lit (.bool false)], args := [d] }
  | _ => none }
def FnExactFreeFormWrongFalsely : Prop := fnExactFreeFormRow.holds Try.pinned (OpenSpec.ofChange fnExactFreeFormWrong)

/-- 'laws.FnExactFullTurnBraid': WHATEVER THE INPUT: true; the input reads as it did. -/
def fnExactFullTurnBraidSpec : ChangeSpec := { name := "fnExactFullTurnBraid", fn := fun _ => fun
  | [d] => { results := [.lit (.bool true)], args := [d] }
  | _ => none }
def fnExactFullTurnBraidRow : OpenClaim := { program := "ytkmfglocjdjhjaa", sum := "8b4f97831012ab9059978428bf181eb2a85c156b6071f4e6fd5c078149e81201", func := "loop.example/g01205/laws.FnExactFullTurnBraid", spec := "fnExactFullTurnBraid", apart := false }
def FnExactFullTurnBraidSaid : Prop := fnExactFullTurnBraidRow.holds Try.pinned (OpenSpec.ofChange fnExactFullTurnBraidSpec)

/-- ITS FALSE NEIGHBOUR: 'it returns false'. Refute it at one input. -/
def fnExactFullTurnBraidWrong : ChangeSpec := { name := "fnExactFullTurnBraid", fn := fun _ => fun
  | [d] => { results := [.lit (.bool false)], args := [d] }
  | _ => none }
def FnExactFullTurnBraidWrongFalsely : Prop := fnExactFullTurnBraidRow.holds Try.pinned (OpenSpec.ofChange fnExactFullTurnBraidWrong)

/-- 'laws.FnExactMirrorOf': WHATEVER THE INPUT: true; the input reads as it did. -/
def fnExactMirrorOfSpec : ChangeSpec := { name := "fnExactMirrorOf", fn := fun _ => fun
  | [d] => { results := [.lit (.bool true)], args := [d] }
  | _ => none }
def fnExactMirrorOfRow : OpenClaim := { program := "ytkmfglocjdjhjaa", sum := "8b4f97831012ab9059978428bf181eb2a85c156b6071f4e6fd5c078149e81201", func := "loop.example/g01205/laws.FnExactMirrorOf", spec := "fnExactMirrorOf", unfollowed := true, recurses := true, apart := false }
def FnExactMirrorOfSaid : Prop := fnExactMirrorOfRow.holds Try.pinned (OpenSpec.ofChange fnExactMirrorOfSpec)

/-- ITS FALSE NEIGHBOUR: 'it returns false'. Refute it at one input. -/
def fnExactMirrorOfWrong : ChangeSpec := { name := "fnExactMirrorOf", fn := fun _ => fun
  | [d] => { results := [.lit (.bool false)], args := [d] }
  | _ => none }
def FnExactMirrorOfWrongFalsely : Prop := fnExactMirrorOfRow.holds Try.pinned (OpenSpec.ofChange fnExactMirrorOfWrong)

/-- 'laws.FnExactInverseOf': WHATEVER THE INPUT: true; the input reads as it did. -/
def fnExactInverseOfSpec : ChangeSpec := { name := "fnExactInverseOf", fn := fun _ => fun
  | [d] => { results := [.lit (.bool true)], args := [d] }
  | _ => none }
def fnExactInverseOfRow : OpenClaim := { program := "ytkmfglocjdjhjaa", sum := "8b4f97831012ab9059978428bf181eb2a85c156b6071f4e6fd5c078149e81201", func := "loop.example/g01205/laws.FnExactInverseOf", spec := "fnExactInverseOf", unfollowed := true, recurses := true, apart := false }
def FnExactInverseOfSaid : Prop := fnExactInverseOfRow.holds Try.pinned (OpenSpec.ofChange fnExactInverseOfSpec)

/-- ITS FALSE NEIGHBOUR: 'it returns false'. Refute it at one input. -/
def fnExactInverseOfWrong : ChangeSpec := { name := "fnExactInverseOf", fn := fun _ => fun
  | [d] => { results := [.lit (.bool false)], args := [d] }
  | _ => none }
def FnExactInverseOfWrongFalsely : Prop := fnExactInverseOfRow.holds Try.pinned (OpenSpec.ofChange fnExactInverseOfWrong)

/-- 'laws.FnExactTurnBraid': WHATEVER THE INPUT: true; the input reads as it did. -/
def fnExactTurnBraidSpec : ChangeSpec := { name := "fnExactTurnBraid", fn := fun _ => fun
  | [d] => { results := [.lit (.bool true)], args := [d] }
  | _ => none }
def fnExactTurnBraidRow : OpenClaim := { program := "ytkmfglocjdjhjaa", sum := "8b4f97831012ab9059978428bf181eb2a85c156b6071f4e6fd5c078149e81201", func := "loop.example/g01205/laws.FnExactTurnBraid", spec := "fnExactTurnBraid", unfollowed := true, recurses := true, apart := false }
def FnExactTurnBraidSaid : Prop := fnExactTurnBraidRow.holds Try.pinned (OpenSpec.ofChange fnExactTurnBraidSpec)

/-- ITS FALSE NEIGHBOUR: 'it returns false'. Refute it at one input. -/
def fnExactTurnBraidWrong : ChangeSpec := { name := "fnExactTurnBraid", fn := fun _ => fun
  | [d] => { results := [.lit (.bool false)], args := [d] }
  | _ => none }
def FnExactTurnBraidWrongFalsely : Prop := fnExactTurnBraidRow.holds Try.pinned (OpenSpec.ofChange fnExactTurnBraidWrong)

/-- 'laws.FnExactShiftOf': WHATEVER THE INPUT: true; the input reads as it did. -/
def fnExactShiftOfSpec : ChangeSpec := { name := "fnExactShiftOf", fn := fun _ => fun
  | [d1, d2] => { results := [.lit (.bool true)], args := [d1, d2] }
  | _ => none }
def fnExactShiftOfRow : OpenClaim := { program := "ytkmfglocjdjhjaa", sum := "8b4f97831012ab9059978428bf181eb2a85c156b6071f4e6fd5c078149e81201", func := "loop.example/g01205/laws.FnExactShiftOf", spec := "fnExactShiftOf", unfollowed := true, recurses := true, apart := false }
def FnExactShiftOfSaid : Prop := fnExactShiftOfRow.holds Try.pinned (OpenSpec.ofChange fnExactShiftOfSpec)

/-- ITS FALSE NEIGHBOUR: 'it returns false'. Refute it at one input. -/
def fnExactShiftOfWrong : ChangeSpec := { name := "fnExactShiftOf", fn := fun _ => fun
  | [d1, d2] => { results := [.lit (.bool false)], args := [d1, d2] }
  | _ => none }
def FnExactShiftOfWrongFalsely : Prop := fnExactShiftOfRow.holds Try.pinned (OpenSpec.ofChange fnExactShiftOfWrong)

/-- 'laws.FnExactPowerOf': WHATEVER THE INPUT: true; the input reads as it did. -/
def fnExactPowerOfSpec : ChangeSpec := { name := "fnExactPowerOf", fn := fun _ => fun
  | [d1, d2] => { results := [.lit (.bool true)], args := [d1, d2] }
  | _ => none }
def fnExactPowerOfRow : OpenClaim := { program := "ytkmfglocjdjhjaa", sum := "8b4f97831012ab9059978428bf181eb2a85c156b6071f4e6fd5c078149e81201", func := "loop.example/g01205/laws.FnExactPowerOf", spec := "fnExactPowerOf", unfollowed := true, recurses := true, apart := false }
def FnExactPowerOfSaid : Prop := fnExactPowerOfRow.holds Try.pinned (OpenSpec.ofChange fnExactPowerOfSpec)

/-- ITS FALSE NEIGHBOUR: 'it returns false'. Refute it at one input. -/
def fnExactPowerOfWrong : ChangeSpec := { name := "fnExactPowerOf", fn := fun _ => fun
  | [d1, d2] => { results := [.lit (.bool false)], args := [d1, d2] }
  | _ => none }
def FnExactPowerOfWrongFalsely : Prop := fnExactPowerOfRow.holds Try.pinned (OpenSpec.ofChange fnExactPowerOfWrong)

/-- 'laws.FnExactEndsOf': WHATEVER THE INPUT: true; the input reads as it did. -/
def fnExactEndsOfSpec : ChangeSpec := { name := "fnExactEndsOf", fn := fun _ => fun
  | [d] => { results := [.lit (.bool true)], args := [d] }
  | _ => none }
def fnExactEndsOfRow : OpenClaim := { program := "ytkmfglocjdjhjaa", sum := "8b4f97831012ab9059978428bf181eb2a85c156b6071f4e6fd5c078149e81201", func := "loop.example/g01205/laws.FnExactEndsOf", spec := "fnExactEndsOf", unfollowed := true, recurses := true, apart := false }
def FnExactEndsOfSaid : Prop := fnExactEndsOfRow.holds Try.pinned (OpenSpec.ofChange fnExactEndsOfSpec)

/-- ITS FALSE NEIGHBOUR: 'it returns false'. Refute it at one input. -/
def fnExactEndsOfWrong : ChangeSpec := { name := "fnExactEndsOf", fn := fun _ => fun
  | [d] => { results := [.lit (.bool false)], args := [d] }
  | _ => none }
def FnExactEndsOfWrongFalsely : Prop := fnExactEndsOfRow.holds Try.pinned (OpenSpec.ofChange fnExactEndsOfWrong)

/-- 'laws.FnExactIsPure': WHATEVER THE INPUT: true; the input reads as it did. -/
def fnExactIsPureSpec : ChangeSpec := { name := "fnExactIsPure", fn := fun _ => fun
  | [d] => { results := [.lit (.bool true)], args := [d] }
  | _ => none }
def fnExactIsPureRow : OpenClaim := { program := "ytkmfglocjdjhjaa", sum := "8b4f97831012ab9059978428bf181eb2a85c156b6071f4e6fd5c078149e81201", func := "loop.example/g01205/laws.FnExactIsPure", spec := "fnExactIsPure", unfollowed := true, recurses := true, apart := false }
def FnExactIsPureSaid : Prop := fnExactIsPureRow.holds Try.pinned (OpenSpec.ofChange fnExactIsPureSpec)

/-- ITS FALSE NEIGHBOUR: 'it returns false'. Refute it at one input. -/
def fnExactIsPureWrong : ChangeSpec := { name := "fnExactIsPure", fn := fun _ => fun
  | [d] => { results := [.lit (.bool false)], args := [d] }
  | _ => none }
def FnExactIsPureWrongFalsely : Prop := fnExactIsPureRow.holds Try.pinned (OpenSpec.ofChange fnExactIsPureWrong)

/-- 'laws.FnExactCrossingsOf': WHATEVER THE INPUT: true; the input reads as it did. -/
def fnExactCrossingsOfSpec : ChangeSpec := { name := "fnExactCrossingsOf", fn := fun _ => fun
  | [d] => { results := [.lit (.bool true)], args := [d] }
  | _ => none }
def fnExactCrossingsOfRow : OpenClaim := { program := "ytkmfglocjdjhjaa", sum := "8b4f97831012ab9059978428bf181eb2a85c156b6071f4e6fd5c078149e81201", func := "loop.example/g01205/laws.FnExactCrossingsOf", spec := "fnExactCrossingsOf", unfollowed := true, recurses := true, apart := false }
def FnExactCrossingsOfSaid : Prop := fnExactCrossingsOfRow.holds Try.pinned (OpenSpec.ofChange fnExactCrossingsOfSpec)

/-- ITS FALSE NEIGHBOUR: 'it returns false'. Refute it at one input. -/
def fnExactCrossingsOfWrong : ChangeSpec := { name := "fnExactCrossingsOf", fn := fun _ => fun
  | [d] => { results := [.lit (.bool false)], args := [d] }
  | _ => none }
def FnExactCrossingsOfWrongFalsely : Prop := fnExactCrossingsOfRow.holds Try.pinned (OpenSpec.ofChange fnExactCrossingsOfWrong)

/- THE SECOND FORM. 'bulk': how many values and letters a reading holds, each counted each time it is reached (what is shared counts as often as it is met; a slice's spare places count too). A statement '..UptoSaid' is the law's where the arguments, and the package variables that the reading takes, are together of bulk at most 1048576: NARROWER than '..Said'. Prove '..Said' where nothing that the law and all that it calls make is longer than what came in: it says more and counts as full. Else prove '..UptoSaid'. A law counts once. -/
mutual
def uptoBulk {H : Type} : DataW H → Nat
  | .lit (.string bytes) => bytes.length + 1
  | .lit _ => 1
  | .nil => 1
  | .ptr d => uptoBulk d + 1
  | .slice elems spare => uptoBulkAll elems + uptoBulkAll spare + 1
  | .agg parts => uptoBulkAll parts + 1
  | .iface _ d => uptoBulk d + 1
  | .map entries => uptoBulkEntries entries + 1
  | .held _ => 1
def uptoBulkAll {H : Type} : List (DataW H) → Nat
  | [] => 0
  | d :: r => uptoBulk d + uptoBulkAll r
def uptoBulkEntries {H : Type} : List (Lit × DataW H) → Nat
  | [] => 0
  | x :: r => uptoBulkEntry x + uptoBulkEntries r
def uptoBulkEntry {H : Type} : Lit × DataW H → Nat
  | (.string bytes, d) => bytes.length + uptoBulk d + 1
  | (_, d) => uptoBulk d + 1
 end
def uptoSmall : (H : Type) → List (DataW H) → Bool := fun _ ds => decide (uptoBulkAll ds ≤ 1048576)
def OpenSpec.upto (s : _root_.Go.ChangeSpec) : _root_.Go.OpenSpec := { _root_.Go.OpenSpec.ofChange s with cond := some uptoSmall }

/-- 'laws.FnExactConstants', WHERE WHAT IT READS IS OF BULK AT MOST 1048576: true; the input reads as it did. -/
def fnExactConstantsUptoRow : OpenClaim := { program := "ytkmfglocjdjhjaa", sum := "8b4f97831012ab9059978428bf181eb2a85c156b6071f4e6fd5c078149e81201", func := "loop.example/g01205/laws.FnExactConstants", spec := "fnExactConstants", apart := false, narrowed := true }
def FnExactConstantsUptoSaid : Prop := fnExactConstantsUptoRow.holds Try.pinned (OpenSpec.upto fnExactConstantsSpec)

/-- 'laws.FnExactIsBraid', WHERE WHAT IT READS IS OF BULK AT MOST 1048576: true; the input reads as it did. -/
def fnExactIsBraidUptoRow : OpenClaim := { program := "ytkmfglocjdjhjaa", sum := "8b4f97831012ab9059978428bf181eb2a85c156b6071f4e6fd5c078149e81201", func := "loop.example/g01205/laws.FnExactIsBraid", spec := "fnExactIsBraid", apart := false, narrowed := true }
def FnExactIsBraidUptoSaid : Prop := fnExactIsBraidUptoRow.holds Try.pinned (OpenSpec.upto fnExactIsBraidSpec)

/-- 'laws.FnExactHalfTurnBraid', WHERE WHAT IT READS IS OF BULK AT MOST 1048576: true; the input reads as it did. -/
def fnExactHalfTurnBraidUptoRow : OpenClaim := { program := "ytkmfglocjdjhjaa", sum := "8b4f97831012ab9059978428bf181eb2a85c156b6071f4e6fd5c078149e81201", func := "loop.example/g01205/laws.FnExactHalfTurnBraid", spec := "fnExactHalfTurnBraid", apart := false, narrowed := true }
def FnExactHalfTurnBraidUptoSaid : Prop := fnExactHalfTurnBraidUptoRow.holds Try.pinned (OpenSpec.upto fnExactHalfTurnBraidSpec)

/-- 'laws.FnExactSumOf', WHERE WHAT IT READS IS OF BULK AT MOST 1048576: true; the input reads as it did. -/
def fnExactSumOfUptoRow : OpenClaim := { program := "ytkmfglocjdjhjaa", sum := "8b4f97831012ab9059978428bf181eb2a85c156b6071f4e6fd5c078149e81201", func := "loop.example/g01205/laws.FnExactSumOf", spec := "fnExactSumOf", apart := false, narrowed := true }
def FnExactSumOfUptoSaid : Prop := fnExactSumOfUptoRow.holds Try.pinned (OpenSpec.upto fnExactSumOfSpec)

/-- 'laws.FnExactReverseOf', WHERE WHAT IT READS IS OF BULK AT MOST 1048576: true; the input reads as it did. -/
def fnExactReverseOfUptoRow : OpenClaim := { program := "ytkmfglocjdjhjaa", sum := "8b4f97831012ab9059978428bf181eb2a85c156b6071f4e6fd5c078149e81201", func := "loop.example/g01205/laws.FnExactReverseOf", spec := "fnExactReverseOf", apart := false, narrowed := true }
def FnExactReverseOfUptoSaid : Prop := fnExactReverseOfUptoRow.holds Try.pinned (OpenSpec.upto fnExactReverseOfSpec)

/-- 'laws.FnExactProductOf', WHERE WHAT IT READS IS OF BULK AT MOST 1048576: true; the input reads as it did. -/
def fnExactProductOfUptoRow : OpenClaim := { program := "ytkmfglocjdjhjaa", sum := "8b4f97831012ab9059978428bf181eb2a85c156b6071f4e6fd5c078149e81201", func := "loop.example/g01205/laws.FnExactProductOf", spec := "fnExactProductOf", apart := false, narrowed := true }
def FnExactProductOfUptoSaid : Prop := fnExactProductOfUptoRow.holds Try.pinned (OpenSpec.upto fnExactProductOfSpec)

/-- 'laws.FnExactFreeForm', WHERE WHAT IT READS IS OF BULK AT MOST 1048576: true; the input reads as it did. -/
def fnExactFreeFormUptoRow : OpenClaim := { program := "ytkmfglocjdjhjaa", sum := "8b4f97831012ab9059978428bf181eb2a85c156b6071f4e6fd5c078149e81201", func := "loop.example/g01205/laws.FnExactFreeForm", spec := "fnExactFreeForm", apart := false, narrowed := true }
def FnExactFreeFormUptoSaid : Prop := fnExactFreeFormUptoRow.holds Try.pinned (OpenSpec.upto fnExactFreeFormSpec)

/-- 'laws.FnExactFullTurnBraid', WHERE WHAT IT READS IS OF BULK AT MOST 1048576: true; the input reads as it did. -/
def fnExactFullTurnBraidUptoRow : OpenClaim := { program := "ytkmfglocjdjhjaa", sum := "8b4f97831012ab9059978428bf181eb2a85c156b6071f4e6fd5c078149e81201", func := "loop.example/g01205/laws.FnExactFullTurnBraid", spec := "fnExactFullTurnBraid", apart := false, narrowed := true }
def FnExactFullTurnBraidUptoSaid : Prop := fnExactFullTurnBraidUptoRow.holds Try.pinned (OpenSpec.upto fnExactFullTurnBraidSpec)

/-- 'laws.FnExactMirrorOf', WHERE WHAT IT READS IS OF BULK AT MOST 1048576: true; the input reads as it did. -/
def fnExactMirrorOfUptoRow : OpenClaim := { program := "ytkmfglocjdjhjaa", sum := "8b4f97831012ab9059978428bf181eb2a85c156b6071f4e6fd5c078149e81201", func := "loop.example/g01205/laws.FnExactMirrorOf", spec := "fnExactMirrorOf", unfollowed := true, recurses := true, apart := false, narrowed := true }
def FnExactMirrorOfUptoSaid : Prop := fnExactMirrorOfUptoRow.holds Try.pinned (OpenSpec.upto fnExactMirrorOfSpec)

/-- 'laws.FnExactInverseOf', WHERE WHAT IT READS IS OF BULK AT MOST 1048576: true; the input reads as it did. -/
def fnExactInverseOfUptoRow : OpenClaim := { program := "ytkmfglocjdjhjaa", sum := "8b4f97831012ab9059978428bf181eb2a85c156b6071f4e6fd5c078149e81201", func := "loop.example/g01205/laws.FnExactInverseOf", spec := "fnExactInverseOf", unfollowed := true, recurses := true, apart := false, narrowed := true }
def FnExactInverseOfUptoSaid : Prop := fnExactInverseOfUptoRow.holds Try.pinned (OpenSpec.upto fnExactInverseOfSpec)

/-- 'laws.FnExactTurnBraid', WHERE WHAT IT READS IS OF BULK AT MOST 1048576: true; the input reads as it did. -/
def fnExactTurnBraidUptoRow : OpenClaim := { program := "ytkmfglocjdjhjaa", sum := "8b4f97831012ab9059978428bf181eb2a85c156b6071f4e6fd5c078149e81201", func := "loop.example/g01205/laws.FnExactTurnBraid", spec := "fnExactTurnBraid", unfollowed := true, recurses := true, apart := false, narrowed := true }
def FnExactTurnBraidUptoSaid : Prop := fnExactTurnBraidUptoRow.holds Try.pinned (OpenSpec.upto fnExactTurnBraidSpec)

/-- 'laws.FnExactShiftOf', WHERE WHAT IT READS IS OF BULK AT MOST 1048576: true; the input reads as it did. -/
def fnExactShiftOfUptoRow : OpenClaim := { program := "ytkmfglocjdjhjaa", sum := "8b4f97831012ab9059978428bf181eb2a85c156b6071f4e6fd5c078149e81201", func := "loop.example/g01205/laws.FnExactShiftOf", spec := "fnExactShiftOf", unfollowed := true, recurses := true, apart := false, narrowed := true }
def FnExactShiftOfUptoSaid : Prop := fnExactShiftOfUptoRow.holds Try.pinned (OpenSpec.upto fnExactShiftOfSpec)

/-- 'laws.FnExactPowerOf', WHERE WHAT IT READS IS OF BULK AT MOST 1048576: true; the input reads as it did. -/
def fnExactPowerOfUptoRow : OpenClaim := { program := "ytkmfglocjdjhjaa", sum := "8b4f97831012ab9059978428bf181eb2a85c156b6071f4e6fd5c078149e81201", func := "loop.example/g01205/laws.FnExactPowerOf", spec := "fnExactPowerOf", unfollowed := true, recurses := true, apart := false, narrowed := true }
def FnExactPowerOfUptoSaid : Prop := fnExactPowerOfUptoRow.holds Try.pinned (OpenSpec.upto fnExactPowerOfSpec)

/-- 'laws.FnExactEndsOf', WHERE WHAT IT READS IS OF BULK AT MOST 1048576: true; the input reads as it did. -/
def fnExactEndsOfUptoRow : OpenClaim := { program := "ytkmfglocjdjhjaa", sum := "8b4f97831012ab9059978428bf181eb2a85c156b6071f4e6fd5c078149e81201", func := "loop.example/g01205/laws.FnExactEndsOf", spec := "fnExactEndsOf", unfollowed := true, recurses := true, apart := false, narrowed := true }
def FnExactEndsOfUptoSaid : Prop := fnExactEndsOfUptoRow.holds Try.pinned (OpenSpec.upto fnExactEndsOfSpec)

/-- 'laws.FnExactIsPure', WHERE WHAT IT READS IS OF BULK AT MOST 1048576: true; the input reads as it did. -/
def fnExactIsPureUptoRow : OpenClaim := { program := "ytkmfglocjdjhjaa", sum := "8b4f97831012ab9059978428bf181eb2a85c156b6071f4e6fd5c078149e81201", func := "loop.example/g01205/laws.FnExactIsPure", spec := "fnExactIsPure", unfollowed := true, recurses := true, apart := false, narrowed := true }
def FnExactIsPureUptoSaid : Prop := fnExactIsPureUptoRow.holds Try.pinned (OpenSpec.upto fnExactIsPureSpec)

/-- 'laws.FnExactCrossingsOf', WHERE WHAT IT READS IS OF BULK AT MOST 1048576: true; the input reads as it did. -/
def fnExactCrossingsOfUptoRow : OpenClaim := { program := "ytkmfglocjdjhjaa", sum := "8b4f97831012ab9059978428bf181eb2a85c156b6071f4e6fd5c078149e81201", func := "loop.example/g01205/laws.FnExactCrossingsOf", spec := "fnExactCrossingsOf", unfollowed := true, recurses := true, apart := false, narrowed := true }
def FnExactCrossingsOfUptoSaid : Prop := fnExactCrossingsOfUptoRow.holds Try.pinned (OpenSpec.upto fnExactCrossingsOfSpec)

end Rows
end Go.Proofs.Ytkmfglocjdjhjaa
