/-
  No cell of these rows narrows 'for every input' (looked for: loops, veiled, ifaces, maps, wideKeys, modest, calm, conditions, laid).
  DERIVED. THE GIVEN ROWS OF THIS SEAT. 7 by the template 'for every input the law returns true; each argument reads behind the call as it read before'; 0 by the template 'total and deterministic' (their statements: YtoelchljmaoklaaTotals.lean).
  GIVEN WITH THE SEED: the statements are not yours to turn. If you find one false, say at which input.
  Laid BY PROGRAM, IN A SANDBOX (cutbox-rows.mjs): the forced cells as the released guide's own fill.sh prints them over the translation b9de6bf877daacb3… (all of the seat's roots in one cut). By AI agents, Wed Nov 11 2026. No macro, syntax, notation, axiom, sorry.
-/
import Derived.Test.YtoelchljmaoklaaChecked
import GoSem.Claim
import GoSem.ClaimJoined
import GoSem.ClaimMapViews
import Derived.JoinedTies
import Derived.KernelRfl
namespace Go.Proofs.Ytoelchljmaoklaa
/- THE CELL 'sum', in the pinned program and in every row, IS THE sha256 OF THE DUMP (.gsa) THAT YtoelchljmaoklaaProg.lean LOADS. Nothing in Lean hashes anything: it is a label: what it is worth is what the hold of that sum in a sandbox is worth. -/
noncomputable def Try.pinned : Pinned := { name := "ytoelchljmaoklaa", sum := "b9de6bf877daacb306c5ea273dc1a50d28179ef5d31b91bec55d54744734ecb9", checked := Try.checked }
namespace Rows
def none {H : Type} : Left H := { results := [], args := [] }

/-- 'laws.FnExactIsBeginning': WHATEVER THE INPUT: true; the input reads as it did. -/
def fnExactIsBeginningSpec : ChangeSpec := { name := "fnExactIsBeginning", fn := fun _ => fun
  | [d1, d2, d3] => { results := [.lit (.bool true)], args := [d1, d2, d3] }
  | _ => none }
def fnExactIsBeginningRow : OpenClaim := { program := "ytoelchljmaoklaa", sum := "b9de6bf877daacb306c5ea273dc1a50d28179ef5d31b91bec55d54744734ecb9", func := "loop.example/g01205/laws.FnExactIsBeginning", spec := "fnExactIsBeginning", apart := false }
def FnExactIsBeginningSaid : Prop := fnExactIsBeginningRow.holds Try.pinned (OpenSpec.ofChange fnExactIsBeginningSpec)

/-- ITS FALSE NEIGHBOUR: 'it returns false'. Refute it at one input. -/
def fnExactIsBeginningWrong : ChangeSpec := { name := "fnExactIsBeginning", fn := fun _ => fun
  | [d1, d2, d3] => { results := [.lit (.bool false)], args := [d1, d2, d3] }
  | _ => none }
def FnExactIsBeginningWrongFalsely : Prop := fnExactIsBeginningRow.holds Try.pinned (OpenSpec.ofChange fnExactIsBeginningWrong)

/-- 'laws.FnExactLengthOfSimple': WHATEVER THE INPUT: true; the input reads as it did. -/
def fnExactLengthOfSimpleSpec : ChangeSpec := { name := "fnExactLengthOfSimple", fn := fun _ => fun
  | [d1, d2] => { results := [.lit (.bool true)], args := [d1, d2] }
  | _ => none }
def fnExactLengthOfSimpleRow : OpenClaim := { program := "ytoelchljmaoklaa", sum := "b9de6bf877daacb306c5ea273dc1a50d28179ef5d31b91bec55d54744734ecb9", func := "loop.example/g01205/laws.FnExactLengthOfSimple", spec := "fnExactLengthOfSimple", apart := false }
def FnExactLengthOfSimpleSaid : Prop := fnExactLengthOfSimpleRow.holds Try.pinned (OpenSpec.ofChange fnExactLengthOfSimpleSpec)

/-- ITS FALSE NEIGHBOUR: 'it returns false'. Refute it at one input. -/
def fnExactLengthOfSimpleWrong : ChangeSpec := { name := "fnExactLengthOfSimple", fn := fun _ => fun
  | [d1, d2] => { results := [.lit (.bool false)], args := [d1, d2] }
  | _ => none }
def FnExactLengthOfSimpleWrongFalsely : Prop := fnExactLengthOfSimpleRow.holds Try.pinned (OpenSpec.ofChange fnExactLengthOfSimpleWrong)

/-- 'laws.FnExactIsShort': WHATEVER THE INPUT: true; the input reads as it did. -/
def fnExactIsShortSpec : ChangeSpec := { name := "fnExactIsShort", fn := fun _ => fun
  | [d1, d2, d3] => { results := [.lit (.bool true)], args := [d1, d2, d3] }
  | _ => none }
def fnExactIsShortRow : OpenClaim := { program := "ytoelchljmaoklaa", sum := "b9de6bf877daacb306c5ea273dc1a50d28179ef5d31b91bec55d54744734ecb9", func := "loop.example/g01205/laws.FnExactIsShort", spec := "fnExactIsShort", apart := false }
def FnExactIsShortSaid : Prop := fnExactIsShortRow.holds Try.pinned (OpenSpec.ofChange fnExactIsShortSpec)

/-- ITS FALSE NEIGHBOUR: 'it returns false'. Refute it at one input. -/
def fnExactIsShortWrong : ChangeSpec := { name := "fnExactIsShort", fn := fun _ => fun
  | [d1, d2, d3] => { results := [.lit (.bool false)], args := [d1, d2, d3] }
  | _ => none }
def FnExactIsShortWrongFalsely : Prop := fnExactIsShortRow.holds Try.pinned (OpenSpec.ofChange fnExactIsShortWrong)

/-- 'laws.FnExactMeetOf': WHATEVER THE INPUT: true; the input reads as it did. -/
def fnExactMeetOfSpec : ChangeSpec := { name := "fnExactMeetOf", fn := fun _ => fun
  | [d1, d2, d3] => { results := [.lit (.bool true)], args := [d1, d2, d3] }
  | _ => none }
def fnExactMeetOfRow : OpenClaim := { program := "ytoelchljmaoklaa", sum := "b9de6bf877daacb306c5ea273dc1a50d28179ef5d31b91bec55d54744734ecb9", func := "loop.example/g01205/laws.FnExactMeetOf", spec := "fnExactMeetOf", apart := false }
def FnExactMeetOfSaid : Prop := fnExactMeetOfRow.holds Try.pinned (OpenSpec.ofChange fnExactMeetOfSpec)

/-- ITS FALSE NEIGHBOUR: 'it returns false'. Refute it at one input. -/
def fnExactMeetOfWrong : ChangeSpec := { name := "fnExactMeetOf", fn := fun _ => fun
  | [d1, d2, d3] => { results := [.lit (.bool false)], args := [d1, d2, d3] }
  | _ => none }
def FnExactMeetOfWrongFalsely : Prop := fnExactMeetOfRow.holds Try.pinned (OpenSpec.ofChange fnExactMeetOfWrong)

/-- 'laws.FnExactJoinOf': WHATEVER THE INPUT: true; the input reads as it did. -/
def fnExactJoinOfSpec : ChangeSpec := { name := "fnExactJoinOf", fn := fun _ => fun
  | [d1, d2, d3] => { results := [.lit (.bool true)], args := [d1, d2, d3] }
  | _ => none }
def fnExactJoinOfRow : OpenClaim := { program := "ytoelchljmaoklaa", sum := "b9de6bf877daacb306c5ea273dc1a50d28179ef5d31b91bec55d54744734ecb9", func := "loop.example/g01205/laws.FnExactJoinOf", spec := "fnExactJoinOf", apart := false }
def FnExactJoinOfSaid : Prop := fnExactJoinOfRow.holds Try.pinned (OpenSpec.ofChange fnExactJoinOfSpec)

/-- ITS FALSE NEIGHBOUR: 'it returns false'. Refute it at one input. -/
def fnExactJoinOfWrong : ChangeSpec := { name := "fnExactJoinOf", fn := fun _ => fun
  | [d1, d2, d3] => { results := [.lit (.bool false)], args := [d1, d2, d3] }
  | _ => none }
def FnExactJoinOfWrongFalsely : Prop := fnExactJoinOfRow.holds Try.pinned (OpenSpec.ofChange fnExactJoinOfWrong)

/-- 'laws.FnExactSimpleOfWord': WHATEVER THE INPUT: true; the input reads as it did. -/
def fnExactSimpleOfWordSpec : ChangeSpec := { name := "fnExactSimpleOfWord", fn := fun _ => fun
  | [d1, d2] => { results := [.lit (.bool true)], args := [d1, d2] }
  | _ => none }
def fnExactSimpleOfWordRow : OpenClaim := { program := "ytoelchljmaoklaa", sum := "b9de6bf877daacb306c5ea273dc1a50d28179ef5d31b91bec55d54744734ecb9", func := "loop.example/g01205/laws.FnExactSimpleOfWord", spec := "fnExactSimpleOfWord", apart := false }
def FnExactSimpleOfWordSaid : Prop := fnExactSimpleOfWordRow.holds Try.pinned (OpenSpec.ofChange fnExactSimpleOfWordSpec)

/-- ITS FALSE NEIGHBOUR: 'it returns false'. Refute it at one input. -/
def fnExactSimpleOfWordWrong : ChangeSpec := { name := "fnExactSimpleOfWord", fn := fun _ => fun
  | [d1, d2] => { results := [.lit (.bool false)], args := [d1, d2] }
  | _ => none }
def FnExactSimpleOfWordWrongFalsely : Prop := fnExactSimpleOfWordRow.holds Try.pinned (OpenSpec.ofChange fnExactSimpleOfWordWrong)

/-- 'laws.FnExactWordOfSimple': WHATEVER THE INPUT: true; the input reads as it did. -/
def fnExactWordOfSimpleSpec : ChangeSpec := { name := "fnExactWordOfSimple", fn := fun _ => fun
  | [d1, d2] => { results := [.lit (.bool true)], args := [d1, d2] }
  | _ => none }
def fnExactWordOfSimpleRow : OpenClaim := { program := "ytoelchljmaoklaa", sum := "b9de6bf877daacb306c5ea273dc1a50d28179ef5d31b91bec55d54744734ecb9", func := "loop.example/g01205/laws.FnExactWordOfSimple", spec := "fnExactWordOfSimple", apart := false }
def FnExactWordOfSimpleSaid : Prop := fnExactWordOfSimpleRow.holds Try.pinned (OpenSpec.ofChange fnExactWordOfSimpleSpec)

/-- ITS FALSE NEIGHBOUR: 'it returns false'. Refute it at one input. -/
def fnExactWordOfSimpleWrong : ChangeSpec := { name := "fnExactWordOfSimple", fn := fun _ => fun
  | [d1, d2] => { results := [.lit (.bool false)], args := [d1, d2] }
  | _ => none }
def FnExactWordOfSimpleWrongFalsely : Prop := fnExactWordOfSimpleRow.holds Try.pinned (OpenSpec.ofChange fnExactWordOfSimpleWrong)

/- THE SECOND FORM. 'bulk': how many values and letters a reading holds, each counted each time it is reached (what is shared counts as often as it is met; a slice's spare places count too). A statement '..UptoSaid' is the law's where the arguments, and the package variables that the reading takes, are together of bulk at most 1048576: NARROWER than '..Said'. Prove '..Said' where nothing that the law and all that it calls make is longer than what came in: it says more and counts as full. Else prove '..UptoSaid'. A law counts once. -/
mutual
def uptoBulk {H : Type} : DataW H → Nat
  | .lit (.string bytes) => bytes.length + 1
  | .lit _ => 1
  | .nil => 1
  | .ptr d => uptoBulk d + 1
  | .slice elems spare => uptoBulkAll elems + uptoBulkAll spare + 1
  | .agg parts => uptoBulkAll parts + 1
  | .iface _ d => uptoBulk d + 1
  | .map entries => uptoBulkEntries entries + 1
  | .held _ => 1
def uptoBulkAll {H : Type} : List (DataW H) → Nat
  | [] => 0
  | d :: r => uptoBulk d + uptoBulkAll r
def uptoBulkEntries {H : Type} : List (Lit × DataW H) → Nat
  | [] => 0
  | x :: r => uptoBulkEntry x + uptoBulkEntries r
def uptoBulkEntry {H : Type} : Lit × DataW H → Nat
  | (.string bytes, d) => bytes.length + uptoBulk d + 1
  | (_, d) => uptoBulk d + 1
 end
def uptoSmall : (H : Type) → List (DataW H) → Bool := fun _ ds => decide (uptoBulkAll ds ≤ 1048576)
def OpenSpec.upto (s : _root_.Go.ChangeSpec) : _root_.Go.OpenSpec := { _root_.Go.OpenSpec.ofChange s with cond := some uptoSmall }

/-- 'laws.FnExactIsBeginning', WHERE WHAT IT READS IS OF BULK AT MOST 1048576: true; the input reads as it did. -/
def fnExactIsBeginningUptoRow : OpenClaim := { program := "ytoelchljmaoklaa", sum := "b9de6bf877daacb306c5ea273dc1a50d28179ef5d31b91bec55d54744734ecb9", func := "loop.example/g01205/laws.FnExactIsBeginning", spec := "fnExactIsBeginning", apart := false, narrowed := true }
def FnExactIsBeginningUptoSaid : Prop := fnExactIsBeginningUptoRow.holds Try.pinned (OpenSpec.upto fnExactIsBeginningSpec)

/-- 'laws.FnExactLengthOfSimple', WHERE WHAT IT READS IS OF BULK AT MOST 1048576: true; the input reads as it did. -/
def fnExactLengthOfSimpleUptoRow : OpenClaim := { program := "ytoelchljmaoklaa", sum := "b9de6bf877daacb306c5ea273dc1a50d28179ef5d31b91bec55d54744734ecb9", func := "loop.example/g01205/laws.FnExactLengthOfSimple", spec := "fnExactLengthOfSimple", apart := false, narrowed := true }
def FnExactLengthOfSimpleUptoSaid : Prop := fnExactLengthOfSimpleUptoRow.holds Try.pinned (OpenSpec.upto fnExactLengthOfSimpleSpec)

/-- 'laws.FnExactIsShort', WHERE WHAT IT READS IS OF BULK AT MOST 1048576: true; the input reads as it did. -/
def fnExactIsShortUptoRow : OpenClaim := { program := "ytoelchljmaoklaa", sum := "b9de6bf877daacb306c5ea273dc1a50d28179ef5d31b91bec55d54744734ecb9", func := "loop.example/g01205/laws.FnExactIsShort", spec := "fnExactIsShort", apart := false, narrowed := true }
def FnExactIsShortUptoSaid : Prop := fnExactIsShortUptoRow.holds Try.pinned (OpenSpec.upto fnExactIsShortSpec)

/-- 'laws.FnExactMeetOf', WHERE WHAT IT READS IS OF BULK AT MOST 1048576: true; the input reads as it did. -/
def fnExactMeetOfUptoRow : OpenClaim := { program := "ytoelchljmaoklaa", sum := "b9de6bf877daacb306c5ea273dc1a50d28179ef5d31b91bec55d54744734ecb9", func := "loop.example/g01205/laws.FnExactMeetOf", spec := "fnExactMeetOf", apart := false, narrowed := true }
def FnExactMeetOfUptoSaid : Prop := fnExactMeetOfUptoRow.holds Try.pinned (OpenSpec.upto fnExactMeetOfSpec)

/-- 'laws.FnExactJoinOf', WHERE WHAT IT READS IS OF BULK AT MOST 1048576: true; the input reads as it did. -/
def fnExactJoinOfUptoRow : OpenClaim := { program := "ytoelchljmaoklaa", sum := "b9de6bf877daacb306c5ea273dc1a50d28179ef5d31b91bec55d54744734ecb9", func := "loop.example/g01205/laws.FnExactJoinOf", spec := "fnExactJoinOf", apart := false, narrowed := true }
def FnExactJoinOfUptoSaid : Prop := fnExactJoinOfUptoRow.holds Try.pinned (OpenSpec.upto fnExactJoinOfSpec)

/-- 'laws.FnExactSimpleOfWord', WHERE WHAT IT READS IS OF BULK AT MOST 1048576: true; the input reads as it did. -/
def fnExactSimpleOfWordUptoRow : OpenClaim := { program := "ytoelchljmaoklaa", sum := "b9de6bf877daacb306c5ea273dc1a50d28179ef5d31b91bec55d54744734ecb9", func := "loop.example/g01205/laws.FnExactSimpleOfWord", spec := "fnExactSimpleOfWord", apart := false, narrowed := true }
def FnExactSimpleOfWordUptoSaid : Prop := fnExactSimpleOfWordUptoRow.holds Try.pinned (OpenSpec.upto fnExactSimpleOfWordSpec)

/-- 'laws.FnExactWordOfSimple', WHERE WHAT IT READS IS OF BULK AT MOST 1048576: true; the input reads as it did. -/
def fnExactWordOfSimpleUptoRow : OpenClaim := { program := "ytoelchljmaoklaa", sum := "b9de6bf877daacb306c5ea273dc1a50d28179ef5d31b91bec55d54744734ecb9", func := "loop.example/g01205/laws.FnExactWordOfSimple", spec := "fnExactWordOfSimple", apart := false, narrowed := true }
def FnExactWordOfSimpleUptoSaid : Prop := fnExactWordOfSimpleUptoRow.holds Try.pinned (OpenSpec.upto fnExactWordOfSimpleSpec)

end Rows
end Go.Proofs.Ytoelchljmaoklaa
