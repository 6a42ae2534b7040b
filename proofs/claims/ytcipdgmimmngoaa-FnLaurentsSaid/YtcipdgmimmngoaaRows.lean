/-
  No cell of these rows narrows 'for every input' (looked for: loops, veiled, ifaces, maps, wideKeys, modest, calm, conditions, laid).
  DERIVED. THE GIVEN ROWS OF THIS SEAT. 3 by the template 'for every input the law returns true; each argument reads behind the call as it read before'; 0 by the template 'total and deterministic' (their statements: YtcipdgmimmngoaaTotals.lean).
  GIVEN WITH THE SEED: the statements are not yours to turn. If you find one false, say at which input.
  Laid BY PROGRAM, IN A SANDBOX (cutbox-rows.mjs): the forced cells as the released guide's own fill.sh prints them over the translation 2c2104358e2c1190… (all of the seat's roots in one cut). By AI agents, Wed Nov 11 2026. No macro, syntax, notation, axiom, sorry.
-/
import Derived.Test.YtcipdgmimmngoaaChecked
import GoSem.Claim
import GoSem.ClaimJoined
import GoSem.ClaimMapViews
import Derived.JoinedTies
import Derived.KernelRfl
namespace Go.Proofs.Ytcipdgmimmngoaa
/- THE CELL 'sum', in the pinned program and in every row, IS THE sha256 OF THE DUMP (.gsa) THAT YtcipdgmimmngoaaProg.lean LOADS. Nothing in Lean hashes anything: it is a label: what it is worth is what the hold of that sum in a sandbox is worth. -/
noncomputable def Try.pinned : Pinned := { name := "ytcipdgmimmngoaa", sum := "2c2104358e2c11902574f0e03a2c55c139daed053c904a12a93928b0b31d13d3", checked := Try.checked }
namespace Rows
def none {H : Type} : Left H := { results := [], args := [] }

/-- 'laws.FnExactAddLaurents': WHATEVER THE INPUT: true; the input reads as it did. -/
def fnExactAddLaurentsSpec : ChangeSpec := { name := "fnExactAddLaurents", fn := fun _ => fun
  | [d1, d2] => { results := [.lit (.bool true)], args := [d1, d2] }
  | _ => none }
def fnExactAddLaurentsRow : OpenClaim := { program := "ytcipdgmimmngoaa", sum := "2c2104358e2c11902574f0e03a2c55c139daed053c904a12a93928b0b31d13d3", func := "loop.example/g01205/laws.FnExactAddLaurents", spec := "fnExactAddLaurents", inPlace := ["math/bits.Add64"], unfollowed := true, recurses := true, apart := false }
def FnExactAddLaurentsSaid : Prop := fnExactAddLaurentsRow.holds Try.pinned (OpenSpec.ofChange fnExactAddLaurentsSpec)

/-- ITS FALSE NEIGHBOUR: 'it returns false'. Refute it at one input. -/
def fnExactAddLaurentsWrong : ChangeSpec := { name := "fnExactAddLaurents", fn := fun _ => fun
  | [d1, d2] => { results := [.lit (.bool false)], args := [d1, d2] }
  | _ => none }
def FnExactAddLaurentsWrongFalsely : Prop := fnExactAddLaurentsRow.holds Try.pinned (OpenSpec.ofChange fnExactAddLaurentsWrong)

/-- 'laws.FnExactMultiplyLaurents': WHATEVER THE INPUT: true; the input reads as it did. -/
def fnExactMultiplyLaurentsSpec : ChangeSpec := { name := "fnExactMultiplyLaurents", fn := fun _ => fun
  | [d1, d2] => { results := [.lit (.bool true)], args := [d1, d2] }
  | _ => none }
def fnExactMultiplyLaurentsRow : OpenClaim := { program := "ytcipdgmimmngoaa", sum := "2c2104358e2c11902574f0e03a2c55c139daed053c904a12a93928b0b31d13d3", func := "loop.example/g01205/laws.FnExactMultiplyLaurents", spec := "fnExactMultiplyLaurents", inPlace := ["math/bits.Add64"], unfollowed := true, recurses := true, apart := false }
def FnExactMultiplyLaurentsSaid : Prop := fnExactMultiplyLaurentsRow.holds Try.pinned (OpenSpec.ofChange fnExactMultiplyLaurentsSpec)

/-- ITS FALSE NEIGHBOUR: 'it returns false'. Refute it at one input. -/
def fnExactMultiplyLaurentsWrong : ChangeSpec := { name := "fnExactMultiplyLaurents", fn := fun _ => fun
  | [d1, d2] => { results := [.lit (.bool false)], args := [d1, d2] }
  | _ => none }
def FnExactMultiplyLaurentsWrongFalsely : Prop := fnExactMultiplyLaurentsRow.holds Try.pinned (OpenSpec.ofChange fnExactMultiplyLaurentsWrong)

/-- 'laws.FnLaurents': WHATEVER THE INPUT: true; the input reads as it did. -/
def fnLaurentsSpec : ChangeSpec := { name := "fnLaurents", fn := fun _ => fun
  | [d] => { results := [.lit (.bool true)], args := [d] }
  | _ => none }
def fnLaurentsRow : OpenClaim := { program := "ytcipdgmimmngoaa", sum := "2c2104358e2c11902574f0e03a2c55c139daed053c904a12a93928b0b31d13d3", func := "loop.example/g01205/laws.FnLaurents", spec := "fnLaurents", inPlace := ["math/bits.Add64"], unfollowed := true, recurses := true, apart := false }
def FnLaurentsSaid : Prop := fnLaurentsRow.holds Try.pinned (OpenSpec.ofChange fnLaurentsSpec)

/-- ITS FALSE NEIGHBOUR: 'it returns false'. Refute it at one input. -/
def fnLaurentsWrong : ChangeSpec := { name := "fnLaurents", fn := fun _ => fun
  | [d] => { results := [.lit (.bool false)], args := [d] }
  | _ => none }
def FnLaurentsWrongFalsely : Prop := fnLaurentsRow.holds Try.pinned (OpenSpec.ofChange fnLaurentsWrong)

/- THE SECOND FORM. 'bulk': how many values and letters a reading holds, each counted each time it is reached (what is shared counts as often as it is met; a slice's spare places count too). A statement '..UptoSaid' is the law's where the arguments, and the package variables that the reading takes, are together of bulk at most 1048576: NARROWER than '..Said'. Prove '..Said' where nothing that the law and all that it calls make is longer than what came in: it says more and counts as full. Else prove '..UptoSaid'. A law counts once. -/
mutual
def uptoBulk {H : Type} : DataW H → Nat
  | .lit (.string bytes) => bytes.length + 1
  | .lit _ => 1
  | .nil => 1
  | .ptr d => uptoBulk d + 1
  | .slice elems spare => uptoBulkAll elems + uptoBulkAll spare + 1
  | .agg parts => uptoBulkAll parts + 1
  | .iface _ d => uptoBulk d + 1
  | .map entries => uptoBulkEntries entries + 1
  | .held _ => 1
def uptoBulkAll {H : Type} : List (DataW H) → Nat
  | [] => 0
  | d :: r => uptoBulk d + uptoBulkAll r
def uptoBulkEntries {H : Type} : List (Lit × DataW H) → Nat
  | [] => 0
  | x :: r => uptoBulkEntry x + uptoBulkEntries r
def uptoBulkEntry {H : Type} : Lit × DataW H → Nat
  | (.string bytes, d) => bytes.length + uptoBulk d + 1
  | (_, d) => uptoBulk d + 1
 end
def uptoSmall : (H : Type) → List (DataW H) → Bool := fun _ ds => decide (uptoBulkAll ds ≤ 1048576)
def OpenSpec.upto (s : _root_.Go.ChangeSpec) : _root_.Go.OpenSpec := { _root_.Go.OpenSpec.ofChange s with cond := some uptoSmall }

/-- 'laws.FnExactAddLaurents', WHERE WHAT IT READS IS OF BULK AT MOST 1048576: true; the input reads as it did. -/
def fnExactAddLaurentsUptoRow : OpenClaim := { program := "ytcipdgmimmngoaa", sum := "2c2104358e2c11902574f0e03a2c55c139daed053c904a12a93928b0b31d13d3", func := "loop.example/g01205/laws.FnExactAddLaurents", spec := "fnExactAddLaurents", inPlace := ["math/bits.Add64"], unfollowed := true, recurses := true, apart := false, narrowed := true }
def FnExactAddLaurentsUptoSaid : Prop := fnExactAddLaurentsUptoRow.holds Try.pinned (OpenSpec.upto fnExactAddLaurentsSpec)

/-- 'laws.FnExactMultiplyLaurents', WHERE WHAT IT READS IS OF BULK AT MOST 1048576: true; the input reads as it did. -/
def fnExactMultiplyLaurentsUptoRow : OpenClaim := { program := "ytcipdgmimmngoaa", sum := "2c2104358e2c11902574f0e03a2c55c139daed053c904a12a93928b0b31d13d3", func := "loop.example/g01205/laws.FnExactMultiplyLaurents", spec := "fnExactMultiplyLaurents", inPlace := ["math/bits.Add64"], unfollowed := true, recurses := true, apart := false, narrowed := true }
def FnExactMultiplyLaurentsUptoSaid : Prop := fnExactMultiplyLaurentsUptoRow.holds Try.pinned (OpenSpec.upto fnExactMultiplyLaurentsSpec)

/-- 'laws.FnLaurents', WHERE WHAT IT READS IS OF BULK AT MOST 1048576: true; the input reads as it did. -/
def fnLaurentsUptoRow : OpenClaim := { program := "ytcipdgmimmngoaa", sum := "2c2104358e2c11902574f0e03a2c55c139daed053c904a12a93928b0b31d13d3", func := "loop.example/g01205/laws.FnLaurents", spec := "fnLaurents", inPlace := ["math/bits.Add64"], unfollowed := true, recurses := true, apart := false, narrowed := true }
def FnLaurentsUptoSaid : Prop := fnLaurentsUptoRow.holds Try.pinned (OpenSpec.upto fnLaurentsSpec)

end Rows
end Go.Proofs.Ytcipdgmimmngoaa
