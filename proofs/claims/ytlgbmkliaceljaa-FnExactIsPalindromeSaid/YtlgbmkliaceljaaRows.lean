/-
  No cell of these rows narrows 'for every input' (looked for: loops, veiled, ifaces, maps, wideKeys, modest, calm, conditions, laid).
  DERIVED. THE GIVEN ROWS OF THIS SEAT. 3 by the template 'for every input the law returns true; each argument reads behind the call as it read before'; 0 by the template 'total and deterministic' (their statements: YtlgbmkliaceljaaTotals.lean).
  GIVEN WITH THE SEED: the statements are not yours to turn. If you find one false, say at which input.
  Laid BY PROGRAM, IN A SANDBOX (cutbox-rows.mjs): the forced cells as the released guide's own fill.sh prints them over the translation 7f935dd55c00439b… (all of the seat's roots in one cut). By AI agents, Wed Nov 11 2026. No macro, syntax, notation, axiom, sorry.
-/
import Derived.Test.YtlgbmkliaceljaaChecked
import GoSem.Claim
import GoSem.ClaimJoined
import GoSem.ClaimMapViews
import Derived.JoinedTies
import Derived.KernelRfl
namespace Go.Proofs.Ytlgbmkliaceljaa
/- THE CELL 'sum', in the pinned program and in every row, IS THE sha256 OF THE DUMP (.gsa) THAT YtlgbmkliaceljaaProg.lean LOADS. Nothing in Lean hashes anything: it is a label: what it is worth is what the hold of that sum in a sandbox is worth. -/
noncomputable def Try.pinned : Pinned := { name := "ytlgbmkliaceljaa", sum := "7f935dd55c00439b1f98203d3d4aab106ea4e859d29c767caab3eef66512cbd3", checked := Try.checked }
namespace Rows
def none {H : Type} : Left H := { results := [], args := [] }

/-- 'laws.FnExactIsLaurent': WHATEVER THE INPUT: true; the input reads as it did. -/
def fnExactIsLaurentSpec : ChangeSpec := { name := "fnExactIsLaurent", fn := fun _ => fun
  | [d] => { results := [.lit (.bool true)], args := [d] }
  | _ => none }
def fnExactIsLaurentRow : OpenClaim := { program := "ytlgbmkliaceljaa", sum := "7f935dd55c00439b1f98203d3d4aab106ea4e859d29c767caab3eef66512cbd3", func := "loop.example/g01205/laws.FnExactIsLaurent", spec := "fnExactIsLaurent", unfollowed := true, recurses := true, apart := false }
def FnExactIsLaurentSaid : Prop := fnExactIsLaurentRow.holds Try.pinned (OpenSpec.ofChange fnExactIsLaurentSpec)

/-- ITS FALSE NEIGHBOUR: 'it returns false'. Refute it at one input. -/
def fnExactIsLaurentWrong : ChangeSpec := { name := "fnExactIsLaurent", fn := fun _ => fun
  | [d] => { results := [.lit (.bool false)], args := [d] }
  | _ => none }
def FnExactIsLaurentWrongFalsely : Prop := fnExactIsLaurentRow.holds Try.pinned (OpenSpec.ofChange fnExactIsLaurentWrong)

/-- 'laws.FnExactValueAtSign': WHATEVER THE INPUT: true; the input reads as it did. -/
def fnExactValueAtSignSpec : ChangeSpec := { name := "fnExactValueAtSign", fn := fun _ => fun
  | [d1, d2] => { results := [.lit (.bool true)], args := [d1, d2] }
  | _ => none }
def fnExactValueAtSignRow : OpenClaim := { program := "ytlgbmkliaceljaa", sum := "7f935dd55c00439b1f98203d3d4aab106ea4e859d29c767caab3eef66512cbd3", func := "loop.example/g01205/laws.FnExactValueAtSign", spec := "fnExactValueAtSign", unfollowed := true, recurses := true, apart := false }
def FnExactValueAtSignSaid : Prop := fnExactValueAtSignRow.holds Try.pinned (OpenSpec.ofChange fnExactValueAtSignSpec)

/-- ITS FALSE NEIGHBOUR: 'it returns false'. Refute it at one input. -/
def fnExactValueAtSignWrong : ChangeSpec := { name := "fnExactValueAtSign", fn := fun _ => fun
  | [d1, d2] => { results := [.lit (.bool false)], args := [d1, d2] }
  | _ => none }
def FnExactValueAtSignWrongFalsely : Prop := fnExactValueAtSignRow.holds Try.pinned (OpenSpec.ofChange fnExactValueAtSignWrong)

/-- 'laws.FnExactIsPalindrome': WHATEVER THE INPUT: true; the input reads as it did. -/
def fnExactIsPalindromeSpec : ChangeSpec := { name := "fnExactIsPalindrome", fn := fun _ => fun
  | [d] => { results := [.lit (.bool true)], args := [d] }
  | _ => none }
def fnExactIsPalindromeRow : OpenClaim := { program := "ytlgbmkliaceljaa", sum := "7f935dd55c00439b1f98203d3d4aab106ea4e859d29c767caab3eef66512cbd3", func := "loop.example/g01205/laws.FnExactIsPalindrome", spec := "fnExactIsPalindrome", unfollowed := true, recurses := true, apart := false }
def FnExactIsPalindromeSaid : Prop := fnExactIsPalindromeRow.holds Try.pinned (OpenSpec.ofChange fnExactIsPalindromeSpec)

/-- ITS FALSE NEIGHBOUR: 'it returns false'. Refute it at one input. -/
def fnExactIsPalindromeWrong : ChangeSpec := { name := "fnExactIsPalindrome", fn := fun _ => fun
  | [d] => { results := [.lit (.bool false)], args := [d] }
  | _ => none }
def FnExactIsPalindromeWrongFalsely : Prop := fnExactIsPalindromeRow.holds Try.pinned (OpenSpec.ofChange fnExactIsPalindromeWrong)

/- THE SECOND FORM. 'bulk': how many values and letters a reading holds, each counted each time it is reached (what is shared counts as often as it is met; a slice's spare places count too). A statement '..UptoSaid' is the law's where the arguments, and the package variables that the reading takes, are together of bulk at most 1048576: NARROWER than '..Said'. Prove '..Said' where nothing that the law and all that it calls make is longer than what came in: it says more and counts as full. Else prove '..UptoSaid'. A law counts once. -/
mutual
def uptoBulk {H : Type} : DataW H → Nat
  | .lit (.string bytes) => bytes.length + 1
  | .lit _ => 1
  | .nil => 1
  | .ptr d => uptoBulk d + 1
  | .slice elems spare => uptoBulkAll elems + uptoBulkAll spare + 1
  | .agg parts => uptoBulkAll parts + 1
  | .iface _ d => uptoBulk d + 1
  | .map entries => uptoBulkEntries entries + 1
  | .held _ => 1
def uptoBulkAll {H : Type} : List (DataW H) → Nat
  | [] => 0
  | d :: r => uptoBulk d + uptoBulkAll r
def uptoBulkEntries {H : Type} : List (Lit × DataW H) → Nat
  | [] => 0
  | x :: r => uptoBulkEntry x + uptoBulkEntries r
def uptoBulkEntry {H : Type} : Lit × DataW H → Nat
  | (.string bytes, d) => bytes.length + uptoBulk d + 1
  | (_, d) => uptoBulk d + 1
 end
def uptoSmall : (H : Type) → List (DataW H) → Bool := fun _ ds => decide (uptoBulkAll ds ≤ 1048576)
def OpenSpec.upto (s : _root_.Go.ChangeSpec) : _root_.Go.OpenSpec := { _root_.Go.OpenSpec.ofChange s with cond := some uptoSmall }

/-- 'laws.FnExactIsLaurent', WHERE WHAT IT READS IS OF BULK AT MOST 1048576: true; the input reads as it did. -/
def fnExactIsLaurentUptoRow : OpenClaim := { program := "ytlgbmkliaceljaa", sum := "7f935dd55c00439b1f98203d3d4aab106ea4e859d29c767caab3eef66512cbd3", func := "loop.example/g01205/laws.FnExactIsLaurent", spec := "fnExactIsLaurent", unfollowed := true, recurses := true, apart := false, narrowed := true }
def FnExactIsLaurentUptoSaid : Prop := fnExactIsLaurentUptoRow.holds Try.pinned (OpenSpec.upto fnExactIsLaurentSpec)

/-- 'laws.FnExactValueAtSign', WHERE WHAT IT READS IS OF BULK AT MOST 1048576: true; the input reads as it did. -/
def fnExactValueAtSignUptoRow : OpenClaim := { program := "ytlgbmkliaceljaa", sum := "7f935dd55c00439b1f98203d3d4aab106ea4e859d29c767caab3eef66512cbd3", func := "loop.example/g01205/laws.FnExactValueAtSign", spec := "fnExactValueAtSign", unfollowed := true, recurses := true, apart := false, narrowed := true }
def FnExactValueAtSignUptoSaid : Prop := fnExactValueAtSignUptoRow.holds Try.pinned (OpenSpec.upto fnExactValueAtSignSpec)

/-- 'laws.FnExactIsPalindrome', WHERE WHAT IT READS IS OF BULK AT MOST 1048576: true; the input reads as it did. -/
def fnExactIsPalindromeUptoRow : OpenClaim := { program := "ytlgbmkliaceljaa", sum := "7f935dd55c00439b1f98203d3d4aab106ea4e859d29c767caab3eef66512cbd3", func := "loop.example/g01205/laws.FnExactIsPalindrome", spec := "fnExactIsPalindrome", unfollowed := true, recurses := true, apart := false, narrowed := true }
def FnExactIsPalindromeUptoSaid : Prop := fnExactIsPalindromeUptoRow.holds Try.pinned (OpenSpec.upto fnExactIsPalindromeSpec)

end Rows
end Go.Proofs.Ytlgbmkliaceljaa
