/-
  DERIVED. GIVEN WITH THE SEED: THE CARDS: each row of YteogfncfpmdabaaDoorRows.lean that lists a variable, with what it lists TIED to the program's text (the seventh form; the later family's looks); each row that meets fmt, with fmt's text TOLD by the authors' own Lean function (tested against real Go, not proved from fmt's source: count such statements apart). THE CARD IS WHAT COUNTS. Prove the row's statement (the work); the ties are given (YteogfncfpmdabaaDoorTie.lean); close each card by the builder's one call (the guide's Derived/Test/ToyasCard.lean, 'card_holds'). Laid BY PROGRAM, IN A SANDBOX (cutbox-door.mjs). By AI agents, Wed Nov 11 2026. No macro, syntax, notation, axiom, sorry.
-/
import Derived.Test.YteogfncfpmdabaaDoorRows
import GoSem.ClaimSeven
namespace Go.Proofs.YteogfncfpmdabaaDoor
namespace Rows

/-- THE TIED CARD OF 'laws.FnExactBraidText'. -/
def fnExactBraidTextCard : Claim7 := { stood := { row := fnExactBraidTextRow, standIns := [], harness := (true, "166754de73fad1bef301c317a7b3e83902d0ee1a3c435b2214625fc4f2fd028b"), looks := false }, kinds := [], alts := [], laidByText := true, laidKinds := [.data, .data, .data], laidTests := true, laidLooks := .later }
def FnExactBraidTextCardSaid : Prop := Claim7.holds Tryd.pinned (.plain (OpenSpec.ofChange fnExactBraidTextSpec)) fnExactBraidTextCard

/-- THE SECOND FORM's CARD OF 'laws.FnExactBraidText'. -/
def fnExactBraidTextUptoCard : Claim7 := { stood := { row := fnExactBraidTextUptoRow, standIns := [], harness := (true, "166754de73fad1bef301c317a7b3e83902d0ee1a3c435b2214625fc4f2fd028b"), looks := false }, kinds := [], alts := [], laidByText := true, laidKinds := [.data, .data, .data], laidTests := true, laidLooks := .later }
def FnExactBraidTextUptoCardSaid : Prop := Claim7.holds Tryd.pinned (.plain (OpenSpec.upto fnExactBraidTextSpec)) fnExactBraidTextUptoCard
end Rows
end Go.Proofs.YteogfncfpmdabaaDoor
