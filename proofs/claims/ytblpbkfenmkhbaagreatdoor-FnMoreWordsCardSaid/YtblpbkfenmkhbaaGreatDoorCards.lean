/-
  DERIVED. GIVEN WITH THE SEED: THE CARDS: each row of YtblpbkfenmkhbaaGreatDoorRows.lean that lists a variable, with what it lists TIED to the program's text (the seventh form; the later family's looks); each row that meets fmt, with fmt's text TOLD by the authors' own Lean function (tested against real Go, not proved from fmt's source: count such statements apart). THE CARD IS WHAT COUNTS. Prove the row's statement (the work); the ties are given (YtblpbkfenmkhbaaGreatDoorTie.lean); close each card by the builder's one call (the guide's Derived/Test/ToyasCard.lean, 'card_holds'). Laid BY PROGRAM, IN A SANDBOX (cutbox-door.mjs). By AI agents, Wed Nov 11 2026. No macro, syntax, notation, axiom, sorry.
-/
import Derived.Test.YtblpbkfenmkhbaaGreatDoorRows
import GoSem.ClaimSeven
namespace Go.Proofs.YtblpbkfenmkhbaaGreatDoor
namespace Rows

/-- THE TIED CARD OF 'laws.FnMoreWords'. -/
def fnMoreWordsCard : Claim7 := { stood := { row := fnMoreWordsRow, standIns := [], harness := (true, "68ba68fe50407a944679b1e2f5688a496b2f6699d8a4ede635a49a5cecf089ad"), looks := true }, kinds := [], alts := [], laidByText := true, laidKinds := [.data, .data, .data, .data, .sentinel, .sentinel, .pinned], laidTests := true, laidLooks := .later }
def FnMoreWordsCardSaid : Prop := Claim7.holds Tryz.pinned (.plain (OpenSpec.ofChange fnMoreWordsSpec)) fnMoreWordsCard

/-- THE SECOND FORM's CARD OF 'laws.FnMoreWords'. -/
def fnMoreWordsUptoCard : Claim7 := { stood := { row := fnMoreWordsUptoRow, standIns := [], harness := (true, "68ba68fe50407a944679b1e2f5688a496b2f6699d8a4ede635a49a5cecf089ad"), looks := true }, kinds := [], alts := [], laidByText := true, laidKinds := [.data, .data, .data, .data, .sentinel, .sentinel, .pinned], laidTests := true, laidLooks := .later }
def FnMoreWordsUptoCardSaid : Prop := Claim7.holds Tryz.pinned (.plain (OpenSpec.upto fnMoreWordsSpec)) fnMoreWordsUptoCard
end Rows
end Go.Proofs.YtblpbkfenmkhbaaGreatDoor
