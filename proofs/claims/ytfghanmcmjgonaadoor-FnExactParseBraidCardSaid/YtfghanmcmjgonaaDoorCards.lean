/-
  DERIVED. GIVEN WITH THE SEED: THE CARDS: each row of YtfghanmcmjgonaaDoorRows.lean that lists a variable, with what it lists TIED to the program's text (the seventh form; the later family's looks); each row that meets fmt, with fmt's text TOLD by the authors' own Lean function (tested against real Go, not proved from fmt's source: count such statements apart). THE CARD IS WHAT COUNTS. Prove the row's statement (the work); the ties are given (YtfghanmcmjgonaaDoorTie.lean); close each card by the builder's one call (the guide's Derived/Test/ToyasCard.lean, 'card_holds'). Laid BY PROGRAM, IN A SANDBOX (cutbox-door.mjs). By AI agents, Wed Nov 11 2026. No macro, syntax, notation, axiom, sorry.
-/
import Derived.Test.YtfghanmcmjgonaaDoorRows
import GoSem.ClaimSeven
namespace Go.Proofs.YtfghanmcmjgonaaDoor
namespace Rows

/-- THE TIED CARD OF 'laws.FnExactParseBraid'. -/
def fnExactParseBraidCard : Claim7 := { stood := { row := fnExactParseBraidRow, standIns := [], harness := (true, "8a3e05d2dd42cbbbbf3935231144f6bb27ce0be5454d25b88c1c19b28d289faa"), looks := true }, kinds := [], alts := [], laidByText := true, laidKinds := [.data, .data, .data, .data, .sentinel, .sentinel, .pinned], laidTests := true, laidLooks := .later }
def FnExactParseBraidCardSaid : Prop := Claim7.holds Tryd.pinned (.plain (OpenSpec.ofChange fnExactParseBraidSpec)) fnExactParseBraidCard

/-- THE SECOND FORM's CARD OF 'laws.FnExactParseBraid'. -/
def fnExactParseBraidUptoCard : Claim7 := { stood := { row := fnExactParseBraidUptoRow, standIns := [], harness := (true, "8a3e05d2dd42cbbbbf3935231144f6bb27ce0be5454d25b88c1c19b28d289faa"), looks := true }, kinds := [], alts := [], laidByText := true, laidKinds := [.data, .data, .data, .data, .sentinel, .sentinel, .pinned], laidTests := true, laidLooks := .later }
def FnExactParseBraidUptoCardSaid : Prop := Claim7.holds Tryd.pinned (.plain (OpenSpec.upto fnExactParseBraidSpec)) fnExactParseBraidUptoCard
end Rows
end Go.Proofs.YtfghanmcmjgonaaDoor
