/-
  DERIVED. GIVEN WITH THE SEED: THE CARDS: each row of YtobajijkmmhdjaaGreatDoorRows.lean that lists a variable, with what it lists TIED to the program's text (the seventh form; the later family's looks); each row that meets fmt, with fmt's text TOLD by the authors' own Lean function (tested against real Go, not proved from fmt's source: count such statements apart). THE CARD IS WHAT COUNTS. Prove the row's statement (the work); the ties are given (YtobajijkmmhdjaaGreatDoorTie.lean); close each card by the builder's one call (the guide's Derived/Test/ToyasCard.lean, 'card_holds'). Laid BY PROGRAM, IN A SANDBOX (cutbox-door.mjs). By AI agents, Wed Nov 11 2026. No macro, syntax, notation, axiom, sorry.
-/
import Derived.Test.YtobajijkmmhdjaaGreatDoorRows
import GoSem.ClaimSeven
namespace Go.Proofs.YtobajijkmmhdjaaGreatDoor
namespace Rows

/-- THE TIED CARD OF 'tallyhouselaw22.ClientStays'. -/
def clientStaysCard : Claim7 := { stood := { row := clientStaysRow, standIns := [], harness := (true, "0dc31525e45cf37100d35cbe033c4ca1cf50cb0ba4f6732c0eddb659b8153ffc"), looks := false }, kinds := [], alts := [], laidByText := true, laidKinds := [.data, .widerDeep, .data, .data, .pinned, .pinned], laidTests := true, laidLooks := .later }
def ClientStaysCardSaid : Prop := Claim7.holds Tryz.pinned (.plain (OpenSpec.ofChange clientStaysSpec)) clientStaysCard

/-- THE SECOND FORM's CARD OF 'tallyhouselaw22.ClientStays'. -/
def clientStaysUptoCard : Claim7 := { stood := { row := clientStaysUptoRow, standIns := [], harness := (true, "0dc31525e45cf37100d35cbe033c4ca1cf50cb0ba4f6732c0eddb659b8153ffc"), looks := false }, kinds := [], alts := [], laidByText := true, laidKinds := [.data, .widerDeep, .data, .data, .pinned, .pinned], laidTests := true, laidLooks := .later }
def ClientStaysUptoCardSaid : Prop := Claim7.holds Tryz.pinned (.plain (OpenSpec.upto clientStaysSpec)) clientStaysUptoCard
end Rows
end Go.Proofs.YtobajijkmmhdjaaGreatDoor
