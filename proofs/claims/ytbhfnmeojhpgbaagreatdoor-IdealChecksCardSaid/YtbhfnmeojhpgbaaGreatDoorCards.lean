/-
  DERIVED. GIVEN WITH THE SEED: THE CARDS: each row of YtbhfnmeojhpgbaaGreatDoorRows.lean that lists a variable, with what it lists TIED to the program's text (the seventh form; the later family's looks); each row that meets fmt, with fmt's text TOLD by the authors' own Lean function (tested against real Go, not proved from fmt's source: count such statements apart). THE CARD IS WHAT COUNTS. Prove the row's statement (the work); the ties are given (YtbhfnmeojhpgbaaGreatDoorTie.lean); close each card by the builder's one call (the guide's Derived/Test/ToyasCard.lean, 'card_holds'). Laid BY PROGRAM, IN A SANDBOX (cutbox-door.mjs). By AI agents, Wed Nov 11 2026. No macro, syntax, notation, axiom, sorry.
-/
import Derived.Test.YtbhfnmeojhpgbaaGreatDoorRows
import GoSem.ClaimSeven
namespace Go.Proofs.YtbhfnmeojhpgbaaGreatDoor
namespace Rows

/-- THE TIED CARD OF 'tallyhouselaw24.IdealChecks'. -/
def idealChecksCard : Claim7 := { stood := { row := idealChecksRow, standIns := [], harness := (true, "01959912fd2612f360b2f7883e02aa05eac559489e689e7773861721bcfeb288"), looks := true }, kinds := [], alts := [], laidByText := true, laidKinds := [.data, .data, .data, .data, .sentinel, .sentinel, .funcs, .funcs, .widerDeep, .data, .data, .pinned, .pinned], laidTests := true, laidLooks := .later }
def IdealChecksCardSaid : Prop := Claim7.holds Tryz.pinned (.plain (OpenSpec.ofChange idealChecksSpec)) idealChecksCard

/-- THE SECOND FORM's CARD OF 'tallyhouselaw24.IdealChecks'. -/
def idealChecksUptoCard : Claim7 := { stood := { row := idealChecksUptoRow, standIns := [], harness := (true, "01959912fd2612f360b2f7883e02aa05eac559489e689e7773861721bcfeb288"), looks := true }, kinds := [], alts := [], laidByText := true, laidKinds := [.data, .data, .data, .data, .sentinel, .sentinel, .funcs, .funcs, .widerDeep, .data, .data, .pinned, .pinned], laidTests := true, laidLooks := .later }
def IdealChecksUptoCardSaid : Prop := Claim7.holds Tryz.pinned (.plain (OpenSpec.upto idealChecksSpec)) idealChecksUptoCard
end Rows
end Go.Proofs.YtbhfnmeojhpgbaaGreatDoor
