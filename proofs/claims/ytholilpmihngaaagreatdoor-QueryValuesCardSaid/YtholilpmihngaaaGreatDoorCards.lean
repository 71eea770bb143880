/-
  DERIVED. GIVEN WITH THE SEED: THE CARDS: each row of YtholilpmihngaaaGreatDoorRows.lean that lists a variable, with what it lists TIED to the program's text (the seventh form; the later family's looks); each row that meets fmt, with fmt's text TOLD by the authors' own Lean function (tested against real Go, not proved from fmt's source: count such statements apart). THE CARD IS WHAT COUNTS. Prove the row's statement (the work); the ties are given (YtholilpmihngaaaGreatDoorTie.lean); close each card by the builder's one call (the guide's Derived/Test/ToyasCard.lean, 'card_holds'). Laid BY PROGRAM, IN A SANDBOX (cutbox-door.mjs). By AI agents, Wed Nov 11 2026. No macro, syntax, notation, axiom, sorry.
-/
import Derived.Test.YtholilpmihngaaaGreatDoorRows
import GoSem.ClaimSeven
namespace Go.Proofs.YtholilpmihngaaaGreatDoor
namespace Rows

/-- THE TIED CARD OF 'tallyhouselaw14.QueryValues'. -/
def queryValuesCard : Claim7 := { stood := { row := queryValuesRow, standIns := [], harness := (true, "1a34cb5ebf0a9b621a82a2e206500ecdfb99db5ea8d3a294eb0b623f157585f7"), looks := true }, kinds := [], alts := [], laidByText := true, laidKinds := [.data, .data, .data, .data, .sentinel, .sentinel, .funcs, .funcs, .pinned, .pinned], laidTests := true, laidLooks := .later }
def QueryValuesCardSaid : Prop := Claim7.holds Tryz.pinned (.plain (OpenSpec.ofChange queryValuesSpec)) queryValuesCard

/-- THE SECOND FORM's CARD OF 'tallyhouselaw14.QueryValues'. -/
def queryValuesUptoCard : Claim7 := { stood := { row := queryValuesUptoRow, standIns := [], harness := (true, "1a34cb5ebf0a9b621a82a2e206500ecdfb99db5ea8d3a294eb0b623f157585f7"), looks := true }, kinds := [], alts := [], laidByText := true, laidKinds := [.data, .data, .data, .data, .sentinel, .sentinel, .funcs, .funcs, .pinned, .pinned], laidTests := true, laidLooks := .later }
def QueryValuesUptoCardSaid : Prop := Claim7.holds Tryz.pinned (.plain (OpenSpec.upto queryValuesSpec)) queryValuesUptoCard
end Rows
end Go.Proofs.YtholilpmihngaaaGreatDoor
