/-
  DERIVED. GIVEN WITH THE SEED: THE CARDS: each row of YtnacaggkeejodaaGreatDoorRows.lean that lists a variable, with what it lists TIED to the program's text (the seventh form; the later family's looks); each row that meets fmt, with fmt's text TOLD by the authors' own Lean function (tested against real Go, not proved from fmt's source: count such statements apart). THE CARD IS WHAT COUNTS. Prove the row's statement (the work); the ties are given (YtnacaggkeejodaaGreatDoorTie.lean); close each card by the builder's one call (the guide's Derived/Test/ToyasCard.lean, 'card_holds'). Laid BY PROGRAM, IN A SANDBOX (cutbox-door.mjs). By AI agents, Wed Nov 11 2026. No macro, syntax, notation, axiom, sorry.
-/
import Derived.Test.YtnacaggkeejodaaGreatDoorRows
import GoSem.ClaimSeven
namespace Go.Proofs.YtnacaggkeejodaaGreatDoor
namespace Rows

/-- THE TIED CARD OF 'tallyhouselaw14.QuerySame'. -/
def querySameCard : Claim7 := { stood := { row := querySameRow, standIns := [], harness := (true, "1fab4d4792285f4479c884ea6d10f826f59140b43f4f9965464a312dd5a9ffb0"), looks := true }, kinds := [], alts := [], laidByText := true, laidKinds := [.data, .data, .data, .data, .sentinel, .sentinel, .funcs, .funcs, .pinned, .pinned], laidTests := true, laidLooks := .later }
def QuerySameCardSaid : Prop := Claim7.holds Tryz.pinned (.plain (OpenSpec.ofChange querySameSpec)) querySameCard

/-- THE SECOND FORM's CARD OF 'tallyhouselaw14.QuerySame'. -/
def querySameUptoCard : Claim7 := { stood := { row := querySameUptoRow, standIns := [], harness := (true, "1fab4d4792285f4479c884ea6d10f826f59140b43f4f9965464a312dd5a9ffb0"), looks := true }, kinds := [], alts := [], laidByText := true, laidKinds := [.data, .data, .data, .data, .sentinel, .sentinel, .funcs, .funcs, .pinned, .pinned], laidTests := true, laidLooks := .later }
def QuerySameUptoCardSaid : Prop := Claim7.holds Tryz.pinned (.plain (OpenSpec.upto querySameSpec)) querySameUptoCard
end Rows
end Go.Proofs.YtnacaggkeejodaaGreatDoor
