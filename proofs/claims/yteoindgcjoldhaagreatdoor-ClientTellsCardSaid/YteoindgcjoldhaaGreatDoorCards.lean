/-
  DERIVED. GIVEN WITH THE SEED: THE CARDS: each row of YteoindgcjoldhaaGreatDoorRows.lean that lists a variable, with what it lists TIED to the program's text (the seventh form; the later family's looks); each row that meets fmt, with fmt's text TOLD by the authors' own Lean function (tested against real Go, not proved from fmt's source: count such statements apart). THE CARD IS WHAT COUNTS. Prove the row's statement (the work); the ties are given (YteoindgcjoldhaaGreatDoorTie.lean); close each card by the builder's one call (the guide's Derived/Test/ToyasCard.lean, 'card_holds'). Laid BY PROGRAM, IN A SANDBOX (cutbox-door.mjs). By AI agents, Wed Nov 11 2026. No macro, syntax, notation, axiom, sorry.
-/
import Derived.Test.YteoindgcjoldhaaGreatDoorRows
import GoSem.ClaimSeven
namespace Go.Proofs.YteoindgcjoldhaaGreatDoor
namespace Rows

/-- THE TIED CARD OF 'tallyhouselaw22.ClientPlays'. -/
def clientPlaysCard : Claim7 := { stood := { row := clientPlaysRow, standIns := [], harness := (true, "c27c415e4c633ff99c9a1e7f8770ddfc72cbdd54eba9352b2236eaede4df583a"), looks := false }, kinds := [], alts := [], laidByText := true, laidKinds := [.data, .widerDeep, .data, .data, .pinned, .pinned], laidTests := true, laidLooks := .later }
def ClientPlaysCardSaid : Prop := Claim7.holds Tryz.pinned (.plain (OpenSpec.ofChange clientPlaysSpec)) clientPlaysCard

/-- THE TIED CARD OF 'tallyhouselaw22.ClientStays'. -/
def clientStaysCard : Claim7 := { stood := { row := clientStaysRow, standIns := [], harness := (true, "c27c415e4c633ff99c9a1e7f8770ddfc72cbdd54eba9352b2236eaede4df583a"), looks := false }, kinds := [], alts := [], laidByText := true, laidKinds := [.data, .widerDeep, .data, .data, .pinned, .pinned], laidTests := true, laidLooks := .later }
def ClientStaysCardSaid : Prop := Claim7.holds Tryz.pinned (.plain (OpenSpec.ofChange clientStaysSpec)) clientStaysCard

/-- THE TIED CARD OF 'tallyhouselaw22.ClientTells'. -/
def clientTellsCard : Claim7 := { stood := { row := clientTellsRow, standIns := [], harness := (true, "c27c415e4c633ff99c9a1e7f8770ddfc72cbdd54eba9352b2236eaede4df583a"), looks := false }, kinds := [], alts := [], laidByText := true, laidKinds := [.data, .widerDeep, .data, .data, .pinned, .pinned], laidTests := true, laidLooks := .later }
def ClientTellsCardSaid : Prop := Claim7.holds Tryz.pinned (.plain (OpenSpec.ofChange clientTellsSpec)) clientTellsCard

/-- THE SECOND FORM's CARD OF 'tallyhouselaw22.ClientPlays'. -/
def clientPlaysUptoCard : Claim7 := { stood := { row := clientPlaysUptoRow, standIns := [], harness := (true, "c27c415e4c633ff99c9a1e7f8770ddfc72cbdd54eba9352b2236eaede4df583a"), looks := false }, kinds := [], alts := [], laidByText := true, laidKinds := [.data, .widerDeep, .data, .data, .pinned, .pinned], laidTests := true, laidLooks := .later }
def ClientPlaysUptoCardSaid : Prop := Claim7.holds Tryz.pinned (.plain (OpenSpec.upto clientPlaysSpec)) clientPlaysUptoCard

/-- THE SECOND FORM's CARD OF 'tallyhouselaw22.ClientStays'. -/
def clientStaysUptoCard : Claim7 := { stood := { row := clientStaysUptoRow, standIns := [], harness := (true, "c27c415e4c633ff99c9a1e7f8770ddfc72cbdd54eba9352b2236eaede4df583a"), looks := false }, kinds := [], alts := [], laidByText := true, laidKinds := [.data, .widerDeep, .data, .data, .pinned, .pinned], laidTests := true, laidLooks := .later }
def ClientStaysUptoCardSaid : Prop := Claim7.holds Tryz.pinned (.plain (OpenSpec.upto clientStaysSpec)) clientStaysUptoCard

/-- THE SECOND FORM's CARD OF 'tallyhouselaw22.ClientTells'. -/
def clientTellsUptoCard : Claim7 := { stood := { row := clientTellsUptoRow, standIns := [], harness := (true, "c27c415e4c633ff99c9a1e7f8770ddfc72cbdd54eba9352b2236eaede4df583a"), looks := false }, kinds := [], alts := [], laidByText := true, laidKinds := [.data, .widerDeep, .data, .data, .pinned, .pinned], laidTests := true, laidLooks := .later }
def ClientTellsUptoCardSaid : Prop := Claim7.holds Tryz.pinned (.plain (OpenSpec.upto clientTellsSpec)) clientTellsUptoCard
end Rows
end Go.Proofs.YteoindgcjoldhaaGreatDoor
