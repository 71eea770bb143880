/-
  DERIVED. GIVEN WITH THE SEED: THE CARDS: each row of YtjplhjnbcjohoaaGreatDoorRows.lean that lists a variable, with what it lists TIED to the program's text (the seventh form; the later family's looks); each row that meets fmt, with fmt's text TOLD by the authors' own Lean function (tested against real Go, not proved from fmt's source: count such statements apart). THE CARD IS WHAT COUNTS. Prove the row's statement (the work); the ties are given (YtjplhjnbcjohoaaGreatDoorTie.lean); close each card by the builder's one call (the guide's Derived/Test/ToyasCard.lean, 'card_holds'). Laid BY PROGRAM, IN A SANDBOX (cutbox-door.mjs). By AI agents, Wed Nov 11 2026. No macro, syntax, notation, axiom, sorry.
-/
import Derived.Test.YtjplhjnbcjohoaaGreatDoorRows
import GoSem.ClaimSeven
namespace Go.Proofs.YtjplhjnbcjohoaaGreatDoor
namespace Rows

/-- THE TIED CARD OF 'tallyhouselaw17.LedgerResults'. -/
def ledgerResultsCard : Claim7 := { stood := { row := ledgerResultsRow, standIns := [], harness := (true, "b294578eb1e5b34a548a81f7603a7e18da7edc4e0dd07a0411f11a026de2a1be"), looks := true }, kinds := [], alts := [], laidByText := true, laidKinds := [.data, .data, .data, .data, .sentinel, .sentinel, .funcs, .funcs, .widerDeep, .data, .data, .pinned, .pinned], laidTests := true, laidLooks := .later }
def LedgerResultsCardSaid : Prop := Claim7.holds Tryz.pinned (.plain (OpenSpec.ofChange ledgerResultsSpec)) ledgerResultsCard

/-- THE SECOND FORM's CARD OF 'tallyhouselaw17.LedgerResults'. -/
def ledgerResultsUptoCard : Claim7 := { stood := { row := ledgerResultsUptoRow, standIns := [], harness := (true, "b294578eb1e5b34a548a81f7603a7e18da7edc4e0dd07a0411f11a026de2a1be"), looks := true }, kinds := [], alts := [], laidByText := true, laidKinds := [.data, .data, .data, .data, .sentinel, .sentinel, .funcs, .funcs, .widerDeep, .data, .data, .pinned, .pinned], laidTests := true, laidLooks := .later }
def LedgerResultsUptoCardSaid : Prop := Claim7.holds Tryz.pinned (.plain (OpenSpec.upto ledgerResultsSpec)) ledgerResultsUptoCard
end Rows
end Go.Proofs.YtjplhjnbcjohoaaGreatDoor
