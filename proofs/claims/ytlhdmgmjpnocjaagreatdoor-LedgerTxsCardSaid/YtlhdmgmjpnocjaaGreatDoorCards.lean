/-
  DERIVED. GIVEN WITH THE SEED: THE CARDS: each row of YtlhdmgmjpnocjaaGreatDoorRows.lean that lists a variable, with what it lists TIED to the program's text (the seventh form; the later family's looks); each row that meets fmt, with fmt's text TOLD by the authors' own Lean function (tested against real Go, not proved from fmt's source: count such statements apart). THE CARD IS WHAT COUNTS. Prove the row's statement (the work); the ties are given (YtlhdmgmjpnocjaaGreatDoorTie.lean); close each card by the builder's one call (the guide's Derived/Test/ToyasCard.lean, 'card_holds'). Laid BY PROGRAM, IN A SANDBOX (cutbox-door.mjs). By AI agents, Wed Nov 11 2026. No macro, syntax, notation, axiom, sorry.
-/
import Derived.Test.YtlhdmgmjpnocjaaGreatDoorRows
import GoSem.ClaimSeven
namespace Go.Proofs.YtlhdmgmjpnocjaaGreatDoor
namespace Rows

/-- THE TIED CARD OF 'tallyhouselaw17.LedgerTxs'. -/
def ledgerTxsCard : Claim7 := { stood := { row := ledgerTxsRow, standIns := [], harness := (true, "56b13fe4eef2b9107cd720a653365aec5e63dffaa5cc7312daa21e9fbe251b22"), looks := true }, kinds := [], alts := [], laidByText := true, laidKinds := [.data, .data, .data, .data, .sentinel, .sentinel, .funcs, .funcs, .widerDeep, .data, .data, .pinned, .pinned], laidTests := true, laidLooks := .later }
def LedgerTxsCardSaid : Prop := Claim7.holds Tryz.pinned (.plain (OpenSpec.ofChange ledgerTxsSpec)) ledgerTxsCard

/-- THE SECOND FORM's CARD OF 'tallyhouselaw17.LedgerTxs'. -/
def ledgerTxsUptoCard : Claim7 := { stood := { row := ledgerTxsUptoRow, standIns := [], harness := (true, "56b13fe4eef2b9107cd720a653365aec5e63dffaa5cc7312daa21e9fbe251b22"), looks := true }, kinds := [], alts := [], laidByText := true, laidKinds := [.data, .data, .data, .data, .sentinel, .sentinel, .funcs, .funcs, .widerDeep, .data, .data, .pinned, .pinned], laidTests := true, laidLooks := .later }
def LedgerTxsUptoCardSaid : Prop := Claim7.holds Tryz.pinned (.plain (OpenSpec.upto ledgerTxsSpec)) ledgerTxsUptoCard
end Rows
end Go.Proofs.YtlhdmgmjpnocjaaGreatDoor
