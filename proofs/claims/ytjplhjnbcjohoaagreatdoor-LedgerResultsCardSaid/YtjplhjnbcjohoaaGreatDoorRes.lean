/-
  LedgerResults holds for every input: the tied card of the law tallyhouselaw17.LedgerResults. Conditions: those that the given row lists (the package-level variables hold what the program text lays; blake.start, blake.orders, blake.fours are read), and none besides.
-/
import Derived.Test.YtjplhjnbcjohoaaGreatDoorKp
import Derived.Test.YtjplhjnbcjohoaaGreatDoorKq
set_option linter.all false
set_option linter.unusedVariables false
set_option linter.unusedSimpArgs false
set_option linter.unusedSectionVars false
namespace Go.Proofs.YtjplhjnbcjohoaaGreatDoor
open Go Go.AM Go.ChangeShapes Go.WideShapes Go.ChangeAt Go.RowKit
/-- THE CARD. -/
theorem ledgerResults_card : Rows.LedgerResultsCardSaid :=
  Claim7.holds_tied_plain_at .later [] _ _ _ _ said (fun _ h => by cases h) (by kernel_rfl) (fun _ h => by cases h) ledgerResults_row_tie rfl ⟨rfl, rfl⟩ (by kernel_rfl) rfl plainT3 (by kernel_rfl)
end Go.Proofs.YtjplhjnbcjohoaaGreatDoor
