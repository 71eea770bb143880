/-
  QueryValues holds for every input: the tied card of the law tallyhouselaw14.QueryValues. Conditions: those that the given row lists (the package-level variables hold what the program text lays; value.tests, value.reckons are read), and none besides.
-/
import Derived.Test.YtholilpmihngaaaGreatDoorKr
import Derived.Test.YtholilpmihngaaaGreatDoorKs
set_option linter.all false
set_option linter.unusedVariables false
set_option linter.unusedSimpArgs false
set_option linter.unusedSectionVars false
namespace Go.Proofs.YtholilpmihngaaaGreatDoor
open Go Go.AM Go.ChangeShapes Go.WideShapes Go.ChangeAt Go.RowKit
/-- THE CARD. -/
theorem queryValues_card : Rows.QueryValuesCardSaid :=
  Claim7.holds_tied_plain_at .later [] _ _ _ _ said (fun _ h => by cases h) (by kernel_rfl) (fun _ h => by cases h) queryValues_row_tie rfl ⟨rfl, rfl⟩ (by kernel_rfl) rfl plainT3 (by kernel_rfl)
end Go.Proofs.YtholilpmihngaaaGreatDoor
