/-
  IdealChecks holds for every input: the tied card of the law tallyhouselaw24.IdealChecks. Conditions: those that the given row lists (the package-level variables hold what the program text lays; blake.start, blake.orders, blake.fours are read), and none besides.
-/
import Derived.Test.YtbhfnmeojhpgbaaGreatDoorKp
import Derived.Test.YtbhfnmeojhpgbaaGreatDoorKq
set_option linter.all false
set_option linter.unusedVariables false
set_option linter.unusedSimpArgs false
set_option linter.unusedSectionVars false
namespace Go.Proofs.YtbhfnmeojhpgbaaGreatDoor
open Go Go.AM Go.ChangeShapes Go.WideShapes Go.ChangeAt Go.RowKit
/-- THE CARD. -/
theorem idealChecks_card : Rows.IdealChecksCardSaid :=
  Claim7.holds_tied_plain_at .later [] _ _ _ _ said (fun _ h => by cases h) (by kernel_rfl) (fun _ h => by cases h) idealChecks_row_tie rfl ⟨rfl, rfl⟩ (by kernel_rfl) rfl plainT3 (by kernel_rfl)
end Go.Proofs.YtbhfnmeojhpgbaaGreatDoor
