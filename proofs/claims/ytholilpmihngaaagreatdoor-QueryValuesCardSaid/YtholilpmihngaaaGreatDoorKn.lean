/-
  A part of the proof of QueryValues (the machine on named data, and the contracts of the functions that the law reaches): Qj2d.
-/
import Derived.Test.YtholilpmihngaaaGreatDoorKk
set_option linter.all false
set_option linter.unusedVariables false
set_option linter.unusedSimpArgs false
set_option linter.unusedSectionVars false
namespace Go.Proofs.YtholilpmihngaaaGreatDoor
open Go Go.ChangeShapes Go.WideShapes Go.ChangeAt Go.RowKit
theorem start_f (os : Os) (args : Array Value) : funcsRun Tryz.prog ((start os).forCall (fun _ _ => 0) ⟨#[], args, []⟩).memory 8 ((funcsListed Rows.queryValuesRow.laid).map (·.1)) = some ((funcsListed Rows.queryValuesRow.laid).map (·.2.funcsOut)) := by kernel_rfl
end Go.Proofs.YtholilpmihngaaaGreatDoor
