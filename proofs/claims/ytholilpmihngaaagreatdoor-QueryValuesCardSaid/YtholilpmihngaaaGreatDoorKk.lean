/-
  A part of the proof of QueryValues (the machine on named data, and the contracts of the functions that the law reaches): Qj2.
-/
import Derived.Test.YtholilpmihngaaaGreatDoorKi
set_option linter.all false
set_option linter.unusedVariables false
set_option linter.unusedSimpArgs false
set_option linter.unusedSectionVars false
namespace Go.Proofs.YtholilpmihngaaaGreatDoor
open Go Go.ChangeShapes Go.WideShapes Go.ChangeAt Go.RowKit
/-- The listed variables that hold plain data. -/
noncomputable def plainL : List (String × DataW Unit) := Rows.queryValuesRow.laid.filter fun x => x.2.handleName?.isNone
/-- The start: what the program's own initialisers leave, and the plain data laid. -/
noncomputable def start (os : Os) : World := (World.doorLaid Tryz.prog 115 os).layVars Tryz.prog plainL
theorem start_os (os : Os) : (start os).os = os := (World.layVars_os _ _ _).trans rfl
theorem start_fits (os : Os) : (World.doorLaid Tryz.prog 115 os).layFits Tryz.prog plainL [] = true := by kernel_rfl
end Go.Proofs.YtholilpmihngaaaGreatDoor
