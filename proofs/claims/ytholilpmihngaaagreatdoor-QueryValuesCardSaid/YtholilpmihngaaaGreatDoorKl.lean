/-
  A part of the proof of QueryValues (the machine on named data, and the contracts of the functions that the law reaches): Qj2b.
-/
import Derived.Test.YtholilpmihngaaaGreatDoorKk
set_option linter.all false
set_option linter.unusedVariables false
set_option linter.unusedSimpArgs false
set_option linter.unusedSectionVars false
namespace Go.Proofs.YtholilpmihngaaaGreatDoor
open Go Go.ChangeShapes Go.WideShapes Go.ChangeAt Go.RowKit
theorem start_ifaces (os : Os) : (World.doorLaid Tryz.prog 115 os).layIfaces Tryz.prog plainL (start os) = true := by kernel_rfl
end Go.Proofs.YtholilpmihngaaaGreatDoor
