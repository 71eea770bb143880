/-
  A part of the proof of QueryValues (the machine on named data, and the contracts of the functions that the law reaches): Qj2e.
-/
import Derived.Test.YtholilpmihngaaaGreatDoorKm
import Derived.Test.YtholilpmihngaaaGreatDoorKn
set_option linter.all false
set_option linter.unusedVariables false
set_option linter.unusedSimpArgs false
set_option linter.unusedSectionVars false
namespace Go.Proofs.YtholilpmihngaaaGreatDoor
open Go Go.ChangeShapes Go.WideShapes Go.ChangeAt Go.RowKit
theorem start_met (os : Os) (args : Array Value) : laidMetH Tryz.prog Rows.queryValuesRow.laid ((start os).forCall (fun _ _ => 0) ⟨#[], args, []⟩).memory :=
  laidMetH_of_parts3 (fuel := 8) ((start_plain os).of_heap (by simp [World.memory, World.forCall, Input.heap])) (start_h os args) (start_f os args)
end Go.Proofs.YtholilpmihngaaaGreatDoor
