/-
  A part of the proof of IdealChecks (the machine on named data, and the contracts of the functions that the law reaches): Ij2e.
-/
import Derived.Test.YtbhfnmeojhpgbaaGreatDoorKk
import Derived.Test.YtbhfnmeojhpgbaaGreatDoorKl
set_option linter.all false
set_option linter.unusedVariables false
set_option linter.unusedSimpArgs false
set_option linter.unusedSectionVars false
namespace Go.Proofs.YtbhfnmeojhpgbaaGreatDoor
open Go Go.ChangeShapes Go.WideShapes Go.ChangeAt Go.RowKit
theorem start_met (os : Os) (args : Array Value) : laidMetH Tryz.prog Rows.idealChecksRow.laid ((start os).forCall (fun _ _ => 0) ⟨#[], args, []⟩).memory :=
  laidMetH_of_parts3 (fuel := 8) ((start_plain os).of_heap (by simp [World.memory, World.forCall, Input.heap])) (start_h os args) (start_f os args)
end Go.Proofs.YtbhfnmeojhpgbaaGreatDoor
