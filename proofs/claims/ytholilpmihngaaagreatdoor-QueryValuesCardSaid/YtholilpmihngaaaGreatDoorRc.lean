/-
  A part of the proof of QueryValues (the machine on named data, and the contracts of the functions that the law reaches): WB2.
-/
import Derived.Test.YtholilpmihngaaaGreatDoorGb
set_option linter.all false
set_option linter.unusedVariables false
set_option linter.unusedSimpArgs false
set_option linter.unusedSectionVars false
namespace Go.Proofs.YtholilpmihngaaaGreatDoor
open Go Go.AM
theorem firstRun : firstTab.all (fun r => rowX (@callA O0 Tryz.prog G spec2 1000000 93 r.1 heap0) r.2) = true := by kernel_rfl
end Go.Proofs.YtholilpmihngaaaGreatDoor
