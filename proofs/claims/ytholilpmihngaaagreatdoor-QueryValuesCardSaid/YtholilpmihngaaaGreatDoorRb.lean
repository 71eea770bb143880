/-
  A part of the proof of QueryValues (the machine on named data, and the contracts of the functions that the law reaches): WB1.
-/
import Derived.Test.YtholilpmihngaaaGreatDoorGb
set_option linter.all false
set_option linter.unusedVariables false
set_option linter.unusedSimpArgs false
set_option linter.unusedSectionVars false
namespace Go.Proofs.YtholilpmihngaaaGreatDoor
open Go Go.AM
theorem nameRun : nameTab.all (fun r => rowX (@callA O0 Tryz.prog G spec1 1000000 148 r.1 heap0) r.2) = true := by kernel_rfl
theorem blankRun : blankTab.all (fun r => rowX (@callA O0 Tryz.prog G spec0 1000000 92 r.1 heap0) r.2) = true := by kernel_rfl
theorem checkRun : checkTab.all (fun r => rowX (@callA O0 Tryz.prog G spec0 1000000 40 r.1 heap0) r.2) = true := by kernel_rfl
theorem compRun : compTab.all (fun r => rowX (@callA O0 Tryz.prog G spec0 1000000 103 r.1 heap0) r.2) = true := by kernel_rfl
end Go.Proofs.YtholilpmihngaaaGreatDoor
