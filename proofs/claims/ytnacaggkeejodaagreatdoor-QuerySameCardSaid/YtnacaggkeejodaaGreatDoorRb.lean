/-
  A part of the proof of QuerySame (the machine on named data, and the contracts of the functions that the law reaches): QB1.
-/
import Derived.Test.YtnacaggkeejodaaGreatDoorGb
set_option linter.all false
set_option linter.unusedVariables false
set_option linter.unusedSimpArgs false
set_option linter.unusedSectionVars false
namespace Go.Proofs.YtnacaggkeejodaaGreatDoor
open Go Go.AM
theorem nameRun : nameTab.all (fun r => rowX (@callA O0 Tryz.prog G spec1 1000000 101 r.1 heap0) r.2) = true := by kernel_rfl
theorem blankRun : blankTab.all (fun r => rowX (@callA O0 Tryz.prog G spec0 1000000 50 r.1 heap0) r.2) = true := by kernel_rfl
theorem checkRun : checkTab.all (fun r => rowX (@callA O0 Tryz.prog G spec0 1000000 110 r.1 heap0) r.2) = true := by kernel_rfl
theorem compRun : compTab.all (fun r => rowX (@callA O0 Tryz.prog G spec0 1000000 61 r.1 heap0) r.2) = true := by kernel_rfl
end Go.Proofs.YtnacaggkeejodaaGreatDoor
