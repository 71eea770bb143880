/-
  A part of the proof of IdealChecks (the machine on named data, and the contracts of the functions that the law reaches): IK0 IK1 IK2.
-/
import Derived.Test.YtbhfnmeojhpgbaaGreatDoorGb
set_option linter.all false
set_option linter.unusedVariables false
set_option linter.unusedSimpArgs false
set_option linter.unusedSectionVars false
namespace Go.Proofs.YtbhfnmeojhpgbaaGreatDoor
open Go Go.AM
theorem keyRun : keyTab.all (fun r => rowX (@callA O0 Tryz.prog G spec0 1000000 197 r.1 heap0) r.2) = true := by kernel_rfl
end Go.Proofs.YtbhfnmeojhpgbaaGreatDoor
namespace Go.Proofs.YtbhfnmeojhpgbaaGreatDoor
open Go Go.AM
theorem nameRun : nameTab.all (fun r => rowX (@callA O0 Tryz.prog G spec1 1000000 182 r.1 heap0) r.2) = true := by kernel_rfl
theorem blankRun : blankTab.all (fun r => rowX (@callA O0 Tryz.prog G spec0 1000000 143 r.1 heap0) r.2) = true := by kernel_rfl
end Go.Proofs.YtbhfnmeojhpgbaaGreatDoor
namespace Go.Proofs.YtbhfnmeojhpgbaaGreatDoor
open Go Go.AM
theorem firstRun : firstTab.all (fun r => rowX (@callA O0 Tryz.prog G spec2 1000000 144 r.1 heap0) r.2) = true := by kernel_rfl
end Go.Proofs.YtbhfnmeojhpgbaaGreatDoor
