/-
  A part of the proof of IdealChecks (the machine on named data, and the contracts of the functions that the law reaches): IB3.
-/
import Derived.Test.YtbhfnmeojhpgbaaGreatDoorGb
set_option linter.all false
set_option linter.unusedVariables false
set_option linter.unusedSimpArgs false
set_option linter.unusedSectionVars false
namespace Go.Proofs.YtbhfnmeojhpgbaaGreatDoor
open Go Go.AM
theorem blkRun3 : rowX (@callA O0 Tryz.prog G noSpec 1000000 86 bkr3.1 heap0) bkr3.2 = true := by kernel_rfl
end Go.Proofs.YtbhfnmeojhpgbaaGreatDoor
