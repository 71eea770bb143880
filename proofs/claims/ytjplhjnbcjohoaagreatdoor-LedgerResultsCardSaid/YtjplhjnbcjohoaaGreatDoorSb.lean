/-
  A part of the proof of LedgerResults (the machine on named data, and the contracts of the functions that the law reaches): LgB1.
-/
import Derived.Test.YtjplhjnbcjohoaaGreatDoorGa
set_option linter.all false
set_option linter.unusedVariables false
set_option linter.unusedSimpArgs false
set_option linter.unusedSectionVars false
namespace Go.Proofs.YtjplhjnbcjohoaaGreatDoor
open Go Go.AM
theorem blkRun1 : rowX (@callA O0 Tryz.prog G noSpec 1000000 88 blk1.1 heap0) blk1.2 = true := by kernel_rfl
end Go.Proofs.YtjplhjnbcjohoaaGreatDoor
