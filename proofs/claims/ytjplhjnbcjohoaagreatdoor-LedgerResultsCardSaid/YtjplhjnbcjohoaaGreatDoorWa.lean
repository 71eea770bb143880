/-
  A part of the proof of LedgerResults (the machine on named data, and the contracts of the functions that the law reaches): Lw.
-/
import Derived.Test.YtjplhjnbcjohoaaGreatDoorGa
set_option linter.all false
set_option linter.unusedVariables false
set_option linter.unusedSimpArgs false
set_option linter.unusedSectionVars false
namespace Go.Proofs.YtjplhjnbcjohoaaGreatDoor
open Go Go.AM
theorem wakesRun : isTrue (@callA O0 Tryz.prog G wspec 1000000 4 [] heap0) = true := by kernel_rfl
end Go.Proofs.YtjplhjnbcjohoaaGreatDoor
