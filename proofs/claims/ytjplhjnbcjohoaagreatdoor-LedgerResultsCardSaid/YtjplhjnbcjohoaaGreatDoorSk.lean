/-
  A part of the proof of LedgerResults (the machine on named data, and the contracts of the functions that the law reaches): LgK.
-/
import Derived.Test.YtjplhjnbcjohoaaGreatDoorGa
set_option linter.all false
set_option linter.unusedVariables false
set_option linter.unusedSimpArgs false
set_option linter.unusedSectionVars false
namespace Go.Proofs.YtjplhjnbcjohoaaGreatDoor
open Go Go.AM
theorem keyRun : keyTab.all (fun r => rowX (@callA O0 Tryz.prog G specK 1000000 199 r.1 heap0) r.2) = true := by kernel_rfl
end Go.Proofs.YtjplhjnbcjohoaaGreatDoor
