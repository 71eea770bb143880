/-
  A part of the proof of QueryValues (the machine on named data, and the contracts of the functions that the law reaches): Ww.
-/
import Derived.Test.YtholilpmihngaaaGreatDoorGb
set_option linter.all false
set_option linter.unusedVariables false
set_option linter.unusedSimpArgs false
set_option linter.unusedSectionVars false
namespace Go.Proofs.YtholilpmihngaaaGreatDoor
open Go Go.AM
theorem wakesRun : isTrue (@callA O0 Tryz.prog G spec3 1000000 4 [] heap0) = true := by kernel_rfl
end Go.Proofs.YtholilpmihngaaaGreatDoor
