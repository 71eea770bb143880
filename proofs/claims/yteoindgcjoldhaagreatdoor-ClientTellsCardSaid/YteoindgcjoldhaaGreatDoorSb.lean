/-
  A part of the proof of ClientTells (the machine on named data, and the contracts of the functions that the law reaches): KgS1.
-/
import Derived.Test.YteoindgcjoldhaaGreatDoorProg
import Derived.KernelRfl
import Derived.Test.YteoindgcjoldhaaGreatDoorKa
import Derived.Test.YteoindgcjoldhaaGreatDoorAmG
set_option linter.all false
set_option linter.unusedVariables false
set_option linter.unusedSimpArgs false
set_option linter.unusedSectionVars false
namespace Go.Proofs.YteoindgcjoldhaaGreatDoor
open Go Go.AM
theorem run1 : isDig (@callA (noFacts fun _ _ => .bool false) Tryz.prog G noSpec 1000000 142 [keyAV msg1] heap0) dig1 = true := by kernel_rfl
end Go.Proofs.YteoindgcjoldhaaGreatDoor
