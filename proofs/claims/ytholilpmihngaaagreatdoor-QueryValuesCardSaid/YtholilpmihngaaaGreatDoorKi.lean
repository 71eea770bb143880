/-
  A part of the proof of QueryValues (the machine on named data, and the contracts of the functions that the law reaches): Qj0.
-/
import Derived.Test.YtholilpmihngaaaGreatDoorCards
import Derived.Test.YtholilpmihngaaaGreatDoorTie
import Derived.ProofKit
import Derived.OpenShut
import Derived.LaidMore
import Derived.LaidSub
import Derived.LaidHandle
import Derived.Lay
import Derived.SevenTiedAt
import Derived.Stop.Joined
import Derived.Carry
set_option linter.all false
set_option linter.unusedVariables false
set_option linter.unusedSimpArgs false
set_option linter.unusedSectionVars false
namespace Go.Proofs.YtholilpmihngaaaGreatDoor
open Go
theorem ownT : ownKnob Tryz.prog.godebug = none := by kernel_rfl
end Go.Proofs.YtholilpmihngaaaGreatDoor
