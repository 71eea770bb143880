/-
  A part of the proof of QueryValues (the machine on named data, and the contracts of the functions that the law reaches): Vg.
-/
import Derived.Test.YtholilpmihngaaaGreatDoorProg
import Derived.KernelRfl
import Derived.Test.YtholilpmihngaaaGreatDoorAmH
import Derived.Test.YtholilpmihngaaaGreatDoorAmG
set_option linter.all false
set_option linter.unusedVariables false
set_option linter.unusedSimpArgs false
set_option linter.unusedSectionVars false
namespace Go.Proofs.YtholilpmihngaaaGreatDoor
open Go Go.AM
noncomputable def gTests : List AV := [.sc .nilFunc, .sc (.func (.func 333) #[] #[]), .sc (.func (.func 334) #[] #[]), .sc (.func (.func 335) #[] #[]), .sc (.func (.func 336) #[] #[]), .sc (.func (.func 337) #[] #[]), .sc (.func (.func 338) #[] #[])]
noncomputable def gReckons : List AV := [.sc .nilFunc, .sc (.func (.func 328) #[] #[]), .sc (.func (.func 329) #[] #[]), .sc (.func (.func 330) #[] #[]), .sc (.func (.func 331) #[] #[]), .sc (.func (.func 332) #[] #[])]
noncomputable def G : Nat → Option (List AV)
  | 0 => some gReckons
  | 1 => some gTests
  | _ => none
noncomputable abbrev O0 : Orc := noFacts fun _ _ => .bool false
noncomputable def noSpec : FuncId → Option (List AV → AHeap → Out) := fun _ => none
end Go.Proofs.YtholilpmihngaaaGreatDoor
