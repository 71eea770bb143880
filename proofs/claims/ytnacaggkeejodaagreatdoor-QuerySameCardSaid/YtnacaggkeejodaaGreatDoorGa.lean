/-
  A part of the proof of QuerySame (the machine on named data, and the contracts of the functions that the law reaches): Vg.
-/
import Derived.Test.YtnacaggkeejodaaGreatDoorProg
import Derived.KernelRfl
import Derived.Test.YtnacaggkeejodaaGreatDoorAmH
set_option linter.all false
set_option linter.unusedVariables false
set_option linter.unusedSimpArgs false
set_option linter.unusedSectionVars false
namespace Go.Proofs.YtnacaggkeejodaaGreatDoor
open Go Go.AM
noncomputable def gTests : List AV := [.sc .nilFunc, .sc (.func (.func 313) #[] #[]), .sc (.func (.func 314) #[] #[]), .sc (.func (.func 315) #[] #[]), .sc (.func (.func 316) #[] #[]), .sc (.func (.func 317) #[] #[]), .sc (.func (.func 318) #[] #[])]
noncomputable def gReckons : List AV := [.sc .nilFunc, .sc (.func (.func 308) #[] #[]), .sc (.func (.func 309) #[] #[]), .sc (.func (.func 310) #[] #[]), .sc (.func (.func 311) #[] #[]), .sc (.func (.func 312) #[] #[])]
noncomputable def G : Nat → Option (List AV)
  | 1 => some gReckons
  | 5 => some gTests
  | _ => none
noncomputable abbrev O0 : Orc := noFacts fun _ _ => .bool false
noncomputable def noSpec : FuncId → Option (List AV → AHeap → Out) := fun _ => none
end Go.Proofs.YtnacaggkeejodaaGreatDoor
