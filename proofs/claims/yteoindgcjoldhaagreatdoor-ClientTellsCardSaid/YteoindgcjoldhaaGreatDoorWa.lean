/-
  A part of the proof of ClientTells (the machine on named data, and the contracts of the functions that the law reaches): Kw.
-/
import Derived.Test.YteoindgcjoldhaaGreatDoorShelf
import Derived.Test.YteoindgcjoldhaaGreatDoorSa
import Derived.Test.YteoindgcjoldhaaGreatDoorSb
set_option linter.all false
set_option linter.unusedVariables false
set_option linter.unusedSimpArgs false
set_option linter.unusedSectionVars false
namespace Go.Proofs.YteoindgcjoldhaaGreatDoor
open Go Go.AM
noncomputable def upB (b : UInt8) : UInt8 := bif (Nat.ble 97 b.toNat && Nat.ble b.toNat 122) then b - 32 else b
noncomputable def spUp (args : List AV) (h : AHeap) : Out := match args with
  | [.sc (.string s)] => match s.data.toList.all (fun b => Nat.blt b.toNat 128) && Nat.ble s.size 4096 with
    | true => some (.sc (.string ⟨(s.data.toList.map upB).toArray⟩), h)
    | false => none
  | _ => none
noncomputable def tab : List (List Nat × AV) := [([], .agg dig0), (msg1, .agg dig1)]
noncomputable def spec : FuncId → Option (List AV → AHeap → Out)
  | 142 => some (tabSp tab)
  | 153 => some spUp
  | _ => none
noncomputable def isTrue : Out → Bool
  | some (.sc (.bool true), _) => true
  | _ => false
theorem wakesRun : isTrue (@callA (noFacts fun _ _ => .bool false) Tryz.prog G spec 1000000 6 [] heap0) = true := by kernel_rfl
end Go.Proofs.YteoindgcjoldhaaGreatDoor
