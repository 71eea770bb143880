/-
  A part of the proof of ClientStays (the machine on named data, and the contracts of the functions that the law reaches). Its names and spaces were shortened by a program of ours.
-/
import Derived.Test.YtobajijkmmhdjaaGreatDoorPBa
set_option linter.all false
namespace Go.Proofs.YtobajijkmmhdjaaGreatDoor
open Go Go.ChangeShapes Go.WideShapes Go.ChangeAt Go.RowKit
theorem uS(f:FuncId)(fn:Func)(hf:Tryz.pinned.checked.prog.funcNamed "tallyhouse/tallyhouselaw22.ClientStays" =some f)(hfn:Tryz.pinned.checked.prog.funcs[f]? =some fn):
  false=Tryz.pinned.checked.prog.looks []∧∀(j:Nat) t,fn.params[j]? =some t→Tryz.pinned.checked.prog.wantsStandIn t=false:=by
 obtain rfl:f=3:=Option.some.inj ((show Tryz.prog.funcNamed "tallyhouse/tallyhouselaw22.ClientStays" =some 3 by kernel_rfl).symm.trans hf) |>.symm
 obtain rfl:fn=Tryz.f3:=(Option.some.inj (Tryz.func3.symm.trans hfn)).symm;refine⟨by kernel_rfl,fun j t ht=>?_⟩
 rw[Tryz.params3]at ht;have hm:t∈[3,22]:=by simpa using Array.mem_of_getElem? ht
 have hall:([3,22].all fun u=>!Tryz.prog.wantsStandIn u)=true:=by kernel_rfl
 exact (show Tryz.prog.wantsStandIn t=false by simpa using List.all_eq_true.1 hall t hm)
end Go.Proofs.YtobajijkmmhdjaaGreatDoor
