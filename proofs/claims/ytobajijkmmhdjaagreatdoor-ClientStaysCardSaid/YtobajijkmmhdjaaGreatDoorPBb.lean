/-
  A part of the proof of ClientStays (the machine on named data, and the contracts of the functions that the law reaches). Its names and spaces were shortened by a program of ours.
-/
import Derived.Test.YtobajijkmmhdjaaGreatDoorPBa
set_option linter.all false
noncomputable section
namespace Go.Proofs.YtobajijkmmhdjaaGreatDoor
open Go Go.ChangeShapes Go.WideShapes Go.ChangeAt Go.RowKit
def Ga:List (String×DataW Unit):=Rows.clientStaysRow.laid.filter fun x=>x.2.handleName?.isNone
def start(os:Os):World:=(World.doorLaid Tryz.prog 115 os).layVars Tryz.prog Ga
theorem qB(os:Os):(start os).os=os:=(World.layVars_os _ _ _).trans rfl
theorem iy(os:Os):(World.doorLaid Tryz.prog 115 os).layFits Tryz.prog Ga []=true:=by kernel_rfl
end Go.Proofs.YtobajijkmmhdjaaGreatDoor
end
