/-
  A part of the proof of ClientStays (the machine on named data, and the contracts of the functions that the law reaches). Its names and spaces were shortened by a program of ours.
-/
import Derived.Test.YtobajijkmmhdjaaGreatDoorPBb
set_option linter.all false
namespace Go.Proofs.YtobajijkmmhdjaaGreatDoor
open Go Go.ChangeShapes Go.WideShapes Go.ChangeAt Go.RowKit
theorem aF(os:Os):(World.doorLaid Tryz.prog 115 os).layIfaces Tryz.prog Ga (start os)=true:=by kernel_rfl
end Go.Proofs.YtobajijkmmhdjaaGreatDoor
