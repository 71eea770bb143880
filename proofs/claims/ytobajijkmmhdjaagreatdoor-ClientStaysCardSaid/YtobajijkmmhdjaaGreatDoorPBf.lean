/-
  A part of the proof of ClientStays (the machine on named data, and the contracts of the functions that the law reaches). Its names and spaces were shortened by a program of ours.
-/
import Derived.Test.YtobajijkmmhdjaaGreatDoorPBd
import Derived.Test.YtobajijkmmhdjaaGreatDoorPBe
set_option linter.all false
namespace Go.Proofs.YtobajijkmmhdjaaGreatDoor
open Go Go.ChangeShapes Go.WideShapes Go.ChangeAt Go.RowKit
theorem mI(os:Os)(args:Array Value):laidMetH Tryz.prog Rows.clientStaysRow.laid ((start os).forCall (fun _ _=>0) ⟨#[],args,[]⟩).memory:=
 laidMetH_of_parts3 (fuel:=8) ((ai os).of_heap (by simp[World.memory,World.forCall,Input.heap])) (uQ os args) (uR os args)
end Go.Proofs.YtobajijkmmhdjaaGreatDoor
