/-
  A part of the proof of ClientStays (the machine on named data, and the contracts of the functions that the law reaches). Its names and spaces were shortened by a program of ours.
-/
import Derived.Test.YtobajijkmmhdjaaGreatDoorPBb
set_option linter.all false
namespace Go.Proofs.YtobajijkmmhdjaaGreatDoor
open Go Go.ChangeShapes Go.WideShapes Go.ChangeAt Go.RowKit
theorem uR(os:Os)(args:Array Value):funcsRun Tryz.prog ((start os).forCall (fun _ _=>0) ⟨#[],args,[]⟩).memory 8 ((funcsListed Rows.clientStaysRow.laid).map (·.1))=some ((funcsListed Rows.clientStaysRow.laid).map (·.2.funcsOut)):=by kernel_rfl
end Go.Proofs.YtobajijkmmhdjaaGreatDoor
