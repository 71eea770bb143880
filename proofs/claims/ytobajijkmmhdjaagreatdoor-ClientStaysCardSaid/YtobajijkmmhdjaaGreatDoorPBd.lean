/-
  A part of the proof of ClientStays (the machine on named data, and the contracts of the functions that the law reaches). Its names and spaces were shortened by a program of ours.
-/
import Derived.Test.YtobajijkmmhdjaaGreatDoorPBc
set_option linter.all false
namespace Go.Proofs.YtobajijkmmhdjaaGreatDoor
open Go Go.ChangeShapes Go.WideShapes Go.ChangeAt Go.RowKit
theorem ai(os:Os):laidMet Tryz.prog Ga (start os):=by
 have e1:(Ga.filter fun x=>(Ga.map (·.1)).contains x.1)=Ga:=List.filter_eq_self.2 fun x hx=>List.contains_iff_mem.2 (List.mem_map.2 ⟨x,hx,rfl⟩)
 have e2:(Ga.filter fun x=>!(Ga.map (·.1)).contains x.1)=[]:=List.filter_eq_nil_iff.2 fun x hx=>by rw[List.contains_iff_mem.2 (List.mem_map.2 ⟨x,hx,rfl⟩)];simp
 exact laidMet_layVars (w0:=World.doorLaid Tryz.prog 115 os) (Ga.map (·.1)) [] (by rw[e1];rfl) (by rw[e1];exact iy os) (by rw[e1];exact aF os) (by rw[e2];exact LaidIn.none)
theorem uQ(os:Os)(args:Array Value):(Rows.clientStaysRow.laid.filter fun x=>x.2.handleName?.isSome&&x.2.funcsIn?.isNone).all (handleAtB Tryz.prog ((start os).forCall (fun _ _=>0) ⟨#[],args,[]⟩).memory)=true:=by kernel_rfl
end Go.Proofs.YtobajijkmmhdjaaGreatDoor
