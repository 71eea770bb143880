/-
  A part of the proof of ClientStays (the machine on named data, and the contracts of the functions that the law reaches). Its names and spaces were shortened by a program of ours.
-/
import Derived.Test.YtobajijkmmhdjaaGreatDoorPAk
import Derived.Test.YtobajijkmmhdjaaGreatDoorPAi
set_option linter.all false
noncomputable section
namespace Go.Proofs.YtobajijkmmhdjaaGreatDoor.Se
open Go Go.AM
def im(b:UInt8):UInt8:=bif (Nat.ble 97 b.toNat&&Nat.ble b.toNat 122) then b-32 else b
def iq(args:List AV)(h:AHeap):Out:=match args with
 | [.sc (.string s)]=>match s.data.toList.all (fun b=>Nat.blt b.toNat 128)&&Nat.ble s.size 4096 with
  |true=>some (.sc (.string ⟨(s.data.toList.map im).toArray⟩),h)
  |false=>none
 |_=>none
def T7:FuncId→Option (List AV→AHeap→Out)
 |116=>some iq
 |136=>some qv
 |_=>none
def Vu:Out→Bool
 |some (.sc (.bool true),_)=>true
 |_=>false
set_option maxRecDepth 100000
theorem px:Vu (@W5 O0 Tryz.prog G T7 1000000 4 [] Ef)=true:=by kernel_rfl
end Go.Proofs.YtobajijkmmhdjaaGreatDoor.Se
end
