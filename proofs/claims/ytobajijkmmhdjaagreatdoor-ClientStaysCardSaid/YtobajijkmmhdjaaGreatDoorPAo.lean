/-
  A part of the proof of ClientStays (the machine on named data, and the contracts of the functions that the law reaches). Its names and spaces were shortened by a program of ours.
-/
import Derived.Test.YtobajijkmmhdjaaGreatDoorPAn
set_option linter.all false
noncomputable section
namespace Go.Proofs.YtobajijkmmhdjaaGreatDoor.Se
open Go Go.AM
def Ko:Nat→Nat→List SX
 |_,0=>[]
 |i,n+1=>.v i::Ko (Nat.succ i) n
def RC:Nat→List Ty→List SX
 |_,[]=>[]
 |i,.int k::ts=>eql (.v i) (.ki k (.ofNat 0))::RC (Nat.succ i) ts
 |i,_::ts=>eql (.v i) (.ks (AS #[]))::RC (Nat.succ i) ts
def ccQ:SX:=.app 30 (Ko 4 76)
def ccZ:SX:=.all (RC 4 tQry)
inductive NumK where
 |none
 |bad
 |good
def vE(k:Bool→Bool→NumK→Pln):Pln:=.ask (.v 3)
 (.ask (lss (.v 0) (k64 1)) (k true false .bad) (.ask (lss (k64 3) (.v 0)) (k true false .bad) (.ask (eql (.v 1) (.ki .u32 (.ofNat 0))) (k true false .good) (.ask (lss (k64 1019) (.len (.v 2))) (k true false .good) (k true true .good)))))
 (.ask (eql (.v 2) (.ks (AS #[]))) (k false true .none) (k false false .none))
def vF(k:Bool→Bool→Pln):Pln:=.ask (.v 80)
 (.know (lss (k64 1000) (.len (.v 5))) false (.ask (eql (.at ccQ (k64 0) 0) (k64 0)) (k true true) (k true false)))
 (.ask ccZ (k false true) (k false false))
def ng(a r:Bool)(k:Bool→Pln):Pln:=.ask (lss (.v 81) (k64 0)) (k false) (.ask (lss (k64 5) (.v 81)) (k false) (k (!(a&&r))))
def vG(a r:Bool)(k:Bool→Pln):NumK→Pln
 |.bad=>k false
 |.good=>ng a r k
 |.none=>.ask (lss (.v 0) (k64 1)) (k false) (.ask (lss (k64 3) (.v 0)) (k false) (ng a r k))
def yU(e:SX):Pln:=.ask (.at (.app 122 [.v 82,e,k64 0]) (k64 0) 1) (.done [[k64 0]]) (.done [[k64 320]])
def qQ(b:Bool):Pln:=yU (match b with|true=>.not (lss (k64 16) (.len (.v 82)))|false=>.kb false)
def vH:Pln:=vE fun a t n=>vF fun rd r=>vG a rd (fun o=>qQ (o&&(t&&r))) n
abbrev fZ:List (Nat×LoopSp):=[(7,SCc.L)]
set_option maxRecDepth 100000
theorem AAR:(hasB 8&&AJ [.one tI] (Bc ccI (AR [gG]) fZ [] 8 [.agg BN]) [] vH)=true:=by kernel_rfl
end Go.Proofs.YtobajijkmmhdjaaGreatDoor.Se
end
