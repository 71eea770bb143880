/-
  A part of the proof of ClientStays (the machine on named data, and the contracts of the functions that the law reaches). Its names and spaces were shortened by a program of ours.
-/
import Derived.Test.YtobajijkmmhdjaaGreatDoorPAx
import Derived.Test.YtobajijkmmhdjaaGreatDoorPAy
set_option linter.all false
noncomputable section
namespace Go.Proofs.YtobajijkmmhdjaaGreatDoor.Se
open Go Go.AM
abbrev eSq:Ent:=eFn fSq [.agg BN,.agg tOp] [.agg BN,.agg tHd] qo 190 []
abbrev eSw:Ent:=eFn fSw [.agg Ks,.agg Ks] [.one .bool] [] 191 []
abbrev qq:List Ent:=[eSq,eSw,RF]
def TLw:Tmpl:={tm:=[(5,.ptr 0 0),(32,.sy (.slice tOp) (.v 0)),(33,.sy tI (.len (.v 0))),(34,.sy tI (.v 1))],ob:=[(0,VG (syN BN 2))],src:=[.tm 32 (.slice tOp),.tm 34 tI]++LZ 0 BN 0}
def YLw:Tmpl:={tm:=[],ob:=[(0,VG [])],src:=[]}
abbrev lwC:SX:=.at (.app 126 (AH 2 83)) (k64 0) 0
def SLw:StdL:={n:=172,T:=TLw,tys:=[.slice tOp,tI]++BN,pre:=[(eql (.v 1) (k64 0),true),(eql lwC (k64 0),true),(lss (k64 1000) (.len (.v 7)),false)],f:=192,yes:=(.exit 0,YLw,0)}
abbrev lwS:SX:=.app 190 (AH 2 83++atK (.v 0) (.v 1) 0 151)
abbrev lwN(j:Nat):SX:=.at lwS (k64 0) j
abbrev lwH(j:Nat):SX:=.at lwS (k64 1) j
abbrev AAn:SX:=.at (.app 126 (Aq lwS 0 83)) (k64 0) 0
inductive WK where
 |A
 |B
 |N
def RJ(e i:SX):Nat→Nat→Nat→List SX
 |_,_,0=>[]
 |a,b,n+1=>.bin .eql (.at e i a) (.v b)::RJ e i (Nat.succ a) (Nat.succ b) n
def VJ:RPln:=.know (eql (k64 0) (k64 0)) true (.know (.app 193 (AH 2 83++[lwN 82])) true (.next ([.v 0,add (.v 1) (k64 1)]++Aq lwS 0 83)))
def vz:WK→WK→RPln
 |.B,.N=>.know (.all (RJ lwS (k64 1) 10 6 76)) true VJ
 |_,_=>.never
def v7:WK→WK→RPln
 |.A,.N=>.know (.all (RJ lwS (k64 1) 3 2 3)) true (.know (eql (lwH 4) (lwN 1)) true (.know (lwH 1) false VJ))
 |_,_=>.never
abbrev wA:List SX:=[k64 1,.v 2,.v 2,.v 3,.v 4]++zX tQry
abbrev wB:List SX:=[k64 2,.v 2]++(zX tTx++AH 6 76)
abbrev nA:List SX:=[k64 1,lwN 0,lwN 0,lwN 1,lwN 2]++zX tQry
abbrev nB:List SX:=[k64 2,lwN 0]++(zX tTx++Aq lwS 4 76)
def kI:WK→WK→RPln
 |.A,.A=>.know (.at (.app 191 (wA++nA)) (k64 0) 0) true VJ
 |.B,.B=>.know (.at (.app 191 (wB++nB)) (k64 0) 0) true VJ
 |.N,_=>VJ
 |_,_=>.never
def Hv(w g:WK):RPln:=.ask (lwH 0) (v7 w g) (.ask (lwH 1) (vz w g) (kI w g))
def Pj(w:WK):RPln:=.know (Aj 84).1 false (.know (lss (k64 1000) (.len (lwN 5))) false (.know (eql AAn (k64 0)) true (.know (lss (lwN 1) (.v 3)) false (.know (eql (lwN 0) (.v 2)) true
 (.ask (lwN 3) (Hv w .A) (.ask (lwN 80) (Hv w .B) (Hv w .N)))))))
def pLw:RPln:=
 .ask (lss (.v 1) (.len (.v 0)))
  (.know (lss (.v 1) (k64 0)) false (.ask (eql (.v 1) (k64 24)) (.exit true [])
   (.know (lss (k64 1000) (.len (.v 7))) false (.know (eql lwC (k64 0)) true (.ask (.v 5) (Pj .A) (.ask (.v 82) (Pj .B) (Pj .N)))))))
  (.exit true [])
abbrev fk:List (Nat×LoopSp):=[(23,(SLi 2000005).L),(23,(SLi 2000015).L)]
set_option maxRecDepth 100000
theorem kLw(I:Nat→List DV→DV):(SLw.ok&&(Au SLw pLw&&AW SLw.L (B1 I (AR qq) [] fk Og) [] pLw))=true:=by kernel_rfl
end Go.Proofs.YtobajijkmmhdjaaGreatDoor.Se
end
