/-
  A part of the proof of ClientStays (the machine on named data, and the contracts of the functions that the law reaches). Its names and spaces were shortened by a program of ours.
-/
import Derived.Test.YtobajijkmmhdjaaGreatDoorPAr
import Derived.Test.YtobajijkmmhdjaaGreatDoorPAu
set_option linter.all false
noncomputable section
namespace Go.Proofs.YtobajijkmmhdjaaGreatDoor.Se
open Go Go.AM
abbrev eBf:Ent:=eE 23 [.one tDs,.one D9] [.one tI,.one .bool] S5 125
abbrev ABh:Ent:=mh Vm 31 tDig
abbrev ABi:Ent:=eF pR 31 tDig [.one tI,.one tI] lN 171
abbrev ABj:Ent:=eFn 48 [.one tB] [.agg tP,.one tI] [Aj 0] 44 []
abbrev ABk:Ent:=eFn 49 [.agg CV,.agg tQry,.agg tP] [.one (.slice [tVs]),.one tI] ra 164 []
abbrev tHd:List Ty:=[.bool,.bool,tI]++tTx++xp++tQry++CV++[.slice [tVs]]
abbrev Z3:List SX:=[k64 0,k64 0,.emp,k64 0]
abbrev zH:List SX:=[.kb false,.kb false,k64 0]++(zX tTx++(Z3++(zX tQry++(zX CV++[.emp]))))
abbrev xu:List Ent:=[RF,ABf,eBf,ABh,ABi,ABj,ABk,zk,iL]
abbrev xw:Ey:=[(fDn,[(5,SDn.L)])]
abbrev iP:SX:=.at (.app 126 (AH 0 83)) (k64 0) 0
abbrev KU:Pln:=.done [AH 0 82++[clX],zH,[k64 0]]
abbrev rwX:SX:=.at (.app 127 [.v 87]) (k64 0) 0
abbrev dnA:SX:=.app 170 ([rwX,clX,k64 0,.v 85,.v 86,.v 88,.len rwX]++AH 0 82)
abbrev Z4:Pln:=.know (Aj 87).1 false (.know (lss (k64 1000000) (.len rwX)) false (.know (.app 165 [rwX]) true (.know (eql (.len rwX) (.len rwX)) true (.know (eql (k64 0) (k64 0)) true
 (.done [[.v 0,.v 1,.ks (AS #[]),.kb false]++(AH 4 78++[clX]),[.kb true,.kb false,k64 0,.v 0,.v 1,.v 2,.v 85,.v 86,.at dnA (k64 0) 1,.v 88]++(zX tQry++(zX CV++[.emp])),[k64 0]])))))
abbrev Tz:Pln:=.ask (eql (.v 83) (k64 0)) (.ask (eql (.v 84) (.v 1)) Z4 KU) KU
abbrev ln:Pln:=.done [AH 0 81++[.v 89,clX],zH,[k64 0]]
abbrev dcA:SX:=.app 44 [.v 155]
abbrev dcE:SX:=.at dcA (k64 1) 0
abbrev vyA:SX:=.app 164 (AH 90 65++(AH 4 76++Aq dcA 0 5))
abbrev fdA:SX:=.app 125 [clX,.v 90]
abbrev T0(dg:SX)(err:SX)(dig:List SX)(rows:SX):Pln:=.done [AH 0 4++(zX tQry++[.kb false,.v 81,dg]),[.kb false,.kb true,err]++(zX tTx++(Z3++(AH 4 76++(dig++[rows])))),[k64 0]]
abbrev fd0:SX:=.at fdA (k64 0) 0
def eqW(e i:SX)(b:Nat):Nat→Nat→List SX
 |_,0=>[]
 |k,n+1=>.bin .eql (.at e i k) (.v (b+k))::eqW e i b (Nat.succ k) n
abbrev xx:SX:=.at vyA (k64 0) 0
abbrev inX:SX:=Qy clX fd0 (AH 90 65)
abbrev iQ(dg:SX):Pln:=T0 dg (.v 83) (AH 90 65) xx
def iR:Pln:=
 .know (lss (k64 1000000) (.len clX)) false (.ask (.at fdA (k64 1) 0)
  (.know (lss fd0 (.len clX)) true (.know (lss fd0 (k64 0)) false (.ask (.all (eqW clX fd0 90 0 65)) (iQ clX) (T0 clX (k64 322) (AH 90 65) .emp))))
  (.know (lss fd0 (k64 0)) false (.know (lss (.len clX) fd0) false (.ask (lss (k64 16) (.len inX))
   (.know (lss (k64 1) (.len inX)) true (.know (eql (k64 0) (k64 0)) true (.know (eql (k64 1) (k64 1)) true (iQ (.at (.app 171 [inX,k64 0,k64 1]) (k64 0) 0)))))
   (iQ inX)))))
def iS:Pln:=
 .ask (eql (.v 83) (k64 0))
  (.know (Aj 155).1 false (.ask (eql dcE (k64 0))
   (.know (lss (k64 1000000) (.len (.at dcA (k64 0) 2))) false (.know (.app 162 [.at dcA (k64 0) 2]) true (.ask (eql (.at vyA (k64 1) 0) (k64 0)) iR KU)))
   KU))
  (T0 clX (.v 83) (zX CV) .emp)
def pHr:Pln:=
 .know (lss (k64 1000) (.len (.v 5))) false (.know (Aj 82).1 false (.ask (eql iP (k64 0))
  (.ask (eql (.v 84) (.ki .u32 (.ofNat 0)))
   (.ask (.v 80) iS KU)
   (.ask (.v 3) (.ask (eql (.v 83) (k64 191)) (.ask (lss (.v 89) (k64 0)) Tz (.ask (lss (k64 5) (.v 89)) Tz ln)) Tz) KU))
  (.done [GI (k64 0),zH,[iP]])))
set_option maxRecDepth 100000
theorem kHr(I:Nat→List DV→DV):(hasB fHr&&AJ [.agg BN,.agg tHd,.one tI] (PC I (AR xu) xw [] [none,none,none] fHr [.agg BN,.agg tRep]) [] pHr)=true:=by kernel_rfl
end Go.Proofs.YtobajijkmmhdjaaGreatDoor.Se
end
