/-
  A part of the proof of ClientStays (the machine on named data, and the contracts of the functions that the law reaches). Its names and spaces were shortened by a program of ours.
-/
import Derived.Test.YtobajijkmmhdjaaGreatDoorPAs
import Derived.Test.YtobajijkmmhdjaaGreatDoorPAq
set_option linter.all false
noncomputable section
namespace Go.Proofs.YtobajijkmmhdjaaGreatDoor
open Go Go.AM
abbrev r16(x y:SX):SX:=.cat (h16 x) (.cat (l16 x) y)
abbrev enH:SX:=r16 (.v 0) (r16 (.v 1) (.cat (h16 (.len (.v 2))) (l16 (.len (.v 2)))))
abbrev enP:SX:=.at (.app 98 [.v 2,k64 0,enH,.v 3,.v 4]) (k64 0) 1
abbrev nu:SX:=.cat enP (h16 (.len (.v 3)))
abbrev enA:SX:=.cat nu (l16 (.len (.v 3)))
abbrev enQ:SX:=.at (.app 99 [.v 3,k64 0,enA,.v 3,.v 4]) (k64 0) 1
abbrev ny:SX:=.cat enQ (h16 (.len (.v 4)))
abbrev enB:SX:=.cat ny (l16 (.len (.v 4)))
abbrev enS:SX:=.at (.app 99 [.v 4,k64 0,enB,.v 3,.v 4]) (k64 0) 1
def enF:List (SX×Bool):=[(lss (k64 200) (.len (.v 2)),false),(lss (k64 255) (.len (.v 3)),false),(lss (k64 255) (.len (.v 4)),false),(lss (k64 100) (.len enH),false),(eql (k64 0) (k64 0),true)]++Y9 enP++[Iu nu,Iu enA,(lss (k64 500000) (.len enA),false)]++Y9 enQ++[Iu ny,Iu enB,(lss (k64 500000) (.len enB),false)]
def Mz:Pln:=.done [[.emp],[k64 301]]
def n5:Pln:=.ask (.at (.app 45 [.v 2]) (k64 0) 0) Mz (G8 enF (.done [[enS],[k64 0]]))
def enN:Pln:=.ask (lss (.len (.v 3)) (.len (.v 4))) (.ask (lss (k64 255) (.len (.v 4))) Mz n5) (.ask (lss (k64 255) (.len (.v 3))) Mz n5)
def enM(m:SX):Pln:=.ask (lss m (.len (.v 2))) (.ask (lss (k64 200) (.len (.v 2))) Mz enN) (.ask (lss (k64 200) m) Mz enN)
def pEn:Pln:=.ask (lss (.v 0) (.v 1)) (.ask (lss (.v 0) (k64 0)) Mz (enM (.v 1))) (.ask (lss (.v 1) (k64 0)) Mz (enM (.v 0)))
abbrev Pf:List (Nat×LoopSp):=[(14,SE1.L),(24,(SE3 0).L),(24,(SE3 1).L)]
theorem kEn:(hasB 15&&AJ [.one tB,.one tI] (runK AE (AR [eCf]) [] Pf [some (5,[tU8]),none] 15 [.agg tP]) [] pEn)=true:=by kernel_rfl
end Go.Proofs.YtobajijkmmhdjaaGreatDoor
end
