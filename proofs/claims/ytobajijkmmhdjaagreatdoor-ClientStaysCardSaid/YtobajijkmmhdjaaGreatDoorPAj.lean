/-
  A part of the proof of ClientStays (the machine on named data, and the contracts of the functions that the law reaches). Its names and spaces were shortened by a program of ours.
-/
import Derived.Test.YtobajijkmmhdjaaGreatDoorPAi
set_option linter.all false
noncomputable section
namespace Go.Proofs.YtobajijkmmhdjaaGreatDoor.Se
open Go Go.AM
def F8:List (List Nat):=[[0,1,2,3,4,5,6,7,8,9,10,11,12,13,14,15],[14,10,4,8,9,15,13,6,1,12,0,2,11,7,5,3],[11,8,12,0,5,2,15,13,10,14,3,6,7,1,9,4],[7,9,3,1,13,12,11,14,2,6,5,10,4,0,15,8],[9,0,5,7,2,4,10,15,14,1,11,12,6,8,3,13],[2,12,6,10,0,11,8,3,4,13,7,5,15,14,1,9],[12,5,1,15,14,13,4,10,0,7,6,3,9,2,8,11],[13,11,7,14,12,1,3,9,5,0,15,4,8,6,2,10],[6,15,14,9,11,3,0,8,12,2,13,7,1,4,10,5],[10,2,8,4,7,6,1,5,15,11,9,14,3,12,13,0]]
def KH:List (Nat×Nat×Nat×Nat):=[(0,4,8,12),(1,5,9,13),(2,6,10,14),(3,7,11,15),(0,5,10,15),(1,6,11,12),(2,7,8,13),(3,4,9,14)]
def Ol{α:Type}(z:α)(v:List α)(f:Nat×Nat×Nat×Nat)(o:List α):List α:=(((v.set f.1 (o.getD 0 z)).set f.2.1 (o.getD 1 z)).set f.2.2.1 (o.getD 2 z)).set f.2.2.2 (o.getD 3 z)
def Pl(v m:List Nat)(f:Nat×Nat×Nat×Nat)(i j:Nat):List Nat:=Ol 0 v f (KG (v.getD f.1 0) (v.getD f.2.1 0) (v.getD f.2.2.1 0) (v.getD f.2.2.2 0) (m.getD i 0) (m.getD j 0))
def goN(m:List Nat):List (Nat×Nat×Nat×Nat)→List Nat→List Nat→List Nat
 |f::fs,i::j::s,v=>goN m fs s (Pl v m f i j)
 |_,_,v=>v
def GX(m:List Nat)(v s:List Nat):List Nat:=goN m KH s v
def Dh(v m:List Nat):List Nat:=F8.foldl (GX m) v
def oG(a b c d x y:SX):List SX:=[.at (.app 40 [a,b,c,d,x,y]) (k64 0) 0,.at (.app 40 [a,b,c,d,x,y]) (k64 0) 1,.at (.app 40 [a,b,c,d,x,y]) (k64 0) 2,.at (.app 40 [a,b,c,d,x,y]) (k64 0) 3]
def fu(v m:List SX)(f:Nat×Nat×Nat×Nat)(i j:Nat):List SX:=Ol .emp v f (oG (v.getD f.1 .emp) (v.getD f.2.1 .emp) (v.getD f.2.2.1 .emp) (v.getD f.2.2.2 .emp) (m.getD i .emp) (m.getD j .emp))
def goX(m:List SX):List (Nat×Nat×Nat×Nat)→List Nat→List SX→List SX
 |f::fs,i::j::s,v=>goX m fs s (fu v m f i j)
 |_,_,v=>v
def Di(b:Nat):Nat→List SX
 |0=>[]
 |n+1=>.v b::Di (b+1) n
abbrev vsX:List SX:=Di 0 16
abbrev msX:List SX:=Di 16 16
abbrev hsX:List SX:=Di 32 8
def ZJ(s:List Nat):List SX:=goX msX KH s vsX++(msX++hsX)
def Dv(ds:List DV):List Nat:=ds.map fun d=>match d with
 |.int _ z=>z.toNat
 |_=>0
def M3(ds:List DV):List (List DV):=[(Dh (Dv (ds.take 16)) (Dv (ds.drop 16))).map U32]
def blI:Nat→List DV→DV
 |40,ds=>.list (ZI ds)
 |41,ds=>.list (M3 ds)
 |_,_=>.bool false
def oH:Ent:=eFn 162 [.agg tF,.one Cz,.one Cz] [.agg tF] [] 40
theorem cJ:Ap Tryz.prog G blI [oH]:=⟨AP AI (pre_true (yq blI)) (fun _=>rfl) [] (by kernel_rfl),trivial⟩
def fv(b:Nat):Nat→Tr AV
 |0=>.nil
 |n+1=>(fv b n).put n (.sy Cz (.v (Nat.add b n)))
def bU(t:TypeId)(b n:Nat):Blk:={t,row:=false,sz:=1,n,z:=[.dead],c:=fv b n}
def bUd(t:TypeId)(n:Nat):Blk:={t,row:=false,sz:=1,n,z:=[.dead],c:=.nil}
def Om(id:Nat):Nat→Nat→List Src
 |_,0=>[]
 |k,n+1=>.cell id k Cz::Om id (k+1) n
def TR(r:Nat):Tmpl:={tm:=[(4,.ptr 0 0),(8,.ptr 2 0),(9,.ptr 3 0),(10,.ptr 4 0),(54,.agg MG),(55,.sc (.int .i64 (.ofNat r)))],ob:=[(0,bU 229 32 8),(2,bUd 229 8),(3,bU 259 0 16),(4,bU 259 16 16)],src:=Om 3 0 16++(Om 4 0 16++Om 0 0 8)}
def YR:Tmpl:={tm:=[(4,.ptr 0 0),(8,.ptr 2 0),(9,.ptr 3 0)],ob:=[(0,bU 229 16 8),(2,bUd 229 8),(3,bU 259 0 16),(4,bUd 259 0)],src:=Om 3 0 16++Om 0 0 8}
def VK:Nat→Nat→List SX
 |_,0=>[]
 |k,n+1=>.at (.app 41 (vsX++msX)) (k64 0) k::VK (k+1) n
def LR:LoopSp:={n:=125,T:=TR 0,yes:=(.exit 2,YR,VK 0 16++hsX)}
def chR:Nat→List (List Nat)→List ChStep
 |_,[]=>[]
 |k,s::l=>⟨TR (Nat.succ k),ZJ s⟩::chR (Nat.succ k) l
abbrev qs:Code:=B0 136 1
set_option maxRecDepth 100000 in
theorem okR:(LR.yes.2.1.ok LR.T LR.n&&F4 LR.n (fun s=>@CC (mkO [] blI) Tryz.prog G (AR [oH] (mkO [] blI)) 100 (Cy []) (CG []) qs s) LR.yes.1 LR.yes.2.1 (vsX++hsX) LR.T.ob LR.T (chR 0 F8))=true:=by kernel_rfl
end Go.Proofs.YtobajijkmmhdjaaGreatDoor.Se
end
