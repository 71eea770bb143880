/-
  A part of the proof of ClientStays (the machine on named data, and the contracts of the functions that the law reaches). Its names and spaces were shortened by a program of ours.
-/
import Derived.Test.YtobajijkmmhdjaaGreatDoorPAr
import Derived.Test.YtobajijkmmhdjaaGreatDoorPAm
set_option linter.all false
noncomputable section
namespace Go.Proofs.YtobajijkmmhdjaaGreatDoor
open Go Go.AM
abbrev vV:AV:=.sc (.func (.func 33) #[] #[])
def ye:Tmpl:={tm:=[(0,.sy Cx (.v 0)),(1,vV),(7,.sy tI (.len (.v 0))),(8,.sy tI (.v 1))],src:=[.tm 0 Cx,.tm 8 tI]}
def ZIx:Tmpl:={tm:=[(4,.sy tI (.v 0))],src:=[.tm 4 tI]}
def PZ:StdL:={n:=19,T:=ye,tys:=[Cx,tI],pre:=[(eql (.v 1) (k64 0),true)],f:=97,two:=true,yes:=(.exit 0,{tm:=[]},0),no:=(.ret,ZIx,1)}
abbrev Y5:Code:=B0 71 0
abbrev Y6:SX:=.at (.v 0) (.v 1) 0
abbrev Y7:SX:=.at (.v 0) (.v 1) 1
def XE:RPln:=
 .ask (lss (.v 1) (.len (.v 0)))
  (.know (lss (.v 1) (k64 0)) false
   (.ask (lss (k64 200) (.len Y6))
    (.exit false [.v 1])
    (.ask (lss (k64 1000) (.len Y7))
     (.exit false [.v 1])
     (.next [.v 0,add (.v 1) (k64 1)]))))
  (.exit true [])
theorem yf:(PZ.ok&&(Au PZ XE&&AW PZ.L (B1 AE (AR []) [] [] Y5) [] XE))=true:=by kernel_rfl
def vW(Q:List DV→Prop)(ds r:List DV):Prop:=∃l i,ds=.list l::.int .i64 i::r∧0≤i∧i≤l.length∧l.length≤maxLen∧∀c∈l,Q c
def muL(ds:List DV):Nat:=(lD ds 0).length-(iD ds 1).toNat
theorem j4{R:Rho}{x y:SX}{l:List (List DV)}{i:Int}(e0:den R x=.list l)(e1:den R y=.int .i64 i)(h0:0≤i)(h:i<l.length)(hq:∀c∈l,IsC c):∃k v:ByteArray,l.drop i.toNat=[.str k,.str v]::l.drop (i+1).toNat∧den R (.at x y 0)=.str k∧den R (.at x y 1)=.str v:=by
 have hl:i.toNat<l.length:=by omega
 obtain⟨k,v,hkv⟩:=hq _ (AC7 hl);refine⟨k,v,?_,?_,?_⟩
 ·rw[ACj hl,hkv,show (i+1).toNat=i.toNat+1 by omega]
 ·rw[Ab 0 e0 e1,Gt hl,hkv];rfl
 ·rw[Ab 1 e0 e1,Gt hl,hkv];rfl
theorem nk:BJ Tryz.prog G AE Y5 PZ.L:=by
 refine B5 (F:=JR) (μ:=muL) (Inv:=fun ds=>vW IsC ds []) (AG (l:=[]) trivial) (sub:=[]) trivial (lps:=[]) AL (fun _=>rfl) XE yf ?_ ?_
 ·intro ds h hp;obtain⟨d0,_,rfl,h0,d1,_,rfl,h1,rfl⟩:=h;obtain⟨l,rfl,hl,hq⟩:=Is.cells h0;obtain⟨i,rfl,_⟩:=h1.i64;have p:=hp (eql (.v 1) (k64 0),true) (by simp[PZ])
  rw[AN (d_v (d:=.int .i64 i) rfl) (d_k .i64 0)]at p;simp only[DV.bool.injEq,ACN]at p;exact⟨l,i,rfl,by omega,by omega,hl,hq⟩
 ·rintro ds ⟨l,i,rfl,h0,h1,hl,hq⟩;generalize hR:AA AE [.list l,.int .i64 i]=R;have e0:den R (.v 0)=.list l:=by rw[←hR];rfl
  have e1:den R (.v 1)=.int .i64 i:=by rw[←hR];rfl
  have hmx:=aZ
  show Af 0 JR _ _ R _ XE
  have hF:∀j:Int,JR [.list l,.int .i64 j]=match Fu (l.drop j.toNat) j with
   |none=>(true,[])
   |some j=>(false,[.int .i64 j]):=fun j=>rfl
  refine Ae (AB e1 (AF e0)) (fun h=>?_) (fun h=>?_)
  ·simp only[ACN]at h;obtain⟨k,v,hd,g0,g1⟩:=j4 e0 e1 h0 h hq;refine A0 (by rw[AB e1 (d_k .i64 0)];simp only[DV.bool.injEq,ACK];omega) ?_
   have bad:Bp [.str k,.str v]=false→Af 0 JR (fun ds=>vW IsC ds []) muL R [.list l,.int .i64 i] (.exit false [.v 1]):=by
    intro hb;show _=_
    rw[hF,hd,Fu,hb];simp only[AC1,ACO,ACS,e1];rfl
   refine Ae (AB (d_k .i64 200) (Az g0)) (fun h2=>bad ?_) (fun h2=>Ae (AB (d_k .i64 1000) (Az g1)) (fun h3=>bad ?_) (fun h3=>?_))
   ·simp only[ACN]at h2;simp only[Bp,sD,AC4,ACr,AEN,ACK]
    left;omega
   ·simp only[ACN]at h3;simp only[Bp,sD,AC4,ACr,AEN,ACK]
    right;omega
   ·simp only[ACK]at h2 h3;have hg:Bp [.str k,.str v]=true:=by
     simp only[Bp,sD,AC4,ACr,ACH,ACN];omega
    have hi1:=B6 (R:=R) e1 (d_k .i64 1) (by omega) (by omega)
    have hm:[SX.v 0,add (.v 1) (k64 1)].map (den R)=[.list l,.int .i64 (i+1)]:=by
     simp only[ACO,ACS,e0,hi1];rfl
    show _∧_∧_
    rw[hm];refine⟨⟨l,i+1,rfl,by omega,by omega,hl,hq⟩,?_,?_⟩
    ·show l.length-(i+1).toNat<l.length-i.toNat
     omega
    ·rw[hF,hF,hd,Fu,hg];rfl
  ·simp only[ACK]at h;show _=_
   rw[hF,ADP (by omega)]
   rfl
abbrev cA:Ey:=[(71,[(3,PZ.L)])]
abbrev ixX(k:Nat):SX:=.at (.app 97 [.v 0,k64 0]) (k64 0) k
def pCf:Pln:=.ask (ixX 0) (.done [[.kb false]]) (.done [[.not (lss (ixX 1) (k64 0))]])
theorem kCf:(hasB 34&&AJ [.one .bool] (PC AE (AR []) cA [] [] 34 [.one Cx,.con 33]) [] pCf)=true:=by kernel_rfl
theorem AAZ:Am Tryz.prog G 34 [.one Cx,.con 33] [.one .bool] (fun _=>True) gJ:=by
 have hk:=kCf
 rw[ACH]at hk;refine Jk (AG (l:=[]) trivial) (sub:=cA) ⟨Fw (by kernel_rfl) nk,trivial⟩ [] [] AL hk.1 pCf hk.2 ?_
 intro ds h _;simp only[An,Ba]at h;obtain⟨_,_,rfl,⟨d,rfl,hd⟩,_,_,rfl,rfl,rfl⟩:=h;obtain⟨l,rfl,_,_⟩:=Is.cells hd;have hF:gJ [[DV.list l],[]].flatten=[[.bool (!l.all Bp)]]:=rfl
 rw[hF,←TY (i:=0)];have h:∀k,den (AA AE [[DV.list l],[]].flatten) (ixX k)=(DV.bool (JR [.list l,.int .i64 0]).1::(JR [.list l,.int .i64 0]).2).getD k (.bool false):=fun k=>Eh (k:=k) (F:=JR) rfl (fun _=>rfl)
 have hX:JR [.list l,.int .i64 0]=match Fu l 0 with
  |none=>(true,[])
  |some j=>(false,[.int .i64 j]):=rfl
 rw[hX]at h;cases hb:Fu l 0 with
 |none=>
  rw[hb]at h;exact AD (b:=true) (h 0) (fun _=>rfl) (fun h=>by cases h)
 |some j=>
  rw[hb]at h;have hj:=Wc hb
  refine AD (b:=false) (h 0) (fun h=>by cases h) (fun _=>?_)
  have h1:den (AA AE [[DV.list l],[]].flatten) (ixX 1)=.int .i64 j:=h 1
  have h2:den (AA AE [[DV.list l],[]].flatten) (.not (lss (ixX 1) (k64 0)))=.bool true:=by
   show Gn (den _ (lss (ixX 1) (k64 0)))=_
   rw[AB h1 (d_k .i64 0),ACR (by omega)]
   rfl
  show _=_
  simp only[ACO,ACS,h2];rfl
def eCf:Ent:=eFn 34 [.one Cx,.con 33] [.one .bool] [] 45
theorem vX:Ap Tryz.prog G AE [eCf]:=⟨AP AI (pre_true AAZ) (fun _=>rfl) [] (by kernel_rfl),trivial⟩
abbrev AAa:AV:=.clo (.func 37) [] [.ptr 3 0,.ptr 2 0]
abbrev AAb:AV:=.clo (.func 35) [] [.ptr 2 0]
abbrev oB:OSrc:=.cell 2 0 5 [tU8]
abbrev bP0(q:AV):Blk:=Gf 73 [.dead,.dead,.dead,.dead,q]
abbrev bS0(p:AV):Blk:=Gf 71 [.dead,.dead,.dead,p]
abbrev bB(k:Nat):Blk:=Gf 44 [.own 7 [tU8] (.v k)]
abbrev bF:Blk:=Gf 115 [AAb]
def TE1:Tmpl:={tm:=[(1,.ptr 0 0),(4,.ptr 1 0),(7,.ptr 2 0),(8,.ptr 3 0),(9,AAa),(69,.sy Cx (.v 0)),(70,.sy tI (.len (.v 0))),(71,.sy tI (.v 1))],ob:=[(0,bP0 (.sy BM (.v 4))),(1,bS0 (.sy BM (.v 3))),(2,bB 2),(3,bF)],ow:=[⟨7,5,[tU8],.v 2⟩],src:=[.tm 69 Cx,.tm 71 tI,.own 0,.cell 1 3 BM,.cell 0 4 BM],osrc:=[oB]}
def YE1:Tmpl:={tm:=[(1,.ptr 0 0),(4,.ptr 1 0),(7,.ptr 2 0),(8,.ptr 3 0)],ob:=[(0,bP0 (.sy BM (.v 1))),(1,bS0 (.sy BM (.v 0))),(2,bB 2),(3,bF)],ow:=[⟨7,5,[tU8],.v 2⟩],src:=[.cell 1 3 BM,.cell 0 4 BM,.own 0],osrc:=[oB]}
def SE1:StdL:={n:=108,T:=TE1,tys:=[Cx,tI,tB,BM,BM],pre:=[(eql (.v 1) (k64 0),true),(lss (k64 200) (.len (.v 0)),false),(lss (k64 100) (.len (.v 2)),false),(.at (.app 45 [.v 0]) (k64 0) 0,false)],f:=98,keep:=[3,4],yes:=(.exit 0,YE1,1)}
abbrev S6:Code:=B0 15 0
abbrev Y8:Code:=B0 15 1
def L7:Code:=(A9 Y8).getD 0 .skip
abbrev AAc:AV:=.agg [.sy BM (.v 3),.sy BM (.v 4)]
def TE3(r:Nat):Tmpl:={tm:=[(7,.ptr 2 0),(8,.ptr 3 0),(88,AAc),(89,.sc (.int .i64 (.ofNat r))),(96,.sy BM (.v 0)),(97,.sy tI (.len (.v 0))),(98,.sy tI (.v 1))],ob:=[(2,bB 2),(3,bF)],ow:=[⟨7,5,[tU8],.v 2⟩],src:=[.tm 96 BM,.tm 98 tI,.own 0,.part 88 0 BM,.part 88 1 BM],osrc:=[oB]}
def YE3(r:Nat):Tmpl:={tm:=[(7,.ptr 2 0),(8,.ptr 3 0),(88,.agg [.sy BM (.v 0),.sy BM (.v 1)]),(89,.sc (.int .i64 (.ofNat r)))],ob:=[(2,bB 2),(3,bF)],ow:=[⟨7,5,[tU8],.v 2⟩],src:=[.part 88 0 BM,.part 88 1 BM,.own 0],osrc:=[oB]}
def SE3(r:Nat):StdL:={n:=108,T:=TE3 r,tys:=[BM,tI,tB,BM,BM],pre:=[(eql (.v 1) (k64 0),true),(lss (k64 255) (.len (.v 0)),false),(lss (k64 500000) (.len (.v 2)),false)],f:=99,keep:=[3,4],yes:=(.exit 4,YE3 r,1)}
section
variable {R:Rho}
def RE(x i:SX):Nat→Nat→SX
 |k,0=>.row [.at x i k]
 |k,n+1=>.cat (.row [.at x i k]) (RE x i (Nat.succ k) n)
theorem Yy{x i:SX}{s:List Int}(h:∀k,k<s.length→den R (.at x i k)=.int .u8 (s.getD k 0)):∀(n k:Nat),k+n+1=s.length→den R (RE x i k n)=.list (bytesI (s.drop k))
 |0,k,hk=>by
  rw[ACj (by omega),ADP (by omega)]
  have:=EP R (h k (by omega))
  unfold RE;rw[this];simp[ACI,ACL (show k<s.length by omega)]
 |n+1,k,hk=>by
  rw[ACj (by omega)]
  have:=EZ R (h k (by omega)) (Yy h n (k+1) (by omega))
  unfold RE;rw[show Nat.succ k=k+1 from rfl,this];simp[ACI,ACL (show k<s.length by omega)]
theorem yV{x y:SX}{l:List (List DV)}{i:Int}(e0:den R x=.list l)(e1:den R y=.int .i64 i)(h0:0≤i)(h:i<l.length)(hq:∀c∈l,IsD c):∃c,IsD c∧l.drop i.toNat=c::l.drop (i+1).toNat∧den R (RE x y 0 31)=.list (bytesI (idB c)):=by
 have hl:i.toNat<l.length:=by omega
 obtain⟨s,hs,h32,hb⟩:=hq _ (AC7 hl);refine⟨l[i.toNat],hq _ (AC7 hl),?_,?_⟩
 ·rw[ACj hl,show (i+1).toNat=i.toNat+1 by omega]
 ·rw[hs,show idB (s.map fun z=>DV.int .u8 z)=s from cS s]
  have:=Yy (R:=R) (x:=x) (i:=y) (s:=s) (fun k hk=>by
   rw[Ab k e0 e1,Gt hl,hs];simp[ACI,ACL hk]) 31 0 (by omega)
  rwa [AC1]at this
end
abbrev Iu(x:SX):SX×Bool:=(lss (k64 1000000) (.len x),false)
def pBi(ks:List SX):RPln:=
 .ask (lss (.v 1) (.len (.v 0)))
  (DT [(lss (.v 1) (k64 0),false),Iu (.v 2)]
   (.next (.v 0::add (.v 1) (k64 1)::.cat (.v 2) (RE (.v 0) (.v 1) 0 31)::ks)))
  (.exit true (ks++[.v 2]))
def AAS(ds r:List DV):Prop:=∃l i b,ds=.list l::.int .i64 i::.list (bytesI b)::r∧0≤i∧i≤l.length∧l.length≤200∧(∀c∈l,IsC c)∧(b.length:Int)≤100+1204*i
def PX(ds r:List DV):Prop:=∃l i b,ds=.list l::.int .i64 i::.list (bytesI b)::r∧0≤i∧i≤l.length∧l.length≤255∧(∀c∈l,IsD c)∧(b.length:Int)≤500000+32*i
theorem j0{R:Rho}{l:List (List DV)}{i:Int}{b:List Int}{r:List DV}{ks:List SX}(e0:den R (.v 0)=.list l)(e1:den R (.v 1)=.int .i64 i)(e2:den R (.v 2)=.list (bytesI b))(er:ks.map (den R)=r)
  (h0:0≤i) (h1:i≤l.length) (hl:l.length≤255) (hq:∀c∈l,IsD c) (hb:(b.length:Int)≤500000+32*i):Af ks.length Ow (fun ds=>PX ds r) muL R (.list l::.int .i64 i::.list (bytesI b)::r) (pBi ks):=by
 unfold pBi;refine Ae (AB e1 (AF e0)) (fun h=>?_) (fun h=>?_)
 ·simp only[ACN]at h;obtain⟨c,hc,hd,g⟩:=yV e0 e1 h0 h hq;have hi1:=B6 (R:=R) e1 (d_k .i64 1) (by omega) (by omega)
  have x1:=BV R e2 g
  refine FJ (l:=[_,_]) (fun q hq=>?_) ?_
  ·simp only[ACU,ACm,or_false]at hq;rcases hq with rfl|rfl
   ·rw[AB e1 (d_k .i64 0)];simp only[DV.bool.injEq,ACK];omega
   ·exact Cr R e2 (by omega)
  ·have hm:(SX.v 0::add (.v 1) (k64 1)::.cat (.v 2) (RE (.v 0) (.v 1) 0 31)::ks).map (den R)=.list l::.int .i64 (i+1)::.list (bytesI (b++idB c))::r:=by
    simp only[ACO,e0,hi1,x1,er];rfl
   show _∧_∧_
   rw[hm];refine⟨⟨l,i+1,_,rfl,by omega,by omega,hl,hq,?_⟩,?_,?_⟩
   ·rw[ACT,cT hc];omega
   ·show l.length-(i+1).toNat<l.length-i.toNat
    omega
   ·rw[MB,MB,hd];have:Eu (c::l.drop (i+1).toNat)=idB c++Eu (l.drop (i+1).toNat):=rfl
    rw[this,ACy]
 ·simp only[ACK]at h;show _=_
  rw[MB,ADP (by omega),List.drop_left]
  simp only[Eu,List.flatMap_nil,ADg,ACO,ACS,e2]
theorem sW{d0 d1 d2:DV}{r:List DV}(h0:Is Cx d0)(h1:Is tI d1)(h2:Is tB d2)(p1:den (AA AE (d0::d1::d2::r)) (eql (.v 1) (k64 0))=.bool true)(p2:den (AA AE (d0::d1::d2::r)) (lss (k64 200) (.len (.v 0)))=.bool false)(p3:den (AA AE (d0::d1::d2::r)) (lss (k64 100) (.len (.v 2)))=.bool false):AAS (d0::d1::d2::r) r:=by
 obtain⟨l,rfl,_,hq⟩:=Is.cells h0;obtain⟨i,rfl,_⟩:=h1.i64;obtain⟨b,rfl,_,_⟩:=h2.ints;rw[AN (d_v (d:=.int .i64 i) rfl) (d_k .i64 0)]at p1;rw[AB (d_k .i64 200) (AF (d_v (d:=.list l) rfl))]at p2;rw[AB (d_k .i64 100) (AY (d_v (d:=.list (bytesI b)) rfl))]at p3;simp only[DV.bool.injEq,ACN,ACK]at p1 p2 p3;exact⟨l,i,b,rfl,by omega,by omega,by omega,hq,by omega⟩
theorem Yz{d0 d1 d2:DV}{r:List DV}(h0:Is BM d0)(h1:Is tI d1)(h2:Is tB d2)(p1:den (AA AE (d0::d1::d2::r)) (eql (.v 1) (k64 0))=.bool true)(p2:den (AA AE (d0::d1::d2::r)) (lss (k64 255) (.len (.v 0)))=.bool false)(p3:den (AA AE (d0::d1::d2::r)) (lss (k64 500000) (.len (.v 2)))=.bool false):PX (d0::d1::d2::r) r:=by
 obtain⟨l,rfl,_,hq⟩:=Is.ids h0;obtain⟨i,rfl,_⟩:=h1.i64;obtain⟨b,rfl,_,_⟩:=h2.ints;rw[AN (d_v (d:=.int .i64 i) rfl) (d_k .i64 0)]at p1;rw[AB (d_k .i64 255) (AF (d_v (d:=.list l) rfl))]at p2;rw[AB (d_k .i64 500000) (AY (d_v (d:=.list (bytesI b)) rfl))]at p3;simp only[DV.bool.injEq,ACN,ACK]at p1 p2 p3;exact⟨l,i,b,rfl,by omega,by omega,by omega,hq,by omega⟩
abbrev h16(x:SX):SX:=.row [.conv .u8 (.bin .shr (.conv .u16 x) (k64 8))]
abbrev l16(x:SX):SX:=.row [.conv .u8 (.bin .shr (.conv .u16 x) (k64 0))]
abbrev Y9(x:SX):List (SX×Bool):=[(lss (add (.len x) (k64 2)) (.len x),false),(lss (k64 1000000) (add (.len x) (k64 2)),false),(eql (.len (.cat .emp x)) (.len x),true),Iu x]
abbrev A1:SX:=.cat (.v 2) (h16 (.len Y6))
abbrev A2:SX:=.cat A1 (l16 (.len Y6))
abbrev A3:SX:=.cat A2 (.bytes Y6)
abbrev A4:SX:=.cat A3 (h16 (.len Y7))
abbrev A5:SX:=.cat A4 (l16 (.len Y7))
abbrev A6:SX:=.cat A5 (.bytes Y7)
def pE1:RPln:=
 .ask (lss (.v 1) (.len (.v 0)))
  (DT ((lss (.v 1) (k64 0),false)::Y9 (.v 2)++[Iu A1,Iu A2,Iu (.bytes Y6)]++Y9 A3++[Iu A4,Iu A5,Iu (.bytes Y7)])
   (.next [.v 0,add (.v 1) (k64 1),A6,.v 3,.v 4]))
  (.exit true [.v 3,.v 4,.v 2])
theorem kE1:(SE1.ok&&(Au SE1 pE1&&AW SE1.L (B1 AE (AR []) [] [] S6) [] pE1))=true:=by kernel_rfl
theorem yg:((SE3 0).ok&&(Au (SE3 0) (pBi [.v 3,.v 4])&&AW (SE3 0).L (B1 AE (AR []) [] [] L7) [] (pBi [.v 3,.v 4])))=true:=by kernel_rfl
theorem yh:((SE3 1).ok&&(Au (SE3 1) (pBi [.v 3,.v 4])&&AW (SE3 1).L (B1 AE (AR []) [] [] L7) [] (pBi [.v 3,.v 4])))=true:=by kernel_rfl
theorem nn:BJ Tryz.prog G AE L7 (SE3 0).L:=by
 refine B5 (F:=Ow) (μ:=muL) (Inv:=fun ds=>∃p q,PX ds [p,q]) (AG (l:=[]) trivial) (sub:=[]) trivial (lps:=[]) AL (fun _=>rfl) (pBi [.v 3,.v 4]) yg ?_ ?_
 ·intro ds h hp;obtain⟨d0,_,rfl,h0,d1,_,rfl,h1,d2,_,rfl,h2,p,_,rfl,_,q,_,rfl,_,rfl⟩:=h;exact⟨p,q,Yz h0 h1 h2 (hp (eql (.v 1) (k64 0),true) (by simp[SE3])) (hp (lss (k64 255) (.len (.v 0)),false) (by simp[SE3])) (hp (lss (k64 500000) (.len (.v 2)),false) (by simp[SE3]))⟩
 ·rintro ds ⟨p,q,l,i,b,rfl,h0,h1,hl,hq,hb⟩;exact E1 (Inv:=fun ds=>PX ds [p,q]) (fun ds h=>⟨p,q,h⟩) (j0 (r:=[p,q]) (ks:=[.v 3,.v 4]) (R:=AA AE [.list l,.int .i64 i,.list (bytesI b),p,q]) rfl rfl rfl rfl h0 h1 hl hq hb)
theorem np:BJ Tryz.prog G AE L7 (SE3 1).L:=by
 refine B5 (F:=Ow) (μ:=muL) (Inv:=fun ds=>∃p q,PX ds [p,q]) (AG (l:=[]) trivial) (sub:=[]) trivial (lps:=[]) AL (fun _=>rfl) (pBi [.v 3,.v 4]) yh ?_ ?_
 ·intro ds h hp;obtain⟨d0,_,rfl,h0,d1,_,rfl,h1,d2,_,rfl,h2,p,_,rfl,_,q,_,rfl,_,rfl⟩:=h;exact⟨p,q,Yz h0 h1 h2 (hp (eql (.v 1) (k64 0),true) (by simp[SE3])) (hp (lss (k64 255) (.len (.v 0)),false) (by simp[SE3])) (hp (lss (k64 500000) (.len (.v 2)),false) (by simp[SE3]))⟩
 ·rintro ds ⟨p,q,l,i,b,rfl,h0,h1,hl,hq,hb⟩;exact E1 (Inv:=fun ds=>PX ds [p,q]) (fun ds h=>⟨p,q,h⟩) (j0 (r:=[p,q]) (ks:=[.v 3,.v 4]) (R:=AA AE [.list l,.int .i64 i,.list (bytesI b),p,q]) rfl rfl rfl rfl h0 h1 hl hq hb)
section
variable {R:Rho}
theorem Pb{x:SX}{n:Int}(hx:den R x=.int .i64 n)(h0:0≤n)(h1:n≤65535):den R (h16 x)=.list (bytesI [n / 256%256]):=
 EP R (PK R (gN hx ⟨h0,h1⟩) h0 8 (by decide))
theorem Pd{x:SX}{n:Int}(hx:den R x=.int .i64 n)(h0:0≤n)(h1:n≤65535):den R (l16 x)=.list (bytesI [n%256]):=by
 have:=EP R (PK R (gN hx ⟨h0,h1⟩) h0 0 (by decide))
 rw[show n / 2^0=n from Int.ediv_one n]at this;exact this
theorem Kr{x:SX}{b:List Int}(hx:den R x=.list (bytesI b))(h:(b.length:Int)≤900000):∀q∈Y9 x,den R q.1=.bool q.2:=by
 intro q hq;have hl:=AY hx
 have ha:=B6 (R:=R) hl (d_k .i64 2) (by omega) (by omega)
 have hc:den R (.cat .emp x)=.list (bytesI ([]++b)):=BV R (show den R .emp=.list (bytesI []) from rfl) hx
 simp only[ACU,ACm,or_false]at hq;rcases hq with rfl|rfl|rfl|rfl
 ·rw[AB ha hl];simp only[DV.bool.injEq,ACK];omega
 ·rw[AB (d_k .i64 1000000) ha];simp only[DV.bool.injEq,ACK];omega
 ·rw[AN (AY hc) hl];simp only[DV.bool.injEq,ACN,ADD]
 ·exact Cr R hx (by omega)
end
def nq(ds r:List DV):Prop:=∃l i b,ds=.list l::.int .i64 i::.list (bytesI b)::r∧0≤i∧i≤l.length∧l.length≤200∧(∀c∈l,IsC c)∧(b.length:Int)≤100+1204*i∧l.all Bp=true
theorem vY{R:Rho}{l:List (List DV)}{i:Int}{b:List Int}{p q:DV}(e0:den R (.v 0)=.list l)(e1:den R (.v 1)=.int .i64 i)(e2:den R (.v 2)=.list (bytesI b))(e3:den R (.v 3)=p)(e4:den R (.v 4)=q)
  (h0:0≤i) (h1:i≤l.length) (hl:l.length≤200) (hq:∀c∈l,IsC c) (hb:(b.length:Int)≤100+1204*i) (ha:l.all Bp=true):Af 2 FpB (fun ds=>nq ds [p,q]) muL R [.list l,.int .i64 i,.list (bytesI b),p,q] pE1:=by
 unfold pE1;refine Ae (AB e1 (AF e0)) (fun h=>?_) (fun h=>?_)
 ·simp only[ACN]at h;obtain⟨k,v,hd,g0,g1⟩:=j4 e0 e1 h0 h hq;have hg:Bp [.str k,.str v]=true:=by
   rw[ACt]at ha;refine ha _ (ADC (i:=i.toNat) ?_)
   rw[hd];exact AED
  have hg2:=hg
  simp only[Bp,sD,AC4,ACr,ACH,ACN]at hg2;have hi1:=B6 (R:=R) e1 (d_k .i64 1) (by omega) (by omega)
  have bI:=Ly R g0
  have bJ:=Ly R g1
  have lk:=Hm k
  have lv:=Hm v
  have x1:den R A1=_:=BV R e2 (Pb (Az g0) (by omega) (by omega))
  have x2:den R A2=_:=BV R x1 (Pd (Az g0) (by omega) (by omega))
  have x3:den R A3=_:=BV R x2 bI
  have x4:den R A4=_:=BV R x3 (Pb (Az g1) (by omega) (by omega))
  have x5:den R A5=_:=BV R x4 (Pd (Az g1) (by omega) (by omega))
  have x6:den R A6=_:=BV R x5 bJ
  refine FJ (fun q hq=>?_) ?_
  ·simp only[ADY,ADD,ACU,ACm,or_false]at hq;have f0:=Kr e2 (by omega)
   have f3:=Kr x3 (by simp only[ACT,ADJ];omega)
   rcases hq with rfl|hq|hq|hq|hq|rfl|rfl|rfl|hq|hq|hq|hq|rfl|rfl|rfl
   ·rw[AB e1 (d_k .i64 0)];simp only[DV.bool.injEq,ACK];omega
   ·exact f0 q (by simp[hq])
   ·exact f0 q (by simp[hq])
   ·exact f0 q (by simp[hq])
   ·exact f0 q (by simp[hq])
   ·exact Cr R x1 (by simp only[ACT,ADJ];omega)
   ·exact Cr R x2 (by simp only[ACT,ADJ];omega)
   ·exact Cr R bI (by omega)
   ·exact f3 q (by simp[hq])
   ·exact f3 q (by simp[hq])
   ·exact f3 q (by simp[hq])
   ·exact f3 q (by simp[hq])
   ·exact Cr R x4 (by simp only[ACT,ADJ];omega)
   ·exact Cr R x5 (by simp only[ACT,ADJ];omega)
   ·exact Cr R bJ (by omega)
  ·have hB:b++[((k.size:Nat):Int) / 256%256]++[((k.size:Nat):Int)%256]++Bl k++[((v.size:Nat):Int) / 256%256]++[((v.size:Nat):Int)%256]++Bl v=b++Ku [.str k,.str v]:=by
    simp[Ku,sD,be2]
   have hm:[SX.v 0,add (.v 1) (k64 1),A6,.v 3,.v 4].map (den R)=[.list l,.int .i64 (i+1),.list (bytesI (b++Ku [.str k,.str v])),p,q]:=by
    simp only[ACO,ACS,e0,hi1,x6,e3,e4];rw[←hB];rfl
   show _∧_∧_
   rw[hm];refine⟨⟨l,i+1,_,rfl,by omega,by omega,hl,hq,?_,ha⟩,?_,?_⟩
   ·rw[ACT,WZ];simp only[sD,AC4,ACr];omega
   ·show l.length-(i+1).toNat<l.length-i.toNat
    omega
   ·rw[TZ,TZ,hd,AEb,hg,AEl];have:CK ([.str k,.str v]::l.drop (i+1).toNat)=Ku [.str k,.str v]++CK (l.drop (i+1).toNat):=rfl
    rw[this,ACy]
 ·simp only[ACK]at h;show _=_
  rw[TZ,ADP (by omega)]
  simp only[List.all_nil,if_true,CK,List.flatMap_nil,ADg,ADr,AC1,ACO,ACS,e2]
theorem vZ:BJ Tryz.prog G AE S6 SE1.L:=by
 refine B5 (F:=FpB) (μ:=muL) (Inv:=fun ds=>∃p q,nq ds [p,q]) (AG (l:=[]) trivial) (sub:=[]) trivial (lps:=[]) AL (fun _=>rfl) pE1 kE1 ?_ ?_
 ·intro ds h hp;obtain⟨d0,_,rfl,h0,d1,_,rfl,h1,d2,_,rfl,h2,p,_,rfl,_,q,_,rfl,_,rfl⟩:=h;obtain⟨l,i,b,hds,g0,g1,g2,g3,g4⟩:=sW (r:=[p,q]) h0 h1 h2 (hp (eql (.v 1) (k64 0),true) (by simp[SE1])) (hp (lss (k64 200) (.len (.v 0)),false) (by simp[SE1])) (hp (lss (k64 100) (.len (.v 2)),false) (by simp[SE1]))
  simp only[ADa]at hds;obtain⟨rfl,rfl,rfl,_⟩:=hds;have hc:den (AA AE [.list l,.int .i64 i,.list (bytesI b),p,q]) (.at (.app 45 [.v 0]) (k64 0) 0)=.bool false:=hp (.at (.app 45 [.v 0]) (k64 0) 0,false) (by simp[SE1])
  have hc2:den (AA AE [.list l,.int .i64 i,.list (bytesI b),p,q]) (.at (.app 45 [.v 0]) (k64 0) 0)=.bool (!l.all Bp):=rfl
  rw[hc2]at hc;simp only[DV.bool.injEq,Bool.not_eq_false']at hc;exact⟨p,q,l,i,b,rfl,g0,g1,g2,g3,g4,hc⟩
 ·rintro ds ⟨p,q,l,i,b,rfl,h0,h1,hl,hq,hb,ha⟩;exact E1 (Inv:=fun ds=>nq ds [p,q]) (fun ds h=>⟨p,q,h⟩) (vY (R:=AA AE [.list l,.int .i64 i,.list (bytesI b),p,q]) rfl rfl rfl rfl rfl h0 h1 hl hq hb ha)
end Go.Proofs.YtobajijkmmhdjaaGreatDoor
end
