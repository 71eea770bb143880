/-
  A part of the proof of ClientStays (the machine on named data, and the contracts of the functions that the law reaches). Its names and spaces were shortened by a program of ours.
-/
import Derived.Test.YtobajijkmmhdjaaGreatDoorPAt
import Derived.Test.YtobajijkmmhdjaaGreatDoorPAr
set_option linter.all false
noncomputable section
namespace Go.Proofs.YtobajijkmmhdjaaGreatDoor
open Go Go.AM
theorem vh{ds:List DV}(h:IsL tP ds):∃t f ps p q,ds=[DV.int .i64 t,.int .i64 f,.list ps,.list p,.list q]∧(∀c∈ps,IsC c)∧(∀c∈p,IsD c)∧∀c∈q,IsD c:=by
 obtain⟨d0,_,rfl,h0,d1,_,rfl,h1,d2,_,rfl,h2,d3,_,rfl,h3,d4,_,rfl,h4,rfl⟩:=h;obtain⟨t,rfl,_⟩:=h0.i64;obtain⟨f,rfl,_⟩:=h1.i64;obtain⟨ps,rfl,_,g2⟩:=Is.cells h2;obtain⟨p,rfl,_,g3⟩:=Is.ids h3;obtain⟨q,rfl,_,g4⟩:=Is.ids h4;exact⟨t,f,ps,p,q,rfl,g2,g3,g4⟩
set_option maxRecDepth 100000 in
theorem n7:MJ Tryz.prog G AE (CG Pf) (B4 15):=by
 intro B hB L hL;have hc:Cp (B4 15)=[S6,Y8,L7]:=by kernel_rfl
 rw[hc]at hB;simp only[ACU,ACm,or_false]at hB;rcases hB with rfl|rfl|rfl
 ·rw[show CG Pf (key S6)=[SE1.L] from by kernel_rfl]at hL
  obtain rfl:=ACs.1 hL;exact vZ
 ·rw[show CG Pf (key Y8)=[] from by kernel_rfl]at hL
  cases hL
 ·rw[show CG Pf (key L7)=[(SE3 0).L,(SE3 1).L] from by kernel_rfl]at hL
  simp only[ACU,ACm,or_false]at hL;rcases hL with rfl|rfl
  ·exact nn
  ·exact np
theorem qf{R:Rho}{x y:SX}{n:Int}{s:List Int}(hx:den R x=.int .i64 n)(h0:0≤n)(h1:n≤65535)(hy:den R y=.list (bytesI s)):den R (r16 x y)=.list (bytesI (be2 n++s)):=by
 have:=BV R (Pb hx h0 h1) (BV R (Pd hx h0 h1) hy)
 exact this
theorem yk:Am Tryz.prog G 15 [.agg tP] [.one tB,.one tI] (fun _=>True) ic:=by
 have hk:=kEn
 rw[ACH]at hk;refine uD (AG vX) (sub:=[]) trivial Pf [some (5,[tU8]),none] n7 hk.1 pEn hk.2 ?_
 intro ds h _;obtain⟨_,_,rfl,ha,rfl⟩:=h;obtain⟨t,f,ps,p,q,rfl,h2,h3,h4⟩:=vh ha;have hF:ic [[DV.int .i64 t,.int .i64 f,.list ps,.list p,.list q]].flatten=if DZ t f ps p q then [[.list (bytesI (Gp t f ps p q))],[.int .i64 0]] else [[.list []],[.int .i64 301]]:=rfl
 rw[hF];have hC:den (AA AE [[DV.int .i64 t,.int .i64 f,.list ps,.list p,.list q]].flatten) (.at (.app 45 [.v 2]) (k64 0) 0)=.bool (!ps.all Bp):=rfl
 generalize hR:AA AE [[DV.int .i64 t,.int .i64 f,.list ps,.list p,.list q]].flatten=R at hC;have hI:R.I=AE:=by rw[←hR];rfl
 have e0:den R (.v 0)=.int .i64 t:=by rw[←hR];rfl
 have e1:den R (.v 1)=.int .i64 f:=by rw[←hR];rfl
 have e2:den R (.v 2)=.list ps:=by rw[←hR];rfl
 have e3:den R (.v 3)=.list p:=by rw[←hR];rfl
 have e4:den R (.v 4)=.list q:=by rw[←hR];rfl
 have bad:DZ t f ps p q=false→AK R (if DZ t f ps p q then [[.list (bytesI (Gp t f ps p q))],[.int .i64 0]] else [[.list []],[.int .i64 301]]) Mz:=fun h=>by rw[h];rfl
 have badT:JQ t f ps p q=false→DZ t f ps p q=false:=fun h=>by unfold DZ;rw[h];rfl
 have go:0≤t→t≤200→0≤f→f≤200→ps.length≤200→p.length≤255→q.length≤255→AK R (if DZ t f ps p q then [[.list (bytesI (Gp t f ps p q))],[.int .i64 0]] else [[.list []],[.int .i64 301]]) n5:=by
  intro g0 g1 g2 g3 g4 g5 g6;refine AD hC (fun hg=>bad (by unfold DZ;simp only[ADc]at hg;rw[hg,ADu])) (fun hg=>?_)
  simp only[Bool.not_eq_false']at hg;have hok:DZ t f ps p q=true:=by
   unfold DZ JQ;simp only[hg,AEc,ACH,ACN];omega
  rw[hok];have hd:den R enH=.list (bytesI (be2 t++(be2 f++be2 ps.length))):=by
   refine qf e0 (by omega) (by omega) (qf e1 (by omega) (by omega) ?_)
   have:=BV R (Pb (AF e2) (by omega) (by omega)) (Pd (AF e2) (by omega) (by omega))
   exact this
  have hm:[SX.v 2,k64 0,enH,.v 3,.v 4].map (den R)=[.list ps,.int .i64 0,.list (bytesI (be2 t++(be2 f++be2 ps.length))),.list p,.list q]:=by
   simp only[ACO,ACS,e2,hd,e3,e4];rfl
  have x1:den R enP=.list (bytesI (be2 t++(be2 f++be2 ps.length)++CK ps)):=by
   rw[Eh (F:=FpB) hI (fun _=>rfl),hm,TZ]
   simp only[Int.toNat_zero,AC1,hg,if_true];rfl
  have x20:den R nu=_:=BV R x1 (Pb (AF e3) (by omega) (by omega))
  have x2:den R enA=_:=BV R x20 (Pd (AF e3) (by omega) (by omega))
  have hA:be2 t++(be2 f++be2 ps.length)++CK ps++[((p.length:Nat):Int) / 256%256]++[((p.length:Nat):Int)%256]=be2 t++(be2 f++be2 ps.length)++CK ps++be2 p.length:=by
   rw[ACy];rfl
  rw[hA]at x2;have x3:den R enQ=.list (bytesI (be2 t++(be2 f++be2 ps.length)++CK ps++be2 p.length++Eu p)):=by
   have hm:[SX.v 3,k64 0,enA,.v 3,.v 4].map (den R)=[.list p,.int .i64 0,.list (bytesI (be2 t++(be2 f++be2 ps.length)++CK ps++be2 p.length)),.list p,.list q]:=by
    simp only[ACO,ACS,e3,x2,e4];rfl
   rw[Eh (F:=Ow) hI (fun _=>rfl),hm,MB]
   rfl
  have x40:den R ny=_:=BV R x3 (Pb (AF e4) (by omega) (by omega))
  have x4:den R enB=_:=BV R x40 (Pd (AF e4) (by omega) (by omega))
  have hB:be2 t++(be2 f++be2 ps.length)++CK ps++be2 p.length++Eu p++[((q.length:Nat):Int) / 256%256]++[((q.length:Nat):Int)%256]=be2 t++(be2 f++be2 ps.length)++CK ps++be2 p.length++Eu p++be2 q.length:=by
   rw[ACy (be2 t++(be2 f++be2 ps.length)++CK ps++be2 p.length++Eu p)];rfl
  rw[hB]at x4;have x5:den R enS=.list (bytesI (be2 t++(be2 f++be2 ps.length)++CK ps++be2 p.length++Eu p++be2 q.length++Eu q)):=by
   have hm:[SX.v 4,k64 0,enB,.v 3,.v 4].map (den R)=[.list q,.int .i64 0,.list (bytesI (be2 t++(be2 f++be2 ps.length)++CK ps++be2 p.length++Eu p++be2 q.length)),.list p,.list q]:=by
    simp only[ACO,ACS,e4,x4,e3];rfl
   rw[Eh (F:=Ow) hI (fun _=>rfl),hm,MB]
   rfl
  have w1:=TP hg
  have w2:=M7 h3
  have w3:=M7 h4
  have lA:(be2 t++(be2 f++be2 ps.length)++CK ps).length≤300000:=by
   simp only[ACT,GA];omega
  have lQ:(be2 t++(be2 f++be2 ps.length)++CK ps++be2 p.length++Eu p).length≤400000:=by
   simp only[ACT,GA];omega
  refine DU (fun z hz=>?_) ?_
  ·simp only[enF,ADY,ADD,ACy,ACU,ACm,or_false]at hz;have f0:=Kr x1 (by omega)
   have f1:=Kr x3 (by omega)
   rcases hz with rfl|rfl|rfl|rfl|rfl|hz|hz|hz|hz|rfl|rfl|rfl|hz|hz|hz|hz|rfl|rfl|rfl
   ·rw[AB (d_k .i64 200) (AF e2)];simp only[DV.bool.injEq,ACK];omega
   ·rw[AB (d_k .i64 255) (AF e3)];simp only[DV.bool.injEq,ACK];omega
   ·rw[AB (d_k .i64 255) (AF e4)];simp only[DV.bool.injEq,ACK];omega
   ·rw[AB (d_k .i64 100) (AY hd)];simp only[ACT,GA,DV.bool.injEq,ACK];omega
   ·rfl
   ·exact f0 z (by simp[hz])
   ·exact f0 z (by simp[hz])
   ·exact f0 z (by simp[hz])
   ·exact f0 z (by simp[hz])
   ·exact Cr R x20 (by rw[ACT];simp only[ADJ];omega)
   ·exact Cr R x2 (by rw[ACT,GA];omega)
   ·rw[AB (d_k .i64 500000) (AY x2)];rw[ACT,GA];simp only[DV.bool.injEq,ACK];omega
   ·exact f1 z (by simp[hz])
   ·exact f1 z (by simp[hz])
   ·exact f1 z (by simp[hz])
   ·exact f1 z (by simp[hz])
   ·exact Cr R x40 (by rw[ACT];simp only[ADJ];omega)
   ·exact Cr R x4 (by rw[ACT,GA];omega)
   ·rw[AB (d_k .i64 500000) (AY x4)];rw[ACT,GA];simp only[DV.bool.injEq,ACK];omega
  ·show (if true=true then _ else _)=[[den R enS],[DV.int .i64 0]]
   rw[if_pos rfl,x5];unfold Gp;simp only[ACy]
 have no:∀b:Bool,JQ t f ps p q=false→True:=fun _ _=>trivial
 have tz:∀{P:Prop} [Decidable P],P→JQ t f ps p q=false∨(0≤t∧t≤200∧0≤f∧f≤200∧ps.length≤200∧p.length≤255∧q.length≤255):=by
  intro P _ _;cases hT:JQ t f ps p q with
  |false=>exact .inl rfl
  |true=>
   simp only[JQ,ACH,ACN]at hT;exact .inr ⟨hT.1.1.1.1,hT.1.1.1.2,hT.1.1.2.1,hT.1.1.2.2,hT.1.2,hT.2.1,hT.2.2⟩
 have badN:¬(0≤t∧t≤200∧0≤f∧f≤200∧ps.length≤200∧p.length≤255∧q.length≤255)→AK R (if DZ t f ps p q then [[.list (bytesI (Gp t f ps p q))],[.int .i64 0]] else [[.list []],[.int .i64 301]]) Mz:=by
  intro hn;rcases tz (P:=True) trivial with h|h
  ·exact bad (badT h)
  ·exact absurd h hn
 have stN:0≤t→t≤200→0≤f→f≤200→ps.length≤200→AK R (if DZ t f ps p q then [[.list (bytesI (Gp t f ps p q))],[.int .i64 0]] else [[.list []],[.int .i64 301]]) enN:=by
  intro g0 g1 g2 g3 g4;refine AD (AB (AF e3) (AF e4)) (fun h=>AD (AB (d_k .i64 255) (AF e4)) (fun h5=>badN ?_) (fun h5=>?_)) (fun h=>AD (AB (d_k .i64 255) (AF e3)) (fun h5=>badN ?_) (fun h5=>?_))
  all_goals simp only[ACN,ACK]at h h5
  ·omega
  ·exact go g0 g1 g2 g3 g4 (by omega) (by omega)
  ·omega
  ·exact go g0 g1 g2 g3 g4 (by omega) (by omega)
 have stM:∀(m:SX) (z:Int),den R m=.int .i64 z→t≤z→f≤z→(z=t∨z=f)→0≤t→0≤f→AK R (if DZ t f ps p q then [[.list (bytesI (Gp t f ps p q))],[.int .i64 0]] else [[.list []],[.int .i64 301]]) (enM m):=by
  intro m z hm z1 z2 z3 g0 g2;refine AD (AB hm (AF e2)) (fun h=>AD (AB (d_k .i64 200) (AF e2)) (fun h5=>badN ?_) (fun h5=>?_)) (fun h=>AD (AB (d_k .i64 200) hm) (fun h5=>badN ?_) (fun h5=>?_))
  all_goals simp only[ACN,ACK]at h h5
  ·omega
  ·exact stN g0 (by omega) g2 (by omega) (by omega)
  ·omega
  ·exact stN g0 (by omega) g2 (by omega) (by omega)
 refine AD (AB e0 e1) (fun h=>AD (AB e0 (d_k .i64 0)) (fun h5=>badN ?_) (fun h5=>?_)) (fun h=>AD (AB e1 (d_k .i64 0)) (fun h5=>badN ?_) (fun h5=>?_))
 all_goals simp only[ACN,ACK]at h h5
 ·omega
 ·exact stM _ f e1 (by omega) (by omega) (.inr rfl) (by omega) (by omega)
 ·omega
 ·exact stM _ t e0 (by omega) (by omega) (.inl rfl) (by omega) (by omega)
theorem n9:Ap Tryz.prog G AE [eFn 15 [.agg tP] [.one tB,.one tI] [] 41 []]:=⟨AP AI (pre_true yk) (fun _=>rfl) [] rfl,trivial⟩
def yY:Ent:=eFn 15 [.agg tP] [.one tB,.one tI] [] 41
abbrev qV:List Ent:=yY::OZ
theorem kD1:((SD1 24).ok&&(Au (SD1 24) pD1&&AW (SD1 24).L (B1 AE (AR OZ) [] [] IJ) [] pD1))=true:=by kernel_rfl
theorem kD2:((SD2 28).ok&&(Au (SD2 28) pD2&&AW (SD2 28).L (B1 AE (AR OZ) [] [] IJ) [] pD2))=true:=by kernel_rfl
theorem kD3:((SD3 32).ok&&(Au (SD3 32) pD3&&AW (SD3 32).L (B1 AE (AR OZ) [] [] IJ) [] pD3))=true:=by kernel_rfl
abbrev qW:Ey:=[(81,[(3,(SD1 24).L),(3,(SD2 28).L),(3,(SD3 32).L)])]
theorem nj:Ez AE qW:=by
 refine⟨?_,trivial⟩
 intro B hB M hM;have hc:A9 (B4 81)=[IJ]:=by kernel_rfl
 rw[hc]at hB;rw[ACs.1 hB];have h1:=DB hM
 rcases ACU.1 h1 with h2|h1
 ·rw[(AEH h2).2];exact vO kD1
 rcases ACU.1 h1 with h2|h1
 ·rw[(AEH h2).2];exact vP kD2
 rw[(AEH (ACs.1 h1)).2];exact vQ kD3
def tX(k:Nat):SX:=.at (.app 91 [.v 0,k64 0,k64 0]) (k64 0) k
def fX(k:Nat):SX:=.at (.app 91 [.v 0,tX 2,tX 3]) (k64 0) k
def nX(k:Nat):SX:=.at (.app 91 [.v 0,fX 2,fX 3]) (k64 0) k
def TX:SX:=.conv .i64 (tX 1)
def FX:SX:=.conv .i64 (fX 1)
def cX(k:Nat):SX:=.at (.app 94 [.v 0,nX 2,nX 3,nX 1,.emp,TX,FX]) (k64 0) k
def mX(k:Nat):SX:=.at (.app 91 [.v 0,cX 1,cX 2]) (k64 0) k
def pX(k:Nat):SX:=.at (.app 96 [.v 0,mX 2,mX 3,mX 1,.emp,TX,FX,cX 3]) (k64 0) k
def kX(k:Nat):SX:=.at (.app 91 [.v 0,pX 1,pX 2]) (k64 0) k
def qX(k:Nat):SX:=.at (.app 96 [.v 0,kX 2,kX 3,kX 1,.emp,TX,FX,cX 3,pX 3]) (k64 0) k
def VA(j:Nat):SX:=.at (.app 41 [TX,FX,cX 3,pX 3,qX 3]) (k64 j) 0
def Y4(n:Nat):Pln:=.done [[k64 0,k64 0,.emp,.emp,.emp],[k64 n]]
def pDc:Pln:=
 G8 [(.app 90 [.v 0,k64 0,k64 0],true),(.app 90 [.v 0,tX 2,tX 3],true),(.app 90 [.v 0,fX 2,fX 3],true),(.app 90 [.v 0,nX 2,nX 3],true),(lss (k64 0) (.len .emp),false),(.app 90 [.v 0,cX 1,cX 2],true),(.app 90 [.v 0,mX 2,mX 3],true),(.app 90 [.v 0,pX 1,pX 2],true),(.app 90 [.v 0,kX 2,kX 3],true)]
  (.ask (eql (qX 2) (k64 0))
   (.ask (eql (VA 1) (k64 0))
    (G8 [(lss (k64 1000000) (.len (.v 0)),false),(lss (k64 1000000) (.len (VA 0)),false)]
     (.ask (eql (.text (VA 0)) (.text (.v 0))) (.done [[TX,FX,cX 3,pX 3,qX 3],[k64 0]]) (Y4 301)))
    (Y4 301))
   (Y4 7))
theorem kDc:(hasB 48&&AJ [.agg tP,.one tI] (PC AE (AR qV) qW [] [] 48 [.one tB]) [] pDc)=true:=by kernel_rfl
theorem yZ{R:Rho}(hI:R.I=AE){x y z u w:SX}{es:List SX}{l:List Int}{a e n:Int}{p:List (List DV)}(hx:den R x=.list (bytesI l))(hy:den R y=.int .i64 a)(hz:den R z=.int .i64 e)(hu:den R u=.int .u16 n)(hw:den R w=.list p):
  den R (.at (.app 94 (x::y::z::u::w::es)) (k64 0) 1)=.int .i64 (Co l n.toNat a e p).2.1∧den R (.at (.app 94 (x::y::z::u::w::es)) (k64 0) 2)=.int .i64 (Co l n.toNat a e p).2.2∧den R (.at (.app 94 (x::y::z::u::w::es)) (k64 0) 3)=.list (Co l n.toNat a e p).1:=by
 have h:∀k,den R (.at (.app 94 (x::y::z::u::w::es)) (k64 0) k)=_:=fun k=>Eh (k:=k) (F:=Pv) hI (fun _=>rfl)
 simp only[ACO,hx,hy,hz,hu,hw,KJ]at h;exact⟨h 1,h 2,h 3⟩
theorem qY{R:Rho}(hI:R.I=AE){x y z u w:SX}{es:List SX}{l:List Int}{a e n:Int}{p:List (List DV)}(hx:den R x=.list (bytesI l))(hy:den R y=.int .i64 a)(hz:den R z=.int .i64 e)(hu:den R u=.int .u16 n)(hw:den R w=.list p):
  den R (.at (.app 96 (x::y::z::u::w::es)) (k64 0) 1)=.int .i64 (CT l n.toNat a e p).2.1∧den R (.at (.app 96 (x::y::z::u::w::es)) (k64 0) 2)=.int .i64 (CT l n.toNat a e p).2.2∧den R (.at (.app 96 (x::y::z::u::w::es)) (k64 0) 3)=.list (CT l n.toNat a e p).1:=by
 have h:∀k,den R (.at (.app 96 (x::y::z::u::w::es)) (k64 0) k)=_:=fun k=>Eh (k:=k) (F:=Kv) hI (fun _=>rfl)
 simp only[ACO,hx,hy,hz,hu,hw,M8]at h;exact⟨h 1,h 2,h 3⟩
section
variable {R:Rho}{x y z:SX}{l:List Int}{a e:Int}
theorem d_u(hI:R.I=AE)(hx:den R x=.list (bytesI l))(hy:den R y=.int .i64 a)(hz:den R z=.int .i64 e)(ok:B9 l a):(den R (.at (.app 91 [x,y,z]) (k64 0) 1)=.int .u16 (rdU l a e).1∧den R (.at (.app 91 [x,y,z]) (k64 0) 2)=.int .i64 (rdU l a e).2.1∧den R (.at (.app 91 [x,y,z]) (k64 0) 3)=.int .i64 (rdU l a e).2.2)∧
  B9 l (rdU l a e).2.1∧0≤(rdU l a e).1∧(rdU l a e).1≤65535:=⟨qg hI hx hy hz,TV ok⟩
theorem d_C{u w:SX}{es:List SX}{n:Int}{p:List (List DV)}(hI:R.I=AE)(hx:den R x=.list (bytesI l))(hy:den R y=.int .i64 a)(hz:den R z=.int .i64 e)(hu:den R u=.int .u16 n)(hw:den R w=.list p)(ok:B9 l a):
  (den R (.at (.app 94 (x::y::z::u::w::es)) (k64 0) 1)=.int .i64 (Co l n.toNat a e p).2.1∧den R (.at (.app 94 (x::y::z::u::w::es)) (k64 0) 2)=.int .i64 (Co l n.toNat a e p).2.2∧den R (.at (.app 94 (x::y::z::u::w::es)) (k64 0) 3)=.list (Co l n.toNat a e p).1)∧B9 l (Co l n.toNat a e p).2.1:=⟨yZ hI hx hy hz hu hw,kf ok⟩
theorem AAW{u w:SX}{es:List SX}{n:Int}{p:List (List DV)}(hI:R.I=AE)(hx:den R x=.list (bytesI l))(hy:den R y=.int .i64 a)(hz:den R z=.int .i64 e)(hu:den R u=.int .u16 n)(hw:den R w=.list p)(ok:B9 l a):
  (den R (.at (.app 96 (x::y::z::u::w::es)) (k64 0) 1)=.int .i64 (CT l n.toNat a e p).2.1∧den R (.at (.app 96 (x::y::z::u::w::es)) (k64 0) 2)=.int .i64 (CT l n.toNat a e p).2.2∧den R (.at (.app 96 (x::y::z::u::w::es)) (k64 0) 3)=.list (CT l n.toNat a e p).1)∧B9 l (CT l n.toNat a e p).2.1:=⟨qY hI hx hy hz hu hw,kg ok⟩
end
theorem WQ{a b:List Int}(ha:BI a)(hb:BI b):Ci a=Ci b↔a=b:=by
 constructor
 ·intro h;rw[←HZ ha,h,HZ hb]
 ·rintro rfl;rfl
theorem j2{t f:Int}{ps p q:List (List DV)}(h:DZ t f ps p q=true)(h2:∀c∈p,IsD c)(h3:∀c∈q,IsD c):(Gp t f ps p q).length≤1000000:=by
 simp only[DZ,JQ,ACH,ACN]at h;obtain⟨⟨⟨⟨⟨_,_⟩,_,_⟩,h8⟩,h9,h10⟩,h11⟩:=h;have e1:=TP h11
 have e2:=M7 h2
 have e3:=M7 h3
 unfold Gp;simp only[ACT,GA];omega
theorem ya:Ap Tryz.prog G AE qV:=⟨n9.1,PY⟩
theorem vR:Am Tryz.prog G 48 [.one tB] [.agg tP,.one tI] (fun ds=>∀p∈[Aj 0],den (AA AE ds) p.1=.bool p.2) NM:=by
 have hk:=kDc
 rw[ACH]at hk;refine Jk (AG ?_) nj [] [] AL hk.1 pDc hk.2 ?_
 ·exact ya
 intro ds h hp;obtain⟨l,rfl,hB,hlm⟩:=yl h;have hp:=hp (Aj 0) (by simp)
 generalize hR:AA AE [[DV.list (bytesI l)]].flatten=R at hp⊢;have hI:R.I=AE:=by rw[←hR];rfl
 have q0:R.ρ 0=.list (bytesI l):=by rw[←hR];rfl
 have hl:=sa hp q0
 have e0:den R (.v 0)=.list (bytesI l):=q0
 have hF:NM [[DV.list (bytesI l)]].flatten=[RR (EC l).2,[.int .i64 (EC l).1]]:=by
  have:Aa [DV.list (bytesI l)] 0=l:=BD l
  show[RR (EC (Aa [DV.list (bytesI l)] 0)).2,[.int .i64 (EC (Aa [DV.list (bytesI l)] 0)).1]]=_
  rw[this]
 rw[hF];have dem:den R .emp=.list ([]:List (List DV)):=rfl
 have o0:B9 l ((0:Nat):Int):=⟨hB,hl,by omega,by omega⟩
 obtain⟨⟨t1,t2,t3⟩,o1,tn0,tn1⟩:=d_u hI e0 (d_k .i64 0) (d_k .i64 0) o0;obtain⟨⟨f1,f2,f3⟩,o2,fn0,fn1⟩:=d_u hI e0 t2 t3 o1;obtain⟨⟨n1,n2,n3⟩,o3,nn0,nn1⟩:=d_u hI e0 f2 f3 o2;obtain⟨⟨c1,c2,c3⟩,o4⟩:=d_C (es:=[TX,FX]) hI e0 n2 n3 n1 dem o3;obtain⟨⟨m1,m2,m3⟩,o5,mn0,mn1⟩:=d_u hI e0 c1 c2 o4;obtain⟨⟨p1,p2,p3⟩,o6⟩:=AAW (es:=[TX,FX,cX 3]) hI e0 m2 m3 m1 dem o5;obtain⟨⟨k1,k2,k3⟩,o7,kn0,kn1⟩:=d_u hI e0 p1 p2 o6;obtain⟨q1,q2,q3⟩:=qY (es:=[TX,FX,cX 3,pX 3]) hI e0 k2 k3 k1 dem;have dT:den R TX=.int .i64 (rdU l ((0:Nat):Int) ((0:Nat):Int)).1:=eX t1 (by omega) (by omega)
 have dF:den R FX=.int .i64 (rdU l (rdU l ((0:Nat):Int) ((0:Nat):Int)).2.1 (rdU l ((0:Nat):Int) ((0:Nat):Int)).2.2).1:=eX f1 (by omega) (by omega)
 have hA:(rdA l).x.t=(rdU l ((0:Nat):Int) ((0:Nat):Int)).1∧(rdA l).x.f=(rdU l (rdU l ((0:Nat):Int) ((0:Nat):Int)).2.1 (rdU l ((0:Nat):Int) ((0:Nat):Int)).2.2).1:=⟨rfl,rfl⟩
 have dc:den R (cX 3)=.list (rdA l).x.ps:=c3
 have dp:den R (pX 3)=.list (rdA l).x.p:=p3
 have dq:den R (qX 3)=.list (rdA l).x.q:=q3
 have de:den R (qX 2)=.int .i64 (rdA l).e:=q2
 rw[←hA.1]at dT;rw[←hA.2]at dF;have short:EC l=(7,Pu)→AK R [RR (EC l).2,[.int .i64 (EC l).1]] (Y4 7):=fun h=>by rw[h];rfl
 have bad:EC l=(301,Pu)→AK R [RR (EC l).2,[.int .i64 (EC l).1]] (Y4 301):=fun h=>by rw[h];rfl
 unfold pDc;refine DU (l:=[_,_,_,_,_,_,_,_,_]) (fun q hq=>?_) ?_
 ·simp only[ACU,ACm,or_false]at hq;rcases hq with rfl|rfl|rfl|rfl|rfl|rfl|rfl|rfl|rfl
  ·exact HU hI e0 (d_k .i64 0) (d_k .i64 0) o0
  ·exact HU hI e0 t2 t3 o1
  ·exact HU hI e0 f2 f3 o2
  ·exact HU hI e0 n2 n3 o3
  ·rfl
  ·exact HU hI e0 c1 c2 o4
  ·exact HU hI e0 m2 m3 o5
  ·exact HU hI e0 p1 p2 o6
  ·exact HU hI e0 k2 k3 o7
 clear t1 t2 t3 f1 f2 f3 n1 n2 n3 c1 c2 c3 m1 m2 m3 p1 p2 p3 k1 k2 k3 q1 q2 q3 o0 o1 o2 o3 o4 o5 o6 o7 hA;rcases zA hB hl with ⟨x,a',g1,g2,_⟩|⟨g1,g2⟩
 ·rw[g2]at dT dF dc dp dq de;simp only at dT dF dc dp dq de;obtain⟨s1,_,_,_,_,_,s2,s3,s4⟩:=WY g1 hB;have hBx:BI (Gp x.t x.f x.ps x.p x.q):=fun z hz=>hB z (by rw[s1];exact List.mem_append_left _ hz)
  have hdec:EC l=if DZ x.t x.f x.ps x.p x.q&&decide (l.drop a'.toNat=[]) then (0,x) else (301,Pu):=by
   unfold EC;rw[g1]
  have henc:AE 41 ([TX,FX,cX 3,pX 3,qX 3].map (den R))=.list (if DZ x.t x.f x.ps x.p x.q then [[.list (bytesI (Gp x.t x.f x.ps x.p x.q))],[.int .i64 0]] else [[.list []],[.int .i64 301]]):=by
   simp only[ACO,ACS,dT,dF,dc,dp,dq];rfl
  refine AD (b:=true) (by rw[AN de (d_k .i64 0)];rfl) (fun _=>?_) (fun h=>by cases h)
  cases hok:DZ x.t x.f x.ps x.p x.q with
  |false=>
   rw[hok]at hdec henc;have d1:den R (VA 1)=.int .i64 301:=by
    show atD (den R (.app 41 _)) (.int .i64 1) 0=_
    rw[AO,hI,henc];rfl
   refine AD (b:=false) (by rw[AN d1 (d_k .i64 0)];rfl) (fun h=>by cases h) (fun _=>bad hdec)
  |true=>
   rw[hok]at hdec henc;have d1:den R (VA 1)=.int .i64 0:=by
    show atD (den R (.app 41 _)) (.int .i64 1) 0=_
    rw[AO,hI,henc];rfl
   have d0:den R (VA 0)=.list (bytesI (Gp x.t x.f x.ps x.p x.q)):=by
    show atD (den R (.app 41 _)) (.int .i64 0) 0=_
    rw[AO,hI,henc];rfl
   refine AD (b:=true) (by rw[AN d1 (d_k .i64 0)];rfl) (fun _=>?_) (fun h=>by cases h)
   refine DU (l:=[_,_]) (fun q hq=>?_) ?_
   ·simp only[ACU,ACm,or_false]at hq;rcases hq with rfl|rfl
    ·exact Cr R e0 hl
    ·exact Cr R d0 (j2 hok s3 s4)
   refine AD (qK (HA R d0) (HA R e0)) (fun h=>?_) (fun h=>?_)
   ·simp only[ACN]at h;have h:=(WQ hBx hB).1 h
    have hz:l.drop a'.toNat=[]:=by
     have h2:=congrArg List.length s1
     have h3:=congrArg List.length h
     rw[ACT]at h2;exact ACi.1 (by omega)
    rw[hz]at hdec;simp only[AEl,decide_true,if_true]at hdec;show _=_
    rw[hdec];simp only[ACO,ACS,dT,dF,dc,dp,dq,RR];rfl
   ·simp only[ACK]at h;have hz:¬l.drop a'.toNat=[]:=by
     intro hz;rw[hz,ADg]at s1;exact h ((WQ hBx hB).2 s1.symm)
    rw[ACR hz]at hdec;exact bad hdec
 ·rw[g2]at de;have hdec:EC l=(7,Pu):=by
   unfold EC;rw[g1]
  exact AD (b:=false) (by rw[AN de (d_k .i64 0)];rfl) (fun h=>by cases h) (fun _=>short hdec)
end Go.Proofs.YtobajijkmmhdjaaGreatDoor
end
