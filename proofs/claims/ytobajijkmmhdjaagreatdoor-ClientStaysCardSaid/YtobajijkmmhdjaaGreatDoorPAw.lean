/-
  A part of the proof of ClientStays (the machine on named data, and the contracts of the functions that the law reaches). Its names and spaces were shortened by a program of ours.
-/
import Derived.Test.YtobajijkmmhdjaaGreatDoorPAv
import Derived.Test.YtobajijkmmhdjaaGreatDoorPAm
import Derived.Test.YtobajijkmmhdjaaGreatDoorPAp
set_option linter.all false
noncomputable section
namespace Go.Proofs.YtobajijkmmhdjaaGreatDoor.Se
open Go Go.AM
def hrI:Nat→List DV→DV
 |44,ds=>.list (NM ds)
 |125,ds=>.list (Mx ds)
 |126,ds=>.list (KB ds)
 |127,ds=>.list (Vr ds)
 |128,ds=>.list (Vr ds)
 |129,ds=>.list (Vr ds)
 |162,ds=>.bool (EW (lD ds 0))
 |164,ds=>.list (Fvy ds)
 |165,ds=>.bool (smallR (lD ds 0))
 |170,ds=>.list (FL pc ds)
 |171,ds=>.list (xX ds)
 |_,_=>.bool false
theorem zl(I:Nat→List DV→DV):Am Tryz.prog G 48 [.one tB] [.agg tP,.one tI] (fun ds=>∀p∈[Aj 0],den (AA I ds) p.1=.bool p.2) NM:=
 ⟨vR.1,fun E ds vs w hE hr hp hg=>vR.2 E ds vs w hE hr (fun p hm=>by
  have h1:=hp p hm
  simp only[ACs]at hm;subst hm;exact h1) hg⟩
theorem ABl:Ap Tryz.prog G hrI xu:=
 ⟨AP AI (S7 hrI) (fun _=>rfl) _ rfl,PL AI (iJ hrI) (fun _=>rfl) _ (by kernel_rfl),aq AI (j3 hrI) (fun _=>rfl) (by kernel_rfl),sC zZ,mK AI (zd hrI) (fun _=>rfl) (by kernel_rfl),
  AP AI (zl hrI) (fun _=>rfl) _ (by kernel_rfl),AP AI (ABZ hrI rfl) (fun _=>rfl) _ (by kernel_rfl),PL AI (zj hrI) (fun _=>rfl) _ (by kernel_rfl),AP AI (rb hrI).data (fun _=>rfl) _ (by kernel_rfl),trivial⟩
theorem zm:Ez hrI xw:=⟨Fw (by kernel_rfl) (xr rfl rfl rfl),trivial⟩
def Fhr(ds:List DV):List (List DV):=evP (AA hrI ds) pHr
theorem ah{t f:Int}{ps p q:List (List DV)}(h:DZ t f ps p q=true):ps.all Bp=true∧ps.length≤1000000:=by
 unfold DZ JQ at h;simp only[ACH,ACN]at h;refine⟨?_,?_⟩
 ·simp_all
 ·omega
theorem iT{l:List Int}(hl:BI l):EW (EC l).2.ps=true∧(EC l).2.ps.length≤1000000:=by
 unfold EC;split
 ·exact⟨rfl,by show 0≤1000000;omega⟩
 ·rename_i x r h;split
  ·rename_i hx;simp only[ACH]at hx;obtain⟨h1,h2⟩:=ah hx.1;obtain⟨_,_,_,_,_,_,h3,_⟩:=WY h hl;refine⟨ACt.2 fun c hc=>?_,h2⟩
   obtain⟨k,v,rfl⟩:=h3 c hc;have h4:=ACt.1 h1 _ hc
   simp only[Bp,ACH,ACN]at h4;have:v.size≤1000:=h4.2
   show decide (v.size≤1000000)=true
   exact ACb (by omega)
  ·exact⟨rfl,by show 0≤1000000;omega⟩
abbrev ri:List (SX×Bool):=[(lss (k64 1000) (.len (.v 5)),false),Aj 82,Aj 87,Aj 155,(.app 165 [.v 87],true)]
theorem tl(l:List (List DV))(x:Int):0≤AQ l x∧AQ l x≤l.length:=KC l.length 0 l.length (by omega)
theorem tn{D:List DV}{ds rows:List (List DV)}{pf:List Int}{a b:Bool}{ix:Int}(w3:D.getD 3 (.bool false)=.bool a)(w80:D.getD 80 (.bool false)=.bool b)(w82:D.getD 82 (.bool false)=.list ds)(w87:D.getD 87 (.bool false)=.list rows)(w90:D.getD 90 (.bool false)=.int .u64 ix)(w155:D.getD 155 (.bool false)=.list (bytesI pf))
  (q1:den (AA hrI D) (lss (k64 1000) (.len (.v 5)))=.bool false) (n82:ds.length≤1000000) (n87:rows.length≤1000000) (hB:BI pf) (n155:pf.length≤1000000) (hs:smallR rows=true):C2 (AA hrI D) pHr:=by
 have e3:den (AA hrI D) (.v 3)=.bool a:=w3
 have e80:den (AA hrI D) (.v 80)=.bool b:=w80
 have e82:den (AA hrI D) (.v 82)=.list ds:=w82
 have e87:den (AA hrI D) (.v 87)=.list rows:=w87
 have e90:den (AA hrI D) (.v 90)=.int .u64 ix:=w90
 have e155:den (AA hrI D) (.v 155)=.list (bytesI pf):=w155
 have hI:(AA hrI D).I=hrI:=rfl
 generalize AA hrI D=R at *;have big:∀{x:SX} {l:List (List DV)},den R x=.list l→l.length≤1000000→den R (lss (k64 1000000) (.len x))=.bool false:=fun hx hl=>(AB (d_k .i64 1000000) (AF hx)).trans (congrArg DV.bool (ACR (by show ¬((1000000:Nat):Int)<_;omega)))
 have dCl:den R clX=.list ds:=by
  have:den R (.app 129 [.v 82])=.list [[.list ds]]:=by
   rw[AO,hI];simp only[ACO,ACS,e82];rfl
  exact (Ab 0 this (d_k .i64 0)).trans rfl
 have dRw:den R rwX=.list rows:=by
  have:den R (.app 127 [.v 87])=.list [[.list rows]]:=by
   rw[AO,hI];simp only[ACO,ACS,e87];rfl
  exact (Ab 0 this (d_k .i64 0)).trans rfl
 have d165:den R (.app 165 [rwX])=.bool true:=by
  rw[AO,hI];simp only[ACO,ACS,dRw];exact congrArg DV.bool hs
 have dFd:den R fdA=.list [[.int .i64 (AQ ds ix)],[.bool (C1 ds ix (AQ ds ix))]]:=by
  rw[show fdA=.app 125 [clX,.v 90] from rfl,AO,hI];simp only[ACO,ACS,dCl,e90];rfl
 have d0:den R fd0=.int .i64 (AQ ds ix):=(Ab 0 dFd (d_k .i64 0)).trans rfl
 have d1:den R (.at fdA (k64 1) 0)=.bool (C1 ds ix (AQ ds ix)):=(Ab 0 dFd (d_k .i64 1)).trans rfl
 obtain⟨f1,f2⟩:=tl ds ix;have hDone:C2 R Z4:=AU (big e87 n87) (AU (big dRw n87) (AU d165 (AU ((AN (AF dRw) (AF dRw)).trans (congrArg DV.bool (ACb rfl))) (AU rfl trivial))))
 obtain⟨b1,k1⟩:=Bn R iP (k64 0);obtain⟨b2,k2⟩:=Bn R (.v 84) (.ki .u32 (.ofNat 0));obtain⟨b3,k3⟩:=Bn R (.v 83) (k64 191);obtain⟨b4,k4⟩:=EJ R (.v 89) (k64 0);obtain⟨b5,k5⟩:=EJ R (k64 5) (.v 89);obtain⟨b6,k6⟩:=Bn R (.v 83) (k64 0);obtain⟨b7,k7⟩:=Bn R (.v 84) (.v 1);obtain⟨b8,k8⟩:=Bn R dcE (k64 0);obtain⟨b9,k9⟩:=Bn R (.at vyA (k64 1) 0) (k64 0);obtain⟨b10,k10⟩:=KW R (eqW clX fd0 90 0 65);have hOwn:C2 R Tz:=Ai k6 (fun _=>Ai k7 (fun _=>hDone) (fun _=>trivial)) (fun _=>trivial)
 have z0:den R (lss fd0 (k64 0))=.bool false:=(AB d0 (d_k .i64 0)).trans (congrArg DV.bool (ACR (by show ¬_<((0:Nat):Int);omega)))
 obtain⟨L,hL⟩:∃L,den R inX=.list L:=⟨_,by
  rw[show den R inX=Du (Du (FQ (den R clX) (den R (k64 0)) (den R fd0)) (den R (.row (AH 90 65)))) (FQ (den R clX) (den R fd0) (den R (.len clX))) from rfl,dCl,d0,AF dCl]
  rfl⟩
 have hRem:C2 R iR:=by
  refine AU (big dCl n82) (Ai d1 (fun h=>AU ?_ (AU z0 (Ai k10 (fun _=>trivial) (fun _=>trivial)))) (fun _=>AU z0 (AU ?_ (Ai (AB (d_k .i64 16) (AF hL)) (fun g=>AU ?_ (AU rfl (AU rfl trivial))) (fun _=>trivial)))))
  ·unfold C1 at h;simp only[ACH,ACN]at h;exact (AB d0 (AF dCl)).trans (congrArg DV.bool (ACb h.1))
  ·exact (AB (AF dCl) d0).trans (congrArg DV.bool (ACR (by omega)))
  ·simp only[ACN]at g;exact (AB (d_k .i64 1) (AF hL)).trans (congrArg DV.bool (ACb (by have g:((16:Nat):Int)<L.length:=g;show ((1:Nat):Int)<L.length;omega)))
 have dDc:den R dcA=.list [RR (EC pf).2,[.int .i64 (EC pf).1]]:=by
  rw[show dcA=.app 44 [.v 155] from rfl,AO,hI];simp only[ACO,ACS,e155];show DV.list (NM [.list (bytesI pf)])=_
  unfold NM;rw[show Aa [DV.list (bytesI pf)] 0=pf from BD pf]
 have dPs:den R (.at dcA (k64 0) 2)=.list (EC pf).2.ps:=(Ab 2 dDc (d_k .i64 0)).trans rfl
 obtain⟨s1,s2⟩:=iT hB;have d162:den R (.app 162 [.at dcA (k64 0) 2])=.bool true:=by
  rw[AO,hI];simp only[ACO,ACS,dPs];exact congrArg DV.bool s1
 have hRd:C2 R iS:=by
  refine Ai k6 (fun _=>AU ?_ (Ai k8 (fun _=>AU (big dPs s2) (AU d162 (Ai k9 (fun _=>hRem) (fun _=>trivial)))) (fun _=>trivial))) (fun _=>trivial)
  exact (AB (d_k .i64 1000000) (AY e155)).trans (congrArg DV.bool (ACR (by show ¬((1000000:Nat):Int)<pf.length;omega)))
 exact AU q1 (AU (big e82 n82) (Ai k1 (fun _=>Ai k2 (fun _=>Ai e80 (fun _=>hRd) (fun _=>trivial)) (fun _=>Ai e3 (fun _=>Ai k3 (fun _=>Ai k4 (fun _=>hOwn) (fun _=>Ai k5 (fun _=>hOwn) (fun _=>trivial))) (fun _=>hOwn)) (fun _=>trivial))) (fun _=>trivial)))
theorem ABm(I:Nat→List DV→DV)(hI:I 165=fun ds=>.bool (smallR (lD ds 0))):Am Tryz.prog G fHr [.agg BN,.agg tRep] [.agg BN,.agg tHd,.one tI] (fun ds=>∀p∈ri,den (AA I ds) p.1=.bool p.2) Fhr:=by
 have hk:=kHr hrI
 rw[ACH]at hk;refine Jk (AG ABl) zm [] _ AL hk.1 pHr hk.2 ?_
 intro ds h hp;refine Bq ?_
 simp only[An,Ba]at h;obtain⟨D1,_,rfl,h1,D2,_,rfl,h2,rfl⟩:=h;rw[show[D1,D2].flatten=D1++D2 by simp]at hp⊢
 have l1:D1.length=83:=GF h1
 have lf:∀k d,D1[k]? =some d→(D1++D2).getD k (.bool false)=d:=fun k d hd=>by
  rw[ACI,ACc (ACW.1 hd).1,hd];rfl
 have rf:∀k d,D2[k]? =some d→(D1++D2).getD (83+k) (.bool false)=d:=fun k d hd=>by
  rw[ACI,ACV (by omega),l1,show 83+k-83=k by omega,hd]
  rfl
 obtain⟨x3,g3,t3⟩:=BL (k:=3) (t:=.bool) h1 rfl;obtain⟨x80,g80,t80⟩:=BL (k:=80) (t:=.bool) h1 rfl;obtain⟨x82,g82,t82⟩:=BL (k:=82) h1 rfl;obtain⟨x87,g87,t87⟩:=BL (k:=4) h2 rfl;obtain⟨x90,g90,t90⟩:=BL (k:=7) (t:=.int .u64) h2 rfl;obtain⟨x155,g155,t155⟩:=BL (k:=72) (t:=tB) h2 rfl;obtain⟨a,rfl⟩:=t3.bool;obtain⟨b,rfl⟩:=t80.bool;obtain⟨dl,rfl,_⟩:=t82.list;obtain⟨rl,rfl,_⟩:=t87.list;obtain⟨ix,rfl,_⟩:=t90.int;obtain⟨pf,rfl,hB,_⟩:=t155.ints;have w82:=lf 82 _ g82
 have w87:=rf 4 _ g87
 have w155:=rf 72 _ g155
 have p1:=hp (lss (k64 1000) (.len (.v 5)),false) (by simp)
 have p2:=hp (Aj 82) (by simp)
 have p3:=hp (Aj 87) (by simp)
 have p4:=hp (Aj 155) (by simp)
 have p5:=hp (.app 165 [.v 87],true) (by simp)
 have e82:den (AA I (D1++D2)) (.v 82)=.list dl:=w82
 have e87:den (AA I (D1++D2)) (.v 87)=.list rl:=w87
 have e155:den (AA I (D1++D2)) (.v 155)=.list (bytesI pf):=w155
 rw[show (Aj 82).1=lss (k64 1000000) (.len (.v 82)) from rfl,AB (d_k .i64 1000000) (AF e82)]at p2;rw[show (Aj 87).1=lss (k64 1000000) (.len (.v 87)) from rfl,AB (d_k .i64 1000000) (AF e87)]at p3;rw[show (Aj 155).1=lss (k64 1000000) (.len (.v 155)) from rfl,AB (d_k .i64 1000000) (AY e155)]at p4;have p5:I 165 [den (AA I (D1++D2)) (.v 87)]=.bool true:=p5
 rw[e87,hI]at p5;have p5:DV.bool (smallR rl)=.bool true:=p5
 simp only[Aj,DV.bool.injEq,ACK,ACZ]at p2 p3 p4 p5;exact tn (lf 3 _ g3) (lf 80 _ g80) w82 w87 (rf 7 _ g90) w155 p1 (by omega) (by omega) hB (by omega) p5
def vars(a n:Nat):List SX:=(List.range n).map fun i=>.v (a+i)
def pd:Pln:=
 (.ask (.bin .lss (.len (.v 2)) (.ki .i64 (.ofNat 65)))
  (.done [[(.v 0),(.v 1),(.cut (.v 2) (.ki .i64 (.ofNat 0)) (.len (.v 2)))]])
  (.ask (.bin .lss (.ki .i64 (.ofNat 65)) (.len (.v 2)))
   (.done [[(.v 0),(.v 1),(.cut (.v 2) (.ki .i64 (.ofNat 0)) (.ki .i64 (.ofNat 65)))]])
   (.done [[(.v 0),(.v 1),(.cut (.v 2) (.ki .i64 (.ofNat 0)) (.len (.v 2)))]])))
theorem pe(I:Nat→List DV→DV)(ds:List DV)(a n:Nat)(h:a+n≤ds.length):(vars a n).map (den (AA I ds))=(ds.drop a).take n:=by
 unfold vars;rw[ADQ];refine List.ext_getElem (by simp;omega) fun i h1 h2=>?_
 simp only[List.getElem_map,List.getElem_range,List.getElem_take,List.getElem_drop,Function.comp,den,AA];have:a+i<ds.length:=by simp at h1;omega
 simp[ACI,ACL this]
def pg:Pln:=
 (.ask (.bin .lss (.len (.v 1)) (.ki .i64 (.ofNat 30)))
  (.done [[(.v 0),(.cut (.v 1) (.ki .i64 (.ofNat 0)) (.len (.v 1))),(.at (.app 32 [(.v 2),(.v 3),(.v 4)]) (.ki .i64 (.ofNat 0)) 0),(.at (.app 32 [(.v 2),(.v 3),(.v 4)]) (.ki .i64 (.ofNat 0)) 1),(.at (.app 32 [(.v 2),(.v 3),(.v 4)]) (.ki .i64 (.ofNat 0)) 2),(.at (.app 32 [(.v 5),(.v 6),(.v 7)]) (.ki .i64 (.ofNat 0)) 0),(.at (.app 32 [(.v 5),(.v 6),(.v 7)]) (.ki .i64 (.ofNat 0)) 1),(.at (.app 32 [(.v 5),(.v 6),(.v 7)]) (.ki .i64 (.ofNat 0)) 2),(.at (.app 32 [(.v 8),(.v 9),(.v 10)]) (.ki .i64 (.ofNat 0)) 0),(.at (.app 32 [(.v 8),(.v 9),(.v 10)]) (.ki .i64 (.ofNat 0)) 1),(.at (.app 32 [(.v 8),(.v 9),(.v 10)]) (.ki .i64 (.ofNat 0)) 2)]++vars 11 65])
  (.ask (.bin .lss (.ki .i64 (.ofNat 30)) (.len (.v 1)))
   (.done [[(.v 0),(.cut (.v 1) (.ki .i64 (.ofNat 0)) (.ki .i64 (.ofNat 30))),(.at (.app 32 [(.v 2),(.v 3),(.v 4)]) (.ki .i64 (.ofNat 0)) 0),(.at (.app 32 [(.v 2),(.v 3),(.v 4)]) (.ki .i64 (.ofNat 0)) 1),(.at (.app 32 [(.v 2),(.v 3),(.v 4)]) (.ki .i64 (.ofNat 0)) 2),(.at (.app 32 [(.v 5),(.v 6),(.v 7)]) (.ki .i64 (.ofNat 0)) 0),(.at (.app 32 [(.v 5),(.v 6),(.v 7)]) (.ki .i64 (.ofNat 0)) 1),(.at (.app 32 [(.v 5),(.v 6),(.v 7)]) (.ki .i64 (.ofNat 0)) 2),(.at (.app 32 [(.v 8),(.v 9),(.v 10)]) (.ki .i64 (.ofNat 0)) 0),(.at (.app 32 [(.v 8),(.v 9),(.v 10)]) (.ki .i64 (.ofNat 0)) 1),(.at (.app 32 [(.v 8),(.v 9),(.v 10)]) (.ki .i64 (.ofNat 0)) 2)]++vars 11 65])
   (.done [[(.v 0),(.cut (.v 1) (.ki .i64 (.ofNat 0)) (.len (.v 1))),(.at (.app 32 [(.v 2),(.v 3),(.v 4)]) (.ki .i64 (.ofNat 0)) 0),(.at (.app 32 [(.v 2),(.v 3),(.v 4)]) (.ki .i64 (.ofNat 0)) 1),(.at (.app 32 [(.v 2),(.v 3),(.v 4)]) (.ki .i64 (.ofNat 0)) 2),(.at (.app 32 [(.v 5),(.v 6),(.v 7)]) (.ki .i64 (.ofNat 0)) 0),(.at (.app 32 [(.v 5),(.v 6),(.v 7)]) (.ki .i64 (.ofNat 0)) 1),(.at (.app 32 [(.v 5),(.v 6),(.v 7)]) (.ki .i64 (.ofNat 0)) 2),(.at (.app 32 [(.v 8),(.v 9),(.v 10)]) (.ki .i64 (.ofNat 0)) 0),(.at (.app 32 [(.v 8),(.v 9),(.v 10)]) (.ki .i64 (.ofNat 0)) 1),(.at (.app 32 [(.v 8),(.v 9),(.v 10)]) (.ki .i64 (.ofNat 0)) 2)]++vars 11 65])))
theorem ABn:(hasB 40&&AJ [.agg tV] (Bc AE (AR []) [] [] 40 [.agg tV]) [] pd)=true:=by kernel_rfl
theorem iU{s:ByteArray}(n:Nat)(h:s.size≤n):KI n s=s:=by rw[KI,ADZ h];simp
theorem lq{s:ByteArray}(n:Nat)(h:n≤s.size):KI n s=s.extract 0 n:=by rw[KI,Nat.min_eq_right h]
theorem zn:Am Tryz.prog G 40 [.agg tV] [.agg tV] (fun _=>True) ib:=by
 have hk:=ABn
 rw[ACH]at hk;refine Av (AG (l:=[]) trivial) [] [] AL hk.1 pd hk.2 ?_
 intro ds h _;obtain⟨k,n,s,rfl,_⟩:=ij h;simp[pd,AK,den,AZ,Bm,FQ,AA,ib,GZ,sD];refine⟨fun a=>?_,fun a=>⟨fun b=>?_,fun b=>?_⟩⟩
 ·rw[iU _ (by omega)]
 ·rw[lq _ (by omega)]
 ·rw[iU _ (by omega)]
def xy:Ent:=eFn 40 [.agg tV] [.agg tV] [] 32
theorem tp:Ap Tryz.prog G AE [xy]:=⟨AP AI (pre_true zn) (fun _=>rfl) [] (by kernel_rfl),trivial⟩
theorem ABo:(hasB 19&&AJ [.agg tQry] (Bc AE (AR [xy]) [] [] 19 [.agg tQry]) [] pg)=true:=by kernel_rfl
theorem zo:Am Tryz.prog G 19 [.agg tQry] [.agg tQry] (fun _=>True) T4:=by
 have hk:=ABo
 rw[ACH]at hk;refine Av (AG tp) [] [] AL hk.1 pg hk.2 ?_
 intro ds h _;obtain⟨k,t,a,b,c,d,e,f,g,u,v,r,rfl,hr⟩:=cQ h;have hlen:r.length=65:=GF hr
 have hfl:[DV.int .i64 k::.str t::.int .i64 a::.int .i64 b::.str c::.int .i64 d::.int .i64 e::.str f::.int .i64 g::.int .i64 u::.str v::r].flatten=DV.int .i64 k::.str t::.int .i64 a::.int .i64 b::.str c::.int .i64 d::.int .i64 e::.str f::.int .i64 g::.int .i64 u::.str v::r:=by simp
 rw[hfl];have hv:=pe AE (DV.int .i64 k::.str t::.int .i64 a::.int .i64 b::.str c::.int .i64 d::.int .i64 e::.str f::.int .i64 g::.int .i64 u::.str v::r) 11 65 (by simp[hlen])
 have hr:((DV.int .i64 k::.str t::.int .i64 a::.int .i64 b::.str c::.int .i64 d::.int .i64 e::.str f::.int .i64 g::.int .i64 u::.str v::r).drop 11).take 65=r:=by
  show r.take 65=r
  rw[ACg (by omega)]
 rw[hr]at hv;have hF:T4 (DV.int .i64 k::.str t::.int .i64 a::.int .i64 b::.str c::.int .i64 d::.int .i64 e::.str f::.int .i64 g::.int .i64 u::.str v::r)=[.int .i64 k::.str (KI 30 t)::(GZ (.int .i64 a) (.int .i64 b) c++GZ (.int .i64 d) (.int .i64 e) f++GZ (.int .i64 g) (.int .i64 u) v++r)]:=rfl
 rw[hF];generalize hR:AA AE (DV.int .i64 k::.str t::.int .i64 a::.int .i64 b::.str c::.int .i64 d::.int .i64 e::.str f::.int .i64 g::.int .i64 u::.str v::r)=R at *;have hI:∀k ds,R.I k ds=AE k ds:=by rw[←hR];exact fun _ _=>rfl
 have h0:R.ρ 0=.int .i64 k:=by rw[←hR];rfl
 have h1:R.ρ 1=.str t:=by rw[←hR];rfl
 have h2:R.ρ 2=.int .i64 a:=by rw[←hR];rfl
 have h3:R.ρ 3=.int .i64 b:=by rw[←hR];rfl
 have h4:R.ρ 4=.str c:=by rw[←hR];rfl
 have h5:R.ρ 5=.int .i64 d:=by rw[←hR];rfl
 have h6:R.ρ 6=.int .i64 e:=by rw[←hR];rfl
 have h7:R.ρ 7=.str f:=by rw[←hR];rfl
 have h8:R.ρ 8=.int .i64 g:=by rw[←hR];rfl
 have h9:R.ρ 9=.int .i64 u:=by rw[←hR];rfl
 have h10:R.ρ 10=.str v:=by rw[←hR];rfl
 have i32:∀x y z,AE 32 [x,y,.str z]=.list [GZ x y z]:=fun _ _ _=>rfl
 clear hR hF hfl hr h hlen;simp only[pg,AK,den,den.denL,hI,h0,h1,h2,h3,h4,h5,h6,h7,h8,h9,h10,i32,GZ,atD,AZ,Bm,FQ,ACO,ACS,ACd,hv];simp;refine⟨fun a=>?_,fun a=>⟨fun b=>?_,fun b=>?_⟩⟩
 ·rw[iU _ (by omega)]
 ·rw[lq _ (by omega)]
 ·rw[iU _ (by omega)]
abbrev txC(e:SX):Pln:=.done [[.cut (.v 0) (k64 0) e]]
abbrev txM(n:Nat):Pln:=.ask (lss (.len (.v 0)) (k64 n)) (txC (.len (.v 0))) (.ask (lss (k64 n) (.len (.v 0))) (txC (k64 n)) (txC (.len (.v 0))))
def XU:Pln:=.ask (lss (k64 1000) (.len (.v 0)))
 (.ask (lss (.len (.v 0)) (k64 1025)) (txC (.len (.v 0))) (.ask (lss (k64 1025) (.len (.v 0))) (txC (k64 1025)) (txC (.len (.v 0)))))
 (txM 200)
theorem zp(I:Nat→List DV→DV):(hasB 18&&AJ [.one .str] (Bc I (AR []) [] [] 18 [.one .str]) [] XU)=true:=by kernel_rfl
def Ftx(ds:List DV):List (List DV):=evP (AA Ax ds) XU
theorem ABp:Am Tryz.prog G 18 [.one .str] [.one .str] (fun _=>True) Ftx:=by
 have hk:=zp Ax
 rw[ACH]at hk;refine Av (AG (l:=[]) trivial) [] [] AL hk.1 XU hk.2 ?_
 intro ds _ _;refine Bq ?_
 generalize AA Ax ds.flatten=R;have hm:∀n,C2 R (txM n):=fun n=>by
  obtain⟨b1,k1⟩:=EJ R (.len (.v 0)) (k64 n);obtain⟨b2,k2⟩:=EJ R (k64 n) (.len (.v 0));exact Ai k1 (fun _=>trivial) (fun _=>Ai k2 (fun _=>trivial) (fun _=>trivial))
 obtain⟨b,k⟩:=EJ R (k64 1000) (.len (.v 0));exact Ai k (fun _=>hm 1025) (fun _=>hm 200)
abbrev fRe:Nat:=20
abbrev lr:Code:=B0 fRe 0
abbrev iV(l:List AV):Blk:={t:=46,row:=false,sz:=1,n:=73,z:=[.dead],c:=Z0 ((List.range 73).zip l)}
def TRe:Tmpl:={tm:=[(1,.ptr 0 0),(2,.ptr 1 0),(3,.own 3 [tVs] (.v 0)),(18,.sy (.slice [tVs]) (.v 1)),(19,.sy tI (.v 3)),(20,.sy tI (.v 2))],ob:=[(0,iV (syN tRep 4)),(1,iV [])],ow:=[⟨3,122,[tVs],.v 0⟩],src:=[.own 0,.tm 18 (.slice [tVs]),.tm 20 tI,.tm 19 tI]++LZ 0 tRep 0,osrc:=[.tm 3 122 [tVs]]}
def YRe:Tmpl:={tm:=[(1,.ptr 0 0),(2,.ptr 1 0),(3,.sy (.slice [tVs]) (.v 73))],ob:=[(0,iV (syN tRep 0)),(1,iV [])],src:=LZ 0 tRep 0++[.tm 3 (.slice [tVs])],isrc:=[.tm 3 122 [tVs]]}
abbrev lu:List Nat:=(List.range 73).map (·+4)
def SRe:StdL:={n:=42,T:=TRe,tys:=[.slice [tVs],.slice [tVs],tI,tI]++tRep,pre:=[(eql (.len (.v 0)) (k64 0),true),(eql (.v 2) (k64 0),true),(eql (.v 3) (.len (.v 1)),true)],f:=172,keep:=lu,yes:=(.exit 0,YRe,1)}
abbrev reX:SX:=.at (.v 1) (.v 2) 0
abbrev reN(e:SX):RPln:=.next ([e,.v 1,add (.v 2) (k64 1)]++AH 3 74)
abbrev reA(e:SX):RPln:=.know (lss (k64 1000000) (.len (.cut reX (k64 0) e))) false (.know (lss (k64 1000000) (.len (.v 0))) false (reN (.cat (.v 0) (.row [.cut reX (k64 0) e]))))
def pRe:RPln:=
 .ask (lss (.v 2) (.v 3))
  (DT [(lss (.v 2) (k64 0),false),(lss (.v 2) (.len (.v 1)),true)]
   (.ask (lss (.v 2) (k64 9))
    (.ask (lss (.len reX) (k64 8)) (reA (.len reX)) (.ask (lss (k64 8) (.len reX)) (reA (k64 8)) (reA (.len reX))))
    (reN (.v 0))))
  (.exit true (ER lu++[.v 0]))
set_option maxRecDepth 100000
theorem kRe(I:Nat→List DV→DV):(SRe.ok&&(Au SRe pRe&&AW SRe.L (B1 I (AR []) [] [] lr) [] pRe))=true:=by kernel_rfl
def XV(l:List (List DV)):Prop:=∀r∈l,∃x,r.getD 0 (.bool false)=.list x
def Z5(l:List (List DV)):Prop:=∀r∈l,∃x,r.getD 0 (.bool false)=.list x∧x.length≤8
def IQ(ds:List DV):Prop:=∃(r l:List (List DV)) (i:Int),ds.getD 0 (.bool false)=.list r∧ds.getD 1 (.bool false)=.list l∧ds.getD 2 (.bool false)=.int .i64 i∧ds.getD 3 (.bool false)=.int .i64 l.length∧0≤i∧i≤l.length∧l.length≤maxLen∧(r.length:Int)≤i∧r.length≤9∧XV l∧Z5 r
def NK(ds:List DV):Nat:=(lD ds 1).length-(iD ds 2).toNat
def Re:List DV→Bool×List DV:=E4 Ax 73 pRe NK
theorem ABq:∀ds,IQ ds→CA IQ NK (AA Ax ds) ds pRe:=by
 rintro ds ⟨r,l,i,w0,w1,w2,w3,h0,h1,hml,h2,h3,hl,hr⟩;have hmx:maxLen≤9223372036854775807:=by unfold maxLen;omega
 have e0:den (AA Ax ds) (.v 0)=.list r:=w0
 have e1:den (AA Ax ds) (.v 1)=.list l:=w1
 have e2:den (AA Ax ds) (.v 2)=.int .i64 i:=w2
 have e3:den (AA Ax ds) (.v 3)=.int .i64 l.length:=w3
 generalize AA Ax ds=R at *;unfold pRe;refine D4 (AB e2 e3) (fun g=>?_) (fun g=>trivial)
 simp only[ACN]at g;have hi:i.toNat<l.length:=by omega
 obtain⟨x,q1⟩:=hl _ (AC7 hi);have dX:den R reX=.list x:=(Ab 0 e1 e2).trans (by rw[show l.getD i.toNat []=l[i.toNat] by rw[ACI,ACL hi];rfl];exact q1)
 have dN:=B6 e2 (d_k .i64 1) (show -9223372036854775808≤i+1 by omega) (show i+1≤9223372036854775807 by omega)
 have dL:=AF dX
 have nx:∀(e:SX) (r':List (List DV)),den R e=.list r'→(r'.length:Int)≤i+1→r'.length≤9→Z5 r'→CA IQ NK R ds (reN e):=by
  intro e r' he c1 c2 c3;have a1:lD (([e,.v 1,add (.v 2) (k64 1)]++AH 3 74).map (den R)) 1=l:=IP (by exact e1)
  have a2:iD (([e,.v 1,add (.v 2) (k64 1)]++AH 3 74).map (den R)) 2=i+1:=He (by exact dN)
  refine⟨⟨r',l,i+1,he,e1,dN,e3,by omega,by omega,hml,c1,c2,hl,c3⟩,?_⟩
  show (lD _ 1).length-(iD _ 2).toNat<(lD ds 1).length-(iD ds 2).toNat
  rw[a1,a2,IP w1,He w2];omega
 refine CO ((AB e2 (d_k .i64 0)).trans (congrArg DV.bool (ACR (by show ¬i<((0:Nat):Int);omega)))) (CO ((AB e2 (AF e1)).trans (congrArg DV.bool (ACb g))) ?_)
 refine D4 (AB e2 (d_k .i64 9)) (fun g9=>?_) (fun g9=>nx (.v 0) r e0 (by omega) h3 hr)
 simp only[ACN]at g9;have g9:i<((9:Nat):Int):=g9
 have ap:∀(e:SX) (n:Int),den R e=.int .i64 n→n.toNat≤8∨x.length≤8→CA IQ NK R ds (reA e):=by
  intro e n he hn;have dC:den R (.cut reX (k64 0) e)=.list (x.take n.toNat):=by
   rw[show den R (.cut reX (k64 0) e)=FQ (den R reX) (den R (k64 0)) (den R e) from rfl,dX,he];rfl
  have hc:(x.take n.toNat).length≤8:=by rw[ACh];omega
  refine CO ((AB (d_k .i64 1000000) (AF dC)).trans (congrArg DV.bool (ACR (by show ¬((1000000:Nat):Int)<((x.take n.toNat).length:Int);omega)))) (CO ((AB (d_k .i64 1000000) (AF e0)).trans (congrArg DV.bool (ACR (by show ¬((1000000:Nat):Int)<r.length;omega)))) ?_)
  have dA:den R (.cat (.v 0) (.row [.cut reX (k64 0) e]))=.list (r++[[.list (x.take n.toNat)]]):=by
   rw[show den R (.cat (.v 0) (.row [.cut reX (k64 0) e]))=Du (den R (.v 0)) (.list [[den R (.cut reX (k64 0) e)]]) from rfl,e0,dC];rfl
  refine nx _ _ dA (by rw[ACT];show ((r.length+1:Nat):Int)≤_;omega) (by rw[ACT];show r.length+1≤9;omega) ?_
  intro q hq;rcases ADR.1 hq with hq|hq
  ·exact hr q hq
  ·rw[ACs.1 hq];exact⟨_,rfl,hc⟩
 refine D4 (AB dL (d_k .i64 8)) (fun g8=>?_) (fun g8=>D4 (AB (d_k .i64 8) dL) (fun g7=>ap _ 8 (d_k .i64 8) (.inl (by decide))) (fun g7=>?_))
 ·simp only[ACN]at g8;exact ap _ _ dL (.inr (by have g8:(x.length:Int)<((8:Nat):Int):=g8;omega))
 ·simp only[ACK]at g7;exact ap _ _ dL (.inr (by have g7:¬((8:Nat):Int)<(x.length:Int):=g7;omega))
theorem xz{I:Nat→List DV→DV}(i3:I 172=fun ds=>.list (FL Re ds)):BJ Tryz.prog G I lr SRe.L:=by
 refine B5 (F:=Re) (Inv:=IQ) (μ:=NK) (AG (l:=[]) trivial) (sub:=[]) trivial (lps:=[]) AL (fun ds=>congrFun i3 ds) pRe (kRe I) ?_ (fun ds hi=>Fx (f:=[]) JX (by kernel_rfl) ABq hi)
 intro ds h hp;obtain⟨d0,g0,t0⟩:=BL (k:=0) h rfl;obtain⟨d1,g1,t1⟩:=BL (k:=1) h rfl;obtain⟨d2,g2,t2⟩:=BL (k:=2) h rfl;obtain⟨d3,g3,t3⟩:=BL (k:=3) h rfl;obtain⟨r,rfl,_⟩:=t0.list;obtain⟨l,rfl,hml,hrow⟩:=t1.list;obtain⟨i,rfl,_⟩:=t2.i64;obtain⟨n,rfl,_⟩:=t3.i64;have w0:ds.getD 0 (.bool false)=.list r:=by rw[ACI,g0];rfl
 have w1:ds.getD 1 (.bool false)=.list l:=by rw[ACI,g1];rfl
 have w2:ds.getD 2 (.bool false)=.int .i64 i:=by rw[ACI,g2];rfl
 have w3:ds.getD 3 (.bool false)=.int .i64 n:=by rw[ACI,g3];rfl
 have p1:=hp (eql (.len (.v 0)) (k64 0),true) (by simp[SRe])
 have p2:=hp (eql (.v 2) (k64 0),true) (by simp[SRe])
 have p3:=hp (eql (.v 3) (.len (.v 1)),true) (by simp[SRe])
 have e0:den (AA I ds) (.v 0)=.list r:=w0
 have e1:den (AA I ds) (.v 1)=.list l:=w1
 have e2:den (AA I ds) (.v 2)=.int .i64 i:=w2
 have e3:den (AA I ds) (.v 3)=.int .i64 n:=w3
 rw[AN (AF e0) (d_k .i64 0)]at p1;rw[AN e2 (d_k .i64 0)]at p2;rw[AN e3 (AF e1)]at p3;simp only[DV.bool.injEq,ACN,ACZ]at p1 p2 p3;have hr:r=[]:=ACi.1 (by omega)
 subst hr;refine⟨[],l,i,w0,w1,w2,by rw[w3,p3],by omega,by omega,hml,by show ((0:Nat):Int)≤i;omega,by show 0≤9;omega,fun q hq=>?_,fun q hq=>by cases hq⟩
 obtain⟨q1,q2⟩:=hrow q hq;obtain⟨x,rfl⟩:=ADi.1 (by simpa using q1:q.length=1)
 obtain⟨y,rfl,_⟩:=(q2 0 _ x rfl rfl).list;exact⟨y,rfl⟩
abbrev rpC(e:SX):SX:=.cut (.v 72) (k64 0) e
abbrev rpA(e:SX):SX:=.app 172 ([.emp,.v 4,k64 0,.len (.v 4)]++(AH 0 72++[rpC e]))
abbrev rpD(e:SX):Pln:=.know (lss (k64 1000000) (.len (rpC e))) false (.know (eql (.len .emp) (k64 0)) true (.know (eql (k64 0) (k64 0)) true (.know (eql (.len (.v 4)) (.len (.v 4))) true
 (.done [AH 0 4++(.at (rpA e) (k64 0) 1::(AH 5 67++[rpC e]))]))))
def pRp:Pln:=.ask (lss (.len (.v 72)) (k64 9000)) (rpD (.len (.v 72))) (.ask (lss (k64 9000) (.len (.v 72))) (rpD (k64 9000)) (rpD (.len (.v 72))))
set_option maxRecDepth 100000
theorem kRp(I:Nat→List DV→DV):(hasB fRe&&AJ [.agg tRep] (Bc I (AR []) [(5,SRe.L)] [] fRe [.agg tRep]) [] pRp)=true:=by kernel_rfl
def rpI:Nat→List DV→DV
 |172,ds=>.list (FL Re ds)
 |n,ds=>Ax n ds
def Frp(ds:List DV):List (List DV):=evP (AA rpI ds) pRp
theorem tq{D:List DV}{l:List (List DV)}{b:List Int}(w4:D.getD 4 (.bool false)=.list l)(w72:D.getD 72 (.bool false)=.list (bytesI b)):C2 (AA rpI D) pRp:=by
 have e4:den (AA rpI D) (.v 4)=.list l:=w4
 have e72:den (AA rpI D) (.v 72)=.list (bytesI b):=w72
 generalize AA rpI D=R at *;have dl:=AY e72
 have go:∀(e:SX) (n:Int),den R e=.int .i64 n→n.toNat≤9000∨b.length≤9000→C2 R (rpD e):=by
  intro e n he hn;have dC:den R (rpC e)=.list (bytesI (b.take n.toNat)):=by
   rw[HB e72 (d_k .i64 0) he];rfl
  have hc:(b.take n.toNat).length≤9000:=by rw[ACh];omega
  exact AU ((AB (d_k .i64 1000000) (AY dC)).trans (congrArg DV.bool (ACR (by show ¬((1000000:Nat):Int)<((b.take n.toNat).length:Int);omega)))) (AU rfl (AU rfl (AU ((AN (AF e4) (AF e4)).trans (congrArg DV.bool (ACb rfl))) trivial)))
 refine Ai (AB dl (d_k .i64 9000)) (fun g=>?_) (fun _=>Ai (AB (d_k .i64 9000) dl) (fun _=>go _ 9000 (d_k .i64 9000) (.inl (by decide))) (fun g=>?_))
 ·simp only[ACN]at g;exact go _ _ dl (.inr (by have g:(b.length:Int)<((9000:Nat):Int):=g;omega))
 ·simp only[ACK]at g;exact go _ _ dl (.inr (by have g:¬((9000:Nat):Int)<(b.length:Int):=g;omega))
theorem ABr:Am Tryz.prog G fRe [.agg tRep] [.agg tRep] (fun _=>True) Frp:=by
 have hk:=kRp rpI
 rw[ACH]at hk;refine Av (AG (l:=[]) trivial) [(5,SRe.L)] [] (Fw (by kernel_rfl) (xz rfl)) hk.1 pRp hk.2 ?_
 intro ds h _;refine Bq ?_
 simp only[An,Ba]at h;obtain⟨D,_,rfl,h1,rfl⟩:=h;rw[show[D].flatten=D by simp]
 obtain⟨x,g4,t4⟩:=BL (k:=4) h1 rfl;obtain⟨y,g72,t72⟩:=BL (k:=72) (t:=tB) h1 rfl;obtain⟨l,rfl,_⟩:=t4.list;obtain⟨b,rfl,_⟩:=t72.ints;exact tq (l:=l) (b:=b) (by rw[ACI,g4];rfl) (by rw[ACI,g72];rfl)
abbrev fSq:Nat:=7
abbrev tOp:List Ty:=[tI,.str]++tQry++tRep
abbrev eTx:Ent:=eFn 18 [.one .str] [.one .str] [] 180 []
abbrev eQy:Ent:=eFn 19 [.agg tQry] [.agg tQry] [] 181 []
abbrev eRp:Ent:=eFn 20 [.agg tRep] [.agg tRep] [] 182 []
abbrev eDo:Ent:=eFn 11 [.agg BN,.one .str] [.agg BN,.one tI] rh 183 []
abbrev eRd:Ent:=eFn 13 [.agg BN,.agg tQry] [.agg BN,.one tI] re 184 []
abbrev eHr:Ent:=eFn fHr [.agg BN,.agg tRep] [.agg BN,.agg tHd,.one tI] ri 185 []
abbrev sqK(n:Nat):SX:=eql (.bin .rem (.conv .u64 (.v 83)) (.ki .u64 (.ofNat 6))) (.ki .u64 (.ofNat n))
abbrev sqT:SX:=.at (.app 180 [.v 84]) (k64 0) 0
abbrev sqQ:SX:=.app 181 (AH 85 76)
abbrev sqR:SX:=.app 182 (AH 161 73)
abbrev ph:SX:=.app 183 (AH 0 83++[sqT])
abbrev pj:SX:=.app 184 (AH 0 83++Aq sqQ 0 76)
abbrev Iy:SX:=.app 185 (AH 0 83++Aq sqR 0 73)
abbrev iW:Pln:=.done [AH 0 83,zH]
abbrev XW(e:SX):Pln:=.ask (eql (.at e (k64 1) 0) (k64 0)) (.done [Aq e 0 83,zH]) iW
abbrev T1:SX:=.at sqR (k64 0) 4
abbrev x8:SX:=.at sqR (k64 0) 72
abbrev ABs:Pln:=.know (lss (k64 1000) (.len (.v 5))) false (.know (Aj 82).1 false (XW ph))
abbrev ABt:Pln:=.know (lss (k64 1000) (.len (.v 5))) false (.know (lss (k64 1000) (.len (.at sqQ (k64 0) 1))) false (.know (Aj 82).1 false (XW pj)))
abbrev ABu:Pln:=.know (lss (k64 1000) (.len (.v 5))) false (.know (Aj 82).1 false (.know (lss (k64 1000000) (.len T1)) false (.know (lss (k64 1000000) (.len x8)) false (.know (.app 165 [T1]) true
 (.ask (eql (.at Iy (k64 2) 0) (k64 0)) (.done [Aq Iy 0 83,atK Iy (k64 1) 0 152]) iW)))))
def pSq:Pln:=.ask (sqK 0) ABs (.ask (sqK 1) ABt (.ask (sqK 2) iW ABu))
set_option maxRecDepth 100000
theorem kSq(I:Nat→List DV→DV):(hasB fSq&&AJ [.agg BN,.agg tHd] (Bc I (AR [eTx,eQy,eRp,eDo,eRd,eHr]) [] [] fSq [.agg BN,.agg tOp]) [] pSq)=true:=by kernel_rfl
def CM(R:Rho)(Q:List (List DV)→Prop):Pln→Prop
 |.ask e t f=>∃b,den R e=.bool b∧(b=true→CM R Q t)∧(b=false→CM R Q f)
 |.know _ _ p=>CM R Q p
 |.done r=>Q (r.map (·.map (den R)))
 |.never=>Q []
theorem GY{R:Rho}{Q:List (List DV)→Prop}:∀{p:Pln},CM R Q p→Q (evP R p)
 |.ask e t f,h=>by
  obtain⟨b,h1,h2,h3⟩:=h;unfold evP;rw[h1];cases b with
  |true=>exact GY (h2 rfl)
  |false=>exact GY (h3 rfl)
 |.know e b p,h=>GY (p:=p) h
 |.done r,h=>h
 |.never,h=>h
theorem Bu{R:Rho}{Q:List (List DV)→Prop}{e:SX}{b:Bool}{t f:Pln}(h:den R e=.bool b)(ht:b=true→CM R Q t)(hf:b=false→CM R Q f):CM R Q (.ask e t f):=⟨b,h,ht,hf⟩
theorem BX{R:Rho}{Q:List (List DV)→Prop}{e:SX}{b:Bool}{p:Pln}(h:CM R Q p):CM R Q (.know e b p):=h
def RpQ(D:List DV)(Z:List (List DV)):Prop:=∃(N:List DV) (r:List (List DV)) (b:List Int),Z=[N]∧N.length=73∧(∀k,k<73→k≠4→k≠72→N.getD k (.bool false)=D.getD k (.bool false))∧N.getD 4 (.bool false)=.list r∧N.getD 72 (.bool false)=.list (bytesI b)∧Z5 r∧r.length≤9∧b.length≤9000
def XX(_:List DV)(o:Bool×List DV):Prop:=∃r,o.2=[.list r]∧Z5 r∧r.length≤9
theorem ABv:∀ds,IQ ds→Fy IQ NK XX 73 (AA Ax ds) ds pRe:=by
 rintro ds ⟨r,l,i,w0,w1,w2,w3,h0,h1,hml,h2,h3,hl,hr⟩;have hmx:maxLen≤9223372036854775807:=by unfold maxLen;omega
 have e0:den (AA Ax ds) (.v 0)=.list r:=w0
 have e1:den (AA Ax ds) (.v 1)=.list l:=w1
 have e2:den (AA Ax ds) (.v 2)=.int .i64 i:=w2
 have e3:den (AA Ax ds) (.v 3)=.int .i64 l.length:=w3
 generalize AA Ax ds=R at *;unfold pRe;refine Ri (AB e2 e3) (fun g=>?_) (fun g=>⟨r,congrArg (fun d=>[d]) e0,hr,h3⟩)
 simp only[ACN]at g;have hi:i.toNat<l.length:=by omega
 obtain⟨x,q1⟩:=hl _ (AC7 hi);have dX:den R reX=.list x:=(Ab 0 e1 e2).trans (by rw[show l.getD i.toNat []=l[i.toNat] by rw[ACI,ACL hi];rfl];exact q1)
 have dN:=B6 e2 (d_k .i64 1) (show -9223372036854775808≤i+1 by omega) (show i+1≤9223372036854775807 by omega)
 have dL:=AF dX
 have nx:∀(e:SX) (r':List (List DV)),den R e=.list r'→(r'.length:Int)≤i+1→r'.length≤9→Z5 r'→Fy IQ NK XX 73 R ds (reN e):=by
  intro e r' he c1 c2 c3;have a1:lD (([e,.v 1,add (.v 2) (k64 1)]++AH 3 74).map (den R)) 1=l:=IP (by exact e1)
  have a2:iD (([e,.v 1,add (.v 2) (k64 1)]++AH 3 74).map (den R)) 2=i+1:=He (by exact dN)
  refine⟨⟨r',l,i+1,he,e1,dN,e3,by omega,by omega,hml,c1,c2,hl,c3⟩,?_,fun _ h=>h⟩
  show (lD _ 1).length-(iD _ 2).toNat<(lD ds 1).length-(iD ds 2).toNat
  rw[a1,a2,IP w1,He w2];omega
 refine PE ((AB e2 (d_k .i64 0)).trans (congrArg DV.bool (ACR (by show ¬i<((0:Nat):Int);omega)))) (PE ((AB e2 (AF e1)).trans (congrArg DV.bool (ACb g))) ?_)
 refine Ri (AB e2 (d_k .i64 9)) (fun g9=>?_) (fun g9=>nx (.v 0) r e0 (by omega) h3 hr)
 simp only[ACN]at g9;have g9:i<((9:Nat):Int):=g9
 have ap:∀(e:SX) (n:Int),den R e=.int .i64 n→n.toNat≤8∨x.length≤8→Fy IQ NK XX 73 R ds (reA e):=by
  intro e n he hn;have dC:den R (.cut reX (k64 0) e)=.list (x.take n.toNat):=by
   rw[show den R (.cut reX (k64 0) e)=FQ (den R reX) (den R (k64 0)) (den R e) from rfl,dX,he];rfl
  have hc:(x.take n.toNat).length≤8:=by rw[ACh];omega
  refine PE ((AB (d_k .i64 1000000) (AF dC)).trans (congrArg DV.bool (ACR (by show ¬((1000000:Nat):Int)<((x.take n.toNat).length:Int);omega)))) (PE ((AB (d_k .i64 1000000) (AF e0)).trans (congrArg DV.bool (ACR (by show ¬((1000000:Nat):Int)<(r.length:Int);omega)))) ?_)
  have dA:den R (.cat (.v 0) (.row [.cut reX (k64 0) e]))=.list (r++[[.list (x.take n.toNat)]]):=by
   rw[show den R (.cat (.v 0) (.row [.cut reX (k64 0) e]))=Du (den R (.v 0)) (.list [[den R (.cut reX (k64 0) e)]]) from rfl,e0,dC];rfl
  refine nx _ _ dA (by rw[ACT];show ((r.length+1:Nat):Int)≤_;omega) (by rw[ACT];show r.length+1≤9;omega) ?_
  intro q hq;rcases ADR.1 hq with hq|hq
  ·exact hr q hq
  ·rw[ACs.1 hq];exact⟨_,rfl,hc⟩
 refine Ri (AB dL (d_k .i64 8)) (fun g8=>?_) (fun g8=>Ri (AB (d_k .i64 8) dL) (fun g7=>ap _ 8 (d_k .i64 8) (.inl (by decide))) (fun g7=>?_))
 ·simp only[ACN]at g8;exact ap _ _ dL (.inr (by have g8:(x.length:Int)<((8:Nat):Int):=g8;omega))
 ·simp only[ACK]at g7;exact ap _ _ dL (.inr (by have g7:¬((8:Nat):Int)<(x.length:Int):=g7;omega))
theorem x9{D:List DV}{l:List (List DV)}{b:List Int}(hlen:D.length=73)(hml:l.length≤maxLen)(he:XV l)(w4:D.getD 4 (.bool false)=.list l)(w72:D.getD 72 (.bool false)=.list (bytesI b)):RpQ D (Frp D):=by
 have e4:den (AA rpI D) (.v 4)=.list l:=w4
 have e72:den (AA rpI D) (.v 72)=.list (bytesI b):=w72
 have hρ:∀k,(AA rpI D).ρ k=D.getD k (.bool false):=fun _=>rfl
 have hI:(AA rpI D).I=rpI:=rfl
 refine GY (Q:=RpQ D) (R:=AA rpI D) (p:=pRp) ?_
 generalize AA rpI D=R at *;have dl:=AY e72
 have go:∀(e:SX) (n:Int),den R e=.int .i64 n→n.toNat≤9000∨b.length≤9000→CM R (RpQ D) (rpD e):=by
  intro e n he' hn;have dC:den R (rpC e)=.list (bytesI (b.take n.toNat)):=by
   rw[HB e72 (d_k .i64 0) he'];rfl
  have hc:(b.take n.toNat).length≤9000:=by rw[ACh];omega
  generalize hA:([.emp,.v 4,k64 0,.len (.v 4)]++(AH 0 72++[rpC e])).map (den R)=A;have hAg:IQ A:=by
   refine⟨[],l,0,by rw[←hA];rfl,by rw[←hA];exact e4,by rw[←hA];rfl,by rw[←hA];exact AF e4,by omega,by omega,hml,by show ((0:Nat):Int)≤0;omega,by show 0≤9;omega,he,fun q hq=>by cases hq⟩
  obtain⟨r,o1,o2,o3⟩:=Xa (Out:=XX) (kn:=73) ABv (NK A+1) A hAg (by omega)
  have dA:den R (.at (rpA e) (k64 0) 1)=.list r:=by
   have:den R (rpA e)=.list (FL Re A):=by
    rw[show rpA e=.app 172 ([.emp,.v 4,k64 0,.len (.v 4)]++(AH 0 72++[rpC e])) from rfl,AO,hA,hI];rfl
   refine (Ab 1 this (d_k .i64 0)).trans ?_
   have h2:(Re A).2=[.list r]:=o1
   show (([DV.bool (Re A).1]++(Re A).2).getD 1 (.bool false))=_
   rw[h2];rfl
  refine⟨_,r,b.take n.toNat,rfl,rfl,fun k hk h4 h72=>?_,dA,dC,o2,o3,hc⟩
  rw[ACI,ACw,←hρ k];rcases ADd k 4 with hc|hc
  ·rw[ACc (by rw[DA];exact hc)]
   have:(AH 0 4)[k]? =some (.v k):=by
    rcases k with _|_|_|_|k
    ·rfl
    ·rfl
    ·rfl
    ·rfl
    ·omega
   rw[this];rfl
  ·obtain⟨j,rfl⟩:∃j,k=5+j:=⟨k-5,by omega⟩
   rw[ACV (by rw[DA];omega),DA,show 5+j-4=j+1 by omega,AC0,ACc (by rw[DA];omega)]
   have h3:((AH 5 67)[j]?).map (den R)=some (R.ρ (5+j)):=by
    rw[←ACw,BP];exact Bo _ _ _ _ (by omega)
   rw[h3];rfl
 refine Bu (AB dl (d_k .i64 9000)) (fun g=>?_) (fun _=>Bu (AB (d_k .i64 9000) dl) (fun _=>go _ 9000 (d_k .i64 9000) (.inl (by decide))) (fun g=>?_))
 ·simp only[ACN]at g;exact go _ _ dl (.inr (by have g:(b.length:Int)<((9000:Nat):Int):=g;omega))
 ·simp only[ACK]at g;exact go _ _ dl (.inr (by have g:¬((9000:Nat):Int)<(b.length:Int):=g;omega))
def isK:Ty→DV→Prop
 |.int k,d=>∃z,d=.int k z
 |.bool,d=>∃b,d=.bool b
 |.str,d=>∃s,d=.str s
 |.slice _,d=>∃l,d=.list l
def KL:List Ty→List DV→Prop
 | [],ds=>ds=[]
 |t::ts,ds=>∃d r,ds=d::r∧isK t d∧KL ts r
theorem Ob{t:Ty}{d:DV}(h:Is t d):isK t d:=by
 cases t with
 |int k=>obtain⟨z,rfl,_⟩:=h.int;exact⟨z,rfl⟩
 |bool=>obtain⟨b,rfl⟩:=h.bool;exact⟨b,rfl⟩
 |str=>obtain⟨s,rfl,_⟩:=h.str;exact⟨s,rfl⟩
 |slice ts=>obtain⟨l,rfl,_⟩:=h.list;exact⟨l,rfl⟩
theorem qj:∀{ts:List Ty} {ds:List DV},IsL ts ds→KL ts ds
 | [],_,h=>h
 |_::_,_,⟨d,r,h1,h2,h3⟩=>⟨d,r,h1,Ob h2,qj h3⟩
theorem KE:∀{ts:List Ty} {ds:List DV},KL ts ds→ds.length=ts.length
 | [],ds,h=>by
  have h1:ds=[]:=h
  rw[h1];rfl
 |_::_,_,⟨_,_,h1,_,h3⟩=>by rw[h1,ACe,KE h3,ACe]
theorem IK:∀{ts:List Ty} {ds:List DV},KL ts ds→∀(k:Nat) (t:Ty),ts[k]? =some t→isK t (ds.getD k (.bool false))
 | [],_,_,k,t,g=>by simp at g
 |_::_,_,⟨_,_,h1,h2,h3⟩,0,t,g=>by
  subst h1;simp only[ACl,ACJ]at g;subst g;exact h2
 |_::ts,_,⟨_,r,h1,_,h3⟩,k+1,t,g=>by
  subst h1;exact IK h3 k t (by simpa using g)
theorem TB{ts us:List Ty}:∀{n i:Nat} {ds:List DV},KL ts ds→(∀j,j<n→ts[i+j]? =us[j]?)→us.length=n→KL us (rhoL (fun k=>ds.getD k (.bool false)) i n):=by
 induction us with
 |nil=>intro n i ds h g hl;subst hl;rfl
 |cons u us ih=>
  intro n i ds h g hl;obtain⟨m,rfl⟩:∃m,n=m+1:=⟨us.length,by rw[←hl];rfl⟩
  refine⟨_,_,rfl,IK h i u (by rw[←ADf i,g 0 (by omega)];rfl),ih h (fun j hj=>?_) (by simpa using hl)⟩
  have:=g (j+1) (by omega)
  rw[show i+1+j=i+(j+1) by omega,this]
  rfl
structure CliK (D:List DV) (n q:Int) (s:ByteArray) (a rd:Bool) (ld:Int) (l:List (List DV)):Prop where
 len:D.length=83
 w0:D.getD 0 (.bool false)=.int .i64 n
 w1:D.getD 1 (.bool false)=.int .u32 q
 w2:D.getD 2 (.bool false)=.str s
 w3:D.getD 3 (.bool false)=.bool a
 w80:D.getD 80 (.bool false)=.bool rd
 w81:D.getD 81 (.bool false)=.int .i64 ld
 w82:D.getD 82 (.bool false)=.list l
 rows:∀r∈l,KL tDig r
 qry:KL tQry (rhoL (fun k=>D.getD k (.bool false)) 4 76)
 q0:0≤q
 q1:q<4294967296
 tab:(sD D 5).size≤1000
theorem FE{D:List DV}{n q:Int}{s:ByteArray}{a rd:Bool}{ld:Int}{l:List (List DV)}(h:CliK D n q s a rd ld l):Bj D=(okC n ld a rd&&(Dc n q s a&&LM D rd)&&(decide (l.length≤16)&&CS l 0)):=by
 unfold Bj iD sD bD lD;rw[h.w0,h.w1,h.w2,h.w3,h.w80,h.w81,h.w82]
theorem ZD{I:Nat→List DV→DV}{ρ ρ':Nat→DV}:∀(ts:List Ty) (i:Nat),(∀j,j<ts.length→ρ (i+j)=ρ' (i+j))→den.denAll ⟨ρ,I⟩ (RC i ts)=den.denAll ⟨ρ',I⟩ (RC i ts)
 | [],_,_=>rfl
 |t::ts,i,h=>by
  have ih:=ZD (I:=I) (ρ:=ρ) (ρ':=ρ') ts (i+1) (fun j hj=>by rw[show i+1+j=i+(j+1) by omega];exact h (j+1) (by simpa using hj))
  have h0:ρ i=ρ' i:=h 0 (by simp)
  cases t<;>(unfold RC;simp only[den.denAll,den,h0,show Nat.succ i=i+1 from rfl,ih])
def qOf(D:List DV):List DV:=rhoL (fun k=>D.getD k (.bool false)) 4 76
theorem Oc{D E:List DV}(h:qOf D=qOf E)(j:Nat)(hj:j<76):D.getD (4+j) (.bool false)=E.getD (4+j) (.bool false):=by
 have h1:=Bo (fun k=>D.getD k (.bool false)) 76 4 j hj
 have h2:=Bo (fun k=>E.getD k (.bool false)) 76 4 j hj
 unfold qOf at h;rw[h,h2]at h1;exact (ADn h1).symm
theorem ZE{D E:List DV}(h:qOf D=qOf E):Kq D=Kq E:=ZD tQry 4 (fun j hj=>Oc h j hj)
theorem se{D E:List DV}(h:qOf D=qOf E):OY D=OY E:=congrArg LS h
theorem VF{D E:List DV}(h:qOf D=qOf E)(rd:Bool):LM D rd=LM E rd:=by
 unfold LM;rw[ZE h,se h]
theorem cells{D E:List DV}(h:D.length=83)(k:Nat)(hk:k<83):(D++E).getD k (.bool false)=D.getD k (.bool false):=by
 rw[ACI,ACc (by omega),←ACI]
theorem TC{D E:List DV}(h:D.length=83)(k:Nat):(D++E).getD (83+k) (.bool false)=E.getD k (.bool false):=by
 rw[ACI,ACV (by omega),h,show 83+k-83=k by omega,←ACI]
theorem JO{D:List DV}{ρ:Nat→DV}(h:D.length=83)(hρ:∀k,k<83→ρ k=D.getD k (.bool false)):rhoL ρ 0 83=D:=by
 rw[HM (ρ':=fun i=>D.getD i (.bool false)) (fun i hi=>by rw[ACk];exact hρ i hi)]
 rw[←h];exact E0 D _
theorem fh{D:List DV}(h:D.length=83):FO D=D:=JO h (fun _ _=>rfl)
theorem j9{R:Rho}{D:List DV}{n q:Int}{s:ByteArray}{a rd:Bool}{ld:Int}{l:List (List DV)}(h:CliK D n q s a rd ld l)(hI:R.I=Ax)(hρ:∀k,k<83→R.ρ k=D.getD k (.bool false)):den R rdF=.int .i64 (if Bj D then (if a||rd then 321 else 0) else 320):=by
 have hC:den R (.app 130 (AH 0 83))=.list [[.int .i64 (if Bj D then (if a||rd then 321 else 0) else 320)]]:=by
  rw[AO,BP,JO h.len hρ,hI];show DV.list (My D)=_
  unfold My bD;rw[fh h.len,h.w3,h.w80]
 exact (Ab 0 hC (d_k .i64 0)).trans rfl
theorem ql{R:Rho}{l:List (List DV)}(hI:R.I=Ax)(h:den R (.v 82)=.list l):den R clX=.list l:=by
 have:den R (.app 129 [.v 82])=.list [[.list l]]:=by
  rw[AO,hI];simp only[ACO,ACS,h];rfl
 exact (Ab 0 this (d_k .i64 0)).trans rfl
theorem qm{a rd:Bool}(g:decide ((if (a||rd)=true then (321:Int) else 0)=((Int.ofNat 0):Int))=true):a=false∧rd=false:=by
 cases a<;>cases rd<;>simp_all
theorem Od{p l r:List DV}(hp:p.length=4)(hl:l.length=76):qOf (p++(l++r))=l:=by
 have h1:=GC (.bool false) (.bool false) r l 4 p hp
 rw[hl]at h1;exact h1
def Oe(D:List DV)(n q:Int)(a rd:Bool)(l:List (List DV))(Z:List (List DV)):Prop:=
 ∃(N:List DV) (e:Int),Z=[N,[.int .i64 e]]∧(e=0→a=false∧rd=false∧∃q' s' a' rd' ld',CliK N n q' s' a' rd' ld' l∧Bj N=true∧q≤q')
theorem cE{D:List DV}{n q:Int}{a rd:Bool}{l:List (List DV)}{N:List DV}{e:Int}(h:e≠0):Oe D n q a rd l [N,[.int .i64 e]]:=⟨N,e,rfl,fun h'=>absurd h' h⟩
set_option maxHeartbeats 1000000 in
theorem vo{D:List DV}{n q:Int}{s:ByteArray}{a rd:Bool}{ld:Int}{l:List (List DV)}(h:CliK D n q s a rd ld l)(hk:Bj D=true)(t:ByteArray):Oe D n q a rd l (Fdo (D++[.str t])):=by
 have hρ:∀k,k<83→(AA Ax (D++[.str t])).ρ k=D.getD k (.bool false):=fun k hk=>cells h.len k hk
 have hI:(AA Ax (D++[.str t])).I=Ax:=rfl
 have e83:den (AA Ax (D++[.str t])) (.v 83)=.str t:=by
  have h1:=TC (E:=[DV.str t]) h.len 0
  exact h1
 unfold Fdo
 generalize AA Ax (D++[.str t])=R at *;apply GY
 have e0:den R (.v 0)=.int .i64 n:=(hρ 0 (by omega)).trans h.w0
 have e1:den R (.v 1)=.int .u32 q:=(hρ 1 (by omega)).trans h.w1
 have e82:den R (.v 82)=.list l:=(hρ 82 (by omega)).trans h.w82
 have dF:=j9 h hI hρ
 rw[if_pos hk]at dF;have dC:=ql hI e82
 have dS:den R doS=.int .u32 (if q+1=4294967296 then 0 else q+1):=by
  rw[show den R doS=AZ .add (den R (.v 1)) (.int .u32 1) from rfl,e1];refine congrArg (DV.int .u32) ?_
  have q0:=h.q0
  have q1:=h.q1
  rw[IntKind.wrap_u32];split<;>omega
 have dl83:den R (.len (.v 83))=.int .i64 t.size:=by
  simp only[den]at e83⊢;rw[e83];rfl
 have bad:∀{x:SX} {e:Int},den R x=.int .i64 e→e≠0→CM R (Oe D n q a rd l) (.done [GI (k64 0),[x]]):=fun hx he=>by
  show Oe D n q a rd l [_,[den R _]]
  rw[hx];exact cE he
 unfold pDo;refine BX (BX (Bu (AN dF (d_k .i64 0)) (fun g=>?_) (fun g=>bad dF (by simpa using g))))
 obtain⟨ga,gr⟩:=qm g;refine Bu (AB e0 (d_k .i64 1)) (fun _=>bad (d_k .i64 270) (by decide)) (fun g1=>Bu (AB (d_k .i64 3) e0) (fun _=>bad (d_k .i64 270) (by decide)) (fun g2=>Bu (AB (d_k .i64 1019) dl83) (fun _=>bad (d_k .i64 270) (by decide)) (fun g3=>Bu (AN dS (d_k .u32 0)) (fun _=>bad (d_k .i64 6) (by decide)) (fun g4=>?_))))
 simp only[ACK]at g1 g2 g3 g4;have g1:¬n<((1:Nat):Int):=g1
 have g2:¬((3:Nat):Int)<n:=g2
 have g3:¬((1019:Nat):Int)<(t.size:Int):=g3
 have q0:=h.q0
 have q1:=h.q1
 have hne:¬q+1=4294967296:=fun hc=>g4 (by rw[if_pos hc];rfl)
 rw[if_neg hne]at dS;generalize hN:([.v 0,doS,.v 83,.kb true]++(AH 4 78++[clX])).map (den R)=N;have hq:qOf N=qOf D:=by
  have h1:N=[den R (.v 0),den R doS,den R (.v 83),.bool true]++((AH 4 76).map (den R)++[den R (.v 80),den R (.v 81),den R clX]):=by
   rw[←hN];rfl
  rw[h1,Od rfl (by rw[ACX,DA]),BP]
  exact HM fun i hi=>hρ _ (by omega)
 have hK:CliK N n (q+1) t true false ld l:=
  {len:=by rw[←hN];rfl
   w0:=by rw[←hN];exact e0
   w1:=by rw[←hN];exact dS
   w2:=by rw[←hN];exact e83
   w3:=by rw[←hN];rfl
   w80:=by rw[←hN];exact (hρ 80 (by omega)).trans (h.w80.trans (by rw[gr]))
   w81:=by rw[←hN];exact (hρ 81 (by omega)).trans h.w81
   w82:=by rw[←hN];exact dC
   rows:=h.rows
   qry:=by have:=h.qry;rw[show rhoL (fun k=>D.getD k (.bool false)) 4 76=qOf D from rfl,←hq]at this;exact this
   q0:=by omega
   q1:=by omega
   tab:=by
    have h5:N.getD 5 (.bool false)=D.getD 5 (.bool false):=Oc hq 1 (by omega)
    have:=h.tab
    unfold sD at this⊢;rw[h5];exact this}
 have hok:=hk
 rw[FE h]at hok;refine⟨N,0,by rw[←hN];rfl,fun _=>⟨ga,gr,q+1,t,true,false,ld,hK,?_,by omega⟩⟩
 rw[FE hK,VF hq];rw[ga,gr]at hok;simp only[okC,Dc,EB,ACH,ACN,AC3,if_false,if_true]at hok⊢;obtain⟨⟨⟨⟨o1,o2⟩,o3⟩,o4,o5⟩,o6⟩:=hok;exact⟨⟨⟨⟨⟨by omega,by omega⟩,o2⟩,rfl⟩,⟨⟨⟨by omega,by omega⟩,by omega⟩,by omega⟩,o5⟩,o6⟩
set_option maxHeartbeats 1000000 in
theorem vp{D Q:List DV}{n q:Int}{s:ByteArray}{a rd:Bool}{ld:Int}{l:List (List DV)}(h:CliK D n q s a rd ld l)(hk:Bj D=true)(hQ:KL tQry Q)(ht:(sD Q 1).size≤1000):Oe D n q a rd l (Frd (D++Q)):=by
 have hρ:∀k,k<83→(AA Ax (D++Q)).ρ k=D.getD k (.bool false):=fun k hk=>cells h.len k hk
 have hρ2:∀k,(AA Ax (D++Q)).ρ (83+k)=Q.getD k (.bool false):=fun k=>TC h.len k
 have hI:(AA Ax (D++Q)).I=Ax:=rfl
 unfold Frd;generalize AA Ax (D++Q)=R at *;apply GY
 have e82:den R (.v 82)=.list l:=(hρ 82 (by omega)).trans h.w82
 have dF:=j9 h hI hρ
 rw[if_pos hk]at dF;have dC:=ql hI e82
 have hlQ:Q.length=76:=KE hQ
 have hQr:rhoL R.ρ 83 76=Q:=by
  have h1:rhoL R.ρ 83 76=rhoL (fun k=>Q.getD k (.bool false)) 0 76:=by
   refine ADh fun i=>?_
   by_cases hi:i<76
   ·rw[Bo _ _ _ _ hi,Bo _ _ _ _ hi,hρ2 i,ACk]
   ·rw[AC8 (by rw[CH];omega),AC8 (by rw[CH];omega)]
  rw[h1,←hlQ];exact E0 Q _
 have dK:den R XT=.int .i64 (if LS Q then 0 else 300):=by
  have hC:den R (.app 30 (AH 83 76))=.list [[.int .i64 (if LS Q then 0 else 300)]]:=by
   rw[AO,BP,hQr,hI];rfl
  exact (Ab 0 hC (d_k .i64 0)).trans rfl
 have bad:∀{x:SX} {e:Int},den R x=.int .i64 e→e≠0→CM R (Oe D n q a rd l) (.done [GI (k64 0),[x]]):=fun hx he=>by
  show Oe D n q a rd l [_,[den R _]]
  rw[hx];exact cE he
 unfold pRd;refine BX (Bu (AN dF (d_k .i64 0)) (fun g=>?_) (fun g=>bad dF (by simpa using g)))
 obtain⟨ga,gr⟩:=qm g;refine BX (Bu (AN dK (d_k .i64 0)) (fun g1=>BX ?_) (fun g1=>bad dK (by simpa using g1)))
 have hqry:LS Q=true:=by
  cases hc:LS Q with
  |true=>rfl
  |false=>rw[hc]at g1;simp at g1
 generalize hN:(AH 0 4++(AH 83 76++[.kb true,.v 81,clX])).map (den R)=N;have hq:qOf N=Q:=by
  rw[←hN,←hQr];rfl
 have hK:CliK N n q s a true ld l:=
  {len:=by rw[←hN];rfl
   w0:=by rw[←hN];exact (hρ 0 (by omega)).trans h.w0
   w1:=by rw[←hN];exact (hρ 1 (by omega)).trans h.w1
   w2:=by rw[←hN];exact (hρ 2 (by omega)).trans h.w2
   w3:=by rw[←hN];exact (hρ 3 (by omega)).trans h.w3
   w80:=by rw[←hN];rfl
   w81:=by rw[←hN];exact (hρ 81 (by omega)).trans h.w81
   w82:=by rw[←hN];exact dC
   rows:=h.rows
   qry:=by show KL tQry (qOf N);rw[hq];exact hQ
   q0:=h.q0
   q1:=h.q1
   tab:=by
    have h5:N.getD 5 (.bool false)=Q.getD 1 (.bool false):=by
     rw[←hN];exact hρ2 1
    unfold sD at ht⊢;rw[h5];exact ht}
 have hok:=hk
 rw[FE h]at hok;refine⟨N,0,by rw[←hN];rfl,fun _=>⟨ga,gr,q,s,a,true,ld,hK,?_,by omega⟩⟩
 rw[FE hK];have hr:LM N true=true:=by
  show LS (qOf N)=true
  rw[hq];exact hqry
 rw[hr];rw[ga,gr]at hok;rw[ga];simp only[okC,Dc,ACH,ACN,AC3,if_false]at hok⊢;obtain⟨⟨⟨⟨o1,o2⟩,o3⟩,o4,o5⟩,o6⟩:=hok;exact⟨⟨⟨⟨o1,o2⟩,rfl⟩,o4,trivial⟩,o6⟩
def Gg(D N H:List DV)(n q:Int)(s:ByteArray)(a rd:Bool)(l:List (List DV)):Prop:=
 ∃q' s' a' rd' ld' l',CliK N n q' s' a' rd' ld' l'∧Bj N=true∧q≤q'∧JN l l'∧
  ((H.getD 0 (.bool false)=.bool false∧H.getD 1 (.bool false)=.bool false∧((a||rd)=true→a'=a∧rd'=rd∧q'=q∧s'=s∧qOf N=qOf D))∨
   (H.getD 0 (.bool false)=.bool true∧H.getD 1 (.bool false)=.bool false∧a=true∧H.getD 3 (.bool false)=.int .i64 n∧H.getD 4 (.bool false)=.int .u32 q∧H.getD 5 (.bool false)=.str s∧q'=q∧a'=false∧rd'=false)∨
   (H.getD 0 (.bool false)=.bool false∧H.getD 1 (.bool false)=.bool true∧rd=true∧rhoL (fun k=>H.getD k (.bool false)) 10 76=qOf D∧a'=false∧rd'=false))
def Kt(D:List DV)(n q:Int)(s:ByteArray)(a rd:Bool)(l:List (List DV))(Z:List (List DV)):Prop:=∃N H,Z=[N,H,[.int .i64 0]]∧Gg D N H n q s a rd l
theorem Ph{D:List DV}{n q:Int}{s:ByteArray}{a rd:Bool}{ld:Int}{l:List (List DV)}(h:CliK D n q s a rd ld l)(hk:Bj D=true):Asc l∧l.length≤16:=by
 rw[FE h]at hk;simp only[ACH,ACN]at hk;exact⟨vl hk.2.2,hk.2.1⟩
theorem WS{D H:List DV}{n q:Int}{s:ByteArray}{a rd:Bool}{ld:Int}{l:List (List DV)}(h:CliK D n q s a rd ld l)(hk:Bj D=true)(h0:H.getD 0 (.bool false)=.bool false)(h1:H.getD 1 (.bool false)=.bool false):Gg D D H n q s a rd l:=
 ⟨q,s,a,rd,ld,l,h,hk,Int.le_refl _,HV (Ph h hk).1,.inl ⟨h0,h1,fun _=>⟨rfl,rfl,rfl,rfl,rfl⟩⟩⟩
theorem cF{N:List DV}(h:qOf N=zD tQry):Kq N=true:=by
 rw[ZE (E:=[.bool false,.bool false,.bool false,.bool false]++zD tQry) (by rw[h];kernel_rfl)]
 kernel_rfl
theorem Of{N:List DV}{s:ByteArray}(h:N.getD 5 (.bool false)=.str s):sD N 5=s:=by
 unfold sD;rw[h]
theorem si{D N:List DV}{n q:Int}{s:ByteArray}{a rd:Bool}{ld:Int}{l l':List (List DV)}(h:CliK D n q s a rd ld l)(hk:Bj D=true)(hr:rd=true)(hl:N.length=83)
  (w0:N.getD 0 (.bool false)=.int .i64 n) (w1:N.getD 1 (.bool false)=.int .u32 q) (w2:N.getD 2 (.bool false)=.str s) (w3:N.getD 3 (.bool false)=.bool a) (w80:N.getD 80 (.bool false)=.bool false) (w81:N.getD 81 (.bool false)=.int .i64 ld) (w82:N.getD 82 (.bool false)=.list l')
  (hq:qOf N=zD tQry) (hrow:∀r∈l',KL tDig r) (hA:Asc l') (hn:l'.length≤16):CliK N n q s a false ld l'∧Bj N=true∧a=false:=by
 have h5:N.getD 5 (.bool false)=.str (AS #[]):=by
  have:=Oc (D:=N) (E:=[.bool false,.bool false,.bool false,.bool false]++zD tQry) (by rw[hq];kernel_rfl) 1 (by omega)
  rw[show 4+1=5 from rfl]at this;rw[this];rfl
 have hK:CliK N n q s a false ld l':=
  {len:=hl,w0:=w0,w1:=w1,w2:=w2,w3:=w3,w80:=w80,w81:=w81,w82:=w82,rows:=hrow
   qry:=by show KL tQry (qOf N);rw[hq];repeat (first|exact rfl|refine⟨_,_,rfl,⟨_,rfl⟩,?_⟩)
   q0:=h.q0,q1:=h.q1,tab:=by rw[Of h5];decide}
 have hok:=hk
 rw[FE h]at hok;subst hr;simp only[okC,ACH,ACN,AEc]at hok;obtain⟨⟨⟨⟨o1,o2⟩,o3⟩,o4,o5⟩,o6⟩:=hok;have ha:a=false:=by cases a<;>simp_all
 refine⟨hK,?_,ha⟩
 rw[FE hK,show LM N false=Kq N from rfl,cF hq,vm hA,o4];subst ha;simp only[okC,ACH,ACN];exact⟨⟨⟨⟨o1,o2⟩,rfl⟩,trivial,trivial⟩,hn,trivial⟩
theorem oC(R:Rho)(A:List SX)(e:SX):(A++[e]).map (den R)=A.map (den R)++[den R e]:=by rw[ACd];rfl
set_option maxHeartbeats 1000000 in
theorem vq{D P:List DV}{n q:Int}{s:ByteArray}{a rd:Bool}{ld:Int}{l:List (List DV)}(h:CliK D n q s a rd ld l)(hk:Bj D=true)(hP:KL tRep P):Kt D n q s a rd l (Fhr (D++P)):=by
 have hρ:∀k,k<83→(AA hrI (D++P)).ρ k=D.getD k (.bool false):=fun k hk=>cells h.len k hk
 have hρ2:∀k,(AA hrI (D++P)).ρ (83+k)=P.getD k (.bool false):=fun k=>TC h.len k
 have hI:(AA hrI (D++P)).I=hrI:=rfl
 unfold Fhr;generalize AA hrI (D++P)=R at *;apply GY
 have e0:den R (.v 0)=.int .i64 n:=(hρ 0 (by omega)).trans h.w0
 have e1:den R (.v 1)=.int .u32 q:=(hρ 1 (by omega)).trans h.w1
 have e2:den R (.v 2)=.str s:=(hρ 2 (by omega)).trans h.w2
 have e3:den R (.v 3)=.bool a:=(hρ 3 (by omega)).trans h.w3
 have e80:den R (.v 80)=.bool rd:=(hρ 80 (by omega)).trans h.w80
 have e81:den R (.v 81)=.int .i64 ld:=(hρ 81 (by omega)).trans h.w81
 have e82:den R (.v 82)=.list l:=(hρ 82 (by omega)).trans h.w82
 obtain⟨z89,p89⟩:=IK hP 6 tI rfl;have e89:den R (.v 89)=.int .i64 z89:=(hρ2 6).trans p89
 have hr90:KL tDig ((AH 90 65).map (den R)):=by
  have h1:=TB (us:=tDig) (n:=65) (i:=7) hP (fun j hj=>by
   have h1:tRep=[tI,.int .u32,tI,tI,.slice [tVs],tI,tI]++(tDig++[tB]):=rfl
   have h2:tDig.length=65:=rfl
   rw[h1,ACV (by show 7≤7+j;omega),ACc (by rw[h2];show 7+j-7<65;omega)]
   show tDig[7+j-7]? =_
   rw[show 7+j-7=j by omega]) rfl
  have h2:rhoL R.ρ 90 65=rhoL (fun k=>P.getD k (.bool false)) 7 65:=by
   refine ADh fun i=>?_
   by_cases hi:i<65
   ·rw[Bo _ _ _ _ hi,Bo _ _ _ _ hi,show 90+i=83+(7+i) by omega,hρ2]
   ·rw[AC8 (by rw[CH];omega),AC8 (by rw[CH];omega)]
  rw[BP,h2];exact h1
 generalize hrow:(AH 90 65).map (den R)=row at hr90;obtain⟨ix,rest,rowE,⟨ix',rfl⟩,_⟩:=id hr90;have e90:den R (.v 90)=.int .u64 ix':=by
  have:den R (.v 90)::(AH 91 64).map (den R)=row:=hrow
  rw[rowE]at this;exact (List.cons.inj this).1
 have hix:iD row 0=ix':=by rw[rowE];rfl
 have dCl:den R clX=.list l:=by
  have:den R (.app 129 [.v 82])=.list [[.list l]]:=by
   rw[AO,hI];simp only[ACO,ACS,e82];rfl
  exact (Ab 0 this (d_k .i64 0)).trans rfl
 have dCk:den R iP=.int .i64 0:=by
  have hC:den R (.app 126 (AH 0 83))=.list [[.int .i64 0]]:=by
   rw[AO,BP,JO h.len hρ,hI];show DV.list (KB D)=_
   unfold KB;rw[if_pos hk]
  exact (Ab 0 hC (d_k .i64 0)).trans rfl
 have dFd:den R fdA=.list [[.int .i64 (AQ l ix')],[.bool (C1 l ix' (AQ l ix'))]]:=by
  rw[show fdA=.app 125 [clX,.v 90] from rfl,AO,hI];simp only[ACO,ACS,dCl,e90];rfl
 have d0:den R fd0=.int .i64 (AQ l ix'):=(Ab 0 dFd (d_k .i64 0)).trans rfl
 have d1:den R (.at fdA (k64 1) 0)=.bool (C1 l ix' (AQ l ix')):=(Ab 0 dFd (d_k .i64 1)).trans rfl
 have hD:rhoL R.ρ 0 82++[.list l]=D:=by
  have h1:=JO h.len hρ
  have h2:rhoL R.ρ 0 83=rhoL R.ρ 0 82++[R.ρ 82]:=rfl
  rw[h2,show R.ρ 82=.list l from e82]at h1;exact h1
 obtain⟨hAsc,hLen⟩:=Ph h hk;have hok:=hk
 rw[FE h]at hok;have hqD:rhoL R.ρ 4 76=qOf D:=HM fun i hi=>hρ _ (by omega)
 have hBack:CM R (Kt D n q s a rd l) KU:=by
  refine⟨_,_,rfl,?_⟩
  show Gg D (List.map (den R) _) (List.map (den R) _) n q s a rd l
  have hN:(AH 0 82++[clX]).map (den R)=D:=by rw[oC,BP,dCl,hD]
  rw[hN];exact WS h hk rfl rfl
 have hLead:¬z89<0→¬5<z89→CM R (Kt D n q s a rd l) ln:=by
  intro c1 c2;refine⟨_,_,rfl,?_⟩
  show Gg D (List.map (den R) _) (List.map (den R) _) n q s a rd l
  generalize hN:(AH 0 81++[.v 89,clX]).map (den R)=N;have hq:qOf N=qOf D:=by
   have h1:N=(AH 0 4).map (den R)++((AH 4 76).map (den R)++[den R (.v 80),den R (.v 89),den R clX]):=by
    rw[←hN];rfl
   rw[h1,Od (by rw[ACX,DA]) (by rw[ACX,DA]),BP,hqD]
  have hK:CliK N n q s a rd z89 l:=
   {len:=by rw[←hN];rfl
    w0:=by rw[←hN];exact e0
    w1:=by rw[←hN];exact e1
    w2:=by rw[←hN];exact e2
    w3:=by rw[←hN];exact e3
    w80:=by rw[←hN];exact e80
    w81:=by rw[←hN];exact e89
    w82:=by rw[←hN];exact dCl
    rows:=h.rows
    qry:=by show KL tQry (qOf N);rw[hq];exact h.qry
    q0:=h.q0
    q1:=h.q1
    tab:=by
     have h5:N.getD 5 (.bool false)=D.getD 5 (.bool false):=Oc hq 1 (by omega)
     have:=h.tab
     unfold sD at this⊢;rw[h5];exact this}
  refine⟨q,s,a,rd,z89,l,hK,?_,Int.le_refl _,HV hAsc,.inl ⟨rfl,rfl,fun _=>⟨rfl,rfl,rfl,rfl,hq⟩⟩⟩
  rw[FE hK,VF hq];simp only[okC,ACH,ACN]at hok⊢;obtain⟨⟨⟨⟨o1,o2⟩,o3⟩,o4⟩,o6⟩:=hok;exact⟨⟨⟨⟨o1,⟨by omega,by omega⟩⟩,o3⟩,o4⟩,o6⟩
 have hDone:a=true→CM R (Kt D n q s a rd l) Z4:=by
  intro ga;refine BX (BX (BX (BX (BX ⟨_,_,rfl,?_⟩))))
  show Gg D (List.map (den R) _) (List.map (den R) _) n q s a rd l
  generalize hN:List.map (den R) ([SX.v 0,SX.v 1,SX.ks (AS #[]),SX.kb false]++(AH 4 78++[clX]))=N;have gr:rd=false:=by
   simp only[okC,ACH]at hok;cases rd<;>simp_all
  have hq:qOf N=qOf D:=by
   have h1:N=[den R (.v 0),den R (.v 1),.str (AS #[]),.bool false]++((AH 4 76).map (den R)++[den R (.v 80),den R (.v 81),den R clX]):=by
    rw[←hN];rfl
   rw[h1,Od rfl (by rw[ACX,DA]),BP,hqD]
  have hK:CliK N n q (AS #[]) false rd ld l:=
   {len:=by rw[←hN];rfl
    w0:=by rw[←hN];exact e0
    w1:=by rw[←hN];exact e1
    w2:=by rw[←hN];rfl
    w3:=by rw[←hN];rfl
    w80:=by rw[←hN];exact e80
    w81:=by rw[←hN];exact e81
    w82:=by rw[←hN];exact dCl
    rows:=h.rows
    qry:=by show KL tQry (qOf N);rw[hq];exact h.qry
    q0:=h.q0
    q1:=h.q1
    tab:=by
     have h5:N.getD 5 (.bool false)=D.getD 5 (.bool false):=Oc hq 1 (by omega)
     have:=h.tab
     unfold sD at this⊢;rw[h5];exact this}
  refine⟨q,AS #[],false,rd,ld,l,hK,?_,Int.le_refl _,HV hAsc,.inr (.inl ⟨rfl,rfl,ga,e0,e1,e2,rfl,rfl,gr⟩)⟩
  rw[FE hK,VF hq];subst ga gr;simp only[okC,ACH,ACN]at hok⊢;obtain⟨⟨⟨⟨o1,o2⟩,o3⟩,o4,o5⟩,o6⟩:=hok;exact⟨⟨⟨⟨o1,o2⟩,rfl⟩,rfl,o5⟩,o6⟩
 have hRead:rd=true→∀(dg er:SX) (dig:List SX) (rows:SX) (l':List (List DV)),den R dg=.list l'→JN l l'→l'.length≤16→(∀r∈l',KL tDig r)→CM R (Kt D n q s a rd l) (T0 dg er dig rows):=by
  intro gr dg er dig rows l' hdg hok' hlen' hrows';refine⟨_,_,rfl,?_⟩
  show Gg D (List.map (den R) _) (List.map (den R) _) n q s a rd l
  generalize hN:(AH 0 4++(zX tQry++[.kb false,.v 81,dg])).map (den R)=N;have hq:qOf N=zD tQry:=by
   have h1:N=(AH 0 4).map (den R)++((zX tQry).map (den R)++[den R (.kb false),den R (.v 81),den R dg]):=by
    rw[←hN,ACd,ACd];rfl
   rw[h1,Od (by rw[ACX,DA]) (by rw[Ih];rfl),Ih]
  obtain⟨hK,hok2,ga⟩:=si (N:=N) (l':=l') h hk gr (by rw[←hN];rfl) (by rw[←hN];exact e0) (by rw[←hN];exact e1) (by rw[←hN];exact e2) (by rw[←hN];exact e3) (by rw[←hN];rfl) (by rw[←hN];exact e81) (by rw[←hN];exact hdg) hq hrows' hok'.1 hlen'
  refine⟨q,s,a,false,ld,l',hK,hok2,Int.le_refl _,hok',.inr (.inr ⟨rfl,rfl,gr,?_,ga,rfl⟩)⟩
  have h2:([.kb false,.kb true,er]++(zX tTx++(Z3++(AH 4 76++(dig++[rows]))))).map (den R)=(([.kb false,.kb true,er]++(zX tTx++Z3)).map (den R))++((AH 4 76).map (den R)++(dig++[rows]).map (den R)):=by
   simp only[ACd,ACy]
  rw[h2];have h3:=GC (.bool false) (.bool false) ((dig++[rows]).map (den R)) ((AH 4 76).map (den R)) 10 (([.kb false,.kb true,er]++(zX tTx++Z3)).map (den R)) rfl
  rw[show ((AH 4 76).map (den R)).length=76 by rw[ACX,DA]]at h3
  rw[h3,BP,hqD]
 obtain⟨b2,k2⟩:=Bn R (.v 84) (.ki .u32 (.ofNat 0));obtain⟨b3,k3⟩:=Bn R (.v 83) (k64 191);obtain⟨b6,k6⟩:=Bn R (.v 83) (k64 0);obtain⟨b7,k7⟩:=Bn R (.v 84) (.v 1);obtain⟨b8,k8⟩:=Bn R dcE (k64 0);obtain⟨b9,k9⟩:=Bn R (.at vyA (k64 1) 0) (k64 0);obtain⟨b10,k10⟩:=KW R (eqW clX fd0 90 0 65);have hOwn:a=true→CM R (Kt D n q s a rd l) Tz:=fun ga=>Bu k6 (fun _=>Bu k7 (fun _=>hDone ga) (fun _=>hBack)) (fun _=>hBack)
 have hSame:=HV hAsc
 have dIn:den R inX=.list (l.take (AQ l ix').toNat++[row]++l.drop (AQ l ix').toNat):=by
  have f1:den R (.row (AH 90 65))=.list [row]:=by rw[←hrow];simp only[den,D8]
  have f2:den R (.cut clX (k64 0) fd0)=.list (l.take (AQ l ix').toNat):=by
   rw[show den R (.cut clX (k64 0) fd0)=FQ (den R clX) (den R (k64 0)) (den R fd0) from rfl,dCl,d0];rfl
  have f3:den R (.cut clX fd0 (.len clX))=.list (l.drop (AQ l ix').toNat):=by
   rw[show den R (.cut clX fd0 (.len clX))=FQ (den R clX) (den R fd0) (den R (.len clX)) from rfl,dCl,d0,AF dCl];show DV.list ((l.take l.length).drop _)=_
   rw[AES]
  rw[show den R inX=Du (Du (den R (.cut clX (k64 0) fd0)) (den R (.row (AH 90 65)))) (den R (.cut clX fd0 (.len clX))) from rfl,f1,f2,f3];rfl
 have hRem:rd=true→CM R (Kt D n q s a rd l) iR:=by
  intro gr;unfold iR;refine BX (Bu d1 (fun _=>BX (BX (Bu k10 (fun _=>hRead gr _ _ _ _ l dCl hSame hLen h.rows) (fun _=>hRead gr _ _ _ _ l dCl hSame hLen h.rows)))) (fun hn=>BX (BX ?_)))
  have hI1:JN l (l.take (AQ l ix').toNat++[row]++l.drop (AQ l ix').toNat):=by
   have:=j8 hAsc (r:=row) (by rw[hix];exact hn)
   rwa [hix]at this
  have hrows:∀r∈l.take (AQ l ix').toNat++[row]++l.drop (AQ l ix').toNat,KL tDig r:=by
   intro r hr;rcases ADR.1 hr with hr|hr
   ·rcases ADR.1 hr with hr|hr
    ·exact h.rows r (AD1 hr)
    ·rw[ACs.1 hr];exact hr90
   ·exact h.rows r (ADC hr)
  have hL:(l.take (AQ l ix').toNat++[row]++l.drop (AQ l ix').toNat).length=l.length+1:=by
   rw[ACT,ACT,ACh,ADA,ADJ];obtain⟨f1,f2⟩:=M0 l ix';omega
  generalize l.take (AQ l ix').toNat++[row]++l.drop (AQ l ix').toNat=L at *;refine Bu (AB (d_k .i64 16) (AF dIn)) (fun g=>BX (BX (BX ?_))) (fun g=>?_)
  ·have dDel:den R (.at (.app 171 [inX,k64 0,k64 1]) (k64 0) 0)=.list (L.drop 1):=by
    have:den R (.app 171 [inX,k64 0,k64 1])=.list [[.list (L.drop 1)]]:=by
     rw[AO,hI];simp only[ACO,ACS,dIn];rfl
    exact (Ab 0 this (d_k .i64 0)).trans rfl
   exact hRead gr _ _ _ _ _ dDel (fg hI1) (by rw[ADA];omega) (fun r hr=>hrows r (ADC hr))
  ·simp only[ACK]at g;have g:¬((16:Nat):Int)<(L.length:Int):=g
   exact hRead gr _ _ _ _ _ dIn hI1 (by omega) hrows
 have hRd:rd=true→CM R (Kt D n q s a rd l) iS:=by
  intro gr;unfold iS;exact Bu k6 (fun _=>BX (Bu k8 (fun _=>BX (BX (Bu k9 (fun _=>hRem gr) (fun _=>hBack)))) (fun _=>hBack))) (fun _=>hRead gr _ _ _ _ l dCl hSame hLen h.rows)
 unfold pHr;refine BX (BX (Bu (AN dCk (d_k .i64 0)) (fun _=>?_) (fun g=>by simp at g)))
 refine Bu k2 (fun _=>Bu e80 hRd (fun _=>hBack)) (fun _=>Bu e3 (fun ga=>Bu k3 (fun _=>Bu (AB e89 (d_k .i64 0)) (fun _=>hOwn ga) (fun g4=>Bu (AB (d_k .i64 5) e89) (fun _=>hOwn ga) (fun g5=>hLead ?_ ?_))) (fun _=>hOwn ga)) (fun _=>hBack))
 ·simp only[ACK]at g4;have g4:¬z89<((0:Nat):Int):=g4
  omega
 ·simp only[ACK]at g5;have g5:¬((5:Nat):Int)<z89:=g5
  omega
def sqI:Nat→List DV→DV
 |165,ds=>.bool (smallR (lD ds 0))
 |180,ds=>.list (Ftx ds)
 |181,ds=>.list (T4 ds)
 |182,ds=>.list (Frp ds)
 |183,ds=>.list (Fdo ds)
 |184,ds=>.list (Frd ds)
 |185,ds=>.list (Fhr ds)
 |_,_=>.bool false
theorem AAh:Ap Tryz.prog G sqI [eTx,eQy,eRp,eDo,eRd,eHr]:=
 ⟨AP AI (pre_true ABp) (fun _=>rfl) _ (by kernel_rfl),AP AI (pre_true zo) (fun _=>rfl) _ (by kernel_rfl),AP AI (pre_true ABr) (fun _=>rfl) _ (by kernel_rfl),
  AP AI (ABe sqI) (fun _=>rfl) _ (by kernel_rfl),AP AI (ABc sqI) (fun _=>rfl) _ (by kernel_rfl),AP AI (ABm sqI rfl) (fun _=>rfl) _ (by kernel_rfl),trivial⟩
def OpK(X:List DV):Prop:=X.length=151∧∀(j:Nat) (t:Ty) (d:DV),tOp[j]? =some t→X[j]? =some d→Is t d
theorem vr{X:List DV}(h:IsL tOp X):OpK X:=⟨(GF h).trans rfl,fun j t d h1 h2=>by
 obtain⟨d',g1,g2⟩:=BL h h1;rw[h2]at g1;cases g1;exact g2⟩
theorem TD:∀{ts:List Ty} {ds:List DV},ds.length=ts.length→(∀(j:Nat) (t:Ty),ts[j]? =some t→isK t (ds.getD j (.bool false)))→KL ts ds
 | [],[],_,_=>rfl
 |t::ts,d::ds,h,hk=>⟨d,ds,rfl,hk 0 t rfl,TD (by simpa using h) (fun j u hj=>hk (j+1) u (by simpa using hj))⟩
 | [],_::_,h,_=>by simp at h
 |_::_,[],h,_=>by simp at h
theorem TE{X:List DV}(h:OpK X)(j:Nat)(t:Ty)(hj:tOp[j]? =some t):Is t (X.getD j (.bool false)):=by
 have hlt:j<X.length:=by
  rw[h.1];have:=(ACW.1 hj).1
  exact this
 rw[ACI,ACL hlt];exact h.2 j t _ hj (ACL hlt)
theorem qn{X:List DV}(h:OpK X):KL tOp X:=TD h.1 fun j t hj=>Ob (TE h j t hj)
theorem kA:tOp=[tI,.str]++(tQry++tRep):=ACy _ _ _
theorem vt{X:List DV}(h:OpK X):KL tQry (rhoL (fun k=>X.getD k (.bool false)) 2 76):=TB (qn h) (fun j hj=>by
 rw[kA,ACV (by show 2≤2+j;omega),ACc (by show 2+j-2<76;omega)]
 show tQry[2+j-2]? =_
 rw[show 2+j-2=j by omega]) rfl
theorem vu{X:List DV}(h:OpK X):KL tRep (rhoL (fun k=>X.getD k (.bool false)) 78 73):=TB (qn h) (fun j hj=>by
 rw[kA,ACV (by show 2≤78+j;omega),ACV (by show 76≤78+j-2;omega)]
 show tRep[78+j-2-76]? =_
 rw[show 78+j-2-76=j by omega]) rfl
theorem kB{Q:List DV}(h:KL tQry Q):∃Q',T4 Q=[Q']∧KL tQry Q'∧(sD Q' 1).size≤1000:=by
 refine⟨lz Q,rfl,?_,?_⟩
 ·obtain⟨d0,r0,rfl,i0,d1,r1,rfl,i1,d2,r2,rfl,i2,d3,r3,rfl,i3,d4,r4,rfl,i4,d5,r5,rfl,i5,d6,r6,rfl,i6,d7,r7,rfl,i7,d8,r8,rfl,i8,d9,r9,rfl,i9,d10,r10,rfl,i10,hr⟩:=h;exact⟨_,_,rfl,i0,_,_,rfl,⟨_,rfl⟩,_,_,rfl,i2,_,_,rfl,i3,_,_,rfl,⟨_,rfl⟩,_,_,rfl,i5,_,_,rfl,i6,_,_,rfl,⟨_,rfl⟩,_,_,rfl,i8,_,_,rfl,i9,_,_,rfl,⟨_,rfl⟩,hr⟩
 ·show (KI 30 (sD Q 1)).size≤1000
  unfold KI;rw[ByteArray.size_extract];omega
def TxQ(Z:List (List DV)):Prop:=∃t',Z=[[DV.str t']]
theorem vw{D:List DV}{t:ByteArray}(h:D.getD 0 (.bool false)=.str t):∃t',Ftx D=[[.str t']]:=by
 have e0:den (AA Ax D) (.v 0)=.str t:=h
 show TxQ (Ftx D)
 unfold Ftx;generalize AA Ax D=R at *;apply GY
 have dc:∀(e:SX) (z:Int),den R e=.int .i64 z→CM R TxQ (txC e):=fun e z he=>⟨t.extract 0 z.toNat,by
  show[[FQ (den R (.v 0)) (den R (k64 0)) (den R e)]]=_
  rw[e0,he]
  rfl⟩
 have dl:den R (.len (.v 0))=.int .i64 t.size:=Az e0
 have hm:∀n,CM R TxQ (txM n):=fun n=>by
  obtain⟨b1,k1⟩:=EJ R (.len (.v 0)) (k64 n);obtain⟨b2,k2⟩:=EJ R (k64 n) (.len (.v 0));exact Bu k1 (fun _=>dc _ _ dl) (fun _=>Bu k2 (fun _=>dc _ _ (d_k .i64 n)) (fun _=>dc _ _ dl))
 obtain⟨b,k⟩:=EJ R (k64 1000) (.len (.v 0));unfold XU;exact Bu k (fun _=>hm 1025) (fun _=>hm 200)
theorem kC{P:List DV}(hP:KL tRep P){l:List (List DV)}{b:List Int}(hml:l.length≤maxLen)(he:XV l)(w4:P.getD 4 (.bool false)=.list l)(w72:P.getD 72 (.bool false)=.list (bytesI b)):
  ∃P' r b',Frp P=[P']∧KL tRep P'∧P'.getD 4 (.bool false)=.list r∧smallR r=true∧r.length≤9∧P'.getD 72 (.bool false)=.list (bytesI b')∧b'.length≤9000:=by
 obtain⟨N,r,b',h1,h2,h3,h4,h5,h6,h7,h8⟩:=x9 (KE hP) hml he w4 w72;refine⟨N,r,b',h1,TD h2 (fun j t hj=>?_),h4,?_,h7,h5,h8⟩
 ·by_cases c4:j=4
  ·subst c4;rw[h4];have:t=.slice [tVs]:=(ADn hj).symm
   rw[this];exact⟨_,rfl⟩
  ·by_cases c72:j=72
   ·subst c72;rw[h5];have:t=tB:=(ADn hj).symm
    rw[this];exact⟨_,rfl⟩
   ·rw[h3 j (by have:=(ACW.1 hj).1;exact this) c4 c72]
    exact IK hP j t hj
 ·refine ACt.2 fun x hx=>?_
  obtain⟨y,q1,q2⟩:=h6 x hx;rw[q1];exact ACb (by omega)
def Fsq(ds:List DV):List (List DV):=evP (AA sqI ds) pSq
structure SqK (R:Rho) (D:List DV) (t:ByteArray) (Q' P':List DV) (r:List (List DV)) (b:List Int) (k:Int):Prop where
 hI:R.I=sqI
 hρ:rhoL R.ρ 0 83=D
 e83:den R (.v 83)=.int .i64 k
 dT:den R sqT=.str t
 dQ:den R sqQ=.list [Q']
 kQ:KL tQry Q'
 sQ:(sD Q' 1).size≤1000
 dR:den R sqR=.list [P']
 kR:KL tRep P'
 w4:P'.getD 4 (.bool false)=.list r
 r1:smallR r=true
 r2:r.length≤9
 w72:P'.getD 72 (.bool false)=.list (bytesI b)
 b1:b.length≤9000
theorem cG{X:List DV}{ρ:Nat→DV}(hρ:∀k,ρ (83+k)=X.getD k (.bool false))(i n:Nat):rhoL ρ (83+i) n=rhoL (fun k=>X.getD k (.bool false)) i n:=by
 refine ADh fun j=>?_
 by_cases hj:j<n
 ·rw[Bo _ _ _ _ hj,Bo _ _ _ _ hj,show 83+i+j=83+(i+j) by omega,hρ]
 ·rw[AC8 (by rw[CH];omega),AC8 (by rw[CH];omega)]
theorem ZF{D X:List DV}(hD:D.length=83)(hX:OpK X):∃t Q' P' r b k,SqK (AA sqI (D++X)) D t Q' P' r b k:=by
 have h1:rhoL (AA sqI (D++X)).ρ 0 83=D:=JO hD (fun k hk=>cells hD k hk)
 have hρ2:∀k,(AA sqI (D++X)).ρ (83+k)=X.getD k (.bool false):=fun k=>TC hD k
 have hI:(AA sqI (D++X)).I=sqI:=rfl
 generalize AA sqI (D++X)=R at *;obtain⟨k,x0⟩:=(Ob (TE hX 0 tI rfl):∃z,_=DV.int .i64 z);obtain⟨t,x1⟩:=(Ob (TE hX 1 .str rfl):∃z,_=DV.str z);have e84:den R (.v 84)=.str t:=(hρ2 1).trans x1
 obtain⟨t',ht⟩:=vw (D:=[.str t]) (t:=t) rfl;obtain⟨Q',q1,q2,q3⟩:=kB (vt hX);obtain⟨l,x82,hml,hrow⟩:=(TE hX 82 (.slice [tVs]) rfl).list;obtain⟨bs,x150,_,_⟩:=(TE hX 150 tB rfl).ints;have p4:(rhoL (fun k=>X.getD k (.bool false)) 78 73).getD 4 (.bool false)=.list l:=x82
 have p72:(rhoL (fun k=>X.getD k (.bool false)) 78 73).getD 72 (.bool false)=.list (bytesI bs):=x150
 have he:XV l:=fun x hx=>by
  obtain⟨a1,a2⟩:=hrow x hx;obtain⟨y,rfl⟩:=ADi.1 (by simpa using a1:x.length=1)
  obtain⟨z,rfl,_⟩:=(a2 0 _ y rfl rfl).list;exact⟨z,rfl⟩
 obtain⟨P',r,b,f1,f2,f3,f4,f5,f6,f7⟩:=kC (vu hX) hml he p4 p72;refine⟨t',Q',P',r,b,k,hI,h1,(hρ2 0).trans x0,?_,?_,q2,q3,?_,f2,f3,f4,f5,f6,f7⟩
 ·have:den R (.app 180 [.v 84])=.list [[.str t']]:=by
   rw[AO,hI];simp only[ACO,ACS,e84];exact congrArg DV.list ht
  exact (Ab 0 this (d_k .i64 0)).trans rfl
 ·rw[show sqQ=.app 181 (AH 85 76) from rfl,AO,hI,BP,show (85:Nat)=83+2 from rfl,cG hρ2];exact congrArg DV.list q1
 ·rw[show sqR=.app 182 (AH 161 73) from rfl,AO,hI,BP,show (161:Nat)=83+78 from rfl,cG hρ2];exact congrArg DV.list f1
section
variable {R:Rho}{D:List DV}{t:ByteArray}{Q' P':List DV}{r:List (List DV)}{b:List Int}{k:Int}
theorem cH{e:SX}{N:List DV}{n:Nat}(he:den R e=.list [N])(hn:N.length=n):(Aq e 0 n).map (den R)=N:=by
 rw[CI he,←hn];exact E0 N _
theorem ym(h:SqK R D t Q' P' r b k):den R ph=.list (Fdo (D++[.str t])):=by
 rw[show ph=.app 183 (AH 0 83++[sqT]) from rfl,AO,oC,BP,h.hρ,h.dT,h.hI];rfl
theorem yn(h:SqK R D t Q' P' r b k):den R pj=.list (Frd (D++Q')):=by
 rw[show pj=.app 184 (AH 0 83++Aq sqQ 0 76) from rfl,AO,ACd,BP,h.hρ,cH h.dQ (show Q'.length=76 from KE h.kQ),h.hI];rfl
theorem yo(h:SqK R D t Q' P' r b k):den R Iy=.list (Fhr (D++P')):=by
 rw[show Iy=.app 185 (AH 0 83++Aq sqR 0 73) from rfl,AO,ACd,BP,h.hρ,cH h.dR (show P'.length=73 from KE h.kR),h.hI];rfl
theorem sj(h:SqK R D t Q' P' r b k)(p1:den R (lss (k64 1000) (.len (.v 5)))=.bool false)(p2:den R (Aj 82).1=.bool false):C2 R pSq:=by
 have dk:∀n,∃b,den R (sqK n)=.bool b:=fun n=>Bn R _ _
 obtain⟨b0,k0⟩:=dk 0;obtain⟨b1,k1⟩:=dk 1;obtain⟨b2,k2⟩:=dk 2;have hend:∀e,C2 R (XW e):=fun e=>by
  obtain⟨b3,k3⟩:=Bn R (.at e (k64 1) 0) (k64 0);exact Ai k3 (fun _=>trivial) (fun _=>trivial)
 have dq1:∃s,den R (.at sqQ (k64 0) 1)=.str s∧s.size≤1000:=by
  obtain⟨s,hs⟩:=(IK h.kQ 1 .str rfl:∃z,_=DV.str z);refine⟨s,(Ab 1 h.dQ (d_k .i64 0)).trans hs,?_⟩
  have:=h.sQ
  unfold sD at this;rw[hs]at this;exact this
 obtain⟨s,d1,hs⟩:=dq1;have dr:den R T1=.list r:=(Ab 4 h.dR (d_k .i64 0)).trans h.w4
 have dp:den R x8=.list (bytesI b):=(Ab 72 h.dR (d_k .i64 0)).trans h.w72
 have d165:den R (.app 165 [T1])=.bool true:=by
  rw[AO,h.hI];simp only[ACO,ACS,dr];exact congrArg DV.bool h.r1
 have hr2:=h.r2
 have hb1:=h.b1
 obtain⟨b4,k4⟩:=Bn R (.at Iy (k64 2) 0) (k64 0);unfold pSq;refine Ai k0 (fun _=>AU p1 (AU p2 (hend _))) (fun _=>Ai k1 (fun _=>AU p1 (AU ?_ (AU p2 (hend _)))) (fun _=>Ai k2 (fun _=>trivial) (fun _=>AU p1 (AU p2 (AU ?_ (AU ?_ (AU d165 (Ai k4 (fun _=>trivial) (fun _=>trivial)))))))))
 ·exact (AB (d_k .i64 1000) (Az d1)).trans (congrArg DV.bool (ACR (by show ¬((1000:Nat):Int)<(s.size:Int);omega)))
 ·exact (AB (d_k .i64 1000000) (AF dr)).trans (congrArg DV.bool (ACR (by show ¬((1000000:Nat):Int)<(r.length:Int);omega)))
 ·exact (AB (d_k .i64 1000000) (AY dp)).trans (congrArg DV.bool (ACR (by show ¬((1000000:Nat):Int)<(b.length:Int);omega)))
end
abbrev qo:List (SX×Bool):=[(lss (k64 1000) (.len (.v 5)),false),Aj 82]
theorem AAi(I:Nat→List DV→DV):Am Tryz.prog G fSq [.agg BN,.agg tOp] [.agg BN,.agg tHd] (fun ds=>∀p∈qo,den (AA I ds) p.1=.bool p.2) Fsq:=by
 have hk:=kSq sqI
 rw[ACH]at hk;refine Av (AG AAh) [] [] AL hk.1 pSq hk.2 ?_
 intro ds h hp;refine Bq ?_
 simp only[An,Ba]at h;obtain⟨D1,_,rfl,h1,D2,_,rfl,h2,rfl⟩:=h;rw[show[D1,D2].flatten=D1++D2 by simp]at hp⊢
 have p1:=hp (lss (k64 1000) (.len (.v 5)),false) (by simp)
 have p2:=hp (Aj 82) (by simp)
 have q1:den (AA sqI (D1++D2)) (lss (k64 1000) (.len (.v 5)))=.bool false:=p1
 have q2:den (AA sqI (D1++D2)) (Aj 82).1=.bool false:=p2
 obtain⟨t,Q',P',r,b,k,hS⟩:=ZF (GF h1) (vr h2);exact sj hS q1 q2
def SqQ(D:List DV)(n q:Int)(s:ByteArray)(a rd:Bool)(l:List (List DV))(Z:List (List DV)):Prop:=∃N H,Z=[N,H]∧Gg D N H n q s a rd l
theorem vx{D N H H':List DV}{n q:Int}{s:ByteArray}{a rd:Bool}{l:List (List DV)}(hH:∀j,j<152→H'.getD j (.bool false)=H.getD j (.bool false))(h:Gg D N H n q s a rd l):Gg D N H' n q s a rd l:=by
 obtain⟨q',s',a',rd',ld',l',c1,c2,c3,c4,c5⟩:=h;refine⟨q',s',a',rd',ld',l',c1,c2,c3,c4,?_⟩
 rw[hH 0 (by omega),hH 1 (by omega),hH 3 (by omega),hH 4 (by omega),hH 5 (by omega),HM (ρ:=fun k=>H'.getD k (.bool false)) (ρ':=fun k=>H.getD k (.bool false)) (fun i hi=>hH _ (by omega))]
 exact c5
theorem vy{D X:List DV}{n q:Int}{s:ByteArray}{a rd:Bool}{ld:Int}{l:List (List DV)}(h:CliK D n q s a rd ld l)(hk:Bj D=true)(hX:OpK X):SqQ D n q s a rd l (Fsq (D++X)):=by
 obtain⟨t,Q',P',r,b,k,hS⟩:=ZF h.len hX;unfold Fsq;generalize AA sqI (D++X)=R at *;apply GY
 have z0:(zH.map (den R)).getD 0 (.bool false)=.bool false:=rfl
 have z1:(zH.map (den R)).getD 1 (.bool false)=.bool false:=rfl
 have hNo:CM R (SqQ D n q s a rd l) iW:=by
  refine⟨_,_,rfl,?_⟩
  show Gg D (List.map (den R) (AH 0 83)) (List.map (den R) zH) n q s a rd l
  rw[BP,hS.hρ];exact WS h hk z0 z1
 have hEnd:∀(e:SX) (Z:List (List DV)),den R e=.list Z→Oe D n q a rd l Z→CM R (SqQ D n q s a rd l) (XW e):=by
  rintro e _ he ⟨N,er,rfl,hz⟩;have d1:den R (.at e (k64 1) 0)=.int .i64 er:=(Ab 0 he (d_k .i64 1)).trans rfl
  refine Bu (AN d1 (d_k .i64 0)) (fun g=>?_) (fun _=>hNo)
  have g:er=0:=by simpa using g
  obtain⟨ga,gr,q',s',a',rd',ld',hK,hok,hq⟩:=hz g;refine⟨_,_,rfl,?_⟩
  show Gg D (List.map (den R) (Aq e 0 83)) (List.map (den R) zH) n q s a rd l
  have hN:(Aq e 0 83).map (den R)=N:=by
   have h2:(Aq e 0 83).map (den R)=rhoL (fun i=>N.getD i (.bool false)) 0 83:=by
    have:=FP (R:=R) he (d_k .i64 0) 83 0
    exact this
   rw[h2];exact JO hK.len (fun _ _=>rfl)
  rw[hN];exact⟨q',s',a',rd',ld',l,hK,hok,hq,HV (Ph h hk).1,.inl ⟨z0,z1,fun hc=>by rw[ga,gr]at hc;cases hc⟩⟩
 have dk:∀n,∃b,den R (sqK n)=.bool b:=fun n=>Bn R _ _
 obtain⟨b0,k0⟩:=dk 0;obtain⟨b1,k1⟩:=dk 1;obtain⟨b2,k2⟩:=dk 2;obtain⟨N,H,hZ,hQ⟩:=vq h hk hS.kR;have dH:=yo hS
 rw[hZ]at dH;have d2:den R (.at Iy (k64 2) 0)=.int .i64 0:=(Ab 0 dH (d_k .i64 2)).trans rfl
 unfold pSq;refine Bu k0 (fun _=>BX (BX (hEnd _ _ (ym hS) (vo h hk t)))) (fun _=>Bu k1 (fun _=>BX (BX (BX (hEnd _ _ (yn hS) (vp h hk hS.kQ hS.sQ))))) (fun _=>Bu k2 (fun _=>hNo) (fun _=>BX (BX (BX (BX (BX (Bu (AN d2 (d_k .i64 0)) (fun _=>?_) (fun g=>by simp at g)))))))))
 refine⟨_,_,rfl,?_⟩
 show Gg D (List.map (den R) (Aq Iy 0 83)) (List.map (den R) (atK Iy (k64 1) 0 152)) n q s a rd l
 have hN:(Aq Iy 0 83).map (den R)=N:=by
  have h2:(Aq Iy 0 83).map (den R)=rhoL (fun i=>N.getD i (.bool false)) 0 83:=by
   have:=FP (R:=R) dH (d_k .i64 0) 83 0
   exact this
  rw[h2];obtain⟨_,_,_,_,_,_,hK,_⟩:=hQ;exact JO hK.len (fun _ _=>rfl)
 rw[hN];refine vx (fun j hj=>?_) hQ
 have h3:(atK Iy (k64 1) 0 152).map (den R)=rhoL (fun j=>H.getD j (.bool false)) 0 152:=FP (R:=R) dH (d_k .i64 1) 152 0
 rw[h3,ACI,Bo _ _ _ _ hj,ACk];rfl
abbrev fLw:Nat:=3
abbrev eKn:Ent:=eFn 10 [.agg BN,.one D9] [.agg tDig,.one .bool] qa 132 []
abbrev Og:Code:=B0 fLw 0
abbrev Oh:Code:=(A9 Og).getD 0 .skip
abbrev VG(l:List AV):Blk:={t:=36,row:=false,sz:=1,n:=83,z:=[.dead],c:=Z0 ((List.range 83).zip l)}
def TLi(id:Nat):Tmpl:={tm:=[(5,.ptr 0 0),(11,.ptr id 0),(32,.sy (.slice tOp) (.v 0)),(33,.sy tI (.len (.v 0))),(34,.sy tI (.v 1)),(135,.sy tDs (.v 167)),(136,.sy tI (.len (.v 167))),(137,.sy tI (.v 168))],ob:=[(0,VG (syN BN 2)),(id,VG (syN BN 85))],src:=[.tm 32 (.slice tOp),.tm 34 tI]++(LZ 0 BN 0++(LZ id BN 0++[.tm 137 tI]))}
def YLi(id:Nat):Tmpl:={tm:=[(5,.ptr 0 0),(11,.ptr id 0),(32,.sy (.slice tOp) (.v 0)),(33,.sy tI (.len (.v 0))),(34,.sy tI (.v 1))],ob:=[(0,VG (syN BN 2)),(id,VG (syN BN 85))],src:=[.tm 32 (.slice tOp),.tm 34 tI]++(LZ 0 BN 0++LZ id BN 0)}
abbrev kD:List Nat:=List.range 168
def SLi(id:Nat):StdL:={n:=172,T:=TLi id,tys:=[.slice tOp,tI]++(BN++(BN++[tI])),pre:=[(eql (.v 168) (k64 0),true),(.app 193 (AH 2 83++[.v 167]),true),(lss (k64 1000) (.len (.v 7)),false),(lss (k64 1000000) (.len (.v 84)),false)],f:=194,keep:=kD,yes:=(.exit 2,YLi id,0)}
abbrev VH:SX:=.app 132 (AH 2 83++[.at (.v 167) (.v 168) 0])
def fi(e i:SX)(b j:SX):Nat→Nat→List SX
 |_,0=>[]
 |k,n+1=>.bin .eql (.at e i k) (.at b j k)::fi e i b j (Nat.succ k) n
abbrev ZG:RPln:=.next (AH 0 168++[add (.v 168) (k64 1)])
abbrev liP:SX:=sub (.v 168) (k64 1)
abbrev liK:RPln:=DT [(lss (k64 1000) (.len (.v 7)),false),(lss (k64 1000000) (.len (.v 84)),false)] (.ask (.at VH (k64 1) 0) (.know (.all (fi VH (k64 0) (.v 167) (.v 168) 0 65)) true ZG) ZG)
def pLi:RPln:=
 .ask (lss (.v 168) (.len (.v 167)))
  (DT [(lss (.v 168) (k64 0),false)]
   (.ask (lss (k64 0) (.v 168))
    (DT [(lss liP (k64 0),false),(lss liP (.len (.v 167)),true),(lss (.at (.v 167) liP 0) (.at (.v 167) (.v 168) 0),true)] liK)
    liK))
  (.exit true (ER kD))
set_option maxRecDepth 100000
theorem kG{R:Rho}{e i b j:SX}:∀(n k:Nat),(∀c,k≤c→c<k+n→∃kk z,den R (.at e i c)=.int kk z∧den R (.at b j c)=.int kk z)→den R (.all (fi e i b j k n))=.bool true:=by
 intro n
 induction n with
 |zero=>intro k _;rfl
 |succ n ih=>
  intro k h;obtain⟨kk,z,h1,h2⟩:=h k (by omega) (by omega)
  have h3:=ih (k+1) (fun c c1 c2=>h c (by omega) (by omega))
  have h4:den R (.bin .eql (.at e i k) (.at b j k))=.bool true:=(AN h1 h2).trans (congrArg DV.bool (ACb rfl))
  simp only[fi,den,den.denAll]at h3 h4⊢;rw[h4];simpa[isT]using h3
def qp(ds:List DV):Prop:=∃l l',ds.getD 82 (.bool false)=.list l∧ds.getD 83 (.bool false)=.list l'∧JN l l'∧∀r∈l',KL tDig r
def TF(ds:List DV):Bool:=@decide (qp ds) (Classical.propDecidable _)
def GJ(_:List DV):Bool×List DV:=(true,[])
def TG(ds:List DV):Prop:=∃(s:ByteArray) (l l':List (List DV)) (k:Int),ds.getD 7 (.bool false)=.str s∧s.size≤1000∧ds.getD 84 (.bool false)=.list l∧l.length≤1000000∧ds.getD 167 (.bool false)=.list l'∧ds.getD 168 (.bool false)=.int .i64 k∧0≤k∧k≤l'.length∧l'.length≤maxLen∧JN l l'∧∀r∈l',KL tDig r
def fj(ds:List DV):Nat:=(lD ds 167).length-(iD ds 168).toNat
theorem AAj{I:Nat→List DV→DV}(i1:I 132=fun ds=>.list (Fs ds)):∀ds,TG ds→Af 168 GJ TG fj (AA I ds) ds pLi:=by
 rintro ds ⟨s,l,l',k,w7,hs,w84,hl,w167,w168,k0,k1,hml,hd,hr⟩;have hmx:maxLen≤9223372036854775807:=by unfold maxLen;omega
 have e7:den (AA I ds) (.v 7)=.str s:=w7
 have e84:den (AA I ds) (.v 84)=.list l:=w84
 have e167:den (AA I ds) (.v 167)=.list l':=w167
 have e168:den (AA I ds) (.v 168)=.int .i64 k:=w168
 have hI:(AA I ds).I=I:=rfl
 have hρ:∀j,(AA I ds).ρ j=ds.getD j (.bool false):=fun _=>rfl
 generalize AA I ds=R at *;unfold pLi;refine Ae (AB e168 (AF e167)) (fun g=>?_) (fun g=>rfl)
 simp only[ACN]at g;have hi:k.toNat<l'.length:=by omega
 have z0:den R (lss (.v 168) (k64 0))=.bool false:=(AB e168 (d_k .i64 0)).trans (congrArg DV.bool (ACR (by show ¬k<((0:Nat):Int);omega)))
 have hrow:∀j:Nat,j<l'.length→∃x,iD (l'.getD j []) 0=x∧(l'.getD j []).getD 0 (.bool false)=.int .u64 x∧l'.getD j []∈l':=by
  intro j hj;have he:l'.getD j []=l'[j]:=by rw[ACI,ACL hj];rfl
  have hm:l'.getD j []∈l':=by rw[he];exact AC7 hj
  obtain⟨z,hz⟩:=IK (hr _ hm) 0 (.int .u64) rfl;exact⟨z,He hz,hz,hm⟩
 obtain⟨x,x1,x2,x3⟩:=hrow k.toNat hi;have dX:den R (.at (.v 167) (.v 168) 0)=.int .u64 x:=(Ab 0 e167 e168).trans x2
 have dN:=B6 e168 (d_k .i64 1) (show -9223372036854775808≤k+1 by omega) (show k+1≤9223372036854775807 by omega)
 have hNext:Af 168 GJ TG fj R ds ZG:=by
  have g7:((AH 0 168++[add (.v 168) (k64 1)]).map (den R)).getD 7 (.bool false)=.str s:=e7
  have g84:((AH 0 168++[add (.v 168) (k64 1)]).map (den R)).getD 84 (.bool false)=.list l:=e84
  have g167:((AH 0 168++[add (.v 168) (k64 1)]).map (den R)).getD 167 (.bool false)=.list l':=e167
  have g168:((AH 0 168++[add (.v 168) (k64 1)]).map (den R)).getD 168 (.bool false)=.int .i64 (k+1):=dN
  refine⟨⟨s,l,l',k+1,g7,hs,g84,hl,g167,g168,by omega,by omega,hml,hd,hr⟩,?_,rfl⟩
  show (lD _ 167).length-(iD _ 168).toNat<(lD ds 167).length-(iD ds 168).toNat
  rw[IP g167,He g168,IP w167,He w168];omega
 have hK:Af 168 GJ TG fj R ds liK:=by
  refine A0 ((AB (d_k .i64 1000) (Az e7)).trans (congrArg DV.bool (ACR (by show ¬((1000:Nat):Int)<(s.size:Int);omega)))) (A0 ((AB (d_k .i64 1000000) (AF e84)).trans (congrArg DV.bool (ACR (by show ¬((1000000:Nat):Int)<(l.length:Int);omega)))) ?_)
  generalize hA:(AH 2 83++[SX.at (.v 167) (.v 168) 0]).map (den R)=A;have a82:lD A 82=l:=IP (by rw[←hA];exact e84)
  have a83:iD A 83=x:=He (k:=83) (a:=.u64) (by rw[←hA];exact dX)
  have dKn:den R VH=.list (Fs A):=by
   rw[show VH=.app 132 (AH 2 83++[.at (.v 167) (.v 168) 0]) from rfl,AO,hA,hI,i1]
  by_cases hk:Pe A=true
  ·have hF:Fs A=[Ig l (AQ l x),[.bool true]]:=by
    unfold Fs;rw[if_pos hk,a82,a83]
   rw[hF]at dKn;have d1:den R (.at VH (k64 1) 0)=.bool true:=(Ab 0 dKn (d_k .i64 1)).trans rfl
   refine Ae d1 (fun _=>A0 (kG 65 0 (fun c _ hc=>?_)) hNext) (fun g=>by cases g)
   have hat:C1 l x (AQ l x)=true:=by
    unfold Pe at hk;rw[ACH,a82,a83]at hk;exact hk.2
   have hd2:=hd.2 _ x3
   rw[x1]at hd2;have hsame:=hd2 hat
   obtain⟨t,ht⟩:∃kk,tDig[c]? =some (.int kk):=by
    have:∀c,c<65→∃kk,tDig[c]? =some (.int kk):=by
     intro c hc;rcases Nat.eq_zero_or_pos c with h0|h0
     ·subst h0;exact⟨_,rfl⟩
     ·obtain⟨c',rfl⟩:∃c',c=c'+1:=⟨c-1,by omega⟩
      refine⟨.u8,?_⟩
      show (List.replicate 32 tU8++List.replicate 32 tU8)[c']? =_
      rw[List.replicate_append_replicate,AEa,if_pos (by omega)]
    exact this c (by omega)
   obtain⟨z,hz⟩:=IK (hr _ x3) c _ ht;refine⟨t,z,(Ab c dKn (d_k .i64 0)).trans ?_,(Ab c e167 e168).trans hz⟩
   show (Ig l (AQ l x)).getD c (.bool false)=_
   unfold Ig;rw[ACI,Bo _ _ _ _ (by omega),ACk,hsame]
   exact hz
  ·have hF:Fs A=[Je,[.bool false]]:=by
    unfold Fs;rw[if_neg hk]
   rw[hF]at dKn;have d1:den R (.at VH (k64 1) 0)=.bool false:=(Ab 0 dKn (d_k .i64 1)).trans rfl
   exact Ae d1 (fun g=>by cases g) (fun _=>hNext)
 refine A0 z0 (Ae (AB (d_k .i64 0) e168) (fun gp=>?_) (fun _=>hK))
 simp only[ACN]at gp;have gp:((0:Nat):Int)<k:=gp
 have dP:den R liP=.int .i64 (k-1):=Cv e168 (d_k .i64 1) (by omega) (by omega)
 obtain⟨y,y1,y2,y3⟩:=hrow (k-1).toNat (by omega)
 have dY:den R (.at (.v 167) liP 0)=.int .u64 y:=(Ab 0 e167 dP).trans y2
 refine A0 ((AB dP (d_k .i64 0)).trans (congrArg DV.bool (ACR (by show ¬k-1<((0:Nat):Int);omega)))) (A0 ((AB dP (AF e167)).trans (congrArg DV.bool (ACb (by omega)))) (A0 ((AB dY dX).trans (congrArg DV.bool (ACb ?_))) hK))
 have h1:=S9 hd.1 (show (k-1).toNat<k.toNat by omega) hi
 unfold B8 at h1;rw[x1,y1]at h1;exact h1
end Go.Proofs.YtobajijkmmhdjaaGreatDoor.Se
end
