/-
  A part of the proof of ClientStays (the machine on named data, and the contracts of the functions that the law reaches). Its names and spaces were shortened by a program of ours.
-/
import Derived.Test.YtobajijkmmhdjaaGreatDoorPAo
set_option linter.all false
noncomputable section
namespace Go.Proofs.YtobajijkmmhdjaaGreatDoor.Se
open Go Go.AM
theorem Er:∀{ts:List Ty} {ds:List DV},IsL ts ds→∀(j:Nat) (t:Ty),ts[j]? =some t→∃d,ds[j]? =some d∧Is t d
 | [],_,_,j,t,h=>by simp at h
 |s::ts,ds,hd,j,t,h=>by
  obtain⟨d,ds',rfl,h1,h2⟩:=hd;cases j with
  |zero=>
   simp only[ACl,ACJ]at h;subst h;exact⟨d,rfl,h1⟩
  |succ j=>exact Er h2 j t (by simpa using h)
theorem Kp{R:Rho}:∀n i:Nat,(Ko i n).map (den R)=rhoL R.ρ i n
 |0,_=>rfl
 |n+1,i=>by
  rw[Ko,ACO,Kp n];rfl
def EB(n:Int):Bool:=decide (1≤n)&&decide (n≤3)
def Dc(n q:Int)(s:ByteArray)(away:Bool):Bool:=if away then EB n&&decide (q≠0)&&decide (s.size≤1019) else decide (s=AS #[])
def OY(ds:List DV):Bool:=LS (rhoL (fun i=>ds.getD i (.bool false)) 4 76)
def Kq(ds:List DV):Bool:=den.denAll (AA ccI ds) (RC 4 tQry)
def LM(ds:List DV)(reading:Bool):Bool:=if reading then OY ds else Kq ds
def okC(n ld:Int)(away reading:Bool):Bool:=EB n&&(decide (0≤ld)&&decide (ld≤5))&& !(away&&reading)
def Bj(ds:List DV):Bool:=okC (iD ds 0) (iD ds 81) (bD ds 3) (bD ds 80)&&(Dc (iD ds 0) (iD ds 1) (sD ds 2) (bD ds 3)&&LM ds (bD ds 80))&&(decide ((lD ds 82).length≤16)&&CS (lD ds 82) 0)
def KB(ds:List DV):List (List DV):=[[.int .i64 (if Bj ds then 0 else 320)]]
abbrev Ie:List (SX×Bool):=[(lss (k64 1000) (.len (.v 5)),false)]
theorem AAT:CN ccI 8 fZ:=by
 intro B hB M hM;have hc:A9 (B4 8)=[Yw]:=by kernel_rfl
 rw[hc]at hB;rw[ACs.1 hB];have h1:=DB hM
 rw[(AEH (ACs.1 h1)).2];exact vD
theorem vI:Am Tryz.prog G 22 [.agg tQry] [.one tI] (fun ds=>∀p∈Iw,den (AA ccI ds) p.1=.bool p.2) JW:=
 ⟨Ps.1,fun E ds vs w hE hr hp hg=>Ps.2 E ds vs w hE hr (fun p hm=>by
  have h1:=hp p hm
  simp only[Iw,ACs]at hm;subst hm;exact h1) hg⟩
theorem yW:Ap Tryz.prog G ccI [gG]:=⟨AP AI vI (fun _=>rfl) [] (by kernel_rfl),trivial⟩
theorem qR:Am Tryz.prog G 8 [.agg BN] [.one tI] (fun ds=>∀p∈Ie,den (AA ccI ds) p.1=.bool p.2) KB:=by
 have hk:=AAR
 rw[ACH]at hk;refine Av (AG yW) fZ [] AAT hk.1 vH hk.2 ?_
 intro ds h hp;simp only[An,Ba]at h;obtain⟨D,_,rfl,hD,rfl⟩:=h;have hfl:[D].flatten=D:=by simp
 rw[hfl]at hp⊢;obtain⟨d0,g0,h0⟩:=Er hD 0 tI rfl;obtain⟨d1,g1,h1⟩:=Er hD 1 (.int .u32) rfl;obtain⟨d2,g2,h2⟩:=Er hD 2 .str rfl;obtain⟨d3,g3,h3⟩:=Er hD 3 .bool rfl;obtain⟨d80,g80,h80⟩:=Er hD 80 .bool (by kernel_rfl)
 obtain⟨d81,g81,h81⟩:=Er hD 81 tI (by kernel_rfl)
 obtain⟨d82,g82,h82⟩:=Er hD 82 tDs (by kernel_rfl)
 obtain⟨n,rfl,n1,n2⟩:=h0.i64;obtain⟨q,rfl,_⟩:=h1.int;obtain⟨s,rfl,_⟩:=h2.str;obtain⟨a,rfl⟩:=h3.bool;obtain⟨rd,rfl⟩:=h80.bool;obtain⟨ld,rfl,l1,l2⟩:=h81.i64;obtain⟨l,rfl,_⟩:=h82.list;have gd:∀{j:Nat} {d:DV},D[j]? =some d→D.getD j (.bool false)=d:=by
  intro j d hj;rw[ACI,hj];rfl
 have hF:KB D=[[.int .i64 (if okC n ld a rd&&(Dc n q s a&&LM D rd)&&(decide (l.length≤16)&&CS l 0) then 0 else 320)]]:=by
  unfold KB Bj iD sD bD lD;rw[gd g0,gd g1,gd g2,gd g3,gd g80,gd g81,gd g82]
 rw[hF];have hz:den (AA ccI D) ccZ=.bool (Kq D):=rfl
 have hq:den (AA ccI D) ccQ=.list [[.int .i64 (if OY D then 0 else 300)]]:=by
  unfold ccQ;rw[AO,Kp];rfl
 have hI:(AA ccI D).I=ccI:=rfl
 have e0:den (AA ccI D) (.v 0)=.int .i64 n:=gd g0
 have e1:den (AA ccI D) (.v 1)=.int .u32 q:=gd g1
 have e2:den (AA ccI D) (.v 2)=.str s:=gd g2
 have e3:den (AA ccI D) (.v 3)=.bool a:=gd g3
 have e80:den (AA ccI D) (.v 80)=.bool rd:=gd g80
 have e81:den (AA ccI D) (.v 81)=.int .i64 ld:=gd g81
 have e82:den (AA ccI D) (.v 82)=.list l:=gd g82
 have hpre:den (AA ccI D) (lss (k64 1000) (.len (.v 5)))=.bool false:=hp (lss (k64 1000) (.len (.v 5)),false) (by simp)
 generalize hr:LM D rd=r;have hrd:r=if rd then OY D else Kq D:=hr.symm
 generalize AA ccI D=R at *;have fin:∀b:Bool,b=(okC n ld a rd&&(Dc n q s a&&r))→AK R [[.int .i64 (if okC n ld a rd&&(Dc n q s a&&r)&&(decide (l.length≤16)&&CS l 0) then 0 else 320)]] (qQ b):=by
  intro b hb;rw[←hb];have key:∀(e:SX) (c:Bool),den R e=.bool c→den R (.at (.app 122 [.v 82,e,k64 0]) (k64 0) 1)=.bool (c&&CS l 0):=by
   intro e c he;rw[Eh (F:=KA) hI (fun _=>rfl)]
   simp only[ACO,ACS,e82,he];rfl
  cases b with
  |true=>
   have hn:den R (.not (lss (k64 16) (.len (.v 82))))=.bool (decide (l.length≤16)):=by
    have h1:=AB (d_k .i64 16) (AF e82)
    simp only[den]at h1⊢;rw[h1];show DV.bool (!decide (((16:Nat):Int)<l.length))=_
    congr 1
    by_cases hc:l.length≤16
    ·rw[ACb hc,ACR (by omega)];rfl
    ·rw[ACR hc,ACb (by omega)];rfl
   refine AD (key _ _ hn) (fun g=>?_) (fun g=>?_)<;>(show _=_;rw[g];rfl)
  |false=>
   refine AD (key (.kb false) false rfl) (fun g=>?_) (fun g=>?_)
   ·cases g
   ·rfl
 have lead:∀k:Bool→Pln,EB n=true→(∀b,b=okC n ld a rd→AK R [[.int .i64 (if okC n ld a rd&&(Dc n q s a&&r)&&(decide (l.length≤16)&&CS l 0) then 0 else 320)]] (k b))→AK R [[.int .i64 (if okC n ld a rd&&(Dc n q s a&&r)&&(decide (l.length≤16)&&CS l 0) then 0 else 320)]] (ng a rd k):=by
  intro k hn hk;refine AD (AB e81 (d_k .i64 0)) (fun g=>hk _ ?_) (fun g=>AD (AB (d_k .i64 5) e81) (fun g2=>hk _ ?_) (fun g2=>hk _ ?_))
  all_goals simp only[ACN,ACK,ACZ]at*
  ·unfold okC;rw[hn,ACR (show ¬0≤ld by omega)]
   rfl
  ·unfold okC;rw[hn,ACR (show ¬ld≤5 by omega),ADu]
   rfl
  ·unfold okC;rw[hn,ACb (show 0≤ld by omega),ACb (show ld≤5 by omega)]
   rfl
 generalize [[DV.int .i64 (if okC n ld a rd&&(Dc n q s a&&r)&&(decide (l.length≤16)&&CS l 0) then 0 else 320)]]=X at fin lead⊢
 have okk:∀(N:NumK),(N=.good→EB n=true)→(N=.bad→EB n=false)→∀k:Bool→Pln,(∀b,b=okC n ld a rd→AK R X (k b))→AK R X (vG a rd k N):=by
  intro N hg hb k hk;cases N with
  |bad=>
   refine hk false ?_
   unfold okC;rw[hb rfl];rfl
  |good=>exact lead k (hg rfl) hk
  |none=>
   refine AD (AB e0 (d_k .i64 1)) (fun g=>hk _ ?_) (fun g=>AD (AB (d_k .i64 3) e0) (fun g2=>hk _ ?_) (fun g2=>lead k ?_ hk))
   all_goals simp only[ACN,ACK,ACZ]at*
   ·unfold okC EB;rw[ACR (show ¬1≤n by omega)]
    rfl
   ·unfold okC EB;rw[ACR (show ¬n≤3 by omega),ADu]
    rfl
   ·unfold EB;rw[ACb (show 1≤n by omega),ACb (show n≤3 by omega)]
    rfl
 have rdd:∀k:Bool→Bool→Pln,AK R X (k rd r)→AK R X (vF k):=by
  intro k hk;refine AD e80 (fun g=>As hpre (AD (b:=OY D) ?_ (fun g2=>?_) (fun g2=>?_))) (fun g=>AD hz (fun g2=>?_) (fun g2=>?_))
  ·have:den R (.at ccQ (k64 0) 0)=.int .i64 (if OY D then 0 else 300):=by
    rw[Ab 0 hq (d_k .i64 0)];rfl
   rw[AN this (d_k .i64 0)];cases OY D<;>rfl
  ·rw[g,if_pos rfl,g2]at hrd;rw[g,hrd]at hk;exact hk
  ·rw[g,if_pos rfl,g2]at hrd;rw[g,hrd]at hk;exact hk
  ·rw[g,if_neg (by simp),g2]at hrd
   rw[g,hrd]at hk;exact hk
  ·rw[g,if_neg (by simp),g2]at hrd
   rw[g,hrd]at hk;exact hk
 have txx:∀k:Bool→Bool→NumK→Pln,(∀N,(N=.good→EB n=true)→(N=.bad→EB n=false)→AK R X (k a (Dc n q s a) N))→AK R X (vE k):=by
  intro k hk;have num0:EB n=(decide (1≤n)&&decide (n≤3)):=rfl
  refine AD e3 (fun g=>AD (AB e0 (d_k .i64 1)) (fun g1=>?_) (fun g1=>AD (AB (d_k .i64 3) e0) (fun g2=>?_) (fun g2=>AD (AN e1 (d_k .u32 0)) (fun g3=>?_) (fun g3=>AD (AB (d_k .i64 1019) (Az e2)) (fun g4=>?_) (fun g4=>?_))))) (fun g=>AD (b:=decide (s=AS #[])) ?_ (fun g1=>?_) (fun g1=>?_))
  all_goals try simp only[ACN,ACK,ACZ]at*
  ·have hn:EB n=false:=by rw[num0,ACR (show ¬1≤n by omega)];rfl
   have ht:Dc n q s a=false:=by unfold Dc;rw[g,hn];rfl
   have:=hk .bad (by simp) (fun _=>hn)
   rw[ht,g]at this;exact this
  ·have hn:EB n=false:=by rw[num0,ACR (show ¬n≤3 by omega),ADu]
   have ht:Dc n q s a=false:=by unfold Dc;rw[g,hn];rfl
   have:=hk .bad (by simp) (fun _=>hn)
   rw[ht,g]at this;exact this
  ·have hn:EB n=true:=by rw[num0,ACb (show 1≤n by omega),ACb (show n≤3 by omega)];rfl
   have ht:Dc n q s a=false:=by unfold Dc;rw[g,hn,ACR (show ¬q≠0 by simpa using g3)];rfl
   have:=hk .good (fun _=>hn) (by simp)
   rw[ht,g]at this;exact this
  ·have hn:EB n=true:=by rw[num0,ACb (show 1≤n by omega),ACb (show n≤3 by omega)];rfl
   have ht:Dc n q s a=false:=by unfold Dc;rw[g,hn,ACR (show ¬s.size≤1019 by omega),ADu];rfl
   have:=hk .good (fun _=>hn) (by simp)
   rw[ht,g]at this;exact this
  ·have hn:EB n=true:=by rw[num0,ACb (show 1≤n by omega),ACb (show n≤3 by omega)];rfl
   have ht:Dc n q s a=true:=by unfold Dc;rw[g,hn,ACb (show q≠0 by simpa using g3),ACb (show s.size≤1019 by omega)];rfl
   have:=hk .good (fun _=>hn) (by simp)
   rw[ht,g]at this;exact this
  ·exact qK e2 rfl
  ·have ht:Dc n q s a=true:=by unfold Dc;rw[g,ACb g1];rfl
   have:=hk .none (by simp) (by simp)
   rw[ht,g]at this;exact this
  ·have ht:Dc n q s a=false:=by unfold Dc;rw[g,ACR g1];rfl
   have:=hk .none (by simp) (by simp)
   rw[ht,g]at this;exact this
 exact txx _ fun N hg hb=>rdd _ (okk N hg hb _ fun b hbb=>fin _ (by rw[hbb]))
abbrev fBS:FuncId:=44
abbrev fC1:FuncId:=45
abbrev Y0:Code:=B0 fBS 0
abbrev D9:Ty:=.int .u64
def bsV(l:List (List DV))(x:Int):Nat→Int→Int→Int
 |0,i,_=>i
 |f+1,i,j=>if i<j then (if B8 l ((i+j) / 2).toNat<x then bsV l x f ((i+j) / 2+1) j else bsV l x f i ((i+j) / 2)) else i
theorem Mw{l:List (List DV)}{x:Int}:∀(f g:Nat) (i j:Int),j-i≤f→j-i≤g→bsV l x f i j=bsV l x g i j
 |0,0,_,_,_,_=>rfl
 |0,g+1,i,j,h,_=>by unfold bsV;rw[if_neg (by omega)]
 |f+1,0,i,j,_,h=>by unfold bsV;rw[if_neg (by omega)]
 |f+1,g+1,i,j,h1,h2=>by
  unfold bsV;split
  ·rw[Mw f g ((i+j) / 2+1) j (by omega) (by omega),Mw f g i ((i+j) / 2) (by omega) (by omega)]
  ·rfl
theorem KC{l:List (List DV)}{x:Int}:∀(f:Nat) (i j:Int),i≤j→i≤bsV l x f i j∧bsV l x f i j≤j
 |0,i,j,h=>by unfold bsV;omega
 |f+1,i,j,h=>by
  unfold bsV;split
  ·have a:=KC (l:=l) (x:=x) f ((i+j) / 2+1) j (by omega)
   have b:=KC (l:=l) (x:=x) f i ((i+j) / 2) (by omega)
   split<;>omega
  ·omega
def AQ(l:List (List DV))(x:Int):Int:=bsV l x l.length 0 l.length
def KD(ds:List DV):Bool×List DV:=(true,[.int .i64 (bsV (lD ds 0) (iD ds 1) (iD ds 3-iD ds 2).toNat (iD ds 2) (iD ds 3))])
def fdI:Nat→List DV→DV
 |123,ds=>.list (FL KD ds)
 |n,ds=>ccI n ds
def TBs:Tmpl:={tm:=[(0,.sy tDs (.v 0)),(1,.sy D9 (.v 1)),(2,.sc (.func (.func fC1) #[] #[])),(8,.sy tI (.len (.v 0))),(9,.sy tI (.v 2)),(10,.sy tI (.v 3))],src:=[.tm 0 tDs,.tm 1 D9,.tm 9 tI,.tm 10 tI]}
def YBs:Tmpl:={tm:=[(0,.sy tDs (.v 0)),(1,.sy D9 (.v 1)),(2,.sc (.func (.func fC1) #[] #[])),(8,.sy tI (.len (.v 0))),(9,.sy tI (.v 2))],src:=[.tm 0 tDs,.tm 1 D9,.tm 9 tI]}
def SBs:StdL:={n:=49,T:=TBs,tys:=[tDs,D9,tI,tI],pre:=[(lss (k64 1000000) (.len (.v 0)),false),(eql (.v 2) (k64 0),true),(eql (.v 3) (.len (.v 0)),true)],f:=123,keep:=[0,1],yes:=(.exit 0,YBs,1)}
abbrev bsH:SX:=.conv .i64 (.bin .shr (.conv .u64 (.bin .add (.v 2) (.v 3))) (.ki .u64 (.ofNat 1)))
def Y1:RPln:=.ask (lss (.at (.v 0) bsH 0) (.v 1)) (.next [.v 0,.v 1,.bin .add bsH (k64 1),.v 3])
 (.ask (lss (.v 1) (.at (.v 0) bsH 0)) (.next [.v 0,.v 1,.v 2,bsH]) (.next [.v 0,.v 1,.v 2,bsH]))
def pBs:RPln:=.ask (lss (.v 2) (.v 3)) (.know (lss bsH (.len (.v 0))) true (.know (lss bsH (k64 0)) false (.ask (lss (k64 0) bsH) Y1 Y1))) (.exit true [.v 0,.v 1,.v 2])
theorem kBs:(SBs.ok&&(Au SBs pBs&&AW SBs.L (B1 fdI (AR []) [] [] Y0) [] pBs))=true:=by kernel_rfl
def S2(ds:List DV):Prop:=∃(l:List (List DV)) (x i j:Int),ds=[.list l,.int .u64 x,.int .i64 i,.int .i64 j]∧0≤i∧i≤j∧j≤l.length∧l.length≤1000000∧∀r∈l,IsL tDig r
def U5(ds:List DV):Nat:=(iD ds 3-iD ds 2).toNat
theorem U6{l:List (List DV)}{x i j:Int}:KD [.list l,.int .u64 x,.int .i64 i,.int .i64 j]=(true,[.int .i64 (bsV l x (j-i).toNat i j)]):=rfl
theorem vJ:BJ Tryz.prog G fdI Y0 SBs.L:=by
 refine B5 (F:=KD) (Inv:=S2) (μ:=U5) (AG Ha) (sub:=[]) trivial (lps:=[]) AL (fun _=>rfl) pBs kBs ?_ ?_
 ·intro ds h hp;simp only[SBs,IsL]at h;obtain⟨d0,_,rfl,h0,d1,_,rfl,h1,d2,_,rfl,h2,d3,_,rfl,h3,rfl⟩:=h;obtain⟨l,rfl,hl,hr⟩:=Is.lst h0;obtain⟨x,rfl,_⟩:=h1.int;obtain⟨i,rfl,_⟩:=h2.i64;obtain⟨j,rfl,_⟩:=h3.i64;have p1:=hp (lss (k64 1000000) (.len (.v 0)),false) (by simp[SBs])
  have p2:=hp (eql (.v 2) (k64 0),true) (by simp[SBs])
  have p3:=hp (eql (.v 3) (.len (.v 0)),true) (by simp[SBs])
  generalize hR:AA fdI [DV.list l,.int .u64 x,.int .i64 i,.int .i64 j]=R at p1 p2 p3;have e0:den R (.v 0)=.list l:=by rw[←hR];rfl
  have e2:den R (.v 2)=.int .i64 i:=by rw[←hR];rfl
  have e3:den R (.v 3)=.int .i64 j:=by rw[←hR];rfl
  rw[AB (d_k .i64 1000000) (AF e0)]at p1;rw[AN e2 (d_k .i64 0)]at p2;rw[AN e3 (AF e0)]at p3;simp only[DV.bool.injEq,ACN,ACK,ACZ]at p1 p2 p3;exact⟨l,x,i,j,rfl,by omega,by omega,by omega,by omega,hr⟩
 ·rintro ds ⟨l,x,i,j,rfl,hi,hij,hj,hl,hr⟩;generalize hR:AA fdI [DV.list l,.int .u64 x,.int .i64 i,.int .i64 j]=R;have e0:den R (.v 0)=.list l:=by rw[←hR];rfl
  have e1:den R (.v 1)=.int .u64 x:=by rw[←hR];rfl
  have e2:den R (.v 2)=.int .i64 i:=by rw[←hR];rfl
  have e3:den R (.v 3)=.int .i64 j:=by rw[←hR];rfl
  show Af 2 KD _ _ R _ pBs
  refine Ae (AB e2 e3) (fun h=>?_) (fun h=>?_)
  ·simp only[ACN]at h;have dA:=B6 (R:=R) e2 e3 (by omega) (by omega)
   have dH:den R bsH=.int .i64 ((i+j) / 2):=by
    have dU:den R (.conv .u64 (.bin .add (.v 2) (.v 3)))=.int .u64 (i+j):=by
     simp only[den]at dA⊢;rw[dA];simp only[C7];congr 1
     rw[IntKind.wrap_u64];omega
    have dS:den R (.bin .shr (.conv .u64 (.bin .add (.v 2) (.v 3))) (.ki .u64 (.ofNat 1)))=.int .u64 ((i+j) / 2):=by
     simp only[den]at dU⊢;rw[dU];refine congrArg (DV.int .u64) ?_
     show (i+j).fdiv 2=_
     exact ADb _ (by decide)
    show C7 .i64 (den R (.bin .shr (.conv .u64 (.bin .add (.v 2) (.v 3))) (.ki .u64 (.ofNat 1))))=_
    rw[dS];simp only[C7];congr 1
    rw[IntKind.wrap_i64];omega
   have dX:den R (.at (.v 0) bsH 0)=.int .u64 (B8 l ((i+j) / 2).toNat):=(Ab 0 e0 dH).trans (S1 hr (by omega))
   have hstep:bsV l x (j-i).toNat i j=if B8 l ((i+j) / 2).toNat<x then bsV l x (j-((i+j) / 2+1)).toNat ((i+j) / 2+1) j else bsV l x ((i+j) / 2-i).toNat i ((i+j) / 2):=by
    obtain⟨f,hf⟩:∃f,(j-i).toNat=f+1:=⟨(j-i).toNat-1,by omega⟩
    rw[hf]
    conv=>lhs;unfold bsV
    rw[if_pos h,Mw f (j-((i+j) / 2+1)).toNat _ _ (by omega) (by omega),Mw f ((i+j) / 2-i).toNat _ _ (by omega) (by omega)]
   have next:∀(a b:SX) (u v:Int),den R a=.int .i64 u→den R b=.int .i64 v→0≤u→u≤v→v≤l.length→v-u<j-i→bsV l x (v-u).toNat u v=bsV l x (j-i).toNat i j→Af 2 KD S2 U5 R [.list l,.int .u64 x,.int .i64 i,.int .i64 j] (.next [.v 0,.v 1,a,b]):=by
    intro a b u v ha hb q1 q2 q3 q4 q5;have hτ:([.v 0,.v 1,a,b]:List SX).map (den R)=[.list l,.int .u64 x,.int .i64 u,.int .i64 v]:=by
     simp only[ACO,ACS,e0,e1,ha,hb]
    show S2 _∧U5 _<U5 _∧KD _=KD _
    rw[hτ];refine⟨⟨l,x,u,v,rfl,q1,q2,q3,hl,hr⟩,?_,?_⟩
    ·show (v-u).toNat<(j-i).toNat
     omega
    ·rw[U6,U6,q5]
   have body:Af 2 KD S2 U5 R [.list l,.int .u64 x,.int .i64 i,.int .i64 j] Y1:=by
    have low:¬B8 l ((i+j) / 2).toNat<x→Af 2 KD S2 U5 R [.list l,.int .u64 x,.int .i64 i,.int .i64 j] (.next [.v 0,.v 1,.v 2,bsH]):=fun g=>
     next _ _ i ((i+j) / 2) e2 dH hi (by omega) (by omega) (by omega) (by rw[hstep,if_neg g])
    refine Ae (AB dX e1) (fun g=>?_) (fun g=>Ae (AB e1 dX) (fun _=>low (by simpa using g)) (fun _=>low (by simpa using g)))
    simp only[ACN]at g;exact next _ _ ((i+j) / 2+1) j (B6 dH (d_k .i64 1) (by omega) (by omega)) e3 (by omega) (by omega) hj (by omega) (by rw[hstep,if_pos g])
   exact A0 ((AB dH (AF e0)).trans (congrArg DV.bool (ACb (by omega)))) (A0 ((AB dH (d_k .i64 0)).trans (congrArg DV.bool (ACR (by show ¬(i+j) / 2<((0:Nat):Int);omega)))) (Ae (AB (d_k .i64 0) dH) (fun _=>body) (fun _=>body)))
  ·simp only[ACK]at h;show KD _=(true,[den R (.v 2)])
   rw[U6,e2];have:bsV l x (j-i).toNat i j=i:=by
    have:=KC (l:=l) (x:=x) (j-i).toNat i j hij
    omega
   rw[this]
def C1(l:List (List DV))(x i:Int):Bool:=decide (i<l.length)&&decide (B8 l i.toNat=x)
def Mx(ds:List DV):List (List DV):=[[.int .i64 (AQ (lD ds 0) (iD ds 1))],[.bool (C1 (lD ds 0) (iD ds 1) (AQ (lD ds 0) (iD ds 1)))]]
abbrev S5:List (SX×Bool):=[(lss (k64 1000000) (.len (.v 0)),false)]
abbrev bsI:SX:=.at (.app 123 [.v 0,.v 1,k64 0,.len (.v 0)]) (k64 0) 1
def bsE(b:Bool):Pln:=.done [[bsI],[.kb b]]
def bsT:Pln:=.ask (lss (.at (.v 0) bsI 0) (.v 1)) (bsE false) (.ask (lss (.v 1) (.at (.v 0) bsI 0)) (bsE false) (bsE true))
def vS:Pln:=.know (lss (k64 1000000) (.len (.v 0))) false (.know (eql (.len (.v 0)) (.len (.v 0))) true (.ask (lss bsI (.len (.v 0))) (.ask (lss (k64 0) bsI) bsT (.know (lss bsI (k64 0)) false bsT)) (bsE false)))
abbrev fc:List (Nat×LoopSp):=[(4,SBs.L)]
theorem AAX:(hasB fBS&&AJ [.one tI,.one .bool] (Bc fdI (AR []) fc [] fBS [.one tDs,.one D9,.con fC1]) [] vS)=true:=by kernel_rfl
theorem AAY:CN fdI fBS fc:=by
 intro B hB M hM;have hc:A9 (B4 fBS)=[Y0]:=by kernel_rfl
 rw[hc]at hB;rw[ACs.1 hB];have h1:=DB hM
 rw[(AEH (ACs.1 h1)).2];exact vJ
theorem yb(I:Nat→List DV→DV):Am Tryz.prog G fBS [.one tDs,.one D9,.con fC1] [.one tI,.one .bool] (fun ds=>∀p∈S5,den (AA I ds) p.1=.bool p.2) Mx:=by
 have hk:=AAX
 rw[ACH]at hk;refine Av (AG Ha) fc [] AAY hk.1 vS hk.2 ?_
 intro ds h hp;simp only[An,Ba]at h;obtain⟨_,_,rfl,⟨d0,rfl,h0⟩,_,_,rfl,⟨d1,rfl,h1⟩,_,_,rfl,rfl,rfl⟩:=h;obtain⟨l,rfl,hlm,hr⟩:=Is.lst h0;obtain⟨x,rfl,_⟩:=h1.int;have hpre:=hp (lss (k64 1000000) (.len (.v 0)),false) (by simp)
 have q0:den (AA I [[DV.list l],[.int .u64 x],[]].flatten) (.v 0)=.list l:=rfl
 rw[AB (d_k .i64 1000000) (AF q0)]at hpre;simp only[DV.bool.injEq,ACK,ACZ]at hpre;have hF:Mx [[DV.list l],[.int .u64 x],[]].flatten=[[.int .i64 (AQ l x)],[.bool (C1 l x (AQ l x))]]:=rfl
 rw[hF];have hI:(AA fdI [[DV.list l],[.int .u64 x],[]].flatten).I=fdI:=rfl
 have e0:den (AA fdI [[DV.list l],[.int .u64 x],[]].flatten) (.v 0)=.list l:=rfl
 have e1:den (AA fdI [[DV.list l],[.int .u64 x],[]].flatten) (.v 1)=.int .u64 x:=rfl
 generalize AA fdI [[DV.list l],[.int .u64 x],[]].flatten=R at hI e0 e1;have dl:=AF e0
 have dI:den R bsI=.int .i64 (AQ l x):=by
  have hd:=Eh (R:=R) (f:=123) (k:=1) (es:=[.v 0,.v 1,k64 0,.len (.v 0)]) (F:=KD) hI (fun _=>rfl)
  simp only[ACO,ACS,e0,e1,dl]at hd;refine hd.trans ?_
  show DV.int .i64 (bsV l x ((l.length:Int)-((0:Nat):Int)).toNat ((0:Nat):Int) l.length)=_
  refine congrArg (DV.int .i64) ?_
  unfold AQ;rw[show ((l.length:Int)-((0:Nat):Int)).toNat=l.length by omega]
  rfl
 obtain⟨b1,b2⟩:=KC (l:=l) (x:=x) l.length 0 l.length (by omega)
 have b1:0≤AQ l x:=b1
 have fin:∀b,C1 l x (AQ l x)=b→AK R [[.int .i64 (AQ l x)],[.bool (C1 l x (AQ l x))]] (bsE b):=by
  intro b hb;show _=[[den R bsI],[DV.bool b]]
  rw[dI,hb]
 refine As ((AB (d_k .i64 1000000) dl).trans (congrArg DV.bool (ACR (by simpa using hpre)))) (As ((AN dl dl).trans (congrArg DV.bool (ACb rfl))) (AD (AB dI dl) (fun g=>?_) (fun g=>fin _ ?_)))
 ·simp only[ACN]at g;have dX:den R (.at (.v 0) bsI 0)=.int .u64 (B8 l (AQ l x).toNat):=(Ab 0 e0 dI).trans (S1 hr (by omega))
  have body:AK R [[.int .i64 (AQ l x)],[.bool (C1 l x (AQ l x))]] bsT:=by
   refine AD (AB dX e1) (fun g1=>fin _ ?_) (fun g1=>AD (AB e1 dX) (fun g2=>fin _ ?_) (fun g2=>fin _ ?_))
   all_goals simp only[ACN,ACK]at*
   ·unfold C1;rw[ACR (show ¬B8 l (AQ l x).toNat=x by omega),ADu]
   ·unfold C1;rw[ACR (show ¬B8 l (AQ l x).toNat=x by omega),ADu]
   ·unfold C1;rw[ACb g,ACb (show B8 l (AQ l x).toNat=x by omega)]
    rfl
  exact AD (AB (d_k .i64 0) dI) (fun _=>body) (fun _=>As ((AB dI (d_k .i64 0)).trans (congrArg DV.bool (ACR (by show ¬AQ l x<((0:Nat):Int);omega)))) body)
 ·simp only[ACK]at g;unfold C1;rw[ACR g];rfl
def fiI:Nat→List DV→DV
 |124,ds=>.list (Mx ds)
 |n,ds=>fdI n ds
def vU:Ent:=eFn fBS [.one tDs,.one D9,.con fC1] [.one tI,.one .bool] S5 124 []
theorem yc:Ap Tryz.prog G fiI [vU]:=⟨AP AI (yb fiI) (fun _=>rfl) _ rfl,trivial⟩
def qZ:Pln:=.know (lss (k64 1000000) (.len (.v 0))) false (.done [[.at (.app 124 [.v 0,.v 1]) (k64 0) 0],[.at (.app 124 [.v 0,.v 1]) (k64 1) 0]])
theorem yd:(hasB 23&&AJ [.one tI,.one .bool] (Bc fiI (AR [vU]) [] [] 23 [.one tDs,.one D9]) [] qZ)=true:=by kernel_rfl
theorem j3(I:Nat→List DV→DV):Am Tryz.prog G 23 [.one tDs,.one D9] [.one tI,.one .bool] (fun ds=>∀p∈S5,den (AA I ds) p.1=.bool p.2) Mx:=by
 have hk:=yd
 rw[ACH]at hk;refine Av (AG yc) [] [] AL hk.1 qZ hk.2 ?_
 intro ds h hp;simp only[An,Ba]at h;obtain⟨_,_,rfl,⟨d0,rfl,h0⟩,_,_,rfl,⟨d1,rfl,h1⟩,rfl⟩:=h;have hpre:=hp (lss (k64 1000000) (.len (.v 0)),false) (by simp)
 refine As hpre ?_
 show _=[[den (AA fiI _) (.at (.app 124 [.v 0,.v 1]) (k64 0) 0)],[den (AA fiI _) (.at (.app 124 [.v 0,.v 1]) (k64 1) 0)]]
 have hap:den (AA fiI [[d0],[d1]].flatten) (.app 124 [.v 0,.v 1])=.list (Mx [d0,d1]):=by
  rw[AO];rfl
 rw[Ab 0 hap (d_k .i64 0),Ab 0 hap (d_k .i64 1)];rfl
def FO(ds:List DV):List DV:=rhoL (fun i=>ds.getD i (.bool false)) 0 83
def Ig(l:List (List DV))(i:Int):List DV:=rhoL (fun j=>(l.getD i.toNat []).getD j (.bool false)) 0 65
def Je:List DV:=.int .u64 0::List.replicate 64 (.int .u8 0)
def Pe(ds:List DV):Bool:=Bj (FO ds)&&C1 (lD ds 82) (iD ds 83) (AQ (lD ds 82) (iD ds 83))
def Fs(ds:List DV):List (List DV):=if Pe ds then [Ig (lD ds 82) (AQ (lD ds 82) (iD ds 83)),[.bool true]] else [Je,[.bool false]]
abbrev qa:List (SX×Bool):=[(lss (k64 1000) (.len (.v 5)),false),(lss (k64 1000000) (.len (.v 82)),false)]
def knI:Nat→List DV→DV
 |125,ds=>.list (Mx ds)
 |126,ds=>.list (KB ds)
 |_,_=>.bool false
def eFd:Ent:=eFn 23 [.one tDs,.one D9] [.one tI,.one .bool] S5 125 []
def RF:Ent:=eFn 8 [.agg BN] [.one tI] Ie 126 []
theorem S7(I:Nat→List DV→DV):Am Tryz.prog G 8 [.agg BN] [.one tI] (fun ds=>∀p∈Ie,den (AA I ds) p.1=.bool p.2) KB:=
 ⟨qR.1,fun E ds vs w hE hr hp hg=>qR.2 E ds vs w hE hr (fun p hm=>by
  have h1:=hp p hm
  simp only[Ie,ACs]at hm;subst hm;exact h1) hg⟩
theorem AAd:Ap Tryz.prog G knI [eFd,RF]:=⟨AP AI (j3 knI) (fun _=>rfl) _ rfl,AP AI (S7 knI) (fun _=>rfl) _ rfl,trivial⟩
def VB:SX:=.at (.app 125 [.v 82,.v 83]) (k64 0) 0
def ve:SX:=.at (.app 125 [.v 82,.v 83]) (k64 1) 0
def knC:SX:=.at (.app 126 (Ko 0 83)) (k64 0) 0
def nr:Pln:=.done [.ki .u64 (.ofNat 0)::LU 64,[.kb false]]
def fe:Pln:=.done [atK (.v 82) VB 0 65,[.kb true]]
def pKn:Pln:=.know (lss (k64 1000000) (.len (.v 82))) false (.know (lss (k64 1000) (.len (.v 5))) false (.ask (eql knC (k64 0)) (.ask ve (.know (lss VB (.len (.v 82))) true (.ask (lss (k64 0) VB) fe (.know (lss VB (k64 0)) false fe))) nr) nr))
set_option maxRecDepth 100000
theorem kKn:(hasB 10&&AJ [.agg tDig,.one .bool] (Bc knI (AR [eFd,RF]) [] [] 10 [.agg BN,.one D9]) [] pKn)=true:=by kernel_rfl
theorem sX(I:Nat→List DV→DV):Am Tryz.prog G 10 [.agg BN,.one D9] [.agg tDig,.one .bool] (fun ds=>∀p∈qa,den (AA I ds) p.1=.bool p.2) Fs:=by
 have hk:=kKn
 rw[ACH]at hk;refine Av (AG AAd) [] [] AL hk.1 pKn hk.2 ?_
 intro ds h hp;have h0:=h
 simp only[An,Ba]at h;obtain⟨D,_,rfl,hD,_,_,rfl,⟨d83,rfl,h83⟩,rfl⟩:=h;obtain⟨x,rfl,_⟩:=h83.int;obtain⟨d82,g82,h82⟩:=Er hD 82 tDs (by kernel_rfl)
 obtain⟨l,rfl,_⟩:=h82.list;have hlen:D.length=83:=by
  have:∀{ts:List Ty} {ds:List DV},IsL ts ds→ds.length=ts.length:=by
   intro ts
   induction ts with
   |nil=>intro ds h;rw[show ds=[] from h];rfl
   |cons t ts ih=>
    intro ds h;obtain⟨d,ds',rfl,_,h2⟩:=h;rw[ACe,ACe,ih h2]
  rw[this hD];rfl
 have hfl:[D,[DV.int .u64 x]].flatten=D++[.int .u64 x]:=by simp
 rw[hfl]at hp⊢;have p1:den (AA knI (D++[.int .u64 x])) (lss (k64 1000) (.len (.v 5)))=.bool false:=hp (lss (k64 1000) (.len (.v 5)),false) (by simp)
 have p2:den (AA knI (D++[.int .u64 x])) (lss (k64 1000000) (.len (.v 82)))=.bool false:=hp (lss (k64 1000000) (.len (.v 82)),false) (by simp)
 have w82:(D++[DV.int .u64 x]).getD 82 (.bool false)=.list l:=by
  rw[ACI,ACc (by omega),g82]
  rfl
 have w83:(D++[DV.int .u64 x]).getD 83 (.bool false)=.int .u64 x:=by
  rw[ACI,ACV (by omega),hlen]
  rfl
 have hF:Fs (D++[.int .u64 x])=if Bj (FO (D++[.int .u64 x]))&&C1 l x (AQ l x) then [Ig l (AQ l x),[.bool true]] else [Je,[.bool false]]:=by
  unfold Fs Pe lD iD;rw[w82,w83]
 rw[hF];have e82:den (AA knI (D++[.int .u64 x])) (.v 82)=.list l:=w82
 have e83:den (AA knI (D++[.int .u64 x])) (.v 83)=.int .u64 x:=w83
 have hC:den (AA knI (D++[.int .u64 x])) (.app 126 (Ko 0 83))=.list [[.int .i64 (if Bj (FO (D++[.int .u64 x])) then 0 else 320)]]:=by
  rw[AO,Kp];rfl
 have hFd:den (AA knI (D++[.int .u64 x])) (.app 125 [.v 82,.v 83])=.list [[.int .i64 (AQ l x)],[.bool (C1 l x (AQ l x))]]:=by
  rw[AO,ACO,ACO,ACS,e82,e83];rfl
 generalize Bj (FO (D++[.int .u64 x]))=ok at hC⊢;generalize AA knI (D++[.int .u64 x])=R at *;have dC:den R knC=.int .i64 (if ok then 0 else 320):=(Ab 0 hC (d_k .i64 0)).trans rfl
 have d0:den R VB=.int .i64 (AQ l x):=(Ab 0 hFd (d_k .i64 0)).trans rfl
 have d1:den R ve=.bool (C1 l x (AQ l x)):=(Ab 0 hFd (d_k .i64 1)).trans rfl
 have no:(ok&&C1 l x (AQ l x))=false→AK R (if ok&&C1 l x (AQ l x) then [Ig l (AQ l x),[.bool true]] else [Je,[.bool false]]) nr:=by
  intro hn;rw[hn];show[Je,[DV.bool false]]=[DV.int .u64 0::(LU 64).map (den R),[DV.bool false]]
  rw[KO];rfl
 obtain⟨b1,b2⟩:=KC (l:=l) (x:=x) l.length 0 l.length (by omega)
 have b1:0≤AQ l x:=b1
 refine As p2 (As p1 (AD (b:=ok) (by rw[AN dC (d_k .i64 0)];cases ok<;>rfl) (fun g=>AD d1 (fun g1=>?_) (fun g1=>no (by rw[g1,ADu]))) (fun g=>no (by rw[g];rfl))))
 have hlt:AQ l x<l.length:=by
  unfold C1 at g1;rw[ACH]at g1;simpa using g1.1
 have yes:AK R (if ok&&C1 l x (AQ l x) then [Ig l (AQ l x),[.bool true]] else [Je,[.bool false]]) fe:=by
  rw[g,g1];show[Ig l (AQ l x),[DV.bool true]]=[(atK (.v 82) VB 0 65).map (den R),[DV.bool true]]
  rw[FP e82 d0];rfl
 exact As ((AB d0 (AF e82)).trans (congrArg DV.bool (ACb hlt))) (AD (AB (d_k .i64 0) d0) (fun _=>yes) (fun _=>As ((AB d0 (d_k .i64 0)).trans (congrArg DV.bool (ACR (by show ¬AQ l x<((0:Nat):Int);omega)))) yes))
abbrev tTx:List Ty:=[tI,.int .u32,.str]
abbrev Ks:List Ty:=[tI,tI]++tTx++tQry
def zX:List Ty→List SX
 | []=>[]
 |.int k::ts=>.ki k (.ofNat 0)::zX ts
 |_::ts=>.ks (AS #[])::zX ts
def zD:List Ty→List DV
 | []=>[]
 |.int k::ts=>.int k 0::zD ts
 |_::ts=>.str (AS #[])::zD ts
theorem Ih{R:Rho}:∀ts:List Ty,(zX ts).map (den R)=zD ts
 | []=>rfl
 |t::ts=>by
  cases t<;>(simp only[zX,zD,ACO,Ih ts];rfl)
def My(ds:List DV):List (List DV):=[[.int .i64 (if Bj (FO ds) then (if bD ds 3||bD ds 80 then 321 else 0) else 320)]]
def wC:SX:=.at (.app 126 (Ko 0 83)) (k64 0) 0
def qc:Pln:=.know (lss (k64 1000) (.len (.v 5))) false (.ask (eql wC (k64 0)) (.ask (.v 3) (.done [[k64 321]]) (.ask (.v 80) (.done [[k64 321]]) (.done [[wC]]))) (.done [[wC]]))
theorem qd:Ap Tryz.prog G knI [RF]:=⟨AP AI (S7 knI) (fun _=>rfl) _ rfl,trivial⟩
set_option maxRecDepth 100000
theorem yi:(hasB 25&&AJ [.one tI] (Bc knI (AR [RF]) [] [] 25 [.agg BN]) [] qc)=true:=by kernel_rfl
theorem j5{D:List DV}(hD:IsL BN D):∃a rd:Bool,D.getD 3 (.bool false)=.bool a∧D.getD 80 (.bool false)=.bool rd:=by
 obtain⟨d3,g3,h3⟩:=Er hD 3 .bool rfl;obtain⟨d80,g80,h80⟩:=Er hD 80 .bool (by kernel_rfl)
 obtain⟨a,rfl⟩:=h3.bool;obtain⟨rd,rfl⟩:=h80.bool;exact⟨a,rd,by rw[ACI,g3];rfl,by rw[ACI,g80];rfl⟩
theorem AAe{D:List DV}:den (AA knI D) wC=.int .i64 (if Bj (FO D) then 0 else 320):=by
 have hC:den (AA knI D) (.app 126 (Ko 0 83))=.list [[.int .i64 (if Bj (FO D) then 0 else 320)]]:=by
  rw[AO,Kp];rfl
 exact (Ab 0 hC (d_k .i64 0)).trans rfl
theorem j6:Am Tryz.prog G 25 [.agg BN] [.one tI] (fun ds=>∀p∈Ie,den (AA knI ds) p.1=.bool p.2) My:=by
 have hk:=yi
 rw[ACH]at hk;refine Av (AG qd) [] [] AL hk.1 qc hk.2 ?_
 intro ds h hp;simp only[An,Ba]at h;obtain⟨D,_,rfl,hD,rfl⟩:=h;rw[show[D].flatten=D by simp]at hp⊢
 have p1:=hp (lss (k64 1000) (.len (.v 5)),false) (by simp)
 obtain⟨a,rd,g3,g80⟩:=j5 hD;have e3:den (AA knI D) (.v 3)=.bool a:=g3
 have e80:den (AA knI D) (.v 80)=.bool rd:=g80
 have hF:My D=[[.int .i64 (if Bj (FO D) then (if a||rd then 321 else 0) else 320)]]:=by
  unfold My bD;rw[g3,g80]
 rw[hF];have dC:=AAe (D:=D)
 generalize Bj (FO D)=ok at dC⊢;refine As p1 (AD (b:=ok) (by rw[AN dC (d_k .i64 0)];cases ok<;>rfl) (fun g=>AD e3 (fun g1=>?_) (fun g1=>AD e80 (fun g2=>?_) (fun g2=>?_))) (fun g=>?_))
 ·rw[g,g1];rfl
 ·rw[g,g1,g2];rfl
 ·rw[g]at dC⊢;rw[g1,g2];show _=[[den _ wC]]
  rw[dC];rfl
 ·rw[g]at dC⊢;show _=[[den _ wC]]
  rw[dC];rfl
def Asc(l:List (List DV)):Prop:=l.Pairwise fun a b=>iD a 0<iD b 0
theorem Dz{l:List (List DV)}{i:Nat}(h:i<l.length):B8 l i=iD l[i] 0:=by
 unfold B8;rw[ACI,ACL h];rfl
theorem vl{l:List (List DV)}(h:CS l 0=true):Asc l:=by
 have step:∀i,i+1<l.length→B8 l i<B8 l (i+1):=by
  intro i hi;unfold CS at h;rw[AC1,ACt]at h;have:=h (i+1) (List.mem_range.2 hi)
  simpa[Mv]using this
 refine AEP.2 fun i j hi hj hij=>?_
 rw[←Dz hi,←Dz hj];have far:∀k,i+1+k<l.length→B8 l i<B8 l (i+1+k):=by
  intro k
  induction k with
  |zero=>exact step i
  |succ k ih=>exact fun hk=>Int.lt_trans (ih (by omega)) (step (i+1+k) (by omega))
 have:=far (j-(i+1)) (by omega)
 rwa [show i+1+(j-(i+1))=j by omega]at this
theorem vm{l:List (List DV)}(h:Asc l):CS l 0=true:=by
 unfold CS;rw[AC1,ACt];intro i hi;have hi:=List.mem_range.1 hi
 unfold Mv
 by_cases h0:i=0
 ·simp[h0]
 ·have:=AEP.1 h (i-1) i (by omega) hi (by omega)
  rw[Dz (show i-1<l.length by omega),Dz hi,ACb this,Bool.or_true]
theorem S9{l:List (List DV)}(h:Asc l){i j:Nat}(hij:i<j)(hj:j<l.length):B8 l i<B8 l j:=by
 rw[Dz (show i<l.length by omega),Dz hj]
 exact AEP.1 h i j (by omega) hj hij
theorem ZC{l:List (List DV)}(h:Asc l){i j:Nat}(hij:i≤j)(hj:j<l.length):B8 l i≤B8 l j:=by
 rcases ADd i j with hc|hc
 ·have:=S9 h hc hj
  omega
 ·rw[show i=j by omega]
  exact Int.le_refl _
theorem RH{l:List (List DV)}{x:Int}(h:Asc l):∀(f:Nat) (i j:Int),0≤i→i≤j→j≤l.length→j-i≤f→(∀k:Nat,(k:Int)<i→B8 l k<x)→(∀k:Nat,j≤k→k<l.length→x≤B8 l k)→
  (∀k:Nat,(k:Int)<bsV l x f i j→B8 l k<x)∧(∀k:Nat,bsV l x f i j≤k→k<l.length→x≤B8 l k)
 |0,i,j,hi,hij,hj,hf,h1,h2=>by
  unfold bsV;exact⟨h1,fun k hk=>h2 k (by omega)⟩
 |f+1,i,j,hi,hij,hj,hf,h1,h2=>by
  unfold bsV;split
  ·rename_i hc;have hm:((i+j) / 2).toNat<l.length:=by omega
   split
   ·rename_i hx;exact RH h f _ j (by omega) (by omega) hj (by omega) (fun k hk=>Int.lt_of_le_of_lt (ZC h (show k≤((i+j) / 2).toNat by omega) hm) hx) h2
   ·rename_i hx;exact RH h f i _ hi (by omega) (by omega) (by omega) h1 (fun k hk hl=>Int.le_trans (by omega) (ZC h (show ((i+j) / 2).toNat≤k by omega) hl))
  ·exact⟨h1,fun k hk=>h2 k (by omega)⟩
theorem M0(l:List (List DV))(x:Int):0≤AQ l x∧AQ l x≤l.length:=KC l.length 0 l.length (by omega)
theorem find_spec{l:List (List DV)}(h:Asc l)(x:Int):(∀k:Nat,(k:Int)<AQ l x→B8 l k<x)∧(∀k:Nat,AQ l x≤k→k<l.length→x≤B8 l k):=
 RH h l.length 0 l.length (by omega) (by omega) (by omega) (by omega) (fun k hk=>by omega) (fun k hk hl=>by omega)
theorem vn{l:List (List DV)}(h:Asc l){x:Int}(hn:C1 l x (AQ l x)=false):∀d∈l,iD d 0≠x:=by
 intro d hd hx;obtain⟨k,hk,rfl⟩:=List.mem_iff_getElem.1 hd;rw[←Dz hk]at hx;obtain⟨b1,b2⟩:=M0 l x;obtain⟨s1,s2⟩:=find_spec h x;have hge:AQ l x≤k:=by
  by_cases hc:(k:Int)<AQ l x
  ·have:=s1 k hc
   omega
  ·omega
 have q1:=s2 (AQ l x).toNat (by omega) (by omega)
 have q2:=ZC h (show (AQ l x).toNat≤k by omega) hk
 have:C1 l x (AQ l x)=true:=by
  unfold C1;rw[ACH];exact⟨ACb (by omega),ACb (by omega)⟩
 rw[hn]at this;cases this
theorem sb{l:List (List DV)}(h:Asc l){r:List DV}(hn:∀d∈l,iD d 0≠iD r 0):Asc (l.take (AQ l (iD r 0)).toNat++[r]++l.drop (AQ l (iD r 0)).toNat):=by
 obtain⟨b1,b2⟩:=M0 l (iD r 0);obtain⟨s1,s2⟩:=find_spec h (iD r 0);have lo:∀a∈l.take (AQ l (iD r 0)).toNat,iD a 0<iD r 0:=by
  intro a ha;obtain⟨k,hk,rfl⟩:=List.mem_take_iff_getElem.1 ha;have:=s1 k (by omega)
  rwa [Dz (by omega)]at this
 have hi:∀a∈l.drop (AQ l (iD r 0)).toNat,iD r 0<iD a 0:=by
  intro a ha;have h2:=hn _ (ADC ha)
  obtain⟨k,hk,he⟩:=List.mem_drop_iff_getElem.1 ha;have h1:=s2 ((AQ l (iD r 0)).toNat+k) (by omega) (by omega)
  rw[Dz (by omega)]at h1
  rw[he]at h1;omega
 refine List.pairwise_append.2 ⟨List.pairwise_append.2 ⟨h.sublist (List.take_sublist _ _),List.pairwise_singleton _ _,fun a ha b hb=>?_⟩,h.sublist (List.drop_sublist _ _),fun a ha b hb=>?_⟩
 ·rw[ACs.1 hb];exact lo a ha
 ·rcases ADR.1 ha with ha|ha
  ·exact Int.lt_trans (lo a ha) (hi b hb)
  ·rw[ACs.1 ha];exact hi b hb
theorem TA{l:List (List DV)}(h:Asc l){d:List DV}(hd:d∈l)(ha:C1 l (iD d 0) (AQ l (iD d 0))=true):l.getD (AQ l (iD d 0)).toNat []=d:=by
 obtain⟨k,hk,rfl⟩:=List.mem_iff_getElem.1 hd;generalize hx:AQ l (iD l[k] 0)=x at ha⊢;obtain⟨b1,b2⟩:=M0 l (iD l[k] 0);rw[hx]at b1 b2;unfold C1 at ha;simp only[ACH,ACN]at ha;obtain⟨a1,a2⟩:=ha;rw[←Dz hk]at a2;have hlt:x.toNat<l.length:=by omega
 have he:x.toNat=k:=by
  rcases AEF x.toNat k with hc|hc|hc
  ·have:=S9 h hc hk
   omega
  ·exact hc
  ·have:=S9 h hc hlt
   omega
 rw[he,ACI,ACL hk];rfl
def JN(l m:List (List DV)):Prop:=Asc m∧∀d∈m,C1 l (iD d 0) (AQ l (iD d 0))=true→l.getD (AQ l (iD d 0)).toNat []=d
theorem HV{l:List (List DV)}(h:Asc l):JN l l:=⟨h,fun _ hd ha=>TA h hd ha⟩
theorem j8{l:List (List DV)}(h:Asc l){r:List DV}(hn:C1 l (iD r 0) (AQ l (iD r 0))=false):JN l (l.take (AQ l (iD r 0)).toNat++[r]++l.drop (AQ l (iD r 0)).toNat):=by
 refine⟨sb h (vn h hn),fun d hd ha=>?_⟩
 have hm:d∈l∨d=r:=by
  rcases ADR.1 hd with hd|hd
  ·rcases ADR.1 hd with hd|hd
   ·exact .inl (AD1 hd)
   ·exact .inr (ACs.1 hd)
  ·exact .inl (ADC hd)
 rcases hm with hm|rfl
 ·exact TA h hm ha
 ·rw[hn]at ha;cases ha
theorem fg{l m:List (List DV)}(h:JN l m):JN l (m.drop 1):=⟨h.1.sublist (List.drop_sublist _ _),fun d hd=>h.2 d (ADC hd)⟩
end Go.Proofs.YtobajijkmmhdjaaGreatDoor.Se
end
