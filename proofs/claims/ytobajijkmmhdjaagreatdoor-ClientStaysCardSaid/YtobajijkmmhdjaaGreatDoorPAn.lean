/-
  A part of the proof of ClientStays (the machine on named data, and the contracts of the functions that the law reaches). Its names and spaces were shortened by a program of ours.
-/
import Derived.Lib.ItoaNum
import Derived.Test.YtobajijkmmhdjaaGreatDoorPAm
import Derived.Test.YtobajijkmmhdjaaGreatDoorShelf
set_option linter.all false
noncomputable section
namespace Go.Proofs.YtobajijkmmhdjaaGreatDoor.Se
open Go Go.AM
abbrev GD:List Ty:=[.str,.str]
def zsD(ds:List DV):List Int:=ds.map fun d=>Md [d]
def DE(s:ByteArray):ByteArray:=s.extract 0 (min s.size 65535)
def Zp(n:Int):List Int:=[n / 2^8%256,n / 2^0%256]
def NH(k v:ByteArray):List Int:=0::(Zp (DE k).size++Bl (DE k))++(Zp (DE v).size++Bl (DE v))
def RZ(n:Int):List Int:=[n%4294967296 / 2^24%256,n%4294967296 / 2^16%256,n%4294967296 / 2^8%256,n%4294967296 / 2^0%256]
def CU(b:List Int):List DV:=(RX b).map u8D
def Tn(ds:List DV):List (List DV):=[CU (1::zsD ds)]
def To(ds:List DV):List (List DV):=[[.str (DE (sD ds 0))]]
def rO(ds:List DV):List (List DV):=[CU (NH (sD ds 0) (sD ds 1))]
def lC(ds:List DV):List (List DV):=[CU (2::RZ (iD ds 0)++zsD (ds.drop 1))]
def shI:Nat→List DV→DV
 |60,ds=>.list (Ve ds)
 |61,_=>.list [[.list []]]
 |63,ds=>.list (To ds)
 |_,_=>.bool false
theorem gg(l:List Int):zsD (l.map u8D)=l:=by
 unfold zsD;rw[ADQ]
 conv=>rhs;rw[←AEV l]
 exact ADN fun z _=>rfl
theorem _root_.Go.AM.Is.u8I{d:DV}(h:Is tU8 d):∃z:Int,d=.int .u8 z∧0≤z∧z≤255:=by
 obtain⟨m,v,h1⟩:=h;simp only[Rep]at h1;obtain⟨z,rfl,_,k1,k2⟩:=h1;exact⟨z,rfl,yS k1 k2⟩
theorem O5:∀(n:Nat) (ds:List DV),IsL (List.replicate n tU8) ds→∃l:List Int,ds=l.map u8D∧l.length=n∧BI l
 |0,ds,h=>⟨[],h,rfl,by simp[BI]⟩
 |n+1,ds,h=>by
  obtain⟨d,ds',rfl,h1,h2⟩:=h;obtain⟨z,rfl,b1,b2⟩:=h1.u8I;obtain⟨l,rfl,hl,hb⟩:=O5 n ds' h2;refine⟨z::l,rfl,by rw[ACe,hl],fun x hx=>?_⟩
  rcases ACU.1 hx with rfl|hx
  ·exact⟨b1,b2⟩
  ·exact hb x hx
def JU:Nat→Nat→SX
 |i,0=>.row [.v i]
 |i,n+1=>.cat (.row [.v i]) (JU (Nat.succ i) n)
theorem KR{R:Rho}:∀(l:List Int) (z:Int) (i:Nat),(∀j d,(z::l)[j]? =some d→R.ρ (i+j)=u8D d)→den R (JU i l.length)=.list (bytesI (z::l))
 | [],z,i,h=>EP R (h 0 z rfl)
 |y::l,z,i,h=>EZ R (h 0 z rfl) (KR l y (Nat.succ i) fun j d hj=>by
   rw[show Nat.succ i+j=i+(j+1) by omega]
   exact h (j+1) d (by simpa using hj))
theorem NI{R:Rho}{e:SX}{b:List Int}(hb:BI b)(hI:R.I=shI)(he:den R e=.list (bytesI b)):(Aq (.app 60 [e]) 0 32).map (den R)=CU b:=by
 have h1:den R (.app 60 [e])=.list [CU b]:=by
  rw[AO,hI];show DV.list [(RX (Aa [den R e] 0)).map u8D]=_
  rw[he,show Aa [DV.list (bytesI b)] 0=b from BD b];rfl
 rw[CI h1];have h2:(CU b).length=32:=by rw[CU,ACX,pC hb]
 have:=E0 (CU b) (.bool false)
 rw[h2]at this;exact this
theorem Tp{I:Nat→List DV→DV}{ds:List DV}{l:List Int}{s:Nat}(h:ds.drop s=l.map u8D):∀j d,l[j]? =some d→(AA I ds).ρ (s+j)=u8D d:=by
 intro j d hj;have h1:(ds.drop s)[j]? =some (u8D d):=by rw[h,ACw,hj];rfl
 rw[AC9]at h1;show ds.getD (s+j) (.bool false)=_
 rw[ACI,h1];rfl
def eSm:Ent:=eFn 113 [.one tB] [.agg Ad] [] 60 [some (5,[tU8])]
def eGr:Ent:=US 163 [.nil,.one tI] 5 [tU8] [] HY 61 []
def eSh:Ent:=eFn 130 [.one .str] [.one .str] [] 63 []
theorem Zq:Am Tryz.prog G 113 [.one tB] [.agg Ad] (fun ds=>∀p∈([]:List (SX×Bool)),den (AA shI ds) p.1=.bool p.2) Ve:=pre_true rN
theorem xJ:Ap Tryz.prog G shI [eSm]:=⟨AP AI Zq (fun _=>rfl) _ rfl,trivial⟩
def xK:SX:=.cat (.row [.ki .u8 (.ofNat 1)]) (JU 0 63)
def rP:Pln:=.done [Aq (.app 60 [xK]) 0 32]
theorem zM:(hasB 105&&AJ [.agg Ad] (Bc shI (AR [eSm]) [] [] 105 [.agg Ad,.agg Ad]) [] rP)=true:=by kernel_rfl
theorem cz{ds:List (List DV)}(h:An [.agg Ad,.agg Ad] ds):∃a b:List Int,ds.flatten=(a++b).map u8D∧a.length=32∧b.length=32∧BI (a++b):=by
 simp only[An,Ba]at h;obtain⟨_,_,rfl,h1,_,_,rfl,h2,rfl⟩:=h;obtain⟨a,rfl,ha,ba⟩:=O5 32 _ h1;obtain⟨b,rfl,hb,bb⟩:=O5 32 _ h2;refine⟨a,b,by simp,ha,hb,fun z hz=>?_⟩
 rcases ADR.1 hz with hz|hz
 ·exact ba z hz
 ·exact bb z hz
theorem K0{z:Int}{l:List Int}(h0:0≤z)(h1:z≤255)(h:BI l):BI (z::l):=by
 intro x hx;rcases ACU.1 hx with rfl|hx
 ·exact⟨h0,h1⟩
 ·exact h x hx
theorem NJ{a b:List Int}(ha:BI a)(hb:BI b):BI (a++b):=by
 intro x hx;rcases ADR.1 hx with hx|hx
 ·exact ha x hx
 ·exact hb x hx
theorem xL:Am Tryz.prog G 105 [.agg Ad,.agg Ad] [.agg Ad] (fun _=>True) Tn:=by
 have hk:=zM
 rw[ACH]at hk;refine Av (AG xJ) [] [] AL hk.1 rP hk.2 ?_
 intro ds h _;obtain⟨a,b,hf,ha,hb,hab⟩:=cz h;rw[hf];have hl:(a++b).length=64:=by rw[ACT];omega
 cases hc:a++b with
 |nil=>rw[hc]at hl;cases hl
 |cons z l=>
  rw[hc]at hl hab;have h63:l.length=63:=by simpa using hl
  show[CU (1::zsD ((z::l).map u8D))]=[(Aq (.app 60 [xK]) 0 32).map (den _)]
  rw[gg];refine congrArg (·::[]) (NI (K0 (z:=1) (by decide) (by decide) hab) rfl (EZ _ rfl ?_)).symm
  have:=KR (R:=AA shI ((z::l).map u8D)) l z 0 (fun j d hj=>Tp (by rw[AC1]) j d hj)
  rw[h63]at this;exact this
theorem xM:Ap Tryz.prog G shI [eSm,eGr]:=⟨AP AI Zq (fun _=>rfl) _ rfl,PL AI (wi shI) (fun _=>rfl) _ rfl,trivial⟩
def gh:SX:=.at (.app 61 [k64 65]) (k64 0) 0
def pG:SX:=.cat gh (.row [.ki .u8 (.ofNat 1)])
def pH:SX:=.cat pG (JU 0 31)
def pI:SX:=.cat pH (JU 32 31)
def rQ:Pln:=.know (lss (k64 1000000) (.len gh)) false (.know (lss (k64 1000000) (.len pG)) false (.know (lss (k64 1000000) (.len pH)) false (.done [Aq (.app 60 [pI]) 0 32])))
theorem zN:(hasB 114&&AJ [.agg Ad] (Bc shI (AR [eSm,eGr]) [] [] 114 [.agg Ad,.agg Ad]) [] rQ)=true:=by kernel_rfl
theorem lE:Am Tryz.prog G 114 [.agg Ad,.agg Ad] [.agg Ad] (fun _=>True) Tn:=by
 have hk:=zN
 rw[ACH]at hk;refine Av (AG xM) [] [] AL hk.1 rQ hk.2 ?_
 intro ds h _;obtain⟨a,b,hf,ha,hb,hab⟩:=cz h;rw[hf];have hall:(((a++b).map u8D).drop 0)=(a++b).map u8D:=AC1
 have hsec:(((a++b).map u8D).drop 32)=b.map u8D:=by
  rw[ACd,ADL (by rw[ACX];omega),AC2 (by rw[ACX];omega),ADD]
 have e1:den (AA shI ((a++b).map u8D)) (JU 0 31)=.list (bytesI a):=by
  cases a with
  |nil=>cases ha
  |cons z l=>
   have:=KR (R:=AA shI (((z::l)++b).map u8D)) l z 0 (fun j d hj=>Tp hall j d (by rw[ACc (ACW.1 hj).1];exact hj))
   rw[show l.length=31 by simpa using ha]at this
   exact this
 have e2:den (AA shI ((a++b).map u8D)) (JU 32 31)=.list (bytesI b):=by
  cases b with
  |nil=>cases hb
  |cons z l=>
   have:=KR (R:=AA shI ((a++(z::l)).map u8D)) l z 32 (fun j d hj=>Tp hsec j d hj)
   rw[show l.length=31 by simpa using hb]at this
   exact this
 have eA:den (AA shI ((a++b).map u8D)) gh=.list (bytesI []):=by
  unfold gh;simp only[den,AO];rfl
 have eB:den (AA shI ((a++b).map u8D)) pG=.list (bytesI ([]++[1])):=BV _ eA (EP _ rfl)
 have eC:den (AA shI ((a++b).map u8D)) pH=.list (bytesI (([]++[1])++a)):=BV _ eB e1
 have eD:den (AA shI ((a++b).map u8D)) pI=.list (bytesI ((([]++[1])++a)++b)):=BV _ eC e2
 refine As (by rw[AB (d_k .i64 1000000) (AY eA),ACR (by simp)]) (As (by rw[AB (d_k .i64 1000000) (AY eB),ACR (by simp)]) (As (by rw[AB (d_k .i64 1000000) (AY eC),ACR (by simp[ha])]) ?_))
 show[CU (1::zsD ((a++b).map u8D))]=[(Aq (.app 60 [pI]) 0 32).map (den _)]
 rw[gg];exact congrArg (·::[]) (NI (b:=1::(a++b)) (K0 (z:=1) (by decide) (by decide) hab) rfl (by rw[eD];simp)).symm
def lF:Pln:=
 (.ask (lss (.len (.v 0)) (k64 65535))
  (.done [[(.cut (.v 0) (k64 0) (.len (.v 0)))]])
  (.ask (lss (k64 65535) (.len (.v 0)))
   (.done [[(.cut (.v 0) (k64 0) (k64 65535))]])
   (.done [[(.cut (.v 0) (k64 0) (.len (.v 0)))]])))
theorem xN:(hasB 130&&AJ [.one .str] (Bc shI (AR []) [] [] 130 [.one .str]) [] lF)=true:=by kernel_rfl
theorem tY:Am Tryz.prog G 130 [.one .str] [.one .str] (fun ds=>∀p∈([]:List (SX×Bool)),den (AA shI ds) p.1=.bool p.2) To:=by
 have hk:=xN
 rw[ACH]at hk;refine Av (AG (P:=Tryz.prog) (G:=G) (I:=shI) (l:=[]) trivial) [] [] AL hk.1 lF hk.2 ?_
 intro ds h _;simp only[An,Ba]at h;obtain⟨_,_,rfl,⟨d,rfl,h1⟩,rfl⟩:=h;obtain⟨s,rfl,hs⟩:=h1.str;have h0:den (AA shI [[DV.str s]].flatten) (.v 0)=.str s:=rfl
 have hF:To [[DV.str s]].flatten=[[.str (s.extract 0 (min s.size 65535))]]:=rfl
 rw[hF];refine AD (AB (Az h0) (d_k .i64 65535)) (fun g=>?_) (fun g=>AD (AB (d_k .i64 65535) (Az h0)) (fun g2=>?_) (fun g2=>?_))<;>simp only[ACN,ACK,ACZ]at* <;>simp only[AK,ACO,ACS,den,h0,Bm,FQ]
 ·rw[ADZ (by omega)]
  rfl
 ·rw[Nat.min_eq_right (by omega)]
  rfl
 ·rw[ADZ (by omega)]
  rfl
def crB(n:Nat):SX:=.conv .u8 (.bin .shr (.conv .u32 (.v 0)) (k64 n))
def pJ:SX:=.cat (.row [.ki .u8 (.ofNat 2)]) (.cat (.row [crB 24]) (.cat (.row [crB 16]) (.cat (.row [crB 8]) (.cat (.row [crB 0]) (JU 1 31)))))
def lG:Pln:=.done [Aq (.app 60 [pJ]) 0 32]
theorem xO:(hasB 73&&AJ [.agg Ad] (Bc shI (AR [eSm]) [] [] 73 [.one tI,.agg Ad]) [] lG)=true:=by kernel_rfl
theorem c7(s:Int)(n:Nat):0≤s / 2^n%256∧s / 2^n%256≤255:=by omega
theorem lH(n:Int):BI (RZ n):=by
 intro z hz;simp only[RZ,ACU,ACm,or_false]at hz;rcases hz with rfl|rfl|rfl|rfl<;>exact c7 _ _
theorem Wg(n:Int):BI (Zp n):=by
 intro z hz;simp only[Zp,ACU,ACm,or_false]at hz;rcases hz with rfl|rfl<;>exact c7 _ _
theorem tZ:Am Tryz.prog G 73 [.one tI,.agg Ad] [.agg Ad] (fun _=>True) lC:=by
 have hk:=xO
 rw[ACH]at hk;refine Av (AG xJ) [] [] AL hk.1 lG hk.2 ?_
 intro ds h _;simp only[An,Ba]at h;obtain⟨_,_,rfl,⟨d,rfl,h1⟩,_,_,rfl,h2,rfl⟩:=h;obtain⟨n,rfl,n1,n2⟩:=h1.i64;obtain⟨a,rfl,ha,hab⟩:=O5 32 _ h2;have hf:[[DV.int .i64 n],a.map u8D].flatten=.int .i64 n::a.map u8D:=by simp
 rw[hf];have e0:den (AA shI (.int .i64 n::a.map u8D)) (.v 0)=.int .i64 n:=rfl
 have ec:den (AA shI (.int .i64 n::a.map u8D)) (.conv .u32 (.v 0))=.int .u32 (n%4294967296):=by
  simp only[den,C7];rw[show (AA shI (.int .i64 n::a.map u8D)).ρ 0=DV.int .i64 n from rfl];simp[IntKind.wrap,IntKind.signed,IntKind.bits]
 have eb:=fun k hk=>PK _ ec (by omega) k hk
 have ea:den (AA shI (.int .i64 n::a.map u8D)) (JU 1 31)=.list (bytesI a):=by
  cases a with
  |nil=>cases ha
  |cons z l=>
   have:=KR (R:=AA shI (.int .i64 n::(z::l).map u8D)) l z 1 (fun j d hj=>Tp rfl j d hj)
   rw[show l.length=31 by simpa using ha]at this
   exact this
 have eo:den (AA shI (.int .i64 n::a.map u8D)) pJ=.list (bytesI (2::RZ n++a)):=
  EZ _ rfl (EZ _ (eb 24 (by decide)) (EZ _ (eb 16 (by decide)) (EZ _ (eb 8 (by decide)) (EZ _ (eb 0 (by decide)) ea))))
 show[CU (2::RZ n++zsD (a.map u8D))]=[(Aq (.app 60 [pJ]) 0 32).map (den _)]
 rw[gg];exact congrArg (·::[]) (NI (NJ (K0 (z:=2) (by decide) (by decide) (lH n)) hab) rfl eo).symm
theorem xP:Ap Tryz.prog G shI [eSm,eSh]:=⟨AP AI Zq (fun _=>rfl) _ rfl,AP AI tY (fun _=>rfl) _ rfl,trivial⟩
def lfT(i:Nat):SX:=.at (.app 63 [.v i]) (k64 0) 0
def lfB(i n:Nat):SX:=.conv .u8 (.bin .shr (.conv .u16 (.len (lfT i))) (k64 n))
def lf1:SX:=.cat (.cat (.row [.ki .u8 (.ofNat 0)]) (.cat (.row [lfB 0 8]) (.cat (.row [lfB 0 0]) .emp))) (.bytes (lfT 0))
def lf2:SX:=.cat lf1 (.row [lfB 1 8])
def lf3:SX:=.cat lf2 (.row [lfB 1 0])
def lf4:SX:=.cat lf3 (.bytes (lfT 1))
def lfK:List (SX×Bool):=[(lss (k64 1000000) (.len (.bytes (lfT 0))),false),(lss (.len lf1) (.bin .add (.len lf1) (k64 2)),true),(lss (.bin .add (.len lf1) (k64 2)) (k64 1000000),true),(lss (k64 1000000) (.len lf1),false),(eql (.len (.cat .emp lf1)) (.len lf1),true),(lss (k64 1000000) (.len lf2),false),(lss (k64 1000000) (.len lf3),false),(lss (k64 1000000) (.len (.bytes (lfT 1))),false)]
def rR:Pln:=G8 lfK (.done [Aq (.app 60 [lf4]) 0 32])
theorem zO:(hasB 107&&AJ [.agg Ad] (Bc shI (AR [eSm,eSh]) [] [] 107 [.agg GD]) [] rR)=true:=by kernel_rfl
theorem Tq(s:ByteArray):(DE s).size≤65535:=by
 unfold DE;rw[ByteArray.size_extract];omega
theorem Zr(s:ByteArray):BI (Bl s):=by
 intro z hz;obtain⟨b,_,rfl⟩:=ADw.1 hz;have:=b.toNat_lt
 omega
theorem gi(k v:ByteArray):BI (NH k v):=NJ (K0 (z:=0) (by decide) (by decide) (NJ (Wg _) (Zr _))) (NJ (Wg _) (Zr _))
theorem xQ:Am Tryz.prog G 107 [.agg GD] [.agg Ad] (fun _=>True) rO:=by
 have hk:=zO
 rw[ACH]at hk;refine Av (AG xP) [] [] AL hk.1 rR hk.2 ?_
 intro ds h _;simp only[An,Ba,IsL,GD]at h;obtain⟨_,_,rfl,⟨d1,_,rfl,h1,d2,_,rfl,h2,rfl⟩,rfl⟩:=h;obtain⟨k,rfl,hk0⟩:=h1.str;obtain⟨v,rfl,hv0⟩:=h2.str;have c1:=Tq k
 have c2:=Tq v
 have t0:den (AA shI [[DV.str k,.str v]].flatten) (lfT 0)=.str (DE k):=rfl
 have t1:den (AA shI [[DV.str k,.str v]].flatten) (lfT 1)=.str (DE v):=rfl
 have cv:∀(e:SX) (s:ByteArray),s.size≤65535→den (AA shI [[DV.str k,.str v]].flatten) e=.str s→den (AA shI [[DV.str k,.str v]].flatten) (.conv .u16 (.len e))=.int .u16 s.size:=by
  intro e s hs he;simp only[den,he,Bm,C7];congr 1
  simp[IntKind.wrap,IntKind.signed,IntKind.bits];omega
 have b0:∀n≤16,den (AA shI [[DV.str k,.str v]].flatten) (lfB 0 n)=.int .u8 (((DE k).size:Int) / 2^n%256):=fun n hn=>PK _ (cv _ _ c1 t0) (by omega) n hn
 have b1:∀n≤16,den (AA shI [[DV.str k,.str v]].flatten) (lfB 1 n)=.int .u8 (((DE v).size:Int) / 2^n%256):=fun n hn=>PK _ (cv _ _ c2 t1) (by omega) n hn
 have y0:=Ly _ t0
 have y1:=Ly _ t1
 have l0:(Bl (DE k)).length=(DE k).size:=by simp[Bl]
 have l1:(Bl (DE v)).length=(DE v).size:=by simp[Bl]
 have f1:den (AA shI [[DV.str k,.str v]].flatten) lf1=.list (bytesI (([0]++[((DE k).size:Int) / 2^8%256,((DE k).size:Int) / 2^0%256])++Bl (DE k))):=
  BV _ (BV _ (EP _ rfl) (EZ _ (b0 8 (by decide)) (EZ _ (b0 0 (by decide)) (SI _)))) y0
 have f2:=BV _ f1 (EP _ (b1 8 (by decide)))
 have f3:=BV _ f2 (EP _ (b1 0 (by decide)))
 have f4:=BV _ f3 y1
 have f0:=BV _ (SI (AA shI [[DV.str k,.str v]].flatten)) f1
 refine DU (fun q hq=>?_) ?_
 ·simp only[lfK,ACU,ACm,or_false]at hq;have hlen:(([0]++[((DE k).size:Int) / 2^8%256,((DE k).size:Int) / 2^0%256])++Bl (DE k)).length=(DE k).size+3:=by simp only[ACT,ACe,ADU,l0];omega
  have ad:=B6 (AY f1) (d_k .i64 2) (by rw[hlen];omega) (by rw[hlen];omega)
  rcases hq with rfl|rfl|rfl|rfl|rfl|rfl|rfl|rfl
  ·rw[AB (d_k .i64 1000000) (AY y0),ACR (by rw[l0];omega)]
  ·rw[AB (AY f1) ad,ACb (by omega)]
  ·rw[AB ad (d_k .i64 1000000),ACb (by rw[hlen];omega)]
  ·rw[AB (d_k .i64 1000000) (AY f1),ACR (by rw[hlen];omega)]
  ·rw[AN (AY f0) (AY f1),ACb (by rw[ADD])]
  ·refine Eq.trans (AB (d_k .i64 1000000) (AY f2)) ?_;rw[ACR (by rw[ACT,hlen];simp only[ACe,ADU];omega)]
  ·refine Eq.trans (AB (d_k .i64 1000000) (AY f3)) ?_;rw[ACR (by rw[ACT,ACT,hlen];simp only[ACe,ADU];omega)]
  ·rw[AB (d_k .i64 1000000) (AY y1),ACR (by rw[l1];omega)]
 ·show[CU (NH k v)]=[(Aq (.app 60 [lf4]) 0 32).map (den _)]
  refine congrArg (·::[]) (NI (gi k v) rfl ?_).symm
  refine f4.trans ?_
  congr 2
  simp[NH,Zp]
abbrev CL:Ty:=.slice GD
abbrev DI:Ty:=.slice Ad
theorem Ha{I:Nat→List DV→DV}:Ap Tryz.prog G I []:=trivial
def Ag(n:Int):Int:=if 2<n then if 4<n then if 8<n then if 16<n then if 32<n then if 64<n then if 128<n then 128 else 64 else 32 else 16 else 8 else 4 else 2 else 1
def gO(ds:List DV):List (List DV):=[[.int .i64 (Ag (iD ds 0))]]
theorem Pz{n:Int}(h2:2≤n)(h:n≤256):1≤Ag n∧Ag n<n∧n≤2*Ag n:=by
 unfold Ag
 repeat' split
 all_goals omega
theorem tN{n:Int}{k:Nat}(h2:2≤n)(hk:k∈[1,2,4,8,16,32,64,128])(h:n≤2*k):Ag n≤k:=by
 simp only[ACU,ACm,or_false]at hk;unfold Ag;rcases hk with rfl|rfl|rfl|rfl|rfl|rfl|rfl|rfl
 all_goals
  repeat' split
  all_goals omega
def gP:Pln:=
 .ask (lss (k64 2) (.v 0)) (.ask (lss (k64 4) (.v 0)) (.ask (lss (k64 8) (.v 0)) (.ask (lss (k64 16) (.v 0)) (.ask (lss (k64 32) (.v 0)) (.ask (lss (k64 64) (.v 0)) (.ask (lss (k64 128) (.v 0)) (.know (lss (k64 256) (.v 0)) false (.done [[k64 128]])) (.done [[k64 64]])) (.done [[k64 32]])) (.done [[k64 16]])) (.done [[k64 8]])) (.done [[k64 4]])) (.done [[k64 2]])) (.done [[k64 1]])
abbrev cg:List (SX×Bool):=[(lss (k64 256) (.v 0),false)]
theorem zF:(hasB 104&&AJ [.one tI] (Bc shI (AR []) [] [] 104 [.one tI]) [] gP)=true:=by kernel_rfl
theorem wq(I:Nat→List DV→DV):Am Tryz.prog G 104 [.one tI] [.one tI] (fun ds=>∀p∈cg,den (AA I ds) p.1=.bool p.2) gO:=by
 have hk:=zF
 rw[ACH]at hk;refine Av (AG Ha) [] [] AL hk.1 gP hk.2 ?_
 intro ds h hp;simp only[An,Ba]at h;obtain⟨_,_,rfl,⟨d,rfl,h1⟩,rfl⟩:=h;obtain⟨n,rfl,n1,n2⟩:=h1.i64;have h0:∀I,den (AA I [[DV.int .i64 n]].flatten) (.v 0)=.int .i64 n:=fun _=>rfl
 have hl:=hp (lss (k64 256) (.v 0),false) (by simp)
 rw[AB (d_k .i64 256) (h0 I)]at hl;simp only[DV.bool.injEq,ACK]at hl;have hl:¬(256:Int)<n:=hl
 have hF:gO [[DV.int .i64 n]].flatten=[[.int .i64 (Ag n)]]:=rfl
 rw[hF];have ask:∀(k:Nat) (t f:Pln),((k:Int)<n→AK (AA shI [[DV.int .i64 n]].flatten) [[.int .i64 (Ag n)]] t)→(¬(k:Int)<n→AK (AA shI [[DV.int .i64 n]].flatten) [[.int .i64 (Ag n)]] f)→AK (AA shI [[DV.int .i64 n]].flatten) [[.int .i64 (Ag n)]] (.ask (lss (k64 k) (.v 0)) t f):=by
  intro k t f ht hf;refine AD (AB (d_k .i64 k) (h0 shI)) (fun g=>ht (by simpa using g)) (fun g=>hf (by simpa using g))
 have fin:∀k:Nat,Ag n=k→AK (AA shI [[DV.int .i64 n]].flatten) [[.int .i64 (Ag n)]] (.done [[k64 k]]):=by
  intro k e;show _=_
  rw[e];rfl
 unfold gP;refine ask 2 _ _ (fun g2=>ask 4 _ _ (fun g4=>ask 8 _ _ (fun g8=>ask 16 _ _ (fun g16=>ask 32 _ _ (fun g32=>ask 64 _ _ (fun g64=>ask 128 _ _ (fun g128=>As ?_ (fin 128 ?_)) (fun g=>fin 64 ?_)) (fun g=>fin 32 ?_)) (fun g=>fin 16 ?_)) (fun g=>fin 8 ?_)) (fun g=>fin 4 ?_)) (fun g=>fin 2 ?_)) (fun g=>fin 1 ?_)
 ·exact (AB (d_k .i64 256) (h0 shI)).trans (congrArg DV.bool (ACR hl))
 all_goals
  unfold Ag
  repeat' split
  all_goals omega
def FW(a b:ByteArray)(op:Bool)(k:ByteArray):Bool:=!Op.bytesLess k.toList a.toList&&(op||Op.bytesLess k.toList b.toList)
def Fin(ds:List DV):List (List DV):=[[.bool (FW (sD ds 0) (sD ds 1) (bD ds 2) (sD ds 3))]]
abbrev tRg:List Ty:=[.str,.str,.bool]
def pIn:Pln:=.ask (lss (.v 3) (.v 0)) (.done [[.kb false]]) (.ask (.v 2) (.done [[.kb true]]) (.done [[lss (.v 3) (.v 1)]]))
theorem kIn:(hasB 124&&AJ [.one .bool] (Bc shI (AR []) [] [] 124 [.agg tRg,.one .str]) [] pIn)=true:=by kernel_rfl
def Bk(l:List (List DV))(i:Nat):ByteArray:=sD (l.getD i []) 0
def Hb(l:List (List DV))(i:Nat):ByteArray:=sD (l.getD i []) 1
def KM(l:List (List DV))(i:Nat):Bool:=decide (1≤(Bk l i).size)&&decide ((Bk l i).size≤200)&&decide ((Hb l i).size≤1000)&&(decide (i=0)||Op.bytesLess (Bk l (i-1)).toList (Bk l i).toList)&&decide (i≠200)
def CZ(l:List (List DV))(i:Nat):Bool:=((List.range l.length).drop i).all (KM l)
def Fck(ds:List DV):List (List DV):=[[.int .i64 (if CZ (lD ds 0) 0 then 0 else 250)]]
def Bz(t:TypeId)(cs:List AV):Blk:={t,row:=false,sz:=1,n:=cs.length,z:=[.dead],c:=Blk.putAll .nil 0 cs}
def P0(t:Ty)(b:Nat):Nat→List AV
 |0=>[]
 |n+1=>.sy t (.v b)::P0 t (Nat.succ b) n
def cj(t:Nat)(ty:Ty)(k:Nat):Nat→List Go.AM.Src
 |0=>[]
 |n+1=>.part t k ty::cj t ty (Nat.succ k) n
def n32(row:List DV):List DV:=rhoL (fun i=>row.getD i (.bool false)) 0 32
def KN:List DV:=List.replicate 32 (.int .u8 0)
def B3(first:Int)(ps path:List (List DV))(e:Int):Nat→Int→Int→Int→List DV×Int
 |0,_,_,a=>(KN,a)
 |f+1,x,n,a=>
  if first<x+n∧x<e then
   if n=1 then (n32 (CU (NH (sD (ps.getD (x-first).toNat []) 0) (sD (ps.getD (x-first).toNat []) 1))),a)
   else
    let A:=B3 first ps path e f x (Ag n) a
    let B:=B3 first ps path e f (x+Ag n) (n-Ag n) A.2
    (n32 (CU (1::zsD (A.1++B.1))),B.2)
  else if (path.length:Int)<a+1 then (KN,a+1) else (n32 (path.getD a.toNat []),a+1)
def Fcl(ds:List DV):Bool×List DV:=
 let r:=B3 (iD ds 3) (lD ds 4) (lD ds 5) (iD ds 6) (iD ds 1).toNat (iD ds 0) (iD ds 1) (iD ds 7)
 (true,r.1++[.int .i64 r.2])
def P1(ds:List DV):Bool:=decide (1≤iD ds 1∧0≤iD ds 0∧iD ds 0+iD ds 1≤200∧0≤iD ds 3∧iD ds 3≤200∧(lD ds 4).length≤200∧iD ds 6=iD ds 3+(lD ds 4).length∧0≤iD ds 7∧iD ds 7+iD ds 1≤1000)
theorem Wd(ρ:Nat→DV):∀b n,(rhoL ρ b n).length=n
 |_,0=>rfl
 |b,n+1=>by simp only[rhoL,ACe,Wd ρ (b+1) n]
theorem tO(row:List DV):(n32 row).length=32:=Wd _ _ _
theorem M9{first:Int}{ps path:List (List DV)}{e:Int}:∀(f:Nat) (x n a:Int),(B3 first ps path e f x n a).1.length=32
 |0,_,_,_=>rfl
 |f+1,x,n,a=>by
  unfold B3
  repeat' split
  all_goals first|exact tO _|rfl
theorem Kx{first:Int}{ps path:List (List DV)}{e:Int}:∀(f:Nat) (x n a:Int),1≤n→n≤256→a≤(B3 first ps path e f x n a).2∧(B3 first ps path e f x n a).2≤a+n
 |0,x,n,a,h1,_=>by unfold B3;simp only;omega
 |f+1,x,n,a,h1,h2=>by
  unfold B3;split
  ·split
   ·simp only;omega
   ·obtain⟨g1,g2,g3⟩:=Pz (n:=n) (by omega) h2
    have A:=Kx (first:=first) (ps:=ps) (path:=path) (e:=e) f x (Ag n) a g1 (by omega)
    have B:=Kx (first:=first) (ps:=ps) (path:=path) (e:=e) f (x+Ag n) (n-Ag n) (B3 first ps path e f x (Ag n) a).2 (by omega) (by omega)
    simp only;omega
  ·split<;>simp only<;>omega
theorem IM{first:Int}{ps path:List (List DV)}{e:Int}:∀(f g:Nat) (x n a:Int),1≤n→n≤256→n≤f→n≤g→B3 first ps path e f x n a=B3 first ps path e g x n a
 |0,_,_,n,_,h1,_,h3,_=>by omega
 |_+1,0,_,n,_,h1,_,_,h4=>by omega
 |f+1,g+1,x,n,a,h1,h2,h3,h4=>by
  unfold B3;split
  ·split
   ·rfl
   ·rename_i hn;obtain⟨g1,g2,g3⟩:=Pz (n:=n) (by omega) h2
    have hA:=IM (first:=first) (ps:=ps) (path:=path) (e:=e) f g x (Ag n) a g1 (by omega) (by omega) (by omega)
    have hB:=IM (first:=first) (ps:=ps) (path:=path) (e:=e) f g (x+Ag n) (n-Ag n) (B3 first ps path e g x (Ag n) a).2 (by omega) (by omega) (by omega) (by omega)
    simp only[hA,hB]
  ·rfl
def clI:Nat→List DV→DV
 |60,ds=>.list (Ve ds)
 |61,_=>.list [[.list []]]
 |62,ds=>.list (Tn ds)
 |63,ds=>.list (To ds)
 |64,ds=>.list (rO ds)
 |65,ds=>.list (gO ds)
 |66,ds=>.list (Fck ds)
 |67,ds=>.list (lC ds)
 |100,ds=>.bool (P1 ds)
 |110,ds=>.list (FL Fcl ds)
 |_,_=>.bool false
def TCl:Tmpl:={tm:=[(0,.sy tI (.v 0)),(1,.sy tI (.v 1)),(2,.clo (.func 151) [] [.ptr 0 0,.ptr 2 0,.ptr 3 0])],ob:=[(0,Bz 71 [.sy tI (.v 2),.sy tI (.v 3),.sy CL (.v 4),.sy DI (.v 5)]),(2,Bz 3 [.sy tI (.v 6)]),(3,Bz 3 [.sy tI (.v 7)])],src:=[.tm 0 tI,.tm 1 tI,.cell 0 0 tI,.cell 0 1 tI,.cell 0 2 CL,.cell 0 3 DI,.cell 2 0 tI,.cell 3 0 tI]}
def YCl:Tmpl:={tm:=[(0,.agg (P0 tU8 5 32))],ob:=[(0,Bz 71 [.sy tI (.v 0),.sy tI (.v 1),.sy CL (.v 2),.sy DI (.v 3)]),(2,Bz 3 [.sy tI (.v 4)]),(3,Bz 3 [.sy tI (.v 37)])],src:=[.cell 0 0 tI,.cell 0 1 tI,.cell 0 2 CL,.cell 0 3 DI,.cell 2 0 tI]++(cj 0 tU8 0 32++[.cell 3 0 tI])}
abbrev wu:List SX:=[.v 0,.v 1,.v 2,.v 3,.v 4,.v 5,.v 6,.v 7]
def SCl(k:Nat):StdL:={n:=3,T:=TCl,tys:=[tI,tI,tI,tI,CL,DI,tI,tI],pre:=[(lss (k64 k) (.v 1),false),(.app 100 wu,true)],f:=110,keep:=[2,3,4,5,6],yes:=(.ret,YCl,33)}
def eLf:Ent:=eFn 107 [.agg GD] [.agg Ad] [] 64 []
def eJn:Ent:=eFn 105 [.agg Ad,.agg Ad] [.agg Ad] [] 62 []
def eHf:Ent:=eFn 104 [.one tI] [.one tI] cg 65 []
def eCl(k:Nat):Ent:=Jo 60 [(SCl k).L]
abbrev gQ:List Ent:=[eLf,eJn,eHf]
theorem ck:Ap Tryz.prog G clI gQ:=⟨AP AI (pre_true xQ) (fun _=>rfl) _ rfl,AP AI (pre_true xL) (fun _=>rfl) _ rfl,AP AI (wq clI) (fun _=>rfl) _ rfl,trivial⟩
def Il:List SX:=[.v 2,.v 3,.v 4,.v 5,.v 6]
def LU:Nat→List SX
 |0=>[]
 |n+1=>.ki .u8 (.ofNat 0)::LU n
def atK(e i:SX):Nat→Nat→List SX
 |_,0=>[]
 |k,n+1=>.at e i k::atK e i (Nat.succ k) n
def clN:SX:=.bin .add (.v 7) (k64 1)
def clJ:SX:=.bin .sub (.v 0) (.v 3)
def clP:SX:=.bin .sub clN (k64 1)
def Zf:RPln:=.ask (lss (.len (.v 5)) clN) (.exit true (Il++(LU 32++[clN])))
 (.know (lss clP (.len (.v 5))) true (.ask (lss (k64 0) clP) (.exit true (Il++(atK (.v 5) clP 0 32++[clN]))) (.know (lss clP (k64 0)) false (.exit true (Il++(atK (.v 5) clP 0 32++[clN]))))))
def VY:SX:=.app 64 [.at (.v 4) clJ 0,.at (.v 4) clJ 1]
def ko:RPln:=.know (lss clJ (.len (.v 4))) true (.ask (lss (k64 0) clJ) (.exit true (Il++(Aq VY 0 32++[.v 7]))) (.know (lss clJ (k64 0)) false (.exit true (Il++(Aq VY 0 32++[.v 7])))))
def clM:SX:=.at (.app 65 [.v 1]) (k64 0) 0
def clA:List SX:=[.v 0,clM,.v 2,.v 3,.v 4,.v 5,.v 6,.v 7]
def clB:List SX:=[.bin .add (.v 0) clM,.bin .sub (.v 1) clM,.v 2,.v 3,.v 4,.v 5,.v 6,.at (.app 110 clA) (k64 0) 33]
def gR:SX:=.app 62 (Aq (.app 110 clA) 1 32++Aq (.app 110 clB) 1 32)
def P2(k:Nat):RPln:=DT [(lss (k64 256) (.v 1),false),(.app 100 clA,true),(lss (k64 k) clM,false),(.app 100 clB,true),(lss (k64 k) (.bin .sub (.v 1) clM),false)] (.exit true (Il++(Aq gR 0 32++[.at (.app 110 clB) (k64 0) 33])))
def pCl(s:RPln):RPln:=.ask (lss (.v 3) (.bin .add (.v 0) (.v 1))) (.ask (lss (.v 0) (.v 6)) (.ask (eql (.v 1) (k64 1)) ko s) Zf) Zf
set_option maxRecDepth 100000
theorem kC1:(hasB 60&&((SCl 1).ok&&(Au (SCl 1) (pCl .never)&&Bs (SCl 1).L (GG clI (AR gQ) [] [] 60) [] (pCl .never))))=true:=by kernel_rfl
def NA(k m:Nat):Bool:=hasB 60&&((SCl m).ok&&(Au (SCl m) (pCl (P2 k))&&Bs (SCl m).L (GG clI (AR (eCl k::gQ)) [] [] 60) [] (pCl (P2 k))))
theorem kC2:NA 1 2=true:=by kernel_rfl
theorem kC4:NA 2 4=true:=by kernel_rfl
theorem kC8:NA 4 8=true:=by kernel_rfl
theorem AA5:NA 8 16=true:=by kernel_rfl
theorem AA6:NA 16 32=true:=by kernel_rfl
theorem AA7:NA 32 64=true:=by kernel_rfl
theorem zG:NA 64 128=true:=by kernel_rfl
theorem zI:NA 128 256=true:=by kernel_rfl
theorem RT{first:Int}{ps path:List (List DV)}{e x n a:Int}(h1:1≤n)(h2:n≤256):B3 first ps path e n.toNat x n a=
  if first<x+n∧x<e then
   if n=1 then (n32 (CU (NH (sD (ps.getD (x-first).toNat []) 0) (sD (ps.getD (x-first).toNat []) 1))),a)
   else
    (n32 (CU (1::zsD ((B3 first ps path e (Ag n).toNat x (Ag n) a).1++(B3 first ps path e (n-Ag n).toNat (x+Ag n) (n-Ag n) (B3 first ps path e (Ag n).toNat x (Ag n) a).2).1))),(B3 first ps path e (n-Ag n).toNat (x+Ag n) (n-Ag n) (B3 first ps path e (Ag n).toNat x (Ag n) a).2).2)
  else if (path.length:Int)<a+1 then (KN,a+1) else (n32 (path.getD a.toNat []),a+1):=by
 obtain⟨f,hf⟩:∃f,n.toNat=f+1:=⟨n.toNat-1,by omega⟩
 rw[hf]
 conv=>lhs;unfold B3
 split
 ·split
  ·rfl
  ·rename_i hn;obtain⟨g1,g2,g3⟩:=Pz (n:=n) (by omega) h2
   have hA:=IM (first:=first) (ps:=ps) (path:=path) (e:=e) f (Ag n).toNat x (Ag n) a g1 (by omega) (by omega) (by omega)
   have hB:=IM (first:=first) (ps:=ps) (path:=path) (e:=e) f (n-Ag n).toNat (x+Ag n) (n-Ag n) (B3 first ps path e (Ag n).toNat x (Ag n) a).2 (by omega) (by omega) (by omega) (by omega)
   simp only[hA,hB]
 ·rfl
theorem GC(x d:DV)(r:List DV):∀(l:List DV) (k:Nat) (p:List DV),p.length=k→rhoL (fun i=>(p++(l++r)).getD i d) k l.length=l
 | [],_,_,_=>rfl
 |a::l,k,p,hp=>by
  simp only[ACe,rhoL];have h1:(p++(a::l++r)).getD k d=a:=by
   rw[ACI,ACV (by omega)]
   simp[hp]
  have h2:=GC x d r l (k+1) (p++[a]) (by simp[hp])
  have e:p++[a]++(l++r)=p++(a::l++r):=by simp
  rw[e]at h2;rw[h1,h2]
theorem KO{R:Rho}:∀n:Nat,(LU n).map (den R)=List.replicate n (DV.int .u8 0)
 |0=>rfl
 |n+1=>by rw[LU,ACO,KO n];rfl
theorem FP{R:Rho}{e i:SX}{l:List (List DV)}{z:Int}(he:den R e=.list l)(hi:den R i=.int .i64 z):∀n k:Nat,(atK e i k n).map (den R)=rhoL (fun j=>(l.getD z.toNat []).getD j (.bool false)) k n
 |0,_=>rfl
 |n+1,k=>by
  rw[atK,ACO,FP he hi n,Ab k he hi];rfl
def oq(k:Nat)(ds:List DV):Prop:=∃x n t first ps path e a,ds=[.int .i64 x,.int .i64 n,.int .i64 t,.int .i64 first,.list ps,.list path,.int .i64 e,.int .i64 a]∧
 1≤n∧n≤k∧0≤x∧x+n≤200∧0≤first∧first≤200∧ps.length≤200∧e=first+ps.length∧0≤a∧a+n≤1000∧path.length≤maxLen
theorem NB{x n t first e a:Int}{ps path:List (List DV)}:P1 [.int .i64 x,.int .i64 n,.int .i64 t,.int .i64 first,.list ps,.list path,.int .i64 e,.int .i64 a]=decide (1≤n∧0≤x∧x+n≤200∧0≤first∧first≤200∧ps.length≤200∧e=first+ps.length∧0≤a∧a+n≤1000):=rfl
theorem MD{x n t first e a:Int}{ps path:List (List DV)}:Fcl [.int .i64 x,.int .i64 n,.int .i64 t,.int .i64 first,.list ps,.list path,.int .i64 e,.int .i64 a]=(true,(B3 first ps path e n.toNat x n a).1++[.int .i64 (B3 first ps path e n.toNat x n a).2]):=rfl
theorem We{k:Nat}{ds:List DV}(h:IsL (SCl k).tys ds)(hp:∀p∈(SCl k).pre,den (AA clI ds) p.1=.bool p.2):oq k ds:=by
 obtain⟨d0,_,rfl,h0,d1,_,rfl,h1,d2,_,rfl,h2,d3,_,rfl,h3,d4,_,rfl,h4,d5,_,rfl,h5,d6,_,rfl,h6,d7,_,rfl,h7,rfl⟩:=h;obtain⟨x,rfl,_⟩:=h0.i64;obtain⟨n,rfl,_⟩:=h1.i64;obtain⟨t,rfl,_⟩:=h2.i64;obtain⟨first,rfl,_⟩:=h3.i64;obtain⟨ps,rfl,_⟩:=h4.list;obtain⟨path,rfl,hpl,_⟩:=h5.list;obtain⟨e,rfl,_⟩:=h6.i64;obtain⟨a,rfl,_⟩:=h7.i64;have p1:=hp (lss (k64 k) (.v 1),false) (by simp[SCl])
 have p2:=hp (.app 100 wu,true) (by simp[SCl])
 rw[AB (d_k .i64 k) (show den _ (.v 1)=.int .i64 n from rfl)]at p1;simp only[DV.bool.injEq,ACK]at p1;have p2:DV.bool (P1 [.int .i64 x,.int .i64 n,.int .i64 t,.int .i64 first,.list ps,.list path,.int .i64 e,.int .i64 a])=.bool true:=by
  rw[AO]at p2;exact p2
 rw[NB]at p2;simp only[DV.bool.injEq,ACN]at p2;obtain⟨q1,q2,q3,q4,q5,q6,q7,q8,q9⟩:=p2;have p1:¬(k:Int)<n:=p1
 exact⟨x,n,t,first,ps,path,e,a,rfl,q1,by omega,q2,q3,q4,q5,q6,q7,q8,q9,hpl⟩
section
variable {R:Rho}{x n t first e a:Int}{ps path:List (List DV)}(hI:R.I=clI)(e0:den R (.v 0)=.int .i64 x)(e1:den R (.v 1)=.int .i64 n)(e2:den R (.v 2)=.int .i64 t)(e3:den R (.v 3)=.int .i64 first)(e4:den R (.v 4)=.list ps)(e5:den R (.v 5)=.list path)(e6:den R (.v 6)=.int .i64 e)(e7:den R (.v 7)=.int .i64 a)
 (b1:1≤n) (b2:n≤256) (b3:0≤x) (b4:x+n≤200) (b5:0≤first) (b6:first≤200) (b7:ps.length≤200) (b8:e=first+ps.length) (b9:0≤a) (b10:a+n≤1000) (b11:path.length≤maxLen)
abbrev Fv(x n t first e a:Int)(ps path:List (List DV)):List DV:=[.int .i64 x,.int .i64 n,.int .i64 t,.int .i64 first,.list ps,.list path,.int .i64 e,.int .i64 a]
include e5 e7 b1 b2 b9 b10 b11 in
theorem Wf(hn:¬(first<x+n∧x<e)):Af 5 Fcl (fun _=>False) (fun _=>0) R (Fv x n t first e a ps path) Zf:=by
 have dN:den R clN=.int .i64 (a+1):=B6 e7 (d_k .i64 1) (by omega) (by omega)
 have dP:den R clP=.int .i64 a:=by
  have:=Cv dN (d_k .i64 1) (by omega) (by omega)
  rw[show a+1-((1:Nat):Int)=a by omega]at this
  exact this
 have hV:=RT (first:=first) (ps:=ps) (path:=path) (e:=e) (x:=x) (a:=a) b1 b2
 rw[if_neg hn]at hV;have dl:=AF e5
 refine Ae (AB dl dN) (fun g=>?_) (fun g=>?_)
 ·simp only[ACN]at g;show Fcl (Fv x n t first e a ps path)=(true,(LU 32++[clN]).map (den R))
  rw[MD,hV,if_pos g,ACd,KO,ACO,ACS,dN];rfl
 ·simp only[ACK]at g;have fin:Af 5 Fcl (fun _=>False) (fun _=>0) R (Fv x n t first e a ps path) (.exit true (Il++(atK (.v 5) clP 0 32++[clN]))):=by
   show Fcl (Fv x n t first e a ps path)=(true,(atK (.v 5) clP 0 32++[clN]).map (den R))
   rw[MD,hV,if_neg g,ACd,FP e5 dP,ACO,ACS,dN];rfl
  refine A0 ((AB dP dl).trans (congrArg DV.bool (ACb (by omega)))) (Ae (AB (d_k .i64 0) dP) (fun _=>fin) (fun _=>A0 ((AB dP (d_k .i64 0)).trans (congrArg DV.bool (ACR (by simpa using b9)))) fin))
include hI e0 e3 e4 e7 b1 b2 b3 b4 b5 b6 b7 b8 in
theorem kp(hn:first<x+n∧x<e)(h1:n=1):Af 5 Fcl (fun _=>False) (fun _=>0) R (Fv x n t first e a ps path) ko:=by
 have dJ:den R clJ=.int .i64 (x-first):=Cv e0 e3 (by omega) (by omega)
 have hV:=RT (first:=first) (ps:=ps) (path:=path) (e:=e) (x:=x) (a:=a) b1 b2
 rw[if_pos hn,if_pos h1]at hV;have dl:=AF e4
 have dF:den R VY=.list [CU (NH (sD (ps.getD (x-first).toNat []) 0) (sD (ps.getD (x-first).toNat []) 1))]:=by
  unfold VY;rw[AO,hI,ACO,ACO,ACS,Ab 0 e4 dJ,Ab 1 e4 dJ];rfl
 have fin:Af 5 Fcl (fun _=>False) (fun _=>0) R (Fv x n t first e a ps path) (.exit true (Il++(Aq VY 0 32++[.v 7]))):=by
  show Fcl (Fv x n t first e a ps path)=(true,(Aq VY 0 32++[SX.v 7]).map (den R))
  rw[MD,hV,ACd,CI dF,ACO,ACS,e7];rfl
 exact A0 ((AB dJ dl).trans (congrArg DV.bool (ACb (by omega)))) (Ae (AB (d_k .i64 0) dJ) (fun _=>fin) (fun _=>A0 ((AB dJ (d_k .i64 0)).trans (congrArg DV.bool (ACR (by show ¬x-first<((0:Nat):Int);omega)))) fin))
include hI e0 e1 e2 e3 e4 e5 e6 e7 b1 b2 b3 b4 b5 b6 b7 b8 b9 b10 in
theorem gS{k:Nat}(hk:k∈[1,2,4,8,16,32,64,128])(hnk:n≤2*k)(hn:first<x+n∧x<e)(h1:¬n=1):Af 5 Fcl (fun _=>False) (fun _=>0) R (Fv x n t first e a ps path) (P2 k):=by
 obtain⟨g1,g2,g3⟩:=Pz (n:=n) (by omega) b2
 have gk:=tN (n:=n) (by omega) hk hnk
 have hV:=RT (first:=first) (ps:=ps) (path:=path) (e:=e) (x:=x) (a:=a) b1 b2
 rw[if_pos hn,if_neg h1]at hV;have dM:den R clM=.int .i64 (Ag n):=by
  unfold clM;have:den R (.app 65 [.v 1])=.list [[.int .i64 (Ag n)]]:=by
   rw[AO,hI,ACO,ACS,e1];rfl
  rw[Ab 0 this (d_k .i64 0)];rfl
 have dA:clA.map (den R)=Fv x (Ag n) t first e a ps path:=by
  unfold clA;simp only[ACO,ACS,e0,dM,e2,e3,e4,e5,e6,e7]
 obtain⟨a1,a2⟩:=Kx (first:=first) (ps:=ps) (path:=path) (e:=e) (Ag n).toNat x (Ag n) a g1 (by omega)
 have lA:=M9 (first:=first) (ps:=ps) (path:=path) (e:=e) (Ag n).toNat x (Ag n) a
 generalize hA:B3 first ps path e (Ag n).toNat x (Ag n) a=A at a1 a2 lA hV;have rA:den R (.app 110 clA)=.list [.bool true::(A.1++[.int .i64 A.2])]:=by
  rw[AO,hI,dA];show DV.list (FL Fcl _)=_
  unfold FL;rw[MD,hA]
 have d33:∀(es:List SX) (B:List DV×Int),B.1.length=32→den R (.app 110 es)=.list [.bool true::(B.1++[.int .i64 B.2])]→den R (.at (.app 110 es) (k64 0) 33)=.int .i64 B.2:=by
  intro es B lB rB;rw[Ab 33 rB (d_k .i64 0)];show (DV.bool true::(B.1++[.int .i64 B.2])).getD 33 _=_
  rw[ACr,ACI,ACV (by omega),lB]
  rfl
 have dB:clB.map (den R)=Fv (x+Ag n) (n-Ag n) t first e A.2 ps path:=by
  unfold clB;simp only[ACO,ACS,B6 e0 dM (by omega) (by omega),Cv e1 dM (by omega) (by omega),e2,e3,e4,e5,e6,d33 clA A lA rA]
 obtain⟨c1,c2⟩:=Kx (first:=first) (ps:=ps) (path:=path) (e:=e) (n-Ag n).toNat (x+Ag n) (n-Ag n) A.2 (by omega) (by omega)
 have lB:=M9 (first:=first) (ps:=ps) (path:=path) (e:=e) (n-Ag n).toNat (x+Ag n) (n-Ag n) A.2
 generalize hB:B3 first ps path e (n-Ag n).toNat (x+Ag n) (n-Ag n) A.2=B at c1 c2 lB hV;have rB:den R (.app 110 clB)=.list [.bool true::(B.1++[.int .i64 B.2])]:=by
  rw[AO,hI,dB];show DV.list (FL Fcl _)=_
  unfold FL;rw[MD,hB]
 have rows:∀(es:List SX) (B:List DV×Int),B.1.length=32→den R (.app 110 es)=.list [.bool true::(B.1++[.int .i64 B.2])]→(Aq (.app 110 es) 1 32).map (den R)=B.1:=by
  intro es B lB rB;rw[CI rB];have:=GC (.bool true) (.bool false) [.int .i64 B.2] B.1 1 [.bool true] rfl
  rw[lB]at this;exact this
 have dJo:den R gR=.list [CU (1::zsD (A.1++B.1))]:=by
  unfold gR;rw[AO,hI,ACd,rows clA A lA rA,rows clB B lB rB];rfl
 refine FJ (l:=[_,_,_,_,_]) (fun q hq=>?_) ?_
 ·simp only[ACU,ACm,or_false]at hq;rcases hq with rfl|rfl|rfl|rfl|rfl
  ·exact (AB (d_k .i64 256) e1).trans (congrArg DV.bool (ACR (by show ¬((256:Nat):Int)<n;omega)))
  ·show den R (.app 100 clA)=.bool true
   rw[AO,hI,dA];show DV.bool (P1 _)=_
   rw[NB];exact congrArg DV.bool (ACb ⟨g1,b3,by omega,b5,b6,b7,b8,b9,by omega⟩)
  ·exact (AB (d_k .i64 k) dM).trans (congrArg DV.bool (ACR (by show ¬(k:Int)<Ag n;omega)))
  ·show den R (.app 100 clB)=.bool true
   rw[AO,hI,dB];show DV.bool (P1 _)=_
   rw[NB];exact congrArg DV.bool (ACb ⟨by omega,by omega,by omega,b5,b6,b7,b8,by omega,by omega⟩)
  ·exact (AB (d_k .i64 k) (Cv e1 dM (by omega) (by omega))).trans (congrArg DV.bool (ACR (by show ¬(k:Int)<n-Ag n;omega)))
 ·show Fcl (Fv x n t first e a ps path)=(true,(Aq gR 0 32++[SX.at (.app 110 clB) (k64 0) 33]).map (den R))
  rw[MD,hV,ACd,CI dJo,ACO,ACS,d33 clB B lB rB];rfl
include hI e0 e1 e2 e3 e4 e5 e6 e7 b1 b2 b3 b4 b5 b6 b7 b8 b9 b10 b11 in
theorem cm{s:RPln}(hs:first<x+n∧x<e→¬n=1→Af 5 Fcl (fun _=>False) (fun _=>0) R (Fv x n t first e a ps path) s):Af 5 Fcl (fun _=>False) (fun _=>0) R (Fv x n t first e a ps path) (pCl s):=by
 refine Ae (AB e3 (B6 e0 e1 (by omega) (by omega))) (fun g=>Ae (AB e0 e6) (fun g2=>Ae (AN e1 (d_k .i64 1)) (fun g3=>?_) (fun g3=>?_)) (fun g2=>?_)) (fun g=>?_)<;>simp only[ACN,ACK]at*
 ·exact kp hI e0 e3 e4 e7 b1 b2 b3 b4 b5 b6 b7 b8 ⟨g,g2⟩ g3
 ·exact hs ⟨g,g2⟩ g3
 ·exact Wf e5 e7 b1 b2 b9 b10 b11 (fun h=>g2 h.2)
 ·exact Wf e5 e7 b1 b2 b9 b10 b11 (fun h=>g h.1)
end
theorem wv:D0 Tryz.prog G clI 60 (SCl 1).L:=by
 refine H4 (F:=Fcl) (Inv:=oq 1) (AG ck) (sub:=[]) trivial [] AL (by decide) (fun _=>rfl) (pCl .never) kC1 (fun ds h hp=>We h hp) ?_
 rintro ds ⟨x,n,t,first,ps,path,e,a,rfl,b1,b2,b3,b4,b5,b6,b7,b8,b9,b10,b11⟩;exact cm (R:=AA clI (Fv x n t first e a ps path)) rfl rfl rfl rfl rfl rfl rfl rfl rfl b1 (by omega) b3 b4 b5 b6 b7 b8 b9 b10 b11 (fun _ g=>absurd (show n=1 by omega) g)
theorem Gy{k m:Nat}(hk:k∈[1,2,4,8,16,32,64,128])(hm:m=2*k)(h:D0 Tryz.prog G clI 60 (SCl k).L)(hc:NA k m=true):D0 Tryz.prog G clI 60 (SCl m).L:=by
 have hent:Ap Tryz.prog G clI (eCl k::gQ):=⟨Gq AI (fun L hL=>by
  simp only[ACU,ACm,or_false]at hL;subst hL;exact h),ck⟩
 refine H4 (F:=Fcl) (Inv:=oq m) (AG hent) (sub:=[]) trivial [] AL (show 1≤3 by decide) (fun _=>rfl) (pCl (P2 k)) hc (fun ds h hp=>We h hp) ?_
 have hk2:k≤128:=by
  simp only[ACU,ACm,or_false]at hk;omega
 rintro ds ⟨x,n,t,first,ps,path,e,a,rfl,b1,b2,b3,b4,b5,b6,b7,b8,b9,b10,b11⟩;exact cm (R:=AA clI (Fv x n t first e a ps path)) rfl rfl rfl rfl rfl rfl rfl rfl rfl b1 (by omega) b3 b4 b5 b6 b7 b8 b9 b10 b11 (fun g g1=>gS (R:=AA clI (Fv x n t first e a ps path)) rfl rfl rfl rfl rfl rfl rfl rfl rfl b1 (by omega) b3 b4 b5 b6 b7 b8 b9 b10 hk (by omega) g g1)
theorem ot:D0 Tryz.prog G clI 60 (SCl 256).L:=
 Gy (k:=128) (by simp) rfl (Gy (k:=64) (by simp) rfl (Gy (k:=32) (by simp) rfl (Gy (k:=16) (by simp) rfl (Gy (k:=8) (by simp) rfl (Gy (k:=4) (by simp) rfl (Gy (k:=2) (by simp) rfl (Gy (k:=1) (by simp) rfl wv kC2) kC4) kC8) AA5) AA6) AA7) zG) zI
theorem kq:∀{ts:List Ty} {r:List DV},r.length=ts.length→(∀(j:Nat) (t:Ty) (d:DV),ts[j]? =some t→r[j]? =some d→Is t d)→IsL ts r
 | [],[],_,_=>by simp[IsL]
 |t::ts,d::r,h1,h2=>by
  simp only[IsL];exact⟨d,r,rfl,h2 0 t d rfl rfl,kq (by simpa using h1) fun j u e hj he=>h2 (j+1) u e (by simpa using hj) (by simpa using he)⟩
 | [],_::_,h,_=>by simp at h
 |_::_,[],h,_=>by simp at h
theorem Is.lst{ts:List Ty}{d:DV}(h:Is (.slice ts) d):∃l,d=.list l∧l.length≤maxLen∧∀r∈l,IsL ts r:=by
 obtain⟨l,rfl,h2,h3⟩:=h.list;exact⟨l,rfl,h2,fun r hr=>kq (h3 r hr).1 (h3 r hr).2⟩
theorem LV:maxLen≤9223372036854775807:=by unfold maxLen;omega
def Hc(ds:List DV):Bool×List DV:=(CZ (lD ds 0) (iD ds 1).toNat,[])
theorem gT{l:List (List DV)}{i:Nat}(h:l.length≤i):CZ l i=true:=by
 unfold CZ;rw[AC2 (by rw[AEg];exact h)]
 rfl
theorem ae{l:List (List DV)}{i:Nat}(h:i<l.length):CZ l i=(KM l i&&CZ l (i+1)):=by
 unfold CZ;rw[ACj (by rw[AEg];exact h),AEb,List.getElem_range]
theorem gU{l:List (List DV)}(h:CZ l 0=true):l.length≤200:=by
 unfold CZ at h;rw[AC1,ACt]at h;cases ADd 200 l.length with
 |inr g=>exact g
 |inl g=>
  have:=h 200 (List.mem_range.2 g)
  simp[KM]at this
def ckI:Nat→List DV→DV
 |120,ds=>.list (FL Hc ds)
 |_,_=>.bool false
def TCk:Tmpl:={tm:=[(0,.sy CL (.v 0)),(5,.sy CL (.v 0)),(6,.sy tI (.len (.v 0))),(7,.sy tI (.v 1))],src:=[.tm 0 CL,.tm 7 tI]}
def SCk:StdL:={n:=48,T:=TCk,tys:=[CL,tI],pre:=[(eql (.v 1) (k64 0),true)],f:=120,two:=true,yes:=(.exit 0,{tm:=[]},0),no:=(.ret,{tm:=[(2,.sc (.int .i64 250))]},0)}
abbrev Zg:Code:=B0 57 0
abbrev ckK:SX:=.at (.v 0) (.v 1) 0
abbrev ckV:SX:=.at (.v 0) (.v 1) 1
abbrev ckP:SX:=.bin .sub (.v 1) (k64 1)
def P3:RPln:=.exit false []
def ck3(p:RPln):RPln:=.ask (lss (.len ckK) (k64 1)) P3 (.ask (lss (k64 200) (.len ckK)) P3 (.ask (lss (k64 1000) (.len ckV)) P3 p))
def ckL:RPln:=.ask (eql (.v 1) (k64 200)) P3 (.next [.v 0,.bin .add (.v 1) (k64 1)])
def ckO:RPln:=.ask (lss (.at (.v 0) ckP 0) ckK) ckL P3
def pCk:RPln:=.ask (lss (.v 1) (.len (.v 0)))
 (.know (lss (.v 1) (k64 0)) false (.ask (lss (k64 0) (.v 1))
  (.know (lss ckP (k64 0)) false (.know (lss ckP (.len (.v 0))) true (ck3 (.ask (lss (k64 0) ckP) ckO ckO))))
  (ck3 ckL)))
 (.exit true [])
theorem kCk:(SCk.ok&&(Au SCk pCk&&AW SCk.L (B1 ckI (AR []) [] [] Zg) [] pCk))=true:=by kernel_rfl
def NC(ds:List DV):Prop:=∃(l:List (List DV)) (i:Int),ds=[.list l,.int .i64 i]∧0≤i∧i≤l.length∧l.length≤maxLen∧∀r∈l,IsL GD r
def O1(ds:List DV):Nat:=(lD ds 0).length-(iD ds 1).toNat
theorem ME{l:List (List DV)}(hl:∀r∈l,IsL GD r){i:Nat}(h:i<l.length):(l.getD i []).getD 0 (.bool false)=.str (Bk l i)∧(l.getD i []).getD 1 (.bool false)=.str (Hb l i):=by
 have hr:=hl l[i] (AC7 h)
 have e:l.getD i []=l[i]:=by simp[ACI,ACL h]
 obtain⟨d0,_,h0,h1,d1,_,rfl,h2,rfl⟩:=hr;obtain⟨s,rfl,_⟩:=h1.str;obtain⟨t,rfl,_⟩:=h2.str;unfold Bk Hb;rw[e,h0];exact⟨rfl,rfl⟩
theorem wx:BJ Tryz.prog G ckI Zg SCk.L:=by
 refine B5 (F:=Hc) (Inv:=NC) (μ:=O1) (AG Ha) (sub:=[]) trivial (lps:=[]) AL (fun _=>rfl) pCk kCk ?_ ?_
 ·intro ds h hp;simp only[SCk,IsL]at h;obtain⟨d0,_,rfl,h0,d1,_,rfl,h1,rfl⟩:=h;obtain⟨l,rfl,hl,hr⟩:=Is.lst h0;obtain⟨i,rfl,_⟩:=h1.i64;have p1:=hp (eql (.v 1) (k64 0),true) (by simp[SCk])
  have e1:den (AA ckI [DV.list l,.int .i64 i]) (.v 1)=.int .i64 i:=rfl
  rw[AN e1 (d_k .i64 0)]at p1;simp only[DV.bool.injEq,ACN]at p1;exact⟨l,i,rfl,by omega,by omega,hl,hr⟩
 ·rintro ds ⟨l,i,rfl,hi0,hi1,hl,hr⟩;have hmx:=LV
  generalize hR:AA ckI [DV.list l,.int .i64 i]=R;have e0:den R (.v 0)=.list l:=by rw[←hR];rfl
  have e1:den R (.v 1)=.int .i64 i:=by rw[←hR];rfl
  have hF:Hc [.list l,.int .i64 i]=(CZ l i.toNat,[]):=rfl
  show Af 0 Hc _ _ R _ pCk
  refine Ae (AB e1 (AF e0)) (fun h=>?_) (fun h=>?_)
  ·simp only[ACN]at h;have hlt:i.toNat<l.length:=by omega
   have hs:=ae hlt
   obtain⟨c1,c2⟩:=ME hr hlt;have dK:den R ckK=.str (Bk l i.toNat):=(Ab 0 e0 e1).trans c1
   have dV:den R ckV=.str (Hb l i.toNat):=(Ab 1 e0 e1).trans c2
   have hadd:=B6 (R:=R) e1 (d_k .i64 1) (by omega) (by omega)
   have bad:KM l i.toNat=false→Af 0 Hc NC O1 R [.list l,.int .i64 i] P3:=by
    intro hb;show Hc _=(false,_)
    rw[hF,hs,hb];rfl
   have three:∀p,(1≤(Bk l i.toNat).size→(Bk l i.toNat).size≤200→(Hb l i.toNat).size≤1000→Af 0 Hc NC O1 R [.list l,.int .i64 i] p)→Af 0 Hc NC O1 R [.list l,.int .i64 i] (ck3 p):=by
    intro p hp;refine Ae (AB (Az dK) (d_k .i64 1)) (fun g=>bad ?_) (fun g=>Ae (AB (d_k .i64 200) (Az dK)) (fun g2=>bad ?_) (fun g2=>Ae (AB (d_k .i64 1000) (Az dV)) (fun g3=>bad ?_) (fun g3=>hp ?_ ?_ ?_)))
    all_goals simp only[ACN,ACK,ACZ]at*
    all_goals first|omega|(unfold KM;rw[ACR (show ¬1≤(Bk l i.toNat).size by omega)];rfl)|(unfold KM;rw[ACR (show ¬(Bk l i.toNat).size≤200 by omega)];simp)|(unfold KM;rw[ACR (show ¬(Hb l i.toNat).size≤1000 by omega)];simp)
   have lastP:1≤(Bk l i.toNat).size→(Bk l i.toNat).size≤200→(Hb l i.toNat).size≤1000→(decide (i.toNat=0)||Op.bytesLess (Bk l (i.toNat-1)).toList (Bk l i.toNat).toList)=true→Af 0 Hc NC O1 R [.list l,.int .i64 i] ckL:=by
    intro q1 q2 q3 q4;refine Ae (AN e1 (d_k .i64 200)) (fun g=>bad ?_) (fun g=>?_)<;>simp only[ACN,ACK,ACZ]at g
    ·unfold KM;rw[ACR (show ¬i.toNat≠200 by omega),ADu]
    ·have ho:KM l i.toNat=true:=by
      unfold KM;rw[q4,ACb q1,ACb q2,ACb q3,ACb (show i.toNat≠200 by omega)]
      rfl
     have hτ:([.v 0,.bin .add (.v 1) (k64 1)]:List SX).map (den R)=[.list l,.int .i64 (i+1)]:=by
      simp only[ACO,ACS,e0,hadd];rfl
     show NC _∧O1 _<O1 _∧Hc _=Hc _
     rw[hτ];refine⟨⟨l,i+1,rfl,by omega,by omega,hl,hr⟩,?_,?_⟩
     ·show l.length-(i+1).toNat<l.length-i.toNat
      omega
     ·show (CZ l (i+1).toNat,_)=(CZ l i.toNat,_)
      rw[hs,ho,show (i+1).toNat=i.toNat+1 by omega]
      rfl
   refine A0 ((AB e1 (d_k .i64 0)).trans (congrArg DV.bool (ACR (by show ¬i<((0:Nat):Int);omega)))) (Ae (AB (d_k .i64 0) e1) (fun g=>?_) (fun g=>?_))<;>simp only[ACN,ACK,ACZ]at g
   ·have dP:den R ckP=.int .i64 (i-1):=Cv e1 (d_k .i64 1) (by omega) (by omega)
    obtain⟨p1,_⟩:=ME hr (show (i-1).toNat<l.length by omega)
    have dPK:den R (.at (.v 0) ckP 0)=.str (Bk l (i-1).toNat):=(Ab 0 e0 dP).trans p1
    refine A0 ((AB dP (d_k .i64 0)).trans (congrArg DV.bool (ACR (by show ¬i-1<((0:Nat):Int);omega)))) (A0 ((AB dP (AF e0)).trans (congrArg DV.bool (ACb (by omega)))) (three _ fun q1 q2 q3=>?_))
    have ord:Af 0 Hc NC O1 R [.list l,.int .i64 i] ckO:=by
     refine Ae (b:=Op.bytesLess (Bk l (i-1).toNat).toList (Bk l i.toNat).toList) (by simp only[den]at dPK dK⊢;rw[dPK,dK];rfl) (fun g=>lastP q1 q2 q3 ?_) (fun g=>bad ?_)
     ·rw[show i.toNat-1=(i-1).toNat by omega,g,Bool.or_true]
     ·unfold KM;rw[show i.toNat-1=(i-1).toNat by omega,g,ACR (show ¬i.toNat=0 by omega)]
      simp
    exact Ae (AB (d_k .i64 0) dP) (fun _=>ord) (fun _=>ord)
   ·exact three _ fun q1 q2 q3=>lastP q1 q2 q3 (by rw[ACb (show i.toNat=0 by omega)];rfl)
  ·simp only[ACK]at h;show Hc _=(true,_)
   rw[hF,gT (by omega)]
   rfl
abbrev gV:List (Nat×LoopSp):=[(3,SCk.L)]
def kr:Pln:=.ask (.at (.app 120 [.v 0,k64 0]) (k64 0) 0) (.done [[k64 0]]) (.done [[k64 250]])
theorem wy:(hasB 57&&AJ [.one tI] (Bc ckI (AR []) gV [] 57 [.one CL]) [] kr)=true:=by kernel_rfl
theorem AA8:Am Tryz.prog G 57 [.one CL] [.one tI] (fun _=>True) Fck:=by
 have hk:=wy
 rw[ACH]at hk;have hlp:CN ckI 57 gV:=by
  intro B hB M hM;have hc:A9 (B4 57)=[Zg]:=by kernel_rfl
  rw[hc]at hB;rw[ACs.1 hB];have h1:=DB hM
  rw[(AEH (ACs.1 h1)).2];exact wx
 refine Av (AG Ha) gV [] hlp hk.1 kr hk.2 ?_
 intro ds h _;simp only[An,Ba]at h;obtain⟨_,_,rfl,⟨d,rfl,h1⟩,rfl⟩:=h;obtain⟨l,rfl,_⟩:=h1.list;have hF:Fck [[DV.list l]].flatten=[[.int .i64 (if CZ l 0 then 0 else 250)]]:=rfl
 have hap:den (AA ckI [[DV.list l]].flatten) (.at (.app 120 [.v 0,k64 0]) (k64 0) 0)=.bool (CZ l 0):=by
  rw[Eh (F:=Hc) (I:=ckI) rfl (fun _=>rfl)]
  rfl
 rw[hF];refine AD hap (fun g=>?_) (fun g=>?_)<;>(show _=_;rw[g];rfl)
abbrev tSp:List Ty:=[tI,tI,CL,DI]
def Ev(f:Int)(ps path:List (List DV))(t:Int):List DV×Int:=B3 f ps path (f+ps.length) t.toNat 0 t 0
def MF(t:Int)(id:List DV):List DV:=n32 (CU (2::RZ t++zsD id))
def Ed(t f:Int)(ps path:List (List DV)):Option (List DV):=
 if t<0∨200<t∨f<0∨t<ps.length∨t-ps.length<f∨CZ ps 0=false then none
 else if t=0 then (if 0<path.length then none else some (MF 0 KN))
 else if ps.length=0 then none
 else if (Ev f ps path t).2=path.length then some (MF t (Ev f ps path t).1) else none
def RU:Option (List DV)→List (List DV)
 |some r=>[r,[.int .i64 0]]
 |none=>[KN,[.int .i64 251]]
def ou(ds:List DV):List (List DV):=RU (Ed (iD ds 0) (iD ds 1) (lD ds 2) (lD ds 3))
def eCk:Ent:=eFn 57 [.one CL] [.one tI] [] 66 []
def eCr:Ent:=eFn 73 [.one tI,.agg Ad] [.agg Ad] [] 67 []
abbrev wz:List Ent:=[eCk,eCr,eCl 256]
theorem tQ:Ap Tryz.prog G clI wz:=⟨AP AI (pre_true AA8) (fun _=>rfl) _ rfl,AP AI (pre_true tZ) (fun _=>rfl) _ rfl,Gq AI (fun L hL=>by
  simp only[ACU,ACm,or_false]at hL;subst hL;exact ot),trivial⟩
def LW:Pln:=.done [LU 32,[k64 251]]
def tpE:List SX:=[k64 0,.v 0,.v 0,.v 1,.v 2,.v 3,.bin .add (.v 1) (.len (.v 2)),k64 0]
def AA9:SX:=.app 67 (k64 0::LU 32)
def tpC:SX:=.app 67 (.v 0::Aq (.app 110 tpE) 1 32)
def w8:Pln:=.know (lss (k64 256) (.v 0)) false (.know (.app 100 tpE) true (.ask (eql (.at (.app 110 tpE) (k64 0) 33) (.len (.v 3))) (.done [Aq tpC 0 32,[k64 0]]) LW))
def ov:Pln:=
 .ask (lss (.v 0) (k64 0)) LW (.ask (lss (k64 200) (.v 0)) LW (.ask (lss (.v 1) (k64 0)) LW (.ask (lss (.v 0) (.len (.v 2))) LW (.ask (lss (.bin .sub (.v 0) (.len (.v 2))) (.v 1)) LW
  (.ask (eql (.at (.app 66 [.v 2]) (k64 0) 0) (k64 0))
   (.ask (eql (.v 0) (k64 0)) (.ask (lss (k64 0) (.len (.v 3))) LW (.done [Aq AA9 0 32,[k64 0]]))
    (.ask (eql (.len (.v 2)) (k64 0)) LW w8))
   LW)))))
theorem ABA:(hasB 123&&AJ [.agg Ad,.one tI] (Bc clI (AR wz) [] [] 123 [.agg tSp]) [] ov)=true:=by kernel_rfl
theorem zJ:Am Tryz.prog G 123 [.agg tSp] [.agg Ad,.one tI] (fun _=>True) ou:=by
 have hk:=ABA
 rw[ACH]at hk;refine Av (AG tQ) [] [] AL hk.1 ov hk.2 ?_
 intro ds h _;simp only[An,Ba,IsL]at h;obtain⟨_,_,rfl,⟨d0,_,rfl,h0,d1,_,rfl,h1,d2,_,rfl,h2,d3,_,rfl,h3,rfl⟩,rfl⟩:=h;obtain⟨t,rfl,t1,t2⟩:=h0.i64;obtain⟨f,rfl,f1,f2⟩:=h1.i64;obtain⟨ps,rfl,hps,_⟩:=h2.list;obtain⟨path,rfl,hpa,_⟩:=h3.list;have hmx:=LV
 have hF:ou [[DV.int .i64 t,.int .i64 f,.list ps,.list path]].flatten=RU (Ed t f ps path):=rfl
 rw[hF];generalize hR:AA clI [[DV.int .i64 t,.int .i64 f,.list ps,.list path]].flatten=R;have hI:R.I=clI:=by rw[←hR];rfl
 have e0:den R (.v 0)=.int .i64 t:=by rw[←hR];rfl
 have e1:den R (.v 1)=.int .i64 f:=by rw[←hR];rfl
 have e2:den R (.v 2)=.list ps:=by rw[←hR];rfl
 have e3:den R (.v 3)=.list path:=by rw[←hR];rfl
 have l2:=AF e2
 have l3:=AF e3
 have no:Ed t f ps path=none→AK R (RU (Ed t f ps path)) LW:=by
  intro hn;rw[hn];show RU none=[(LU 32).map (den R),[DV.int .i64 251]]
  rw[KO];rfl
 have cr:∀(x:SX) (z:Int) (es:List SX) (row:List DV),den R x=.int .i64 z→es.map (den R)=row→Ed t f ps path=some (MF z row)→AK R (RU (Ed t f ps path)) (.done [Aq (.app 67 (x::es)) 0 32,[k64 0]]):=by
  intro x z es row hx hes hv;rw[hv];show RU (some (MF z row))=[(Aq (.app 67 (x::es)) 0 32).map (den R),[DV.int .i64 0]]
  have hc:den R (.app 67 (x::es))=.list [CU (2::RZ z++zsD row)]:=by
   rw[AO,hI,ACO,hx,hes];rfl
  rw[CI hc];rfl
 unfold ov;refine AD (AB e0 (d_k .i64 0)) (fun g=>no ?_) (fun g0=>AD (AB (d_k .i64 200) e0) (fun g=>no ?_) (fun g1=>AD (AB e1 (d_k .i64 0)) (fun g=>no ?_) (fun g2=>AD (AB e0 l2) (fun g=>no ?_) (fun g3=>?_))))
 all_goals simp only[ACN,ACK,ACZ]at*
 ·unfold Ed;rw[if_pos (by omega)]
 ·unfold Ed;rw[if_pos (by omega)]
 ·unfold Ed;rw[if_pos (by omega)]
 ·unfold Ed;rw[if_pos (by omega)]
 ·refine AD (AB (Cv e0 l2 (by omega) (by omega)) e1) (fun g=>no ?_) (fun g4=>?_)
  all_goals simp only[ACN,ACK]at*
  ·unfold Ed;rw[if_pos (by omega)]
  ·have hck:den R (.at (.app 66 [.v 2]) (k64 0) 0)=.int .i64 (if CZ ps 0 then 0 else 250):=by
    have:den R (.app 66 [.v 2])=.list [[.int .i64 (if CZ ps 0 then 0 else 250)]]:=by
     rw[AO,hI,ACO,ACS,e2];rfl
    rw[Ab 0 this (d_k .i64 0)];rfl
   refine AD (b:=CZ ps 0) (by rw[AN hck (d_k .i64 0)];cases CZ ps 0<;>rfl) (fun g5=>?_) (fun g5=>no ?_)
   ·have hV:Ed t f ps path=if t=0 then (if 0<path.length then none else some (MF 0 KN)) else if ps.length=0 then none else if (Ev f ps path t).2=path.length then some (MF t (Ev f ps path t).1) else none:=by
     unfold Ed;rw[if_neg (by rw[g5];simp;omega)]
    refine AD (AN e0 (d_k .i64 0)) (fun g6=>?_) (fun g6=>?_)
    all_goals simp only[ACN,ACK,ACZ]at g6
    ·have g6:t=0:=g6
     rw[if_pos g6]at hV;refine AD (AB (d_k .i64 0) l3) (fun g7=>no ?_) (fun g7=>cr _ 0 _ KN rfl (by rw[KO];rfl) ?_)
     all_goals simp only[ACN,ACK,ACZ]at g7
     ·rw[hV,if_pos (by omega)]
     ·rw[hV,if_neg (by omega)]
    ·have g6:¬t=0:=g6
     rw[if_neg g6]at hV;refine AD (AN l2 (d_k .i64 0)) (fun g7=>no ?_) (fun g7=>?_)
     all_goals simp only[ACN,ACK,ACZ]at g7
     ·rw[hV,if_pos (by omega)]
     ·rw[if_neg (by omega)]at hV
      have hes:tpE.map (den R)=Fv 0 t t f (f+ps.length) 0 ps path:=by
       unfold tpE;simp only[ACO,ACS,e0,e1,e2,e3,B6 e1 l2 (by omega) (by omega)]
       rfl
      have hA:den R (.app 110 tpE)=.list [.bool true::((Ev f ps path t).1++[.int .i64 (Ev f ps path t).2])]:=by
       rw[AO,hI,hes];rfl
      have hl:(Ev f ps path t).1.length=32:=M9 _ _ _ _
      refine As ((AB (d_k .i64 256) e0).trans (congrArg DV.bool (ACR (by show ¬((256:Nat):Int)<t;omega)))) (As ?_ ?_)
      ·rw[AO,hI,hes];show DV.bool (P1 _)=_
       rw[NB];have:=gU g5
       exact congrArg DV.bool (ACb ⟨by omega,by omega,by omega,by omega,by omega,this,rfl,by omega,by omega⟩)
      ·have d33:den R (.at (.app 110 tpE) (k64 0) 33)=.int .i64 (Ev f ps path t).2:=by
        rw[Ab 33 hA (d_k .i64 0)];show (DV.bool true::((Ev f ps path t).1++[.int .i64 (Ev f ps path t).2])).getD 33 _=_
        rw[ACr,ACI,ACV (by omega),hl]
        rfl
       refine AD (AN d33 l3) (fun g8=>cr _ t _ (Ev f ps path t).1 e0 ?_ ?_) (fun g8=>no ?_)
       all_goals simp only[ACN,ACK]at g8
       ·rw[CI hA];have:=GC (.bool true) (.bool false) [.int .i64 (Ev f ps path t).2] (Ev f ps path t).1 1 [.bool true] rfl
        rw[hl]at this;exact this
       ·rw[hV,if_pos g8]
       ·rw[hV,if_neg g8]
   ·unfold Ed;rw[if_pos (by rw[g5];simp)]
theorem Tl{R:Rho}{x y:SX}{a b:ByteArray}(hx:den R x=.str a)(hy:den R y=.str b):den R (lss x y)=.bool (Op.bytesLess a.toList b.toList):=by
 simp only[den]at hx hy⊢;rw[hx,hy];rfl
theorem cn(R:Rho){x y:SX}{a b:List (List DV)}(hx:den R x=.list a)(hy:den R y=.list b):den R (.cat x y)=.list (a++b):=by
 simp only[den,hx,hy,Du]
theorem ABB:Am Tryz.prog G 124 [.agg tRg,.one .str] [.one .bool] (fun _=>True) Fin:=by
 have hk:=kIn
 rw[ACH]at hk;refine Av (AG Ha) [] [] AL hk.1 pIn hk.2 ?_
 intro ds h _;simp only[An,Ba,IsL]at h;obtain⟨_,_,rfl,⟨d0,_,rfl,h0,d1,_,rfl,h1,d2,_,rfl,h2,rfl⟩,_,_,rfl,⟨d3,rfl,h3⟩,rfl⟩:=h;obtain⟨a,rfl,_⟩:=h0.str;obtain⟨b,rfl,_⟩:=h1.str;obtain⟨op,rfl⟩:=h2.bool;obtain⟨k,rfl,_⟩:=h3.str;have hF:Fin [[DV.str a,.str b,.bool op],[.str k]].flatten=[[.bool (FW a b op k)]]:=rfl
 rw[hF];generalize hR:AA shI [[DV.str a,.str b,.bool op],[.str k]].flatten=R;have e0:den R (.v 0)=.str a:=by rw[←hR];rfl
 have e1:den R (.v 1)=.str b:=by rw[←hR];rfl
 have e2:den R (.v 2)=.bool op:=by rw[←hR];rfl
 have e3:den R (.v 3)=.str k:=by rw[←hR];rfl
 refine AD (Tl e3 e0) (fun g=>?_) (fun g=>AD e2 (fun g2=>?_) (fun g2=>?_))
 ·show _=[[DV.bool false]]
  unfold FW;rw[g];rfl
 ·show _=[[DV.bool true]]
  unfold FW;rw[g,g2];rfl
 ·show _=[[den R (lss (.v 3) (.v 1))]]
  rw[Tl e3 e1];unfold FW;rw[g,g2];rfl
def JS(a b:ByteArray)(op:Bool)(r:List DV):Bool:=FW a b op (sD r 0)
def LX(ds:List DV):Bool×List DV:=(true,[.list (lD ds 1++((lD ds 0).drop (iD ds 2).toNat).filter (JS (sD ds 3) (sD ds 4) (bD ds 5)))])
def P4(a b:Nat→DV):Nat→Nat→Bool
 |_,0=>true
 |k,n+1=>isT (AZ .eql (a k) (b k))&&P4 a b (k+1) n
def KP(t f:Int)(ps:List (List DV))(a b:ByteArray)(op:Bool):Bool:=
 (!Op.bytesLess (Bk ps 0).toList a.toList&&decide (0<f))||((Op.bytesLess (Bk ps (ps.length-1)).toList a.toList||FW a b op (Bk ps (ps.length-1)))&&decide (f+ps.length<t))
def Hd(ds:List DV)(t f:Int)(ps path:List (List DV))(a b:ByteArray)(op:Bool):Option (List (List DV)):=
 match Ed t f ps path with
 |none=>none
 |some r=>if P4 (fun i=>r.getD i (.bool false)) (fun i=>ds.getD i (.bool false)) 0 32=false then none
  else if t=0 then some []
  else if KP t f ps a b op then none
  else some (ps.filter (JS a b op))
def RV:Option (List (List DV))→List (List DV)
 |some l=>[[.list l],[.int .i64 0]]
 |none=>[[.list []],[.int .i64 251]]
def VZ(ds:List DV):List (List DV):=RV (Hd ds (iD ds 35) (iD ds 36) (lD ds 37) (lD ds 38) (sD ds 32) (sD ds 33) (bD ds 34))
def vfI:Nat→List DV→DV
 |68,ds=>.list (ou ds)
 |69,ds=>.list (Fin ds)
 |121,ds=>.list (FL LX ds)
 |_,_=>.bool false
def eTp:Ent:=eFn 123 [.agg tSp] [.agg Ad,.one tI] [] 68 []
def eIn:Ent:=eFn 124 [.agg tRg,.one .str] [.one .bool] [] 69 []
theorem w9:Ap Tryz.prog G vfI [eIn]:=⟨AP AI (pre_true ABB) (fun _=>rfl) _ rfl,trivial⟩
theorem ABC:Ap Tryz.prog G vfI [eTp,eIn]:=⟨AP AI (pre_true zJ) (fun _=>rfl) _ rfl,w9⟩
def TVf:Tmpl:={tm:=[(4,.ptr 1 0),(12,.own 7 GD (.v 1)),(76,.sy CL (.v 0)),(77,.sy tI (.len (.v 0))),(78,.sy tI (.v 2))],ob:=[(1,Bz 100 [.sy .str (.v 3),.sy .str (.v 4),.sy .bool (.v 5)])],ow:=[⟨7,110,GD,.v 1⟩],src:=[.tm 76 CL,.own 0,.tm 78 tI,.cell 1 0 .str,.cell 1 1 .str,.cell 1 2 .bool],osrc:=[.tm 12 110 GD]}
def YVf:Tmpl:={tm:=[(12,.sy CL (.v 0))],ob:=[(1,Bz 100 [.dead,.dead,.dead])],src:=[.tm 12 CL],isrc:=[.tm 12 110 GD]}
def SVf:StdL:={n:=92,T:=TVf,tys:=[CL,CL,tI,.str,.str,.bool],pre:=[(eql (.v 2) (k64 0),true),(lss (k64 0) (.len (.v 1)),false),(lss (k64 200) (.len (.v 0)),false)],f:=121,yes:=(.exit 0,YVf,1)}
abbrev Zh:Code:=B0 90 0
def vfT:SX:=.at (.app 69 [.v 3,.v 4,.v 5,.at (.v 0) (.v 2) 0]) (k64 0) 0
def vfN:RPln:=.ask vfT
 (.know (lss (k64 1000000) (.len (.v 1))) false (.next [.v 0,.cat (.v 1) (.row [.at (.v 0) (.v 2) 0,.at (.v 0) (.v 2) 1]),.bin .add (.v 2) (k64 1),.v 3,.v 4,.v 5]))
 (.next [.v 0,.v 1,.bin .add (.v 2) (k64 1),.v 3,.v 4,.v 5])
def rVf:RPln:=.ask (lss (.v 2) (.len (.v 0))) (.know (lss (.v 2) (k64 0)) false (.ask (lss (k64 0) (.v 2)) vfN vfN)) (.exit true [.v 1])
theorem ABD:(SVf.ok&&(Au SVf rVf&&AW SVf.L (B1 vfI (AR [eIn]) [] [] Zh) [] rVf))=true:=by kernel_rfl
def XM(ds:List DV):Prop:=∃l out i a b op,ds=[.list l,.list out,.int .i64 i,.str a,.str b,.bool op]∧0≤i∧i≤l.length∧l.length≤200∧out.length≤i∧∀r∈l,IsL GD r
def Zi(ds:List DV):Nat:=(lD ds 0).length-(iD ds 2).toNat
theorem Va{l out:List (List DV)}{i:Int}{a b:ByteArray}{op:Bool}:LX [.list l,.list out,.int .i64 i,.str a,.str b,.bool op]=(true,[.list (out++(l.drop i.toNat).filter (JS a b op))]):=rfl
theorem ox{l:List (List DV)}(hl:∀r∈l,IsL GD r){i:Nat}(h:i<l.length):l[i]=[.str (Bk l i),.str (Hb l i)]:=by
 have hr:=hl l[i] (AC7 h)
 have e:l.getD i []=l[i]:=by simp[ACI,ACL h]
 obtain⟨d0,_,h0,h1,d1,_,rfl,h2,rfl⟩:=hr;obtain⟨s,rfl,_⟩:=h1.str;obtain⟨t,rfl,_⟩:=h2.str;unfold Bk Hb;rw[e,h0];rfl
theorem xA:BJ Tryz.prog G vfI Zh SVf.L:=by
 refine B5 (F:=LX) (Inv:=XM) (μ:=Zi) (AG w9) (sub:=[]) trivial (lps:=[]) AL (fun _=>rfl) rVf ABD ?_ ?_
 ·intro ds h hp;simp only[SVf,IsL]at h;obtain⟨d0,_,rfl,h0,d1,_,rfl,h1,d2,_,rfl,h2,d3,_,rfl,h3,d4,_,rfl,h4,d5,_,rfl,h5,rfl⟩:=h;obtain⟨l,rfl,hl,hr⟩:=Is.lst h0;obtain⟨out,rfl,_⟩:=h1.list;obtain⟨i,rfl,_⟩:=h2.i64;obtain⟨a,rfl,_⟩:=h3.str;obtain⟨b,rfl,_⟩:=h4.str;obtain⟨op,rfl⟩:=h5.bool;have p1:=hp (eql (.v 2) (k64 0),true) (by simp[SVf])
  have p2:=hp (lss (k64 0) (.len (.v 1)),false) (by simp[SVf])
  have p3:=hp (lss (k64 200) (.len (.v 0)),false) (by simp[SVf])
  generalize hR:AA vfI [DV.list l,.list out,.int .i64 i,.str a,.str b,.bool op]=R at p1 p2 p3;have e0:den R (.v 0)=.list l:=by rw[←hR];rfl
  have e1:den R (.v 1)=.list out:=by rw[←hR];rfl
  have e2:den R (.v 2)=.int .i64 i:=by rw[←hR];rfl
  rw[AN e2 (d_k .i64 0)]at p1;rw[AB (d_k .i64 0) (AF e1)]at p2;rw[AB (d_k .i64 200) (AF e0)]at p3;simp only[DV.bool.injEq,ACN,ACK,ACZ]at p1 p2 p3;exact⟨l,out,i,a,b,op,rfl,by omega,by omega,by omega,by omega,hr⟩
 ·rintro ds ⟨l,out,i,a,b,op,rfl,hi0,hi1,hl,ho,hr⟩;have hI:(AA vfI [DV.list l,.list out,.int .i64 i,.str a,.str b,.bool op]).I=vfI:=rfl
  generalize hR:AA vfI [DV.list l,.list out,.int .i64 i,.str a,.str b,.bool op]=R at hI;have e0:den R (.v 0)=.list l:=by rw[←hR];rfl
  have e1:den R (.v 1)=.list out:=by rw[←hR];rfl
  have e2:den R (.v 2)=.int .i64 i:=by rw[←hR];rfl
  have e3:den R (.v 3)=.str a:=by rw[←hR];rfl
  have e4:den R (.v 4)=.str b:=by rw[←hR];rfl
  have e5:den R (.v 5)=.bool op:=by rw[←hR];rfl
  show Af 0 LX _ _ R _ rVf
  refine Ae (AB e2 (AF e0)) (fun h=>?_) (fun h=>?_)
  ·simp only[ACN]at h;have hlt:i.toNat<l.length:=by omega
   obtain⟨c1,c2⟩:=ME hr hlt;have dK:=(Ab 0 e0 e2).trans c1
   have dV:=(Ab 1 e0 e2).trans c2
   have hadd:=B6 (R:=R) e2 (d_k .i64 1) (by omega) (by omega)
   have hrow:=ox hr hlt
   have hdrop:(l.drop i.toNat).filter (JS a b op)=(if FW a b op (Bk l i.toNat) then [[DV.str (Bk l i.toNat),.str (Hb l i.toNat)]] else [])++(l.drop (i+1).toNat).filter (JS a b op):=by
    rw[ACj hlt,List.filter_cons,show (i+1).toNat=i.toNat+1 by omega,show JS a b op l[i.toNat]=FW a b op (Bk l i.toNat) by rw[hrow];rfl,hrow]
    split<;>rfl
   have dT:den R vfT=.bool (FW a b op (Bk l i.toNat)):=by
    have:den R (.app 69 [.v 3,.v 4,.v 5,.at (.v 0) (.v 2) 0])=.list [[.bool (FW a b op (Bk l i.toNat))]]:=by
     rw[AO,hI];simp only[ACO,ACS,e3,e4,e5,dK];rfl
    unfold vfT;rw[Ab 0 this (d_k .i64 0)];rfl
   have next:∀(e:SX) (out':List (List DV)),den R e=.list out'→out'.length≤i+1→out'++(l.drop (i+1).toNat).filter (JS a b op)=out++(l.drop i.toNat).filter (JS a b op)→Af 0 LX XM Zi R [.list l,.list out,.int .i64 i,.str a,.str b,.bool op] (.next [.v 0,e,.bin .add (.v 2) (k64 1),.v 3,.v 4,.v 5]):=by
    intro e out' he hle heq;have hτ:([.v 0,e,.bin .add (.v 2) (k64 1),.v 3,.v 4,.v 5]:List SX).map (den R)=[.list l,.list out',.int .i64 (i+1),.str a,.str b,.bool op]:=by
     simp only[ACO,ACS,e0,he,hadd,e3,e4,e5];rfl
    show XM _∧Zi _<Zi _∧LX _=LX _
    rw[hτ];refine⟨⟨l,out',i+1,a,b,op,rfl,by omega,by omega,hl,hle,hr⟩,?_,?_⟩
    ·show l.length-(i+1).toNat<l.length-i.toNat
     omega
    ·rw[Va,Va,heq]
   have body:Af 0 LX XM Zi R [.list l,.list out,.int .i64 i,.str a,.str b,.bool op] vfN:=by
    refine Ae dT (fun g=>A0 ((AB (d_k .i64 1000000) (AF e1)).trans (congrArg DV.bool (ACR (by show ¬((1000000:Nat):Int)<out.length;omega)))) (next _ (out++[[DV.str (Bk l i.toNat),.str (Hb l i.toNat)]]) ?_ ?_ ?_)) (fun g=>next _ out e1 (by omega) ?_)
    ·refine cn R e1 ?_
     show DV.list [[den R (.at (.v 0) (.v 2) 0),den R (.at (.v 0) (.v 2) 1)]]=_
     rw[dK,dV]
    ·rw[ACT];simp;omega
    ·rw[hdrop,if_pos g,ACy]
    ·rw[hdrop,if_neg (by rw[g];simp),ADD]
   exact A0 ((AB e2 (d_k .i64 0)).trans (congrArg DV.bool (ACR (by show ¬i<((0:Nat):Int);omega)))) (Ae (AB (d_k .i64 0) e2) (fun _=>body) (fun _=>body))
  ·simp only[ACK]at h;show LX _=(true,[den R (.v 1)])
   rw[Va,e1,AC2 (by omega),List.filter_nil,ADg]
abbrev gW:List (Nat×LoopSp):=[(12,SVf.L)]
theorem ABE:CN vfI 90 gW:=by
 intro B hB M hM;have hc:A9 (B4 90)=[Zh]:=by kernel_rfl
 rw[hc]at hB;rw[ACs.1 hB];have h1:=DB hM
 rw[(AEH (ACs.1 h1)).2];exact xA
def vT:SX:=.app 68 [.v 35,.v 36,.v 37,.v 38]
def Vb(e:SX):Nat→Nat→List SX
 |_,0=>[]
 |k,n+1=>.bin .eql (.at e (k64 0) k) (.v k)::Vb e (Nat.succ k) n
def vNo:Pln:=.done [[.emp],[k64 251]]
def vL:SX:=.bin .sub (.len (.v 37)) (k64 1)
def vK0:SX:=.at (.v 37) (k64 0) 0
def vK1:SX:=.at (.v 37) vL 0
def vIn:SX:=.at (.app 69 [.v 32,.v 33,.v 34,vK1]) (k64 0) 0
def oy:Pln:=.know (lss (k64 0) (.len .emp)) false (.done [[.at (.app 121 [.v 37,.emp,k64 0,.v 32,.v 33,.v 34]) (k64 0) 1],[k64 0]])
def vC:Pln:=.ask (lss (.bin .add (.v 36) (.len (.v 37))) (.v 35)) vNo oy
def vB:Pln:=.ask (lss vK1 (.v 32)) vC (.ask vIn vC oy)
def vA:Pln:=.ask (lss vK0 (.v 32)) vB (.ask (lss (k64 0) (.v 36)) vNo vB)
def xB:Pln:=
 .ask (eql (.at vT (k64 1) 0) (k64 0))
  (.ask (.all (Vb vT 0 32))
   (.ask (eql (.v 35) (k64 0)) (.done [[.emp],[k64 0]])
    (.know (lss (k64 0) (.len (.v 37))) true (.know (lss (k64 200) (.len (.v 37))) false (.know (lss vL (.len (.v 37))) true (.ask (lss (k64 0) vL) vA (.know (lss vL (k64 0)) false vA))))))
   vNo)
  vNo
theorem ABF:(hasB 90&&AJ [.one CL,.one tI] (Bc vfI (AR [eTp,eIn]) gW [] 90 [.agg Ad,.agg tRg,.agg tSp]) [] xB)=true:=by kernel_rfl
theorem ku{ds:List DV}{t f:Int}{ps path:List (List DV)}{a b:ByteArray}{op:Bool}(h:Ed t f ps path=none):Hd ds t f ps path a b op=none:=by
 unfold Hd;rw[h]
theorem kv{ds:List DV}{t f:Int}{ps path:List (List DV)}{a b:ByteArray}{op:Bool}{r:List DV}(h:Ed t f ps path=some r):Hd ds t f ps path a b op=if P4 (fun i=>r.getD i (.bool false)) (fun i=>ds.getD i (.bool false)) 0 32=false then none
  else if t=0 then some [] else if KP t f ps a b op then none else some (ps.filter (JS a b op)):=by
 unfold Hd;rw[h]
theorem gX{t f:Int}{ps path:List (List DV)}{r:List DV}(h:Ed t f ps path=some r):0≤t∧t≤200∧0≤f∧ps.length≤t∧f≤t-ps.length∧ps.length≤200∧(t=0∨0<ps.length)∧CZ ps 0=true:=by
 unfold Ed at h;split at h
 ·cases h
 ·rename_i g;have g5:CZ ps 0=true:=by
   cases e:CZ ps 0 with
   |true=>rfl
   |false=>exact absurd (.inr (.inr (.inr (.inr (.inr e))))) g
  refine⟨by omega,by omega,by omega,by omega,by omega,by omega,?_,g5⟩
  split at h
  ·exact .inl (by assumption)
  ·split at h
   ·cases h
   ·exact .inr (by omega)
theorem zK:Am Tryz.prog G 90 [.agg Ad,.agg tRg,.agg tSp] [.one CL,.one tI] (fun _=>True) VZ:=by
 have hk:=ABF
 rw[ACH]at hk;refine Av (AG ABC) gW [] ABE hk.1 xB hk.2 ?_
 intro ds h _;simp only[An,Ba]at h;obtain⟨_,_,rfl,hid,_,_,rfl,hrg,_,_,rfl,hsp,rfl⟩:=h;obtain⟨rt,rfl,hrl,_⟩:=O5 32 _ hid;simp only[IsL]at hrg hsp;obtain⟨d0,_,rfl,h0,d1,_,rfl,h1,d2,_,rfl,h2,rfl⟩:=hrg;obtain⟨d4,_,rfl,h4,d5,_,rfl,h5,d6,_,rfl,h6,d7,_,rfl,h7,rfl⟩:=hsp;obtain⟨a,rfl,_⟩:=h0.str;obtain⟨b,rfl,_⟩:=h1.str;obtain⟨op,rfl⟩:=h2.bool;obtain⟨t,rfl,t1,t2⟩:=h4.i64;obtain⟨f,rfl,f1,f2⟩:=h5.i64;obtain⟨ps,rfl,hpm,hps⟩:=Is.lst h6;obtain⟨path,rfl,_⟩:=h7.list;have hfl:[rt.map u8D,[DV.str a,.str b,.bool op],[.int .i64 t,.int .i64 f,.list ps,.list path]].flatten=rt.map u8D++[DV.str a,.str b,.bool op,.int .i64 t,.int .i64 f,.list ps,.list path]:=by simp
 rw[hfl];have gd:∀k,(rt.map u8D++[DV.str a,.str b,.bool op,.int .i64 t,.int .i64 f,.list ps,.list path]).getD (32+k) (.bool false)=[DV.str a,.str b,.bool op,.int .i64 t,.int .i64 f,.list ps,.list path].getD k (.bool false):=by
  intro k;rw[ACI,ACV (by rw[ACX];omega),ACX,hrl,AD2,←ACI]
 generalize hD:rt.map u8D++[DV.str a,.str b,.bool op,.int .i64 t,.int .i64 f,.list ps,.list path]=D at gd;have hF:VZ D=RV (Hd D t f ps path a b op):=by
  have w0:sD D 32=a:=by unfold sD;rw[gd 0];rfl
  have w1:sD D 33=b:=by unfold sD;rw[gd 1];rfl
  have w2:bD D 34=op:=by unfold bD;rw[gd 2];rfl
  have w3:iD D 35=t:=by unfold iD;rw[gd 3];rfl
  have w4:iD D 36=f:=by unfold iD;rw[gd 4];rfl
  have w5:lD D 37=ps:=by unfold lD;rw[gd 5];rfl
  have w6:lD D 38=path:=by unfold lD;rw[gd 6];rfl
  unfold VZ;rw[w0,w1,w2,w3,w4,w5,w6]
 rw[hF];have hρ:(AA vfI D).ρ=fun i=>D.getD i (.bool false):=rfl
 have hI:(AA vfI D).I=vfI:=rfl
 have e32:den (AA vfI D) (.v 32)=.str a:=gd 0
 have e33:den (AA vfI D) (.v 33)=.str b:=gd 1
 have e34:den (AA vfI D) (.v 34)=.bool op:=gd 2
 have e35:den (AA vfI D) (.v 35)=.int .i64 t:=gd 3
 have e36:den (AA vfI D) (.v 36)=.int .i64 f:=gd 4
 have e37:den (AA vfI D) (.v 37)=.list ps:=gd 5
 have e38:den (AA vfI D) (.v 38)=.list path:=gd 6
 generalize AA vfI D=R at hρ hI e32 e33 e34 e35 e36 e37 e38;have dT:den R vT=.list (RU (Ed t f ps path)):=by
  unfold vT;rw[AO,hI];simp only[ACO,ACS,e35,e36,e37,e38];rfl
 have no:Hd D t f ps path a b op=none→AK R (RV (Hd D t f ps path a b op)) vNo:=by
  intro hn;rw[hn];rfl
 cases hv:Ed t f ps path with
 |none=>
  have hn:=ku (ds:=D) (a:=a) (b:=b) (op:=op) hv
  rw[hv]at dT;refine AD (b:=false) ?_ (fun g=>by cases g) (fun _=>no hn)
  have:den R (.at vT (k64 1) 0)=.int .i64 251:=by
   rw[Ab 0 dT (d_k .i64 1)];rfl
  rw[AN this (d_k .i64 0)];rfl
 |some r=>
  have hs:=kv (ds:=D) (a:=a) (b:=b) (op:=op) hv
  obtain⟨q1,q2,q3,q4,q5,q6,q7,q8⟩:=gX hv;rw[hv]at dT;refine AD (b:=true) ?_ (fun _=>?_) (fun g=>by cases g)
  ·have:den R (.at vT (k64 1) 0)=.int .i64 0:=by
    rw[Ab 0 dT (d_k .i64 1)];rfl
   rw[AN this (d_k .i64 0)];rfl
  have hall:den R (.all (Vb vT 0 32))=.bool (P4 (fun i=>r.getD i (.bool false)) (fun i=>D.getD i (.bool false)) 0 32):=by
   have g:∀n k:Nat,den.denAll R (Vb vT k n)=P4 (fun i=>r.getD i (.bool false)) R.ρ k n:=by
    intro n
    induction n with
    |zero=>intro k;rfl
    |succ n ih=>
     intro k;have h1:den R (.at vT (k64 0) k)=r.getD k (.bool false):=by
      rw[Ab k dT (d_k .i64 0)];rfl
     simp only[den]at h1;simp only[Vb,den.denAll,P4,ih,den,h1]
   show DV.bool (den.denAll R (Vb vT 0 32))=_
   rw[g,hρ]
  refine AD hall (fun g1=>AD (AN e35 (d_k .i64 0)) (fun g2=>?_) (fun g2=>?_)) (fun g1=>no ?_)
  ·simp only[ACN]at g2;have g2:t=0:=g2
   rw[hs,if_neg (by rw[g1];simp),if_pos g2]
   rfl
  ·simp only[ACK]at g2;have g2:¬t=0:=g2
   rw[if_neg (by rw[g1];simp),if_neg g2]at hs
   have hlen:0<ps.length:=by omega
   have dl:=AF e37
   have dL:den R vL=.int .i64 (ps.length-1):=Cv dl (d_k .i64 1) (by omega) (by omega)
   have dK0:den R vK0=.str (Bk ps 0):=(Ab 0 e37 (d_k .i64 0)).trans (ME hps hlen).1
   have dK1:den R vK1=.str (Bk ps (ps.length-1)):=by
    refine (Ab 0 e37 dL).trans ?_
    rw[show ((ps.length:Int)-1).toNat=ps.length-1 by omega]
    exact (ME hps (by omega)).1
   have dIn:den R vIn=.bool (FW a b op (Bk ps (ps.length-1))):=by
    have:den R (.app 69 [.v 32,.v 33,.v 34,vK1])=.list [[.bool (FW a b op (Bk ps (ps.length-1)))]]:=by
     rw[AO,hI];simp only[ACO,ACS,e32,e33,e34,dK1];rfl
    unfold vIn;rw[Ab 0 this (d_k .i64 0)];rfl
   have out:KP t f ps a b op=false→AK R (RV (Hd D t f ps path a b op)) oy:=by
    intro hb;rw[hs,hb];refine As ?_ ?_
    ·show DV.bool (decide _)=_
     simp
    ·show _=[[den R (.at (.app 121 [.v 37,.emp,k64 0,.v 32,.v 33,.v 34]) (k64 0) 1)],[DV.int .i64 0]]
     rw[Eh (F:=LX) hI (fun _=>rfl)]
     simp only[ACO,ACS,e37,e32,e33,e34];rfl
   have cc:(Op.bytesLess (Bk ps (ps.length-1)).toList a.toList||FW a b op (Bk ps (ps.length-1)))=true→(!Op.bytesLess (Bk ps 0).toList a.toList&&decide (0<f))=false→AK R (RV (Hd D t f ps path a b op)) vC:=by
    intro c1 c2;refine AD (AB (B6 e36 dl (by omega) (by omega)) e35) (fun g=>no ?_) (fun g=>out ?_)
    ·rw[hs,if_pos];unfold KP;rw[c1,g,c2];rfl
    ·unfold KP;rw[c1,g,c2];rfl
   have bb:(!Op.bytesLess (Bk ps 0).toList a.toList&&decide (0<f))=false→AK R (RV (Hd D t f ps path a b op)) vB:=by
    intro c2;refine AD (Tl dK1 e32) (fun g=>cc (by rw[g];rfl) c2) (fun g=>AD dIn (fun g2=>cc (by rw[g,g2];rfl) c2) (fun g2=>out ?_))
    unfold KP;rw[c2,g,g2];rfl
   have aa:AK R (RV (Hd D t f ps path a b op)) vA:=by
    refine AD (Tl dK0 e32) (fun g=>bb (by rw[g];rfl)) (fun g=>AD (AB (d_k .i64 0) e36) (fun g2=>no ?_) (fun g2=>bb ?_))
    ·simp only[ACN,ACZ]at g2;rw[hs,if_pos];unfold KP;rw[g,ACb (show 0<f by simpa using g2)]
     rfl
    ·simp only[ACK,ACZ]at g2;rw[ACR (show ¬0<f by simpa using g2),ADu]
   refine As ((AB (d_k .i64 0) dl).trans (congrArg DV.bool (ACb (by show ((0:Nat):Int)<ps.length;omega)))) (As ((AB (d_k .i64 200) dl).trans (congrArg DV.bool (ACR (by show ¬((200:Nat):Int)<ps.length;omega)))) (As ((AB dL dl).trans (congrArg DV.bool (ACb (by omega)))) (AD (AB (d_k .i64 0) dL) (fun _=>aa) (fun _=>As ((AB dL (d_k .i64 0)).trans (congrArg DV.bool (ACR (by show ¬(ps.length:Int)-1<((0:Nat):Int);omega)))) aa))))
  ·rw[hs,if_pos g1]
end Go.Proofs.YtobajijkmmhdjaaGreatDoor.Se
namespace Go.Proofs.YtobajijkmmhdjaaGreatDoor.Se
open Go Go.AM Go.RowKit
def BK(n:Int):Int:=2^(Lib.bitLen (n-1).toNat-1)
theorem Zj{m:Nat}(h1:1≤m)(h2:m≤1023):1≤Lib.bitLen m∧Lib.bitLen m≤10∧2^(Lib.bitLen m-1)≤m:=by
 have h:=Lib.bitLenAux_bounds 64 m (by omega) (by omega)
 obtain⟨a,b,c⟩:=h;refine⟨a,?_,b⟩
 cases ADd 10 (Lib.bitLen m) with
 |inr g=>exact g
 |inl g=>
  have:2^10≤2^(Lib.bitLen m-1):=AEO (by decide) (by omega)
  have b:2^(Lib.bitLen m-1)≤m:=b
  omega
theorem RW{n:Int}(h1:2≤n)(h2:n≤1024):1≤BK n∧BK n<n:=by
 obtain⟨a,b,c⟩:=Zj (m:=(n-1).toNat) (by omega) (by omega)
 unfold BK;have e:(2:Int)^(Lib.bitLen (n-1).toNat-1)=((2^(Lib.bitLen (n-1).toNat-1):Nat):Int):=by push_cast;rfl
 have p:1≤2^(Lib.bitLen (n-1).toNat-1):=Nat.one_le_two_pow
 rw[e];omega
set_option maxHeartbeats 1600000 in
set_option maxRecDepth 1000000 in
theorem kx(n:Int)(h1:2≤n)(h2:n≤1024)(w:World):Calls Tryz.prog 68 #[.int .i64 n] w fun e w'=>e=.returned (.int .i64 (BK n))∧w'=w:=by
 have hLen:∀w,Calls Tryz.prog 112 #[.int .u64 (n-1)] w fun e w'=>e=.returned (.int .i64 (Lib.bitLen (n-1).toNat))∧w'=w:=fun w=>Tryz.bits_Len (n-1) w (by omega) (by omega)
 obtain⟨a,b,c⟩:=Zj (m:=(n-1).toNat) (by omega) (by omega)
 have e:(2:Int)^(Lib.bitLen (n-1).toNat-1)=((2^(Lib.bitLen (n-1).toNat-1):Nat):Int):=by push_cast;rfl
 have w1:IntKind.i64.wrap (n-1)=n-1:=by rw[IntKind.wrap_i64];omega
 have w2:IntKind.u64.wrap (n-1)=n-1:=by rw[IntKind.wrap_u64];omega
 unfold BK;generalize Lib.bitLen (n-1).toNat=L at *;clear e c;have hL:L=1∨L=2∨L=3∨L=4∨L=5∨L=6∨L=7∨L=8∨L=9∨L=10:=by omega
 rcases hL with rfl|rfl|rfl|rfl|rfl|rfl|rfl|rfl|rfl|rfl
 all_goals
  go_enter Tryz.func68,Tryz.ntmps68
  go_wp2_with (first|(go_at_call 112;refine (hLen _).mono ?_;rintro e w' ⟨rfl,rfl⟩))
 all_goals
  go_ret
  exact⟨rfl,rfl⟩
def ky(ds:List DV):List (List DV):=[[.int .i64 (BK (iD ds 0))]]
abbrev Zk:List (SX×Bool):=[(lss (.v 0) (k64 2),false),(lss (k64 1024) (.v 0),false)]
theorem tR(I:Nat→List DV→DV):Am Tryz.prog G 68 [.one tI] [.one tI] (fun ds=>∀p∈Zk,den (AA I ds) p.1=.bool p.2) ky:=by
 refine⟨Dj (by kernel_rfl),fun E ds vs w hE hr hpre _=>?_⟩
 simp only[RepArgs,RepOne]at hr;obtain⟨_,_,v1,_,rfl,e1,⟨d1,rfl,g1⟩,rfl,rfl⟩:=hr;simp only[Rep]at g1;obtain⟨z,rfl,rfl,_,_⟩:=g1;have hvs:vs=#[.int .i64 z]:=AD0.1 e1
 subst hvs;have h0:den (AA I [[DV.int .i64 z]].flatten) (.v 0)=.int .i64 z:=rfl
 have k1:=hpre (lss (.v 0) (k64 2),false) (by simp)
 have k2:=hpre (lss (k64 1024) (.v 0),false) (by simp)
 rw[AB h0 (d_k .i64 2)]at k1;rw[AB (d_k .i64 1024) h0]at k2;simp only[DV.bool.injEq,ACK,ACZ]at k1 k2;refine (kx z (by omega) (by omega) w).mono ?_
 rintro e w' ⟨rfl,rfl⟩;refine⟨_,E,rfl,⟨fun _ _ h=>h,fun b o h=>⟨hE b o h,.inl h⟩,fun _ _=>rfl,rfl⟩,?_⟩
 simp only[RepRes,RepOne];refine⟨_,rfl,.int .i64 (BK z),rfl,?_⟩
 obtain⟨s1,s2⟩:=RW (n:=z) (by omega) (by omega)
 simp only[Rep];refine⟨BK z,rfl,rfl,?_,?_⟩<;>simp[IntKind.min,IntKind.max,IntKind.signed,IntKind.bits]<;>omega
end Go.Proofs.YtobajijkmmhdjaaGreatDoor.Se
namespace Go.Proofs.YtobajijkmmhdjaaGreatDoor.Se
open Go Go.AM
abbrev tDig:List Ty:=.int .u64::(List.replicate 32 tU8++List.replicate 32 tU8)
abbrev tDs:Ty:=.slice tDig
abbrev BN:List Ty:=[tI,.int .u32,.str,.bool]++tQry++[.bool,tI,tDs]
def fY:Nat→List AV
 |0=>[]
 |n+1=>.dead::fY n
def B8(l:List (List DV))(i:Nat):Int:=iD (l.getD i []) 0
def Mv(l:List (List DV))(i:Nat):Bool:=decide (i=0)||decide (B8 l (i-1)<B8 l i)
def CS(l:List (List DV))(i:Nat):Bool:=((List.range l.length).drop i).all (Mv l)
def KA(ds:List DV):Bool×List DV:=(true,[.bool (bD ds 1&&CS (lD ds 0) (iD ds 2).toNat)])
theorem aY{l:List (List DV)}{i:Nat}(h:l.length≤i):CS l i=true:=by
 unfold CS;rw[AC2 (by rw[AEg];exact h)]
 rfl
theorem Yv{l:List (List DV)}{i:Nat}(h:i<l.length):CS l i=(Mv l i&&CS l (i+1)):=by
 unfold CS;rw[ACj (by rw[AEg];exact h),AEb,List.getElem_range]
def TCc:Tmpl:={tm:=[(1,.ptr 0 0),(5,.sy .bool (.v 1)),(86,.sy tDs (.v 0)),(87,.sy tI (.len (.v 0))),(88,.sy tI (.v 2))],ob:=[(0,Bz 36 (fY 82++[.sy tDs (.v 0)]))],src:=[.tm 86 tDs,.tm 5 .bool,.tm 88 tI]}
def YCc:Tmpl:={tm:=[(5,.sy .bool (.v 0))],ob:=[(0,Bz 36 (fY 83))],src:=[.tm 5 .bool]}
def SCc:StdL:={n:=113,T:=TCc,tys:=[tDs,.bool,tI],pre:=[(eql (.v 2) (k64 0),true)],f:=122,yes:=(.exit 0,YCc,1)}
abbrev Yw:Code:=B0 8 0
def ccI:Nat→List DV→DV
 |122,ds=>.list (FL KA ds)
 |n,ds=>AE n ds
abbrev ccP:SX:=.bin .sub (.v 2) (k64 1)
abbrev ccA:SX:=.bin .add (.v 2) (k64 1)
def ccN(e:SX):RPln:=.next [.v 0,e,ccA]
abbrev nf:SX:=lss (.at (.v 0) ccP 0) (.at (.v 0) (.v 2) 0)
def Yx:RPln:=.ask (.v 1)
 (.ask (eql (.v 2) (k64 0)) (ccN (.kb true)) (.know (lss ccP (k64 0)) false (.know (lss ccP (.len (.v 0))) true (.ask (lss (k64 0) ccP) (ccN nf) (ccN nf)))))
 (ccN (.kb false))
def pCc:RPln:=.ask (lss (.v 2) (.len (.v 0))) (.know (lss (.v 2) (k64 0)) false (.ask (lss (k64 0) (.v 2)) Yx Yx)) (.exit true [.v 1])
theorem kCc:(SCc.ok&&(Au SCc pCc&&AW SCc.L (B1 ccI (AR []) [] [] Yw) [] pCc))=true:=by kernel_rfl
def S0(ds:List DV):Prop:=∃(l:List (List DV)) (b:Bool) (i:Int),ds=[.list l,.bool b,.int .i64 i]∧0≤i∧i≤l.length∧l.length≤maxLen∧∀r∈l,IsL tDig r
def U3(ds:List DV):Nat:=(lD ds 0).length-(iD ds 2).toNat
theorem U4{l:List (List DV)}{b:Bool}{i:Int}:KA [.list l,.bool b,.int .i64 i]=(true,[.bool (b&&CS l i.toNat)]):=rfl
theorem S1{l:List (List DV)}(hl:∀r∈l,IsL tDig r){i:Nat}(h:i<l.length):(l.getD i []).getD 0 (.bool false)=.int .u64 (B8 l i):=by
 have hr:=hl l[i] (AC7 h)
 have e:l.getD i []=l[i]:=by simp[ACI,ACL h]
 obtain⟨d0,_,h0,h1,_⟩:=hr;obtain⟨z,rfl,_⟩:=h1.int;unfold B8;rw[e,h0];rfl
theorem vD:BJ Tryz.prog G ccI Yw SCc.L:=by
 refine B5 (F:=KA) (Inv:=S0) (μ:=U3) (AG Ha) (sub:=[]) trivial (lps:=[]) AL (fun _=>rfl) pCc kCc ?_ ?_
 ·intro ds h hp;simp only[SCc,IsL]at h;obtain⟨d0,_,rfl,h0,d1,_,rfl,h1,d2,_,rfl,h2,rfl⟩:=h;obtain⟨l,rfl,hl,hr⟩:=Is.lst h0;obtain⟨b,rfl⟩:=h1.bool;obtain⟨i,rfl,_⟩:=h2.i64;have p1:=hp (eql (.v 2) (k64 0),true) (by simp[SCc])
  have e1:den (AA ccI [DV.list l,.bool b,.int .i64 i]) (.v 2)=.int .i64 i:=rfl
  rw[AN e1 (d_k .i64 0)]at p1;simp only[DV.bool.injEq,ACN]at p1;exact⟨l,b,i,rfl,by omega,by omega,hl,hr⟩
 ·rintro ds ⟨l,b,i,rfl,hi0,hi1,hl,hr⟩;have hmx:=LV
  generalize hR:AA ccI [DV.list l,.bool b,.int .i64 i]=R;have e0:den R (.v 0)=.list l:=by rw[←hR];rfl
  have e1:den R (.v 1)=.bool b:=by rw[←hR];rfl
  have e2:den R (.v 2)=.int .i64 i:=by rw[←hR];rfl
  show Af 0 KA _ _ R _ pCc
  refine Ae (AB e2 (AF e0)) (fun h=>?_) (fun h=>?_)
  ·simp only[ACN]at h;have hlt:i.toNat<l.length:=by omega
   have hs:=Yv hlt
   have hadd:=B6 (R:=R) e2 (d_k .i64 1) (by omega) (by omega)
   have dK:den R (.at (.v 0) (.v 2) 0)=.int .u64 (B8 l i.toNat):=(Ab 0 e0 e2).trans (S1 hr hlt)
   have next:∀(e:SX) (c:Bool),den R e=.bool c→c=(b&&Mv l i.toNat)→Af 0 KA S0 U3 R [.list l,.bool b,.int .i64 i] (ccN e):=by
    intro e c he hc;have hτ:([.v 0,e,ccA]:List SX).map (den R)=[.list l,.bool c,.int .i64 (i+1)]:=by
     simp only[ACO,ACS,e0,he,hadd];rfl
    show S0 _∧U3 _<U3 _∧KA _=KA _
    rw[hτ];refine⟨⟨l,c,i+1,rfl,by omega,by omega,hl,hr⟩,?_,?_⟩
    ·show l.length-(i+1).toNat<l.length-i.toNat
     omega
    ·rw[U4,U4,hs,show (i+1).toNat=i.toNat+1 by omega,hc,Bool.and_assoc]
   have body:Af 0 KA S0 U3 R [.list l,.bool b,.int .i64 i] Yx:=by
    refine Ae e1 (fun g=>Ae (AN e2 (d_k .i64 0)) (fun g2=>next _ true rfl ?_) (fun g2=>?_)) (fun g=>next _ false rfl (by rw[g];rfl))
    ·simp only[ACN,ACZ]at g2;unfold Mv;rw[g,ACb (show i.toNat=0 by omega)]
     rfl
    ·simp only[ACK,ACZ]at g2;have g2:¬i=0:=g2
     have dP:den R ccP=.int .i64 (i-1):=Cv e2 (d_k .i64 1) (by omega) (by omega)
     have dQ:den R (.at (.v 0) ccP 0)=.int .u64 (B8 l (i-1).toNat):=(Ab 0 e0 dP).trans (S1 hr (by omega))
     have fin:Af 0 KA S0 U3 R [.list l,.bool b,.int .i64 i] (ccN nf):=by
      refine next _ _ (AB dQ dK) ?_
      unfold Mv;rw[g,ACR (show ¬i.toNat=0 by omega),show i.toNat-1=(i-1).toNat by omega]
      rfl
     exact A0 ((AB dP (d_k .i64 0)).trans (congrArg DV.bool (ACR (by show ¬i-1<((0:Nat):Int);omega)))) (A0 ((AB dP (AF e0)).trans (congrArg DV.bool (ACb (by omega)))) (Ae (AB (d_k .i64 0) dP) (fun _=>fin) (fun _=>fin)))
   exact A0 ((AB e2 (d_k .i64 0)).trans (congrArg DV.bool (ACR (by show ¬i<((0:Nat):Int);omega)))) (Ae (AB (d_k .i64 0) e2) (fun _=>body) (fun _=>body))
  ·simp only[ACK]at h;show KA _=(true,[den R (.v 1)])
   rw[U4,e1,aY (by omega),AEc]
end Go.Proofs.YtobajijkmmhdjaaGreatDoor.Se
end
