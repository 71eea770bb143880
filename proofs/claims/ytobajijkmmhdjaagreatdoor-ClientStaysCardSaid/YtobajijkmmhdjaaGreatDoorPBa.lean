/-
  A part of the proof of ClientStays (the machine on named data, and the contracts of the functions that the law reaches). Its names and spaces were shortened by a program of ours.
-/
import Derived.Test.YtobajijkmmhdjaaGreatDoorCards
import Derived.Test.YtobajijkmmhdjaaGreatDoorTie
import Derived.ProofKit
import Derived.OpenShut
import Derived.LaidMore
import Derived.LaidSub
import Derived.LaidHandle
import Derived.Lay
import Derived.SevenTiedAt
import Derived.Stop.Joined
import Derived.Carry
import Derived.Test.YtobajijkmmhdjaaGreatDoorPAz
import Derived.Test.YtobajijkmmhdjaaGreatDoorShelf
import Derived.Test.YtobajijkmmhdjaaGreatDoorPAl
set_option linter.all false
noncomputable section
namespace Go.Proofs.YtobajijkmmhdjaaGreatDoor.Se
open Go Go.AM
set_option maxRecDepth 100000
theorem Oj{R:Rho}{e i:SX}:∀(n a b:Nat),(∀j,j<n→den R (.at e i (a+j))=R.ρ (b+j)∧Et (R.ρ (b+j)))→den.denAll R (RJ e i a b n)=true
 |0,_,_,_=>rfl
 |n+1,a,b,h=>by
  have ih:=Oj (R:=R) (e:=e) (i:=i) n (a+1) (b+1) (fun j hj=>by
   have:=h (j+1) (by omega)
   rw[show a+1+j=a+(j+1) by omega,show b+1+j=b+(j+1) by omega]
   exact this)
  obtain⟨h1,h2⟩:=h 0 (by omega)
  have h3:den R (.bin .eql (.at e i a) (.v b))=.bool true:=by
   show AZ .eql (den R (.at e i (a+0))) (R.ρ b)=_
   rw[h1];exact h2
  show (isT (den R (.bin .eql (.at e i a) (.v b)))&&den.denAll R (RJ e i (a+1) (b+1) n))=true
  rw[h3,ih];rfl
def AAo:Ty→Bool
 |.int _=>true
 |.str=>true
 |_=>false
theorem fm{ts:List Ty}(h:ts.all AAo=true):∀t∈ts,(∃k,t=.int k)∨t=.str:=by
 intro t ht;have h1:=ACt.1 h t ht
 cases t with
 |int k=>exact .inl ⟨k,rfl⟩
 |str=>exact .inr rfl
 |bool=>cases h1
 |slice ts=>cases h1
def lwI:Nat→List DV→DV
 |126,ds=>.list (KB ds)
 |132,ds=>.list (Fs ds)
 |133,ds=>.list (ZA ds)
 |134,_=>.list [[.bool true]]
 |190,ds=>.list (Fsq ds)
 |191,ds=>.list (Fsw ds)
 |192,ds=>.list (FL GJ ds)
 |193,ds=>.bool (TF ds)
 |194,ds=>.list (FL GJ ds)
 |_,_=>.bool false
theorem AAp:Ap Tryz.prog G lwI qq:=⟨AP AI (AAi lwI) (fun _=>rfl) _ (by kernel_rfl),AP AI (pre_true AAm) (fun _=>rfl) _ (by kernel_rfl),AP AI (S7 lwI) (fun _=>rfl) _ rfl,trivial⟩
theorem AAq:Cm Tryz.prog G lwI (CG fk) Og:=by
 intro B hB M hM;have hc:A9 Og=[Oh]:=by kernel_rfl
 rw[hc]at hB;rw[ACs.1 hB];have h1:=DB hM
 rcases ACU.1 h1 with h1|h1
 ·rw[(AEH h1).2];exact kH rfl rfl rfl (AAk lwI)
 ·rw[(AEH (ACs.1 h1)).2];exact kH rfl rfl rfl (AAl lwI)
def cOf(ds:List DV):List DV:=rhoL (fun i=>ds.getD i (.bool false)) 2 83
def JP(ds:List DV):Prop:=∃(ops:List (List DV)) (k n q:Int) (s:ByteArray) (a rd:Bool) (ld:Int) (l:List (List DV)),ds.getD 0 (.bool false)=.list ops∧(∀x∈ops,OpK x)∧ops.length≤maxLen∧ds.getD 1 (.bool false)=.int .i64 k∧0≤k∧k≤ops.length∧CliK (cOf ds) n q s a rd ld l∧Bj (cOf ds)=true
def M1(ds:List DV):Nat:=(lD ds 0).length-(iD ds 1).toNat
theorem fo{R:Rho}{D:List DV}{es:List SX}(hI:R.I=lwI)(h:es.map (den R)=D)(hk:Bj D=true):den R (.at (.app 126 es) (k64 0) 0)=.int .i64 0:=by
 have hC:den R (.app 126 es)=.list [[.int .i64 0]]:=by
  rw[AO,h,hI];show DV.list (KB D)=_
  unfold KB;rw[if_pos hk]
 exact (Ab 0 hC (d_k .i64 0)).trans rfl
theorem oE{D:List DV}(h:KL tQry (qOf D)):∀j,j<76→Et ((qOf D).getD j (.bool false)):=VI h (fm (by kernel_rfl))
theorem AAr:∀ds,JP ds→Af 0 GJ JP M1 (AA lwI ds) ds pLw:=by
 rintro ds ⟨ops,k,n,q,s,a,rd,ld,l,w0,hops,hml,w1,k0,k1,hK,hok⟩;have hmx:maxLen≤9223372036854775807:=by unfold maxLen;omega
 have e0:den (AA lwI ds) (.v 0)=.list ops:=w0
 have e1:den (AA lwI ds) (.v 1)=.int .i64 k:=w1
 have hI:(AA lwI ds).I=lwI:=rfl
 have hD:rhoL (AA lwI ds).ρ 2 83=cOf ds:=rfl
 generalize AA lwI ds=R at *;generalize cOf ds=D at *;have hρ:∀j,j<83→R.ρ (2+j)=D.getD j (.bool false):=fun j hj=>by
  rw[←hD,ACI,Bo _ _ _ _ hj];rfl
 have e2:den R (.v 2)=.int .i64 n:=(hρ 0 (by omega)).trans hK.w0
 have e3:den R (.v 3)=.int .u32 q:=(hρ 1 (by omega)).trans hK.w1
 have e4:den R (.v 4)=.str s:=(hρ 2 (by omega)).trans hK.w2
 have e5:den R (.v 5)=.bool a:=(hρ 3 (by omega)).trans hK.w3
 have e82:den R (.v 82)=.bool rd:=(hρ 80 (by omega)).trans hK.w80
 have e84:den R (.v 84)=.list l:=(hρ 82 (by omega)).trans hK.w82
 have hq:rhoL R.ρ 6 76=qOf D:=by
  refine ADh fun i=>?_
  unfold qOf
  by_cases hi:i<76
  ·rw[Bo _ _ _ _ hi,Bo _ _ _ _ hi,show 6+i=2+(4+i) by omega,hρ _ (by omega)]
  ·rw[AC8 (by rw[CH];omega),AC8 (by rw[CH];omega)]
 unfold pLw;refine Ae (AB e1 (AF e0)) (fun g=>?_) (fun g=>rfl)
 simp only[ACN]at g;have hi:k.toNat<ops.length:=by omega
 have hX:=hops _ (AC7 hi)
 generalize hXe:ops[k.toNat]=X at hX;have hXd:(atK (.v 0) (.v 1) 0 151).map (den R)=X:=by
  rw[FP e0 e1,show ops.getD k.toNat []=X by rw[ACI,ACL hi,hXe];rfl,←hX.1]
  exact E0 X _
 obtain⟨N,H,hZ,q',s',a',rd',ld',l',cK,cok,cq,cd,cc⟩:=vy hK hok hX;have dS:den R lwS=.list [N,H]:=by
  rw[show lwS=.app 190 (AH 2 83++atK (.v 0) (.v 1) 0 151) from rfl,AO,ACd,BP,hD,hXd,hI];exact congrArg DV.list hZ
 have dN:∀j,den R (lwN j)=N.getD j (.bool false):=fun j=>(Ab j dS (d_k .i64 0)).trans rfl
 have dH:∀j,den R (lwH j)=H.getD j (.bool false):=fun j=>(Ab j dS (d_k .i64 1)).trans rfl
 have hNr:(Aq lwS 0 83).map (den R)=N:=by
  have h2:(Aq lwS 0 83).map (den R)=rhoL (fun i=>N.getD i (.bool false)) 0 83:=FP (R:=R) dS (d_k .i64 0) 83 0
  rw[h2];exact JO cK.len (fun _ _=>rfl)
 have hNq:(Aq lwS 4 76).map (den R)=qOf N:=FP (R:=R) dS (d_k .i64 0) 76 4
 have dAdd:=B6 e1 (d_k .i64 1) (show -9223372036854775808≤k+1 by omega) (show k+1≤9223372036854775807 by omega)
 have hGo:Af 0 GJ JP M1 R ds VJ:=by
  refine A0 rfl (A0 ?_ ?_)
  ·rw[AO,oC,BP,hD,hI,dN 82,cK.w82];refine congrArg DV.bool ?_
   unfold TF;refine @ACb _ (Classical.propDecidable _) ⟨l,l',?_,?_,cd,cK.rows⟩
   ·rw[ACI,ACc (by rw[hK.len];omega),←ACI]
    exact hK.w82
   ·rw[ACI,ACV (by rw[hK.len];omega),hK.len]
    rfl
  ·have hτ:([.v 0,add (.v 1) (k64 1)]++Aq lwS 0 83).map (den R)=[.list ops,.int .i64 (k+1)]++(N++[]):=by
    rw[ACd,hNr,ADg];show[den R (.v 0),den R (add (.v 1) (k64 1))]++N=_
    rw[e0,dAdd];rfl
   show JP _∧M1 _<M1 ds∧GJ _=GJ ds
   rw[hτ];have hc:cOf ([.list ops,.int .i64 (k+1)]++(N++[]))=N:=by
    have h1:=GC (.bool false) (.bool false) [] N 2 [.list ops,.int .i64 (k+1)] rfl
    rw[cK.len]at h1;exact h1
   refine⟨⟨ops,k+1,n,q',s',a',rd',ld',l',rfl,hops,hml,rfl,by omega,by omega,by rw[hc];exact cK,by rw[hc];exact cok⟩,?_,rfl⟩
   show ops.length-(k+1).toNat<(lD ds 0).length-(iD ds 1).toNat
   rw[IP w0,He w1];omega
 have hT:=hK.tab
 obtain⟨t5,ht5⟩:=(IK hK.qry 1 .str rfl:∃z,_=DV.str z);have ht5:D.getD 5 (.bool false)=.str t5:=ht5
 rw[Of ht5]at hT;have e7:den R (.v 7)=.str t5:=(hρ 5 (by omega)).trans ht5
 obtain⟨u5,hu5⟩:=(IK cK.qry 1 .str rfl:∃z,_=DV.str z);have hu5:N.getD 5 (.bool false)=.str u5:=hu5
 have hU:=cK.tab
 rw[Of hu5]at hU;have hLen:=(Ph hK hok).2
 have hAfter:∀w,(Af 0 GJ JP M1 R ds (.ask (lwN 3) (Hv w .A) (.ask (lwN 80) (Hv w .B) (Hv w .N))))→Af 0 GJ JP M1 R ds (Pj w):=by
  intro w hw;refine A0 ?_ (A0 ?_ (A0 ?_ (A0 ?_ (A0 ?_ hw))))
  ·exact (AB (d_k .i64 1000000) (AF e84)).trans (congrArg DV.bool (ACR (by show ¬((1000000:Nat):Int)<(l.length:Int);omega)))
  ·exact (AB (d_k .i64 1000) (Az ((dN 5).trans hu5))).trans (congrArg DV.bool (ACR (by show ¬((1000:Nat):Int)<(u5.size:Int);omega)))
  ·exact (AN (fo hI hNr cok) (d_k .i64 0)).trans rfl
  ·exact (AB ((dN 1).trans cK.w1) e3).trans (congrArg DV.bool (ACR (by omega)))
  ·exact (AN ((dN 0).trans cK.w0) e2).trans (congrArg DV.bool (ACb rfl))
 refine A0 ((AB e1 (d_k .i64 0)).trans (congrArg DV.bool (ACR (by show ¬k<((0:Nat):Int);omega)))) (Ae (AN e1 (d_k .i64 24)) (fun _=>rfl) (fun _=>A0 ?_ (A0 ?_ ?_)))
 ·exact (AB (d_k .i64 1000) (Az e7)).trans (congrArg DV.bool (ACR (by show ¬((1000:Nat):Int)<(t5.size:Int);omega)))
 ·exact (AN (fo hI ((BP R 83 2).trans hD) hok) (d_k .i64 0)).trans rfl
 have f3:=(dN 3).trans cK.w3
 have f80:=(dN 80).trans cK.w80
 have not2:a=true→rd=true→False:=by
  intro g1 g2;rw[FE hK]at hok;subst g1 g2;simp[okC]at hok
 rcases cc with ⟨h0,h1,hsame⟩|⟨h0,h1,ga,h3,h4,h5,gq,ga',gr'⟩|⟨h0,h1,gr,hhq,ga',gr'⟩
 ·
  have f0:=(dH 0).trans h0
  have f1:=(dH 1).trans h1
  have skip:∀w g,Af 0 GJ JP M1 R ds (kI w g)→Af 0 GJ JP M1 R ds (Hv w g):=fun w g hs=>Ae f0 (fun c=>by cases c) (fun _=>Ae f1 (fun c=>by cases c) (fun _=>hs))
  refine Ae e5 (fun ga=>hAfter _ ?_) (fun ga=>Ae e82 (fun gr=>hAfter _ ?_) (fun gr=>hAfter _ ?_))
  ·obtain⟨c1,c2,c3,c4,c5⟩:=hsame (by rw[ga];rfl)
   refine Ae f3 (fun _=>skip _ _ (A0 ?_ hGo)) (fun c=>by rw[c1,ga]at c;cases c)
   generalize hW:wA.map (den R)=W;have h1:W=[.int .i64 1,.int .i64 n,.int .i64 n,.int .u32 q,.str s]++zD tQry:=by
    rw[←hW,ACd,Ih];show[den R (k64 1),den R (.v 2),den R (.v 2),den R (.v 3),den R (.v 4)]++zD tQry=_
    rw[e2,e3,e4];rfl
   have h2:nA.map (den R)=W:=by
    rw[h1,ACd,Ih];show[den R (k64 1),den R (lwN 0),den R (lwN 0),den R (lwN 1),den R (lwN 2)]++zD tQry=_
    rw[dN,dN,dN,cK.w0,cK.w1,cK.w2,c3,c4];rfl
   have hKW:KL Ks W:=by
    rw[h1]
    repeat (first|exact rfl|refine⟨_,_,rfl,⟨_,rfl⟩,?_⟩)
   have:den R (.app 191 (wA++nA))=.list [[.bool true]]:=by
    rw[AO,ACd,hW,h2,hI];exact congrArg DV.list (cI (KE hKW) (VI hKW (fm (by kernel_rfl))))
   exact (Ab 0 this (d_k .i64 0)).trans rfl
  ·obtain⟨c1,c2,c3,c4,c5⟩:=hsame (by rw[gr,Bool.or_true])
   refine Ae f3 (fun c=>by rw[c1,ga]at c;cases c) (fun _=>Ae f80 (fun _=>skip _ _ (A0 ?_ hGo)) (fun c=>by rw[c2,gr]at c;cases c))
   generalize hW:wB.map (den R)=W;have h1:W=[.int .i64 2,.int .i64 n]++(zD tTx++qOf D):=by
    rw[←hW,ACd,ACd,Ih,BP,hq];show[den R (k64 2),den R (.v 2)]++(zD tTx++qOf D)=_
    rw[e2];rfl
   have h2:nB.map (den R)=W:=by
    rw[h1,ACd,ACd,Ih,hNq,c5];show[den R (k64 2),den R (lwN 0)]++(zD tTx++qOf D)=_
    rw[dN,cK.w0];rfl
   have hKW:KL Ks W:=by
    rw[h1];refine⟨_,_,rfl,⟨_,rfl⟩,_,_,rfl,⟨_,rfl⟩,_,_,rfl,⟨_,rfl⟩,_,_,rfl,⟨_,rfl⟩,_,_,rfl,⟨_,rfl⟩,?_⟩
    exact hK.qry
   have:den R (.app 191 (wB++nB))=.list [[.bool true]]:=by
    rw[AO,ACd,hW,h2,hI];exact congrArg DV.list (cI (KE hKW) (VI hKW (fm (by kernel_rfl))))
   exact (Ab 0 this (d_k .i64 0)).trans rfl
  ·exact Ae f3 (fun _=>skip _ _ hGo) (fun _=>Ae f80 (fun _=>skip _ _ hGo) (fun _=>skip _ _ hGo))
 ·
  have f0:=(dH 0).trans h0
  refine Ae e5 (fun _=>hAfter _ ?_) (fun c=>by rw[ga]at c;cases c)
  refine Ae f3 (fun c=>by rw[ga']at c;cases c) (fun _=>Ae f80 (fun c=>by rw[gr']at c;cases c) (fun _=>Ae f0 (fun _=>A0 ?_ (A0 ?_ (A0 ((dH 1).trans h1) hGo))) (fun c=>by cases c)))
  ·show DV.bool (den.denAll R (RJ lwS (k64 1) 3 2 3))=_
   have b2:R.ρ 2=.int .i64 n:=e2
   have b3:R.ρ 3=.int .u32 q:=e3
   have b4:R.ρ 4=.str s:=e4
   rw[Oj 3 3 2 (fun j hj=>by
    rcases j with _|_|_|j
    ·exact⟨((dH 3).trans h3).trans b2.symm,by show Et (R.ρ 2);rw[b2];exact RI _ _⟩
    ·exact⟨((dH 4).trans h4).trans b3.symm,by show Et (R.ρ 3);rw[b3];exact RI _ _⟩
    ·exact⟨((dH 5).trans h5).trans b4.symm,by show Et (R.ρ 4);rw[b4];exact ZH _⟩
    ·omega)]
  ·exact (AN ((dH 4).trans h4) ((dN 1).trans (cK.w1.trans (by rw[gq])))).trans (congrArg DV.bool (ACb rfl))
 ·
  have f0:=(dH 0).trans h0
  have f1:=(dH 1).trans h1
  refine Ae e5 (fun c=>absurd gr (fun c2=>not2 c c2)) (fun _=>Ae e82 (fun _=>hAfter _ ?_) (fun c=>by rw[gr]at c;cases c))
  refine Ae f3 (fun c=>by rw[ga']at c;cases c) (fun _=>Ae f80 (fun c=>by rw[gr']at c;cases c) (fun _=>Ae f0 (fun c=>by cases c) (fun _=>Ae f1 (fun _=>A0 ?_ hGo) (fun c=>by cases c))))
  show DV.bool (den.denAll R (RJ lwS (k64 1) 10 6 76))=_
  rw[Oj 76 10 6 (fun j hj=>by
   have h6:R.ρ (6+j)=(qOf D).getD j (.bool false):=by
    rw[←hq,ACI,Bo _ _ _ _ hj];rfl
   have h7:H.getD (10+j) (.bool false)=(qOf D).getD j (.bool false):=by
    rw[←hhq,ACI (l:=rhoL _ _ _),Bo _ _ _ _ hj];rfl
   refine⟨((dH (10+j)).trans h7).trans h6.symm,?_⟩
   rw[h6];exact oE hK.qry j hj)]
set_option maxRecDepth 100000
theorem sk{row:List DV}(h:row.length=tOp.length∧∀(j:Nat) (t:Ty) (d:DV),tOp[j]? =some t→row[j]? =some d→Is t d):OpK row:=⟨h.1.trans rfl,h.2⟩
theorem v8{ts:List Ty}{row:List DV}(h:row.length=ts.length∧∀(j:Nat) (t:Ty) (d:DV),ts[j]? =some t→row[j]? =some d→Is t d):KL ts row:=TD h.1 fun j t hj=>by
 have hlt:j<row.length:=by rw[h.1];exact (ACW.1 hj).1
 rw[ACI,ACL hlt];exact Ob (h.2 j t _ hj (ACL hlt))
theorem wD:BJ Tryz.prog G lwI Og SLw.L:=by
 refine B5 (F:=GJ) (Inv:=JP) (μ:=M1) (AG AAp) (sub:=[]) trivial (lps:=fk) AAq (fun _=>rfl) pLw (kLw lwI) ?_ AAr
 intro ds h hp;have gd:∀{j:Nat} {d:DV},ds[j]? =some d→ds.getD j (.bool false)=d:=by
  intro j d hj;rw[ACI,hj];rfl
 have hc:∀j,j<83→(cOf ds).getD j (.bool false)=ds.getD (2+j) (.bool false):=fun j hj=>by
  unfold cOf;rw[ACI,Bo _ _ _ _ hj];rfl
 obtain⟨d0,g0,t0⟩:=BL (k:=0) (t:=.slice tOp) h rfl;obtain⟨d1,g1,t1⟩:=BL (k:=1) (t:=tI) h rfl;obtain⟨d2,g2,t2⟩:=BL (k:=2) (t:=tI) h rfl;obtain⟨d3,g3,t3⟩:=BL (k:=3) (t:=.int .u32) h rfl;obtain⟨d4,g4,t4⟩:=BL (k:=4) (t:=.str) h rfl;obtain⟨d5,g5,t5⟩:=BL (k:=5) (t:=.bool) h rfl;obtain⟨d7,g7,t7⟩:=BL (k:=7) (t:=.str) h rfl;obtain⟨d82,g82,t82⟩:=BL (k:=82) (t:=.bool) h rfl;obtain⟨d83,g83,t83⟩:=BL (k:=83) (t:=tI) h rfl;obtain⟨d84,g84,t84⟩:=BL (k:=84) (t:=tDs) h rfl;obtain⟨ops,rfl,hml,hrow⟩:=t0.list;obtain⟨k,rfl,_⟩:=t1.i64;obtain⟨n,rfl,_⟩:=t2.i64;obtain⟨q,rfl,q0,q1⟩:=t3.int;obtain⟨s,rfl,_⟩:=t4.str;obtain⟨a,rfl⟩:=t5.bool;obtain⟨t5',rfl,_⟩:=t7.str;obtain⟨rd,rfl⟩:=t82.bool;obtain⟨ld,rfl,_⟩:=t83.i64;obtain⟨l,rfl,_,hl⟩:=t84.list;have p1:=hp (eql (.v 1) (k64 0),true) (by simp[SLw])
 have p2:=hp (eql lwC (k64 0),true) (by simp[SLw])
 have p3:=hp (lss (k64 1000) (.len (.v 7)),false) (by simp[SLw])
 have e1:den (AA lwI ds) (.v 1)=.int .i64 k:=gd g1
 have e7:den (AA lwI ds) (.v 7)=.str t5':=gd g7
 rw[AN e1 (d_k .i64 0)]at p1;rw[AB (d_k .i64 1000) (Az e7)]at p3;have hC:den (AA lwI ds) lwC=.int .i64 (if Bj (cOf ds) then 0 else 320):=by
  have h1:den (AA lwI ds) (.app 126 (AH 2 83))=.list [[.int .i64 (if Bj (cOf ds) then 0 else 320)]]:=by
   rw[AO,BP];rfl
  exact (Ab 0 h1 (d_k .i64 0)).trans rfl
 rw[AN hC (d_k .i64 0)]at p2;simp only[DV.bool.injEq,ACN,ACK,ACZ]at p1 p2 p3;have hok:Bj (cOf ds)=true:=by
  cases hx:Bj (cOf ds) with
  |true=>rfl
  |false=>rw[hx]at p2;simp at p2
 have hKL:KL ([.slice tOp,tI]++BN) ds:=qj h
 have hK:CliK (cOf ds) n q s a rd ld l:=
  {len:=CH _ _ _
   w0:=(hc 0 (by omega)).trans (gd g2)
   w1:=(hc 1 (by omega)).trans (gd g3)
   w2:=(hc 2 (by omega)).trans (gd g4)
   w3:=(hc 3 (by omega)).trans (gd g5)
   w80:=(hc 80 (by omega)).trans (gd g82)
   w81:=(hc 81 (by omega)).trans (gd g83)
   w82:=(hc 82 (by omega)).trans (gd g84)
   rows:=fun r hr=>v8 (hl r hr)
   qry:=by
    have h1:rhoL (fun k=>(cOf ds).getD k (.bool false)) 4 76=rhoL (fun k=>ds.getD k (.bool false)) 6 76:=by
     refine ADh fun i=>?_
     by_cases hi:i<76
     ·rw[Bo _ _ _ _ hi,Bo _ _ _ _ hi,hc _ (by omega),show 2+(4+i)=6+i by omega]
     ·rw[AC8 (by rw[CH];omega),AC8 (by rw[CH];omega)]
    rw[h1];refine TB hKL (fun j hj=>?_) rfl
    have h2:[.slice tOp,tI]++BN=[.slice tOp,tI,tI,.int .u32,.str,.bool]++(tQry++[.bool,tI,tDs]):=rfl
    rw[h2,ACV (by show 6≤6+j;omega),ACc (by show 6+j-6<76;omega)]
    show tQry[6+j-6]? =_
    rw[show 6+j-6=j by omega]
   q0:=by simpa[IntKind.min,IntKind.signed]using q0
   q1:=by
    have h1:q≤4294967295:=by simpa[IntKind.max,IntKind.signed,IntKind.bits]using q1
    omega
   tab:=by
    rw[Of ((hc 5 (by omega)).trans (gd g7))]
    omega}
 exact⟨ops,k,n,q,s,a,rd,ld,l,gd g0,fun x hx=>sk (hrow x hx),hml,gd g1,by omega,by omega,hK,hok⟩
abbrev fWk:Nat:=4
abbrev eNw:Ent:=eFn 5 [.one tI] [.agg BN,.one tI] [] 133 []
abbrev eWk:Ent:=eFn fWk [] [.one .bool] [] 134 []
abbrev lmN:SX:=.bin .add (.ki .i64 (.ofNat 1)) (.conv .i64 (.bin .rem (.conv .u64 (.v 0)) (.ki .u64 (.ofNat 3))))
abbrev lmC:SX:=.app 133 [lmN]
def pLm:Pln:=.know (.at (.app 134 []) (k64 0) 0) true (.know (eql (.at lmC (k64 1) 0) (k64 0)) true (.know (eql (k64 0) (k64 0)) true (.know (eql (.at (.app 126 (Aq lmC 0 83)) (k64 0) 0) (k64 0)) true (.know (lss (k64 1000) (.len (.at lmC (k64 0) 5))) false (.done [[.kb true]])))))
set_option maxRecDepth 100000
theorem kLm(I:Nat→List DV→DV):(hasB fLw&&AJ [.one .bool] (Bc I (AR [eNw,eWk]) [(8,SLw.L)] [] fLw [.one tI,.one (.slice tOp)]) [] pLm)=true:=by kernel_rfl
theorem oF{m:Int}(h1:1≤m)(h2:m≤3):CliK (Dg (.int .i64 m)) m 0 (AS #[]) false false 0 []∧Bj (Dg (.int .i64 m))=true:=by
 have hq:qOf (Dg (.int .i64 m))=zD tQry:=Od (p:=[.int .i64 m,.int .u32 0,.str (AS #[]),.bool false]) rfl rfl
 have hK:CliK (Dg (.int .i64 m)) m 0 (AS #[]) false false 0 []:=
  {len:=rfl,w0:=rfl,w1:=rfl,w2:=rfl,w3:=rfl,w80:=rfl,w81:=rfl,w82:=rfl
   rows:=fun r hr=>by cases hr
   qry:=by show KL tQry (qOf _);rw[hq];repeat (first|exact rfl|refine⟨_,_,rfl,⟨_,rfl⟩,?_⟩)
   q0:=by omega,q1:=by omega
   tab:=by rw[Of (s:=AS #[]) rfl];decide}
 refine⟨hK,?_⟩
 rw[FE hK,show LM (Dg (.int .i64 m)) false=Kq (Dg (.int .i64 m)) from rfl,cF hq];unfold okC EB Dc;rw[ACb h1,ACb h2];rfl
theorem AAs(hw:Am Tryz.prog G fWk [] [.one .bool] (fun _=>True) (fun _=>[[.bool true]])):Ap Tryz.prog G lwI [eNw,eWk]:=⟨AP AI (pre_true yj) (fun _=>rfl) _ (by kernel_rfl),AP AI (pre_true hw) (fun _=>rfl) _ (by kernel_rfl),trivial⟩
theorem sn{D:List DV}{z:Int}(w0:D.getD 0 (.bool false)=.int .i64 z):C2 (AA lwI D) pLm:=by
 have e0:den (AA lwI D) (.v 0)=.int .i64 z:=w0
 have hI:(AA lwI D).I=lwI:=rfl
 generalize AA lwI D=R at *;obtain⟨m,m1,m2,dm⟩:∃m:Int,1≤m∧m≤3∧den R lmN=.int .i64 m:=by
  have d1:den R (.conv .u64 (.v 0))=.int .u64 (IntKind.u64.wrap z):=by
   show C7 .u64 (den R (.v 0))=_
   rw[e0];rfl
  have d2:den R (.bin .rem (.conv .u64 (.v 0)) (.ki .u64 (.ofNat 3)))=.int .u64 ((IntKind.u64.wrap z).tmod 3):=by
   show AZ .rem (den R (.conv .u64 (.v 0))) (.int .u64 3)=_
   rw[d1];rfl
  have b0:0≤(IntKind.u64.wrap z).tmod 3∧(IntKind.u64.wrap z).tmod 3<3:=by
   have h1:0≤IntKind.u64.wrap z:=by
    rw[IntKind.wrap_u64];omega
   exact⟨Int.tmod_nonneg _ h1,Int.tmod_lt_of_pos _ (by decide)⟩
  generalize (IntKind.u64.wrap z).tmod 3=t at *;have d3:den R (.conv .i64 (.bin .rem (.conv .u64 (.v 0)) (.ki .u64 (.ofNat 3))))=.int .i64 t:=by
   show C7 .i64 (den R (.bin .rem (.conv .u64 (.v 0)) (.ki .u64 (.ofNat 3))))=_
   rw[d2];refine congrArg (DV.int .i64) ?_
   rw[IntKind.wrap_i64];omega
  exact⟨1+t,by omega,by omega,B6 (d_k .i64 1) d3 (by show (-9223372036854775808:Int)≤1+_;omega) (by show (1:Int)+_≤9223372036854775807;omega)⟩
 obtain⟨hK,hok⟩:=oF m1 m2;have dC:den R lmC=.list [Dg (.int .i64 m),[.int .i64 0]]:=by
  rw[show lmC=.app 133 [lmN] from rfl,AO,hI];simp only[ACO,ACS,dm];show DV.list (ZA [.int .i64 m])=_
  unfold ZA;rw[show[DV.int .i64 m].getD 0 (.bool false)=.int .i64 m from rfl,if_pos hok]
 have hN:(Aq lmC 0 83).map (den R)=Dg (.int .i64 m):=by
  have h2:(Aq lmC 0 83).map (den R)=rhoL (fun i=>(Dg (.int .i64 m)).getD i (.bool false)) 0 83:=FP (R:=R) dC (d_k .i64 0) 83 0
  rw[h2];exact JO hK.len (fun _ _=>rfl)
 have dW:den R (.at (.app 134 []) (k64 0) 0)=.bool true:=by
  have h1:den R (.app 134 [])=.list [[.bool true]]:=by
   rw[AO,hI];rfl
  exact (Ab 0 h1 (d_k .i64 0)).trans rfl
 have d5:den R (.at lmC (k64 0) 5)=.str (AS #[]):=(Ab 5 dC (d_k .i64 0)).trans rfl
 have d1:den R (.at lmC (k64 1) 0)=.int .i64 0:=(Ab 0 dC (d_k .i64 1)).trans rfl
 unfold pLm;exact AU dW (AU ((AN d1 (d_k .i64 0)).trans rfl) (AU rfl (AU ((AN (fo hI hN hok) (d_k .i64 0)).trans rfl) (AU ((AB (d_k .i64 1000) (Az d5)).trans (congrArg DV.bool (ACR (by decide)))) trivial))))
theorem AAt(hw:Am Tryz.prog G fWk [] [.one .bool] (fun _=>True) (fun _=>[[.bool true]])):Am Tryz.prog G fLw [.one tI,.one (.slice tOp)] [.one .bool] (fun _=>True) (fun _=>[[.bool true]]):=by
 have hk:=kLm lwI
 rw[ACH]at hk;refine Av (AG (AAs hw)) [(8,SLw.L)] [] (Fw (by kernel_rfl) wD) hk.1 pLm hk.2 ?_
 intro ds h _;simp only[An,Ba]at h;obtain⟨_,_,rfl,⟨d,rfl,hd⟩,D2,_,rfl,h2,rfl⟩:=h;obtain⟨z,rfl,_⟩:=hd.i64;have h1:=Bq (sn (D:=[[DV.int .i64 z],D2].flatten) (z:=z) rfl)
 have h3:evP (AA lwI [[DV.int .i64 z],D2].flatten) pLm=[[.bool true]]:=rfl
 rwa [h3]at h1
theorem uH{w w':World}(h1:w'.os=w.os)(h2:w'.output=w.output):ioOf w'=ioOf w:=by
 unfold ioOf;rw[h1,h2]
theorem py:∀n:_root_.Fin 256,im (UInt8.ofNat n.val)=Lib.upperB (UInt8.ofNat n.val):=by decide +kernel
theorem uI(b:UInt8):im b=Lib.upperB b:=by
 have:=py ⟨b.toNat,b.toNat_lt⟩
 simpa only[UInt8.ofNat_toNat]using this
theorem pz:@BF O0 Tryz.prog G (fun g args h=>if g=116 then iq args h else none):=by
 intro g args h av h' hs;simp only at hs;split at hs
 ·rename_i e;subst e;refine⟨Dj (by kernel_rfl),fun m vs w hv hr hg=>?_⟩
  unfold iq at hs;split at hs
  ·rename_i s;split at hs
   ·rename_i hc;cases hs;simp only[ACH,ACt,ACn]at hc;simp only[VL,V]at hv;obtain⟨v,us,e1,rfl,rfl⟩:=hv;have hvs:vs=#[.string s]:=by apply ADX;simpa using e1
    subst hvs;refine (Tryz.strings_ToUpper_ascii s w (by omega) ?_).mono ?_
    ·intro j b hb;have:=hc.1 b (ACf.2 ⟨j,hb⟩)
     simp only[Nat.blt,ACn]at this;omega
    ·rintro e w' ⟨rfl,hb⟩;refine⟨_,m,rfl,.refl m,?_,hr.grow hb.block (uH hb.os hb.output)⟩
     simp only[V];have:s.data.toList.map im=Lib.toUpperA s.data.toList:=ADN fun b _=>uI b
     rw[this]
   ·cases hs
  ·cases hs
 ·cases hs
theorem p7:@Br O0 Tryz.prog G T7:=by
 intro f sp h;unfold T7 at h;split at h<;>cases h
 ·exact pz
 ·exact oM O0
theorem aC{o:Out}(h:Vu o=true):∃hx,o=some (.sc (.bool true),hx):=by
 unfold Vu at h;split at h
 ·exact⟨_,rfl⟩
 ·cases h
def frz(w:World):Env:=Go.AM.frozen (Rho.mk (fun _=>DV.bool false) (fun _ _=>DV.bool false)) w
theorem iu:∃hx,@W5 O0 Tryz.prog G T7 1000000 4 [] Ef=some (.sc (.bool true),hx):=aC px
theorem aD{m m':Env}(hE:∀b o v,m.ecell b o=some v→m'.ecell b o=some v){b:Nat}:∀{cs:List AV} {o:Nat},(∀c∈cs,∃u,c=AV.sc u)→VC m b o cs→VC m' b o cs
 | [],_,_,_=>by simp[VC]
 |c::cs,o,hp,hv=>by
  simp only[VC]at hv⊢;obtain⟨⟨v,h1,h2⟩,h3⟩:=hv;obtain⟨u,rfl⟩:=hp c (by simp)
  exact⟨⟨v,hE _ _ _ h1,by simpa[V]using h2⟩,aD hE (fun c hc=>hp c (ACu _ hc)) h3⟩
theorem uJ:Am Tryz.prog G 4 [] [.one .bool] (fun _=>True) (fun _=>[[.bool true]]):=by
 obtain⟨hx,hrun⟩:=iu;have hok:=@mU O0 Tryz.prog G GL PB T7 p7 1000000 _ _ _ _ _ hrun
 refine⟨hok.1,fun E ds vs w hE hr _ hg=>?_⟩
 simp only[RepArgs]at hr;obtain⟨rfl,hvs⟩:=hr;have hvs:vs=#[]:=by apply ADX;simpa using hvs
 subst hvs;have hEc:∀b o v,(Al E).ecell b o=some v→(frz w).ecell b o=some v:=by
  intro b o v h;unfold Env.ecell at *;cases hb:(Al E).E b with
  |none=>rw[hb]at h;simp at h
  |some x=>
   rw[hb]at h;have:w.heap[b]? =some x:=hE b x hb
   simp only[frz,Go.AM.frozen,this];exact h
 refine (hok.2 (frz w) #[] w (by simp[VL]) (HR.frozen _ w) (@GOK.mk O0 _ _ (fun g cs e=>aD hEc (AI g cs e) (hg g cs e)) (Dp _))).mono ?_
 rintro e w' ⟨v,m',rfl,k1,k2,k3⟩;simp only[V]at k2;subst k2;have old:∀b,b<w.heap.size→w'.heap[b]? =w.heap[b]? :=by
  intro b hb;have e1:(frz w).E b=some w.heap[b]:=ACq hb
  rw[k3.E b _ (k1.E b _ e1),ACq hb]
 refine⟨_,E,rfl,⟨fun _ _ h=>h,fun b o h=>⟨?_,.inl h⟩,old,k3.io.trans k1.io⟩,[.bool true],rfl,.bool true,rfl,?_⟩
 ·have h1:=hE b o h
  rw[old b (ACQ.1 h1).1];exact h1
 ·simp only[Rep];exact⟨true,rfl,rfl⟩
end Go.Proofs.YtobajijkmmhdjaaGreatDoor.Se
namespace Go.Proofs.YtobajijkmmhdjaaGreatDoor
open Go
theorem ACG:ownKnob Tryz.prog.godebug=none:=by kernel_rfl
end Go.Proofs.YtobajijkmmhdjaaGreatDoor
end
