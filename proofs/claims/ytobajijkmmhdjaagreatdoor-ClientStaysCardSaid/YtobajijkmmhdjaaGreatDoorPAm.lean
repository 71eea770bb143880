/-
  A part of the proof of ClientStays (the machine on named data, and the contracts of the functions that the law reaches). Its names and spaces were shortened by a program of ours.
-/
import Derived.Lib.Case
import Derived.KernelRfl
import Derived.WalkKit
import Derived.Laws.IdiomStrings
import Derived.Lib.SliceRun
import Derived.Lib.AppendZeros
import Derived.Test.YtobajijkmmhdjaaGreatDoorPAi
import Derived.Test.YtobajijkmmhdjaaGreatDoorPAg
import Derived.Test.YtobajijkmmhdjaaGreatDoorShelf
import Derived.Test.YtobajijkmmhdjaaGreatDoorPAk
set_option linter.all false
noncomputable section
namespace Go.Proofs.YtobajijkmmhdjaaGreatDoor
open Go Go.AM
def Bt(k n:Int)(sz:Nat):Bool:=(k==1&&n==0&&sz==0)||(k==2&&(n==0||n==1)&&sz==0)||(k==3&&sz==0)||(k==4&&n==0&&decide (sz≤64))
def be8(n:Int):List Int:=[n / 2^56%256,n / 2^48%256,n / 2^40%256,n / 2^32%256,n / 2^24%256,n / 2^16%256,n / 2^8%256,n%256]
def Dw(l:List Int):List Int:=l.flatMap fun z=>if z=0 then [0,255] else [z]
def Hz(k n:Int)(s:ByteArray):List Int:=if k=1 then [1] else if k=2 then [2,n] else if k=3 then 3::be8 (n+9223372036854775808) else 4::(Dw (Bl s)++[0,0])
def Py(v:List DV):Bool:=Bt (iD v 0) (iD v 1) (sD v 2).size
def MC(v:List DV):List Int:=Hz (iD v 0) (iD v 1) (sD v 2)
def kj(v:List DV):List Int:=if Py v then MC v else []
def AA3(l:List (List DV)):List Int:=if 12<l.length then [] else ((l.length:Int)%256)::l.flatMap kj
def zC(l:List (List DV)):Bool:=decide (l.length≤12)&&l.all Py
def rH(l:List (List DV)):List Int:=l.flatMap fun r=>AA3 (lD r 0)
def Tg(l:List (List DV)):Bool:=l.all fun r=>zC (lD r 0)
def two(n:Int):Bool:=decide (0≤n)&&decide (n≤65535)
def be2(n:Int):List Int:=[n / 256%256,n%256]
def Th(e a c:Int)(rows:List (List DV)):List Int:=be2 e++(be2 a++(be2 c++((rows.length:Int)%256::rH rows)))
def Zd(e a c:Int)(rows:List (List DV)):Bool:=two e&&two a&&two c&&decide (rows.length≤255)
def Oy(e a c:Int)(rows:List (List DV)):Bool:=Zd e a c rows&&(Tg rows&&decide ((Th e a c rows).length≤3000))
def txt:List Int→List Int→Nat→Int×List Int×Nat
 | [],_,_=>(7,[],0)
 |c::l,out,u=>if c=0 then (match l with
   | []=>(7,[],0)
   |d::l'=>if d=0 then (0,out,u+2) else if d=255 then (if out.length=64 then (150,[],0) else txt l' (out++[0]) (u+2)) else (150,[],0))
  else if out.length=64 then (150,[],0) else txt l (out++[c]) (u+1)
def gL:List Int→List Int→Bool
 | [],_=>true
 |c::l,out=>if c=0 then (match l with
   | []=>false
   |d::l'=>if d=0 then false else if d=255 then (if out.length=64 then false else gL l' (out++[0])) else false)
  else if out.length=64 then false else gL l (out++[c])
def Oz(l:List Int):Int:=l.foldl (fun x c=>x*256+c) 0
def Ej(e:Int):Int×List DV×Nat:=(e,[.int .i64 0,.int .i64 0,.str ⟨#[]⟩],0)
def Ix(k n:Int)(s:ByteArray)(u:Nat):Int×List DV×Nat:=(0,[.int .i64 k,.int .i64 n,.str s],u)
def ED:List Int→Int×List DV×Nat
 | []=>Ej 7
 |k::r=>
  if k=1 then Ix 1 0 ⟨#[]⟩ 1
  else if k=2 then (match r with
   | []=>Ej 7
   |n::_=>if 1<n then Ej 150 else Ix 2 n ⟨#[]⟩ 2)
  else if k=3 then (if r.length<8 then Ej 7 else Ix 3 (Oz (r.take 8)-9223372036854775808) ⟨#[]⟩ 9)
  else if k=4 then (match txt r [] 1 with
   |(e,out,u)=>if e=0 then Ix 4 0 (Ci out) u else Ej e)
  else Ej 150
theorem Ze:∀(n:Nat) (l:List Int),l.length≤n→∀(out:List Int) (u:Nat) (o:List Int) (u':Nat),txt l out u=(0,o,u')→∃t:List Int,o=out++t∧u≤u'∧u'-u≤l.length∧l.take (u'-u)=Dw t++[0,0]∧(out.length≤64→o.length≤64)∧(∀z∈t,z∈l):=by
 intro n
 induction n with
 |zero=>
  intro l hl out u o u' h;have:l=[]:=ACi.1 (by omega)
  subst this;simp[txt]at h
 |succ n ih=>
  intro l hl out u o u' h
  match l,hl with
  | [],_=>simp[txt]at h
  |c::l,hl=>
   unfold txt at h;split at h
   ·rename_i hc;subst hc
    match l,hl with
    | [],_=>simp at h
    |d::l',hl=>
     simp only at h;split at h
     ·rename_i hd;subst hd;cases h;exact⟨[],by simp,by omega,by simp only[ACe];omega,by simp[Dw,show u+2-u=2 by omega],fun h=>h,by simp⟩
     ·split at h
      ·rename_i hd;subst hd;split at h
       ·simp at h
       ·rename_i h64;simp only[ACe]at hl;obtain⟨t,e1,e2,e3,e4,e5,e6⟩:=ih l' (by omega) _ _ _ _ h
        refine⟨0::t,by rw[e1];simp,by omega,by simp;omega,?_,fun h=>e5 (by simp;omega),fun z hz=>?_⟩
        ·rw[show u'-u=(u'-(u+2))+2 by omega]
         simp only[ADS,e4];simp[Dw]
        ·rcases ACU.1 hz with rfl|hz
         ·simp
         ·have:=e6 z hz
          simp[this]
      ·simp at h
   ·rename_i hc;split at h
    ·simp at h
    ·rename_i h64;simp only[ACe]at hl;obtain⟨t,e1,e2,e3,e4,e5,e6⟩:=ih l (by omega) _ _ _ _ h
     refine⟨c::t,by rw[e1];simp,by omega,by simp;omega,?_,fun h=>e5 (by simp;omega),fun z hz=>?_⟩
     ·rw[show u'-u=(u'-(u+1))+1 by omega]
      simp only[ADS,e4];simp[Dw,hc]
     ·rcases ACU.1 hz with rfl|hz
      ·simp
      ·have:=e6 z hz
       simp[this]
theorem kl{a b c d e f g h:Int}:Oz [a,b,c,d,e,f,g,h]=((((((a*256+b)*256+c)*256+d)*256+e)*256+f)*256+g)*256+h:=by simp[Oz]
theorem eight{l:List Int}(h:¬l.length<8):∃a b c d e f g i r,l=a::b::c::d::e::f::g::i::r:=by
 match l,h with
 | [],h=>simp at h
 | [_],h=>simp at h
 | [_,_],h=>simp at h
 | [_,_,_],h=>simp at h
 | [_,_,_,_],h=>simp at h
 | [_,_,_,_,_],h=>simp at h
 | [_,_,_,_,_,_],h=>simp at h
 | [_,_,_,_,_,_,_],h=>simp at h
 |a::b::c::d::e::f::g::i::r,_=>exact⟨a,b,c,d,e,f,g,i,r,rfl⟩
theorem HZ{l:List Int}(h:BI l):Bl (Ci l)=l:=by
 unfold Bl Ci;simp only[ADQ]
 conv=>rhs;rw[←AEV l]
 refine ADN fun z hz=>?_
 have:=h z hz
 simp only[Function.comp];have h5:(UInt8.ofNat z.toNat).toNat=z.toNat%256:=UInt8.toNat_ofNat'
 simp only[h5,id];omega
theorem Bb{l:List Int}(h:BI l){z:Int}(hz:z∈l):0≤z∧z≤255:=by
 have:=h z hz
 omega
theorem KK(l:List Int):(Ci l).size=l.length:=by
 unfold Ci;show (List.toArray _).size=_
 simp
theorem km{l:List Int}(hl:BI l){v:List DV}{n:Nat}(h:ED l=(0,v,n)):Py v=true∧n≤l.length∧1≤n∧l.take n=MC v:=by
 unfold ED at h;split at h
 ·simp[Ej]at h
 rename_i k r;have hk:=Bb hl (z:=k) (by simp)
 split at h
 ·rename_i e;subst e;simp only[Ix,ACP,true_and]at h;obtain⟨rfl,rfl⟩:=h;exact⟨rfl,by simp,by simp,by simp[MC,Hz,iD]⟩
 split at h
 ·rename_i e;subst e;split at h
  ·simp[Ej]at h
  ·rename_i m r';have hm:=Bb hl (z:=m) (by simp)
   split at h
   ·simp[Ej]at h
   ·rename_i h1;simp only[Ix,ACP,true_and]at h;obtain⟨rfl,rfl⟩:=h;refine⟨?_,by simp,by simp,by simp[MC,Hz,iD]⟩
    have:m=0∨m=1:=by omega
    rcases this with rfl|rfl<;>rfl
 split at h
 ·rename_i e;subst e;split at h
  ·simp[Ej]at h
  ·rename_i h8;obtain⟨a,b,c,d,e,f,g,i,r',rfl⟩:=eight h8;have ba:=Bb hl (z:=a) (by simp)
   have bb:=Bb hl (z:=b) (by simp)
   have bc:=Bb hl (z:=c) (by simp)
   have bd:=Bb hl (z:=d) (by simp)
   have be:=Bb hl (z:=e) (by simp)
   have bf:=Bb hl (z:=f) (by simp)
   have bg:=Bb hl (z:=g) (by simp)
   have bi:=Bb hl (z:=i) (by simp)
   simp only[Ix,ACP,true_and]at h;obtain⟨rfl,rfl⟩:=h;refine⟨rfl,by simp,by simp,?_⟩
   simp only[MC,Hz,iD,AC4,ACr,ADS,List.take_zero,kl,be8];simp only[show ¬((3:Int)=1) by decide,show ¬((3:Int)=2) by decide,if_false,if_true,ADa,true_and,and_true]
   omega
 split at h
 ·rename_i e;subst e;cases ht:txt r [] 1 with
  |mk e p=>
   obtain⟨o,u⟩:=p;rw[ht]at h;simp only at h;split at h
   ·rename_i he;subst he;obtain⟨t,e1,e2,e3,e4,e5,e6⟩:=Ze _ r (ACv _) _ _ _ _ ht;simp only[Ix,ACP,true_and]at h;obtain⟨rfl,rfl⟩:=h;simp only[ADD]at e1;subst e1;have hb:BI o:=fun z hz=>hl z (by simp[e6 z hz])
    have h64:=e5 (by simp)
    refine⟨?_,by simp;omega,by omega,?_⟩
    ·simp[Py,Bt,iD,sD,KK,h64]
    ·simp only[MC,Hz,iD,sD,AC4,ACr,HZ hb];simp only[show ¬((4:Int)=1) by decide,show ¬((4:Int)=2) by decide,show ¬((4:Int)=3) by decide,if_false]
     rw[show u=(u-1)+1 by omega,ADS,e4]
   ·rename_i he;simp only[Ej,ACP]at h;exact absurd h.1 he
 ·simp[Ej]at h
def XJ(l:List Int):Nat→Nat→List (List DV)→Option (List (List DV)×Nat)
 |0,at',acc=>some (acc,at')
 |n+1,at',acc=>if (ED (l.drop at')).1=0 then XJ l n (at'+(ED (l.drop at')).2.2) (acc++[(ED (l.drop at')).2.1]) else none
def XK(l:List Int):Nat→Nat→Bool→List (List DV)→Option (List (List DV)×Nat×Bool)
 |0,at',sh,acc=>some (acc,at',sh)
 |n+1,at',sh,acc=>if sh||decide (l.length≤at') then XK l n at' true (acc++[[.list []]]) else
  (match XJ l (l.getD at' 0).toNat (at'+1) []with
  |none=>none
  |some (row,at2)=>XK l n at2 false (acc++[[.list row]]))
def gM(l:List Int):Nat→Nat→List (List DV)→Option (List (List DV)×Nat)
 |0,at',acc=>some (acc,at')
 |n+1,at',acc=>if l.length≤at' then none else
  (match XJ l (l.getD at' 0).toNat (at'+1) []with
  |none=>none
  |some (row,at2)=>gM l n at2 (acc++[[.list row]]))
theorem Wv{l:List Int}{a b c:Nat}(h1:a≤b)(h2:b≤c):(l.take c).drop a=(l.take b).drop a++(l.take c).drop b:=by
 have e1:l.take b=(l.take c).take b:=by rw[AEh,ADZ h2]
 have e2:(l.take c).drop b=((l.take c).drop a).drop (b-a):=by rw[AEQ];congr 1;omega
 have e3:((l.take c).take b).drop a=((l.take c).drop a).take (b-a):=List.drop_take
 rw[e1,e2,e3,AEC]
def EE(l:List Int)(i:Nat):Int:=l.getD i 0*256+l.getD (i+1) 0
def wj(l:List Int):Option (Int×Int×Int×List (List DV)):=
 if l.length<7 then none else
 match XK l (l.getD 6 0).toNat 7 false []with
 |some (rows,_,false)=>if Oy (EE l 0) (EE l 2) (EE l 4) rows&&decide (l=Th (EE l 0) (EE l 2) (EE l 4) rows) then some (EE l 0,EE l 2,EE l 4,rows) else none
 |_=>none
def AA4(l:List Int):Option (Int×Int×Int×List (List DV)×Bool):=
 if l.length<7||decide (3000<l.length) then none else
 match gM l (l.getD 6 0).toNat 7 []with
 |some (rows,at2)=>some (EE l 0,EE l 2,EE l 4,rows,Oy (EE l 0) (EE l 2) (EE l 4) rows&&decide (at2=l.length))
 |none=>none
def Bg(z:Int):Bool:=(decide (97≤z)&&decide (z≤122))||(decide (65≤z)&&decide (z≤90))||decide (z=95)
def Oq(z:Int):Bool:=decide (48≤z)&&decide (z≤57)
def XH:List ByteArray:=[AS #[67,82,69,65,84,69],AS #[84,65,66,76,69],AS #[68,82,79,80],AS #[73,78,83,69,82,84],AS #[73,78,84,79],AS #[86,65,76,85,69,83],AS #[85,80,68,65,84,69],AS #[83,69,84],AS #[68,69,76,69,84,69],AS #[70,82,79,77],AS #[83,69,76,69,67,84],AS #[87,72,69,82,69],AS #[73,78,78,69,82],AS #[74,79,73,78],AS #[79,78],AS #[79,82,68,69,82],AS #[66,89],AS #[65,83,67],AS #[68,69,83,67],AS #[76,73,77,73,84],AS #[71,82,79,85,80],AS #[67,79,85,78,84],AS #[83,85,77],AS #[65,78,68],AS #[79,82],AS #[78,79,84],AS #[78,85,76,76],AS #[84,82,85,69],AS #[70,65,76,83,69],AS #[73,83],AS #[73,78,84],AS #[66,79,79,76],AS #[84,69,88,84],AS #[80,82,73,77,65,82,89],AS #[75,69,89]]
def upS(s:ByteArray):ByteArray:=⟨(Lib.toUpperA s.data.toList).toArray⟩
def FU(s:ByteArray):Bool:=XH.any fun k=>decide (upS s=k)
def BT(p:Int→Bool)(s:ByteArray)(n:Int):Int:=n+((s.data.toList.drop n.toNat).takeWhile fun c=>p c.toNat).length
def EA(z:Int):Bool:=Bg z||Oq z
def FV(s:ByteArray)(j:Nat):Int:=(s.data.toList.getD j 0).toNat
def RO(s:ByteArray)(n:Int):Bool:=decide (∀j:Nat,j<s.size→n≤(j:Int)→(Bg (FV s j)||(decide (j≠0)&&Oq (FV s j)))=true)
def HX(s:ByteArray):Bool:=RO s 0&&decide (s≠AS #[])
def Ei(s:ByteArray):Bool:=HX s&& !FU s&&decide (s.size≤24)
def ZR:List SX:=.bin .eql (.v 11) (.ki .u64 (.ofNat 0))::(List.range 64).map fun i=>.bin .eql (.v (12+i)) (.ki .u8 (.ofNat 0))
def ZS(xs:List SX):SX:=.all (xs++ZR)
def VN(ds:List DV):Bool:=den.denAll ⟨fun i=>ds.getD i (.bool false),fun _ _=>.bool false⟩ ZR
def zeroV(k n:Int)(t:ByteArray):Bool:=decide (k=0)&&decide (n=0)&&decide (t=AS #[])
def KI(n:Nat)(s:ByteArray):ByteArray:=s.extract 0 (min s.size n)
def upZ(z:Int):Int:=if 97≤z∧z≤122 then z-32 else z
theorem TJ{p:Int→Bool}{s:ByteArray}{n:Int}(h:(s.size:Int)≤n):BT p s n=n:=by
 unfold BT;have:s.data.toList.drop n.toNat=[]:=ADP (by simp;omega)
 rw[this];simp
theorem drop_cons{s:ByteArray}{n:Int}(h0:0≤n)(h:n<s.size):s.data.toList.drop n.toNat=s.data.toList.getD n.toNat 0::s.data.toList.drop (n+1).toNat:=by
 have hl:n.toNat<s.data.toList.length:=by simp;omega
 rw[ACj hl,show (n+1).toNat=n.toNat+1 by omega]
 simp[ACI,ACL hl]
theorem TK{p:Int→Bool}{s:ByteArray}{n:Int}(h0:0≤n)(h:n<s.size)(hp:p (s.data.toList.getD n.toNat 0).toNat=false):BT p s n=n:=by
 unfold BT;rw[drop_cons h0 h,AEU,if_neg (by rw[hp];simp)]
 simp
theorem Qb{p:Int→Bool}{s:ByteArray}{n:Int}(h0:0≤n)(h:n<s.size)(hp:p (s.data.toList.getD n.toNat 0).toNat=true):BT p s (n+1)=BT p s n:=by
 unfold BT;rw[drop_cons h0 h,AEU,if_pos hp];simp;omega
theorem L8{α:Type}{p:α→Bool}:∀{l:List α} {x:α},x∈l.takeWhile p→p x=true
 | [],x,h=>by simp at h
 |a::l,x,h=>by
  rw[AEU]at h;split at h
  ·rename_i ha;simp only[ACU]at h;rcases h with rfl|h
   ·exact ha
   ·exact L8 h
  ·simp at h
theorem oN(s:ByteArray):(upS s).size=s.size:=by
 show (Lib.toUpperA s.data.toList).toArray.size=s.data.size
 simp only[Lib.toUpperA,ADm,ACX,ACp]
theorem TL{p:Int→Bool}{s:ByteArray}(h:¬BT p s 0<s.size):∀b∈s.data.toList,p b.toNat=true:=by
 unfold BT at h;simp only[Int.toNat_zero,AC1,Int.zero_add]at h;have h1:(s.data.toList.takeWhile fun c=>p c.toNat).length≥s.data.toList.length:=by
  have:s.data.toList.length=s.size:=by simp
  omega
 have h2:s.data.toList.takeWhile (fun c=>p c.toNat)=s.data.toList:=(List.takeWhile_prefix _).eq_of_length_le h1
 intro b hb;rw[←h2]at hb;exact L8 (p:=fun c:UInt8=>p c.toNat) hb
theorem ZT{z:Int}(h:Bg z=true):z<128:=by
 unfold Bg at h;simp at h;omega
theorem RP(s:ByteArray):FU s=true↔∃k∈XH,upS s=k:=by
 simp[FU]
theorem kO:XH.all (fun k=>k.data.toList.all fun b=>decide (65≤b.toNat)&&decide (b.toNat≤90))=true:=by kernel_rfl
theorem wH:∀n:Fin 256,(decide (65≤(Lib.upperB (UInt8.ofNat n.val)).toNat)&&decide ((Lib.upperB (UInt8.ofNat n.val)).toNat≤90))=true→Bg (n.val:Int)=true:=by decide +kernel
theorem ZU{s:ByteArray}(h:FU s=true):∀b∈s.data.toList,Bg b.toNat=true:=by
 obtain⟨k,hk,e⟩:=(RP s).1 h;intro b hb;have h1:=ACt.1 kO k hk
 have h2:Lib.upperB b∈k.data.toList:=by
  rw[←e];show Lib.upperB b∈(Lib.toUpperA s.data.toList).toArray.toList
  simp only[Lib.toUpperA,ADw];exact⟨b,hb,rfl⟩
 have h3:=ACt.1 h1 _ h2
 have:=wH ⟨b.toNat,b.toNat_lt⟩
 simp only[UInt8.ofNat_toNat]at this;exact this h3
theorem Wu{α:Type}{p:α→Bool}{l:List α}(h:∀x∈l,p x=true):l.takeWhile p=l:=by
 induction l with
 |nil=>rfl
 |cons a l ih=>
  rw[AEU,if_pos (h a (by simp)),ih fun x hx=>h x (by simp[hx])]
theorem cM{p:Int→Bool}{s:ByteArray}(h:∀b∈s.data.toList,p b.toNat=true):BT p s 0=s.size:=by
 unfold BT;simp only[Int.toNat_zero,AC1,Int.zero_add];rw[Wu (p:=fun c:UInt8=>p c.toNat) h]
 simp
theorem kS{s:ByteArray}{j:Nat}(h:j<s.size):∃b∈s.data.toList,FV s j=b.toNat:=by
 have hl:j<s.data.toList.length:=by simpa using h
 refine⟨s.data.toList[j],AC7 hl,?_⟩
 simp[FV,ACI,ACL hl]
theorem kT{s:ByteArray}{b:UInt8}(h:b∈s.data.toList):∃j,j<s.size∧FV s j=b.toNat:=by
 obtain⟨j,hj⟩:=ACf.1 h;have hl:=(ACW.1 hj).1
 refine⟨j,by simpa using hl,?_⟩
 simp only[FV,ACI,hj,ACo]
theorem kV(s:ByteArray):HX s=true↔s≠AS #[]∧∀j:Nat,j<s.size→(Bg (FV s j)||(decide (j≠0)&&Oq (FV s j)))=true:=by
 simp only[HX,RO,ACH,ACN];constructor
 ·rintro⟨h1,h2⟩;exact⟨h2,fun j hj=>h1 j hj (by omega)⟩
 ·rintro⟨h1,h2⟩;exact⟨fun j hj _=>h2 j hj,h1⟩
theorem Ot{s:ByteArray}(h0:0<s.size):(Bg (FV s 0)=true∧BT EA s 0=s.size)↔HX s=true:=by
 rw[kV];constructor
 ·rintro⟨h1,h2⟩;refine⟨fun e=>by rw[e]at h0;exact absurd h0 (by decide),fun j hj=>?_⟩
  obtain⟨b,hb,e⟩:=kS hj;have:=TL (p:=EA) (s:=s) (by omega) b hb
  by_cases hz:j=0
  ·subst hz;simp[h1]
  ·rw[e];simp only[EA]at this;simpa[hz]using this
 ·rintro⟨h1,h2⟩;refine⟨by simpa using h2 0 h0,cM fun b hb=>?_⟩
  obtain⟨j,hj,e⟩:=kT hb;have:=h2 j hj
  rw[e]at this;simp only[EA];rw[ADW]at this⊢;rcases this with h|h
  ·exact .inl h
  ·exact .inr (by rw[ACH]at h;exact h.2)
def qz:List Ty:=UR::List.replicate 64 tU8
def tQry:List Ty:=tI::.str::(tV++tV++tV++qz)
def LS(ds:List DV):Bool:=
 let zv:=fun k=>zeroV (iD ds k) (iD ds (k+1)) (sD ds (k+2))
 let vv:=fun k=>Bt (iD ds k) (iD ds (k+1)) (sD ds (k+2)).size
 if iD ds 0=1 then Ei (sD ds 1)&&vv 2&&decide (iD ds 2≠1)&&zv 5&&zv 8&&VN ds else
 if iD ds 0=2 then Ei (sD ds 1)&&vv 5&&vv 8&&zv 2&&VN ds else
 if iD ds 0=3 then decide (sD ds 1=AS #[])&&zv 2&&zv 5&&zv 8 else false
abbrev tC:List Ty:=[.str,.str]
abbrev IL:List Ty:=List.replicate 32 tU8
abbrev Cx:Ty:=.slice tC
abbrev BM:Ty:=.slice IL
abbrev tP:List Ty:=[tI,tI,Cx,BM,BM]
def IsC(c:List DV):Prop:=∃k v:ByteArray,c=[.str k,.str v]
def IsD(x:List DV):Prop:=∃l:List Int,x=(l.map fun z=>DV.int .u8 z)∧l.length=32∧BI l
def idB(x:List DV):List Int:=x.map fun d=>match d with
 |.int _ z=>z
 |_=>0
def Ku(c:List DV):List Int:=be2 (sD c 0).size++(Bl (sD c 0)++(be2 (sD c 1).size++Bl (sD c 1)))
def Bp(c:List DV):Bool:=decide ((sD c 0).size≤200)&&decide ((sD c 1).size≤1000)
def CK(l:List (List DV)):List Int:=l.flatMap Ku
def Eu(l:List (List DV)):List Int:=l.flatMap idB
def JQ(t f:Int)(ps p q:List (List DV)):Bool:=decide (0≤t)&&decide (t≤200)&&(decide (0≤f)&&decide (f≤200))&&decide (ps.length≤200)&&(decide (p.length≤255)&&decide (q.length≤255))
def DZ(t f:Int)(ps p q:List (List DV)):Bool:=JQ t f ps p q&&ps.all Bp
def Gp(t f:Int)(ps p q:List (List DV)):List Int:=be2 t++(be2 f++(be2 ps.length++(CK ps++(be2 p.length++(Eu p++(be2 q.length++Eu q))))))
def qN:List Int→Option (Int×List Int)
 |a::b::r=>some (a*256+b,r)
 |_=>none
def RQ(l:List Int):Option (List Int×List Int):=match qN l with
 |none=>none
 |some (n,r)=>if r.length<n.toNat then none else some (r.take n.toNat,r.drop n.toNat)
def Pt(k v:List Int):List DV:=[.str (Ci k),.str (Ci v)]
def idD(l:List Int):List DV:=l.map fun z=>DV.int .u8 z
def Ik:Nat→List Int→List (List DV)→Option (List (List DV)×List Int)
 |0,l,acc=>some (acc,l)
 |n+1,l,acc=>match RQ l with
  |none=>none
  |some (k,l)=>match RQ l with
   |none=>none
   |some (v,l)=>Ik n l (acc++[Pt k v])
def LQ:Nat→List Int→List (List DV)→Option (List (List DV)×List Int)
 |0,l,acc=>some (acc,l)
 |n+1,l,acc=>if l.length<32 then none else LQ n (l.drop 32) (acc++[idD (l.take 32)])
structure Ans where
 t:Int
 f:Int
 ps:List (List DV)
 p:List (List DV)
 q:List (List DV)
def VS(l:List Int):Option (Ans×List Int):=
 match qN l with
 |none=>none
 |some (t,l)=>match qN l with
  |none=>none
  |some (f,l)=>match qN l with
   |none=>none
   |some (n,l)=>match Ik n.toNat l []with
    |none=>none
    |some (ps,l)=>match qN l with
     |none=>none
     |some (m,l)=>match LQ m.toNat l []with
      |none=>none
      |some (p,l)=>match qN l with
       |none=>none
       |some (k,l)=>match LQ k.toNat l []with
        |none=>none
        |some (q,l)=>some (⟨t,f,ps,p,q⟩,l)
theorem WV{l:List Int}(n:Nat)(h:BI l):BI (l.take n):=fun z hz=>h z (AD1 hz)
theorem WW{l:List Int}(n:Nat)(h:BI l):BI (l.drop n):=fun z hz=>h z (ADC hz)
theorem Ji{l r:List Int}{n:Int}(h:qN l=some (n,r))(hl:BI l):l=be2 n++r∧0≤n∧n≤65535∧BI r:=by
 match l,h,hl with
 |a::b::r',h,hl=>
  simp only[qN,ACJ,ACP]at h;obtain⟨rfl,rfl⟩:=h;have ha:=hl a (by simp)
  have hb:=hl b (by simp)
  refine⟨?_,by omega,by omega,fun z hz=>hl z (by simp[hz])⟩
  unfold be2;have e1:(a*256+b) / 256%256=a:=by omega
  have e2:(a*256+b)%256=b:=by omega
  rw[e1,e2];rfl
 | [],h,_=>simp[qN]at h
 | [_],h,_=>simp[qN]at h
theorem WX{l s r:List Int}(h:RQ l=some (s,r))(hl:BI l):l=be2 s.length++(s++r)∧s.length≤65535∧BI s∧BI r:=by
 unfold RQ at h;split at h
 ·cases h
 ·rename_i n r' hq;obtain⟨e,h0,h1,hr⟩:=Ji hq hl;split at h
  ·cases h
  ·rename_i hlt;simp only[ACJ,ACP]at h;obtain⟨rfl,rfl⟩:=h;have hs:(r'.take n.toNat).length=n.toNat:=by rw[ACh];omega
   refine⟨?_,by omega,WV _ hr,WW _ hr⟩
   rw[hs,AEC,show ((n.toNat:Nat):Int)=n by omega]
   exact e
theorem gH{k v:List Int}(hk:BI k)(hv:BI v):Ku (Pt k v)=be2 k.length++(k++(be2 v.length++v)):=by
 show be2 (Ci k).size++(Bl (Ci k)++(be2 (Ci v).size++Bl (Ci v)))=_
 rw[KK,KK,HZ hk,HZ hv]
theorem Qc:∀{n:Nat} {l:List Int} {acc out:List (List DV)} {r:List Int},Ik n l acc=some (out,r)→BI l→∃t,out=acc++t∧t.length=n∧l=CK t++r∧BI r∧∀c∈t,IsC c
 |0,l,acc,out,r,h,hl=>by
  simp only[Ik,ACJ,ACP]at h;obtain⟨rfl,rfl⟩:=h;exact⟨[],by simp,rfl,rfl,hl,by simp⟩
 |n+1,l,acc,out,r,h,hl=>by
  unfold Ik at h;split at h
  ·cases h
  ·rename_i k l1 h1;obtain⟨e1,_,hk,hl1⟩:=WX h1 hl;split at h
   ·cases h
   ·rename_i v l2 h2;obtain⟨e2,_,hv,hl2⟩:=WX h2 hl1;obtain⟨t,rfl,ht,e3,hr,hc⟩:=Qc h hl2;refine⟨Pt k v::t,by simp,by simp[ht],?_,hr,fun c hc'=>?_⟩
    ·rw[CK,AD5,gH hk hv,e1,e2,e3];simp[CK]
    ·rcases ACU.1 hc' with rfl|hc'
     ·exact⟨_,_,rfl⟩
     ·exact hc c hc'
theorem cS(l:List Int):idB (idD l)=l:=by
 unfold idB idD;rw[ADQ]
 conv=>rhs;rw[←AEV l]
 exact ADN fun _ _=>rfl
theorem Ov:∀{n:Nat} {l:List Int} {acc out:List (List DV)} {r:List Int},LQ n l acc=some (out,r)→BI l→∃t,out=acc++t∧t.length=n∧l=Eu t++r∧BI r∧∀c∈t,IsD c
 |0,l,acc,out,r,h,hl=>by
  simp only[LQ,ACJ,ACP]at h;obtain⟨rfl,rfl⟩:=h;exact⟨[],by simp,rfl,rfl,hl,by simp⟩
 |n+1,l,acc,out,r,h,hl=>by
  unfold LQ at h;split at h
  ·cases h
  ·rename_i hlt;obtain⟨t,rfl,ht,e3,hr,hc⟩:=Ov h (WW 32 hl);refine⟨idD (l.take 32)::t,by simp,by simp[ht],?_,hr,fun c hc'=>?_⟩
   ·rw[Eu,AD5,cS,ACy]
    conv=>lhs;rw[←AEC 32 l,e3]
    rfl
   ·rcases ACU.1 hc' with rfl|hc'
    ·exact⟨_,rfl,by rw[ACh];omega,WV _ hl⟩
    ·exact hc c hc'
theorem WY{l r:List Int}{x:Ans}(h:VS l=some (x,r))(hl:BI l):l=Gp x.t x.f x.ps x.p x.q++r∧(0≤x.t∧x.t≤65535)∧(0≤x.f∧x.f≤65535)∧x.ps.length≤65535∧x.p.length≤65535∧x.q.length≤65535∧(∀c∈x.ps,IsC c)∧(∀c∈x.p,IsD c)∧(∀c∈x.q,IsD c):=by
 unfold VS at h;split at h
 ·cases h
 rename_i t l1 h1;obtain⟨e1,a1,a2,b1⟩:=Ji h1 hl;split at h
 ·cases h
 rename_i f l2 h2;obtain⟨e2,a3,a4,b2⟩:=Ji h2 b1;split at h
 ·cases h
 rename_i n l3 h3;obtain⟨e3,a5,a6,b3⟩:=Ji h3 b2;split at h
 ·cases h
 rename_i ps l4 h4;obtain⟨t4,rfl,n4,e4,b4,c4⟩:=Qc h4 b3;split at h
 ·cases h
 rename_i m l5 h5;obtain⟨e5,a7,a8,b5⟩:=Ji h5 b4;split at h
 ·cases h
 rename_i p l6 h6;obtain⟨t6,rfl,n6,e6,b6,c6⟩:=Ov h6 b5;split at h
 ·cases h
 rename_i k l7 h7;obtain⟨e7,a9,a10,b7⟩:=Ji h7 b6;split at h
 ·cases h
 rename_i q l8 h8;obtain⟨t8,rfl,n8,e8,b8,c8⟩:=Ov h8 b7;simp only[ACJ,ACP]at h;obtain⟨rfl,rfl⟩:=h;refine⟨?_,⟨a1,a2⟩,⟨a3,a4⟩,by show ps.length≤_;omega,by show p.length≤_;omega,by show q.length≤_;omega,c4,c6,c8⟩
 unfold Gp;rw[show ((ps.length:Nat):Int)=n by omega,show ((p.length:Nat):Int)=m by omega,show ((q.length:Nat):Int)=k by omega,e1,e2,e3,e4,e5,e6,e7,e8]
 simp
def Pu:Ans:=⟨0,0,[],[],[]⟩
def EC(l:List Int):Int×Ans:=match VS l with
 |none=>(7,Pu)
 |some (x,r)=>if DZ x.t x.f x.ps x.p x.q&&decide (r=[]) then (0,x) else (301,Pu)
def RR(x:Ans):List DV:=[.int .i64 x.t,.int .i64 x.f,.list x.ps,.list x.p,.list x.q]
theorem GA(n:Int):(be2 n).length=2:=rfl
theorem WZ(c:List DV):(Ku c).length=4+(sD c 0).size+(sD c 1).size:=by
 unfold Ku;simp only[ACT,GA,Hm];omega
theorem TP{l:List (List DV)}(h:l.all Bp=true):(CK l).length≤1204*l.length:=by
 induction l with
 |nil=>simp[CK]
 |cons c l ih=>
  simp only[AEb,ACH]at h;have h1:=ih h.2
  have h2:=h.1
  simp only[Bp,ACH,ACN]at h2;simp only[CK,AD5,ACT,WZ,ACe]at h1⊢;omega
theorem cT{x:List DV}(h:IsD x):(idB x).length=32:=by
 obtain⟨l,rfl,hl,_⟩:=h;simp[idB,hl]
theorem M7{l:List (List DV)}(h:∀c∈l,IsD c):(Eu l).length=32*l.length:=by
 induction l with
 |nil=>simp[Eu]
 |cons c l ih=>
  have h1:=ih fun c hc=>h c (by simp[hc])
  have h2:=cT (h c (by simp))
  simp only[Eu,AD5,ACT,ACe]at h1⊢;omega
def TQ(ds:List DV):Bool:=decide ((Aa ds 0).length≤1000000)&&(decide (0≤iD ds 1)&&decide (iD ds 1≤(Aa ds 0).length))
def rdU(l:List Int)(a e:Int):Int×Int×Int:=if e≠0 then (0,a,e) else if (l.length:Int)-a<2 then (0,a,7) else (EE l a.toNat,a+2,e)
def rdW(l:List Int)(a e n:Int):List Int×Int×Int:=if e≠0 then ([],a,e) else if (l.length:Int)-a<n then ([],a,7) else ((l.take (a+n).toNat).drop a.toNat,a+n,e)
def VT(ds:List DV):Bool×List DV:=(true,[.int .u16 (rdU (Aa ds 0) (iD ds 1) (iD ds 2)).1,.int .i64 (rdU (Aa ds 0) (iD ds 1) (iD ds 2)).2.1,.int .i64 (rdU (Aa ds 0) (iD ds 1) (iD ds 2)).2.2])
def VU(ds:List DV):Bool×List DV:=(true,[.list (bytesI (rdW (Aa ds 0) (iD ds 1) (iD ds 2) (iD ds 3)).1),.int .i64 (rdW (Aa ds 0) (iD ds 1) (iD ds 2) (iD ds 3)).2.1,.int .i64 (rdW (Aa ds 0) (iD ds 1) (iD ds 2) (iD ds 3)).2.2])
theorem cU(l:List Int)(a e:Int):VT [.list (bytesI l),.int .i64 a,.int .i64 e]=(true,[.int .u16 (rdU l a e).1,.int .i64 (rdU l a e).2.1,.int .i64 (rdU l a e).2.2]):=by
 have h:Aa [.list (bytesI l),.int .i64 a,.int .i64 e] 0=l:=BD l
 unfold VT;rw[h];rfl
theorem cV(l:List Int)(a e n:Int):VU [.list (bytesI l),.int .i64 a,.int .i64 e,.int .i64 n]=(true,[.list (bytesI (rdW l a e n).1),.int .i64 (rdW l a e n).2.1,.int .i64 (rdW l a e n).2.2]):=by
 have h:Aa [.list (bytesI l),.int .i64 a,.int .i64 e,.int .i64 n] 0=l:=BD l
 unfold VU;rw[h];rfl
def B9(l:List Int)(a:Int):Prop:=BI l∧l.length≤1000000∧0≤a∧a≤l.length
def ZY(ds:List DV):Prop:=∃l a e,ds=[.list (bytesI l),.int .i64 a,.int .i64 e]∧B9 l a
def y9(ds:List DV):Prop:=∃l a e n,ds=[.list (bytesI l),.int .i64 a,.int .i64 e,.int .i64 n]∧B9 l a∧0≤n∧n≤9223372036854775807
theorem ZZ(l:List Int)(a:Int)(r:List DV):TQ (.list (bytesI l)::.int .i64 a::r)=(decide (l.length≤1000000)&&(decide (0≤a)&&decide (a≤l.length))):=by
 have h:Aa (.list (bytesI l)::.int .i64 a::r) 0=l:=BD l
 unfold TQ;rw[h];rfl
theorem TV{l:List Int}{a e:Int}(h:B9 l a):B9 l (rdU l a e).2.1∧0≤(rdU l a e).1∧(rdU l a e).1≤65535:=by
 obtain⟨hB,hl,h0,h1⟩:=h;unfold rdU;split
 ·exact⟨⟨hB,hl,h0,h1⟩,by simp,by simp⟩
 split
 ·exact⟨⟨hB,hl,h0,h1⟩,by simp,by simp⟩
 ·have hm:∀j,j<l.length→0≤l.getD j 0∧l.getD j 0≤255:=fun j hj=>Bb hB (by
   rw[ACI,ACL hj];exact AC7 _)
  have m0:=hm a.toNat (by omega)
  have m1:=hm (a.toNat+1) (by omega)
  exact⟨⟨hB,hl,by simp only;omega,by simp only;omega⟩,by simp only[EE];omega,by simp only[EE];omega⟩
theorem Za{l:List Int}{a e n:Int}(h:B9 l a)(hn:0≤n):B9 l (rdW l a e n).2.1∧BI (rdW l a e n).1:=by
 obtain⟨hB,hl,h0,h1⟩:=h;unfold rdW;split
 ·exact⟨⟨hB,hl,h0,h1⟩,fun z hz=>by simp at hz⟩
 split
 ·exact⟨⟨hB,hl,h0,h1⟩,fun z hz=>by simp at hz⟩
 ·exact⟨⟨hB,hl,by simp only;omega,by simp only;omega⟩,fun z hz=>hB z (AD1 (ADC hz))⟩
def rdT(l:List Int)(a e:Int):List Int×Int×Int:=rdW l (rdU l a e).2.1 (rdU l a e).2.2 (rdU l a e).1
def VV(ds:List DV):Bool×List DV:=(true,[.str (Ci (rdT (Aa ds 0) (iD ds 1) (iD ds 2)).1),.int .i64 (rdT (Aa ds 0) (iD ds 1) (iD ds 2)).2.1,.int .i64 (rdT (Aa ds 0) (iD ds 1) (iD ds 2)).2.2])
theorem cW(l:List Int)(a e:Int):VV [.list (bytesI l),.int .i64 a,.int .i64 e]=(true,[.str (Ci (rdT l a e).1),.int .i64 (rdT l a e).2.1,.int .i64 (rdT l a e).2.2]):=by
 have h:Aa [.list (bytesI l),.int .i64 a,.int .i64 e] 0=l:=BD l
 unfold VV;rw[h];rfl
def Co(l:List Int):Nat→Int→Int→List (List DV)→List (List DV)×Int×Int
 |0,a,e,acc=>(acc,a,e)
 |n+1,a,e,acc=>if e≠0 then (acc,a,e) else Co l n (rdT l (rdT l a e).2.1 (rdT l a e).2.2).2.1 (rdT l (rdT l a e).2.1 (rdT l a e).2.2).2.2 (acc++[Pt (rdT l a e).1 (rdT l (rdT l a e).2.1 (rdT l a e).2.2).1])
def GK(s:List Int):List DV:=if s.length=32 then idD s else idD (List.replicate 32 0)
def CT(l:List Int):Nat→Int→Int→List (List DV)→List (List DV)×Int×Int
 |0,a,e,acc=>(acc,a,e)
 |n+1,a,e,acc=>if e≠0 then (acc,a,e) else CT l n (rdW l a e 32).2.1 (rdW l a e 32).2.2 (acc++[GK (rdW l a e 32).1])
def VW(ds:List DV):Bool×List DV:=(true,GK (rdW (Aa ds 0) (iD ds 1) (iD ds 2) 32).1++[.int .i64 (rdW (Aa ds 0) (iD ds 1) (iD ds 2) 32).2.1,.int .i64 (rdW (Aa ds 0) (iD ds 1) (iD ds 2) 32).2.2])
theorem VX(l:List Int)(a e:Int):VW [.list (bytesI l),.int .i64 a,.int .i64 e]=(true,GK (rdW l a e 32).1++[.int .i64 (rdW l a e 32).2.1,.int .i64 (rdW l a e 32).2.2]):=by
 have h:Aa [.list (bytesI l),.int .i64 a,.int .i64 e] 0=l:=BD l
 unfold VW;rw[h];rfl
def Pv(ds:List DV):Bool×List DV:=(true,[.int .i64 (Co (Aa ds 0) (iD ds 3).toNat (iD ds 1) (iD ds 2) (lD ds 4)).2.1,.int .i64 (Co (Aa ds 0) (iD ds 3).toNat (iD ds 1) (iD ds 2) (lD ds 4)).2.2,.list (Co (Aa ds 0) (iD ds 3).toNat (iD ds 1) (iD ds 2) (lD ds 4)).1])
def Kv(ds:List DV):Bool×List DV:=(true,[.int .i64 (CT (Aa ds 0) (iD ds 3).toNat (iD ds 1) (iD ds 2) (lD ds 4)).2.1,.int .i64 (CT (Aa ds 0) (iD ds 3).toNat (iD ds 1) (iD ds 2) (lD ds 4)).2.2,.list (CT (Aa ds 0) (iD ds 3).toNat (iD ds 1) (iD ds 2) (lD ds 4)).1])
theorem KJ(l:List Int)(a e n:Int)(p:List (List DV))(r:List DV):Pv (.list (bytesI l)::.int .i64 a::.int .i64 e::.int .u16 n::.list p::r)=(true,[.int .i64 (Co l n.toNat a e p).2.1,.int .i64 (Co l n.toNat a e p).2.2,.list (Co l n.toNat a e p).1]):=by
 have h:Aa (.list (bytesI l)::.int .i64 a::.int .i64 e::.int .u16 n::.list p::r) 0=l:=BD l
 unfold Pv;rw[h];rfl
theorem M8(l:List Int)(a e n:Int)(p:List (List DV))(r:List DV):Kv (.list (bytesI l)::.int .i64 a::.int .i64 e::.int .u16 n::.list p::r)=(true,[.int .i64 (CT l n.toNat a e p).2.1,.int .i64 (CT l n.toNat a e p).2.2,.list (CT l n.toNat a e p).1]):=by
 have h:Aa (.list (bytesI l)::.int .i64 a::.int .i64 e::.int .u16 n::.list p::r) 0=l:=BD l
 unfold Kv;rw[h];rfl
theorem oZ{l:List Int}{a:Nat}(h:a+2≤l.length):l.drop a=l.getD a 0::l.getD (a+1) 0::l.drop (a+2):=by
 rw[ACj (by omega),ACj (by omega)]
 simp[ACI,ACL (show a<l.length by omega),ACL (show a+1<l.length by omega)]
theorem Pw{l:List Int}{a:Int}(h:B9 l a):(∃n a',qN (l.drop a.toNat)=some (n,l.drop a'.toNat)∧rdU l a 0=(n,a',0)∧B9 l a'∧0≤n∧n≤65535)∨(qN (l.drop a.toNat)=none∧rdU l a 0=(0,a,7)):=by
 have hok:=TV (e:=0) h
 obtain⟨hB,hl,h0,h1⟩:=h;unfold rdU at hok⊢;rw[if_neg (by simp)]at hok⊢
 by_cases h2:(l.length:Int)-a<2
 ·rw[if_pos h2];refine .inr ⟨?_,rfl⟩
  have hlen:(l.drop a.toNat).length<2:=by rw[ADA];omega
  match hd:l.drop a.toNat,hlen with
  | [],_=>rfl
  | [_],_=>rfl
 ·rw[if_neg h2]at hok⊢;refine .inl ⟨EE l a.toNat,a+2,?_,rfl,hok.1,hok.2.1,hok.2.2⟩
  rw[oZ (show a.toNat+2≤l.length by omega)]
  show some (l.getD a.toNat 0*256+l.getD (a.toNat+1) 0,l.drop (a.toNat+2))=_
  rw[show (a+2).toNat=a.toNat+2 by omega]
  rfl
theorem rC{l:List Int}{a n:Int}(h:B9 l a)(hn:0≤n):((l.drop a.toNat).length<n.toNat∧rdW l a 0 n=([],a,7))∨(¬(l.drop a.toNat).length<n.toNat∧rdW l a 0 n=((l.drop a.toNat).take n.toNat,a+n,0)∧(l.drop a.toNat).drop n.toNat=l.drop (a+n).toNat∧B9 l (a+n)):=by
 obtain⟨hB,hl,h0,h1⟩:=h;unfold rdW;rw[if_neg (by simp)]
 by_cases h2:(l.length:Int)-a<n
 ·rw[if_pos h2];exact .inl ⟨by rw[ADA];omega,rfl⟩
 ·rw[if_neg h2];refine .inr ⟨by rw[ADA];omega,?_,?_,hB,hl,by omega,by omega⟩
  ·rw[List.take_drop,show (a+n).toNat=a.toNat+n.toNat by omega]
  ·rw[AEQ,show (a+n).toNat=a.toNat+n.toNat by omega]
theorem rD{l:List Int}{a:Int}(h:B9 l a):(∃s a',RQ (l.drop a.toNat)=some (s,l.drop a'.toNat)∧rdT l a 0=(s,a',0)∧B9 l a')∨(RQ (l.drop a.toNat)=none∧(rdT l a 0).2.2=7∧B9 l (rdT l a 0).2.1):=by
 unfold rdT RQ;rcases Pw h with ⟨n,a',e1,e2,h2,n0,n1⟩|⟨e1,e2⟩
 ·rw[e1,e2];simp only;rcases rC h2 n0 with ⟨g1,g2⟩|⟨g1,g2,g3,g4⟩
  ·rw[if_pos g1,g2];exact .inr ⟨rfl,rfl,h2⟩
  ·rw[if_neg g1,g2,g3];exact .inl ⟨_,_,rfl,rfl,g4⟩
 ·rw[e1,e2];refine .inr ⟨rfl,?_,?_⟩
  ·simp[rdW]
  ·simp only[rdW];exact h
theorem cY{l:List Int}{a:Int}(h:B9 l a):(rdT l a 7).2.2=7∧B9 l (rdT l a 7).2.1:=by
 have:rdT l a 7=([],a,7):=by
  have e:rdU l a 7=(0,a,7):=by simp[rdU]
  unfold rdT;rw[e];simp[rdW]
 rw[this];exact⟨rfl,h⟩
theorem MA{l:List Int}{a:Int}:∀{n:Nat} {acc:List (List DV)},Co l n a 7 acc=(acc,a,7)
 |0,_=>rfl
 |n+1,acc=>by unfold Co;rw[if_pos (by decide)]
theorem GB{l:List Int}{a:Int}:∀{n:Nat} {acc:List (List DV)},CT l n a 7 acc=(acc,a,7)
 |0,_=>rfl
 |n+1,acc=>by unfold CT;rw[if_pos (by decide)]
theorem rE{l:List Int}:∀{n:Nat} {a:Int} {acc:List (List DV)},B9 l a→(∃out a',Ik n (l.drop a.toNat) acc=some (out,l.drop a'.toNat)∧Co l n a 0 acc=(out,a',0)∧B9 l a')∨(Ik n (l.drop a.toNat) acc=none∧(Co l n a 0 acc).2.2=7∧B9 l (Co l n a 0 acc).2.1)
 |0,a,acc,h=>.inl ⟨acc,a,rfl,rfl,h⟩
 |n+1,a,acc,h=>by
  unfold Co Ik;rw[if_neg (by simp)]
  rcases rD h with ⟨s,a1,e1,e2,h1⟩|⟨e1,e2,h1⟩
  ·rw[e1,e2];simp only;rcases rD h1 with ⟨t,a2,g1,g2,h2⟩|⟨g1,g2,h2⟩
   ·rw[g1,g2];exact rE h2
   ·rw[g1,g2,MA];exact .inr ⟨rfl,rfl,h2⟩
  ·rw[e1,e2,(cY h1).1,MA];exact .inr ⟨rfl,rfl,(cY h1).2⟩
theorem gI{l:List Int}:∀{n:Nat} {a:Int} {acc:List (List DV)},B9 l a→(∃out a',LQ n (l.drop a.toNat) acc=some (out,l.drop a'.toNat)∧CT l n a 0 acc=(out,a',0)∧B9 l a')∨(LQ n (l.drop a.toNat) acc=none∧(CT l n a 0 acc).2.2=7∧B9 l (CT l n a 0 acc).2.1)
 |0,a,acc,h=>.inl ⟨acc,a,rfl,rfl,h⟩
 |n+1,a,acc,h=>by
  have e0:CT l (n+1) a 0 acc=CT l n (rdW l a 0 32).2.1 (rdW l a 0 32).2.2 (acc++[GK (rdW l a 0 32).1]):=if_neg (by simp)
  have e1:LQ (n+1) (l.drop a.toNat) acc=if (l.drop a.toNat).length<32 then none else LQ n ((l.drop a.toNat).drop 32) (acc++[idD ((l.drop a.toNat).take 32)]):=rfl
  rw[e0,e1];rcases rC (n:=32) h (by decide) with ⟨g1,g2⟩|⟨g1,g2,g3,g4⟩
  ·have g1:(l.drop a.toNat).length<32:=g1
   rw[if_pos g1,g2,GB];exact .inr ⟨rfl,rfl,h⟩
  ·have g1:¬(l.drop a.toNat).length<32:=g1
   have g2:rdW l a 0 32=((l.drop a.toNat).take 32,a+32,0):=g2
   have g3:(l.drop a.toNat).drop 32=l.drop (a+32).toNat:=g3
   have hl:((l.drop a.toNat).take 32).length=32:=by rw[ACh];omega
   have e:GK ((l.drop a.toNat).take 32)=idD ((l.drop a.toNat).take 32):=by unfold GK;rw[if_pos hl]
   rw[if_neg g1,g2,e,g3];exact gI g4
theorem TW{l:List Int}{a e:Int}(h:B9 l a):B9 l (rdT l a e).2.1:=by
 obtain⟨o1,n0,_⟩:=TV (e:=e) h;exact (Za o1 n0).1
theorem kf{l:List Int}:∀{n:Nat} {a e:Int} {acc:List (List DV)},B9 l a→B9 l (Co l n a e acc).2.1
 |0,_,_,_,h=>h
 |n+1,a,e,acc,h=>by
  unfold Co;split
  ·exact h
  ·exact kf (TW (TW h))
theorem kg{l:List Int}:∀{n:Nat} {a e:Int} {acc:List (List DV)},B9 l a→B9 l (CT l n a e acc).2.1
 |0,_,_,_,h=>h
 |n+1,a,e,acc,h=>by
  unfold CT;split
  ·exact h
  ·exact kg (Za h (by decide)).1
structure AnsR where
 x:Ans
 a:Int
 e:Int
def rdA(l:List Int):AnsR:=
 let t:=rdU l 0 0
 let f:=rdU l t.2.1 t.2.2
 let n:=rdU l f.2.1 f.2.2
 let c:=Co l n.1.toNat n.2.1 n.2.2 []
 let m:=rdU l c.2.1 c.2.2
 let p:=CT l m.1.toNat m.2.1 m.2.2 []
 let k:=rdU l p.2.1 p.2.2
 let q:=CT l k.1.toNat k.2.1 k.2.2 []
 ⟨⟨t.1,f.1,c.1,p.1,q.1⟩,q.2.1,q.2.2⟩
theorem Jj{l:List Int}{a:Int}:rdU l a 7=(0,a,7):=by simp[rdU]
theorem zA{l:List Int}(hB:BI l)(hl:l.length≤1000000):(∃x a',VS l=some (x,l.drop a'.toNat)∧rdA l=⟨x,a',0⟩∧B9 l a')∨(VS l=none∧(rdA l).e=7):=by
 have h0:B9 l 0:=⟨hB,hl,by omega,by omega⟩
 have hd:l.drop (0:Int).toNat=l:=rfl
 have errI:∀(n:Nat) (a:Int) (acc:List (List DV)),(CT l n a 7 acc).2.2=7:=fun n a acc=>by rw[GB]
 unfold rdA VS;simp only;rcases Pw h0 with ⟨t,a1,e1,g1,h1,_,_⟩|⟨e1,g1⟩
 rotate_left
 ·rw[hd]at e1;simp only[e1,g1,Jj,MA,GB];exact .inr ⟨trivial,trivial⟩
 rw[hd]at e1;simp only[e1,g1];rcases Pw h1 with ⟨f,a2,e2,g2,h2,_,_⟩|⟨e2,g2⟩
 rotate_left
 ·simp only[e2,g2,Jj,MA,GB];exact .inr ⟨trivial,trivial⟩
 simp only[e2,g2];rcases Pw h2 with ⟨n,a3,e3,g3,h3,_,_⟩|⟨e3,g3⟩
 rotate_left
 ·simp only[e3,g3,Jj,MA,GB];exact .inr ⟨trivial,trivial⟩
 simp only[e3,g3];rcases rE (n:=n.toNat) (acc:=[]) h3 with ⟨ps,a4,e4,g4,h4⟩|⟨e4,g4,h4⟩
 rotate_left
 ·simp only[e4,g4,Jj,GB];exact .inr ⟨trivial,trivial⟩
 simp only[e4,g4];rcases Pw h4 with ⟨m,a5,e5,g5,h5,_,_⟩|⟨e5,g5⟩
 rotate_left
 ·simp only[e5,g5,Jj,GB];exact .inr ⟨trivial,trivial⟩
 simp only[e5,g5];rcases gI (n:=m.toNat) (acc:=[]) h5 with ⟨p,a6,e6,g6,h6⟩|⟨e6,g6,h6⟩
 rotate_left
 ·simp only[e6,g6,Jj,GB];exact .inr ⟨trivial,trivial⟩
 simp only[e6,g6];rcases Pw h6 with ⟨k,a7,e7,g7,h7,_,_⟩|⟨e7,g7⟩
 rotate_left
 ·simp only[e7,g7,GB];exact .inr ⟨trivial,trivial⟩
 simp only[e7,g7];rcases gI (n:=k.toNat) (acc:=[]) h7 with ⟨q,a8,e8,g8,h8⟩|⟨e8,g8,h8⟩
 rotate_left
 ·simp only[e8,g8];exact .inr ⟨trivial,trivial⟩
 simp only[e8,g8];exact .inl ⟨_,a8,rfl,rfl,h8⟩
def Fu:List (List DV)→Int→Option Int
 | [],_=>none
 |c::l,i=>if Bp c then Fu l (i+1) else some i
theorem TY:∀{l:List (List DV)} {i:Int},(Fu l i).isNone=l.all Bp
 | [],_=>rfl
 |c::l,i=>by
  unfold Fu;rw[AEb];split
  ·rename_i h;rw[h,AEl,TY]
  ·rename_i h;simp only[Bool.not_eq_true]at h;rw[h];rfl
theorem Wc:∀{l:List (List DV)} {i j:Int},Fu l i=some j→i≤j
 | [],_,_,h=>by cases h
 |c::l,i,j,h=>by
  unfold Fu at h;split at h
  ·have:=Wc h
   omega
  ·cases h;omega
def JR(ds:List DV):Bool×List DV:=match Fu ((lD ds 0).drop (iD ds 1).toNat) (iD ds 1) with
 |none=>(true,[])
 |some j=>(false,[.int .i64 j])
def gJ(ds:List DV):List (List DV):=[[.bool (!(lD ds 0).all Bp)]]
def FpB(ds:List DV):Bool×List DV:=if ((lD ds 0).drop (iD ds 1).toNat).all Bp then (true,[.list (bytesI (Aa ds 2++CK ((lD ds 0).drop (iD ds 1).toNat)))]) else (false,[])
def Ow(ds:List DV):Bool×List DV:=(true,[.list (bytesI (Aa ds 2++Eu ((lD ds 0).drop (iD ds 1).toNat)))])
theorem TZ(l:List (List DV))(i:Int)(b:List Int)(r:List DV):FpB (.list l::.int .i64 i::.list (bytesI b)::r)=if (l.drop i.toNat).all Bp then (true,[.list (bytesI (b++CK (l.drop i.toNat)))]) else (false,[]):=by
 have h:Aa (.list l::.int .i64 i::.list (bytesI b)::r) 2=b:=BD b
 unfold FpB;rw[h];rfl
theorem MB(l:List (List DV))(i:Int)(b:List Int)(r:List DV):Ow (.list l::.int .i64 i::.list (bytesI b)::r)=(true,[.list (bytesI (b++Eu (l.drop i.toNat)))]):=by
 have h:Aa (.list l::.int .i64 i::.list (bytesI b)::r) 2=b:=BD b
 unfold Ow;rw[h];rfl
end Go.Proofs.YtobajijkmmhdjaaGreatDoor
namespace Go.Proofs.YtobajijkmmhdjaaGreatDoor
open Go Go.AM
def Ew(ds:List DV):List (List DV):=[[.int .i64 (if Bt (iD ds 0) (iD ds 1) (sD ds 2).size then 0 else 150)]]
def IS(ds:List DV):List (List DV):=if Bt (iD ds 0) (iD ds 1) (sD ds 2).size then [[.list (bytesI (Hz (iD ds 0) (iD ds 1) (sD ds 2)))],[.int .i64 0]] else [[.list []],[.int .i64 150]]
def T2(ds:List DV):DV:=.list (bytesI (Aa ds 1++Dw ((Bl (sD ds 0)).drop (iD ds 2).toNat)))
def zq(ds:List DV):List (List DV):=[[.list (lD ds 0++lD ds 1)]]
def Z6(ds:List DV):List (List DV):=[[.list (lD ds 0)]]
def zt(ds:List DV):List (List DV):=[[.bool true]]
def Z7(ds:List DV):List (List DV):=[[.bool (Bt (iD ds 0) (iD ds 1) (sD ds 2).size)]]
def tr(ds:List DV):List (List DV):=[[.list (bytesI (Hz (iD ds 0) (iD ds 1) (sD ds 2)))]]
def zu(ds:List DV):List (List DV):=if Zd (iD ds 0) (iD ds 1) (iD ds 3) (lD ds 2) then [[.list (bytesI (Th (iD ds 0) (iD ds 1) (iD ds 3) (lD ds 2)))],[.bool (Oy (iD ds 0) (iD ds 1) (iD ds 3) (lD ds 2))]] else [[.list []],[.bool false]]
def zw(ds:List DV):List (List DV):=if Oy (iD ds 0) (iD ds 1) (iD ds 3) (lD ds 2) then [[.list (bytesI (Th (iD ds 0) (iD ds 1) (iD ds 3) (lD ds 2)))],[.int .i64 0]] else [[.list []],[.int .i64 271]]
def zx(ds:List DV):List (List DV):=if Zd (iD ds 0) (iD ds 1) (iD ds 3) (lD ds 2)&&Tg (lD ds 2) then [[.list (bytesI (Th (iD ds 0) (iD ds 1) (iD ds 3) (lD ds 2)))],[.bool (Oy (iD ds 0) (iD ds 1) (iD ds 3) (lD ds 2))]] else [[.list []],[.bool false]]
def K4(ds:List DV):List (List DV):=[(ED (Aa ds 0)).2.1,[.int .i64 (ED (Aa ds 0)).2.2],[.int .i64 (ED (Aa ds 0)).1]]
def ovV:List (List DV)→Int→Bool
 | [],_=>true
 |v::l,n=>if 1000<(sD v 2).size then false else if 2000<n+1 then false else ovV l (n+1)
def ovR:List (List DV)→Int→Bool
 | [],_=>true
 |r::l,n=>if 50<(lD r 0).length then false else if ovV (lD r 0) n then ovR l (n+(lD r 0).length) else false
def tu(ds:List DV):List (List DV):=[[.bool (if 300<(lD ds 0).length then true else !ovR (lD ds 0) 0)]]
def rj(o:Int×Int×Int×List (List DV)):List DV:=[.int .i64 o.1,.int .i64 o.2.1,.list o.2.2.2,.int .i64 o.2.2.1]
def rk:List DV:=[.int .i64 0,.int .i64 0,.list [],.int .i64 0]
def zy(ds:List DV):List (List DV):=match wj (Aa ds 0) with
 |some o=>[rj o,[.int .i64 0]]
 |none=>[rk,[.int .i64 271]]
def zz(ds:List DV):List (List DV):=match AA4 (Aa ds 0) with
 |some (e,a,c,rows,ok)=>[rj (e,a,c,rows),[.bool ok]]
 |none=>[rk,[.bool false]]
open Classical in
def NL(a b:List (List DV)):Bool:=decide (a=b)
def Feq(ds:List DV):List (List DV):=[[.bool (NL (lD ds 0) (lD ds 1))]]
def yA(ds:List DV):List (List DV):=[[.bool (decide (iD ds 0=iD ds 4)&&decide (iD ds 1=iD ds 5)&&decide (iD ds 3=iD ds 7)&&NL (lD ds 2) (lD ds 6))]]
def FL1(ds:List DV):DV:=.list (bytesI (Aa ds 1++((lD ds 0).drop (iD ds 2).toNat).flatMap kj))
def z7(ds:List DV):DV:=.bool (bD ds 2&&((lD ds 0).drop (iD ds 1).toNat).all Py)
def FL2(ds:List DV):DV:=.list (bytesI (Aa ds 1++rH ((lD ds 0).drop (iD ds 2).toNat)))
def z8(ds:List DV):DV:=.bool (bD ds 2&&Tg ((lD ds 0).drop (iD ds 1).toNat))
def yB(ds:List DV):DV:=.bool (((lD ds 0).drop (iD ds 1).toNat).all Py)
def tw(ds:List DV):DV:=.bool (Tg ((lD ds 0).drop (iD ds 1).toNat))
def ABw(ds:List DV):DV:=.bool (ovV ((lD ds 0).drop (iD ds 1).toNat) (iD ds 2))
def ABx(ds:List DV):DV:=.bool (ovR ((lD ds 0).drop (iD ds 1).toNat) (iD ds 2))
def Vt(ds:List DV):Int×List Int×Nat:=txt ((Aa ds 0).drop (iD ds 1).toNat) (Aa ds 2) (iD ds 1).toNat
def pk(ds:List DV):DV:=.int .i64 (Vt ds).1
def pn(ds:List DV):DV:=.list (bytesI (Vt ds).2.1)
def po(ds:List DV):DV:=.int .i64 (Vt ds).2.2
def ABy(ds:List DV):DV:=.bool (gL ((Aa ds 0).drop (iD ds 1).toNat) (Aa ds 2))
def iX(ds:List DV):Option (List (List DV)×Nat):=XJ (Aa ds 0) (iD ds 3).toNat (iD ds 1).toNat (lD ds 2)
def AAA(ds:List DV):DV:=.bool (iX ds).isSome
def ABz(ds:List DV):DV:=.list ((iX ds).getD ([],0)).1
def AB0(ds:List DV):DV:=.int .i64 ((iX ds).getD ([],0)).2
def XY(ds:List DV):Option (List (List DV)×Nat×Bool):=XK (Aa ds 0) (iD ds 4).toNat (iD ds 1).toNat (decide (iD ds 2≠0)) (lD ds 3)
def AAB(ds:List DV):DV:=.bool (XY ds).isSome
def AB1(ds:List DV):DV:=.list ((XY ds).getD ([],0,false)).1
def AB2(ds:List DV):DV:=.int .i64 ((XY ds).getD ([],0,false)).2.1
def AB3(ds:List DV):DV:=.int .i64 (if ((XY ds).getD ([],0,false)).2.2 then 7 else 0)
def yC(ds:List DV):DV:=.bool (decide (iD ds 0=0)||decide (iD ds 1=0))
def AAC(ds:List DV):DV:=.bool (decide (iD ds 0=0)||decide (iD ds 0=7))
def Z8(ds:List DV):Option (List (List DV)×Nat):=gM (Aa ds 0) (iD ds 3).toNat (iD ds 1).toNat (lD ds 2)
def AAD(ds:List DV):DV:=.bool (Z8 ds).isSome
def AB4(ds:List DV):DV:=.list ((Z8 ds).getD ([],0)).1
def AB5(ds:List DV):DV:=.int .i64 ((Z8 ds).getD ([],0)).2
def AB6(ds:List DV):DV:=.bool (NL ((lD ds 0).drop (iD ds 2).toNat) ((lD ds 1).drop (iD ds 2).toNat))
def AAE(ds:List DV):DV:=.bool (NL ((lD ((lD ds 0).getD (iD ds 2).toNat []) 0).drop (iD ds 3).toNat) ((lD ((lD ds 1).getD (iD ds 2).toNat []) 0).drop (iD ds 3).toNat))
def iY(ds:List DV):List (List DV):=[[.bool (Bg (iD ds 0))]]
def iZ(ds:List DV):List (List DV):=[[.bool (EA (iD ds 0))]]
def AB7(ds:List DV):List (List DV):=[[.bool (Oq (iD ds 0))]]
def ia(p:Int→Bool)(ds:List DV):List (List DV):=[[.int .i64 (BT p (sD ds 0) 0)]]
def Fup(ds:List DV):List (List DV):=[[.str (upS (sD ds 0))]]
def Z9(ds:List DV):List (List DV):=if BT Bg (sD ds 0) 0<(sD ds 0).size then [[.str (AS #[])],[.bool false]] else
 if FU (sD ds 0) then [[.str (upS (sD ds 0))],[.bool true]] else [[.str (AS #[])],[.bool false]]
def AAF(ds:List DV):List (List DV):=if FU (sD ds 0) then [[.str (upS (sD ds 0))],[.bool true]] else [[.str (AS #[])],[.bool false]]
def AAG(ds:List DV):List (List DV):=[[.bool (HX (sD ds 0))]]
def T3(ds:List DV):List (List DV):=[[.bool (Ei (sD ds 0))]]
def JW(ds:List DV):List (List DV):=[[.int .i64 (if LS ds then 0 else 300)]]
def AAH(ds:List DV):List (List DV):=[[.bool (LS ds)]]
def GZ(a b:DV)(s:ByteArray):List DV:=[a,b,.str (KI 65 s)]
def ib(ds:List DV):List (List DV):=[GZ (ds.getD 0 (.bool false)) (ds.getD 1 (.bool false)) (sD ds 2)]
def lz(ds:List DV):List DV:=ds.getD 0 (.bool false)::.str (KI 30 (sD ds 1))::(GZ (ds.getD 2 (.bool false)) (ds.getD 3 (.bool false)) (sD ds 4)++GZ (ds.getD 5 (.bool false)) (ds.getD 6 (.bool false)) (sD ds 7)++GZ (ds.getD 8 (.bool false)) (ds.getD 9 (.bool false)) (sD ds 10)++ds.drop 11)
def T4(ds:List DV):List (List DV):=[lz ds]
def rm(p:Int→Bool)(ds:List DV):DV:=.int .i64 (BT p (sD ds 0) (iD ds 1))
def yD(ds:List DV):DV:=.bool (RO (sD ds 0) (iD ds 1))
def AAI(ds:List DV):DV:=.list (bytesI (Aa ds 1++((lD ds 0).drop (iD ds 2).toNat).map fun r=>upZ (Md r)))
def AB8(c:List DV):List DV:=[.str (KI 201 (sD c 0)),.str (KI 1001 (sD c 1))]
def AAJ(ds:List DV):List (List DV):=[[ds.getD 0 (.bool false),ds.getD 1 (.bool false),.list (((lD ds 2).take 30).map AB8),.list ((lD ds 3).take 256),.list ((lD ds 4).take 256)]]
def l9(ds:List DV):Bool:=DZ (iD ds 0) (iD ds 1) (lD ds 2) (lD ds 3) (lD ds 4)
def rn(ds:List DV):List Int:=Gp (iD ds 0) (iD ds 1) (lD ds 2) (lD ds 3) (lD ds 4)
def ic(ds:List DV):List (List DV):=if l9 ds then [[.list (bytesI (rn ds))],[.int .i64 0]] else [[.list []],[.int .i64 301]]
def AAK(ds:List DV):List (List DV):=if l9 ds then [[.list (bytesI (rn ds))],[.bool true]] else [[.list []],[.bool false]]
def yE(ds:List DV):List (List DV):=[[.bool (decide (iD ds 0=iD ds 5)&&(decide (iD ds 1=iD ds 6)&&(NL (lD ds 2) (lD ds 7)&&(NL (lD ds 3) (lD ds 8)&&NL (lD ds 4) (lD ds 9)))))]]
def NM(ds:List DV):List (List DV):=[RR (EC (Aa ds 0)).2,[.int .i64 (EC (Aa ds 0)).1]]
def uA(ds:List DV):List (List DV):=[[.bool (decide (iD ds 0=iD ds 4)&&(decide (iD ds 1=iD ds 5)&&(NL (lD ds 2) (lD ds 6)&&NL (lD ds 3) (lD ds 7))))]]
def AE:Nat→List DV→DV
 |1,ds=>.list (Ew ds)
 |2,ds=>.list (IS ds)
 |3,ds=>.list (zq ds)
 |4,ds=>.list (Feq ds)
 |5,ds=>.list (Z6 ds)
 |6,ds=>.list (zt ds)
 |7,ds=>.list (Z7 ds)
 |8,ds=>.list (tr ds)
 |9,ds=>.list (zu ds)
 |10,ds=>.list (zw ds)
 |11,ds=>.list (zx ds)
 |12,ds=>.list (K4 ds)
 |13,ds=>.list (tu ds)
 |14,ds=>.list (zy ds)
 |15,ds=>.list (zz ds)
 |16,ds=>.list (yA ds)
 |90,ds=>.bool (TQ ds)
 |91,ds=>.list (FL VT ds)
 |92,ds=>.list (FL VU ds)
 |93,ds=>.list (FL VV ds)
 |94,ds=>.list (FL Pv ds)
 |95,ds=>.list (FL VW ds)
 |96,ds=>.list (FL Kv ds)
 |97,ds=>.list (FL JR ds)
 |98,ds=>.list (FL FpB ds)
 |99,ds=>.list (FL Ow ds)
 |101,ds=>T2 ds
 |104,ds=>AB6 ds
 |105,ds=>AAE ds
 |111,ds=>FL1 ds
 |112,ds=>z7 ds
 |113,ds=>FL2 ds
 |114,ds=>z8 ds
 |115,ds=>yB ds
 |116,ds=>tw ds
 |117,ds=>ABw ds
 |118,ds=>ABx ds
 |121,ds=>pk ds
 |122,ds=>pn ds
 |123,ds=>po ds
 |124,ds=>AAA ds
 |134,ds=>ABy ds
 |135,ds=>yC ds
 |136,ds=>AAC ds
 |125,ds=>ABz ds
 |126,ds=>AB0 ds
 |127,ds=>AAB ds
 |128,ds=>AB1 ds
 |129,ds=>AB2 ds
 |130,ds=>AB3 ds
 |131,ds=>AAD ds
 |132,ds=>AB4 ds
 |133,ds=>AB5 ds
 |20,ds=>.list (iY ds)
 |21,ds=>.list (iZ ds)
 |22,ds=>.list (AB7 ds)
 |23,ds=>.list (ia Bg ds)
 |24,ds=>.list (ia EA ds)
 |25,ds=>.list (Fup ds)
 |26,ds=>.list (Z9 ds)
 |27,ds=>.list (AAF ds)
 |28,ds=>.list (AAG ds)
 |29,ds=>.list (T3 ds)
 |30,ds=>.list (JW ds)
 |31,ds=>.list (AAH ds)
 |32,ds=>.list (ib ds)
 |33,ds=>.list (T4 ds)
 |40,ds=>.list (AAJ ds)
 |41,ds=>.list (ic ds)
 |42,ds=>.list (AAK ds)
 |43,ds=>.list (yE ds)
 |44,ds=>.list (NM ds)
 |45,ds=>.list (gJ ds)
 |46,ds=>.list (uA ds)
 |141,ds=>rm Bg ds
 |142,ds=>rm EA ds
 |143,ds=>yD ds
 |144,ds=>AAI ds
 |_,_=>.bool false
end Go.Proofs.YtobajijkmmhdjaaGreatDoor
namespace Go.Proofs.YtobajijkmmhdjaaGreatDoor
open Go Go.AM
def aA:Pln:=
 (.ask (eql (.v 0) (k64 1))
  (.ask (eql (.v 1) (k64 0))
   (.ask (eql (.v 2) (.ks (AS #[])))
    (.done [[(k64 0)]])
    (.done [[(k64 150)]]))
   (.done [[(k64 150)]]))
  (.ask (eql (.v 0) (k64 2))
   (.ask (eql (.v 1) (k64 0))
    (.ask (eql (.v 2) (.ks (AS #[])))
     (.done [[(k64 0)]])
     (.done [[(k64 150)]]))
    (.ask (eql (.v 1) (k64 1))
     (.ask (eql (.v 2) (.ks (AS #[])))
      (.done [[(k64 0)]])
      (.done [[(k64 150)]]))
     (.done [[(k64 150)]])))
   (.ask (eql (.v 0) (k64 3))
    (.ask (eql (.v 2) (.ks (AS #[])))
     (.done [[(k64 0)]])
     (.done [[(k64 150)]]))
    (.ask (eql (.v 0) (k64 4))
     (.ask (eql (.v 1) (k64 0))
      (.ask (lss (k64 64) (.len (.v 2)))
       (.done [[(k64 150)]])
       (.done [[(k64 0)]]))
      (.done [[(k64 150)]]))
     (.done [[(k64 150)]])))))
theorem ij{ds:List (List DV)}(h:An [.agg tV] ds):∃k n s,ds=[[.int .i64 k,.int .i64 n,.str s]]∧-9223372036854775808≤n∧n≤9223372036854775807:=by
 simp only[An,Ba,IsL,tV]at h;obtain⟨_,_,rfl,⟨d1,_,rfl,h1,d2,_,rfl,h2,d3,_,rfl,h3,rfl⟩,rfl⟩:=h;obtain⟨k,rfl,_⟩:=h1.i64;obtain⟨n,rfl,n1,n2⟩:=h2.i64;obtain⟨s,rfl,_⟩:=h3.str;exact⟨k,n,s,rfl,n1,n2⟩
theorem rp(s:ByteArray):(s=⟨#[]⟩)↔s.size=0:=by
 constructor
 ·rintro rfl;rfl
 ·intro h;have:s.data.size=0:=h
  have e:s.data=#[]:=ADB this
  cases s
  simp_all
theorem uE:Ap Tryz.prog G AE []:=trivial
theorem yF:CN AE 42 []:=AL
theorem yG:(hasB 42&&AJ [.one tI] (Bc AE (AR []) [] [] 42 [.agg tV]) [] aA)=true:=by kernel_rfl
theorem db:Am Tryz.prog G 42 [.agg tV] [.one tI] (fun _=>True) Ew:=by
 have hk:=yG
 rw[ACH]at hk;refine Av (AG uE) [] [] yF hk.1 aA hk.2 ?_
 intro ds h _;obtain⟨k,n,s,rfl,_⟩:=ij h;have e0:=rp s
 have yes:Bt k n s.size=true→AK (AA AE [[.int .i64 k,.int .i64 n,.str s]].flatten) (Ew [[.int .i64 k,.int .i64 n,.str s]].flatten) (.done [[k64 0]]):=by
  intro h;show Ew _=_
  have:Ew [[.int .i64 k,.int .i64 n,.str s]].flatten=[[.int .i64 (if Bt k n s.size then 0 else 150)]]:=rfl
  rw[this,h];rfl
 have no:Bt k n s.size=false→AK (AA AE [[.int .i64 k,.int .i64 n,.str s]].flatten) (Ew [[.int .i64 k,.int .i64 n,.str s]].flatten) (.done [[k64 150]]):=by
  intro h;show Ew _=_
  have:Ew [[.int .i64 k,.int .i64 n,.str s]].flatten=[[.int .i64 (if Bt k n s.size then 0 else 150)]]:=rfl
  rw[this,h];rfl
 generalize hR:AA AE [[.int .i64 k,.int .i64 n,.str s]].flatten=R at yes no⊢;have q0:R.ρ 0=.int .i64 k:=by rw[←hR];rfl
 have q1:R.ρ 1=.int .i64 n:=by rw[←hR];rfl
 have q2:R.ρ 2=.str s:=by rw[←hR];rfl
 have ak:∀j:Nat,den R (eql (.v 0) (k64 j))=.bool (decide (k=j)):=fun j=>AN (d_v q0) (d_k .i64 j)
 have an:∀j:Nat,den R (eql (.v 1) (k64 j))=.bool (decide (n=j)):=fun j=>AN (d_v q1) (d_k .i64 j)
 have az:den R (eql (.v 2) (.ks (AS #[])))=.bool (decide (s.size=0)):=by
  simp only[den,q2,AZ,AS];congr 1
  simp only[decide_eq_decide];exact e0
 have al:den R (lss (k64 64) (.len (.v 2)))=.bool (decide ((64:Int)<s.size)):=AB (d_k .i64 64) (Az (d_v q2))
 generalize s.size=z at yes no az al;unfold aA;refine AD (ak 1) (fun k1=>AD (an 0) (fun n1=>AD az (fun s1=>yes ?_) (fun s1=>no ?_)) (fun n1=>no ?_)) (fun k1=>?_)
 any_goals (simp[Bt]at *;omega)
 refine AD (ak 2) (fun k2=>AD (an 0) (fun n1=>AD az (fun s1=>yes ?_) (fun s1=>no ?_)) (fun n1=>AD (an 1) (fun n2=>AD az (fun s1=>yes ?_) (fun s1=>no ?_)) (fun n2=>no ?_))) (fun k2=>?_)
 any_goals (simp[Bt]at *;omega)
 refine AD (ak 3) (fun k3=>AD az (fun s1=>yes ?_) (fun s1=>no ?_)) (fun k3=>?_)
 any_goals (simp[Bt]at *;omega)
 refine AD (ak 4) (fun k4=>AD (an 0) (fun n1=>AD al (fun s1=>no ?_) (fun s1=>yes ?_)) (fun n1=>no ?_)) (fun k4=>no ?_)
 all_goals (simp[Bt]at *;omega)
def oO:Pln:=
 (.ask (.bin .lss (.bin .or (.v 0) (.ki .u8 (.ofNat 32))) (.ki .u8 (.ofNat 97)))
  (.done [[(.bin .eql (.v 0) (.ki .u8 (.ofNat 95)))]])
  (.ask (.bin .lss (.ki .u8 (.ofNat 122)) (.bin .or (.v 0) (.ki .u8 (.ofNat 32))))
   (.done [[(.bin .eql (.v 0) (.ki .u8 (.ofNat 95)))]])
   (.done [[(.kb true)]])))
def oQ:Pln:=
 (.ask (.bin .lss (.bin .or (.v 0) (.ki .u8 (.ofNat 32))) (.ki .u8 (.ofNat 97)))
  (.ask (.bin .eql (.v 0) (.ki .u8 (.ofNat 95)))
   (.done [[(.kb true)]])
   (.ask (.bin .lss (.v 0) (.ki .u8 (.ofNat 48)))
    (.done [[(.kb false)]])
    (.done [[(.not (.bin .lss (.ki .u8 (.ofNat 57)) (.v 0)))]])))
  (.ask (.bin .lss (.ki .u8 (.ofNat 122)) (.bin .or (.v 0) (.ki .u8 (.ofNat 32))))
   (.ask (.bin .eql (.v 0) (.ki .u8 (.ofNat 95)))
    (.done [[(.kb true)]])
    (.ask (.bin .lss (.v 0) (.ki .u8 (.ofNat 48)))
     (.done [[(.kb false)]])
     (.done [[(.not (.bin .lss (.ki .u8 (.ofNat 57)) (.v 0)))]])))
   (.done [[(.kb true)]])))
theorem wI:∀n:Fin 256,(decide (97≤F7 .or .u8 (n.val:Int) 32)&&decide (F7 .or .u8 (n.val:Int) 32≤122))=((decide (97≤(n.val:Int))&&decide ((n.val:Int)≤122))||(decide (65≤(n.val:Int))&&decide ((n.val:Int)≤90))):=by decide +kernel
theorem wJ{z:Int}(h1:0≤z)(h2:z≤255):(97≤F7 .or .u8 z 32∧F7 .or .u8 z 32≤122)↔(97≤z∧z≤122)∨(65≤z∧z≤90):=by
 obtain⟨n,rfl⟩:=ADM h1;have:=wI ⟨n,by omega⟩
 simp only at this;rw[AEG]at this;simpa using this
theorem kW{ds:List (List DV)}(h:An [.one tU8] ds):∃z,ds=[[.int .u8 z]]∧0≤z∧z≤255:=by
 simp only[An,Ba]at h;obtain⟨_,_,rfl,⟨d,rfl,hd⟩,rfl⟩:=h;obtain⟨b,rfl⟩:=hd.u8;exact⟨b.toNat,rfl,by omega,by have:=b.toNat_lt;omega⟩
theorem AAw:(hasB 75&&AJ [.one .bool] (Bc AE (AR []) [] [] 75 [.one tU8]) [] oO)=true:=by kernel_rfl
theorem AAx:(hasB 77&&AJ [.one .bool] (Bc AE (AR []) [] [] 77 [.one tU8]) [] oQ)=true:=by kernel_rfl
theorem yv:Am Tryz.prog G 75 [.one tU8] [.one .bool] (fun _=>True) iY:=by
 have hk:=AAw
 rw[ACH]at hk;refine Av (AG (l:=[]) trivial) [] [] AL hk.1 oO hk.2 ?_
 intro ds h _;obtain⟨z,rfl,h1,h2⟩:=kW h;have:=wJ h1 h2
 simp[oO,AK,den,AZ,Gn,AA,iY,Bg,iD]
 grind
theorem yw:Am Tryz.prog G 77 [.one tU8] [.one .bool] (fun _=>True) iZ:=by
 have hk:=AAx
 rw[ACH]at hk;refine Av (AG (l:=[]) trivial) [] [] AL hk.1 oQ hk.2 ?_
 intro ds h _;obtain⟨z,rfl,h1,h2⟩:=kW h;have:=wJ h1 h2
 simp[oQ,AK,den,AZ,Gn,AA,iZ,EA,Bg,Oq,iD];refine⟨fun a=>⟨fun b=>?_,fun b=>⟨fun c=>?_,fun c=>?_⟩⟩,fun a=>⟨fun b=>⟨fun c=>?_,fun c=>⟨fun d=>?_,fun d=>?_⟩⟩,fun b=>?_⟩⟩
 all_goals first
  |omega
  |(rw[AEG];simp;omega)
def ZV:Ent:=eFn 75 [.one tU8] [.one .bool] [] 20
def oR:Ent:=eFn 77 [.one tU8] [.one .bool] [] 21
theorem VO:Ap Tryz.prog G AE [ZV]:=⟨AP AI (pre_true yv) (fun _=>rfl) [] (by kernel_rfl),trivial⟩
theorem cN:Ap Tryz.prog G AE [oR]:=⟨AP AI (pre_true yw) (fun _=>rfl) [] (by kernel_rfl),trivial⟩
def AAy(g:FuncId):Tmpl:={tm:=[(0,.sy .str (.v 0)),(1,.sc (.func (.func g) #[] #[])),(5,.sy tI (.v 1))],src:=[.tm 0 .str,.tm 5 tI]}
def AAz:Tmpl:={tm:=[(5,.sy tI (.v 0))],src:=[.tm 5 tI]}
def DC(g:FuncId)(lid:Nat):LoopSp:={n:=20,T:=AAy g,pre:=[(lss (.v 1) (k64 0),false),(lss (.len (.v 0)) (.v 1),false)],yes:=(.exit 0,AAz,[.app lid [.v 0,.v 1]])}
abbrev Po:Code:=B0 76 0
abbrev isA(fid:Nat):SX:=.at (.app fid [.byte (.v 0) (.v 1)]) (k64 0) 0
def VP(fid:Nat):RPln:=
 .ask (lss (.v 1) (.len (.v 0)))
  (.know (lss (.v 1) (k64 0)) false
   (.ask (isA fid)
    (.next [.v 0,add (.v 1) (k64 1)])
    (.exit true [.v 1])))
  (.exit true [.v 1])
def TM(R:Rho):Prop:=∃(s:ByteArray) (n:Int),R.ρ 0=.str s∧R.ρ 1=.int .i64 n∧0≤n∧n≤s.size∧s.size≤maxLen
def Pp(R:Rho):Nat:=match R.ρ 0,R.ρ 1 with
 |.str s,.int _ n=>s.size-n.toNat
 |_,_=>0
theorem ZW(s:ByteArray)(j:Nat):(Bl s).getD j 0=FV s j:=by
 unfold Bl FV;rw[ACI,ACw,ACI];cases s.data.toList[j]? <;>rfl
theorem VQ{ds:List (List DV)}(h:An [.one .str] ds):∃s,ds=[[.str s]]∧s.size≤maxLen:=by
 simp only[An,Ba]at h;obtain⟨_,_,rfl,⟨d,rfl,hd⟩,rfl⟩:=h;obtain⟨s,rfl,hs⟩:=hd.str;exact⟨s,rfl,hs⟩
theorem cO{g:FuncId}{ds:List (List DV)}(h:An [.one .str,.con g] ds):∃s,ds=[[.str s],[]]∧s.size≤maxLen:=by
 simp only[An,Ba]at h;obtain⟨_,_,rfl,⟨d,rfl,hd⟩,_,_,rfl,rfl,rfl⟩:=h;obtain⟨s,rfl,hs⟩:=hd.str;exact⟨s,rfl,hs⟩
theorem wK:((DC 75 141).yes.2.1.ok (DC 75 141).T (DC 75 141).n&&(DC 75 141).no.2.1.ok (DC 75 141).T (DC 75 141).n&&AW (DC 75 141) (PD AE (AR [ZV]) [] Po) [] (VP 20))=true:=by kernel_rfl
theorem oS:BJ Tryz.prog G AE Po (DC 75 141):=by
 refine NN (lps:=[]) (AG VO) AL (VP 20) wK TM Pp ?_ ?_
 ·intro m a w hr hp;obtain⟨s,e0,hs⟩:=(L1 hr (t:=0) (i:=0) (ty:=.str) (by kernel_rfl)).str
  obtain⟨n,e1,_⟩:=(L1 hr (t:=5) (i:=1) (ty:=tI) (by kernel_rfl)).i64
  have p1:=hp (lss (.v 1) (k64 0),false) (by simp[DC])
  have p2:=hp (lss (.len (.v 0)) (.v 1),false) (by simp[DC])
  rw[AB (d_v e1) (d_k .i64 0)]at p1;rw[AB (Az (d_v e0)) (d_v e1)]at p2;simp only[DV.bool.injEq,ACK]at p1 p2;exact⟨s,n,e0,e1,by omega,by omega,hs⟩
 ·rintro R hI ⟨s,n,e0,e1,h1,h2,h3⟩;have hout:∀(R':Rho) (n':Int),R'.I=AE→R'.ρ 0=.str s→R'.ρ 1=.int .i64 n'→(DC 75 141).yes.2.2.map (den R')=[.int .i64 (BT Bg s n')]:=by
   intro R' n' hI' f0 f1;show[den R' (.app 141 [.v 0,.v 1])]=_
   rw[AO,hI'];simp only[ACO,ACS,den,f0,f1];rfl
  have hm:(maxLen:Int)≤9223372036854775807:=by unfold maxLen;omega
  have stop:BT Bg s n=n→BE (DC 75 141) TM Pp R (.exit true [.v 1]):=fun he=>Mf (fun _=>rfl) (by
   rw[hout R n hI e0 e1,he];simp only[ACO,ACS,den,e1])
  unfold VP;refine Cj (AB (d_v e1) (Az (d_v e0))) (fun hlt=>?_) (fun hge=>?_)
  ·simp only[ACN]at hlt;refine G9 (by rw[AB (d_v e1) (d_k .i64 0)];simp;omega) ?_
   have hb:=YF (d_v e0) (d_v e1) h1 hlt
   rw[ZW]at hb;have hl:den R (isA 20)=.bool (Bg (FV s n.toNat)):=Mh (F:=iY) (by rw[hI];rfl) (by simp only[ACO,ACS,hb];rfl)
   refine Cj hl (fun hL=>?_) (fun hL=>stop (TK h1 hlt hL))
   have hi1:=B6 (R:=R) (d_v e1) (d_k .i64 1) (by omega) (by omega)
   have s0:=En R [.v 0,add (.v 1) (k64 1)] 0 rfl (d_v e0)
   have s1:=En R [.v 0,add (.v 1) (k64 1)] 1 rfl hi1
   refine Me (fun _=>rfl) ⟨s,n+1,s0,s1,by omega,by omega,h3⟩ ?_ ?_
   ·simp only[Pp,s0,s1,e0,e1];omega
   ·rw[hout R n hI e0 e1,hout (R.sub [.v 0,add (.v 1) (k64 1)]) (n+1) hI s0 s1];have he:BT Bg s (n+1)=BT Bg s n:=Qb h1 hlt hL
    rw[he]
  ·simp only[ACK]at hge;exact stop (TJ (by omega))
theorem yx:(hasB 76&&AJ [.one tI] (Bc AE (AR [ZV]) [(3,DC 75 141)] [] 76 [.one .str,.con 75]) [] (.done [[.app 141 [.v 0,k64 0]]]))=true:=by kernel_rfl
theorem wL:Am Tryz.prog G 76 [.one .str,.con 75] [.one tI] (fun _=>True) (ia Bg):=by
 have hk:=yx
 rw[ACH]at hk;refine Av (AG VO) [(3,DC 75 141)] [] (Fw (by kernel_rfl) oS) hk.1 (.done [[.app 141 [.v 0,k64 0]]]) hk.2 ?_
 intro ds h _;obtain⟨s,rfl,hs⟩:=cO h;rfl
theorem wM:((DC 77 142).yes.2.1.ok (DC 77 142).T (DC 77 142).n&&(DC 77 142).no.2.1.ok (DC 77 142).T (DC 77 142).n&&AW (DC 77 142) (PD AE (AR [oR]) [] Po) [] (VP 21))=true:=by kernel_rfl
theorem oT:BJ Tryz.prog G AE Po (DC 77 142):=by
 refine NN (lps:=[]) (AG cN) AL (VP 21) wM TM Pp ?_ ?_
 ·intro m a w hr hp;obtain⟨s,e0,hs⟩:=(L1 hr (t:=0) (i:=0) (ty:=.str) (by kernel_rfl)).str
  obtain⟨n,e1,_⟩:=(L1 hr (t:=5) (i:=1) (ty:=tI) (by kernel_rfl)).i64
  have p1:=hp (lss (.v 1) (k64 0),false) (by simp[DC])
  have p2:=hp (lss (.len (.v 0)) (.v 1),false) (by simp[DC])
  rw[AB (d_v e1) (d_k .i64 0)]at p1;rw[AB (Az (d_v e0)) (d_v e1)]at p2;simp only[DV.bool.injEq,ACK]at p1 p2;exact⟨s,n,e0,e1,by omega,by omega,hs⟩
 ·rintro R hI ⟨s,n,e0,e1,h1,h2,h3⟩;have hout:∀(R':Rho) (n':Int),R'.I=AE→R'.ρ 0=.str s→R'.ρ 1=.int .i64 n'→(DC 77 142).yes.2.2.map (den R')=[.int .i64 (BT EA s n')]:=by
   intro R' n' hI' f0 f1;show[den R' (.app 142 [.v 0,.v 1])]=_
   rw[AO,hI'];simp only[ACO,ACS,den,f0,f1];rfl
  have hm:(maxLen:Int)≤9223372036854775807:=by unfold maxLen;omega
  have stop:BT EA s n=n→BE (DC 77 142) TM Pp R (.exit true [.v 1]):=fun he=>Mf (fun _=>rfl) (by
   rw[hout R n hI e0 e1,he];simp only[ACO,ACS,den,e1])
  unfold VP;refine Cj (AB (d_v e1) (Az (d_v e0))) (fun hlt=>?_) (fun hge=>?_)
  ·simp only[ACN]at hlt;refine G9 (by rw[AB (d_v e1) (d_k .i64 0)];simp;omega) ?_
   have hb:=YF (d_v e0) (d_v e1) h1 hlt
   rw[ZW]at hb;have hl:den R (isA 21)=.bool (EA (FV s n.toNat)):=Mh (F:=iZ) (by rw[hI];rfl) (by simp only[ACO,ACS,hb];rfl)
   refine Cj hl (fun hL=>?_) (fun hL=>stop (TK h1 hlt hL))
   have hi1:=B6 (R:=R) (d_v e1) (d_k .i64 1) (by omega) (by omega)
   have s0:=En R [.v 0,add (.v 1) (k64 1)] 0 rfl (d_v e0)
   have s1:=En R [.v 0,add (.v 1) (k64 1)] 1 rfl hi1
   refine Me (fun _=>rfl) ⟨s,n+1,s0,s1,by omega,by omega,h3⟩ ?_ ?_
   ·simp only[Pp,s0,s1,e0,e1];omega
   ·rw[hout R n hI e0 e1,hout (R.sub [.v 0,add (.v 1) (k64 1)]) (n+1) hI s0 s1];have he:BT EA s (n+1)=BT EA s n:=Qb h1 hlt hL
    rw[he]
  ·simp only[ACK]at hge;exact stop (TJ (by omega))
theorem yy:(hasB 76&&AJ [.one tI] (Bc AE (AR [oR]) [(3,DC 77 142)] [] 76 [.one .str,.con 77]) [] (.done [[.app 142 [.v 0,k64 0]]]))=true:=by kernel_rfl
theorem wN:Am Tryz.prog G 76 [.one .str,.con 77] [.one tI] (fun _=>True) (ia EA):=by
 have hk:=yy
 rw[ACH]at hk;refine Av (AG cN) [(3,DC 77 142)] [] (Fw (by kernel_rfl) oT) hk.1 (.done [[.app 142 [.v 0,k64 0]]]) hk.2 ?_
 intro ds h _;obtain⟨s,rfl,hs⟩:=cO h;rfl
def oU(a b:List AV→AHeap→Out)(args:List AV)(h:AHeap):Out:=match a args h with
 |some r=>some r
 |none=>b args h
theorem tG[O:Orc]{f:FuncId}{a b:List AV→AHeap→Out}(ha:BF Tryz.prog G (fun g args h=>if g=f then a args h else none))(hb:BF Tryz.prog G (fun g args h=>if g=f then b args h else none)):
  BF Tryz.prog G (fun g args h=>if g=f then oU a b args h else none):=by
 intro g args h av h' hs;simp only at hs;split at hs
 ·rename_i e;subst e;unfold oU at hs;split at hs
  ·rename_i r hr;cases hs;exact ha g args h av h' (by simp only[if_true];exact hr)
  ·exact hb g args h av h' (by simp only[if_true];exact hs)
 ·cases hs
def eOr(a b:Ent):Ent:=⟨a.f,fun O=>oU (a.sp O) (b.sp O)⟩
theorem wO{a b:Ent}(hf:b.f=a.f)(ha:Ap Tryz.prog G AE [a])(hb:Ap Tryz.prog G AE [b]):Ap Tryz.prog G AE [eOr a b]:=
 ⟨fun O hO=>@tG O _ _ _ (ha.1 O hO) (by show @BF O Tryz.prog G (fun g args h=>if g=a.f then b.sp O args h else none);rw[←hf];exact hb.1 O hO),trivial⟩
def yz:Ent:=eFn 76 [.one .str,.con 75] [.one tI] [] 23
def y4:Ent:=eFn 76 [.one .str,.con 77] [.one tI] [] 24
def Ou:Ent:=eOr yz y4
theorem cP:Ap Tryz.prog G AE [Ou]:=wO rfl ⟨AP AI (pre_true wL) (fun _=>rfl) [] (by kernel_rfl),trivial⟩ ⟨AP AI (pre_true wN) (fun _=>rfl) [] (by kernel_rfl),trivial⟩
def XI:List (SX×Bool):=[(lss (k64 1000) (.len (.v 0)),false),(lss (.at (.app 23 [.v 0]) (k64 0) 0) (.len (.v 0)),false)]
theorem wP{w w':World}(h1:w'.os=w.os)(h2:w'.output=w.output):ioOf w'=ioOf w:=by
 unfold ioOf;rw[h1,h2]
theorem AA0:Am Tryz.prog G 116 [.one .str] [.one .str] (fun ds=>∀p∈XI,den (AA AE ds) p.1=.bool p.2) Fup:=by
 refine⟨Dj (by kernel_rfl),?_⟩
 intro E ds vs w hE h hpre hg;have h':=h
 obtain⟨s,rfl,hs⟩:=VQ (F3 h);simp only[RepArgs,RepOne,Rep]at h';obtain⟨d,ds',v,vs',e1,e2,⟨x,e3,s',e4,e5,_⟩,_,e6⟩:=h';cases e1;cases e3;cases e4;subst e5;subst e6;have hvs:vs=#[.string s]:=by apply ADX;simpa using e2
 subst hvs;have p1:=hpre (lss (k64 1000) (.len (.v 0)),false) (by simp[XI])
 have p2:=hpre (lss (.at (.app 23 [.v 0]) (k64 0) 0) (.len (.v 0)),false) (by simp[XI])
 have q0:(AA AE [[DV.str s]].flatten).ρ 0=.str s:=rfl
 have q1:den (AA AE [[DV.str s]].flatten) (.at (.app 23 [.v 0]) (k64 0) 0)=.int .i64 (BT Bg s 0):=rfl
 rw[AB (d_k .i64 1000) (Az (d_v q0))]at p1;rw[AB q1 (Az (d_v q0))]at p2;simp only[DV.bool.injEq,ACK]at p1 p2;have hall:=TL (p:=Bg) (s:=s) p2
 refine (Tryz.strings_ToUpper_ascii s w (by omega) ?_).mono ?_
 ·intro j b hb;have:=ZT (hall b (ACf.2 ⟨j,hb⟩))
  omega
 ·rintro e w' ⟨rfl,hb⟩;refine⟨_,E,rfl,⟨fun _ _ e=>e,fun b o e=>⟨?_,.inl e⟩,hb.block,wP hb.os hb.output⟩,?_⟩
  ·have h1:=hE b o e
   rw[hb.block b (ACQ.1 h1).1];exact h1
  ·refine⟨[.str (upS s)],rfl,_,rfl,?_⟩
   simp only[Rep];refine⟨_,rfl,rfl,?_⟩
   have:=oN s
   show (upS s).size≤maxLen
   rw[this];exact hs
def eUp:Ent:=eFn 116 [.one .str] [.one .str] XI 25
theorem wQ:Ap Tryz.prog G AE [eUp]:=⟨AP AI AA0 (fun _=>rfl) [] (by kernel_rfl),trivial⟩
def oV:List (SX×Bool):=[(lss (k64 1000) (.len (.v 0)),false)]
def ZX(ds:List DV):Prop:=∀p∈oV,den (AA AE ds) p.1=.bool p.2
theorem TN{s:ByteArray}(h:ZX [.str s]):s.size≤1000:=by
 have:=h _ (AED)
 have q0:(AA AE [DV.str s]).ρ 0=.str s:=rfl
 rw[AB (d_k .i64 1000) (Az (d_v q0))]at this;simp only[DV.bool.injEq,ACK]at this;omega
def chain(e:SX)(hit:ByteArray→Pln)(miss:Pln):List ByteArray→Pln
 | []=>miss
 |k::ks=>.ask (.bin .eql e (.ks k)) (hit k) (chain e hit miss ks)
theorem TO{R:Rho}{e:SX}{x:ByteArray}{res:List (List DV)}(he:den R e=.str x){hit:ByteArray→Pln}{miss:Pln}:∀{ks:List ByteArray},(∀k∈ks,x=k→AK R res (hit k))→((∀k∈ks,x≠k)→AK R res miss)→AK R res (chain e hit miss ks)
 | [],_,hm=>hm (by simp)
 |k::ks,hh,hm=>by
  have hd:den R (.bin .eql e (.ks k))=.bool (decide (x=k)):=by simp only[den,he,AZ]
  refine⟨⟨_,hd⟩,fun h=>?_,fun h=>?_⟩
  ·rw[hd]at h;simp only[DV.bool.injEq,ACN]at h;exact hh k (by simp) h
  ·rw[hd]at h;simp only[DV.bool.injEq,ACK]at h;refine TO he (fun k' hk'=>hh k' (by simp[hk'])) fun hn=>hm fun k' hk'=>?_
   simp only[ACU]at hk';rcases hk' with rfl|hk'
   ·exact h
   ·exact hn k' hk'
abbrev upA:SX:=.at (.app 25 [.v 0]) (k64 0) 0
def qw:Pln:=.done [[.ks (AS #[])],[.kb false]]
abbrev y6:SX:=lss (.at (.app 23 [.v 0]) (k64 0) 0) (.len (.v 0))
def oW:Pln:=.know (lss (k64 1000) (.len (.v 0))) false (.ask y6 qw (chain upA (fun _=>.done [[upA],[.kb true]]) qw XH))
theorem oX:Ap Tryz.prog G AE [Ou,eUp]:=⟨cP.1,wQ.1,trivial⟩
theorem AA1:(hasB 74&&AJ [.one .str,.one .bool] (Bc AE (AR [Ou,eUp]) [] [] 74 [.one .str]) [] oW)=true:=by kernel_rfl
theorem y7:Am Tryz.prog G 74 [.one .str] [.one .str,.one .bool] ZX Z9:=by
 have hk:=AA1
 rw[ACH]at hk;refine Av (AG oX) [] [] AL hk.1 oW hk.2 ?_
 intro ds h hp;obtain⟨s,rfl,hs⟩:=VQ h;have hsz:=TN hp
 have q0:(AA AE [[DV.str s]].flatten).ρ 0=.str s:=rfl
 have q1:den (AA AE [[DV.str s]].flatten) (.at (.app 23 [.v 0]) (k64 0) 0)=.int .i64 (BT Bg s 0):=rfl
 have q2:den (AA AE [[DV.str s]].flatten) upA=.str (upS s):=rfl
 have hF:Z9 [[DV.str s]].flatten=if BT Bg s 0<s.size then [[.str (AS #[])],[.bool false]] else if FU s then [[.str (upS s)],[.bool true]] else [[.str (AS #[])],[.bool false]]:=rfl
 rw[hF];unfold oW;refine As (by rw[AB (d_k .i64 1000) (Az (d_v q0))];simp;omega) (AD (AB q1 (Az (d_v q0))) (fun h=>?_) (fun h=>?_))
 ·simp only[ACN]at h;rw[if_pos h];rfl
 ·simp only[ACK]at h;rw[if_neg h];refine TO q2 (fun k hk e=>?_) fun hn=>?_
  ·have hkept:FU s=true:=(RP s).2 ⟨k,hk,e⟩
   rw[if_pos hkept];show _=_
   simp only[ACO,ACS,q2];rfl
  ·have hkept:FU s=false:=by
    cases hc:FU s with
    |false=>rfl
    |true=>
     obtain⟨k,hk,e⟩:=(RP s).1 hc;exact absurd e (hn k hk)
   rw[hkept];rfl
def wR:Ent:=eFn 74 [.one .str] [.one .str,.one .bool] oV 26
def gC:Pln:=.know (lss (k64 1000) (.len (.v 0))) false
 (.ask (eql (.v 0) (.ks (AS #[])))
  (.done [[.kb false]])
  (.ask (lss (k64 24) (.len (.v 0)))
   (.done [[.kb false]])
   (.ask (lss (k64 0) (.len (.v 0)))
    (.ask (.at (.app 20 [.byte (.v 0) (k64 0)]) (k64 0) 0)
     (.ask (eql (.at (.app 24 [.v 0]) (k64 0) 0) (.len (.v 0)))
      (.done [[.not (.at (.app 26 [.v 0]) (k64 1) 0)]])
      (.done [[.kb false]]))
     (.done [[.kb false]]))
    .never)))
theorem kY:Ap Tryz.prog G AE [Ou,ZV,wR]:=⟨cP.1,VO.1,AP AI y7 (fun _=>rfl) [] (by kernel_rfl),trivial⟩
theorem y8:(hasB 43&&AJ [.one .bool] (Bc AE (AR [Ou,ZV,wR]) [] [] 43 [.one .str]) [] gC)=true:=by kernel_rfl
theorem gD{s:ByteArray}(h:s.size=0):s=AS #[]:=(rp s).2 h
theorem fnName:Am Tryz.prog G 43 [.one .str] [.one .bool] ZX T3:=by
 have hk:=y8
 rw[ACH]at hk;refine Av (AG kY) [] [] AL hk.1 gC hk.2 ?_
 intro ds h hp;obtain⟨s,rfl,hs⟩:=VQ h;have hsz:=TN hp
 have q0:(AA AE [[DV.str s]].flatten).ρ 0=.str s:=rfl
 have qb:den (AA AE [[DV.str s]].flatten) (.at (.app 20 [.byte (.v 0) (k64 0)]) (k64 0) 0)=.bool (Bg (FV s 0)):=rfl
 have qe:den (AA AE [[DV.str s]].flatten) (.at (.app 24 [.v 0]) (k64 0) 0)=.int .i64 (BT EA s 0):=rfl
 have e26:AE 26 [DV.str s]=.list (Z9 [.str s]):=rfl
 have eK:Z9 [DV.str s]=if FU s then [[.str (upS s)],[.bool true]] else [[.str (AS #[])],[.bool false]]:=by
  show (if BT Bg s 0<s.size then _ else _)=_
  by_cases hk:FU s=true
  ·have:=cM (ZU hk)
   rw[if_neg (by omega)]
   rfl
  ·by_cases hl:BT Bg s 0<s.size
   ·rw[if_pos hl];simp[hk]
   ·rw[if_neg hl];simp[hk,sD]
 have qk:den (AA AE [[DV.str s]].flatten) (.not (.at (.app 26 [.v 0]) (k64 1) 0))=.bool (!FU s):=by
  show Gn (atD (AE 26 [DV.str s]) (.int .i64 1) 0)=_
  rw[e26,eK];cases FU s<;>rfl
 have az:den (AA AE [[DV.str s]].flatten) (eql (.v 0) (.ks (AS #[])))=.bool (decide (s=AS #[])):=rfl
 have hF:T3 [[DV.str s]].flatten=[[.bool (Ei s)]]:=rfl
 rw[hF];have fin:∀(e:SX) (b:Bool),den (AA AE [[DV.str s]].flatten) e=.bool b→Ei s=b→AK (AA AE [[DV.str s]].flatten) [[.bool (Ei s)]] (.done [[e]]):=by
  intro e b h1 h2;show _=_
  rw[h2];simp only[ACO,ACS,h1]
 unfold gC;refine As (by rw[AB (d_k .i64 1000) (Az (d_v q0))];simp;omega) (AD az (fun h=>?_) (fun hz=>AD (AB (d_k .i64 24) (Az (d_v q0))) (fun h=>?_) (fun hl=>AD (AB (d_k .i64 0) (Az (d_v q0))) (fun h0=>AD qb (fun hb=>AD (AN qe (Az (d_v q0))) (fun he=>?_) (fun he=>?_)) (fun hb=>?_)) (fun h0=>?_))))
 ·simp only[ACN]at h;refine fin _ false rfl ?_
  rw[h];simp[Ei,HX]
 ·simp only[ACN]at h;refine fin _ false rfl ?_
  have:¬s.size≤24:=by omega
  simp[Ei,this]
 ·simp only[ACN,ACK]at h0 hl he;refine fin _ _ qk ?_
  have hw:HX s=true:=(Ot (by omega)).1 ⟨hb,he⟩
  have:s.size≤24:=by omega
  simp[Ei,hw,this]
 ·simp only[ACN,ACK]at h0 hl he;refine fin _ false rfl ?_
  have hw:HX s=false:=by
   cases hc:HX s with
   |false=>rfl
   |true=>exact absurd ((Ot (by omega)).2 hc).2 he
  simp[Ei,hw]
 ·simp only[ACN]at h0;refine fin _ false rfl ?_
  have hw:HX s=false:=by
   cases hc:HX s with
   |false=>rfl
   |true=>rw[((Ot (by omega)).2 hc).1]at hb;cases hb
  simp[Ei,hw]
 ·simp only[ACK]at h0 hz;exact (hz (gD (by omega))).elim
def qx:Ent:=eFn 43 [.one .str] [.one .bool] oV 29
def Jh:SX→Bool
 |.v _=>true
 |.ki _ _=>true
 |.kb _=>true
 |.ks _=>true
 |.bin _ x y=>Jh x&&Jh y
 |_=>false
theorem LP{R1 R2:Rho}(h:R1.ρ=R2.ρ):∀e:SX,Jh e=true→den R1 e=den R2 e
 |.v i,_=>by simp only[den,h]
 |.ki k z,_=>rfl
 |.kb b,_=>rfl
 |.ks s,_=>rfl
 |.bin op x y,hn=>by simp only[Jh,ACH]at hn;simp only[den,LP h x hn.1,LP h y hn.2]
theorem L9{R1 R2:Rho}(h:R1.ρ=R2.ρ):∀es:List SX,es.all Jh=true→den.denAll R1 es=den.denAll R2 es
 | [],_=>rfl
 |e::es,hn=>by
  simp only[AEb,ACH]at hn;simp only[den.denAll,LP h e hn.1,L9 h es hn.2]
theorem NV(R:Rho):∀xs ys:List SX,den.denAll R (xs++ys)=(den.denAll R xs&&den.denAll R ys)
 | [],ys=>by simp[den.denAll]
 |x::xs,ys=>by simp[den.denAll,NV R xs ys,Bool.and_assoc]
theorem kZ:ZR.all Jh=true:=by kernel_rfl
theorem tJ(I:Nat→List DV→DV)(ds:List DV):den.denAll (AA I ds) ZR=VN ds:=L9 rfl ZR kZ
def Iw:List (SX×Bool):=[(lss (k64 1000) (.len (.v 1)),false)]
def wS(ds:List DV):Prop:=∀p∈Iw,den (AA AE ds) p.1=.bool p.2
def qy:Pln:=
 (.ask (.bin .eql (.v 0) (.ki .i64 (.ofNat 1)))
  (.ask (.bin .eql (.at (.app 1 [(.v 2),(.v 3),(.v 4)]) (.ki .i64 (.ofNat 0)) 0) (.ki .i64 (.ofNat 0)))
   (.ask (.bin .eql (.v 0) (.ki .i64 (.ofNat 3)))
    (.ask (.bin .eql (.v 2) (.ki .i64 (.ofNat 1)))
     (.done [[(.ki .i64 (.ofNat 300))]])
     (.ask (ZS [(.bin .eql (.v 1) (.ks (AS #[]))),(.bin .eql (.v 5) (.ki .i64 (.ofNat 0))),(.bin .eql (.v 6) (.ki .i64 (.ofNat 0))),(.bin .eql (.v 7) (.ks (AS #[]))),(.bin .eql (.v 8) (.ki .i64 (.ofNat 0))),(.bin .eql (.v 9) (.ki .i64 (.ofNat 0))),(.bin .eql (.v 10) (.ks (AS #[])))])
      (.done [[(.ki .i64 (.ofNat 0))]])
      (.done [[(.ki .i64 (.ofNat 300))]])))
    (.ask (.bin .eql (.v 2) (.ki .i64 (.ofNat 1)))
     (.done [[(.ki .i64 (.ofNat 300))]])
     (.ask (.at (.app 29 [(.v 1)]) (.ki .i64 (.ofNat 0)) 0)
      (.ask (ZS [(.bin .eql (.v 5) (.ki .i64 (.ofNat 0))),(.bin .eql (.v 6) (.ki .i64 (.ofNat 0))),(.bin .eql (.v 7) (.ks (AS #[]))),(.bin .eql (.v 8) (.ki .i64 (.ofNat 0))),(.bin .eql (.v 9) (.ki .i64 (.ofNat 0))),(.bin .eql (.v 10) (.ks (AS #[])))])
       (.done [[(.ki .i64 (.ofNat 0))]])
       (.done [[(.ki .i64 (.ofNat 300))]]))
      (.done [[(.ki .i64 (.ofNat 300))]]))))
   (.ask (.bin .eql (.v 0) (.ki .i64 (.ofNat 3)))
    (.done [[(.ki .i64 (.ofNat 300))]])
    (.done [[(.ki .i64 (.ofNat 300))]])))
  (.ask (.bin .eql (.v 0) (.ki .i64 (.ofNat 2)))
   (.ask (.bin .eql (.at (.app 1 [(.v 5),(.v 6),(.v 7)]) (.ki .i64 (.ofNat 0)) 0) (.ki .i64 (.ofNat 0)))
    (.ask (.bin .eql (.v 0) (.ki .i64 (.ofNat 3)))
     (.ask (.bin .eql (.at (.app 1 [(.v 8),(.v 9),(.v 10)]) (.ki .i64 (.ofNat 0)) 0) (.ki .i64 (.ofNat 0)))
      (.ask (ZS [(.bin .eql (.v 1) (.ks (AS #[]))),(.bin .eql (.v 2) (.ki .i64 (.ofNat 0))),(.bin .eql (.v 3) (.ki .i64 (.ofNat 0))),(.bin .eql (.v 4) (.ks (AS #[])))])
       (.done [[(.ki .i64 (.ofNat 0))]])
       (.done [[(.ki .i64 (.ofNat 300))]]))
      (.done [[(.ki .i64 (.ofNat 300))]]))
     (.ask (.bin .eql (.at (.app 1 [(.v 8),(.v 9),(.v 10)]) (.ki .i64 (.ofNat 0)) 0) (.ki .i64 (.ofNat 0)))
      (.ask (.at (.app 29 [(.v 1)]) (.ki .i64 (.ofNat 0)) 0)
       (.ask (ZS [(.bin .eql (.v 2) (.ki .i64 (.ofNat 0))),(.bin .eql (.v 3) (.ki .i64 (.ofNat 0))),(.bin .eql (.v 4) (.ks (AS #[])))])
        (.done [[(.ki .i64 (.ofNat 0))]])
        (.done [[(.ki .i64 (.ofNat 300))]]))
       (.done [[(.ki .i64 (.ofNat 300))]]))
      (.done [[(.ki .i64 (.ofNat 300))]])))
    (.ask (.bin .eql (.v 0) (.ki .i64 (.ofNat 3)))
     (.done [[(.ki .i64 (.ofNat 300))]])
     (.done [[(.ki .i64 (.ofNat 300))]])))
   (.ask (.bin .eql (.v 0) (.ki .i64 (.ofNat 3)))
    (.ask (.all [(.bin .eql (.v 1) (.ks (AS #[]))),(.bin .eql (.v 2) (.ki .i64 (.ofNat 0))),(.bin .eql (.v 3) (.ki .i64 (.ofNat 0))),(.bin .eql (.v 4) (.ks (AS #[]))),(.bin .eql (.v 5) (.ki .i64 (.ofNat 0))),(.bin .eql (.v 6) (.ki .i64 (.ofNat 0))),(.bin .eql (.v 7) (.ks (AS #[]))),(.bin .eql (.v 8) (.ki .i64 (.ofNat 0))),(.bin .eql (.v 9) (.ki .i64 (.ofNat 0))),(.bin .eql (.v 10) (.ks (AS #[])))])
     (.done [[(.ki .i64 (.ofNat 0))]])
     (.done [[(.ki .i64 (.ofNat 300))]]))
    (.done [[(.ki .i64 (.ofNat 300))]]))))
def kc:Pln:=.know (lss (k64 1000) (.len (.v 1))) false qy
def ke:Ent:=eFn 42 [.agg tV] [.one tI] [] 1
theorem oY:Ap Tryz.prog G AE [ke,qx]:=⟨AP AI (pre_true db) (fun _=>rfl) [] (by kernel_rfl),AP AI fnName (fun _=>rfl) [] (by kernel_rfl),trivial⟩
theorem wT:(hasB 22&&AJ [.one tI] (Bc AE (AR [ke,qx]) [] [] 22 [.agg tQry]) [] kc)=true:=by kernel_rfl
theorem cQ{ds:List (List DV)}(h:An [.agg tQry] ds):∃k t a b c d e f g h i r,ds=[DV.int .i64 k::.str t::.int .i64 a::.int .i64 b::.str c::.int .i64 d::.int .i64 e::.str f::.int .i64 g::.int .i64 h::.str i::r]∧IsL qz r:=by
 simp only[An,Ba]at h;obtain⟨_,_,rfl,h,rfl⟩:=h;simp only[tQry,tV,ADY,ADD,IsL]at h;obtain⟨d0,_,rfl,h0,d1,_,rfl,h1,d2,_,rfl,h2,d3,_,rfl,h3,d4,_,rfl,h4,d5,_,rfl,h5,d6,_,rfl,h6,d7,_,rfl,h7,d8,_,rfl,h8,d9,_,rfl,h9,d10,r,rfl,h10,hr⟩:=h;obtain⟨k,rfl,_⟩:=h0.i64;obtain⟨t,rfl,_⟩:=h1.str;obtain⟨a,rfl,_⟩:=h2.i64;obtain⟨b,rfl,_⟩:=h3.i64;obtain⟨c,rfl,_⟩:=h4.str;obtain⟨d,rfl,_⟩:=h5.i64;obtain⟨e,rfl,_⟩:=h6.i64;obtain⟨f,rfl,_⟩:=h7.str;obtain⟨g,rfl,_⟩:=h8.i64;obtain⟨u,rfl,_⟩:=h9.i64;obtain⟨v,rfl,_⟩:=h10.str;exact⟨k,t,a,b,c,d,e,f,g,u,v,r,rfl,hr⟩
theorem Ps:Am Tryz.prog G 22 [.agg tQry] [.one tI] wS JW:=by
 have hk:=wT
 rw[ACH]at hk;refine Av (AG oY) [] [] AL hk.1 kc hk.2 ?_
 intro ds h hp;obtain⟨k,t,a,b,c,d,e,f,g,u,v,r,rfl,_⟩:=cQ h;refine⟨hp _ (AED),?_⟩
 have ho:=tJ AE [DV.int .i64 k::.str t::.int .i64 a::.int .i64 b::.str c::.int .i64 d::.int .i64 e::.str f::.int .i64 g::.int .i64 u::.str v::r].flatten
 generalize hR:AA AE [DV.int .i64 k::.str t::.int .i64 a::.int .i64 b::.str c::.int .i64 d::.int .i64 e::.str f::.int .i64 g::.int .i64 u::.str v::r].flatten=R at *;have hI:∀k ds,R.I k ds=AE k ds:=by rw[←hR];exact fun _ _=>rfl
 have h0:R.ρ 0=.int .i64 k:=by rw[←hR];rfl
 have h1:R.ρ 1=.str t:=by rw[←hR];rfl
 have h2:R.ρ 2=.int .i64 a:=by rw[←hR];rfl
 have h3:R.ρ 3=.int .i64 b:=by rw[←hR];rfl
 have h4:R.ρ 4=.str c:=by rw[←hR];rfl
 have h5:R.ρ 5=.int .i64 d:=by rw[←hR];rfl
 have h6:R.ρ 6=.int .i64 e:=by rw[←hR];rfl
 have h7:R.ρ 7=.str f:=by rw[←hR];rfl
 have h8:R.ρ 8=.int .i64 g:=by rw[←hR];rfl
 have h9:R.ρ 9=.int .i64 u:=by rw[←hR];rfl
 have h10:R.ρ 10=.str v:=by rw[←hR];rfl
 have i1:∀ds,AE 1 ds=.list (Ew ds):=fun _=>rfl
 have i7:∀ds,AE 7 ds=.list (Z7 ds):=fun _=>rfl
 have i29:∀ds,AE 29 ds=.list (T3 ds):=fun _=>rfl
 have hq:LS [DV.int .i64 k::.str t::.int .i64 a::.int .i64 b::.str c::.int .i64 d::.int .i64 e::.str f::.int .i64 g::.int .i64 u::.str v::r].flatten=(if k=1 then Ei t&&Bt a b c.size&&decide (a≠1)&&zeroV d e f&&zeroV g u v&&VN [DV.int .i64 k::.str t::.int .i64 a::.int .i64 b::.str c::.int .i64 d::.int .i64 e::.str f::.int .i64 g::.int .i64 u::.str v::r].flatten else if k=2 then Ei t&&Bt d e f.size&&Bt g u v.size&&zeroV a b c&&VN [DV.int .i64 k::.str t::.int .i64 a::.int .i64 b::.str c::.int .i64 d::.int .i64 e::.str f::.int .i64 g::.int .i64 u::.str v::r].flatten else if k=3 then decide (t=AS #[])&&zeroV a b c&&zeroV d e f&&zeroV g u v else false):=rfl
 clear hR;generalize VN [DV.int .i64 k::.str t::.int .i64 a::.int .i64 b::.str c::.int .i64 d::.int .i64 e::.str f::.int .i64 g::.int .i64 u::.str v::r].flatten=oz at *;have hF:JW [DV.int .i64 k::.str t::.int .i64 a::.int .i64 b::.str c::.int .i64 d::.int .i64 e::.str f::.int .i64 g::.int .i64 u::.str v::r].flatten=[[.int .i64 (if (if k=1 then Ei t&&Bt a b c.size&&decide (a≠1)&&zeroV d e f&&zeroV g u v&&oz else if k=2 then Ei t&&Bt d e f.size&&Bt g u v.size&&zeroV a b c&&oz else if k=3 then decide (t=AS #[])&&zeroV a b c&&zeroV d e f&&zeroV g u v else false) then 0 else 300)]]:=by rw[JW,hq]
 rw[hF];simp only[qy,AK,ZS,den,den.denL,den.denAll,NV,ho,hI,h0,h1,h2,h3,h4,h5,h6,h7,h8,h9,h10,i1,i7,i29,Ew,Z7,T3,iD,sD,atD,AZ,isT,AC4,ACr,ACZ,zeroV,ACO,ACS];clear h hp hq hF ho hI h0 h1 h2 h3 h4 h5 h6 h7 h8 h9 h10 i1 i7 i29;generalize Ei t=nb;generalize Bt a b c.size=va;generalize Bt d e f.size=vd;generalize Bt g u v.size=vg
 by_cases k1:k=1
 ·subst k1
  first|(simp;done)|(simp;grind (splits:=60))
 ·by_cases k2:k=2
  ·subst k2
   first|(simp;done)|(simp;grind (splits:=60))
  ·by_cases k3:k=3
   ·subst k3
    first|(simp;done)|(simp;grind (splits:=60))
   ·simp[k1,k2,k3]
def gG:Ent:=eFn 22 [.agg tQry] [.one tI] Iw 30
def GG(I:Nat→List DV→DV)(spec:IE)(sub:Ey)(lps:List (Nat×LoopSp))(f:FuncId)(facts:List (SX×Bool))(args:List AV)(h:AHeap):Out:=Fh [] (@Mm (mkO facts I) Tryz.prog G (spec (mkO facts I)) 100 (Cy sub) (CG lps) f args h)
section
variable {I:Nat→List DV→DV}{spec:IE}{S:StdL}{F:List DV→Bool×List DV}{Inv:List DV→Prop}{μ:List DV→Nat}
theorem B5(hsp:∀O:Orc,O.I=I→@Br O Tryz.prog G (spec O)){sub:Ey}(hs:Ez I sub){lps:List (Nat×LoopSp)}{B:Code}(hl:Cm Tryz.prog G I (CG lps) B)(hF:∀ds,I S.f ds=.list (FL F ds))(p:RPln)
  (hok:(S.ok&&(Au S p&&AW S.L (B1 I spec sub lps B) [] p))=true)
  (init:∀ds,IsL S.tys ds→(∀p∈S.pre,den (AA I ds) p.1=.bool p.2)→Inv ds)
  (step:∀ds,Inv ds→Af S.keep.length F Inv μ (AA I ds) ds p):BJ Tryz.prog G I B S.L:=
 my GL PB hsp AI 100 (Gz hs) hl hF p hok init step
theorem H4(hsp:∀O:Orc,O.I=I→@Br O Tryz.prog G (spec O)){sub:Ey}(hs:Ez I sub)(lps:List (Nat×LoopSp)){f:FuncId}(hl:CN I f lps)(hn:1≤S.n)(hF:∀ds,I S.f ds=.list (FL F ds))(p:RPln)
  (hok:(hasB f&&(S.ok&&(Au S p&&Bs S.L (GG I spec sub lps f) [] p)))=true)
  (init:∀ds,IsL S.tys ds→(∀p∈S.pre,den (AA I ds) p.1=.bool p.2)→Inv ds)
  (step:∀ds,Inv ds→Af S.keep.length F (fun _=>False) (fun _=>0) (AA I ds) ds p):D0 Tryz.prog G I f S.L:=by
 rw[ACH]at hok;exact mz AI (Dj hok.1) hn (fun O g args h=>Fh [] (@Mm O Tryz.prog G (spec O) 100 (Cy sub) (CG lps) g args h)) (ig hsp hs hl []) hF p hok.2 init step
theorem E1{kn:Nat}{F:List DV→Bool×List DV}{Inv Inv':List DV→Prop}{μ:List DV→Nat}{R:Rho}{ds:List DV}(h:∀ds,Inv ds→Inv' ds):∀{p:RPln},Af kn F Inv μ R ds p→Af kn F Inv' μ R ds p
 |.ask e t f,hg=>by
  obtain⟨b,h1,h2,h3⟩:=hg;exact⟨b,h1,fun hb=>E1 h (h2 hb),fun hb=>E1 h (h3 hb)⟩
 |.know e b p,hg=>⟨hg.1,E1 h hg.2⟩
 |.next τ,hg=>⟨h _ hg.1,hg.2⟩
 |.exit b τ,hg=>hg
 |.never,hg=>hg
end
end Go.Proofs.YtobajijkmmhdjaaGreatDoor
namespace Go.Proofs.YtobajijkmmhdjaaGreatDoor.Se
open Go Go.AM
def H0(l:List Int):List Nat:=l.map Int.toNat
def Dd(h:List Nat)(total:Nat)(l:List Int):List Nat×List Int:=
 if 64<l.length then Dd (EV h (H0 (l.take 64)) (total-l.length+64) false) total (l.drop 64) else (h,l)
 termination_by l.length
 decreasing_by simp only[ADA];omega
theorem Qd{h:List Nat}{total:Nat}{l:List Int}(h64:64<l.length):Dd h total l=Dd (EV h (H0 (l.take 64)) (total-l.length+64) false) total (l.drop 64):=by
 conv=>lhs;rw[Dd]
 rw[if_pos h64]
theorem NG{h:List Nat}{total:Nat}{l:List Int}(h64:¬64<l.length):Dd h total l=(h,l):=by rw[Dd,if_neg h64]
def KQ:List Nat:=[1795745351,3144134277,1013904242,2773480762,1359893119,2600822924,528734635,1541459225]
def XN(l:List Int):List Nat:=H0 l++List.replicate (64-l.length) 0
def O2(b:List Int):List Nat:=EV (Dd KQ b.length b).1 (XN (Dd KQ b.length b).2) b.length true
def pA(x:Nat):List Int:=[((x / 1%256:Nat):Int),((x / 256%256:Nat):Int),((x / 65536%256:Nat):Int),((x / 16777216%256:Nat):Int)]
def RX(b:List Int):List Int:=(O2 b).flatMap pA
def u8D(z:Int):DV:=.int .u8 z
def JT(ds:List DV):Bool×List DV:=(true,(Dd (Dv ((ds.drop 2).take 8)) (Aa ds 1).length (Aa ds 0)).1.map U32++[.list (bytesI (Dd (Dv ((ds.drop 2).take 8)) (Aa ds 1).length (Aa ds 0)).2)])
def Ve(ds:List DV):List (List DV):=[(RX (Aa ds 0)).map u8D]
theorem pB{h:List Nat}{t:Nat}{last:Bool}(h8:h.length=8)(hb:∀a∈h,a<4294967296):(Cw h t last).length=16∧∀a∈Cw h t last,a<4294967296:=by
 unfold Cw;refine⟨by simp[h8],fun a ha=>?_⟩
 rcases ADR.1 ha with h1|h1
 ·exact hb a h1
 ·simp only[ACU,ACm,or_false]at h1;have m1:t%4294967296<4294967296:=AD4 _ (by decide)
  have m2:(t>>>32)%4294967296<4294967296:=AD4 _ (by decide)
  rcases h1 with rfl|rfl|rfl|rfl|rfl|rfl|rfl|rfl
  ·decide
  ·decide
  ·decide
  ·decide
  ·exact DH (by decide) m1
  ·exact DH (by decide) m2
  ·cases last<;>decide
  ·decide
theorem cp:∀(a b c:List Nat),(Hw a b c).length=min a.length (min b.length c.length)∧((∀x∈a,x<4294967296)→(∀x∈b,x<4294967296)→(∀x∈c,x<4294967296)→∀x∈Hw a b c,x<4294967296)
 |a::l,b::m,c::n=>by
  obtain⟨h1,h2⟩:=cp l m n;refine⟨by simp only[Hw,ACe,h1];omega,fun ha hb hc x hx=>?_⟩
  simp only[Hw,ACU]at hx;rcases hx with rfl|hx
  ·exact DH (ha _ (by simp)) (DH (hb _ (by simp)) (hc _ (by simp)))
  ·exact h2 (fun y hy=>ha y (ACu _ hy)) (fun y hy=>hb y (ACu _ hy)) (fun y hy=>hc y (ACu _ hy)) x hx
 | [],_,_=>by simp[Hw]
 |_::_,[],_=>by simp[Hw]
 |_::_,_::_,[]=>by simp[Hw]
theorem O3{h b:List Nat}{t:Nat}{last:Bool}(h8:h.length=8)(hb:∀a∈h,a<4294967296):(EV h b t last).length=8∧∀a∈EV h b t last,a<4294967296:=by
 obtain⟨i1,i2⟩:=pB (t:=t) (last:=last) h8 hb;obtain⟨v1,v2⟩:=Oo (CY b) F8 (Cw h t last) i1 i2;obtain⟨x1,x2⟩:=cp h ((Dh (Cw h t last) (CY b)).take 8) ((Dh (Cw h t last) (CY b)).drop 8);refine⟨?_,x2 hb (fun x hx=>v2 x (AD1 hx)) (fun x hx=>v2 x (ADC hx))⟩
 show (Hw _ _ _).length=8
 rw[x1,h8,ACh,ADA,show (Dh (Cw h t last) (CY b)).length=16 from v1];rfl
def Zm(h:List Nat):Prop:=h.length=8∧∀a∈h,a<4294967296
theorem Ky:∀(n:Nat) (h:List Nat) (total:Nat) (l:List Int),l.length≤n→Zm h→BI l→Zm (Dd h total l).1∧BI (Dd h total l).2∧(Dd h total l).2.length≤64
 |0,h,total,l,hn,hh,hl=>by
  rw[NG (by omega)]
  exact⟨hh,hl,by show l.length≤64;omega⟩
 |n+1,h,total,l,hn,hh,hl=>by
  by_cases h64:64<l.length
  ·rw[Qd h64];exact Ky n _ total _ (by rw[ADA];omega) (O3 hh.1 hh.2) (fun z hz=>hl z (ADC hz))
  ·rw[NG h64];exact⟨hh,hl,by show l.length≤64;omega⟩
theorem Kz:Zm KQ:=⟨rfl,by decide⟩
theorem ct{b:List Int}(hb:BI b):Zm (O2 b):=O3 (Ky _ _ _ _ (ACv _) Kz hb).1.1 (Ky _ _ _ _ (ACv _) Kz hb).1.2
theorem cu:∀l:List Nat,(l.flatMap pA).length=4*l.length
 | []=>rfl
 |x::l=>by
  rw[AD5,ACT,cu l,ACe];show 4+_=_
  omega
theorem pC{b:List Int}(hb:BI b):(RX b).length=32:=by
 unfold RX;rw[cu,(ct hb).1]
def smI:Nat→List DV→DV
 |50,ds=>.list (M5 ds)
 |51,ds=>.list (FL JT ds)
 |_,_=>.bool false
def pD:Ent:=eFn 136 [.agg tH,.agg tK,.one UR,.one .bool] [.agg tH] [] 50
theorem cw:Ap Tryz.prog G smI [pD]:=⟨AP AI (pre_true qu) (fun _=>rfl) [] (by kernel_rfl),trivial⟩
def TS:Tmpl:={tm:=[(0,.sy tB (.v 1)),(2,.ptr 0 0),(3,.ptr 1 0),(4,.sy tB (.v 0))],ob:=[(0,bUd 29 32),(1,bU 229 2 8)],src:=.tm 4 tB::.tm 0 tB::Om 1 0 8}
def YS:Tmpl:={tm:=[(0,.sy tB (.v 0)),(2,.ptr 0 0),(3,.ptr 1 0),(4,.sy tB (.v 9))],ob:=[(0,bUd 29 32),(1,bU 229 1 8)],src:=.tm 0 tB::(Om 1 0 8++[.tm 4 tB])}
def SS:StdL:={n:=55,T:=TS,tys:=tB::tB::List.replicate 8 Cz,pre:=[(lss (.len (.v 1)) (.len (.v 0)),false)],f:=51,keep:=[1],yes:=(.exit 0,YS,9)}
def O4(e:SX):Nat→Nat→List SX
 |_,0=>[]
 |k,n+1=>.at e (k64 k) 0::O4 e (k+1) n
abbrev rM(x:SX)(last:Bool):List SX:=[.conv .u64 x,.kb last]
abbrev pE:List SX:=Di 2 8++(O4 (.v 0) 0 64++rM (add (.bin .sub (.len (.v 1)) (.len (.v 0))) (k64 64)) false)
abbrev xF:SX:=.cut (.v 0) (k64 64) (.len (.v 0))
abbrev nxS:List SX:=xF::.v 1::Aq (.app 50 pE) 0 8
def pS:RPln:=
 .ask (lss (k64 64) (.len (.v 0)))
  (.know (lss (.len (.v 0)) (k64 64)) false (.next nxS))
  (.exit true (.v 1::(Di 2 8++[.v 0])))
abbrev XO:Code:=B0 113 0
theorem okS:(SS.ok&&(Au SS pS&&AW SS.L (B1 smI (AR [pD]) [] [] XO) [] pS))=true:=by kernel_rfl
section
variable {R:Rho}
theorem Vf{e:SX}{l:List Int}(he:den R e=.list (bytesI l)):∀(n k:Nat),k+n≤l.length→(O4 e k n).map (den R)=((l.drop k).take n).map u8D
 |0,k,_=>rfl
 |n+1,k,h=>by
  have h1:den R (.at e (k64 k) 0)=u8D (l.getD k 0):=Mg he (d_k .i64 k) (by omega) (by omega)
  rw[ACj (show k<l.length by omega),ADS,ACO,O4,ACO,h1,Vf he n (k+1) (by omega),Gt (show k<l.length by omega)]
theorem tU(l:List Int):Dv (l.map u8D)=H0 l:=by
 unfold Dv H0;rw[ADQ];rfl
theorem cx{h:List Nat}{m:List Int}{t:Int}{last:Bool}(h8:h.length=8)(m64:m.length=64):M5 (h.map U32++(m.map u8D++[DV.int .u64 t,DV.bool last]))=[(EV h (H0 m) t.toNat last).map U32]:=by
 have a1:(h.map U32).length=8:=by rw[ACX];exact h8
 have a2:(m.map u8D).length=64:=by rw[ACX];exact m64
 have n1:Dv ((h.map U32++(m.map u8D++[DV.int .u64 t,DV.bool last])).take 8)=h:=by
  rw[ACz (by omega),ACg (by omega),Ft]
 have n2:Dv (((h.map U32++(m.map u8D++[DV.int .u64 t,DV.bool last])).drop 8).take 64)=H0 m:=by
  rw[ADL (by omega),AC2 (by omega),ADD,ACz (by omega),ACg (by omega),tU]
 have g:∀k,(h.map U32++(m.map u8D++[DV.int .u64 t,DV.bool last])).getD (72+k) (.bool false)=([DV.int .u64 t,DV.bool last]:List DV).getD k (.bool false):=by
  intro k;simp only[ACI];rw[ACV (by omega),ACV (by omega),a1,a2]
  congr 2
  omega
 have n3:nD (h.map U32++(m.map u8D++[DV.int .u64 t,DV.bool last])) 72=t.toNat:=by
  unfold nD;rw[g 0];rfl
 have n4:bD (h.map U32++(m.map u8D++[DV.int .u64 t,DV.bool last])) 73=last:=by
  unfold bD;rw[g 1];rfl
 unfold M5;rw[n1,n2,n3,n4]
theorem ABI{e:SX}{h:List Nat}(h8:h.length=8)(he:den R e=.list [h.map U32]):(Aq e 0 8).map (den R)=h.map U32:=by
 rw[CI he];have:=E0 (h.map U32) (.bool false)
 rw[ACX,h8]at this;exact this
theorem RY{l b:List Int}{h:List Nat}(h8:h.length=8):JT (.list (bytesI l)::.list (bytesI b)::h.map U32)=(true,(Dd h b.length l).1.map U32++[.list (bytesI (Dd h b.length l).2)]):=by
 have e1:Dv (((DV.list (bytesI l)::.list (bytesI b)::h.map U32).drop 2).take 8)=h:=by
  show Dv ((h.map U32).take 8)=h
  rw[ACg (by rw[ACX];omega),Ft]
 have e2:Aa (DV.list (bytesI l)::.list (bytesI b)::h.map U32) 1=b:=BD b
 have e3:Aa (DV.list (bytesI l)::.list (bytesI b)::h.map U32) 0=l:=BD l
 unfold JT;rw[e1,e2,e3]
end
def xG(ds:List DV):Prop:=∃(l b:List Int) (h:List Nat),ds=.list (bytesI l)::.list (bytesI b)::h.map U32∧Zm h∧BI l∧l.length≤b.length∧b.length≤maxLen
def muS(ds:List DV):Nat:=(Aa ds 0).length
theorem pF{I:Nat→List DV→DV}{a b:DV}{h:List Nat}(h8:h.length=8):(Di 2 8).map (den (AA I (a::b::h.map U32)))=h.map U32:=
 RN 8 2 h h8 fun i hi=>by
  show (a::b::h.map U32).getD (2+i) (.bool false)=_
  rw[show 2+i=i+1+1 by omega,ACr,ACr]
  have:=Gx (c:=U32) (l:=h) (r:=[]) (i:=i) (by omega)
  rw[ADg]at this;exact this
theorem tW:BJ Tryz.prog G smI XO SS.L:=by
 refine B5 (F:=JT) (Inv:=xG) (μ:=muS) (AG cw) (sub:=[]) trivial (lps:=[]) AL (fun _=>rfl) pS okS ?_ ?_
 ·intro ds h hp;simp only[SS,IsL]at h;obtain⟨d0,_,rfl,h0,d1,r,rfl,h1,hr⟩:=h;obtain⟨l,rfl,hl,_⟩:=h0.ints;obtain⟨b,rfl,_,hb⟩:=h1.ints;obtain⟨hh,rfl,h8,hhb⟩:=Pm (t:=Cz) (c:=U32) (fun d hd=>HW hd) 8 r hr
  have p1:=hp (lss (.len (.v 1)) (.len (.v 0)),false) (by simp[SS])
  have e0:den (AA smI (DV.list (bytesI l)::.list (bytesI b)::hh.map U32)) (.v 0)=.list (bytesI l):=rfl
  have e1:den (AA smI (DV.list (bytesI l)::.list (bytesI b)::hh.map U32)) (.v 1)=.list (bytesI b):=rfl
  rw[AB (AY e1) (AY e0)]at p1;simp only[DV.bool.injEq,ACK]at p1;exact⟨l,b,hh,rfl,⟨h8,hhb⟩,hl,by omega,hb⟩
 ·rintro ds ⟨l,b,h,rfl,hh,hl,hlb,hb⟩;have hmx:maxLen≤9223372036854775807:=by unfold maxLen;omega
  have eh:=pF (I:=smI) (a:=.list (bytesI l)) (b:=.list (bytesI b)) hh.1
  have hF:=RY (l:=l) (b:=b) hh.1
  generalize hR:AA smI (DV.list (bytesI l)::.list (bytesI b)::h.map U32)=R at eh;have hI:R.I=smI:=by rw[←hR];rfl
  have e0:den R (.v 0)=.list (bytesI l):=by rw[←hR];rfl
  have e1:den R (.v 1)=.list (bytesI b):=by rw[←hR];rfl
  show Af 1 JT _ _ R _ pS
  unfold pS;refine Ae (AB (d_k .i64 64) (AY e0)) (fun h1=>?_) (fun h1=>?_)
  ·simp only[ACN]at h1;have h1:(64:Int)<l.length:=h1
   have hsub:=Cv (R:=R) (AY e1) (AY e0) (by omega) (by omega)
   have hadd:=B6 (R:=R) hsub (d_k .i64 64) (by omega) (by omega)
   have hcv:=qL (R:=R) hadd (by omega) (by omega)
   have hblk:pE.map (den R)=h.map U32++((l.take 64).map u8D++[.int .u64 ((b.length:Int)-l.length+((64:Nat):Int)),.bool false]):=by
    rw[ACd,ACd,eh,Vf e0 64 0 (by omega),AC1]
    simp only[ACO,ACS,hcv];rfl
   have hres:den R (.app 50 pE)=.list [(EV h (H0 (l.take 64)) (b.length-l.length+64) false).map U32]:=by
    rw[AO,hblk,hI];show DV.list (M5 _)=_
    rw[cx hh.1 (by rw[ACh];omega),show ((b.length:Int)-l.length+((64:Nat):Int)).toNat=b.length-l.length+64 by omega]
   obtain⟨k1,k2⟩:=O3 (b:=H0 (l.take 64)) (t:=b.length-l.length+64) (last:=false) hh.1 hh.2;have hcut:den R xF=.list (bytesI (l.drop 64)):=by
    rw[HB e0 (d_k .i64 64) (AY e0)];rw[show ((l.length:Int)).toNat=l.length by omega,ACg (ACv _)]
    rfl
   have hτ:nxS.map (den R)=.list (bytesI (l.drop 64))::.list (bytesI b)::(EV h (H0 (l.take 64)) (b.length-l.length+64) false).map U32:=by
    rw[ACO,ACO,ABI k1 hres,hcut,e1]
   refine A0 (by rw[AB (AY e0) (d_k .i64 64),ACR (by omega)]) ?_
   show xG _∧muS _<muS _∧JT _=JT _
   rw[hτ];refine⟨⟨_,b,_,rfl,⟨k1,k2⟩,fun z hz=>hl z (ADC hz),by rw[ADA];omega,hb⟩,?_,?_⟩
   ·unfold muS;rw[show Aa (DV.list (bytesI (l.drop 64))::_) 0=l.drop 64 from BD _,show Aa (DV.list (bytesI l)::_) 0=l from BD _,ADA];omega
   ·rw[hF,RY k1,Qd (h:=h) (total:=b.length) (l:=l) (by omega)]
  ·simp only[ACK]at h1;have h1:¬(64:Int)<l.length:=h1
   show JT _=(true,(Di 2 8++[SX.v 0]).map (den R))
   rw[hF,NG (by omega),ACd,eh]
   simp only[ACO,ACS,e0]
abbrev Vh(k:Nat):SX:=.at (.app 51 [.v 0,.v 0,.ki .u32 (.ofNat 1795745351),.ki .u32 (.ofNat 3144134277),.ki .u32 (.ofNat 1013904242),.ki .u32 (.ofNat 2773480762),.ki .u32 (.ofNat 1359893119),.ki .u32 (.ofNat 2600822924),.ki .u32 (.ofNat 528734635),.ki .u32 (.ofNat 1541459225)]) (k64 0) k
def gf:Nat→Nat→List SX
 |_,0=>[]
 |k,n+1=>Vh k::gf (k+1) n
abbrev zS:SX:=.cat (Vh 9) (.bytes (k64 64))
abbrev Vi:List SX:=gf 1 8++(O4 zS 0 64++rM (.len (.v 0)) true)
abbrev XP(k s:Nat):SX:=.conv .u8 (.bin .shr (.at (.app 50 Vi) (k64 0) k) (k64 s))
def Zn:Nat→Nat→List SX
 |_,0=>[]
 |k,n+1=>XP k 0::XP k 8::XP k 16::XP k 24::Zn (k+1) n
def xH:Pln:=.know (lss (.len (.v 0)) (.len (.v 0))) false (.know (lss (k64 64) (.len (Vh 9))) false (.done [Zn 0 8]))
abbrev Ad:List Ty:=List.replicate 32 tU8
theorem ABJ:(hasB 113&&AJ [.agg Ad] (Bc smI (AR [pD]) [(5,SS.L)] [] 113 [.one tB]) [] xH)=true:=by kernel_rfl
theorem Zo{R:Rho}{H:List Nat}(h8:H.length=8)(hk:∀i,i<8→den R (Vh (i+1))=U32 (H.getD i 0)):∀n k,k+n≤8→(gf (k+1) n).map (den R)=((H.drop k).take n).map U32
 |0,k,_=>rfl
 |n+1,k,h=>by
  rw[ACj (show k<H.length by omega),ADS,ACO,gf,ACO,hk k (by omega),Zo h8 hk n (k+1) (by omega),Gt (show k<H.length by omega)]
theorem xI{l:List Int}(h:l.length≤64):H0 ((l++List.replicate 64 (0:Int)).take 64)=XN l:=by
 unfold H0 XN H0;rw[List.take_append,ACg h,List.take_replicate,ACd,List.map_replicate,show min (64-l.length) 64=64-l.length by omega]
 rfl
theorem P7{R:Rho}{x:SX}{a:Nat}(hx:den R x=U32 a)(s:Nat)(hs:s≤32):den R (.conv .u8 (.bin .shr x (k64 s)))=u8D ((a / 2^s%256:Nat):Int):=by
 show C7 .u8 (AZ .shr (den R x) (.int .i64 (Int.ofNat s)))=_
 rw[hx];show DV.int .u8 (IntKind.u8.wrap ((a:Int).fdiv (2^min (Int.ofNat s).toNat 32)))=_
 have e1:min (Int.ofNat s).toNat 32=s:=by
  show min s 32=s
  omega
 rw[e1,wrap_u8,ADb _ (Int.le_of_lt (Int.pow_pos (by decide)))]
 unfold u8D;congr 1
theorem cy{R:Rho}{S:List Nat}(h8:S.length=8)(hk:∀i,i<8→den R (.at (.app 50 Vi) (k64 0) i)=U32 (S.getD i 0)):∀n k,k+n≤8→(Zn k n).map (den R)=(((S.drop k).take n).flatMap pA).map u8D
 |0,k,_=>rfl
 |n+1,k,h=>by
  have hx:=hk k (by omega)
  rw[ACj (show k<S.length by omega),ADS,AD5,ACd,Zn,ACO,ACO,ACO,ACO,P7 hx 0 (by decide),P7 hx 8 (by decide),P7 hx 16 (by decide),P7 hx 24 (by decide),cy h8 hk n (k+1) (by omega),Gt (show k<S.length by omega)]
  rfl
theorem rN:Am Tryz.prog G 113 [.one tB] [.agg Ad] (fun _=>True) Ve:=by
 have hk:=ABJ
 rw[ACH]at hk;have hne:A9 (B4 113)=[XO,B0 113 1]:=by kernel_rfl
 have hkeys:(Nat.beq (key XO) 5&&Bool.not (Nat.beq (key (B0 113 1)) 5))=true:=by kernel_rfl
 have hlp:CN smI 113 [(5,SS.L)]:=by
  intro B hB M hM;have hm:=DB hM
  rw[hne]at hB;simp only[ACU,ACm,or_false,ACP]at hm hB;obtain⟨hkB,rfl⟩:=hm;rcases hB with e|e
  ·rw[e];exact tW
  ·rw[ACH]at hkeys;rw[e]at hkB;rw[hkB]at hkeys;exact absurd hkeys.2 (by decide)
 refine Av (AG cw) [(5,SS.L)] [] hlp hk.1 xH hk.2 fun ds h _=>?_
 simp only[An,Ba]at h;obtain⟨_,_,rfl,⟨d,rfl,hd⟩,rfl⟩:=h;obtain⟨b,rfl,hb,hbl⟩:=hd.ints;have hmx:maxLen≤9223372036854775807:=by unfold maxLen;omega
 have hF:Ve ([[DV.list (bytesI b)]]:List (List DV)).flatten=[(RX b).map u8D]:=by
  unfold Ve;rw[show Aa ([[DV.list (bytesI b)]]:List (List DV)).flatten 0=b from BD b]
 rw[hF];generalize hR:AA smI ([[DV.list (bytesI b)]]:List (List DV)).flatten=R;have hI:R.I=smI:=by rw[←hR];rfl
 have e0:den R (.v 0)=.list (bytesI b):=by rw[←hR];rfl
 obtain⟨a1,a2,a3⟩:=Ky b.length KQ b.length b (ACv _) Kz hb;have hd:=fun k=>Eh (R:=R) (f:=51) (F:=JT) (k:=k) (es:=[.v 0,.v 0,.ki .u32 (.ofNat 1795745351),.ki .u32 (.ofNat 3144134277),.ki .u32 (.ofNat 1013904242),.ki .u32 (.ofNat 2773480762),.ki .u32 (.ofNat 1359893119),.ki .u32 (.ofNat 2600822924),.ki .u32 (.ofNat 528734635),.ki .u32 (.ofNat 1541459225)]) hI (fun _=>rfl)
 have hm:([.v 0,.v 0,.ki .u32 (.ofNat 1795745351),.ki .u32 (.ofNat 3144134277),.ki .u32 (.ofNat 1013904242),.ki .u32 (.ofNat 2773480762),.ki .u32 (.ofNat 1359893119),.ki .u32 (.ofNat 2600822924),.ki .u32 (.ofNat 528734635),.ki .u32 (.ofNat 1541459225)]:List SX).map (den R)=.list (bytesI b)::.list (bytesI b)::KQ.map U32:=by
  simp only[ACO,ACS,e0];rfl
 simp only[hm,RY (l:=b) (b:=b) Kz.1]at hd;generalize hH:(Dd KQ b.length b).1=H at hd a1;generalize hT:(Dd KQ b.length b).2=T at hd a2 a3;have hh:∀i,i<8→den R (Vh (i+1))=U32 (H.getD i 0):=by
  intro i hi;rw[hd (i+1),ACr];exact Gx (c:=U32) (l:=H) (by rw[a1.1];exact hi)
 have ht:den R (Vh 9)=.list (bytesI T):=by
  rw[hd 9,ACr];have:=F9 (c:=U32) (l:=H) (r:=[DV.list (bytesI T)]) (i:=0) a1.1
  exact this
 have hz:den R zS=.list (bytesI (T++List.replicate 64 (0:Int))):=by
  refine BV R ht ?_
  show DV.list (List.replicate 64 [DV.int .u8 0])=_
  unfold bytesI;rw[List.map_replicate]
 have hlen:(T++List.replicate 64 (0:Int)).length=T.length+64:=by simp
 have hend:Vi.map (den R)=H.map U32++(((T++List.replicate 64 (0:Int)).take 64).map u8D++[DV.int .u64 (b.length:Int),DV.bool true]):=by
  have x1:=Zo a1.1 hh 8 0 (by omega)
  rw[AC1,ACg (by rw[a1.1];omega)]at x1
  have x2:=Vf hz 64 0 (by rw[hlen];omega)
  rw[AC1]at x2;rw[ACd,ACd,x1,x2];have x3:=qL (R:=R) (AY e0) (by omega) (by omega)
  simp only[ACO,ACS,x3];rfl
 have hS:O2 b=EV H (XN T) b.length true:=by
  unfold O2;rw[hH,hT]
 have happ:den R (.app 50 Vi)=.list [(O2 b).map U32]:=by
  rw[AO,hend,hI];show DV.list (M5 _)=_
  rw[cx a1.1 (by rw[ACh,hlen];omega),xI a3,hS,show ((b.length:Int)).toNat=b.length by omega]
 have s8:=ct hb
 have hat:∀i,i<8→den R (.at (.app 50 Vi) (k64 0) i)=U32 ((O2 b).getD i 0):=by
  intro i hi;show atD (den R (.app 50 Vi)) (.int .i64 0) i=_
  rw[happ];show ((O2 b).map U32).getD i (.bool false)=_
  have:=Gx (c:=U32) (l:=O2 b) (r:=[]) (i:=i) (by rw[s8.1];exact hi)
  rw[ADg]at this;exact this
 refine As (by rw[AB (AY e0) (AY e0),ACR (by omega)]) (As (by rw[AB (d_k .i64 64) (AY ht),ACR (by omega)]) ?_)
 show[(RX b).map u8D]=[(Zn 0 8).map (den R)]
 rw[cy s8.1 hat 8 0 (by omega),AC1,ACg (by rw[s8.1];omega)]
 rfl
end Go.Proofs.YtobajijkmmhdjaaGreatDoor.Se
namespace Go.Proofs.YtobajijkmmhdjaaGreatDoor.Se
open Go Go.AM Go.RowKit
theorem wh:(Tryz.prog.info? 5).map (fun i=>(i.zero,i.size,i.bytes))=some (some (.int .u8 0),1,1):=by kernel_rfl
theorem Ox{t:TypeId}{z:Value}{s b:Nat}(h:(Tryz.prog.info? t).map (fun i=>(i.zero,i.size,i.bytes))=some (some z,s,b)):∃i,Tryz.prog.info? t=some i∧i.zero=some z∧i.size=s∧i.bytes=b:=by
 cases e:Tryz.prog.info? t with
 |none=>rw[e]at h;cases h
 |some i=>
  rw[e]at h;simp only[ADF,ACJ,ACP]at h;exact⟨i,rfl,h.1,h.2.1,h.2.2⟩
theorem cf{w w':World}(h1:w'.os=w.os)(h2:w'.output=w.output):ioOf w'=ioOf w:=by
 unfold ioOf;rw[h1,h2]
theorem kh{E:Nat→Option Obj}{w w':World}{v:Value}{ds:List DV}(hE:∀b o,E b=some o→w.heap[b]? =some o)(hb:Below w.heap.size w w')(hds:∀x∈ds,∃z,x=.int .u8 z∧IntKind.min .u8≤z∧z≤IntKind.max .u8)
  (hown:w'.ownsRow w.heap.size 5 1 v ds.length (ds.map CE)):Grows E E w w'∧Fresh E w w' 5 [tU8] (.list (ds.map fun x=>[x])) v:=by
 have hold:∀b o,E b=some o→w'.heap[b]? =some o:=by
  intro b o h;have h1:=hE b o h
  rw[hb.block b (ACQ.1 h1).1];exact h1
 refine⟨⟨fun b o h=>h,fun b o h=>⟨hold b o h,.inl h⟩,fun b hlt=>hb.block b hlt,cf hb.os hb.output⟩,?_⟩
 obtain⟨_,⟨rfl,h0⟩|⟨g,cap,cur,rfl,hg0,hg,hn,hm,hcs,htk⟩⟩:=hown
 ·have hnil:ds=[]:=ACi.1 h0
  subst hnil;exact⟨[],none,0,rfl,rfl,ACv _,by unfold maxLen;omega,fun _=>rfl,.inl rfl⟩
 ·have hEg:E g=none:=by
   cases h:E g with
   |none=>rfl
   |some o=>
    have:=(ACQ.1 (hE g o h)).1
    omega
  refine⟨ds.map fun x=>[x],some ⟨g,0,none⟩,cap,rfl,by rw[ACX],by rw[ACX];exact hn,hm,(fun e=>by cases e),.inr ⟨g,cur,rfl,hg0,hEg,hg,fun row hr=>?_,ACv _,?_,fun k hk=>?_⟩⟩
  ·obtain⟨x,_,rfl⟩:=ADw.1 hr;rfl
  ·show cap*1≤_
   omega
  ·have hk':k<ds.length:=by simpa using hk
   obtain⟨z,hz,k1,k2⟩:=hds ds[k] (AC7 hk');refine⟨.int .u8 z,?_,?_⟩
   ·have h1:(cur.toList.take (ds.length*1))[k]? =some (CE ds[k]):=by
     rw[htk,ACw,ACL hk'];rfl
    rw[ADG (by omega),hz]at h1
    simpa[CE]using h1
   ·have e1:k% [tU8].length=0:=AET k
    have e2:k / [tU8].length=k:=AEm k
    rw[e1,e2];have:atD (.list (ds.map fun x=>[x])) (.int .i64 (k:Nat)) 0=.int .u8 z:=by
     simp only[atD,AC5,ACI,ACw,ACL hk',ADF,ACo,ACl,hz]
    rw[this];simp only[AC4,Rep];exact⟨z,rfl,rfl,k1,k2⟩
set_option maxHeartbeats 1600000 in
set_option maxRecDepth 1000000 in
theorem og(n:Nat)(w:World)(h0:0<n)(hn:n≤1000000):
  Calls Tryz.prog 163 #[.slice none 0 0,.int .i64 n] w fun e w'=>∃v',e=.returned v'∧w'.ownsRow w.heap.size 5 1 v' 0 []∧Below w.heap.size w w':=by
 obtain⟨i0,hi,hz0,hz1,hz2⟩:=Ox wh;have hrun:=Lib.run_append_nil_zeros (P:=Tryz.prog) w 44 3 44 5 i0 (.int .u8 0) .i64 .i64 Tryz.underlying44 Tryz.underlying3 hi hz0 n h0 (by omega) (by omega) (by rw[hz2];omega)
 have hneg:¬((n:Int)<0):=by omega
 have hpos:(0:Int)<n:=by omega
 have hw:IntKind.i64.wrap (n:Int)=n:=by rw[IntKind.wrap_i64];omega
 go_enter Tryz.func163,Tryz.ntmps163
 go_wp2_with (at_builtin;refine Lib.wpList_append_run _ rfl _ _ _ _ rfl _ _ rfl rfl _ _ hrun ?_)
 go_ret
 have hm:=grownCap_ge w n 0 5
 have hx:=grownCap_le_maxLen w n 0 5 (by unfold maxLen;omega)
 refine⟨_,rfl,?_,((Below.refl _ w).alloc (ACv _) _).drew⟩
 refine World.ownsRow_made w _ (grownCap w n 0 5) (ACv _) hx ?_
 simp only[ADs,size_zeroCells];simp;omega
def HY:List (SX×Bool):=[(.bin .lss (.ki .i64 (.ofNat 0)) (.v 0),true),(.bin .lss (.ki .i64 (.ofNat 1000000)) (.v 0),false)]
theorem wi(I:Nat→List DV→DV):FnOwn Tryz.prog G 163 [.nil,.one tI] 5 [tU8] [] (fun ds=>∀p∈HY,den (AA I ds) p.1=.bool p.2) (fun _=>[[.list []]]):=by
 refine⟨Dj (by kernel_rfl),fun E ds vs w hE hr hpre _=>?_⟩
 simp only[RepArgs,RepOne]at hr;obtain⟨_,_,v1,_,rfl,e1,⟨rfl,rfl⟩,_,_,v2,_,rfl,rfl,⟨d2,rfl,g2⟩,rfl,rfl⟩:=hr;simp only[Rep]at g2;obtain⟨z,rfl,rfl,b1,b2⟩:=g2;have hvs:vs=#[.slice none 0 0,.int .i64 z]:=AD0.1 e1
 subst hvs;have k1:=hpre (HY.head (by simp[HY])) (by simp[HY])
 have k2:=hpre (HY.getLast (by simp[HY])) (by simp[HY])
 simp[HY,den,AA,AZ]at k1 k2;obtain⟨n,rfl⟩:∃n:Nat,z=n:=⟨z.toNat,by omega⟩
 refine (og n w (by omega) (by omega)).mono ?_
 rintro e w' ⟨v',rfl,hown,hb⟩;obtain⟨hg,hf⟩:=kh hE hb (ds:=[]) (by simp) (by simpa using hown)
 exact⟨v',v',[],_,[],E,rfl,⟨rfl,rfl⟩,by simp,hg,hf,rfl,rfl⟩
end Go.Proofs.YtobajijkmmhdjaaGreatDoor.Se
end
