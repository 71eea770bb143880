/-
  A part of the proof of ClientStays (the machine on named data, and the contracts of the functions that the law reaches). Its names and spaces were shortened by a program of ours.
-/
import Derived.Test.YtobajijkmmhdjaaGreatDoorProg
import Derived.KernelRfl
import Derived.Test.YtobajijkmmhdjaaGreatDoorPAf
import Derived.Test.YtobajijkmmhdjaaGreatDoorPAg
import Derived.Test.YtobajijkmmhdjaaGreatDoorPAh
set_option linter.all false
noncomputable section
namespace Go.Proofs.YtobajijkmmhdjaaGreatDoor
open Go Go.AM
def T5:List AV:=[.sc (.int .u32 1779033703),.sc (.int .u32 3144134277),.sc (.int .u32 1013904242),.sc (.int .u32 2773480762),.sc (.int .u32 1359893119),.sc (.int .u32 2600822924),.sc (.int .u32 528734635),.sc (.int .u32 1541459225)]
def MG:List AV:=[.sc (.int .i64 0),.sc (.int .i64 1),.sc (.int .i64 2),.sc (.int .i64 3),.sc (.int .i64 4),.sc (.int .i64 5),.sc (.int .i64 6),.sc (.int .i64 7),.sc (.int .i64 8),.sc (.int .i64 9),.sc (.int .i64 10),.sc (.int .i64 11),.sc (.int .i64 12),.sc (.int .i64 13),.sc (.int .i64 14),.sc (.int .i64 15),.sc (.int .i64 14),.sc (.int .i64 10),.sc (.int .i64 4),.sc (.int .i64 8),.sc (.int .i64 9),.sc (.int .i64 15),.sc (.int .i64 13),.sc (.int .i64 6),.sc (.int .i64 1),.sc (.int .i64 12),.sc (.int .i64 0),.sc (.int .i64 2),.sc (.int .i64 11),.sc (.int .i64 7),.sc (.int .i64 5),.sc (.int .i64 3),.sc (.int .i64 11),.sc (.int .i64 8),.sc (.int .i64 12),.sc (.int .i64 0),.sc (.int .i64 5),.sc (.int .i64 2),.sc (.int .i64 15),.sc (.int .i64 13),.sc (.int .i64 10),.sc (.int .i64 14),.sc (.int .i64 3),.sc (.int .i64 6),.sc (.int .i64 7),.sc (.int .i64 1),.sc (.int .i64 9),.sc (.int .i64 4),.sc (.int .i64 7),.sc (.int .i64 9),.sc (.int .i64 3),.sc (.int .i64 1),.sc (.int .i64 13),.sc (.int .i64 12),.sc (.int .i64 11),.sc (.int .i64 14),.sc (.int .i64 2),.sc (.int .i64 6),.sc (.int .i64 5),.sc (.int .i64 10),.sc (.int .i64 4),.sc (.int .i64 0),.sc (.int .i64 15),.sc (.int .i64 8),.sc (.int .i64 9),.sc (.int .i64 0),.sc (.int .i64 5),.sc (.int .i64 7),.sc (.int .i64 2),.sc (.int .i64 4),.sc (.int .i64 10),.sc (.int .i64 15),.sc (.int .i64 14),.sc (.int .i64 1),.sc (.int .i64 11),.sc (.int .i64 12),.sc (.int .i64 6),.sc (.int .i64 8),.sc (.int .i64 3),.sc (.int .i64 13),.sc (.int .i64 2),.sc (.int .i64 12),.sc (.int .i64 6),.sc (.int .i64 10),.sc (.int .i64 0),.sc (.int .i64 11),.sc (.int .i64 8),.sc (.int .i64 3),.sc (.int .i64 4),.sc (.int .i64 13),.sc (.int .i64 7),.sc (.int .i64 5),.sc (.int .i64 15),.sc (.int .i64 14),.sc (.int .i64 1),.sc (.int .i64 9),.sc (.int .i64 12),.sc (.int .i64 5),.sc (.int .i64 1),.sc (.int .i64 15),.sc (.int .i64 14),.sc (.int .i64 13),.sc (.int .i64 4),.sc (.int .i64 10),.sc (.int .i64 0),.sc (.int .i64 7),.sc (.int .i64 6),.sc (.int .i64 3),.sc (.int .i64 9),.sc (.int .i64 2),.sc (.int .i64 8),.sc (.int .i64 11),.sc (.int .i64 13),.sc (.int .i64 11),.sc (.int .i64 7),.sc (.int .i64 14),.sc (.int .i64 12),.sc (.int .i64 1),.sc (.int .i64 3),.sc (.int .i64 9),.sc (.int .i64 5),.sc (.int .i64 0),.sc (.int .i64 15),.sc (.int .i64 4),.sc (.int .i64 8),.sc (.int .i64 6),.sc (.int .i64 2),.sc (.int .i64 10),.sc (.int .i64 6),.sc (.int .i64 15),.sc (.int .i64 14),.sc (.int .i64 9),.sc (.int .i64 11),.sc (.int .i64 3),.sc (.int .i64 0),.sc (.int .i64 8),.sc (.int .i64 12),.sc (.int .i64 2),.sc (.int .i64 13),.sc (.int .i64 7),.sc (.int .i64 1),.sc (.int .i64 4),.sc (.int .i64 10),.sc (.int .i64 5),.sc (.int .i64 10),.sc (.int .i64 2),.sc (.int .i64 8),.sc (.int .i64 4),.sc (.int .i64 7),.sc (.int .i64 6),.sc (.int .i64 1),.sc (.int .i64 5),.sc (.int .i64 15),.sc (.int .i64 11),.sc (.int .i64 9),.sc (.int .i64 14),.sc (.int .i64 3),.sc (.int .i64 12),.sc (.int .i64 13),.sc (.int .i64 0)]
def T6:List AV:=[.sc (.int .i64 0),.sc (.int .i64 4),.sc (.int .i64 8),.sc (.int .i64 12),.sc (.int .i64 1),.sc (.int .i64 5),.sc (.int .i64 9),.sc (.int .i64 13),.sc (.int .i64 2),.sc (.int .i64 6),.sc (.int .i64 10),.sc (.int .i64 14),.sc (.int .i64 3),.sc (.int .i64 7),.sc (.int .i64 11),.sc (.int .i64 15),.sc (.int .i64 0),.sc (.int .i64 5),.sc (.int .i64 10),.sc (.int .i64 15),.sc (.int .i64 1),.sc (.int .i64 6),.sc (.int .i64 11),.sc (.int .i64 12),.sc (.int .i64 2),.sc (.int .i64 7),.sc (.int .i64 8),.sc (.int .i64 13),.sc (.int .i64 3),.sc (.int .i64 4),.sc (.int .i64 9),.sc (.int .i64 14)]
def G:Nat→Option (List AV)
 |0=>some T5
 |2=>some MG
 |3=>some T6
 |_=>none
abbrev O0:Orc:=Bf fun _ _=>.bool false
theorem GL:Tryz.prog.follows .mixedOrders=true:=by kernel_rfl
theorem pq:Tryz.prog.funcs.toList.all (fun fn=>!(fn.name== "runtime.NumGoroutine"))=true:=by kernel_rfl
theorem PB(f:FuncId)(fn:Func)(h:Tryz.prog.funcs[f]? =some fn):(fn.name== "runtime.NumGoroutine")=false:=by
 have:=ACt.1 pq fn (ACf.2 ⟨f,by simpa using h⟩)
 simpa using this
def Rf:AV→Bool
 |.sc _=>true
 |_=>false
theorem uB{cs:List AV}(h:cs.all Rf=true):∀c∈cs,∃u,c=AV.sc u:=by
 intro c hc;have:=ACt.1 h c hc
 unfold Rf at this;split at this
 ·exact⟨_,rfl⟩
 ·cases this
theorem AI:BO G:=by
 intro g cs h;unfold G at h;split at h<;>cases h<;>exact uB (by kernel_rfl)
def hasB(f:FuncId):Bool:=match Tryz.prog.funcs[f]? with
 |some fn=>!fn.body.isNone&&Bool.not (Nat.beq f yid)
 |none=>false
theorem Dj{f:FuncId}(h:hasB f=true):CQ Tryz.prog f:=by
 unfold hasB at h;split at h
 ·rename_i fn e;simp only[ACH,ADc]at h;exact⟨fn,e,h.1,PB f fn e,ADp h.2⟩
 ·cases h
def CG(l:List (Nat×LoopSp))(k:Nat):List LoopSp:=match l with
 | []=>[]
 |(i,L)::l=>match Nat.beq i k with
  |true=>L::CG l k
  |false=>CG l k
def B4(f:FuncId):Code:=match Tryz.prog.funcs[f]? with
 |some fn=>fn.body.getD .skip
 |none=>.skip
def B0(f k:Nat):Code:=(A9 (B4 f)).getD k .skip
def CN(I:Nat→List DV→DV)(f:FuncId)(lps:List (Nat×LoopSp)):Prop:=Cm Tryz.prog G I (CG lps) (B4 f)
theorem DB:∀{l:List (Nat×LoopSp)} {k:Nat} {L:LoopSp},L∈CG l k→(k,L)∈l
 |(i,M)::l,k,L,h=>by
  unfold CG at h;split at h
  ·rename_i e;rcases ACU.1 h with rfl|h
   ·rw[ADI e];simp
   ·exact ACu _ (DB h)
  ·exact ACu _ (DB h)
theorem AL{I:Nat→List DV→DV}{c:Code}:Cm Tryz.prog G I (CG []) c:=fun _ _ _ h=>by simp[CG]at h
theorem Fw{I:Nat→List DV→DV}{f k:Nat}{c:Code}{L:LoopSp}(hc:A9 (B4 f)=[c])(hL:BJ Tryz.prog G I c L):CN I f [(k,L)]:=by
 intro B hB M hM;have h1:=DB hM
 simp only[ACU,ACm,or_false,ACP]at h1;obtain⟨_,rfl⟩:=h1;rw[hc]at hB;simp only[ACU,ACm,or_false]at hB;rw[hB];exact hL
abbrev Frz:=List (Option (TypeId×List Ty))
abbrev Ey:=List (FuncId×List (Nat×LoopSp))
def Cy(l:Ey)(f:FuncId):List (Nat→List LoopSp):=match l with
 | []=>[]
 |(g,x)::l=>match Nat.beq g f with
  |true=>CG x::Cy l f
  |false=>Cy l f
def Ez(I:Nat→List DV→DV):Ey→Prop
 | []=>True
 |x::l=>CN I x.1 x.2∧Ez I l
theorem Gz{I:Nat→List DV→DV}:∀{l:Ey},Ez I l→HK Tryz.prog G I (Cy l)
 | [],_=>fun f lps h=>by simp[Cy]at h
 |(g,x)::l,hs=>fun f lps h=>by
  intro fn c hf hc;unfold Cy at h;split at h
  ·rename_i e;obtain rfl:=ADI e;rcases ACU.1 h with rfl|h
   ·have:B4 g=c:=by unfold B4;rw[hf];simp[hc]
    rw[←this];exact hs.1
   ·exact Gz hs.2 g lps h fn c hf hc
  ·exact Gz hs.2 f lps h fn c hf hc
def PC(I:Nat→List DV→DV)(spec:IE)(sub:Ey)(lps:List (Nat×LoopSp))(ts:Frz)(f:FuncId)(sg:Sig)(facts:List (SX×Bool)):Out:=
 Fh ts (@Mm (mkO facts I) Tryz.prog G (spec (mkO facts I)) 100 (Cy sub) (CG lps) f (D5 0 sg) Ef)
abbrev Bc(I:Nat→List DV→DV)(spec:IE)(lps:List (Nat×LoopSp))(ts:Frz)(f:FuncId)(sg:Sig)(facts:List (SX×Bool)):Out:=PC I spec [] lps ts f sg facts
def B1(I:Nat→List DV→DV)(spec:IE)(sub:Ey)(lps:List (Nat×LoopSp))(B:Code)(facts:List (SX×Bool))(s:St):Run:=@CC (mkO facts I) Tryz.prog G (spec (mkO facts I)) 100 (Cy sub) (CG lps) B s
abbrev PD(I:Nat→List DV→DV)(spec:IE)(lps:List (Nat×LoopSp))(B:Code)(facts:List (SX×Bool))(s:St):Run:=B1 I spec [] lps B facts s
section
variable {I:Nat→List DV→DV}{spec:IE}
theorem ig(hsp:∀O:Orc,O.I=I→@Br O Tryz.prog G (spec O)){sub:Ey}(hs:Ez I sub){lps:List (Nat×LoopSp)}{f:FuncId}(hl:CN I f lps)(ts:Frz):
  ∀O:Orc,O.I=I→@BF O Tryz.prog G (fun g args h=>if g=f then Fh ts (@Mm O Tryz.prog G (spec O) 100 (Cy sub) (CG lps) g args h) else none):=by
 intro O hI;have h1:=@mq O Tryz.prog G (spec O) (CG lps) GL PB (hsp O hI) AI 100 (Cy sub) (by rw[hI];exact Gz hs) f (by
  intro fn c hf hc;rw[hI];have:B4 f=c:=by unfold B4;rw[hf];simp[hc]
  rw[←this];exact hl)
 have h2:=@V3 O Tryz.prog G ts _ h1
 intro g args h av h' hq;simp only at hq;split at hq
 ·rename_i e;exact h2 g args h av h' (by simp only[if_pos e];subst e;exact hq)
 ·cases hq
theorem Jk(hsp:∀O:Orc,O.I=I→@Br O Tryz.prog G (spec O)){sub:Ey}(hs:Ez I sub)(lps:List (Nat×LoopSp))(ts:Frz){f:FuncId}(hl:CN I f lps){sg rs:Sig}{pre:List DV→Prop}{F:List DV→List (List DV)}(hb:hasB f=true)(p:Pln)
  (hc:AJ rs (PC I spec sub lps ts f sg) [] p=true)
  (hgoal:∀(ds:List (List DV)),An sg ds→pre ds.flatten→AK (AA I ds.flatten) (F ds.flatten) p):Am Tryz.prog G f sg rs pre F:=
 bE (call:=fun O g args h=>Fh ts (@Mm O Tryz.prog G (spec O) 100 (Cy sub) (CG lps) g args h)) AI (Dj hb) (ig hsp hs hl ts) p hc (fun _ ds _ h hp=>hgoal ds (F3 h) hp)
theorem Av(hsp:∀O:Orc,O.I=I→@Br O Tryz.prog G (spec O))(lps:List (Nat×LoopSp))(ts:Frz){f:FuncId}(hl:CN I f lps){sg rs:Sig}{pre:List DV→Prop}{F:List DV→List (List DV)}(hb:hasB f=true)(p:Pln)
  (hc:AJ rs (Bc I spec lps ts f sg) [] p=true)
  (hgoal:∀(ds:List (List DV)),An sg ds→pre ds.flatten→AK (AA I ds.flatten) (F ds.flatten) p):Am Tryz.prog G f sg rs pre F:=
 Jk hsp (sub:=[]) trivial lps ts hl hb p hc hgoal
theorem pr(hsp:∀O:Orc,O.I=I→@Br O Tryz.prog G (spec O)){sub:Ey}(hs:Ez I sub)(lps:List (Nat×LoopSp)){f:FuncId}(hl:CN I f lps)(el:TypeId)(ets:List Ty){sg rs:Sig}{pre:List DV→Prop}{F:List DV→List (List DV)}(hb:hasB f=true)(p:Pln)
  (hc:EY el ets rs (PC I spec sub lps [] f sg) [] p=true)
  (hgoal:∀(ds:List (List DV)),An sg ds→pre ds.flatten→AK (AA I ds.flatten) (F ds.flatten) p):FnOwn Tryz.prog G f sg el ets rs pre F:=
 mc (call:=fun O g args h=>Fh [] (@Mm O Tryz.prog G (spec O) 100 (Cy sub) (CG lps) g args h)) AI (Dj hb) (ig hsp hs hl []) p hc (fun _ ds _ h hp=>hgoal ds (F3 h) hp)
theorem uC(hsp:∀O:Orc,O.I=I→@Br O Tryz.prog G (spec O))(lps:List (Nat×LoopSp)){f:FuncId}(hl:CN I f lps)(el:TypeId)(ets:List Ty){sg rs:Sig}{pre:List DV→Prop}{F:List DV→List (List DV)}(hb:hasB f=true)(p:Pln)
  (hc:EY el ets rs (Bc I spec lps [] f sg) [] p=true)
  (hgoal:∀(ds:List (List DV)),An sg ds→pre ds.flatten→AK (AA I ds.flatten) (F ds.flatten) p):FnOwn Tryz.prog G f sg el ets rs pre F:=
 pr hsp (sub:=[]) trivial lps hl el ets hb p hc hgoal
theorem mA(hsp:∀O:Orc,O.I=I→@Br O Tryz.prog G (spec O)){sub:Ey}(hs:Ez I sub){lps:List (Nat×LoopSp)}{B:Code}{L:LoopSp}(hl:Cm Tryz.prog G I (CG lps) B)(p:RPln)
  (hok:(L.yes.2.1.ok L.T L.n&&L.no.2.1.ok L.T L.n&&AW L (B1 I spec sub lps B) [] p)=true) (inv:Rho→Prop) (μ:Rho→Nat)
  (init:∀m a w,@RS (Bf I) plainR m G (L.T.st L.n) a w→(∀p∈L.pre,den m.R p.1=.bool p.2)→inv m.R)
  (step:∀R,R.I=I→inv R→BE L inv μ R p):BJ Tryz.prog G I B L:=
 WA GL PB hsp AI 100 (Gz hs) hl p hok inv μ init step
theorem NN(hsp:∀O:Orc,O.I=I→@Br O Tryz.prog G (spec O)){lps:List (Nat×LoopSp)}{B:Code}{L:LoopSp}(hl:Cm Tryz.prog G I (CG lps) B)(p:RPln)
  (hok:(L.yes.2.1.ok L.T L.n&&L.no.2.1.ok L.T L.n&&AW L (PD I spec lps B) [] p)=true) (inv:Rho→Prop) (μ:Rho→Nat)
  (init:∀m a w,@RS (Bf I) plainR m G (L.T.st L.n) a w→(∀p∈L.pre,den m.R p.1=.bool p.2)→inv m.R)
  (step:∀R,R.I=I→inv R→BE L inv μ R p):BJ Tryz.prog G I B L:=
 mA hsp (sub:=[]) trivial hl p hok inv μ init step
end
end Go.Proofs.YtobajijkmmhdjaaGreatDoor
namespace Go.Proofs.YtobajijkmmhdjaaGreatDoor.Se
open Go Go.AM
def Ec(a b:Nat):Nat:=(a+b)%4294967296
def Iv(x n:Nat):Nat:=(x<<<(32-n))%4294967296|||x>>>n
def KG(a b c d x y:Nat):List Nat:=
 let a1:=Ec a (Ec b x)
 let d1:=Iv (d^^^a1) 16
 let c1:=Ec c d1
 let b1:=Iv (b^^^c1) 12
 let a2:=Ec a1 (Ec b1 y)
 let d2:=Iv (d1^^^a2) 8
 let c2:=Ec c1 d2
 let b2:=Iv (b1^^^c2) 7
 [a2,b2,c2,d2]
abbrev tF:List Ty:=[Cz,Cz,Cz,Cz]
def U32(n:Nat):DV:=.int .u32 n
theorem C9(a b:Nat):Ec a b<4294967296:=AD4 _ (by decide)
theorem Gh{a b:Nat}(ha:a<4294967296)(hb:b<4294967296):a|||b<4294967296:=Nat.or_lt_two_pow (n:=32) ha hb
theorem DH{a b:Nat}(ha:a<4294967296)(hb:b<4294967296):a^^^b<4294967296:=Nat.xor_lt_two_pow (n:=32) ha hb
theorem kJ{a:Nat}(ha:a<4294967296)(n:Nat):a>>>n<4294967296:=by
 rw[AEE];exact Nat.lt_of_le_of_lt (Nat.div_le_self _ _) ha
theorem Jf{a:Nat}(ha:a<4294967296)(n:Nat):Iv a n<4294967296:=Gh (AD4 _ (by decide)) (kJ ha n)
section
variable {R:Rho}{x y:SX}{a b:Nat}
theorem Jg(hx:den R x=U32 a)(hy:den R y=U32 b):den R (.bin .add x y)=U32 (Ec a b):=by
 simp only[den,hx,hy,AZ,U32,wrap_u32,Ec];congr 1
theorem fq(h:a<4294967296):(BitVec.ofInt 32 (a:Int)).toNat=a:=by
 rw[BitVec.ofInt_natCast,BitVec.toNat_ofNat];omega
theorem Gw(hx:den R x=U32 a)(hy:den R y=U32 b)(ha:a<4294967296)(hb:b<4294967296):den R (.bin .xor x y)=U32 (a^^^b):=by
 simp only[den,hx,hy,AZ,U32];congr 1
 show IntKind.u32.wrap ((BitVec.ofInt 32 (a:Int)^^^BitVec.ofInt 32 (b:Int)).toNat:Int)=_
 rw[wrap_u32,BitVec.toNat_xor,fq ha,fq hb];have:=DH ha hb
 omega
theorem Ok(hx:den R x=U32 a)(hy:den R y=U32 b)(ha:a<4294967296)(hb:b<4294967296):den R (.bin .or x y)=U32 (a|||b):=by
 simp only[den,hx,hy,AZ,U32];congr 1
 show IntKind.u32.wrap ((BitVec.ofInt 32 (a:Int)|||BitVec.ofInt 32 (b:Int)).toNat:Int)=_
 rw[wrap_u32,BitVec.toNat_or,fq ha,fq hb];have:=Gh ha hb
 omega
theorem so(hx:den R x=U32 a)(n:Nat)(hn:n≤32):den R (.bin .shr x (.ki .u64 (.ofNat n)))=U32 (a>>>n):=by
 simp only[den,hx,AZ,U32];congr 1
 show Int.fdiv (a:Int) (2^min n 32)=_
 rw[ADZ hn,AEE,ADb _ (Int.le_of_lt (Int.pow_pos (by decide)))]
 simp
theorem sq(hx:den R x=U32 a)(n:Nat)(hn:n≤32):den R (.bin .shl x (.ki .u64 (.ofNat n)))=U32 ((a<<<n)%4294967296):=by
 simp only[den,hx,AZ,U32,wrap_u32];congr 1
 show ((a:Int)*2^min n 32)%_=_
 rw[ADZ hn,Nat.shiftLeft_eq];simp
theorem Pk(hx:den R x=U32 a)(ha:a<4294967296)(n:Nat)(hn:n≤32):den R (.bin .or (.bin .shl x (.ki .u64 (.ofNat (32-n)))) (.bin .shr x (.ki .u64 (.ofNat n))))=U32 (Iv a n):=
 Ok (sq hx (32-n) (by omega)) (so hx n hn) (AD4 _ (by decide)) (kJ ha n)
end
abbrev ft(x:SX)(n:Nat):SX:=.bin .or (.bin .shl x (.ki .u64 (.ofNat (32-n)))) (.bin .shr x (.ki .u64 (.ofNat n)))
abbrev LO(x y:SX):SX:=.bin .xor x y
def ma1:SX:=add (.v 0) (add (.v 1) (.v 4))
def md1:SX:=ft (LO (.v 3) ma1) 16
def mc1:SX:=add (.v 2) md1
def mb1:SX:=ft (LO (.v 1) mc1) 12
def ma2:SX:=add ma1 (add mb1 (.v 5))
def md2:SX:=ft (LO md1 ma2) 8
def mc2:SX:=add mc1 md2
def mb2:SX:=ft (LO mb1 mc2) 7
def wE:Pln:=.done [[ma2,mb2,mc2,md2]]
theorem AAu:(hasB 162&&AJ [.agg tF] (Bc (fun _ _=>.bool false) (AR []) [] [] 162 [.agg tF,.one Cz,.one Cz]) [] wE)=true:=by kernel_rfl
def nD(ds:List DV)(k:Nat):Nat:=match ds.getD k (.bool false) with
 |.int _ z=>z.toNat
 |_=>0
def ZI(ds:List DV):List (List DV):=[(KG (nD ds 0) (nD ds 1) (nD ds 2) (nD ds 3) (nD ds 4) (nD ds 5)).map U32]
theorem HW{d:DV}(h:Is Cz d):∃a:Nat,d=.int .u32 a∧a<4294967296:=by
 obtain⟨z,rfl,h1,h2⟩:=h.u32;exact⟨z.toNat,by congr 1;omega,by omega⟩
theorem yp{R:Rho}{a b c d x y:Nat}(q0:R.ρ 0=U32 a)(q1:R.ρ 1=U32 b)(q2:R.ρ 2=U32 c)(q3:R.ρ 3=U32 d)(q4:R.ρ 4=U32 x)(q5:R.ρ 5=U32 y)(ha:a<4294967296)(hb:b<4294967296)(hc:c<4294967296)(hd:d<4294967296):
  [ma2,mb2,mc2,md2].map (den R)=(KG a b c d x y).map U32:=by
 have e1:den R ma1=_:=Jg (d_v q0) (Jg (d_v q1) (d_v q4))
 have e2:den R md1=_:=Pk (Gw (d_v q3) e1 hd (C9 _ _)) (DH hd (C9 _ _)) 16 (by omega)
 have l2:=Jf (DH hd (C9 a (Ec b x))) 16
 have e3:den R mc1=_:=Jg (d_v q2) e2
 have e4:den R mb1=_:=Pk (Gw (d_v q1) e3 hb (C9 _ _)) (DH hb (C9 _ _)) 12 (by omega)
 have e5:den R ma2=_:=Jg e1 (Jg e4 (d_v q5))
 have e6:den R md2=_:=Pk (Gw e2 e5 l2 (C9 _ _)) (DH l2 (C9 _ _)) 8 (by omega)
 have e7:den R mc2=_:=Jg e3 e6
 have l4:=Jf (DH hb (C9 c (Iv (d^^^Ec a (Ec b x)) 16))) 12
 have e8:den R mb2=_:=Pk (Gw e4 e7 l4 (C9 _ _)) (DH l4 (C9 _ _)) 7 (by omega)
 simp only[ACO,ACS,e5,e6,e7,e8];rfl
theorem yq(I:Nat→List DV→DV):Am Tryz.prog G 162 [.agg tF,.one Cz,.one Cz] [.agg tF] (fun _=>True) ZI:=by
 have hk:=AAu
 rw[ACH]at hk;refine Av (I:=fun _ _=>.bool false) (AG (l:=[]) trivial) [] _ AL hk.1 wE hk.2 ?_
 intro ds h _;simp only[An,Ba,IsL,tF]at h;obtain⟨_,_,rfl,⟨d1,_,rfl,h1,d2,_,rfl,h2,d3,_,rfl,h3,d4,_,rfl,h4,rfl⟩,_,_,rfl,⟨d5,rfl,h5⟩,_,_,rfl,⟨d6,rfl,h6⟩,rfl⟩:=h;obtain⟨a,rfl,la⟩:=HW h1;obtain⟨b,rfl,lb⟩:=HW h2;obtain⟨c,rfl,lc⟩:=HW h3;obtain⟨d,rfl,ld⟩:=HW h4;obtain⟨x,rfl,_⟩:=HW h5;obtain⟨y,rfl,_⟩:=HW h6;have hF:ZI [[DV.int .u32 a,.int .u32 b,.int .u32 c,.int .u32 d],[.int .u32 x],[.int .u32 y]].flatten=[(KG a b c d x y).map U32]:=rfl
 rw[hF];show _=_
 simp only[ACO,ACS];rw[←yp (R:=AA (fun _ _=>.bool false) [[DV.int .u32 a,.int .u32 b,.int .u32 c,.int .u32 d],[.int .u32 x],[.int .u32 y]].flatten) (a:=a) (b:=b) (c:=c) (d:=d) (x:=x) (y:=y) rfl rfl rfl rfl rfl rfl la lb lc ld]
 rfl
end Go.Proofs.YtobajijkmmhdjaaGreatDoor.Se
end
