/-
  A part of the proof of ClientStays (the machine on named data, and the contracts of the functions that the law reaches). Its names and spaces were shortened by a program of ours.
-/
import Derived.Shelf.SlicesE.Clone
import Derived.Test.YtobajijkmmhdjaaGreatDoorPAm
import Derived.Test.YtobajijkmmhdjaaGreatDoorShelg
import Derived.Test.YtobajijkmmhdjaaGreatDoorPAh
import Derived.Test.YtobajijkmmhdjaaGreatDoorPAn
import Derived.Test.YtobajijkmmhdjaaGreatDoorPAp
set_option linter.all false
noncomputable section
namespace Go.Proofs.YtobajijkmmhdjaaGreatDoor.Se
open Go Go.AM Go.Shelf Go.RowKit Go.Lib
section
variable {ρ:Ren}
set_option maxHeartbeats 2000000 in
set_option maxRecDepth 100000 in
theorem iH(L:SlLaysE0.n41 Tryz.prog ρ)(i0:TypeInfo)(z:Value)(size bytes:Nat)(hi:Tryz.prog.info? (ρ.t 23)=some i0)(hz0:i0.zero=some z)(hz1:i0.size=size)(hz2:i0.bytes=bytes)(hzs:z.cells.size=size)(hsz:0<size)
  (z23:∀w,(Go.sizeOf (ρ.t 23)).run Tryz.prog w=.ok size w) (a:Addr) (c:Nat) (w:World):
  Calls Tryz.prog (ρ.f 41) #[.slice (some a) 0 c] w fun e w'=>∃v',e=.returned v'∧w'.ownsRow w.heap.size (ρ.t 23) size v' 0 []∧v'≠.slice none 0 0∧Below w.heap.size w w':=by
 have mixed:=L.mixed;have t4:=L.t4;have a4:=L.a4;have z4:=L.z4;have v4:=L.v4;have t22:=L.t22;have a22:=L.a22;have z22:=L.z22;have v22:=L.v22
 have q22:∀(w:World) (a:Option Addr) (n c n' c':Nat),(binOp .eql (ρ.t 22) (.slice a n c) (.slice none n' c')).run Tryz.prog w=.ok (.bool a.isNone) w:=fun w a n c n' c'=>Lib.run_eql_slice_nil w _ _ a n c n' c' L.t22
 have u22:∀w,Sem.run Tryz.prog (underlying (ρ.t 22)) w=.ok (TypeDesc.slice (ρ.t 23)) w:=run_underlying t22
 obtain⟨_,_,FG⟩:=L.f41
 go_enter FG,SlBodyN.n41_ntmps ρ
 go_wp2_with (at_builtin;refine wpList_append_own _ rfl _ _ (ρ.t 22) rfl w.heap.size (ρ.t 23) i0 z size bytes t22 hi hz0 hz1 hz2 hzs hsz _ _ _ rfl (World.ownsRow_made w #[] 0 (ACv _) (ADO _) (by simp)) a 0 c [] rfl ?qc1 ?qc2 ?qc3 ?qc4 ?qc5 ?qc6 ?_)
 case qc1=>simp
 case qc2=>intro j u hj;simp at hj
 case qc3=>intro u hu;cases hu
 case qc4=>unfold maxLen;omega
 case qc5=>simp
 case qc6=>simp
 intro v' w1 hown hgrow hnil
 go_wp2
 go_ret
 refine⟨v',rfl,by simpa using hown,?_,?_⟩
 ·exact hnil
 ·exact ((Below.refl _ w).alloc (ACv _) _).grown hgrow (by simp) (by intro k hk;simp[Value.ownBlock]at hk;omega)
end
theorem iI{E:Nat→Option Obj}{w w':World}{v:Value}{el:TypeId}{ts:List Ty}{l:List (List DV)}{news:List Value}(hE:∀b o,E b=some o→w.heap[b]? =some o)(hb:Below w.heap.size w w')(hts:1≤ts.length)(hrow:∀row∈l,row.length=ts.length)
  (hrep:∀k,k<l.length*ts.length→∃u,news[k]? =some u∧Rep (Al E) (ts.getD (k%ts.length) .bool) (atD (.list l) (.int .i64 (k / ts.length:Nat)) (k%ts.length)) u)
  (hown:w'.ownsRow w.heap.size el ts.length v l.length news):Grows E E w w'∧Fresh E w w' el ts (.list l) v:=by
 have hold:∀b o,E b=some o→w'.heap[b]? =some o:=by
  intro b o h;have h1:=hE b o h
  rw[hb.block b (ACQ.1 h1).1];exact h1
 refine⟨⟨fun b o h=>h,fun b o h=>⟨hold b o h,.inl h⟩,fun b hlt=>hb.block b hlt,cf hb.os hb.output⟩,?_⟩
 obtain⟨hn0,⟨rfl,h0⟩|⟨g,cap,cur,rfl,hg0,hg,hn,hm,hcs,htk⟩⟩:=hown
 ·have hnil:l=[]:=ACi.1 h0
  subst hnil;exact⟨[],none,0,rfl,rfl,ACv _,by unfold maxLen;omega,fun _=>rfl,.inl rfl⟩
 ·have hEg:E g=none:=by
   cases h:E g with
   |none=>rfl
   |some o=>
    have:=(ACQ.1 (hE g o h)).1
    omega
  refine⟨l,some ⟨g,0,none⟩,cap,rfl,rfl,hn,hm,(fun e=>by cases e),.inr ⟨g,cur,rfl,hg0,hEg,hg,hrow,hts,by rw[hcs];exact ACv _,fun k hk=>?_⟩⟩
  obtain⟨u,h1,h2⟩:=hrep k hk;refine⟨u,?_,h2⟩
  rw[←htk,ADG hk,AEi]at h1;exact h1
theorem O8{m:Env}{b:Nat}:∀{ts:List Ty} {ds:List DV} {o:Nat},RepL m ts ds b o→ds.length=ts.length∧∀j,j<ts.length→∃u,m.ecell b (o+j)=some u∧Rep m (ts.getD j .bool) (ds.getD j (.bool false)) u
 | [],ds,o,h=>by simp only[RepL]at h;subst h;exact⟨rfl,fun j hj=>by simp at hj⟩
 |t::ts,ds,o,h=>by
  simp only[RepL]at h;obtain⟨d,rest,v,rfl,h1,h2,h3⟩:=h;obtain⟨q1,q2⟩:=O8 h3;refine⟨by simp[q1],fun j hj=>?_⟩
  cases j with
  |zero=>exact⟨v,h1,h2⟩
  |succ j=>
   obtain⟨u,k1,k2⟩:=q2 j (by simpa using hj)
   exact⟨u,by rw[show o+(j+1)=o+1+j by omega];exact k1,by simpa using k2⟩
theorem pZ{m:Env}{t:Ty}{d:DV}{u:Value}(h:Rep m t d u):u.oneCell'=true:=by
 cases t with
 |int k=>simp only[Rep]at h;obtain⟨z,_,rfl,_⟩:=h;rfl
 |bool=>simp only[Rep]at h;obtain⟨z,_,rfl⟩:=h;rfl
 |str=>simp only[Rep]at h;obtain⟨z,_,rfl,_⟩:=h;rfl
 |slice cs=>simp only[Rep]at h;obtain⟨es,a,c,_,rfl,_⟩:=h;rfl
theorem KT{E:Nat→Option Obj}{w:World}(hE:∀b o,E b=some o→w.heap[b]? =some o){b o:Nat}{u:Value}(h:(Al E).ecell b o=some u):w.cell? ⟨b,o,none⟩=some u:=by
 unfold Env.ecell at h;simp only[Al]at h;split at h
 ·rename_i c _ _ hb;simp only[World.cell?,hE _ _ hb];exact h
 ·cases h
theorem O9{ρ:Ren}(L:SlLaysE0.n41 Tryz.prog ρ){ts:List Ty}{z:Value}{bytes:Nat}(hi:(Tryz.prog.info? (ρ.t 23)).map (fun i=>(i.zero,i.size,i.bytes))=some (some z,ts.length,bytes))(hzs:z.cells.size=ts.length)(hts:1≤ts.length)(hby:1000000*bytes≤140737488355328)
  (z23:∀w,(Go.sizeOf (ρ.t 23)).run Tryz.prog w=.ok ts.length w) (hB:hasB (ρ.f 41)=true) (I:Nat→List DV→DV):FnOwn Tryz.prog G (ρ.f 41) [.one (.slice ts)] (ρ.t 23) ts [] (fun ds=>∀p∈[Aj 0],den (AA I ds) p.1=.bool p.2) (fun ds=>[[ds.getD 0 (.bool false)]]):=by
 refine⟨Dj hB,fun E ds vs w hE hr hpre _=>?_⟩
 obtain⟨i0,hi0,hz0,hz1,hz2⟩:=Ox hi;simp only[RepArgs,RepOne]at hr;obtain⟨_,_,v1,_,rfl,e1,⟨d1,rfl,g1⟩,rfl,rfl⟩:=hr;simp only[Rep]at g1;obtain⟨l,a,c,rfl,rfl,h1,h2,h3,h4⟩:=g1;have hvs:vs=#[.slice a l.length c]:=AD0.1 e1
 subst hvs;have p0:=hpre (Aj 0) (by simp)
 have e0:den (AA I [[DV.list l]].flatten) (.v 0)=.list l:=rfl
 rw[show (Aj 0).1=lss (k64 1000000) (.len (.v 0)) from rfl,AB (d_k .i64 1000000) (AF e0)]at p0;simp only[Aj,DV.bool.injEq,ACK,ACZ]at p0;have fin:∀(news:List Value) (w':World) (v':Value),(∀row∈l,row.length=ts.length)→(∀k,k<l.length*ts.length→∃u,news[k]? =some u∧Rep (Al E) (ts.getD (k%ts.length) .bool) (atD (.list l) (.int .i64 (k / ts.length:Nat)) (k%ts.length)) u)→
   w'.ownsRow w.heap.size (ρ.t 23) ts.length v' l.length news→Below w.heap.size w w'→∃v v0 us d0 dr E',Ending.returned v'=.returned v∧eT [] v v0 us∧[[([[DV.list l]].flatten).getD 0 (.bool false)]]=[d0]::dr∧Grows E E' w w'∧Fresh E' w w' (ρ.t 23) ts d0 v0∧RepArgs (Al E') [] dr us:=by
  intro news w' v' q1 q2 q3 q4;obtain⟨hg,hf⟩:=iI hE q4 hts q1 q2 q3;exact⟨v',v',[],_,[],E,rfl,⟨rfl,rfl⟩,rfl,hg,hf,rfl,rfl⟩
 rcases h4 with rfl|⟨b,o,rfl,h4⟩
 ·have hl:l=[]:=ACi.1 (by omega)
  subst hl;cases a with
  |none=>
   refine (AnyE.slices_Clone_nil L 0 0 w).mono ?_
   rintro e w' ⟨rfl,rfl⟩;exact fin [] w' _ (by simp) (fun k hk=>by simp at hk) ⟨by simp,.inl ⟨rfl,rfl⟩⟩ (Below.refl _ w')
  |some a=>
   refine (iH L i0 z ts.length bytes hi0 hz0 hz1 hz2 hzs hts z23 a 0 w).mono ?_
   rintro e w' ⟨v',rfl,q1,_,q2⟩;exact fin [] w' v' (by simp) (fun k hk=>by simp at hk) q1 q2
 ·have hrow:∀row∈l,row.length=ts.length:=fun row hr=>by
   obtain⟨i,hi⟩:=ACf.1 hr;exact (O8 (h4 i row hi)).1
  have cell:∀k,k<l.length*ts.length→∃u,(Al E).ecell b (o+k)=some u∧Rep (Al E) (ts.getD (k%ts.length) .bool) (atD (.list l) (.int .i64 (k / ts.length:Nat)) (k%ts.length)) u:=by
   intro k hk;have hq:k / ts.length<l.length:=Nat.div_lt_of_lt_mul (by rw[ADT];exact hk)
   have hm:=AD4 k (show 0<ts.length by omega)
   obtain⟨u,k1,k2⟩:=(O8 (h4 (k / ts.length) l[k / ts.length] (ACL hq))).2 (k%ts.length) hm;refine⟨u,?_,?_⟩
   ·rw[show o+k=o+k / ts.length*ts.length+k%ts.length by rw[AEZ,ADT,AEM]]
    exact k1
   ·rw[show atD (.list l) (.int .i64 (k / ts.length:Nat)) (k%ts.length)=l[k / ts.length].getD (k%ts.length) (.bool false) from by
     simp only[atD,AC5,ACI,ACL hq,ACo]]
    exact k2
  have hnews:∀k,k<l.length*ts.length→((List.range (l.length*ts.length)).map fun j=>(w.cell? ⟨b,o+j,none⟩).getD undef)[k]? =w.cell? ⟨b,o+k,none⟩:=by
   intro k hk;obtain⟨u,k1,_⟩:=cell k hk;rw[ACw,List.getElem?_range hk,ADF,KT hE k1];rfl
  have lt_of:∀{j:Nat} {u:Value},((List.range (l.length*ts.length)).map fun j=>(w.cell? ⟨b,o+j,none⟩).getD undef)[j]? =some u→j<l.length*ts.length:=fun h=>by
   have:=(ACW.1 h).1
   simpa using this
  refine (AnyE.slices_Clone L i0 z ts.length bytes hi0 hz0 hz1 hz2 hzs hts z23 b o l.length c ((List.range (l.length*ts.length)).map fun j=>(w.cell? ⟨b,o+j,none⟩).getD undef) w (by simp) h2 (AEB (ACx _ (by omega)) hby) (fun j u hj=>?_) (fun u hu=>?_)).mono ?_
  ·rw[←hnews j (lt_of hj)];exact hj
  ·obtain⟨j,hj⟩:=ACf.1 hu;obtain⟨u',k1,k2⟩:=cell j (lt_of hj);rw[hnews j (lt_of hj),KT hE k1,ACJ]at hj;rw[←hj];exact pZ k2
  ·rintro e w' ⟨v',rfl,q1,_,q2⟩;refine fin _ w' v' hrow (fun k hk=>?_) q1 q2
   obtain⟨u,k1,k2⟩:=cell k hk;exact⟨u,by rw[hnews k hk,KT hE k1],k2⟩
end Go.Proofs.YtobajijkmmhdjaaGreatDoor.Se
namespace Go.Proofs.YtobajijkmmhdjaaGreatDoor
open Go Go.AM
def bxV:Blk:={t:=26,row:=false,sz:=1,n:=3,z:=[.dead],c:=(Tr.nil:Tr AV).put 2 (.sy .str (.v 0))}
def bx0:Blk:={t:=26,row:=false,sz:=1,n:=0,z:=[.dead],c:=.nil}
def AB9:Tmpl:={tm:=[(1,.ptr 0 0),(5,.own 7 [tU8] (.v 1)),(38,.sy tI (.len (.v 0))),(39,.sy tI (.v 2))],ob:=[(0,bxV)],ow:=[⟨7,5,[tU8],.v 1⟩],src:=[.cell 0 2 .str,.own 0,.tm 39 tI],osrc:=[.tm 5 5 [tU8]]}
def ACA:Tmpl:={tm:=[(5,.own 7 [tU8] (.v 0))],ob:=[(0,bx0)],ow:=[⟨7,5,[tU8],.v 0⟩],src:=[.own 0],osrc:=[.tm 5 5 [tU8]]}
def GM:LoopSp:={n:=62,T:=AB9,pre:=[(lss (k64 64) (.len (.v 0)),false),(lss (k64 64) (.len (.v 1)),false),(eql (.v 2) (k64 0),true)],yes:=(.exit 1,ACA,[.app 101 [.v 0,.v 1,.v 2]])}
abbrev dd:Code:=B0 94 0
abbrev cE1:SX:=.cat (.v 1) (.row [.byte (.v 0) (.v 2)])
abbrev cE2:SX:=.cat cE1 (.row [.ki .u8 (.ofNat 255)])
def pt:RPln:=
 .ask (lss (.v 2) (.len (.v 0)))
  (DT [(lss (.v 2) (k64 0),false),(lss (k64 1000000) (.len (.v 1)),false)]
   (.ask (eql (.byte (.v 0) (.v 2)) (.ki .u8 (.ofNat 0)))
    (.know (lss (k64 1000000) (.len cE1)) false (.next [.v 0,cE2,add (.v 2) (k64 1)]))
    (.next [.v 0,cE1,add (.v 2) (k64 1)])))
  (.exit true [.v 1])
theorem AAL:(GM.yes.2.1.ok GM.T GM.n&&GM.no.2.1.ok GM.T GM.n&&AW GM (PD AE (AR []) [] dd) [] pt)=true:=by kernel_rfl
def mB(R:Rho):Prop:=∃s l i,R.ρ 0=.str s∧R.ρ 1=.list (bytesI l)∧R.ρ 2=.int .i64 i∧0≤i∧i≤s.size∧s.size≤64∧l.length≤64+2*i
def ik(R:Rho):Nat:=match R.ρ 0,R.ρ 2 with
 |.str s,.int _ i=>s.size-i.toNat
 |_,_=>0
theorem pv{l:List Int}{i:Int}(h0:0≤i)(h1:i<l.length):Dw (l.drop i.toNat)=(if l.getD i.toNat 0=0 then [0,255] else [l.getD i.toNat 0])++Dw (l.drop (i+1).toNat):=by
 have h2:i.toNat<l.length:=by omega
 rw[ACj h2,show (i+1).toNat=i.toNat+1 by omega]
 simp only[Dw,AD5,ACI,ACL h2,ACo]
theorem uF:BJ Tryz.prog G AE dd GM:=by
 refine NN (lps:=[]) (AG (l:=[]) trivial) AL pt AAL mB ik ?_ ?_
 ·intro m a w hr hp;obtain⟨s,e0,_⟩:=(Kj hr (id:=0) (k:=2) (i:=0) (ty:=.str) (b:=bxV) (by kernel_rfl) (by decide) (by kernel_rfl)).str
  obtain⟨l,e1,_,_⟩:=(YP hr (t:=5) (id:=7) (i:=1) (el:=5) (ts:=[tU8]) (by kernel_rfl) (by kernel_rfl)).ints
  obtain⟨i,e2,_⟩:=(L1 hr (t:=39) (i:=2) (ty:=tI) (by kernel_rfl)).i64
  have p1:=hp (lss (k64 64) (.len (.v 0)),false) (by simp[GM])
  have p2:=hp (lss (k64 64) (.len (.v 1)),false) (by simp[GM])
  have p3:=hp (eql (.v 2) (k64 0),true) (by simp[GM])
  rw[AB (d_k .i64 64) (Az (d_v e0))]at p1;rw[AB (d_k .i64 64) (AY (d_v e1))]at p2;rw[AN (d_v e2) (d_k .i64 0)]at p3;simp only[DV.bool.injEq,ACK,ACN]at p1 p2 p3;refine⟨s,l,i,e0,e1,e2,?_⟩
  omega
 ·rintro R hI ⟨s,l,i,e0,e1,e2,h1,h2,h3,h4⟩;have hout:∀(R':Rho) (l':List Int) (i':Int),R'.I=AE→R'.ρ 0=.str s→R'.ρ 1=.list (bytesI l')→R'.ρ 2=.int .i64 i'→GM.yes.2.2.map (den R')=[.list (bytesI (l'++Dw ((Bl s).drop i'.toNat)))]:=by
   intro R' l' i' hI' f0 f1 f2;show[den R' (.app 101 [.v 0,.v 1,.v 2])]=_
   rw[AO,hI'];simp only[ACO,ACS,den,f0,f1,f2];show[T2 _]=_
   simp only[T2,Aa,lD,sD,iD,AC4,ACr,BD]
  have hsz:(Bl s).length=s.size:=Hm s
  unfold pt;refine Cj (AB (d_v e2) (Az (d_v e0))) (fun hlt=>?_) (fun hge=>?_)
  ·simp only[ACN]at hlt;have hb:=YF (d_v e0) (d_v e2) h1 hlt
   have hst:=pv h1 (show i<(Bl s).length by omega)
   have hc1:=BV R (d_v e1) (EP R hb)
   have hc2:=BV R hc1 (EP R (x:=.ki .u8 (.ofNat 255)) (z:=255) rfl)
   have hi1:=B6 (R:=R) (d_v e2) (d_k .i64 1) (by omega) (by omega)
   refine ID (l:=[_,_]) ?_ ?_
   ·intro q hq;simp only[ACU,ACm,or_false]at hq;rcases hq with rfl|rfl
    ·rw[AB (d_v e2) (d_k .i64 0)];simp;omega
    ·exact Cr R (d_v e1) (by omega)
   have next:∀(e:SX) (l':List Int),den R e=.list (bytesI (l++l'))→l'.length≤2→l'++Dw ((Bl s).drop (i+1).toNat)=Dw ((Bl s).drop i.toNat)→BE GM mB ik R (.next [.v 0,e,add (.v 2) (k64 1)]):=by
    intro e l' he hl' heq;have s0:=En R [.v 0,e,add (.v 2) (k64 1)] 0 rfl (d_v e0)
    have s1:=En R [.v 0,e,add (.v 2) (k64 1)] 1 rfl he
    have s2:=En R [.v 0,e,add (.v 2) (k64 1)] 2 rfl hi1
    refine Me (fun _=>rfl) ⟨s,l++l',i+1,s0,s1,s2,by omega,by omega,h3,by rw[ACT];omega⟩ ?_ ?_
    ·simp only[ik,s0,s2,e0,e2];omega
    ·rw[hout R l i hI e0 e1 e2,hout (R.sub [.v 0,e,add (.v 2) (k64 1)]) (l++l') (i+1) hI s0 s1 s2,ACy,heq]
   refine Cj (AN hb (d_k .u8 0)) (fun hz=>?_) (fun hz=>?_)
   ·simp only[ACN]at hz
    replace hz:(Bl s).getD i.toNat 0=0:=hz
    refine G9 (Cr R hc1 (by simp;omega)) ?_
    refine next cE2 [(Bl s).getD i.toNat 0,255] ?_ (by simp) ?_
    ·rw[hc2];simp
    ·rw[hst,if_pos hz,hz]
   ·simp only[ACK]at hz
    replace hz:¬(Bl s).getD i.toNat 0=0:=hz
    refine next cE1 [(Bl s).getD i.toNat 0] hc1 (by simp) ?_
    rw[hst,if_neg hz]
  ·simp only[ACK]at hge;refine Mf (fun _=>rfl) ?_
   rw[hout R l i hI e0 e1 e2];have:(Bl s).drop i.toNat=[]:=ADP (by omega)
   rw[this];simp only[ACO,ACS,den,e1];simp[Dw]
theorem ACB:CN AE 94 [(13,GM)]:=Fw (by kernel_rfl) uF
def dh:Ent:=eFn 42 [.agg tV] [.one tI] [] 1
theorem mC:Ap Tryz.prog G AE [dh]:=⟨AP AI (pre_true db) (fun _=>rfl) [] (by kernel_rfl),trivial⟩
abbrev aB(a b c:SX):SX:=.at (.app 1 [a,b,c]) (k64 0) 0
abbrev xS:SX:=.bin .xor (.conv .u64 (.v 1)) (.ki .u64 (.ofNat 9223372036854775808))
abbrev shB(n:Nat):SX:=.row [.conv .u8 (.bin .shr xS (k64 n))]
abbrev r0:SX:=.row [.conv .u8 (.v 0)]
abbrev tE:SX:=.app 101 [.v 2,r0,k64 0]
def pw:Pln:=
 .ask (eql (aB (.v 0) (.v 1) (.v 2)) (k64 0))
  (.ask (eql (.v 0) (k64 2))
   (.done [[.cat r0 (.row [.conv .u8 (.v 1)])],[k64 0]])
   (.ask (eql (.v 0) (k64 3))
    (.done [[.cat r0 (.cat (shB 56) (.cat (shB 48) (.cat (shB 40) (.cat (shB 32) (.cat (shB 24) (.cat (shB 16) (.cat (shB 8) (shB 0))))))))],[k64 0]])
    (.ask (eql (.v 0) (k64 4))
     (G8 [(lss (k64 64) (.len (.v 2)),false),(lss (k64 64) (.len r0),false),(lss (k64 1000000) (.len tE),false)]
      (.done [[.cat tE (.cat (.row [.ki .u8 (.ofNat 0)]) (.row [.ki .u8 (.ofNat 0)]))],[k64 0]]))
     (.done [[r0],[k64 0]]))))
  (.done [[.emp],[aB (.v 0) (.v 1) (.v 2)]])
theorem ACC:(hasB 94&&AJ [.one tB,.one tI] (Bc AE (AR [dh]) [(13,GM)] [some (5,[tU8]),none] 94 [.agg tV]) [] pw)=true:=by kernel_rfl
theorem yH{R:Rho}(hI:R.I=AE){a b c:SX}{k n:Int}{s:ByteArray}(ha:den R a=.int .i64 k)(hb:den R b=.int .i64 n)(hc:den R c=.str s):den R (aB a b c)=.int .i64 (if Bt k n s.size then 0 else 150):=by
 refine Mh (F:=Ew) (by rw[hI];rfl) ?_
 simp only[ACO,ACS,ha,hb,hc];rfl
theorem uG(l:List Int):(Dw l).length≤2*l.length:=by
 induction l with
 |nil=>simp[Dw]
 |cons z l ih=>
  have:(Dw (z::l)).length=(if z=0 then [0,255] else [z]).length+(Dw l).length:=by simp[Dw]
  rw[this,ACe];split<;>simp<;>omega
theorem AAM:Am Tryz.prog G 94 [.agg tV] [.one tB,.one tI] (fun _=>True) IS:=by
 have hk:=ACC
 rw[ACH]at hk;refine Av (AG mC) [(13,GM)] _ ACB hk.1 pw hk.2 ?_
 intro ds h _;obtain⟨k,n,s,rfl,n1,n2⟩:=ij h;have hF:IS [[.int .i64 k,.int .i64 n,.str s]].flatten=if Bt k n s.size then [[.list (bytesI (Hz k n s))],[.int .i64 0]] else [[.list []],[.int .i64 150]]:=rfl
 generalize hR:AA AE [[.int .i64 k,.int .i64 n,.str s]].flatten=R;have hI:R.I=AE:=by rw[←hR];rfl
 have q0:R.ρ 0=.int .i64 k:=by rw[←hR];rfl
 have q1:R.ρ 1=.int .i64 n:=by rw[←hR];rfl
 have q2:R.ρ 2=.str s:=by rw[←hR];rfl
 have hc:=yH hI (d_v q0) (d_v q1) (d_v q2)
 have hr0:=EP R (uq (d_v q0))
 have fin:∀e:SX,Bt k n s.size=true→den R e=.list (bytesI (Hz k n s))→AK R (IS [[.int .i64 k,.int .i64 n,.str s]].flatten) (.done [[e],[k64 0]]):=by
  intro e h1 h2;show IS _=_
  rw[hF,h1];simp only[if_true,ACO,ACS,h2];rfl
 unfold pw;refine AD (AN hc (d_k .i64 0)) (fun hv=>?_) (fun hv=>?_)
 ·have hv:Bt k n s.size=true:=by
   cases h:Bt k n s.size with
   |true=>rfl
   |false=>rw[h]at hv;simp at hv
  refine AD (AN (d_v q0) (d_k .i64 2)) (fun h2=>?_) (fun h2=>?_)
  ·simp only[ACN]at h2
   replace h2:k=2:=h2
   refine fin _ hv ?_
   have hn:n=0∨n=1:=by
    simp[Bt]at hv;omega
   rw[BV R hr0 (EP R (uq (d_v q1))),h2];rcases hn with rfl|rfl<;>rfl
  simp only[ACK]at h2
  replace h2:¬k=2:=h2
  refine AD (AN (d_v q0) (d_k .i64 3)) (fun h3=>?_) (fun h3=>?_)
  ·simp only[ACN]at h3
   replace h3:k=3:=h3
   refine fin _ hv ?_
   have hx:=sG (R:=R) (x:=.v 1) (d_v q1) n1 n2
   have sh:∀j:Nat,j≤64→den R (shB j)=.list (bytesI [(n+9223372036854775808) / 2^j%256]):=fun j hj=>EP R (PK R hx (by omega) j hj)
   rw[BV R hr0 (BV R (sh 56 (by omega)) (BV R (sh 48 (by omega)) (BV R (sh 40 (by omega)) (BV R (sh 32 (by omega)) (BV R (sh 24 (by omega)) (BV R (sh 16 (by omega)) (BV R (sh 8 (by omega)) (sh 0 (by omega)))))))))]
   rw[h3];simp[Hz,be8]
  simp only[ACK]at h3
  replace h3:¬k=3:=h3
  refine AD (AN (d_v q0) (d_k .i64 4)) (fun h4=>?_) (fun h4=>?_)
  ·simp only[ACN]at h4
   replace h4:k=4:=h4
   have hs:s.size≤64:=by
    simp[Bt,h4]at hv;omega
   have ht:den R tE=.list (bytesI ([k%256]++Dw (Bl s))):=by
    show den R (.app 101 _)=_
    rw[AO,hI];simp only[ACO,ACS,hr0,d_v q2,d_k];show T2 _=_
    simp only[T2,Aa,lD,sD,iD,AC4,ACr,BD];rfl
   have hl:=uG (Bl s)
   rw[Hm]at hl;refine DU ?_ (fin _ hv ?_)
   ·intro q hq;simp only[ACU,ACm,or_false]at hq;rcases hq with rfl|rfl|rfl
    ·rw[AB (d_k .i64 64) (Az (d_v q2))];simp;omega
    ·rw[AB (d_k .i64 64) (AY hr0)];simp
    ·exact Cr R ht (by simp;omega)
   ·rw[BV R ht (BV R (EP R (x:=.ki .u8 (.ofNat 0)) (z:=0) rfl) (EP R (x:=.ki .u8 (.ofNat 0)) (z:=0) rfl)),h4];simp[Hz]
  ·simp only[ACK]at h4
   replace h4:¬k=4:=h4
   refine fin _ hv ?_
   have h1:k=1:=by
    simp[Bt]at hv;omega
   rw[hr0,h1];rfl
 ·have hv:Bt k n s.size=false:=by
   cases h:Bt k n s.size with
   |false=>rfl
   |true=>rw[h]at hv;simp at hv
  show IS _=_
  rw[hF,hv];simp only[ACO,ACS,hc,hv];rfl
end Go.Proofs.YtobajijkmmhdjaaGreatDoor
namespace Go.Proofs.YtobajijkmmhdjaaGreatDoor.Se
open Go Go.AM
abbrev pT:List Ty:=[.str,.str,.bool]
abbrev st(a:Array UInt8):SX:=.ks (AS a)
abbrev big(x:SX):SX:=lss (k64 1000000) (.len x)
abbrev rkV:SX:=.app 2 [.v 1,.v 2,.v 3]
abbrev iC:SX:=.cat (st #[2]) (.v 0)
abbrev xY:SX:=.cat iC (st #[0])
abbrev rkT:SX:=.text (.at rkV (k64 0) 0)
def pRk:Pln:=.know (big (.v 0)) false (.ask (eql (.at rkV (k64 1) 0) (k64 0)) (.know (big iC) false (.know (big xY) false (.know (big rkT) false (.done [[.cat xY rkT]])))) (.done [[st #[]]]))
abbrev rW:List (SX×Bool):=[(lss (k64 1000) (.len (.v 0)),false)]
def rkI:Nat→List DV→DV
 |2,ds=>.list (IS ds)
 |_,_=>.bool false
abbrev eVe:Ent:=eFn 94 [.agg tV] [.one tB,.one tI] [] 2 []
def Frk(ds:List DV):List (List DV):=evP (AA rkI ds) pRk
theorem kRk:(hasB 53&&AJ [.one .str] (Bc rkI (AR [eVe]) [] [] 53 [.one .str,.agg tV]) [] pRk)=true:=by kernel_rfl
def enK:SX:=.at (.app 150 [.v 0,.v 1,.v 2,.v 3]) (k64 0) 0
def Vo:Pln:=.know (lss (k64 1000) (.len (.v 0))) false (.know (big (.v 0)) false (.know (big (.v 4)) false (.ask (eql (.v 1) (k64 1)) (.know (big iC) false (.done [[.cat iC (.v 4)]])) (.done [[enK]]))))
def enI:Nat→List DV→DV
 |150,ds=>.list (Frk ds)
 |_,_=>.bool false
abbrev eRk:Ent:=eFn 53 [.one .str,.agg tV] [.one .str] rW 150 []
def rX(ds:List DV):List (List DV):=evP (AA enI ds) Vo
abbrev lO:List (SX×Bool):=[(lss (k64 1000) (.len (.v 0)),false),(lss (k64 1000) (.len (.v 4)),false)]
theorem ABS:(hasB 54&&AJ [.one .str] (Bc enI (AR [eRk]) [] [] 54 [.one .str,.agg tV,.one .str]) [] Vo)=true:=by kernel_rfl
def rgI:Nat→List DV→DV
 |150,ds=>.list (Frk ds)
 |151,ds=>.list (rX ds)
 |30,ds=>.list (JW ds)
 |_,_=>.bool false
abbrev lP:Ent:=eFn 54 [.one .str,.agg tV,.one .str] [.one .str] lO 151 []
abbrev rY:Ent:=eFn 22 [.agg tQry] [.one tI] Iw 30 []
abbrev rgC:SX:=.at (.app 30 (AH 0 76)) (k64 0) 0
abbrev rgK:SX:=.at (.app 150 [.v 1,.v 2,.v 3,.v 4]) (k64 0) 0
abbrev rgF:SX:=.at (.app 151 [.v 1,.v 5,.v 6,.v 7,st #[0]]) (k64 0) 0
abbrev rgT:SX:=.at (.app 151 [.v 1,.v 8,.v 9,.v 10,st #[1]]) (k64 0) 0
def Zx:Pln:=.know (lss (k64 1000) (.len (.v 1))) false (.ask (eql rgC (k64 0))
 (.ask (eql (.v 0) (k64 1)) (.know (big rgK) false (.done [[rgK,.cat rgK (st #[0]),.kb false],[k64 0]]))
  (.ask (eql (.v 0) (k64 2)) (.know (lss (k64 1000) (.len (st #[0]))) false (.know (lss (k64 1000) (.len (st #[1]))) false (.done [[rgF,rgT,.kb false],[k64 0]]))) (.done [[st #[],st #[],.kb false],[k64 0]])))
 (.done [[st #[],st #[],.kb false],[rgC]]))
def lS(ds:List DV):List (List DV):=evP (AA rgI ds) Zx
set_option maxRecDepth 100000
theorem xZ:(hasB 28&&AJ [.agg pT,.one tI] (Bc rgI (AR [eRk,lP,rY]) [] [] 28 [.agg tQry]) [] Zx)=true:=by kernel_rfl
def ovX:Nat→Nat→List SX
 |_,0=>[]
 |i,n+1=>.v i::ovX (Nat.succ i) n
theorem P5{R:Rho}:∀n i:Nat,(ovX i n).map (den R)=rhoL R.ρ i n
 |0,_=>rfl
 |n+1,i=>by
  rw[ovX,ACO,P5 n];rfl
def tS(ds:List DV):List DV:=if bD ds 0 then rhoL (fun i=>ds.getD i (.bool false)) 33 32++rhoL (fun i=>ds.getD i (.bool false)) 1 32 else rhoL (fun i=>ds.getD i (.bool false)) 1 64
def P6(ds:List DV):List (List DV):=[n32 (CU (1::zsD (tS ds)))]
def eNd:Ent:=eFn 114 [.agg Ad,.agg Ad] [.agg Ad] [] 62 []
theorem ABG:Ap Tryz.prog G clI [eNd]:=⟨AP AI (pre_true lE) (fun _=>rfl) _ rfl,trivial⟩
def ovA:SX:=.app 62 (ovX 33 32++ovX 1 32)
def ovB:SX:=.app 62 (ovX 1 64)
def rJ:Pln:=.ask (.v 0) (.done [Aq ovA 0 32]) (.done [Aq ovB 0 32])
set_option maxRecDepth 100000
theorem zL:(hasB 176&&AJ [.agg Ad] (Bc clI (AR [eNd]) [] [] 176 [.one .bool,.agg Ad,.agg Ad]) [] rJ)=true:=by kernel_rfl
theorem xC:Am Tryz.prog G 176 [.one .bool,.agg Ad,.agg Ad] [.agg Ad] (fun _=>True) P6:=by
 have hk:=zL
 rw[ACH]at hk;refine Av (AG ABG) [] [] AL hk.1 rJ hk.2 ?_
 intro ds h _;simp only[An,Ba]at h;obtain⟨_,r,rfl,⟨d,rfl,h1⟩,_⟩:=h;obtain⟨b,rfl⟩:=h1.bool;have hfl:([DV.bool b]::r).flatten=.bool b::r.flatten:=by simp
 rw[hfl];have e0:den (AA clI (.bool b::r.flatten)) (.v 0)=.bool b:=rfl
 have hF:P6 (.bool b::r.flatten)=[n32 (CU (1::zsD (if b then rhoL (fun i=>(DV.bool b::r.flatten).getD i (.bool false)) 33 32++rhoL (fun i=>(DV.bool b::r.flatten).getD i (.bool false)) 1 32 else rhoL (fun i=>(DV.bool b::r.flatten).getD i (.bool false)) 1 64)))]:=rfl
 rw[hF];refine AD e0 (fun g=>?_) (fun g=>?_)
 ·have hA:den (AA clI (.bool b::r.flatten)) ovA=.list [CU (1::zsD (rhoL (fun i=>(DV.bool b::r.flatten).getD i (.bool false)) 33 32++rhoL (fun i=>(DV.bool b::r.flatten).getD i (.bool false)) 1 32))]:=by
   unfold ovA;rw[AO,ACd,P5,P5];rfl
  rw[if_pos g];show _=[(Aq ovA 0 32).map (den _)]
  rw[CI hA];rfl
 ·have hA:den (AA clI (.bool b::r.flatten)) ovB=.list [CU (1::zsD (rhoL (fun i=>(DV.bool b::r.flatten).getD i (.bool false)) 1 64))]:=by
   unfold ovB;rw[AO,P5];rfl
  rw[if_neg (by rw[g];simp)]
  show _=[(Aq ovB 0 32).map (den _)]
  rw[CI hA];rfl
def stV:Nat→Int→Int→List Bool
 |0,_,_=>[]
 |f+1,m,n=>if m<n then (if BK n<m then true::stV f (m-BK n) (n-BK n) else false::stV f m (BK n)) else []
theorem ND:∀(f g:Nat) (m n:Int),1≤m→n≤1024→n≤f→n≤g→stV f m n=stV g m n
 |0,0,_,_,_,_,_,_=>rfl
 |0,g+1,m,n,h1,_,h3,_=>by unfold stV;rw[if_neg (by omega)]
 |f+1,0,m,n,h1,_,_,h4=>by unfold stV;rw[if_neg (by omega)]
 |f+1,g+1,m,n,h1,h2,h3,h4=>by
  unfold stV;split
  ·obtain⟨s1,s2⟩:=RW (n:=n) (by omega) h2
   split
   ·rw[ND f g (m-BK n) (n-BK n) (by omega) (by omega) (by omega) (by omega)]
   ·rw[ND f g m (BK n) h1 (by omega) (by omega) (by omega)]
  ·rfl
def stR(l:List Bool):List (List DV):=l.map fun b=>[.bool b]
def NF(ds:List DV):Bool×List DV:=(true,[.list (lD ds 2++stR (stV (iD ds 1).toNat (iD ds 0) (iD ds 1)))])
def stI:Nat→List DV→DV
 |127,ds=>.list (ky ds)
 |128,ds=>.list (FL NF ds)
 |_,_=>.bool false
def o9:Ent:=eFn 68 [.one tI] [.one tI] Zk 127 []
theorem rK:Ap Tryz.prog G stI [o9]:=⟨AP AI (tR stI) (fun _=>rfl) _ rfl,trivial⟩
def TSt:Tmpl:={tm:=[(0,.sy tI (.v 0)),(1,.sy tI (.v 1)),(5,.own 7 [.bool] (.v 2))],ow:=[⟨7,4,[.bool],.v 2⟩],src:=[.tm 0 tI,.tm 1 tI,.own 0],osrc:=[.tm 5 4 [.bool]]}
def YSt:Tmpl:={tm:=[(5,.own 7 [.bool] (.v 0))],ow:=[⟨7,4,[.bool],.v 0⟩],src:=[.own 0],osrc:=[.tm 5 4 [.bool]]}
def SSt:StdL:={n:=29,T:=TSt,tys:=[tI,tI,.slice [.bool]],pre:=[(lss (.v 0) (k64 1),false),(lss (k64 1024) (.v 1),false),(lss (k64 0) (.len (.v 2)),false)],f:=128,yes:=(.exit 0,YSt,1)}
abbrev Zl:Code:=B0 173 0
abbrev stS:SX:=.at (.app 127 [.v 1]) (k64 0) 0
abbrev stC:SX:=.cat (.v 2) (.row [lss stS (.v 0)])
def pSt:RPln:=.ask (lss (.v 0) (.v 1))
 (.know (lss (.v 1) (k64 2)) false (.know (lss (k64 1024) (.v 1)) false (.know (lss (k64 1000000) (.len (.v 2))) false
  (.ask (lss stS (.v 0)) (.next [.bin .sub (.v 0) stS,.bin .sub (.v 1) stS,stC]) (.next [.v 0,stS,stC])))))
 (.exit true [.v 2])
theorem kSt:(SSt.ok&&(Au SSt pSt&&AW SSt.L (B1 stI (AR [o9]) [] [] Zl) [] pSt))=true:=by kernel_rfl
def gY(ds:List DV):Prop:=∃(m n:Int) (out:List (List DV)),ds=[.int .i64 m,.int .i64 n,.list out]∧1≤m∧n≤1024∧(out.length:Int)+n≤1024∧m≤9223372036854775807∧-9223372036854775808≤n
def gZ(ds:List DV):Nat:=(iD ds 1).toNat
theorem Vc{m n:Int}{out:List (List DV)}:NF [.int .i64 m,.int .i64 n,.list out]=(true,[.list (out++stR (stV n.toNat m n))]):=rfl
theorem xD:BJ Tryz.prog G stI Zl SSt.L:=by
 refine B5 (F:=NF) (Inv:=gY) (μ:=gZ) (AG rK) (sub:=[]) trivial (lps:=[]) AL (fun _=>rfl) pSt kSt ?_ ?_
 ·intro ds h hp;simp only[SSt,IsL]at h;obtain⟨d0,_,rfl,h0,d1,_,rfl,h1,d2,_,rfl,h2,rfl⟩:=h;obtain⟨m,rfl,m1,m2⟩:=h0.i64;obtain⟨n,rfl,n1,n2⟩:=h1.i64;obtain⟨out,rfl,_⟩:=h2.list;have p1:=hp (lss (.v 0) (k64 1),false) (by simp[SSt])
  have p2:=hp (lss (k64 1024) (.v 1),false) (by simp[SSt])
  have p3:=hp (lss (k64 0) (.len (.v 2)),false) (by simp[SSt])
  generalize hR:AA stI [DV.int .i64 m,.int .i64 n,.list out]=R at p1 p2 p3;have e0:den R (.v 0)=.int .i64 m:=by rw[←hR];rfl
  have e1:den R (.v 1)=.int .i64 n:=by rw[←hR];rfl
  have e2:den R (.v 2)=.list out:=by rw[←hR];rfl
  rw[AB e0 (d_k .i64 1)]at p1;rw[AB (d_k .i64 1024) e1]at p2;rw[AB (d_k .i64 0) (AF e2)]at p3;simp only[DV.bool.injEq,ACK,ACZ]at p1 p2 p3;exact⟨m,n,out,rfl,by omega,by omega,by omega,m2,n1⟩
 ·rintro ds ⟨m,n,out,rfl,hm,hn,ho,m2,n1⟩;have hI:(AA stI [DV.int .i64 m,.int .i64 n,.list out]).I=stI:=rfl
  generalize hR:AA stI [DV.int .i64 m,.int .i64 n,.list out]=R at hI;have e0:den R (.v 0)=.int .i64 m:=by rw[←hR];rfl
  have e1:den R (.v 1)=.int .i64 n:=by rw[←hR];rfl
  have e2:den R (.v 2)=.list out:=by rw[←hR];rfl
  show Af 0 NF _ _ R _ pSt
  refine Ae (AB e0 e1) (fun h=>?_) (fun h=>?_)
  ·simp only[ACN]at h;obtain⟨s1,s2⟩:=RW (n:=n) (by omega) hn
   have dS:den R stS=.int .i64 (BK n):=by
    have:den R (.app 127 [.v 1])=.list [[.int .i64 (BK n)]]:=by
     rw[AO,hI,ACO,ACS,e1];rfl
    exact (Ab 0 this (d_k .i64 0)).trans rfl
   have dL:=AB dS e0
   have dC:den R stC=.list (out++[[.bool (decide (BK n<m))]]):=by
    refine cn R e2 ?_
    show DV.list [[den R (lss stS (.v 0))]]=_
    rw[dL]
   have hstep:stV n.toNat m n=if BK n<m then true::stV (n-BK n).toNat (m-BK n) (n-BK n) else false::stV (BK n).toNat m (BK n):=by
    obtain⟨f,hf⟩:∃f,n.toNat=f+1:=⟨n.toNat-1,by omega⟩
    rw[hf]
    conv=>lhs;unfold stV
    rw[if_pos h,ND f (BK n).toNat m (BK n) hm (by omega) (by omega) (by omega)]
    split
    ·rw[ND f (n-BK n).toNat (m-BK n) (n-BK n) (by omega) (by omega) (by omega) (by omega)]
    ·rfl
   have next:∀(a b:SX) (u v:Int),den R a=.int .i64 u→den R b=.int .i64 v→1≤u→u≤m→v<n→0≤v→stV n.toNat m n=decide (BK n<m)::stV v.toNat u v→Af 0 NF gY gZ R [.int .i64 m,.int .i64 n,.list out] (.next [a,b,stC]):=by
    intro a b u v ha hb q1 q2 q3 q4 q5;have hτ:([a,b,stC]:List SX).map (den R)=[.int .i64 u,.int .i64 v,.list (out++[[.bool (decide (BK n<m))]])]:=by
     simp only[ACO,ACS,ha,hb,dC]
    show gY _∧gZ _<gZ _∧NF _=NF _
    rw[hτ];refine⟨⟨u,v,_,rfl,q1,by omega,?_,by omega,by omega⟩,?_,?_⟩
    ·rw[ACT];simp only[ACe,ADU];omega
    ·show v.toNat<n.toNat
     omega
    ·rw[Vc,Vc,q5,ACy];rfl
   refine A0 ((AB e1 (d_k .i64 2)).trans (congrArg DV.bool (ACR (by show ¬n<((2:Nat):Int);omega)))) (A0 ((AB (d_k .i64 1024) e1).trans (congrArg DV.bool (ACR (by show ¬((1024:Nat):Int)<n;omega)))) (A0 ((AB (d_k .i64 1000000) (AF e2)).trans (congrArg DV.bool (ACR (by show ¬((1000000:Nat):Int)<out.length;omega)))) (Ae dL (fun g=>?_) (fun g=>?_))))
   ·simp only[ACN]at g;exact next _ _ (m-BK n) (n-BK n) (Cv e0 dS (by omega) (by omega)) (Cv e1 dS (by omega) (by omega)) (by omega) (by omega) (by omega) (by omega) (by rw[hstep,if_pos g,ACb g])
   ·simp only[ACK]at g;exact next _ _ m (BK n) e0 dS hm (by omega) (by omega) (by omega) (by rw[hstep,if_neg g,ACR g])
  ·simp only[ACK]at h;show NF _=(true,[den R (.v 2)])
   rw[Vc,e2];have:stV n.toNat m n=[]:=by
    cases hf:n.toNat with
    |zero=>rfl
    |succ f=>unfold stV;rw[if_neg h]
   rw[this];simp[stR]
def Tm(ds:List DV):List (List DV):=[[.list (stR (stV (iD ds 1).toNat (iD ds 0) (iD ds 1)))]]
abbrev rL:List (SX×Bool):=[(lss (.v 0) (k64 1),false),(lss (k64 1024) (.v 1),false)]
abbrev gb:List (Nat×LoopSp):=[(3,SSt.L)]
def kz:Pln:=.know (lss (.v 0) (k64 1)) false (.know (lss (k64 1024) (.v 1)) false (.know (lss (k64 0) (.len .emp)) false (.done [[.at (.app 128 [.v 0,.v 1,.emp]) (k64 0) 1]])))
theorem xE:(hasB 173&&EY 4 [.bool] [] (Bc stI (AR [o9]) gb [] 173 [.one tI,.one tI]) [] kz)=true:=by kernel_rfl
theorem ABH:CN stI 173 gb:=by
 intro B hB M hM;have hc:A9 (B4 173)=[Zl]:=by kernel_rfl
 rw[hc]at hB;rw[ACs.1 hB];have h1:=DB hM
 rw[(AEH (ACs.1 h1)).2];exact xD
theorem tT(I:Nat→List DV→DV):FnOwn Tryz.prog G 173 [.one tI,.one tI] 4 [.bool] [] (fun ds=>∀p∈rL,den (AA I ds) p.1=.bool p.2) Tm:=by
 have hk:=xE
 rw[ACH]at hk;refine uC (AG rK) gb ABH 4 [.bool] hk.1 kz hk.2 ?_
 intro ds h hp;simp only[An,Ba]at h;obtain⟨_,_,rfl,⟨d0,rfl,h0⟩,_,_,rfl,⟨d1,rfl,h1⟩,rfl⟩:=h;obtain⟨m,rfl,_⟩:=h0.i64;obtain⟨n,rfl,_⟩:=h1.i64;have p1:=hp (lss (.v 0) (k64 1),false) (by simp)
 have p2:=hp (lss (k64 1024) (.v 1),false) (by simp)
 refine As p1 (As p2 (As ?_ ?_))
 ·show DV.bool (decide _)=_
  simp
 ·show Tm _=[[den (AA stI _) (.at (.app 128 [.v 0,.v 1,.emp]) (k64 0) 1)]]
  rw[Eh (I:=stI) (F:=NF) rfl (fun _=>rfl)]
  rfl
def lI(_:List DV):List (List DV):=[n32 (CU []),[.int .i64 0]]
def rS:Pln:=.done [Aq (.app 60 [.emp]) 0 32,[k64 0]]
theorem zP:Ap Tryz.prog G clI [eSm]:=⟨AP AI (pre_true rN) (fun _=>rfl) _ rfl,trivial⟩
theorem zQ:(hasB 39&&AJ [.agg Ad,.one tI] (Bc clI (AR [eSm]) [] [] 39 [.nil]) [] rS)=true:=by kernel_rfl
theorem ta:Am Tryz.prog G 39 [.nil] [.agg Ad,.one tI] (fun _=>True) lI:=by
 have hk:=zQ
 rw[ACH]at hk;refine Av (AG zP) [] [] AL hk.1 rS hk.2 ?_
 intro ds _ _;have he:den (AA clI ds.flatten) (.app 60 [.emp])=.list [CU []]:=by
  rw[AO];rfl
 show[n32 (CU []),[DV.int .i64 0]]=[(Aq (.app 60 [.emp]) 0 32).map (den _),[DV.int .i64 0]]
 rw[CI he];rfl
abbrev tBs:Ty:=.slice [.bool]
abbrev Ra:Code:=B0 192 0
def zR:Tmpl:={tm:=[(0,.sy tBs (.v 0)),(1,.sy .bool (.v 1)),(7,.sy tI (.len (.v 0))),(8,.sy tI (.v 2))],src:=[.tm 0 tBs,.tm 1 .bool,.tm 8 tI]}
def YIx:Tmpl:={tm:=[(4,.sy tI (.v 0))],src:=[.tm 4 tI]}
def K1:StdL:={n:=19,T:=zR,tys:=[tBs,.bool,tI],pre:=[(eql (.v 2) (k64 0),true),(lss (k64 1000000) (.len (.v 0)),false)],f:=140,two:=true,yes:=(.ret,YIx,1),no:=(.exit 0,{tm:=[]},0)}
def Ts:RPln:=.ask (lss (.v 2) (.len (.v 0))) (.know (lss (.v 2) (k64 0)) false (.ask (eql (.v 1) (.at (.v 0) (.v 2) 0)) (.exit true [.v 2]) (.next [.v 0,.v 1,.bin .add (.v 2) (k64 1)]))) (.exit false [])
def Tt(l:List (List DV)):Prop:=∀r∈l,∃b,r=[DV.bool b]
theorem Wh{l:List (List DV)}(h:Tt l){i:Nat}(hi:i<l.length):∃b,l.getD i []=[DV.bool b]:=by
 rw[Gt hi];exact h _ (AC7 hi)
def gj(ds:List DV):Prop:=∃(l:List (List DV)) (x:DV) (i:Int),ds=[.list l,x,.int .i64 i]∧0≤i∧i≤l.length∧l.length≤1000000
def pK(ds:List DV):Nat:=(lD ds 0).length-(iD ds 2).toNat
def gm:List DV→Bool×List DV:=E4 stI 0 Ts pK
theorem ixR(J:Nat→List DV→DV):∀ds,gj ds→CA gj pK (AA J ds) ds Ts:=by
 rintro ds ⟨l,x,i,rfl,h1,h2,h3⟩;generalize hR:AA J [DV.list l,x,.int .i64 i]=R;have e0:den R (.v 0)=.list l:=by rw[←hR];rfl
 have e1:den R (.v 1)=x:=by rw[←hR];rfl
 have e2:den R (.v 2)=.int .i64 i:=by rw[←hR];rfl
 refine D4 (AB e2 (AF e0)) (fun g=>?_) (fun g=>trivial)
 simp only[ACN]at g;obtain⟨b,hb⟩:=Bn R (.v 1) (.at (.v 0) (.v 2) 0);refine CO ((AB e2 (d_k .i64 0)).trans (congrArg DV.bool (ACR (by show ¬i<((0:Nat):Int);omega)))) (D4 hb (fun _=>trivial) (fun _=>?_))
 have hτ:([.v 0,.v 1,.bin .add (.v 2) (k64 1)]:List SX).map (den R)=[.list l,x,.int .i64 (i+1)]:=by
  simp only[ACO,ACS,e0,e1,B6 e2 (d_k .i64 1) (show -9223372036854775808≤i+1 by omega) (show i+1≤9223372036854775807 by omega)]
  rfl
 unfold CA;rw[hτ];exact⟨⟨l,x,i+1,rfl,by omega,by omega,h3⟩,by show l.length-(i+1).toNat<l.length-i.toNat;omega⟩
def ixI:Nat→List DV→DV
 |140,ds=>.list (FL gm ds)
 |_,_=>.bool false
theorem zT:(K1.ok&&(Au K1 Ts&&AW K1.L (B1 ixI (AR []) [] [] Ra) [] Ts))=true:=by kernel_rfl
theorem pL:BJ Tryz.prog G ixI Ra K1.L:=by
 refine B5 (F:=gm) (Inv:=gj) (μ:=pK) (AG Ha) (sub:=[]) trivial (lps:=[]) AL (fun _=>rfl) Ts zT ?_ (fun ds hi=>Fx (f:=[]) JX (by kernel_rfl) (ixR stI) hi)
 intro ds h hp;simp only[K1,IsL]at h;obtain⟨d0,_,rfl,h0,d1,_,rfl,h1,d2,_,rfl,h2,rfl⟩:=h;obtain⟨l,rfl,_⟩:=h0.list;obtain⟨i,rfl,_⟩:=h2.i64;have p1:=hp (eql (.v 2) (k64 0),true) (by simp[K1])
 have p2:=hp (lss (k64 1000000) (.len (.v 0)),false) (by simp[K1])
 generalize hR:AA ixI [DV.list l,d1,.int .i64 i]=R at p1 p2;have e0:den R (.v 0)=.list l:=by rw[←hR];rfl
 have e2:den R (.v 2)=.int .i64 i:=by rw[←hR];rfl
 rw[AN e2 (d_k .i64 0)]at p1;rw[AB (d_k .i64 1000000) (AF e0)]at p2;simp only[DV.bool.injEq,ACN,ACK,ACZ]at p1 p2;exact⟨l,d1,i,rfl,by omega,by omega,by omega⟩
abbrev rU:List (SX×Bool):=[(lss (k64 1000000) (.len (.v 0)),false)]
abbrev ctA:SX:=.app 140 [.v 0,.v 1,k64 0]
def pCt:Pln:=.know (lss (k64 1000000) (.len (.v 0))) false (.know (eql (k64 0) (k64 0)) true (.ask (.at ctA (k64 0) 0) (.done [[.not (lss (.at ctA (k64 0) 1) (k64 0))]]) (.done [[.kb false]])))
def xR:Ey:=[(192,[(3,K1.L)])]
theorem kCt:(hasB 174&&AJ [.one .bool] (PC ixI (AR []) xR [] [] 174 [.one tBs,.one .bool]) [] pCt)=true:=by kernel_rfl
theorem tb:Ez ixI xR:=⟨by
 have hc:A9 (B4 192)=[Ra]:=by kernel_rfl
 exact Fw hc pL,trivial⟩
def Fct(ds:List DV):List (List DV):=evP (AA ixI ds) pCt
theorem pM(ds:List DV):∃b,Fct ds=[[.bool b]]:=by
 unfold Fct pCt;simp only[evP];split
 ·obtain⟨b,hb⟩:=EJ (AA ixI ds) (.at ctA (k64 0) 1) (k64 0);refine⟨!b,?_⟩
  simp only[ACO,ACS];show[[Gn (den _ (lss (.at ctA (k64 0) 1) (k64 0)))]]=_
  rw[hb];rfl
 ·exact⟨false,rfl⟩
theorem ABK(I:Nat→List DV→DV):Am Tryz.prog G 174 [.one tBs,.one .bool] [.one .bool] (fun ds=>∀p∈rU,den (AA I ds) p.1=.bool p.2) Fct:=by
 have hk:=kCt
 rw[ACH]at hk;refine Jk (AG Ha) tb [] [] AL hk.1 pCt hk.2 ?_
 intro ds h hp;have hp0:=hp (lss (k64 1000000) (.len (.v 0)),false) (by simp)
 refine Bq (AU hp0 (AU rfl (Ai (b:=(gm (([.v 0,.v 1,k64 0]:List SX).map (den (AA ixI ds.flatten)))).1) ?_ (fun _=>trivial) (fun _=>trivial))))
 exact (Eh (I:=ixI) (F:=gm) (k:=0) rfl (fun _=>rfl)).trans rfl
def cellS(id:Nat)(ty:Ty):Nat→Nat→List Go.AM.Src
 |_,0=>[]
 |k,n+1=>.cell id k ty::cellS id ty (Nat.succ k) n
def Tu:Nat→List AV
 |0=>[]
 |n+1=>.dead::Tu n
def gn:Nat→List SX
 |0=>[]
 |n+1=>.ki .u8 (.ofNat 0)::gn n
abbrev eSt:Ent:=US 173 [.one tI,.one tI] 4 [.bool] [] rL 142 []
abbrev eOv:Ent:=eFn 176 [.one .bool,.agg Ad,.agg Ad] [.agg Ad] [] 143 []
abbrev lJ:Code:=B0 149 0
abbrev eCt:Ent:=eE 174 [.one tBs,.one .bool] [.one .bool] rU 140
abbrev eRv:Ent:=mJ 175 4 [.bool] [] [(lss (k64 1000000) (.len (.v 0)),false)] 141
def Frv(ds:List DV):List (List DV):=[[.list (lD ds 0).reverse]]
def gu:Nat→List DV→DV
 |140,ds=>.list (Fct ds)
 |141,ds=>.list (Frv ds)
 |142,ds=>.list (Tm ds)
 |143,ds=>.list (P6 ds)
 |62,ds=>.list (Tn ds)
 |_,_=>.bool false
def TRo:Tmpl:={tm:=[(3,.sy DI (.v 0)),(6,.ptr 0 0),(8,.ptr 1 0),(9,.ptr 2 0),(12,.ptr 3 0),(54,.own 7 [.bool] (.v 1)),(55,.sy tI (.v 67)),(56,.sy tI (.v 2))],ob:=[(0,Bz 29 (P0 tU8 3 32)),(1,Bz 29 (Tu 32)),(2,Bz 29 (Tu 32)),(3,Bz 29 (P0 tU8 35 32))],ow:=[⟨7,4,[.bool],.v 1⟩],src:=[.tm 3 DI,.own 0,.tm 56 tI]++(cellS 0 tU8 0 32++(cellS 3 tU8 0 32++[.tm 55 tI])),osrc:=[.tm 54 4 [.bool]]}
def YRo:Tmpl:={tm:=[(6,.ptr 0 0),(8,.ptr 1 0),(9,.ptr 2 0),(12,.ptr 3 0)],ob:=[(0,Bz 29 (P0 tU8 0 32)),(1,Bz 29 (Tu 32)),(2,Bz 29 (Tu 32)),(3,Bz 29 (P0 tU8 32 32))],src:=cellS 0 tU8 0 32++cellS 3 tU8 0 32}
def SRo:StdL:={n:=80,T:=TRo,tys:=[DI,.slice [.bool],tI]++List.replicate 64 tU8++[tI],pre:=[(eql (.v 67) (.len (.v 1)),true),(eql (.v 2) (k64 0),true),(eql (.len (.v 1)) (.len (.v 0)),true),(lss (k64 1000000) (.len (.v 1)),false)],f:=144,yes:=(.exit 0,YRo,64)}
def xT:List SX:=Aq (.app 62 (atK (.v 0) (.v 2) 0 32++AH 3 32)) 0 32
def gx:List SX:=Aq (.app 143 (.at (.v 1) (.v 2) 0::(AH 35 32++atK (.v 0) (.v 2) 0 32))) 0 32
def gy(c:List SX):RPln:=.next ([.v 0,.v 1,.bin .add (.v 2) (k64 1)]++(c++(gx++[.v 67])))
def pRo:RPln:=.ask (lss (.v 2) (.v 67)) (.know (lss (.v 2) (.len (.v 1))) true (.know (lss (.v 2) (k64 0)) false (.know (lss (.v 2) (.len (.v 0))) true (.ask (.at (.v 1) (.v 2) 0) (gy xT) (gy (AH 3 32)))))) (.exit true (AH 3 64))
set_option maxRecDepth 100000
abbrev roW:SX:=.at (.app 142 [.v 0,.v 1]) (k64 0) 0
abbrev roV:SX:=.fit roW (.at (.app 141 [roW]) (k64 0) 0)
abbrev roC:SX:=.at (.app 140 [roW,.kb true]) (k64 0) 0
def Vj:Pln:=.done [gn 32,gn 32,[.kb false]]
def pN(P:SX)(c:List SX):Pln:=.ask (eql (.len roW) (.len P)) (.know (lss (k64 1000000) (.len roW)) false (.know (eql (.len roW) (.len roV)) true (.know (eql (.len roV) (.len P)) true (.know (lss (k64 1000000) (.len roV)) false
 (.done [Aq (.app 144 ([P,roV,k64 0]++(c++(c++[.len roW])))) 1 32,Aq (.app 144 ([P,roV,k64 0]++(c++(c++[.len roW])))) 33 32,[.kb true]]))))) Vj
def ABL:Pln:=.know (lss (k64 1000000) (.len roW)) false (.ask roC
 (.ask (eql (.len (.v 34)) (k64 0)) Vj (.know (lss (k64 0) (.len (.v 34))) true (.know (lss (.len (.v 34)) (k64 1)) false (pN (.cut (.v 34) (k64 1) (.len (.v 34))) (atK (.v 34) (k64 0) 0 32)))))
 (pN (.v 34) (AH 2 32)))
def Tv:Pln:=.ask (lss (.v 1) (k64 1)) Vj (.ask (lss (k64 1024) (.v 1)) Vj (.ask (lss (.v 0) (k64 1)) Vj (.ask (lss (.v 1) (.v 0)) Vj ABL)))
def bOf:List DV→Bool
 | [.bool b]=>b
 |_=>false
theorem ag{E:Nat→Option Obj}{w:World}{l:List (List DV)}{b cap:Nat}{v:Value}(h:OwnAt E w 4 [.bool] l b cap v):Tt l:=by
 obtain⟨a,rfl,h1,h2,h3,h4⟩:=h;intro r hr;have hpos:cap≠0:=by
  have:0<l.length:=List.length_pos_of_mem hr
  omega
 obtain⟨_,_,k2,_,c,_,_,k6⟩:=h4 hpos;obtain⟨i,hi⟩:=ACf.1 hr;have hlt:=(ACW.1 hi).1
 obtain⟨u,_,u2⟩:=k6 i (by simpa using hlt)
 have e1:i% [Ty.bool].length=0:=AET i
 have e2:i / [Ty.bool].length=i:=AEm i
 rw[e1,e2]at u2;have hat:atD (.list l) (.int .i64 (i:Nat)) 0=r.getD 0 (.bool false):=by
  simp only[atD,AC5,ACI,hi,ACo]
 rw[hat]at u2;simp only[AC4,Rep]at u2;obtain⟨z,hz,_⟩:=u2;obtain⟨x,rfl⟩:=ADi.1 (by simpa using k2 r hr:r.length=1)
 exact⟨z,by simpa using hz⟩
theorem Wi{l:List (List DV)}(hl:Tt l){j:Nat}(hj:j<l.length):l.getD j []=[DV.bool ((l.map bOf)[j]!)]:=by
 obtain⟨z,hz⟩:=Wh hl hj;rw[hz];have h1:l[j]=[DV.bool z]:=by rw[←hz,Gt hj]
 have:(l.map bOf)[j]! =z:=by
  rw[List.getElem!_eq_getElem?_getD,ACw,ACL hj,h1];rfl
 rw[this]
theorem ABM(I:Nat→List DV→DV):dw Tryz.prog G 175 4 [.bool] [] (fun ds=>∀p∈[(lss (k64 1000000) (.len (.v 0)),false)],den (AA I ds) p.1=.bool p.2) Frv:=by
 refine⟨Dj (by kernel_rfl),fun E l b cap v ds vs w hE hown hargs hv hpre _=>?_⟩
 have hb:=ag hown
 have hown0:=hown
 obtain⟨rfl,hvs⟩:=hargs;have hvs1:vs=#[v]:=by
  apply AD0.1
  have h0:vs.toList[0]? =some v:=by simpa using hv
  cases h:vs.toList with
  |nil=>rw[h]at h0;cases h0
  |cons x r=>
   rw[h]at h0 hvs;simp only[ACl,ACJ]at h0;simp only[ADr,AC1]at hvs;rw[h0,hvs]
 subst hvs1;obtain⟨a,rfl,h1,h2,h3,h4⟩:=hown;have hF:Frv (.list l::([]:List (List DV)).flatten)=[[.list l.reverse]]:=rfl
 by_cases h0:l.length=0
 ·have hnil:=ACi.1 h0
  subst hnil;refine (Tryz.slices_Reverse_empty a cap w).mono ?_
  rintro e w' ⟨rfl,rfl⟩;exact⟨_,[],rfl,hF,rfl,⟨fun _ _ _=>rfl,rfl⟩,hown0⟩
 ·have hcap:cap≠0:=by omega
  obtain⟨rfl,k1,k2,k3,c,k4,k5,k6⟩:=h4 hcap;have hlen:(l.map bOf).length=l.length:=ACX ..
  have hcell:∀j,j<l.length→c[j]? =some (Value.bool ((l.map bOf)[j]!)):=by
   intro j hj;obtain⟨u,u1,u2⟩:=k6 j (by simpa using hj)
   have e1:j% [Ty.bool].length=0:=AET j
   have e2:j / [Ty.bool].length=j:=AEm j
   rw[e1,e2]at u2;have hat:atD (.list l) (.int .i64 (j:Nat)) 0=.bool ((l.map bOf)[j]!):=by
    show (l.getD (j:Int).toNat []).getD 0 (.bool false)=_
    rw[AC5,Wi hb hj];rfl
   rw[hat]at u2;simp only[AC4,Rep]at u2;obtain⟨z,hz,rfl⟩:=u2;cases hz;exact u1
  have hH:Sort.Holds Value.bool w b 0 (l.map bOf).toArray:=by
   intro j hj;have hj':j<l.length:=by simpa using hj
   refine⟨?_,?_⟩
   ·rw[ACk];unfold World.cell?;simp only[k4];rw[hcell j hj'];simp
   ·rw[ACk];unfold World.frozen?;simp only[k4];simp
  have hrun:=Tryz.slices_Reverse Value.bool (fun _=>rfl) b 0 cap (l.map bOf) w hH (by rw[hlen];unfold maxLen at h2;omega)
  rw[hlen]at hrun;refine hrun.mono ?_
  rintro e w' ⟨rfl,n,rfl⟩;have hheap:∀k,(Sort.putRow Value.bool (Sort.ahead w n) b 0 (l.map bOf).reverse.toArray).heap[k]? =if b=k then (w.heap[k]?).map (Sort.onCells (Sort.putCells Value.bool 0 (l.map bOf).reverse.toArray)) else w.heap[k]? :=by
   intro k;unfold Sort.putRow Sort.mapBlock;simp only[Array.getElem?_modify,Sort.heap_ahead]
  refine⟨_,l.reverse,rfl,hF,ADq,⟨fun k _ hk=>?_,rfl⟩,some ⟨b,0,none⟩,by rw[ADq],by rw[ADq];exact h1,h2,(fun e=>by cases e),fun _=>⟨rfl,k1,fun row hr=>k2 row (List.mem_reverse.1 hr),k3,Sort.putCells Value.bool 0 (l.map bOf).reverse.toArray c,?_,?_,fun k hk=>?_⟩⟩
  ·rw[hheap,if_neg (Ne.symm (hk hcap))]
  ·rw[hheap,if_pos rfl,k4];rfl
  ·simp only[Sort.putCells,Array.size_mapIdx];exact k5
  ·have hk':k<l.length:=by simpa using hk
   have hkr:k<l.reverse.length:=by simpa using hk
   have e1:k% [Ty.bool].length=0:=AET k
   have e2:k / [Ty.bool].length=k:=AEm k
   refine⟨Value.bool ((l.reverse.map bOf)[k]!),?_,?_⟩
   ·simp only[Sort.putCells,Array.getElem?_mapIdx,hcell k hk',ADF];rw[if_pos ⟨ADO _,by simp;omega⟩]
    simp[List.map_reverse]
   ·rw[e1,e2];have hbr:Tt l.reverse:=fun r hr=>hb r (List.mem_reverse.1 hr)
    have hat:atD (.list l.reverse) (.int .i64 (k:Nat)) 0=.bool ((l.reverse.map bOf)[k]!):=by
     show (l.reverse.getD (k:Int).toNat []).getD 0 (.bool false)=_
     rw[AC5,Wi hbr hkr];rfl
    rw[hat];simp only[AC4,Rep];exact⟨_,rfl,rfl⟩
theorem Rb{e:SX}:∀{m k:Nat},(Aq e k m).length=m
 |0,_=>rfl
 |m+1,k=>by rw[Aq,ACe,Rb]
theorem DA:∀{m k:Nat},(AH k m).length=m
 |0,_=>rfl
 |m+1,k=>by rw[AH,ACe,DA]
theorem GF:∀{ts:List Ty} {ds:List DV},IsL ts ds→ds.length=ts.length
 | [],ds,h=>by rw[show ds=[] from h];rfl
 |t::ts,ds,h=>by
  obtain⟨d,ds',rfl,_,h2⟩:=h;rw[ACe,ACe,GF h2]
theorem BL:∀{ts:List Ty} {ds:List DV} {k:Nat} {t:Ty},IsL ts ds→ts[k]? =some t→∃d,ds[k]? =some d∧Is t d
 | [],_,k,_,_,h=>by simp at h
 |t::ts,ds,k,t',hd,h=>by
  obtain⟨d,ds',rfl,h1,h2⟩:=hd;cases k with
  |zero=>
   simp only[ACl,ACJ]at h;subst h;exact⟨d,rfl,h1⟩
  |succ k=>
   obtain⟨x,q1,q2⟩:=BL (k:=k) h2 (by simpa using h)
   exact⟨x,by simpa using q1,q2⟩
def XQ(ds:List DV):Prop:=∃(p l:List (List DV)) (i:Int) (c:List DV),ds=.list p::.list l::.int .i64 i::(c++[.int .i64 l.length])∧c.length=64∧0≤i∧i≤l.length∧l.length=p.length∧l.length≤1000000∧Tt l
def gz(ds:List DV):Nat:=(lD ds 1).length-(iD ds 2).toNat
def xU:List DV→Bool×List DV:=E4 gu 0 pRo gz
theorem roR:∀ds,XQ ds→CA XQ gz (AA gu ds) ds pRo:=by
 rintro ds ⟨p,l,i,c,rfl,hc,h1,h2,h3,h4,h5⟩;have e67:(DV.list p::.list l::.int .i64 i::(c++[.int .i64 l.length])).getD 67 (.bool false)=.int .i64 l.length:=by
  rw[ACr,ACr,ACr,ACI,ACV (by omega),hc]
  rfl
 generalize hR:AA gu (DV.list p::.list l::.int .i64 i::(c++[.int .i64 l.length]))=R;have e0:den R (.v 0)=.list p:=by rw[←hR];rfl
 have e1:den R (.v 1)=.list l:=by rw[←hR];rfl
 have e2:den R (.v 2)=.int .i64 i:=by rw[←hR];rfl
 have e3:den R (.v 67)=.int .i64 l.length:=by rw[←hR];exact e67
 refine D4 (AB e2 e3) (fun g=>?_) (fun g=>trivial)
 simp only[ACN]at g;obtain⟨b,hb⟩:=Wh h5 (i:=i.toNat) (by omega)
 have nx:∀q:List SX,q.length=32→CA XQ gz R (DV.list p::.list l::.int .i64 i::(c++[.int .i64 l.length])) (gy q):=by
  intro q hq;have hτ:(([.v 0,.v 1,.bin .add (.v 2) (k64 1)]:List SX)++(q++(gx++([.v 67]:List SX)))).map (den R)=.list p::.list l::.int .i64 (i+1)::((q++gx).map (den R)++[.int .i64 l.length]):=by
   simp only[ACd,ACO,ACS,ADY,ADD,e0,e1,e3,B6 e2 (d_k .i64 1) (show -9223372036854775808≤i+1 by omega) (show i+1≤9223372036854775807 by omega),ACy]
   rfl
  unfold gy CA;rw[hτ];exact⟨⟨p,l,i+1,_,rfl,by rw[ACX,ACT,hq,gx,Rb],by omega,by omega,h3,h4,h5⟩,by show l.length-(i+1).toNat<l.length-i.toNat;omega⟩
 refine CO ((AB e2 (AF e1)).trans (congrArg DV.bool (ACb g))) (CO ((AB e2 (d_k .i64 0)).trans (congrArg DV.bool (ACR (by show ¬i<((0:Nat):Int);omega))))
  (CO ((AB e2 (AF e0)).trans (congrArg DV.bool (ACb (by omega)))) (D4 (b:=b) ((Ab 0 e1 e2).trans (by rw[hb];rfl)) (fun _=>nx _ (by rw[xT,Rb])) (fun _=>nx _ DA))))
def roI:Nat→List DV→DV
 |144,ds=>.list (FL xU ds)
 |n,ds=>gu n ds
theorem ABN{I:Nat→List DV→DV}(h0:I 140=fun ds=>.list (Fct ds))(h1:I 141=fun ds=>.list (Frv ds))(h2:I 142=fun ds=>.list (Tm ds))(h3:I 143=fun ds=>.list (P6 ds))(h4:I 62=fun ds=>.list (Tn ds)):Ap Tryz.prog G I [eSt,eOv,eNd,eCt,eRv]:=
 ⟨PL AI (tT I) (fun ds=>congrFun h2 ds) _ rfl,AP AI (pre_true xC) (fun ds=>congrFun h3 ds) _ rfl,AP AI (pre_true lE) (fun ds=>congrFun h4 ds) _ rfl,aq AI (ABK I) (fun ds=>congrFun h0 ds) rfl,rq AI (ABM I) (fun ds=>congrFun h1 ds) rfl,trivial⟩
theorem rV:Ap Tryz.prog G roI [eSt,eOv,eNd,eCt,eRv]:=ABN rfl rfl rfl rfl rfl
set_option maxRecDepth 100000
theorem ABO:(SRo.ok&&(Au SRo pRo&&AW SRo.L (B1 roI (AR [eSt,eOv,eNd,eCt,eRv]) [] [] lJ) [] pRo))=true:=by kernel_rfl
theorem tc:(hasB 149&&AJ [.agg Ad,.agg Ad,.one .bool] (Bc roI (AR [eSt,eOv,eNd,eCt,eRv]) [(12,SRo.L)] [] 149 [.one tI,.one tI,.agg Ad,.one DI]) [] Tv)=true:=by kernel_rfl
theorem xV:BJ Tryz.prog G roI lJ SRo.L:=by
 refine B5 (F:=xU) (Inv:=XQ) (μ:=gz) (AG rV) (sub:=[]) trivial (lps:=[]) AL (fun _=>rfl) pRo ABO ?_ (fun ds hi=>Fx (f:=[62,143]) (Jl rfl (Jl rfl JX)) (by kernel_rfl) roR hi)
 intro ds h hp;have hlen:=GF h
 simp only[SRo,IsL,ADY,ADD]at h;obtain⟨d0,_,rfl,h0,d1,_,rfl,h1,d2,c,rfl,h2,hc⟩:=h;obtain⟨p,rfl,_⟩:=h0.list;obtain⟨l,rfl,hl2,hl3⟩:=h1.list;obtain⟨i,rfl,_⟩:=h2.i64;have hc65:c.length=65:=by simpa[SRo]using hlen
 obtain⟨d64,g64,i64⟩:=BL (k:=64) (t:=tI) hc rfl;obtain⟨z,rfl,_⟩:=i64.i64;have hsplit:c=c.take 64++[.int .i64 z]:=by
  conv=>lhs;rw[←AEC 64 c]
  congr 1
  have h64:64<c.length:=by omega
  rw[ACj h64,AC2 (by omega)]
  rw[ACL h64,ACJ]at g64;rw[g64]
 have p0:=hp (eql (.v 67) (.len (.v 1)),true) (by simp[SRo])
 have p1:=hp (eql (.v 2) (k64 0),true) (by simp[SRo])
 have p2:=hp (eql (.len (.v 1)) (.len (.v 0)),true) (by simp[SRo])
 have p3:=hp (lss (k64 1000000) (.len (.v 1)),false) (by simp[SRo])
 have e67:(DV.list p::.list l::.int .i64 i::c).getD 67 (.bool false)=.int .i64 z:=by
  rw[ACr,ACr,ACr,ACI,g64];rfl
 generalize hR:AA roI (DV.list p::.list l::.int .i64 i::c)=R at p0 p1 p2 p3;have e0:den R (.v 0)=.list p:=by rw[←hR];rfl
 have e1:den R (.v 1)=.list l:=by rw[←hR];rfl
 have e2:den R (.v 2)=.int .i64 i:=by rw[←hR];rfl
 have e3:den R (.v 67)=.int .i64 z:=by rw[←hR];exact e67
 rw[AN e3 (AF e1)]at p0;rw[AN e2 (d_k .i64 0)]at p1;rw[AN (AF e1) (AF e0)]at p2;rw[AB (d_k .i64 1000000) (AF e1)]at p3;simp only[DV.bool.injEq,ACN,ACK,ACZ]at p0 p1 p2 p3;refine⟨p,l,i,c.take 64,by rw[←p0,←hsplit],by rw[ACh];omega,by omega,by omega,by omega,by omega,fun r hr=>?_⟩
 obtain⟨q1,q2⟩:=hl3 r hr;obtain⟨x,rfl⟩:=ADi.1 (by simpa using q1:r.length=1)
 obtain⟨b,rfl⟩:=(q2 0 _ x rfl rfl).bool;exact⟨b,rfl⟩
def Zs(ds:List DV):List (List DV):=evP (AA roI ds) Tv
theorem Vl:∀(f:Nat) (m n:Int),(stV f m n).length≤f
 |0,_,_=>ACv _
 |f+1,m,n=>by
  unfold stV;split
  ·split
   ·have:=Vl f (m-BK n) (n-BK n)
    simp only[ACe];omega
   ·have:=Vl f m (BK n)
    simp only[ACe];omega
  ·simp
theorem zU{R:Rho}{e x:SX}{l k:List (List DV)}(he:den R e=.list l)(hx:den R x=.list k)(hk:k.length=l.length):den R (.fit e x)=.list k:=by
 simp only[den,he,hx,fM,if_pos hk]
theorem td(I:Nat→List DV→DV):Am Tryz.prog G 149 [.one tI,.one tI,.agg Ad,.one DI] [.agg Ad,.agg Ad,.one .bool] (fun ds=>∀p∈([]:List (SX×Bool)),den (AA I ds) p.1=.bool p.2) Zs:=by
 have hk:=tc
 rw[ACH]at hk;refine Av (AG rV) [(12,SRo.L)] [] (Fw (by kernel_rfl) xV) hk.1 Tv hk.2 ?_
 intro ds h _;refine Bq ?_
 simp only[An,Ba]at h;obtain⟨_,_,rfl,⟨d0,rfl,h0⟩,_,_,rfl,⟨d1,rfl,h1⟩,c,_,rfl,hc,_,_,rfl,⟨d3,rfl,h3⟩,rfl⟩:=h;obtain⟨m,rfl,m1,m2⟩:=h0.i64;obtain⟨n,rfl,n1,n2⟩:=h1.i64;obtain⟨p,rfl,pl,_⟩:=h3.list;have hcl:=GF hc
 have hcl:c.length=32:=by simpa using hcl
 have e34':([[DV.int .i64 m],[.int .i64 n],c,[.list p]]:List (List DV)).flatten.getD 34 (.bool false)=.list p:=by
  show (DV.int .i64 m::.int .i64 n::(c++[DV.list p])).getD 34 _=_
  rw[ACr,ACr,ACI,ACV (by omega),hcl]
  rfl
 have hI:(AA roI [[DV.int .i64 m],[.int .i64 n],c,[.list p]].flatten).I=roI:=rfl
 generalize hR:AA roI [[DV.int .i64 m],[.int .i64 n],c,[.list p]].flatten=R at hI;have e0:den R (.v 0)=.int .i64 m:=by rw[←hR];rfl
 have e1:den R (.v 1)=.int .i64 n:=by rw[←hR];rfl
 have e34:den R (.v 34)=.list p:=by rw[←hR];exact e34'
 refine Ai (AB e1 (d_k .i64 1)) (fun _=>trivial) (fun g1=>Ai (AB (d_k .i64 1024) e1) (fun _=>trivial) (fun g2=>Ai (AB e0 (d_k .i64 1)) (fun _=>trivial) (fun g3=>Ai (AB e1 e0) (fun _=>trivial) (fun g4=>?_))))
 simp only[ACK,ACZ]at g1 g2 g3 g4;have dW:den R roW=.list (stR (stV n.toNat m n)):=by
  have:den R (.app 142 [.v 0,.v 1])=.list [[.list (stR (stV n.toNat m n))]]:=by
   rw[AO,hI,ACO,ACO,ACS,e0,e1];rfl
  exact (Ab 0 this (d_k .i64 0)).trans rfl
 have hlen:(stR (stV n.toNat m n)).length≤1024:=by
  have:=Vl n.toNat m n
  unfold stR;rw[ACX];omega
 generalize stR (stV n.toNat m n)=W at dW hlen;have dV:den R roV=.list W.reverse:=by
  have:den R (.app 141 [roW])=.list [[.list W.reverse]]:=by
   rw[AO,hI,ACO,ACS,dW];rfl
  exact zU dW ((Ab 0 this (d_k .i64 0)).trans rfl) ADq
 have few:den R (lss (k64 1000000) (.len roW))=.bool false:=(AB (d_k .i64 1000000) (AF dW)).trans (congrArg DV.bool (ACR (by show ¬((1000000:Nat):Int)<W.length;omega)))
 have go:∀(P:SX) (q:List SX) (k:List (List DV)),den R P=.list k→C2 R (pN P q):=by
  intro P q k hP;refine Ai (AN (AF dW) (AF hP)) (fun g=>?_) (fun _=>trivial)
  simp only[ACN]at g;refine AU few (AU ((AN (AF dW) (AF dV)).trans (congrArg DV.bool (ACb (by rw[ADq])))) (AU ((AN (AF dV) (AF hP)).trans (congrArg DV.bool (ACb (by rw[ADq];exact g)))) (AU ?_ trivial)))
  exact (AB (d_k .i64 1000000) (AF dV)).trans (congrArg DV.bool (ACR (by rw[ADq];show ¬((1000000:Nat):Int)<W.length;omega)))
 obtain⟨bc,hbc⟩:=pM [DV.list W,.bool true];have dC:den R roC=.bool bc:=by
  have:den R (.app 140 [roW,.kb true])=.list [[.bool bc]]:=by
   rw[AO,hI,ACO,ACO,ACS,dW];show DV.list (Fct [DV.list W,.bool true])=_
   rw[hbc]
  exact (Ab 0 this (d_k .i64 0)).trans rfl
 refine AU few (Ai dC (fun _=>Ai (AN (AF e34) (d_k .i64 0)) (fun _=>trivial) (fun g=>?_)) (fun _=>go _ _ _ e34))
 simp only[ACK,ACZ]at g;have hp:0<p.length:=by omega
 have dcut:den R (.cut (.v 34) (k64 1) (.len (.v 34)))=.list ((p.take p.length).drop 1):=by
  simp only[den]at e34⊢;rw[e34];simp[FQ,Bm]
 exact AU ((AB (d_k .i64 0) (AF e34)).trans (congrArg DV.bool (ACb (by show ((0:Nat):Int)<p.length;omega)))) (AU ((AB (AF e34) (d_k .i64 1)).trans (congrArg DV.bool (ACR (by show ¬(p.length:Int)<((1:Nat):Int);omega)))) (go _ _ _ dcut))
end Go.Proofs.YtobajijkmmhdjaaGreatDoor.Se
namespace Go.Proofs.YtobajijkmmhdjaaGreatDoor
open Go Go.AM
theorem oh(l:List Int):(Dw l).length≤2*l.length:=by
 induction l with
 |nil=>simp[Dw]
 |cons z l ih=>
  have:(Dw (z::l)).length=(if z=0 then [0,255] else [z]).length+(Dw l).length:=by simp[Dw]
  rw[this,ACe];split<;>simp<;>omega
theorem om{k n:Int}{s:ByteArray}(h:Bt k n s.size=true):(Hz k n s).length≤131:=by
 unfold Hz;split
 ·simp
 split
 ·simp
 split
 ·simp[be8]
 ·have h2:s.size≤64:=by
   simp[Bt]at h;omega
  have:=oh (Bl s)
  rw[Hm]at this;simp;omega
section
variable {R:Rho}
theorem wk(y c:Nat)(hc:c<256)(hy:y<72057594037927936):F7 .or .u64 ((y*256:Nat):Int) (c:Int)=((y*256+c:Nat):Int):=by
 show IntKind.u64.wrap ((BitVec.ofInt 64 ((y*256:Nat):Int)|||BitVec.ofInt 64 (c:Int)).toNat:Int)=_
 rw[wrap_u64];have e1:(BitVec.ofInt 64 ((y*256:Nat):Int)).toNat=y*256:=by
  rw[BitVec.ofInt_natCast,BitVec.toNat_ofNat];omega
 have e2:(BitVec.ofInt 64 (c:Int)).toNat=c:=by
  rw[BitVec.ofInt_natCast,BitVec.toNat_ofNat];omega
 rw[BitVec.toNat_or,e1,e2];have e3:y*256|||c=y*256+c:=by
  have:=Nat.two_pow_add_eq_or_of_lt (i:=8) (b:=c) (by omega) y
  rw[ADT y 256];exact this.symm
 rw[e3];omega
theorem rI{x:SX}{z:Int}(hx:den R x=.int .u8 z)(h:0≤z∧z≤255):den R (.conv .u64 x)=.int .u64 z:=by
 simp only[den,hx,C7,wrap_u64];congr 1
 omega
theorem wm{x:SX}{z:Int}{k:IntKind}(hx:den R x=.int k z)(h:0≤z∧z≤18446744073709551615∧z≤9223372036854775807):den R (.conv .i64 x)=.int .i64 z:=by
 simp only[den,hx,C7];rw[wrap_i64 (by omega) (by omega)]
theorem wo{x:SX}{z:Int}{k:IntKind}(hx:den R x=.int k z)(h:0≤z∧z≤255):den R (.conv .u8 x)=.int .u8 z:=by
 simp only[den,hx,C7,wrap_u8];congr 1
 omega
theorem gN{x:SX}{z:Int}{k:IntKind}(hx:den R x=.int k z)(h:0≤z∧z≤65535):den R (.conv .u16 x)=.int .u16 z:=by
 simp only[den,hx,C7,wrap_u16];congr 1
 omega
theorem Kw{x y:SX}{s z:Int}(hx:den R x=.int .u64 s)(hy:den R y=.int .u8 z)(h0:0≤s)(h1:s≤72057594037927935)(hz:0≤z∧z≤255):
  den R (.bin .or (.bin .shl x (.ki .u64 (.ofNat 8))) (.conv .u64 y))=.int .u64 (s*256+z):=by
 have hs:den R (.bin .shl x (.ki .u64 (.ofNat 8)))=.int .u64 (s*256):=by
  simp only[den,hx,AZ,wrap_u64];congr 1
  show s*2^min 8 64%_=_
  have:(2:Int)^min 8 64=256:=by decide
  rw[this];omega
 have hc:=rI hy hz
 have e1:s=(s.toNat:Int):=by omega
 have e2:z=(z.toNat:Int):=by omega
 simp only[den]at hs hc⊢;rw[hs,hc];simp only[AZ];have:=wk s.toNat z.toNat (by omega) (by omega)
 rw[Int.natCast_add,Int.natCast_mul,←e1,←e2]at this;congr 1
theorem XL{y:SX}{z:Int}(hy:den R y=.int .u8 z)(hz:0≤z∧z≤255):den R (.bin .or (.ki .u64 (.ofNat 0)) (.conv .u64 y))=.int .u64 z:=by
 have hc:=rI hy hz
 have e2:z=(z.toNat:Int):=by omega
 simp only[den]at hc⊢;rw[hc];simp only[AZ];have:=wk 0 z.toNat (by omega) (by omega)
 simp only[AD3,ACk]at this;rw[←e2]at this;congr 1
theorem zE(n:Nat)(h:n<2^64):F7 .xor .u64 (n:Int) ((2^63:Nat):Int)=if n<2^63 then ((2^63+n:Nat):Int) else ((n-2^63:Nat):Int):=by
 show IntKind.u64.wrap ((BitVec.ofInt 64 (n:Int)^^^BitVec.ofInt 64 ((2^63:Nat):Int)).toNat:Int)=_
 rw[wrap_u64];have e1:(BitVec.ofInt 64 (n:Int)).toNat=n:=by
  rw[BitVec.ofInt_natCast,BitVec.toNat_ofNat];omega
 have e2:(BitVec.ofInt 64 ((2^63:Nat):Int)).toNat=2^63:=by
  rw[BitVec.ofInt_natCast,BitVec.toNat_ofNat]
 rw[BitVec.toNat_xor,e1,e2];split
 ·rename_i h1;rw[eY h1];omega
 ·rename_i h1;have:=jY (b:=n-2^63) (by omega)
  rw[show 2^63+(n-2^63)=n by omega]at this
  rw[this];omega
theorem oo{x:SX}{s:Int}(hx:den R x=.int .u64 s)(h0:0≤s)(h1:s≤18446744073709551615):
  den R (.conv .i64 (.bin .xor x (.ki .u64 (.ofNat 9223372036854775808))))=.int .i64 (s-9223372036854775808):=by
 have e1:s=(s.toNat:Int):=by omega
 simp only[den,hx,AZ];have:=zE s.toNat (by omega)
 rw[←e1]at this;have e3:F7 .xor .u64 s (Int.ofNat 9223372036854775808)=if s.toNat<2^63 then ((2^63+s.toNat:Nat):Int) else ((s.toNat-2^63:Nat):Int):=this
 rw[e3];simp only[C7,V4];congr 1
 split<;>split<;>omega
end
end Go.Proofs.YtobajijkmmhdjaaGreatDoor
namespace Go.Proofs.YtobajijkmmhdjaaGreatDoor.Se
open Go Go.AM
theorem O7{R:Rho}{x y:SX}{a b:ByteArray}(hx:den R x=.str a)(hy:den R y=.str b):den R (.cat x y)=.str (a++b):=by
 simp only[den,hx,hy,Du]
theorem K2{R:Rho}{x:SX}{a:ByteArray}(hx:den R x=.str a)(h:a.size≤1000000):den R (big x)=.bool false:=
 (AB (d_k .i64 1000000) (Az hx)).trans (congrArg DV.bool (ACR (by show ¬((1000000:Nat):Int)<a.size;omega)))
theorem pV{R:Rho}{a:Array UInt8}:den R (st a)=.str (AS a):=rfl
theorem tg(k n:Int)(s:ByteArray):∃b e,IS [.int .i64 k,.int .i64 n,.str s]=[[.list (bytesI b)],[.int .i64 e]]∧b.length≤131:=by
 unfold IS;split
 ·rename_i h;exact⟨_,_,rfl,om h⟩
 ·exact⟨[],150,rfl,by simp⟩
theorem Zy(l:List Int):(Ci l).size=l.length:=by
 show ((l.map fun z=>UInt8.ofNat z.toNat).toArray).size=_
 simp
theorem Zz{J:Nat→List DV→DV}(hJ:J 2=fun ds=>.list (IS ds)){nm s:ByteArray}{k n:Int}(hn:nm.size≤1000):∀R:Rho,R=AA J [.str nm,.int .i64 k,.int .i64 n,.str s]→C2 R pRk∧∃t:ByteArray,evP R pRk=[[.str t]]∧t.size≤2000:=by
 intro R hR;have e0:den R (.v 0)=.str nm:=by rw[hR];rfl
 have e1:den R (.v 1)=.int .i64 k:=by rw[hR];rfl
 have e2:den R (.v 2)=.int .i64 n:=by rw[hR];rfl
 have e3:den R (.v 3)=.str s:=by rw[hR];rfl
 have hI:R.I=J:=by rw[hR];rfl
 obtain⟨b,e,hb,hl⟩:=tg k n s;have dV:den R rkV=.list [[.list (bytesI b)],[.int .i64 e]]:=by
  rw[AO,hI,hJ];simp only[ACO,ACS,e1,e2,e3];rw[hb]
 have dB:den R (.at rkV (k64 0) 0)=.list (bytesI b):=(Ab 0 dV (d_k .i64 0)).trans rfl
 have dE:den R (.at rkV (k64 1) 0)=.int .i64 e:=(Ab 0 dV (d_k .i64 1)).trans rfl
 have dT:den R rkT=.str (Ci b):=HA R dB
 have d1:=O7 (pV (a:=#[2])) e0
 have d2:=O7 d1 (pV (a:=#[0]))
 have d3:=O7 d2 dT
 have s1:(AS #[2]++nm).size≤1001:=by rw[ADx];show 1+nm.size≤1001;omega
 have s2:(AS #[2]++nm++AS #[0]).size≤1002:=by rw[ADx];show _+1≤1002;omega
 have s3:(Ci b).size≤131:=by rw[Zy];exact hl
 have s4:(AS #[2]++nm++AS #[0]++Ci b).size≤2000:=by rw[ADx];omega
 refine⟨AU (K2 e0 (by omega)) (Ai (AN dE (d_k .i64 0)) (fun _=>AU (K2 d1 (by omega)) (AU (K2 d2 (by omega)) (AU (K2 dT (by omega)) trivial))) (fun _=>trivial)),?_⟩
 unfold pRk;simp only[evP];split
 ·exact⟨_,by simp only[ACO,ACS];rw[d3],s4⟩
 ·exact⟨AS #[],rfl,by show 0≤2000;omega⟩
theorem xa(I:Nat→List DV→DV):Am Tryz.prog G 53 [.one .str,.agg tV] [.one .str] (fun ds=>∀p∈rW,den (AA I ds) p.1=.bool p.2) Frk:=by
 have hk:=kRk
 rw[ACH]at hk;refine Av (AG (l:=[eVe]) ⟨AP AI (pre_true AAM) (fun _=>rfl) _ rfl,trivial⟩) [] [] AL hk.1 pRk hk.2 ?_
 intro ds h hp;refine Bq ?_
 simp only[An,Ba]at h;obtain⟨_,_,rfl,⟨d0,rfl,h0⟩,c,_,rfl,hc,rfl⟩:=h;obtain⟨nm,rfl,_⟩:=h0.str;obtain⟨d1,_,rfl,h1,d2,_,rfl,h2,d3,_,rfl,h3,rfl⟩:=hc;obtain⟨k,rfl,_⟩:=h1.i64;obtain⟨n,rfl,_⟩:=h2.i64;obtain⟨s,rfl,_⟩:=h3.str;have p1:=hp (lss (k64 1000) (.len (.v 0)),false) (by simp)
 have e0:den (AA I [[DV.str nm],[.int .i64 k,.int .i64 n,.str s]].flatten) (.v 0)=.str nm:=rfl
 rw[AB (d_k .i64 1000) (Az e0)]at p1;simp only[DV.bool.injEq,ACK,ACZ]at p1;exact (Zz (J:=rkI) rfl (by omega) _ rfl).1
theorem lU{nm s:ByteArray}{k n:Int}(hn:nm.size≤1000):∃t:ByteArray,Frk [.str nm,.int .i64 k,.int .i64 n,.str s]=[[.str t]]∧t.size≤2000:=(Zz (J:=rkI) rfl hn _ rfl).2
theorem lV{nm s z:ByteArray}{k n:Int}(hn:nm.size≤1000)(hz:z.size≤1000):∀R:Rho,R=AA enI [.str nm,.int .i64 k,.int .i64 n,.str s,.str z]→C2 R Vo∧∃t:ByteArray,evP R Vo=[[.str t]]∧t.size≤3000:=by
 intro R hR;have e0:den R (.v 0)=.str nm:=by rw[hR];rfl
 have e1:den R (.v 1)=.int .i64 k:=by rw[hR];rfl
 have e2:den R (.v 2)=.int .i64 n:=by rw[hR];rfl
 have e3:den R (.v 3)=.str s:=by rw[hR];rfl
 have e4:den R (.v 4)=.str z:=by rw[hR];rfl
 have hI:R.I=enI:=by rw[hR];rfl
 obtain⟨t,ht,hl⟩:=lU (nm:=nm) (s:=s) (k:=k) (n:=n) hn;have dK:den R enK=.str t:=by
  have:den R (.app 150 [.v 0,.v 1,.v 2,.v 3])=.list [[.str t]]:=by
   rw[AO,hI];simp only[ACO,ACS,e0,e1,e2,e3];show DV.list (Frk _)=_
   rw[ht]
  exact (Ab 0 this (d_k .i64 0)).trans rfl
 have d1:=O7 (pV (a:=#[2])) e0
 have d2:=O7 d1 e4
 have s1:(AS #[2]++nm).size≤1001:=by rw[ADx];show 1+nm.size≤1001;omega
 have s2:(AS #[2]++nm++z).size≤2001:=by rw[ADx];omega
 refine⟨AU ((AB (d_k .i64 1000) (Az e0)).trans (congrArg DV.bool (ACR (by show ¬((1000:Nat):Int)<nm.size;omega)))) (AU (K2 e0 (by omega)) (AU (K2 e4 (by omega)) (Ai (AN e1 (d_k .i64 1)) (fun _=>AU (K2 d1 (by omega)) trivial) (fun _=>trivial)))),?_⟩
 unfold Vo;simp only[evP];split
 ·exact⟨_,by simp only[ACO,ACS];rw[d2],by omega⟩
 ·exact⟨t,by simp only[ACO,ACS];rw[dK],by omega⟩
theorem xb(I:Nat→List DV→DV):Am Tryz.prog G 54 [.one .str,.agg tV,.one .str] [.one .str] (fun ds=>∀p∈lO,den (AA I ds) p.1=.bool p.2) rX:=by
 have hk:=ABS
 rw[ACH]at hk;refine Av (AG (l:=[eRk]) ⟨AP AI (xa enI) (fun _=>rfl) _ rfl,trivial⟩) [] [] AL hk.1 Vo hk.2 ?_
 intro ds h hp;refine Bq ?_
 simp only[An,Ba]at h;obtain⟨_,_,rfl,⟨d0,rfl,h0⟩,c,_,rfl,hc,_,_,rfl,⟨d4,rfl,h4⟩,rfl⟩:=h;obtain⟨nm,rfl,_⟩:=h0.str;obtain⟨z,rfl,_⟩:=h4.str;obtain⟨d1,_,rfl,h1,d2,_,rfl,h2,d3,_,rfl,h3,rfl⟩:=hc;obtain⟨k,rfl,_⟩:=h1.i64;obtain⟨n,rfl,_⟩:=h2.i64;obtain⟨s,rfl,_⟩:=h3.str;have p1:=hp (lss (k64 1000) (.len (.v 0)),false) (by simp)
 have p2:=hp (lss (k64 1000) (.len (.v 4)),false) (by simp)
 have e0:den (AA I [[DV.str nm],[.int .i64 k,.int .i64 n,.str s],[.str z]].flatten) (.v 0)=.str nm:=rfl
 have e4:den (AA I [[DV.str nm],[.int .i64 k,.int .i64 n,.str s],[.str z]].flatten) (.v 4)=.str z:=rfl
 rw[AB (d_k .i64 1000) (Az e0)]at p1;rw[AB (d_k .i64 1000) (Az e4)]at p2;simp only[DV.bool.injEq,ACK,ACZ]at p1 p2;exact (lV (by omega) (by omega) _ rfl).1
theorem th(I:Nat→List DV→DV):Am Tryz.prog G 28 [.agg tQry] [.agg pT,.one tI] (fun ds=>∀p∈Iw,den (AA I ds) p.1=.bool p.2) lS:=by
 have hk:=xZ
 rw[ACH]at hk;have hchk:Am Tryz.prog G 22 [.agg tQry] [.one tI] (fun ds=>∀p∈Iw,den (AA rgI ds) p.1=.bool p.2) JW:=⟨Ps.1,fun E ds vs w hE hr hp hg=>Ps.2 E ds vs w hE hr (fun p hm=>by
  have h1:=hp p hm
  simp only[Iw,ACs]at hm;subst hm;exact h1) hg⟩
 refine Av (AG (l:=[eRk,lP,rY]) ⟨AP AI (xa rgI) (fun _=>rfl) _ rfl,AP AI (xb rgI) (fun _=>rfl) _ rfl,AP AI hchk (fun _=>rfl) _ rfl,trivial⟩) [] [] AL hk.1 Zx hk.2 ?_
 intro ds h hp;refine Bq ?_
 simp only[An,Ba]at h;obtain⟨D,_,rfl,hD,rfl⟩:=h;rw[show[D].flatten=D by simp]at hp⊢
 have p1:=hp (lss (k64 1000) (.len (.v 1)),false) (by simp[Iw])
 have hI:(AA rgI D).I=rgI:=rfl
 have hρ:∀i d,D[i]? =some d→den (AA rgI D) (.v i)=d:=fun i d h=>by
  show D.getD i _=d
  rw[ACI,h];rfl
 obtain⟨d1,g1,i1⟩:=BL (k:=1) (t:=.str) hD rfl;obtain⟨d2,g2,i2⟩:=BL (k:=2) (t:=tI) hD rfl;obtain⟨d3,g3,i3⟩:=BL (k:=3) (t:=tI) hD rfl;obtain⟨d4,g4,i4⟩:=BL (k:=4) (t:=.str) hD rfl;obtain⟨nm,rfl,_⟩:=i1.str;obtain⟨a2,rfl,_⟩:=i2.i64;obtain⟨a3,rfl,_⟩:=i3.i64;obtain⟨a4,rfl,_⟩:=i4.str;have e1:=hρ 1 _ g1
 have q1:den (AA I D) (.v 1)=.str nm:=by
  show D.getD 1 _=_
  rw[ACI,g1];rfl
 rw[AB (d_k .i64 1000) (Az q1)]at p1;simp only[DV.bool.injEq,ACK,ACZ]at p1;have e2:=hρ 2 _ g2
 have e3:=hρ 3 _ g3
 have e4:=hρ 4 _ g4
 generalize AA rgI D=R at *;obtain⟨t,ht,hl⟩:=lU (nm:=nm) (s:=a4) (k:=a2) (n:=a3) (by omega)
 have dK:den R rgK=.str t:=by
  have:den R (.app 150 [.v 1,.v 2,.v 3,.v 4])=.list [[.str t]]:=by
   rw[AO,hI];simp only[ACO,ACS,e1,e2,e3,e4];show DV.list (Frk _)=_
   rw[ht]
  exact (Ab 0 this (d_k .i64 0)).trans rfl
 obtain⟨x1,h1⟩:=Bn R rgC (k64 0);obtain⟨x2,h2⟩:=Bn R (.v 0) (k64 1);obtain⟨x3,h3⟩:=Bn R (.v 0) (k64 2);exact AU ((AB (d_k .i64 1000) (Az e1)).trans (congrArg DV.bool (ACR (by show ¬((1000:Nat):Int)<nm.size;omega)))) (Ai h1 (fun _=>Ai h2 (fun _=>AU (K2 dK (by omega)) trivial) (fun _=>Ai h3 (fun _=>AU rfl (AU rfl trivial)) (fun _=>trivial))) (fun _=>trivial))
end Go.Proofs.YtobajijkmmhdjaaGreatDoor.Se
namespace Go.Proofs.YtobajijkmmhdjaaGreatDoor
open Go Go.AM
abbrev tx(f:Nat):SX:=.app f [.v 0,.v 1,.v 2]
abbrev nx1:SX:=add (.v 1) (k64 1)
abbrev u8k(n:Nat):SX:=.ki .u8 (.ofNat n)
abbrev txI(l:List Int)(i:Int)(out:List Int):Int×List Int×Nat:=txt (l.drop i.toNat) out i.toNat
theorem wW{c:Int}{l out:List Int}{u:Nat}(hc:¬c=0):txt (c::l) out u=if out.length=64 then (150,[],0) else txt l (out++[c]) (u+1):=by
 rw[txt.eq_def];exact if_neg hc
section
variable {l out:List Int}{i:Int}
theorem Px(h0:0≤i)(h1:i<l.length):l.drop i.toNat=l.getD i.toNat 0::l.drop (i+1).toNat:=by
 have h2:i.toNat<l.length:=by omega
 rw[ACj h2,SJ h0];simp[ACI,ACL h2]
theorem wY(h0:0≤i)(h1:i<l.length)(hc:¬l.getD i.toNat 0=0):txI l i out=if out.length=64 then (150,[],0) else txI l (i+1) (out++[l.getD i.toNat 0]):=by
 show txt _ _ _=_
 rw[Px h0 h1,wW hc];have e:(i+1).toNat=i.toNat+1:=SJ h0
 simp only[txI,e]
theorem tL(h0:0≤i)(h1:i<l.length)(h2:¬i+1<l.length)(hc:l.getD i.toNat 0=0):txI l i out=(7,[],0):=by
 show txt _ _ _=_
 rw[Px h0 h1,ADP (i:=(i+1).toNat) (by omega),txt,if_pos hc]
theorem wZ(h0:0≤i)(h2:i+1<l.length)(hc:l.getD i.toNat 0=0):txI l i out=if l.getD (i+1).toNat 0=0 then (0,out,i.toNat+2) else if l.getD (i+1).toNat 0=255 then (if out.length=64 then (150,[],0) else txI l (i+1+1) (out++[0])) else (150,[],0):=by
 show txt _ _ _=_
 rw[Px h0 (by omega),Px (i:=i+1) (by omega) h2,txt,if_pos hc]
 have e:(i+1+1).toNat=i.toNat+2:=by omega
 simp only[txI,e]
end
section
variable {R:Rho}{x y z:SX}{l out:List Int}{i:Int}
theorem d121(hI:R.I=AE)(hx:den R x=.list (bytesI l))(hy:den R y=.int .i64 i)(hz:den R z=.list (bytesI out)):den R (.app 121 [x,y,z])=.int .i64 (txI l i out).1:=by
 rw[AO,hI];simp only[ACO,ACS,hx,hy,hz];show pk _=_
 simp only[pk,Vt,Aa,lD,iD,AC4,ACr,BD]
theorem d122(hI:R.I=AE)(hx:den R x=.list (bytesI l))(hy:den R y=.int .i64 i)(hz:den R z=.list (bytesI out)):den R (.app 122 [x,y,z])=.list (bytesI (txI l i out).2.1):=by
 rw[AO,hI];simp only[ACO,ACS,hx,hy,hz];show pn _=_
 simp only[pn,Vt,Aa,lD,iD,AC4,ACr,BD]
theorem d123(hI:R.I=AE)(hx:den R x=.list (bytesI l))(hy:den R y=.int .i64 i)(hz:den R z=.list (bytesI out)):den R (.app 123 [x,y,z])=.int .i64 (txI l i out).2.2:=by
 rw[AO,hI];simp only[ACO,ACS,hx,hy,hz];show po _=_
 simp only[po,Vt,Aa,lD,iD,AC4,ACr,BD]
end
def gK(R:Rho):Nat:=match R.ρ 0,R.ρ 1 with
 |.list l,.int _ i=>l.length-i.toNat
 |_,_=>0
abbrev s0X:SX:=.ks (AS #[])
abbrev noV(e:SX):Pln:=.done [[k64 0,k64 0,s0X],[k64 0],[e]]
abbrev ty(f:Nat):SX:=.app f [.v 0,k64 1,.emp]
abbrev c19:SX:=.cut (.v 0) (k64 1) (k64 9)
abbrev b19(j:Nat):SX:=.at c19 (k64 j) 0
abbrev f19:List (SX×Bool):=[(lss (k64 0) (.len c19),true),(lss (k64 1) (.len c19),true),(lss (k64 2) (.len c19),true),(lss (k64 3) (.len c19),true),(lss (k64 4) (.len c19),true),(lss (k64 5) (.len c19),true),(lss (k64 6) (.len c19),true),(lss (k64 7) (.len c19),true),(lss (k64 8) (.len c19),false)]
theorem wa{ds:List (List DV)}(h:An [.one tB] ds):∃l:List Int,ds=[[.list (bytesI l)]]∧BI l∧l.length≤maxLen:=by
 simp only[An,Ba]at h;obtain⟨_,_,rfl,⟨d,rfl,hd⟩,rfl⟩:=h;obtain⟨l,rfl,h1,h2⟩:=hd.ints;exact⟨l,rfl,h1,h2⟩
def Tf(p:Int×List DV×Nat):List (List DV):=[p.2.1,[.int .i64 p.2.2],[.int .i64 p.1]]
theorem cZ(l:List Int):K4 [[DV.list (bytesI l)]].flatten=Tf (ED l):=by
 have e:Aa [[DV.list (bytesI l)]].flatten 0=l:=BD l
 unfold K4;rw[e];rfl
theorem oa{R:Rho}{l:List Int}(hp:den R (Aj 0).1=.bool (Aj 0).2)(q0:R.ρ 0=.list (bytesI l)):l.length≤1000000:=by
 rw[AB (d_k .i64 1000000) (AY (d_v q0))]at hp;simp only[DV.bool.injEq,ACK]at hp;omega
theorem Hy{R:Rho}{l:List Int}{x:SX}{e:Int}(hx:den R x=.int .i64 e)(h:ED l=Ej e):AK R (Tf (ED l)) (noV x):=by
 show _=_
 rw[h];simp only[ACO,ACS,hx];rfl
def AA2:Blk:={t:=212,row:=false,sz:=1,n:=0,z:=[.dead],c:=.nil}
def bRd(i:Nat):Blk:={t:=212,row:=false,sz:=1,n:=3,z:=[.dead],c:=(((Tr.nil:Tr AV).put 0 (.sy tB (.v 0))).put 1 (.sy tI (.v i))).put 2 (.sc (.int .i64 0))}
def TT:Tmpl:={tm:=[(0,.ptr 1 0),(4,.own 9 [tU8] (.v 2))],ob:=[(1,bRd 1)],ow:=[⟨9,5,[tU8],.v 2⟩],src:=[.cell 1 0 tB,.cell 1 1 tI,.own 0],osrc:=[.tm 4 5 [tU8]]}
def YTy:Tmpl:={tm:=[(2,.sy .str (.v 1)),(3,.sc (.int .i64 0))],ob:=[(1,bRd 2)],src:=[.cell 1 0 tB,.tm 2 .str,.cell 1 1 tI]}
def YTn:Tmpl:={tm:=[(2,.sc (.string ⟨#[]⟩)),(3,.sy tI (.v 0))],ob:=[(1,AA2)],src:=[.tm 3 tI]}
def LT:LoopSp:={n:=42,T:=TT,pre:=[(lss (k64 1000000) (.len (.v 0)),false),(lss (.v 1) (k64 0),false),(lss (.len (.v 0)) (.v 1),false),(lss (k64 64) (.len (.v 2)),false)],cnd:=eql (tx 121) (k64 0),yes:=(.ret,YTy,[.v 0,.text (tx 122),tx 123]),no:=(.ret,YTn,[tx 121])}
abbrev rF:Code:=B0 180 0
abbrev nx2:SX:=add nx1 (k64 1)
abbrev Zb(e:SX):SX:=.cut (.v 0) (sub e (k64 1)) e
abbrev rdB(e:SX):SX:=.conv .u8 (.bin .or (.ki .u64 (.ofNat 0)) (.conv .u64 (.at (Zb e) (k64 0) 0)))
abbrev fR(e:SX):List (SX×Bool):=[(lss (sub e (k64 1)) (k64 0),false),(lss e (sub e (k64 1)),false),(lss (.len (.v 0)) e,false),(lss (k64 0) (.len (Zb e)),true),(lss (k64 1) (.len (Zb e)),false)]
abbrev ocT:SX:=.cat (.v 2) (.row [rdB nx1])
def rT:RPln:=
 .ask (lss (sub (.len (.v 0)) (.v 1)) (k64 1))
  (.exit false [k64 7])
  (DT (fR nx1)
   (.ask (eql (rdB nx1) (u8k 0))
    (.ask (lss (sub (.len (.v 0)) nx1) (k64 1))
     (.exit false [k64 7])
     (DT (fR nx2)
      (.ask (eql (rdB nx2) (u8k 0))
       (.exit true [.v 0,.text (.v 2),nx2])
       (.ask (eql (rdB nx2) (u8k 255))
        (.ask (eql (.len (.v 2)) (k64 64))
         (.exit false [k64 150])
         (.know (lss (k64 1000000) (.len (.v 2))) false (.next [.v 0,nx2,ocT])))
        (.exit false [k64 150])))))
    (.ask (eql (.len (.v 2)) (k64 64))
     (.exit false [k64 150])
     (.know (lss (k64 1000000) (.len (.v 2))) false (.next [.v 0,nx1,ocT])))))
theorem okT:(LT.yes.2.1.ok LT.T LT.n&&LT.no.2.1.ok LT.T LT.n&&AW LT (PD AE (AR []) [] rF) [] rT)=true:=by kernel_rfl
theorem Zc{l:List Int}{i:Nat}(h:i<l.length):(l.take (i+1)).drop i=[l.getD i 0]:=by
 rw[List.take_add_one,ADL (by rw[ACh];omega),AC2 (by rw[ACh];omega)]
 rw[ACL h,ACI,ACL h];rfl
theorem wb{R:Rho}{l:List Int}{e:SX}{i:Int}(q0:R.ρ 0=.list (bytesI l))(he:den R e=.int .i64 (i+1))(h0:0≤i)(h1:i<l.length)(hB:BI l)(hlen:l.length≤1000000):
  den R (rdB e)=.int .u8 (l.getD i.toNat 0)∧∀q∈fR e,den R q.1=.bool q.2:=by
 have hs:den R (sub e (k64 1))=.int .i64 (i+1-1):=Cv he (d_k .i64 1) (by omega) (by omega)
 rw[show i+1-1=i by omega]at hs
 have hC:den R (Zb e)=.list (bytesI [l.getD i.toNat 0]):=by
  rw[HB (d_v q0) hs he];congr 1
  rw[show (i+1).toNat=i.toNat+1 by omega,Zc (by omega)]
 have hb:=Bb hB (z:=l.getD i.toNat 0) (by
  rw[ACI,ACL (by omega)]
  exact AC7 _)
 have hat:den R (.at (Zb e) (k64 0) 0)=.int .u8 (l.getD i.toNat 0):=Mg (l:=[l.getD i.toNat 0]) (z:=((0:Nat):Int)) hC (d_k .i64 0) (by omega) (by simp)
 refine⟨wo (XL hat hb) hb,fun q hq=>?_⟩
 simp only[fR,ACU,ACm,or_false]at hq;rcases hq with rfl|rfl|rfl|rfl|rfl
 ·rw[AB hs (d_k .i64 0)];simp;omega
 ·rw[AB he hs];simp;omega
 ·rw[AB (AY (d_v q0)) he];simp;omega
 ·rw[AB (d_k .i64 0) (AY hC)];rfl
 ·rw[AB (d_k .i64 1) (AY hC)];rfl
def oc(R:Rho):Prop:=∃l i out,R.ρ 0=.list (bytesI l)∧R.ρ 1=.int .i64 i∧R.ρ 2=.list (bytesI out)∧BI l∧l.length≤1000000∧0≤i∧i≤l.length∧out.length≤64
theorem rG{R:Rho}(hI:R.I=AE){l out:List Int}{i:Int}(e0:R.ρ 0=.list (bytesI l))(e1:R.ρ 1=.int .i64 i)(e2:R.ρ 2=.list (bytesI out))(hl:BI l)(hlen:l.length≤1000000)
  {e:SX} {j c:Int} (he:den R e=.int .i64 j) (hc:den R (rdB nx1)=.int .u8 c) (h0:0≤i) (hj:i<j) (hj2:j≤l.length) (ho:out.length<64) (ht:txI l i out=txI l j (out++[c])):
  BE LT oc gK R (.next [.v 0,e,ocT]):=by
 have hoc:=BV R (d_v e2) (EP R hc)
 have s0:=En R [.v 0,e,ocT] 0 rfl (d_v e0)
 have s1:=En R [.v 0,e,ocT] 1 rfl he
 have s2:=En R [.v 0,e,ocT] 2 rfl hoc
 refine⟨⟨l,j,out++[c],s0,s1,s2,hl,hlen,by omega,hj2,by simp;omega⟩,?_,?_,fun b _=>?_⟩
 ·simp only[gK,s0,s1,e0,e1,JB];omega
 ·show den (R.sub _) (eql (tx 121) (k64 0))=den R (eql (tx 121) (k64 0))
  rw[AN (d121 (R:=R.sub _) hI (d_v s0) (d_v s1) (d_v s2)) (d_k .i64 0),AN (d121 hI (d_v e0) (d_v e1) (d_v e2)) (d_k .i64 0),ht]
 ·cases b
  ·show[den (R.sub _) (tx 121)]=[den R (tx 121)]
   rw[d121 (R:=R.sub _) hI (d_v s0) (d_v s1) (d_v s2),d121 hI (d_v e0) (d_v e1) (d_v e2),ht]
  ·show[den (R.sub _) (.v 0),den (R.sub _) (.text (tx 122)),den (R.sub _) (tx 123)]=[den R (.v 0),den R (.text (tx 122)),den R (tx 123)]
   rw[HA (R.sub _) (d122 (R:=R.sub _) hI (d_v s0) (d_v s1) (d_v s2)),HA R (d122 hI (d_v e0) (d_v e1) (d_v e2)),d123 (R:=R.sub _) hI (d_v s0) (d_v s1) (d_v s2),d123 hI (d_v e0) (d_v e1) (d_v e2),ht,d_v s0,d_v e0]
theorem zB:BJ Tryz.prog G AE rF LT:=by
 refine NN (lps:=[]) (AG (l:=[]) trivial) AL rT okT oc gK ?_ ?_
 ·intro m a w hr hp;obtain⟨l,e0,hl,_⟩:=(Kj hr (id:=1) (k:=0) (i:=0) (ty:=tB) (b:=bRd 1) (by kernel_rfl) (by decide) (by kernel_rfl)).ints
  obtain⟨i,e1,_⟩:=(Kj hr (id:=1) (k:=1) (i:=1) (ty:=tI) (b:=bRd 1) (by kernel_rfl) (by decide) (by kernel_rfl)).i64
  obtain⟨out,e2,_,_⟩:=(YP hr (t:=4) (id:=9) (i:=2) (el:=5) (ts:=[tU8]) (by kernel_rfl) (by kernel_rfl)).ints
  have p1:=hp (lss (k64 1000000) (.len (.v 0)),false) (by simp[LT])
  have p2:=hp (lss (.v 1) (k64 0),false) (by simp[LT])
  have p3:=hp (lss (.len (.v 0)) (.v 1),false) (by simp[LT])
  have p4:=hp (lss (k64 64) (.len (.v 2)),false) (by simp[LT])
  rw[AB (d_k .i64 1000000) (AY (d_v e0))]at p1;rw[AB (d_v e1) (d_k .i64 0)]at p2;rw[AB (AY (d_v e0)) (d_v e1)]at p3;rw[AB (d_k .i64 64) (AY (d_v e2))]at p4;simp only[DV.bool.injEq,ACK]at p1 p2 p3 p4;exact⟨l,i,out,e0,e1,e2,hl,by omega,by omega,by omega,by omega⟩
 ·rintro R hI ⟨l,i,out,e0,e1,e2,hl,hlen,h0,h1,ho⟩;have E:=d121 hI (d_v e0) (d_v e1) (d_v e2)
  have hcn:den R LT.cnd=_:=AN E (d_k .i64 0)
  have fail:∀n:Nat,txI l i out=((n:Int),[],0)→¬(n:Int)=0→BE LT oc gK R (.exit false [k64 n]):=by
   intro n hn hne;refine⟨?_,?_⟩
   ·rw[hcn,hn];simp only[DV.bool.injEq,ACK];exact hne
   ·show[den R (k64 n)]=[den R (tx 121)]
    rw[E,hn];rfl
  unfold rT;refine Cj (AB (Cv (AY (d_v e0)) (d_v e1) (by omega) (by omega)) (d_k .i64 1)) (fun hs=>?_) (fun hs=>?_)
  ·simp only[ACN]at hs;refine fail 7 ?_ (by decide)
   show txt _ _ _=_
   rw[ADP (by omega)]
   rfl
  ·simp only[ACK]at hs;have hlt:i<l.length:=by omega
   have dn1:den R nx1=.int .i64 (i+1):=B6 (R:=R) (d_v e1) (d_k .i64 1) (by omega) (by omega)
   obtain⟨hc,hf1⟩:=wb e0 dn1 h0 hlt hl hlen;refine ID hf1 (Cj (AN hc (d_k .u8 0)) (fun hc0=>?_) (fun hc0=>?_))
   ·simp only[ACN]at hc0
    replace hc0:l.getD i.toNat 0=0:=hc0
    refine Cj (AB (Cv (AY (d_v e0)) dn1 (by omega) (by omega)) (d_k .i64 1)) (fun h2=>?_) (fun h2=>?_)
    ·simp only[ACN]at h2;exact fail 7 (tL h0 hlt (by omega) hc0) (by decide)
    ·simp only[ACK]at h2;have h2:i+1<l.length:=by omega
     have dn2:den R nx2=.int .i64 (i+1+1):=B6 (R:=R) dn1 (d_k .i64 1) (by omega) (by omega)
     obtain⟨hd,hf2⟩:=wb e0 dn2 (by omega) h2 hl hlen
     have ht:=wZ (out:=out) h0 h2 hc0
     refine ID hf2 (Cj (AN hd (d_k .u8 0)) (fun hd0=>?_) (fun hd0=>?_))
     ·simp only[ACN]at hd0
      replace hd0:l.getD (i+1).toNat 0=0:=hd0
      rw[if_pos hd0]at ht;refine⟨by rw[hcn,ht];rfl,?_⟩
      show[den R (.v 0),den R (.text (.v 2)),den R nx2]=[den R (.v 0),den R (.text (tx 122)),den R (tx 123)]
      rw[HA R (d122 hI (d_v e0) (d_v e1) (d_v e2)),HA R (d_v e2),d123 hI (d_v e0) (d_v e1) (d_v e2),ht,dn2];have:((i.toNat+2:Nat):Int)=i+1+1:=by omega
      rw[this]
     ·simp only[ACK]at hd0
      replace hd0:¬l.getD (i+1).toNat 0=0:=hd0
      rw[if_neg hd0]at ht;refine Cj (AN hd (d_k .u8 255)) (fun hd1=>?_) (fun hd1=>?_)
      ·simp only[ACN]at hd1
       replace hd1:l.getD (i+1).toNat 0=255:=hd1
       rw[if_pos hd1]at ht;refine Cj (AN (AY (d_v e2)) (d_k .i64 64)) (fun h64=>?_) (fun h64=>?_)
       ·simp only[ACN]at h64;rw[if_pos (by omega)]at ht
        exact fail 150 ht (by decide)
       ·simp only[ACK]at h64;rw[if_neg (by omega)]at ht
        refine G9 (Cr R (d_v e2) (by omega)) (rG hI e0 e1 e2 hl hlen dn2 hc h0 (by omega) (by omega) (by omega) ?_)
        rw[hc0];exact ht
      ·simp only[ACK]at hd1
       replace hd1:¬l.getD (i+1).toNat 0=255:=hd1
       rw[if_neg hd1]at ht;exact fail 150 ht (by decide)
   ·simp only[ACK]at hc0
    replace hc0:¬l.getD i.toNat 0=0:=hc0
    have ht:=wY (out:=out) h0 hlt hc0
    refine Cj (AN (AY (d_v e2)) (d_k .i64 64)) (fun h64=>?_) (fun h64=>?_)
    ·simp only[ACN]at h64;rw[if_pos (by omega)]at ht
     exact fail 150 ht (by decide)
    ·simp only[ACK]at h64;rw[if_neg (by omega)]at ht
     exact G9 (Cr R (d_v e2) (by omega)) (rG hI e0 e1 e2 hl hlen dn1 hc h0 (by omega) (by omega) (by omega) ht)
theorem lT:CN AE 180 [(3,LT)]:=Fw (by kernel_rfl) zB
abbrev wc:Ey:=[(180,[(3,LT)])]
theorem tM:Ez AE wc:=⟨lT,trivial⟩
abbrev cR(a b:Nat):SX:=.cut (.v 0) (k64 a) (k64 b)
abbrev rB(a b:Nat):SX:=.conv .u8 (.bin .or (.ki .u64 (.ofNat 0)) (.conv .u64 (.at (cR a b) (k64 0) 0)))
abbrev fC(a b:Nat):List (SX×Bool):=[(lss (.len (.v 0)) (k64 b),false),(lss (k64 0) (.len (cR a b)),true),(lss (k64 1) (.len (cR a b)),false)]
abbrev kP:SX:=.conv .i64 (rB 0 1)
abbrev nL(e:SX):SX:=sub (.len (.v 0)) (sub (.len (.v 0)) e)
abbrev o8v(x y:SX):SX:=.bin .or (.bin .shl x (.ki .u64 (.ofNat 8))) (.conv .u64 y)
abbrev p19:SX:=o8v (o8v (o8v (o8v (o8v (o8v (o8v (.bin .or (.ki .u64 (.ofNat 0)) (.conv .u64 (b19 0))) (b19 1)) (b19 2)) (b19 3)) (b19 4)) (b19 5)) (b19 6)) (b19 7)
abbrev w19:SX:=.conv .i64 (.bin .xor p19 (.ki .u64 (.ofNat 9223372036854775808)))
def pDv:Pln:=
 G8 [((Aj 0).1,false),(lss (k64 64) (.len .emp),false)] (.ask (lss (sub (.len (.v 0)) (k64 0)) (k64 1)) (noV (k64 7))
  (G8 (fC 0 1)
   (.ask (eql kP (k64 1)) (.done [[kP,k64 0,s0X],[nL (k64 1)],[k64 0]])
    (.ask (eql kP (k64 2))
     (.ask (lss (sub (.len (.v 0)) (k64 1)) (k64 1)) (noV (k64 7))
      (G8 (fC 1 2) (.ask (lss (k64 1) (.conv .i64 (rB 1 2))) (noV (k64 150)) (.done [[kP,.conv .i64 (rB 1 2),s0X],[nL (k64 2)],[k64 0]]))))
     (.ask (eql kP (k64 3))
      (.ask (lss (sub (.len (.v 0)) (k64 1)) (k64 8)) (noV (k64 7)) (.know (lss (.len (.v 0)) (k64 9)) false (G8 f19 (.done [[kP,w19,s0X],[nL (k64 9)],[k64 0]]))))
      (.ask (eql kP (k64 4))
       (.ask (eql (ty 121) (k64 0)) (.done [[kP,k64 0,.text (ty 122)],[nL (ty 123)],[k64 0]]) (noV (ty 121)))
       (noV (k64 150))))))))
theorem kDv:(hasB 153&&AJ [.agg tV,.one tI,.one tI] (PC AE (AR []) wc [] [] 153 [.one tB]) [] pDv)=true:=by kernel_rfl
theorem od{R:Rho}{x:SX}{a b c d e f g h:Int}(hx:∀j z,([a,b,c,d,e,f,g,h]:List Int)[j]? =some z→den R (.at x (k64 j) 0)=.int .u8 z)(hB:BI [a,b,c,d,e,f,g,h]):
  den R (o8v (o8v (o8v (o8v (o8v (o8v (o8v (.bin .or (.ki .u64 (.ofNat 0)) (.conv .u64 (.at x (k64 0) 0))) (.at x (k64 1) 0)) (.at x (k64 2) 0)) (.at x (k64 3) 0)) (.at x (k64 4) 0)) (.at x (k64 5) 0)) (.at x (k64 6) 0)) (.at x (k64 7) 0))=.int .u64 (Oz [a,b,c,d,e,f,g,h])∧0≤Oz [a,b,c,d,e,f,g,h]∧Oz [a,b,c,d,e,f,g,h]≤18446744073709551615:=by
 have ba:=Bb hB (z:=a) (by simp)
 have bb:=Bb hB (z:=b) (by simp)
 have bc:=Bb hB (z:=c) (by simp)
 have bd:=Bb hB (z:=d) (by simp)
 have be:=Bb hB (z:=e) (by simp)
 have bf:=Bb hB (z:=f) (by simp)
 have bg:=Bb hB (z:=g) (by simp)
 have bh:=Bb hB (z:=h) (by simp)
 have s0:=XL (hx 0 a rfl) ba
 have s1:=Kw s0 (hx 1 b rfl) (by omega) (by omega) bb
 have s2:=Kw s1 (hx 2 c rfl) (by omega) (by omega) bc
 have s3:=Kw s2 (hx 3 d rfl) (by omega) (by omega) bd
 have s4:=Kw s3 (hx 4 e rfl) (by omega) (by omega) be
 have s5:=Kw s4 (hx 5 f rfl) (by omega) (by omega) bf
 have s6:=Kw s5 (hx 6 g rfl) (by omega) (by omega) bg
 have s7:=Kw s6 (hx 7 h rfl) (by omega) (by omega) bh
 rw[kl];exact⟨s7,by omega,by omega⟩
theorem we{R:Rho}{l:List Int}{a:Nat}(q0:R.ρ 0=.list (bytesI l))(h1:a<l.length)(hB:BI l):den R (rB a (a+1))=.int .u8 (l.getD a 0)∧∀q∈fC a (a+1),den R q.1=.bool q.2:=by
 have hC:den R (cR a (a+1))=.list (bytesI [l.getD a 0]):=by
  rw[HB (d_v q0) (d_k .i64 a) (d_k .i64 (a+1))];congr 1
  rw[show (((a+1:Nat):Int)).toNat=a+1 by omega,show ((a:Int)).toNat=a by omega,Zc h1]
 have hb:=Bb hB (z:=l.getD a 0) (by
  rw[ACI,ACL h1];exact AC7 _)
 have hat:den R (.at (cR a (a+1)) (k64 0) 0)=.int .u8 (l.getD a 0):=Mg (l:=[l.getD a 0]) (z:=((0:Nat):Int)) hC (d_k .i64 0) (by omega) (by simp)
 refine⟨wo (XL hat hb) hb,fun q hq=>?_⟩
 simp only[fC,ACU,ACm,or_false]at hq;rcases hq with rfl|rfl|rfl
 ·rw[AB (AY (d_v q0)) (d_k .i64 (a+1))];simp;omega
 ·rw[AB (d_k .i64 0) (AY hC)];rfl
 ·rw[AB (d_k .i64 1) (AY hC)];rfl
theorem wg:Am Tryz.prog G 153 [.one tB] [.agg tV,.one tI,.one tI] (fun ds=>∀p∈[Aj 0],den (AA AE ds) p.1=.bool p.2) K4:=by
 have hk:=kDv
 rw[ACH]at hk;refine Jk (AG (l:=[]) trivial) tM [] _ AL hk.1 pDv hk.2 ?_
 intro ds h hp;obtain⟨l,rfl,hB,hlm⟩:=wa h;rw[cZ];have hp:=hp (Aj 0) (by simp)
 generalize hR:AA AE [[DV.list (bytesI l)]].flatten=R at hp⊢;have hI:R.I=AE:=by rw[←hR];rfl
 have q0:R.ρ 0=.list (bytesI l):=by rw[←hR];rfl
 have hlen:=oa hp q0
 have dl:=AY (d_v q0)
 have dL:∀n:Nat,den R (sub (.len (.v 0)) (k64 n))=.int .i64 (l.length-n)∨1000000<n:=fun n=>by
  by_cases hn:n≤1000000
  ·exact .inl (Cv dl (d_k .i64 n) (by omega) (by omega))
  ·exact .inr (by omega)
 have dN:∀(e:SX) (u:Int),den R e=.int .i64 u→0≤u→u≤l.length→den R (nL e)=.int .i64 u:=by
  intro e u he h0 h1;have:den R (nL e)=.int .i64 (l.length-(l.length-u)):=Cv dl (Cv dl he (by omega) (by omega)) (by omega) (by omega)
  rw[this];congr 1
  omega
 unfold pDv;refine DU (l:=[_,_]) ?_ ?_
 ·intro q hq;simp only[ACU,ACm,or_false]at hq;rcases hq with rfl|rfl
  ·exact hp
  ·rfl
 have dL0:den R (sub (.len (.v 0)) (k64 0))=.int .i64 (l.length-(0:Nat)):=Cv dl (d_k .i64 0) (by omega) (by omega)
 refine AD (AB dL0 (d_k .i64 1)) (fun h1=>?_) (fun h1=>?_)
 ·simp only[ACN]at h1;have:l=[]:=ACi.1 (by omega)
  subst this;exact Hy (d_k .i64 7) rfl
 ·simp only[ACK]at h1;obtain⟨k,r,rfl⟩:∃k r,l=k::r:=by
   cases l with
   |nil=>simp at h1
   |cons k r=>exact⟨k,r,rfl⟩
  have bk:=Bb hB (z:=k) (by simp)
  obtain⟨hr0,hf0⟩:=we (a:=0) q0 (by simp) hB
  have hk:den R kP=.int .i64 k:=wm hr0 ⟨bk.1,by have:=bk.2;show k≤_;omega,by have:=bk.2;show k≤_;omega⟩
  have fin:∀(x y z:SX) (n:Int) (s:ByteArray) (u:Nat),ED (k::r)=Ix k n s u→den R x=.int .i64 n→den R y=.str s→den R z=.int .i64 u→u≤(k::r).length→AK R (Tf (ED (k::r))) (.done [[kP,x,y],[nL z],[k64 0]]):=by
   intro x y z n s u h1 h2 h3 h4 h5;have:=dN z u h4 (by omega) (by omega)
   show _=_
   rw[h1];simp only[ACO,ACS,hk,h2,h3,this];rfl
  have ds0:den R s0X=.str ⟨#[]⟩:=rfl
  have dL1:den R (sub (.len (.v 0)) (k64 1))=.int .i64 ((k::r).length-(1:Nat)):=Cv dl (d_k .i64 1) (by omega) (by omega)
  refine DU hf0 ?_
  refine AD (AN hk (d_k .i64 1)) (fun k1=>?_) (fun k1=>?_)
  ·simp only[ACN]at k1
   replace k1:k=1:=k1
   subst k1;exact fin _ _ _ 0 ⟨#[]⟩ 1 rfl (d_k .i64 0) ds0 (d_k .i64 1) (by simp)
  simp only[ACK]at k1
  replace k1:¬k=1:=k1
  refine AD (AN hk (d_k .i64 2)) (fun k2=>?_) (fun k2=>?_)
  ·simp only[ACN]at k2
   replace k2:k=2:=k2
   subst k2;refine AD (AB dL1 (d_k .i64 1)) (fun h2=>?_) (fun h2=>?_)
   ·simp only[ACN,ACe]at h2;have:r=[]:=ACi.1 (by omega)
    subst this;exact Hy (d_k .i64 7) rfl
   ·simp only[ACK,ACe]at h2;obtain⟨n,r',rfl⟩:∃n r',r=n::r':=by
     cases r with
     |nil=>simp at h2
     |cons n r'=>exact⟨n,r',rfl⟩
    have bn:=Bb hB (z:=n) (by simp)
    obtain⟨hr1,hf1⟩:=we (a:=1) q0 (by simp) hB
    have dn:den R (.conv .i64 (rB 1 2))=.int .i64 n:=wm hr1 ⟨bn.1,by have:=bn.2;show n≤_;omega,by have:=bn.2;show n≤_;omega⟩
    refine DU hf1 (AD (AB (d_k .i64 1) dn) (fun h3=>?_) (fun h3=>?_))
    ·simp only[ACN]at h3
     replace h3:1<n:=h3
     exact Hy (d_k .i64 150) (show (if 1<n then _ else _)=_ from if_pos h3)
    ·simp only[ACK]at h3
     replace h3:¬1<n:=h3
     exact fin _ _ _ n ⟨#[]⟩ 2 (show (if 1<n then _ else _)=_ from if_neg h3) dn ds0 (d_k .i64 2) (by simp)
  simp only[ACK]at k2
  replace k2:¬k=2:=k2
  refine AD (AN hk (d_k .i64 3)) (fun k3=>?_) (fun k3=>?_)
  ·simp only[ACN]at k3
   replace k3:k=3:=k3
   subst k3;refine AD (AB dL1 (d_k .i64 8)) (fun h2=>?_) (fun h2=>?_)
   ·simp only[ACN,ACe]at h2;have h8:r.length<8:=by omega
    exact Hy (d_k .i64 7) (show (if r.length<8 then _ else _)=_ from if_pos h8)
   ·simp only[ACK,ACe]at h2;have h8:¬r.length<8:=by omega
    obtain⟨a,b',c,d,e,f,g,i,r',rfl⟩:=eight h8;have hC:den R c19=.list (bytesI [a,b',c,d,e,f,g,i]):=by
     rw[HB (d_v q0) (d_k .i64 1) (d_k .i64 9)];rfl
    have dC:=AY hC
    have hx:∀j z,([a,b',c,d,e,f,g,i]:List Int)[j]? =some z→den R (.at c19 (k64 j) 0)=.int .u8 z:=by
     intro j z hj;have hlt:=(ACW.1 hj).1
     have h8:j<8:=by simpa using hlt
     rw[Mg hC (d_k .i64 j) (by omega) (by simp;omega)]
     simp only[AC5,ACI,hj,ACo]
    obtain⟨n1,n2,n3⟩:=od hx (fun z hz=>hB z (ACu _ (show z∈[a,b',c,d,e,f,g,i]++r' from List.mem_append_left _ hz)))
    refine As (by rw[AB dl (d_k .i64 9)];simp;omega) (DU (l:=f19) ?_ ?_)
    ·intro q hq;simp only[f19,ACU,ACm,or_false]at hq;rcases hq with rfl|rfl|rfl|rfl|rfl|rfl|rfl|rfl|rfl<;>(rw[AB (d_k .i64 _) dC];rfl)
    ·exact fin _ _ _ (Oz [a,b',c,d,e,f,g,i] -9223372036854775808) ⟨#[]⟩ 9 (show (if (a::b'::c::d::e::f::g::i::r').length<8 then Ej 7 else Ix 3 (Oz [a,b',c,d,e,f,g,i] -9223372036854775808) ⟨#[]⟩ 9)=_ from if_neg h8) (oo n1 n2 n3) ds0 (d_k .i64 9) (by simp)
  simp only[ACK]at k3
  replace k3:¬k=3:=k3
  refine AD (AN hk (d_k .i64 4)) (fun k4=>?_) (fun k4=>?_)
  ·simp only[ACN]at k4
   replace k4:k=4:=k4
   subst k4;have hdec:∀e out u,txt r [] 1=(e,out,u)→ED (4::r)=if e=0 then Ix 4 0 (Ci out) u else Ej e:=by
    intro e out u ht;show (match txt r [] 1 with|(e,out,u)=>if e=0 then Ix 4 0 (Ci out) u else Ej e)=_
    rw[ht]
   have E:=d121 (y:=k64 1) (i:=1) hI (d_v q0) (d_k .i64 1) (SI R)
   have E2:=d122 (y:=k64 1) (i:=1) hI (d_v q0) (d_k .i64 1) (SI R)
   have E3:=d123 (y:=k64 1) (i:=1) hI (d_v q0) (d_k .i64 1) (SI R)
   have T:txI (4::r) 1 []=txt r [] 1:=rfl
   rw[T]at E E2 E3;cases ht:txt r [] 1 with
   |mk e p=>
    obtain⟨out,u⟩:=p;rw[ht]at E E2 E3;refine AD (AN E (d_k .i64 0)) (fun h0=>?_) (fun h0=>?_)
    ·simp only[ACN]at h0
     replace h0:e=0:=h0
     subst h0;obtain⟨_,_,u1,u2,_⟩:=Ze _ r (ACv _) _ _ _ _ ht;exact fin _ _ _ 0 (Ci out) u ((hdec _ _ _ ht).trans (if_pos rfl)) (d_k .i64 0) (HA R E2) E3 (by rw[ACe];omega)
    ·simp only[ACK]at h0
     replace h0:¬e=0:=h0
     exact Hy E ((hdec _ _ _ ht).trans (if_neg h0))
  ·simp only[ACK]at k4
   replace k4:¬k=4:=k4
   refine Hy (d_k .i64 150) ?_
   show (if k=1 then _ else _)=_
   rw[if_neg k1,if_neg k2,if_neg k3,if_neg k4];rfl
def eDv:Ent:=eFn 153 [.one tB] [.agg tV,.one tI,.one tI] [Aj 0] 12
def runK(I:Nat→List DV→DV)(spec:IE)(sub:Ey)(lps:List (Nat×LoopSp))(ts:Frz)(f:FuncId)(sg:Sig)(facts:List (SX×Bool)):Out:=
 Fh ts (@Wz (mkO facts I) Tryz.prog G (spec (mkO facts I)) 100 (CG lps) (Cy sub) f (D5 0 sg) Ef)
theorem uD{I:Nat→List DV→DV}{spec:IE}(hsp:∀O:Orc,O.I=I→@Br O Tryz.prog G (spec O)){sub:Ey}(hs:Ez I sub)(lps:List (Nat×LoopSp))(ts:Frz){f:FuncId}(hl:MJ Tryz.prog G I (CG lps) (B4 f)){sg rs:Sig}{pre:List DV→Prop}{F:List DV→List (List DV)}(hb:hasB f=true)(p:Pln)
  (hc:AJ rs (runK I spec sub lps ts f sg) [] p=true)
  (hgoal:∀(ds:List (List DV)),An sg ds→pre ds.flatten→AK (AA I ds.flatten) (F ds.flatten) p):Am Tryz.prog G f sg rs pre F:=by
 refine bE (call:=fun O g args h=>Fh ts (@Wz O Tryz.prog G (spec O) 100 (CG lps) (Cy sub) g args h)) AI (Dj hb) ?_ p hc (fun _ ds _ h hp=>hgoal ds (F3 h) hp)
 intro O hI;have h1:=@mM O Tryz.prog G (spec O) (CG lps) GL PB (hsp O hI) AI 100 (Cy sub) (by rw[hI];exact Gz hs) f (by
  intro fn c hf hc;rw[hI];have:B4 f=c:=by unfold B4;rw[hf];simp[hc]
  rw[←this];exact hl)
 have h2:=@V3 O Tryz.prog G ts _ h1
 intro g args h av h' hq;simp only at hq;split at hq
 ·rename_i e;exact h2 g args h av h' (by simp only[if_pos e];subst e;exact hq)
 ·cases hq
end Go.Proofs.YtobajijkmmhdjaaGreatDoor
namespace Go.Proofs.YtobajijkmmhdjaaGreatDoor.Se
open Go Go.AM
def K3:Code→List (Array Tmp×Code×Code)
 |.seq a b=>K3 a++K3 b
 |.cond _ a b=>K3 a++K3 b
 |.block _ a=>K3 a
 |.scope a=>K3 a
 |.loop a=>K3 a
 |.rangeFunc _ ps asg body=>[(ps,asg,body)]
 |_=>[]
def pW(f k:Nat):Array Tmp×Code×Code:=(K3 (B4 f)).getD k (#[],.skip,.skip)
def lpX(f k st:Nat)(e:Go.AM.Ex):LpX:={st,pend:=e,ps:=(pW f k).1,asg:=(pW f k).2.1,body:=(pW f k).2.2}
def Z0:List (Nat×AV)→Tr AV
 | []=>.nil
 |(i,a)::l=>(Z0 l).put i a
def lpB(f k st:Nat)(e:Go.AM.Ex)(n:Nat)(l:List (Nat×AV)):Blk:={t:=0,row:=false,sz:=1,n,z:=[.dead],c:=Z0 l,lp:=some (lpX f k st e)}
def ABT(t:TypeId):Blk:={t,row:=false,sz:=1,n:=0,z:=[.dead],c:=.nil}
abbrev tVs:Ty:=.slice tV
abbrev lW:Code:=B0 91 0
abbrev lX:Code:=B0 152 0
abbrev fTk:Nat:=91
abbrev lpT(st:Nat)(e:Go.AM.Ex)(l:List (Nat×AV)):Blk:=lpB fTk 0 st e 36 ([(2,.ptr 0 0),(3,.ptr 1 0)]++l)
def TVa:Tmpl:={tm:=[(0,.hnd 1 2000015),(3,.sy tB (.v 0))],ob:=[(0,Bz 41 [.dead]),(1,Bz 37 [.dead]),(2000012,Bz 122 [.own 8 tV (.v 1)]),(2000015,lpT 0 .normal [(7,.ptr 2000012 0)])],ow:=[⟨8,26,tV,.v 1⟩],src:=[.tm 3 tB,.own 0],osrc:=[.cell 2000012 0 26 tV]}
def YVa:Tmpl:={tm:=[],ob:=[(0,Bz 41 [.dead]),(1,Bz 37 [.dead]),(2000012,Bz 122 [.sy (.slice tV) (.v 0)]),(2000015,lpT 0 .normal [(7,.ptr 2000012 0)])],src:=[.cell 2000012 0 (.slice tV)],isrc:=[.cell 2000012 0 26 tV]}
def NVa:Tmpl:={tm:=[],ob:=[(0,Bz 41 [.sy (.slice [tVs]) .emp]),(1,Bz 37 [.sc (.int .i64 251)]),(2000012,ABT 122),(2000015,lpT 2 .ret [])]}
def SVa:StdL:={n:=31,T:=TVa,tys:=[tB,.slice tV],pre:=[Aj 0,(eql (.len (.v 1)) (k64 0),true)],f:=160,two:=true,yes:=(.exit 0,YVa,1),no:=(.ret,NVa,0)}
abbrev vaD(j k:Nat):SX:=.at (.app 12 [.v 0]) (k64 j) k
abbrev vaN:RPln:=.next [.cut (.v 0) (vaD 1 0) (.len (.v 0)),.cat (.v 1) (.row [vaD 0 0,vaD 0 1,vaD 0 2])]
def pVa:RPln:=
 .ask (lss (k64 0) (.len (.v 0)))
  (.know (Aj 0).1 false (.ask (eql (vaD 2 0) (k64 0))
   (.know (Aj 1).1 false (.know (lss (k64 0) (vaD 1 0)) true (.ask (lss (vaD 1 0) (.len (.v 0))) vaN (.know (lss (.len (.v 0)) (vaD 1 0)) false vaN))))
   (.exit false [])))
  (.exit true [.v 1])
def XS(ds:List DV):Prop:=∃(l:List Int) (v:List (List DV)),ds=[.list (bytesI l),.list v]∧BI l∧v.length+l.length≤1000000
def iE(ds:List DV):Nat:=(lD ds 0).length
def Vp:List DV→Bool×List DV:=E4 AE 0 pVa iE
theorem ABU:∀ds,XS ds→CA XS iE (AA AE ds) ds pVa:=by
 rintro ds ⟨l,v,rfl,hB,hl⟩;generalize hR:AA AE [.list (bytesI l),.list v]=R;have e4:den R (.v 0)=.list (bytesI l):=by rw[←hR];rfl
 have e5:den R (.v 1)=.list v:=by rw[←hR];rfl
 have hI:R.I=AE:=by rw[←hR];rfl
 have dl:=AY e4
 have dV:den R (.app 12 [.v 0])=.list (Tf (ED l)):=by
  rw[AO,hI];simp only[ACO,ACS,e4];show DV.list (K4 [DV.list (bytesI l)])=_
  rw[show[DV.list (bytesI l)]=[[DV.list (bytesI l)]].flatten by simp,cZ]
 have dE:den R (vaD 2 0)=.int .i64 (ED l).1:=(Ab 0 dV (d_k .i64 2)).trans rfl
 have dN:den R (vaD 1 0)=.int .i64 (ED l).2.2:=(Ab 0 dV (d_k .i64 1)).trans rfl
 unfold pVa;refine D4 (AB (d_k .i64 0) dl) (fun g=>?_) (fun g=>trivial)
 refine CO ((AB (d_k .i64 1000000) dl).trans (congrArg DV.bool (ACR (by show ¬((1000000:Nat):Int)<l.length;omega)))) (D4 (AN dE (d_k .i64 0)) (fun h=>?_) (fun _=>trivial))
 have h:(ED l).1=0:=by simpa using h
 obtain⟨_,n1,n2,_⟩:=km hB (v:=(ED l).2.1) (n:=(ED l).2.2) (by rw[←h])
 have dC:den R (.cut (.v 0) (vaD 1 0) (.len (.v 0)))=.list (bytesI (l.drop (ED l).2.2)):=by
  rw[HB e4 dN dl];simp
 have nx:CA XS iE R [.list (bytesI l),.list v] vaN:=by
  unfold vaN CA;simp only[ACO,ACS,dC];refine⟨⟨l.drop (ED l).2.2,v++[[den R (vaD 0 0),den R (vaD 0 1),den R (vaD 0 2)]],?_,fun z hz=>hB z (ADC hz),by rw[ADA,ACT];show v.length+1+_≤_;omega⟩,?_⟩
  ·have:den R (.cat (.v 1) (.row [vaD 0 0,vaD 0 1,vaD 0 2]))=.list (v++[[den R (vaD 0 0),den R (vaD 0 1),den R (vaD 0 2)]]):=by
    rw[show den R (.cat (.v 1) (.row [vaD 0 0,vaD 0 1,vaD 0 2]))=Du (den R (.v 1)) (den R (.row [vaD 0 0,vaD 0 1,vaD 0 2])) from rfl,e5];rfl
   rw[this]
  ·show (bytesI _).length<(bytesI _).length
   simp only[JB,ADA];simp only[ACN]at g;omega
 refine CO ((AB (d_k .i64 1000000) (AF e5)).trans (congrArg DV.bool (ACR (by show ¬((1000000:Nat):Int)<v.length;omega)))) ?_
 refine CO ((AB (d_k .i64 0) dN).trans (congrArg DV.bool (ACb (by show ((0:Nat):Int)<_;omega)))) ?_
 refine D4 (AB dN dl) (fun _=>nx) (fun _=>CO ((AB dl dN).trans (congrArg DV.bool (ACR (by omega)))) nx)
def Z1:Nat→List DV→DV
 |160,ds=>.list (FL Vp ds)
 |n,ds=>AE n ds
theorem ze(I:Nat→List DV→DV):Am Tryz.prog G 153 [.one tB] [.agg tV,.one tI,.one tI] (fun ds=>∀p∈[Aj 0],den (AA I ds) p.1=.bool p.2) K4:=⟨wg.1,fun E ds vs w hE hr hp hg=>wg.2 E ds vs w hE hr (fun p hm=>by
  have h1:=hp p hm
  simp only[ACs]at hm;subst hm;exact h1) hg⟩
theorem xc{I:Nat→List DV→DV}(h:I 12=fun ds=>.list (K4 ds)):Ap Tryz.prog G I [eDv]:=⟨AP AI (ze I) (fun ds=>congrFun h ds) [] (by kernel_rfl),trivial⟩
theorem ABV(I:Nat→List DV→DV):(SVa.ok&&(Au SVa pVa&&AW SVa.L (B1 I (AR [eDv]) [] [] lX) [] pVa))=true:=by kernel_rfl
theorem xd{I:Nat→List DV→DV}(h1:I 12=fun ds=>.list (K4 ds))(h2:I 160=fun ds=>.list (FL Vp ds)):BJ Tryz.prog G I lX SVa.L:=by
 refine B5 (F:=Vp) (Inv:=XS) (μ:=iE) (AG (xc h1)) (sub:=[]) trivial (lps:=[]) AL (fun ds=>congrFun h2 ds) pVa (ABV I) ?_ (fun ds hi=>Fx (f:=[12]) (Jl (h1.trans rfl) JX) (by kernel_rfl) ABU hi)
 intro ds h hp;simp only[SVa,IsL]at h;obtain⟨d4,_,rfl,h4,d5,_,rfl,h5,rfl⟩:=h;obtain⟨l,rfl,hB,_⟩:=h4.ints;obtain⟨v,rfl,_⟩:=h5.list;have p0:=hp (Aj 0) (by simp[SVa])
 have e4:den (AA I [.list (bytesI l),.list v]) (.v 0)=.list (bytesI l):=rfl
 have p1:=hp (eql (.len (.v 1)) (k64 0),true) (by simp[SVa])
 have e5:den (AA I [.list (bytesI l),.list v]) (.v 1)=.list v:=rfl
 rw[show (Aj 0).1=lss (k64 1000000) (.len (.v 0)) from rfl,AB (d_k .i64 1000000) (AY e4)]at p0;rw[AN (AF e5) (d_k .i64 0)]at p1;simp only[Aj,DV.bool.injEq,ACK,ACN,ACZ]at p0 p1;exact⟨l,v,rfl,hB,by omega⟩
def Tw(Q:List (List SX)→Bool):Pln→Bool
 |.ask _ t f=>Tw Q t&&Tw Q f
 |.know _ _ p=>Tw Q p
 |.done r=>Q r
 |.never=>false
theorem H3{R:Rho}{Q:List (List SX)→Bool}:∀{p:Pln},Tw Q p=true→∃r,Q r=true∧evP R p=r.map (·.map (den R))
 |.ask e t f,h=>by
  simp only[Tw,ACH]at h;unfold evP;split
  ·exact H3 h.1
  ·exact H3 h.2
 |.know e b p,h=>H3 (p:=p) h
 |.done r,h=>⟨r,h,rfl⟩
 |.never,h=>by cases h
def c9:List (List SX)→Bool
 | [_,_,[.kb _]]=>true
 |_=>false
theorem lK(ds:List DV):∃a b c,Zs ds=[a,b,[.bool c]]:=by
 obtain⟨r,h1,h2⟩:=H3 (R:=AA roI ds) (Q:=c9) (p:=Tv) (by kernel_rfl)
 unfold c9 at h1;split at h1
 ·exact⟨_,_,_,h2⟩
 ·cases h1
def eqX(e:SX)(j b:Nat):Nat→Nat→List SX
 |_,0=>[]
 |k,n+1=>.bin .eql (.at e (k64 j) k) (.v (b+k))::eqX e j b (Nat.succ k) n
def eqY(e:SX)(j b:Nat):Nat→Nat→List SX
 |_,0=>[]
 |k,n+1=>.bin .eql (.v (b+k)) (.at e (k64 j) k)::eqY e j b (Nat.succ k) n
def iA(a b:Nat):Nat→List SX
 |0=>[]
 |n+1=>.bin .eql (.v a) (.v b)::iA (Nat.succ a) (Nat.succ b) n
abbrev exA:SX:=.app 145 (.v 0::.v 1::(AH 2 32++[.v 66]))
def iB:Pln:=.ask (.at exA (k64 2) 0) (.ask (.all (eqX exA 0 2 0 32)) (.done [[.all (eqX exA 1 34 0 32)]]) (.done [[.kb false]])) (.done [[.kb false]])
abbrev eRo:Ent:=eFn 149 [.one tI,.one tI,.agg Ad,.one DI] [.agg Ad,.agg Ad,.one .bool] [] 145 []
abbrev eRn:Ent:=eFn 39 [.nil] [.agg Ad,.one tI] [] 146 []
def LY:Nat→List DV→DV
 |145,ds=>.list (Zs ds)
 |146,ds=>.list (lI ds)
 |_,_=>.bool false
def pO(ds:List DV):List (List DV):=evP (AA LY ds) iB
def exI:Nat→List DV→DV
 |147,ds=>.list (pO ds)
 |n,ds=>LY n ds
abbrev CV:List Ty:=.int .u64::(Ad++Ad)
abbrev eEx:Ent:=eFn 122 [.one tI,.one tI,.agg Ad,.agg Ad,.one DI] [.one .bool] [] 147 []
abbrev grR:SX:=.app 146 []
abbrev grZ:SX:=eql (.len (.v 130)) (k64 0)
def grE:Pln:=.done [[.at (.app 147 (.conv .i64 (.v 65)::.conv .i64 (.v 0)::(AH 98 32++(AH 33 32++[.v 130])))) (k64 0) 0]]
def Tx:Pln:=.ask (eql (.v 65) (.v 0)) (.ask (.all (iA 65 0 65)) (.done [[grZ]]) (.done [[.kb false]]))
 (.ask (eql (.v 65) (.ki .u64 (.ofNat 0))) (.ask (.all (eqY grR 0 98 0 32)) (.done [[grZ]]) (.done [[.kb false]]))
 (.ask (lss (.v 65) (.v 0)) (.ask (lss (.ki .u64 (.ofNat 1024)) (.v 0)) (.done [[.kb false]]) grE) (.ask (lss (.ki .u64 (.ofNat 1024)) (.v 65)) (.done [[.kb false]]) grE)))
def Zt(ds:List DV):List (List DV):=evP (AA exI ds) Tx
set_option maxRecDepth 100000
theorem ABP:(hasB 122&&AJ [.one .bool] (Bc LY (AR [eRo]) [] [] 122 [.one tI,.one tI,.agg Ad,.agg Ad,.one DI]) [] iB)=true:=by kernel_rfl
theorem xW:(hasB 89&&AJ [.one .bool] (Bc exI (AR [eEx,eRn]) [] [] 89 [.agg CV,.agg CV,.one DI]) [] Tx)=true:=by kernel_rfl
theorem zV:Ap Tryz.prog G LY [eRo]:=⟨AP AI (td LY) (fun _=>rfl) _ rfl,trivial⟩
theorem zW:Am Tryz.prog G 122 [.one tI,.one tI,.agg Ad,.agg Ad,.one DI] [.one .bool] (fun _=>True) pO:=by
 have hk:=ABP
 rw[ACH]at hk;refine Av (AG zV) [] [] AL hk.1 iB hk.2 ?_
 intro ds _ _;refine Bq ?_
 have hI:(AA LY ds.flatten).I=LY:=rfl
 generalize AA LY ds.flatten=R at hI;obtain⟨a,b,c,hc⟩:=lK ((SX.v 0::.v 1::(AH 2 32++[.v 66])).map (den R));have dA:den R exA=.list [a,b,[.bool c]]:=by
  rw[AO,hI];exact congrArg DV.list hc
 obtain⟨x,hx⟩:=KW R (eqX exA 0 2 0 32);exact Ai (b:=c) ((Ab 0 dA (d_k .i64 2)).trans rfl) (fun _=>Ai hx (fun _=>trivial) (fun _=>trivial)) (fun _=>trivial)
theorem ABQ:Ap Tryz.prog G exI [eEx,eRn]:=⟨AP AI (pre_true zW) (fun _=>rfl) _ rfl,AP AI (pre_true ta) (fun _=>rfl) _ rfl,trivial⟩
theorem te:Am Tryz.prog G 89 [.agg CV,.agg CV,.one DI] [.one .bool] (fun _=>True) Zt:=by
 have hk:=xW
 rw[ACH]at hk;refine Av (AG ABQ) [] [] AL hk.1 Tx hk.2 ?_
 intro ds _ _;refine Bq ?_
 generalize AA exI ds.flatten=R;obtain⟨x1,h1⟩:=Bn R (.v 65) (.v 0);obtain⟨x2,h2⟩:=KW R (iA 65 0 65);obtain⟨x3,h3⟩:=Bn R (.v 65) (.ki .u64 (.ofNat 0));obtain⟨x4,h4⟩:=KW R (eqY grR 0 98 0 32);obtain⟨x5,h5⟩:=EJ R (.v 65) (.v 0);obtain⟨x6,h6⟩:=EJ R (.ki .u64 (.ofNat 1024)) (.v 0);obtain⟨x7,h7⟩:=EJ R (.ki .u64 (.ofNat 1024)) (.v 65);exact Ai h1 (fun _=>Ai h2 (fun _=>trivial) (fun _=>trivial)) (fun _=>Ai h3 (fun _=>Ai h4 (fun _=>trivial) (fun _=>trivial)) (fun _=>Ai h5 (fun _=>Ai h6 (fun _=>trivial) (fun _=>trivial)) (fun _=>Ai h7 (fun _=>trivial) (fun _=>trivial))))
def zOf(t:TypeId):Value:=((Tryz.prog.info? t).bind fun i=>i.zero).getD undef
def pa(t:TypeId):Nat:=((Tryz.prog.info? t).map fun i=>i.bytes).getD 0
set_option maxRecDepth 100000
theorem inD:(Tryz.prog.info? 31).map (fun i=>(i.zero,i.size,i.bytes))=some (some (zOf 31),65,pa 31):=by kernel_rfl
theorem inV:(Tryz.prog.info? 26).map (fun i=>(i.zero,i.size,i.bytes))=some (some (zOf 26),3,pa 26):=by kernel_rfl
theorem ABa:(Tryz.prog.info? 122).map (fun i=>(i.zero,i.size,i.bytes))=some (some (zOf 122),1,pa 122):=by kernel_rfl
theorem iJ(I:Nat→List DV→DV):FnOwn Tryz.prog G 47 [.one (.slice CV)] 31 CV [] (fun ds=>∀p∈[Aj 0],den (AA I ds) p.1=.bool p.2) (fun ds=>[[ds.getD 0 (.bool false)]]):=
 O9 Tryz.laysSlE41_f47 (ts:=CV) inD (by kernel_rfl) (by decide) (ADe (by kernel_rfl)) Tryz.sizeOf31 (by kernel_rfl) I
theorem rb(I:Nat→List DV→DV):FnOwn Tryz.prog G 52 [.one (.slice tV)] 26 tV [] (fun ds=>∀p∈[Aj 0],den (AA I ds) p.1=.bool p.2) (fun ds=>[[ds.getD 0 (.bool false)]]):=
 O9 Tryz.laysSlE41_f52 (ts:=tV) inV (by kernel_rfl) (by decide) (ADe (by kernel_rfl)) Tryz.sizeOf26 (by kernel_rfl) I
theorem zj(I:Nat→List DV→DV):FnOwn Tryz.prog G 51 [.one (.slice [tVs])] 122 [tVs] [] (fun ds=>∀p∈[Aj 0],den (AA I ds) p.1=.bool p.2) (fun ds=>[[ds.getD 0 (.bool false)]]):=
 O9 Tryz.laysSlE41_f51 (ts:=[tVs]) ABa (by kernel_rfl) (by decide) (ADe (by kernel_rfl)) Tryz.sizeOf122 (by kernel_rfl) I
def GI(x:SX):List SX:=[x,.ki .u32 (.ofNat 0),.ks (AS #[]),.kb false]++(zX tQry++[.kb false,k64 0,.emp])
def Dg(d:DV):List DV:=[d,.int .u32 0,.str (AS #[]),.bool false]++(zD tQry++[.bool false,.int .i64 0,.list []])
theorem RG{R:Rho}(x:SX):(GI x).map (den R)=Dg (den R x):=by
 unfold GI Dg;rw[ACd,ACd,Ih];rfl
def ZA(ds:List DV):List (List DV):=if Bj (Dg (ds.getD 0 (.bool false))) then [Dg (ds.getD 0 (.bool false)),[.int .i64 0]] else [Dg (.int .i64 0),[.int .i64 2]]
def nwC:SX:=.at (.app 126 (GI (.v 0))) (k64 0) 0
def vf:Pln:=.know (lss (k64 1000) (.len (.ks (AS #[])))) false (.ask (eql nwC (k64 0)) (.done [GI (.v 0),[k64 0]]) (.done [GI (k64 0),[k64 2]]))
set_option maxRecDepth 100000
theorem AAf:(hasB 5&&AJ [.agg BN,.one tI] (Bc knI (AR [RF]) [] [] 5 [.one tI]) [] vf)=true:=by kernel_rfl
theorem yj:Am Tryz.prog G 5 [.one tI] [.agg BN,.one tI] (fun _=>True) ZA:=by
 have hk:=AAf
 rw[ACH]at hk;refine Av (AG qd) [] [] AL hk.1 vf hk.2 ?_
 intro ds h _;simp only[An,Ba]at h;obtain⟨_,_,rfl,⟨d,rfl,h1⟩,rfl⟩:=h;have e0:den (AA knI [[d]].flatten) (.v 0)=d:=rfl
 have hF:ZA [[d]].flatten=if Bj (Dg d) then [Dg d,[.int .i64 0]] else [Dg (.int .i64 0),[.int .i64 2]]:=rfl
 rw[hF];have hC:den (AA knI [[d]].flatten) (.app 126 (GI (.v 0)))=.list [[.int .i64 (if Bj (Dg d) then 0 else 320)]]:=by
  rw[AO,RG,e0];rfl
 have dC:den (AA knI [[d]].flatten) nwC=.int .i64 (if Bj (Dg d) then 0 else 320):=(Ab 0 hC (d_k .i64 0)).trans rfl
 generalize Bj (Dg d)=ok at dC⊢;refine As rfl (AD (b:=ok) (by rw[AN dC (d_k .i64 0)];cases ok<;>rfl) (fun g=>?_) (fun g=>?_))
 ·rw[g];show _=[(GI (.v 0)).map (den _),[DV.int .i64 0]]
  rw[RG,e0];rfl
 ·rw[g];show _=[(GI (k64 0)).map (den _),[DV.int .i64 2]]
  rw[RG];rfl
abbrev iK:Ent:=eFn 47 [.one (.slice CV)] [.one (.slice CV)] [Aj 0] 129 []
abbrev eFr:Ent:=eFn 25 [.agg BN] [.one tI] Ie 130 []
def Vr(ds:List DV):List (List DV):=[[ds.getD 0 (.bool false)]]
def Ax:Nat→List DV→DV
 |30,ds=>.list (JW ds)
 |129,ds=>.list (Vr ds)
 |130,ds=>.list (My ds)
 |n,ds=>knI n ds
abbrev rdF:SX:=.at (.app 130 (AH 0 83)) (k64 0) 0
abbrev XT:SX:=.at (.app 30 (AH 83 76)) (k64 0) 0
abbrev clX:SX:=.at (.app 129 [.v 82]) (k64 0) 0
def pRd:Pln:=
 .know (lss (k64 1000) (.len (.v 5))) false (.ask (eql rdF (k64 0))
  (.know (lss (k64 1000) (.len (.v 84))) false (.ask (eql XT (k64 0))
   (.know (Aj 82).1 false (.done [AH 0 4++(AH 83 76++[.kb true,.v 81,clX]),[k64 0]]))
   (.done [GI (k64 0),[XT]])))
  (.done [GI (k64 0),[rdF]]))
set_option maxRecDepth 100000
theorem kRd(I:Nat→List DV→DV):(hasB 13&&AJ [.agg BN,.one tI] (Bc I (AR [eFr,iK,gG]) [] [] 13 [.agg BN,.agg tQry]) [] pRd)=true:=by kernel_rfl
abbrev re:List (SX×Bool):=[(lss (k64 1000) (.len (.v 5)),false),(lss (k64 1000) (.len (.v 84)),false),Aj 82]
theorem xn(I:Nat→List DV→DV):Am Tryz.prog G 25 [.agg BN] [.one tI] (fun ds=>∀p∈Ie,den (AA I ds) p.1=.bool p.2) My:=
 ⟨j6.1,fun E ds vs w hE hr hp hg=>j6.2 E ds vs w hE hr (fun p hm=>by
  have h1:=hp p hm
  simp only[Ie,ACs]at hm;subst hm;exact h1) hg⟩
theorem xo(I:Nat→List DV→DV):Am Tryz.prog G 22 [.agg tQry] [.one tI] (fun ds=>∀p∈Iw,den (AA I ds) p.1=.bool p.2) JW:=
 ⟨Ps.1,fun E ds vs w hE hr hp hg=>Ps.2 E ds vs w hE hr (fun p hm=>by
  have h1:=hp p hm
  simp only[Iw,ACs]at hm;subst hm;exact h1) hg⟩
theorem ABb:Ap Tryz.prog G Ax [eFr,iK,gG]:=⟨AP AI (xn Ax) (fun _=>rfl) _ rfl,AP AI (iJ Ax).data (fun _=>rfl) _ (by kernel_rfl),AP AI (xo Ax) (fun _=>rfl) _ (by kernel_rfl),trivial⟩
def Frd(ds:List DV):List (List DV):=evP (AA Ax ds) pRd
theorem ABc(I:Nat→List DV→DV):Am Tryz.prog G 13 [.agg BN,.agg tQry] [.agg BN,.one tI] (fun ds=>∀p∈re,den (AA I ds) p.1=.bool p.2) Frd:=by
 have hk:=kRd Ax
 rw[ACH]at hk;refine Av (AG ABb) [] [] AL hk.1 pRd hk.2 ?_
 intro ds _ hp;refine Bq ?_
 have p1:=hp (lss (k64 1000) (.len (.v 5)),false) (by simp)
 have p2:=hp (lss (k64 1000) (.len (.v 84)),false) (by simp)
 have p3:=hp (Aj 82) (by simp)
 generalize ds.flatten=D at *;have q1:den (AA Ax D) (lss (k64 1000) (.len (.v 5)))=.bool false:=p1
 have q2:den (AA Ax D) (lss (k64 1000) (.len (.v 84)))=.bool false:=p2
 have q3:den (AA Ax D) (Aj 82).1=.bool false:=p3
 generalize AA Ax D=R at *;obtain⟨b1,k1⟩:=Bn R rdF (k64 0);obtain⟨b2,k2⟩:=Bn R XT (k64 0);exact AU q1 (Ai k1 (fun _=>AU q2 (Ai k2 (fun _=>AU q3 trivial) (fun _=>trivial))) (fun _=>trivial))
end Go.Proofs.YtobajijkmmhdjaaGreatDoor.Se
end
