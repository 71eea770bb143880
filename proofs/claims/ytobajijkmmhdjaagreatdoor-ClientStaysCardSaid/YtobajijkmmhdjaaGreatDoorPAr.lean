/-
  A part of the proof of ClientStays (the machine on named data, and the contracts of the functions that the law reaches). Its names and spaces were shortened by a program of ours.
-/
import Derived.Lib.AppendZerosOnto
import Derived.Lib.Overlaps
import Derived.Laws.Externs
import Derived.Laws.CopyRow
import Derived.Deep.AppendSrc
import Derived.Lib.Walk
import Derived.Lib.JoinLaws
import Derived.Laws.NewBlocks
import Derived.Shelf.RegionOpenPlain
import Derived.WalkKit
import Derived.Laws.IdiomStrings
import Derived.Lib.SliceRun
import Derived.Test.YtobajijkmmhdjaaGreatDoorPAq
import Derived.Test.YtobajijkmmhdjaaGreatDoorPAm
import Derived.Test.YtobajijkmmhdjaaGreatDoorPAn
import Derived.Test.YtobajijkmmhdjaaGreatDoorPAh
import Derived.Test.YtobajijkmmhdjaaGreatDoorPAi
set_option linter.all false
noncomputable section
namespace Go.Proofs.YtobajijkmmhdjaaGreatDoor.Se
open Go Go.AM
abbrev doS:SX:=.bin .add (.v 1) (.ki .u32 (.ofNat 1))
abbrev doB:Pln:=.done [GI (k64 0),[k64 270]]
def pDo:Pln:=
 .know (Aj 82).1 false (.know (lss (k64 1000) (.len (.v 5))) false (.ask (eql rdF (k64 0))
  (.ask (lss (.v 0) (k64 1)) doB (.ask (lss (k64 3) (.v 0)) doB (.ask (lss (k64 1019) (.len (.v 83))) doB
   (.ask (eql doS (.ki .u32 (.ofNat 0))) (.done [GI (k64 0),[k64 6]])
    (.done [[.v 0,doS,.v 83,.kb true]++(AH 4 78++[clX]),[k64 0]])))))
  (.done [GI (k64 0),[rdF]])))
set_option maxRecDepth 100000
theorem kDo(I:Nat→List DV→DV):(hasB 11&&AJ [.agg BN,.one tI] (Bc I (AR [eFr,iK]) [] [] 11 [.agg BN,.one .str]) [] pDo)=true:=by kernel_rfl
abbrev rh:List (SX×Bool):=[(lss (k64 1000) (.len (.v 5)),false),Aj 82]
theorem ABd:Ap Tryz.prog G Ax [eFr,iK]:=⟨AP AI (xn Ax) (fun _=>rfl) _ rfl,AP AI (iJ Ax).data (fun _=>rfl) _ (by kernel_rfl),trivial⟩
def Fdo(ds:List DV):List (List DV):=evP (AA Ax ds) pDo
theorem ABe(I:Nat→List DV→DV):Am Tryz.prog G 11 [.agg BN,.one .str] [.agg BN,.one tI] (fun ds=>∀p∈rh,den (AA I ds) p.1=.bool p.2) Fdo:=by
 have hk:=kDo Ax
 rw[ACH]at hk;refine Av (AG ABd) [] [] AL hk.1 pDo hk.2 ?_
 intro ds _ hp;refine Bq ?_
 have p1:=hp (lss (k64 1000) (.len (.v 5)),false) (by simp)
 have p3:=hp (Aj 82) (by simp)
 generalize ds.flatten=D at *;have q1:den (AA Ax D) (lss (k64 1000) (.len (.v 5)))=.bool false:=p1
 have q3:den (AA Ax D) (Aj 82).1=.bool false:=p3
 generalize AA Ax D=R at *;obtain⟨b1,k1⟩:=Bn R rdF (k64 0);obtain⟨b2,k2⟩:=EJ R (.v 0) (k64 1);obtain⟨b3,k3⟩:=EJ R (k64 3) (.v 0);obtain⟨b4,k4⟩:=EJ R (k64 1019) (.len (.v 83));obtain⟨b5,k5⟩:=Bn R doS (.ki .u32 (.ofNat 0));exact AU q3 (AU q1 (Ai k1 (fun _=>Ai k2 (fun _=>trivial) (fun _=>Ai k3 (fun _=>trivial) (fun _=>Ai k4 (fun _=>trivial) (fun _=>Ai k5 (fun _=>trivial) (fun _=>trivial))))) (fun _=>trivial)))
end Go.Proofs.YtobajijkmmhdjaaGreatDoor.Se
namespace Go.Proofs.YtobajijkmmhdjaaGreatDoor.Se
open Go Go.AM Go.RowKit Go.Lib
section
variable {P:Program}
theorem Wj{ops:Array Oper}{o:Oper}{a:Act}{w:World}{K:Act→World→Prop}{Q:Exit→Act→World→Prop}{E:Prop}
  (hg:o.guard=none) (d x:Operand) (dT sT:TypeId) (hop:o.op=Op.call {callee:=Callee.builtin Builtin.copy,args:=#[d,x],argTypes:=#[dT,sT]})
  (v u:Value) (hd:a.eval d=v) (hx:a.eval x=u) {v':Value} {w':World} (hr:(Builtin.copy_ #[dT,sT] o.type #[v,u]).run P w=.ok v' w') (hK:K (a.put o.dst v') w'):
  if Region.wanted o (yielded ops a.tmps)=true then Oper.wp P o a w K Q else E:=by
 have hw:Region.wanted o (yielded ops a.tmps)=true:=by simp[Region.wanted,hg]
 rw[if_pos hw];unfold Oper.wp;simp[execOp,hop,resolve,invoke,builtin,hd,hx,hr,Result.andThen];exact hK
theorem JV(w:World)(dT sT ty elem:TypeId)(g o dLen dCap k:Nat)(a:Addr)(sLen sCap:Nat)(cur:Array Value)(t:TypeId)(cs:List Value)
  (hu:P.underlying dT=some (.slice elem)) (hs:(P.info? elem).map (·.size)=some k)
  (hg:w.heap[g]? =some (.cells cur t (0,0))) (m:Nat) (hm:Nat.min sLen dLen=m) (hn:cs.length=m*k)
  (hsrc:∀j v,cs[j]? =some v→w.cell? (a.add j)=some v) (hfit:o+cs.length≤cur.size) (h1:∀v∈cs,v.oneCell'=true):
  (Builtin.copy_ #[dT,sT] ty #[.slice (some ⟨g,o,none⟩) dLen dCap,.slice (some a) sLen sCap]).run P w=
   .ok (goInt m) (w.setRow g (cur.toList.take o++cs++cur.toList.drop (o+cs.length)).toArray):=by
 have hl:=run_loadCells_list (P:=P) w a cs hsrc
 have hst:=run_storeCells_at P g o t cs 0 cur w hg (by simpa using hfit) h1
 cases hq:P.info? elem with
 |none=>simp[hq]at hs
 |some i=>
  have hi:i.size=k:=by simpa[hq]using hs
  rw[hn]at hl;subst hm;simp[Builtin.copy_,run_underlying hu,Builtin.lenOf,Builtin.firstCells,sizeOf,typeInfo,hq,hi,hl,hst]
end
theorem ABR:(Tryz.prog.info? 31).map (fun i=>(i.size,i.bytes,i.zero.map fun z=>z.cells.size))=some (65,72,some 65):=by kernel_rfl
abbrev Vm:FuncId:=92
theorem Zu:(Tryz.prog.info? 31).map (·.size)=some 65:=by kernel_rfl
theorem ovl(w:World)(vb b:Nat)(o la ca lb cb:Nat)(hne:vb≠b)(vcur cur:Array Value)(el:TypeId)(hv:w.heap[vb]? =some (.cells vcur el (0,0)))(hb:w.heap[b]? =some (.cells cur el (0,0)))(hpos:cur.size≠0):
  (callFunc 126 #[.slice (some ⟨vb,0,none⟩) la ca,.slice (some ⟨b,o,none⟩) lb cb]).run Tryz.prog w=.ok (.value (.bool false)) w:=by
 have h1:w.shape? vb=some (el,vcur.size):=by simp[World.shape?,hv]
 have h2:w.shape? b=some (el,cur.size):=by simp[World.shape?,hb]
 have h3:w.frozen? ⟨vb,0,none⟩=false:=by simp[World.frozen?,hv]
 have h4:w.frozen? ⟨vb,vcur.size,none⟩=false:=by simp[World.frozen?,hv]
 rw[run_callFunc_extern Tryz.func126 (by kernel_rfl) (by kernel_rfl) (by kernel_rfl) (e:=Extern.SlicesOverlaps.overlaps #[34,34] #[4]) (by kernel_rfl),
  Lib.run_overlaps_apart w 34 4 31 Tryz.underlying34 65 (fun w=>by
   obtain⟨i0,hi,hsz⟩:=ACa.1 Zu;simp[Go.sizeOf,typeInfo,hi,hsz]) ⟨vb,0,none⟩ ⟨b,o,none⟩ la ca lb cb hne el el vcur.size cur.size h1 h2 hpos h3 h4]
 rfl
set_option maxHeartbeats 4000000 in
set_option maxRecDepth 100000 in
theorem lL(b n c i vb vc:Nat)(cur vcur:Array Value)(w:World)(hi:i<n)(hroom:n+1≤c)(hc63:c≤9223372036854775807)(hvb:vb≠b)
  (hb:w.heap[b]? =some (.cells cur 31 (0,0))) (hsz:c*65≤cur.size) (hv:w.heap[vb]? =some (.cells vcur 31 (0,0))) (hvs:65≤vcur.size)
  (h1c:∀v∈cur.toList.take (n*65),v.oneCell'=true) (h1v:∀v∈vcur.toList.take 65,v.oneCell'=true):
  Calls Tryz.prog Vm #[.slice (some ⟨b,0,none⟩) n c,.int .i64 i,.slice (some ⟨vb,0,none⟩) 1 vc] w fun e w'=>
   e=.returned (.slice (some ⟨b,0,none⟩) (n+1) c)∧∃cur',w'=w.drew.setRow b cur'∧cur'.size=cur.size∧cur'.toList.take ((n+1)*65)=cur.toList.take (i*65)++vcur.toList.take 65++(cur.toList.take (n*65)).drop (i*65):=by
 have mixed:=GL
 have hz2:¬((i:Int)=(n:Int)):=by omega
 have hov:∀la lb cb o,(callFunc 126 #[.slice (some ⟨vb,0,none⟩) la vc,.slice (some ⟨b,o,none⟩) lb cb]).run Tryz.prog w=.ok (.value (.bool false)) w:=fun la lb cb o=>ovl w vb b o la vc lb cb hvb vcur cur _ hv hb (by omega)
 have hw1:IntKind.i64.wrap ((i:Int)+1)=(i:Int)+1:=by rw[IntKind.wrap_i64];omega
 have hw2:IntKind.i64.wrap ((n:Int)+1)=(n:Int)+1:=by rw[IntKind.wrap_i64];omega
 have hb1:(0:Int)≤(i:Int)+1:=by omega
 have hin:i≤n:=by omega
 have htn:((i:Int)+1).toNat=i+1:=by omega
 have htm:((n:Int)+1).toNat=n+1:=by omega
 have hb2:¬(c=i+1):=by omega
 have hb3:(i:Int)≤(n:Int)+1:=by omega
 have hb4:¬(c=i):=by omega
 obtain⟨cs,hcs⟩:∃cs,cs=(cur.toList.take (n*65)).drop (i*65):=⟨_,rfl⟩;have hcl:cs.length=(n-i)*65:=by rw[hcs,ADA,ACh,ACp];omega
 have hbd:w.drew.heap[b]? =some (.cells cur 31 (0,0)):=hb
 obtain⟨cur1,hcur1⟩:∃cur1:Array Value,cur1=(cur.toList.take ((i+1)*65)++cs++cur.toList.drop ((i+1)*65+cs.length)).toArray:=⟨_,rfl⟩;have hs1:cur1.size=cur.size:=by rw[hcur1];simp;omega
 have hcp1:∀ty dc sc,(Builtin.copy_ #[34,34] ty #[.slice (some ⟨b,(i+1)*65,none⟩) (n-i) dc,.slice (some ⟨b,i*65,none⟩) (n+1-i) sc]).run Tryz.prog w.drew=.ok (goInt (n-i:Nat)) (w.drew.setRow b cur1):=fun ty dc sc=>by
  rw[hcur1];refine JV w.drew _ _ ty 31 b ((i+1)*65) (n-i) dc 65 ⟨b,i*65,none⟩ (n+1-i) sc cur _ cs Tryz.underlying34 Zu hbd (n-i) (by simp only[Nat.min_def];split<;>omega) hcl (fun j v hj=>?_) (by omega) (fun v hv=>h1c v (by rw[hcs]at hv;exact ADC hv))
  rw[Addr.add_lit];simp only[World.cell?,hbd];rw[hcs,AC9]at hj;rw[AC6]at hj;split at hj
  ·simpa using hj
  ·cases hj
 have hb1':(w.drew.setRow b cur1).heap[b]? =some (.cells cur1 31 (0,0)):=setRow_heap w.drew b cur _ _ _ hbd
 have hv1':(w.drew.setRow b cur1).heap[vb]? =some (.cells vcur 31 (0,0)):=(setRow_other w.drew b vb cur1 hvb).trans hv
 obtain⟨vs,hvs'⟩:∃vs,vs=vcur.toList.take 65:=⟨_,rfl⟩;have hvl:vs.length=65:=by rw[hvs',ACh,ACp];omega
 obtain⟨cur2,hcur2⟩:∃cur2:Array Value,cur2=(cur1.toList.take (i*65)++vs++cur1.toList.drop (i*65+vs.length)).toArray:=⟨_,rfl⟩;have hs2:cur2.size=cur.size:=by rw[hcur2];simp;omega
 have hcp2:∀ty dc,(Builtin.copy_ #[34,34] ty #[.slice (some ⟨b,i*65,none⟩) (n+1-i) dc,.slice (some ⟨vb,0,none⟩) 1 vc]).run Tryz.prog (w.drew.setRow b cur1)=.ok (goInt (1:Nat)) ((w.drew.setRow b cur1).setRow b cur2):=fun ty dc=>by
  rw[hcur2];refine JV _ _ _ ty 31 b (i*65) (n+1-i) dc 65 ⟨vb,0,none⟩ 1 vc cur1 _ vs Tryz.underlying34 Zu hb1' 1 (by simp only[Nat.min_def];split<;>omega) (by omega) (fun j v hj=>?_) (by omega) (fun v hv=>h1v v (by rw[←hvs'];exact hv))
  rw[Addr.add_lit];simp only[World.cell?,hv1',ACk];rw[hvs',AC6]at hj;split at hj
  ·simpa using hj
  ·cases hj
 have hfin:(w.drew.setRow b cur1).setRow b cur2=w.drew.setRow b cur2:=setRow_setRow _ _ _ _
 have hrow:cur2.toList.take ((n+1)*65)=cur.toList.take (i*65)++vcur.toList.take 65++(cur.toList.take (n*65)).drop (i*65):=by
  rw[←hcs,←hvs'];have e1:cur1.toList.take (i*65)=cur.toList.take (i*65):=by
   rw[hcur1];simp only[ACy];rw[ACz (by rw[ACh,ACp];omega),AEh]
   congr 1
   omega
  have e2:cur1.toList.drop (i*65+65)=cs++cur.toList.drop ((i+1)*65+cs.length):=by
   rw[hcur1];simp only[ACy];rw[ADL (by rw[ACh,ACp];omega)]
   rw[AC2 (by rw[ACh,ACp];omega)]
   rfl
  rw[hcur2,hvl];simp only[e1,e2];rw[←ACy,ACz (by simp;omega),ACg (by simp;omega)]
 clear hcs hcur1 hvs' hcur2 hcl hvl hs1
 go_enter Tryz.func92,Tryz.ntmps92
 go_wp2_with (simp only[hov])
 go_region_law_o (refine Wj rfl _ _ 34 34 rfl _ _ (by simp[Act.eval,Act.put]) (by simp[Act.eval,Act.put]) (hcp1 _ _ _) ?_)
 go_wp2_with (at_builtin;refine wpL_copy _ rfl _ _ 34 34 rfl _ _ rfl rfl (hcp2 _ _) ?_)
 go_ret
 first|exact⟨rfl,cur2,rfl,hs2,hrow⟩|exact⟨rfl,cur2,hfin,hs2,hrow⟩
theorem XR:∃i z,Tryz.prog.info? 31=some i∧i.zero=some z∧i.size=65∧i.bytes=72∧z.cells.size=65:=by
 have h:=ABR
 cases e:Tryz.prog.info? 31 with
 |none=>rw[e]at h;cases h
 |some i=>
  rw[e]at h;simp only[ADF,ACJ,ACP,ACa]at h;obtain⟨h1,h2,z,h3,h4⟩:=h;exact⟨i,z,rfl,h3,h1,h2,h4⟩
set_option maxHeartbeats 4000000 in
set_option maxRecDepth 100000 in
theorem Zv(b n c vb vc:Nat)(cur vcur:Array Value)(w:World)(hroom:n+1≤c)(hc63:c≤9223372036854775807)
  (hb:w.heap[b]? =some (.cells cur 31 (0,0))) (hsz:c*65≤cur.size) (hv:w.heap[vb]? =some (.cells vcur 31 (0,0))) (hvs:65≤vcur.size)
  (h1v:∀v∈vcur.toList.take 65,v.oneCell'=true):
  Calls Tryz.prog Vm #[.slice (some ⟨b,0,none⟩) n c,.int .i64 n,.slice (some ⟨vb,0,none⟩) 1 vc] w fun e w'=>
   e=.returned (.slice (some ⟨b,0,none⟩) (n+1) c)∧∃cur',w'=w.setRow b cur'∧cur'.size=cur.size∧cur'.toList.take ((n+1)*65)=cur.toList.take (n*65)++vcur.toList.take 65:=by
 have mixed:=GL
 obtain⟨i0,z,hi0,hz0,hz1,hz2,hz3⟩:=XR;obtain⟨vs,hvs'⟩:∃vs,vs=vcur.toList.take 65:=⟨_,rfl⟩;have hvl:vs.length=65:=by rw[hvs',ACh,ACp];omega
 obtain⟨cur2,hcur2⟩:∃cur2:Array Value,cur2=(cur.toList.take (n*65)++vs++cur.toList.drop (n*65+vs.length)).toArray:=⟨_,rfl⟩;have hs2:cur2.size=cur.size:=by rw[hcur2];simp;omega
 have hrun:∀ty,(Builtin.append_ #[34,34] ty #[.slice (some ⟨b,0,none⟩) n c,.slice (some ⟨vb,0,none⟩) 1 vc]).run Tryz.prog w=.ok (.slice (some ⟨b,0,none⟩) (n+1) c) (w.setRow b cur2):=fun ty=>by
  have h:=run_append_room (P:=Tryz.prog) w 34 ty 31 i0 Tryz.underlying34 hi0 b n c cur hb ⟨vb,0,none⟩ 1 vc vs (by rw[hz1,hvl]) (fun j u hj=>by
   rw[Addr.add_lit];simp only[World.cell?,hv,ACk];rw[hvs',AC6]at hj;split at hj
   ·simpa using hj
   ·cases hj) (fun u hu=>h1v u (by rw[←hvs'];exact hu)) hroom (by rw[hz1];omega)
  rw[hz1]at h;rw[hcur2];exact h
 have hrow:cur2.toList.take ((n+1)*65)=cur.toList.take (n*65)++vcur.toList.take 65:=by
  rw[←hvs',hcur2];simp only;rw[ACz (by simp;omega),ACg (by simp;omega)]
 clear hvs' hcur2 hvl hz0 hz1 hz2 hz3 hi0
 go_enter Tryz.func92,Tryz.ntmps92
 go_wp2_with (at_builtin;refine Lib.wpList_append_run _ rfl _ _ _ _ rfl _ _ rfl rfl _ _ (hrun _) ?_)
 go_ret
 exact⟨rfl,cur2,rfl,hs2,hrow⟩
theorem Vn(z:Array Value)(n:Nat):(Builtin.zeroCells z n).size=n*z.size:=by simp[Builtin.zeroCells]
set_option maxHeartbeats 4000000 in
set_option maxRecDepth 100000 in
theorem O6(base:Option Addr)(b n c vb vc:Nat)(cs:List Value)(vcur:Array Value)(w:World)(hnc:n≤c)(hroom:c<n+1)(hbig:n≤1000000)
  (hbase:base=some ⟨b,0,none⟩∨n=0) (hcl:cs.length=n*65) (hcs:base=some ⟨b,0,none⟩→∀j v,cs[j]? =some v→w.cell? ⟨b,j,none⟩=some v)
  (hv:w.heap[vb]? =some (.cells vcur 31 (0,0))) (hvs:65≤vcur.size) (h1v:∀v∈vcur.toList.take 65,v.oneCell'=true):
  Calls Tryz.prog Vm #[.slice base n c,.int .i64 n,.slice (some ⟨vb,0,none⟩) 1 vc] w fun e w'=>
   ∃G,e=.returned (.slice (some ⟨w.heap.size,0,none⟩) (n+1) G)∧n+1≤G∧G≤maxLen∧∃cur',w'=w.drew.alloc (.cells cur' 31)∧cur'.size=G*65∧cur'.toList.take ((n+1)*65)=cs++vcur.toList.take 65:=by
 have mixed:=GL
 obtain⟨i0,z,hi0,hz0,hz1,hz2,hz3⟩:=XR;obtain⟨vs,hvs'⟩:∃vs,vs=vcur.toList.take 65:=⟨_,rfl⟩;have hvl:vs.length=65:=by rw[hvs',ACh,ACp];omega
 have hsrc:Src Tryz.prog i0.size 34 (.slice (some ⟨vb,0,none⟩) 1 vc) 1 vs w:=by
  rw[hz1];exact Src.ofSlice w Tryz.underlying34 ⟨vb,0,none⟩ 1 vc vs (by omega) (fun j u hj=>by
   rw[Addr.add_lit];simp only[World.cell?,hv,ACk];rw[hvs',AC6]at hj;split at hj
   ·simpa using hj
   ·cases hj) (fun u hu=>h1v u (by rw[←hvs'];exact hu))
 have hold:(Builtin.firstCells i0.size n (.slice base n c)).run Tryz.prog w.drew=.ok cs.toArray w.drew:=by
  rw[hz1];rcases hbase with rfl|h0
  ·exact run_firstCells_some w.drew 65 n ⟨b,0,none⟩ n c cs hcl (fun j v hj=>by
    rw[Addr.add_lit,ACk];exact hcs rfl j v hj)
  ·subst h0;have hnil:=ACi.1 (by omega:cs.length=0)
   subst hnil;cases base with
   |none=>exact run_firstCells_none w.drew 65 0 0 c
   |some a=>exact run_firstCells_some w.drew 65 0 a 0 c [] rfl (fun j v hj=>by simp at hj)
 obtain⟨Gc,hGc⟩:∃Gc,Gc=grownCap w (n+1) c 31:=⟨_,rfl⟩;obtain⟨cur2,hcur2⟩:∃cur2:Array Value,cur2=(cs++vs).toArray++Builtin.zeroCells z.cells (Gc-(n+1)):=⟨_,rfl⟩;have hG1:n+1≤Gc:=by rw[hGc];exact grownCap_ge w _ _ _
 have hG2:Gc≤maxLen:=by rw[hGc];exact grownCap_le_maxLen w (n+1) c _ (by unfold maxLen;omega)
 have hs2:cur2.size=Gc*65:=by
  rw[hcur2,ADs,Vn,hz3];simp;omega
 have hrun:∀ty,(Builtin.append_ #[34,34] ty #[.slice base n c,.slice (some ⟨vb,0,none⟩) 1 vc]).run Tryz.prog w=.ok (.slice (some ⟨w.heap.size,0,none⟩) (n+1) Gc) (w.drew.alloc (.cells cur2 31)):=fun ty=>by
  rw[hcur2,hGc];exact run_append_grow_src w 34 34 ty 31 i0 z Tryz.underlying34 hi0 hz0 base n c cs hold _ 1 vs hsrc hroom (by omega) (by rw[hz2];exact growslice_fits (bytes:=72) hroom (by omega))
 have hrow:cur2.toList.take ((n+1)*65)=cs++vcur.toList.take 65:=by
  rw[←hvs',hcur2];simp only[AD8];rw[ACz (by simp;omega),ACg (by simp;omega)]
 clear hvs' hcur2 hvl hz0 hz1 hz2 hz3 hi0 hGc hold hsrc
 go_enter Tryz.func92,Tryz.ntmps92
 cases base with
 |none=>
  have h0:n=0:=by
   rcases hbase with h|h
   ·cases h
   ·exact h
  subst h0
  go_wp2_with (at_builtin;refine Lib.wpList_append_run _ rfl _ _ _ _ rfl _ _ rfl rfl _ _ (hrun _) ?_)
  go_ret
  exact⟨Gc,rfl,hG1,hG2,cur2,rfl,hs2,hrow⟩
 |some a=>
  obtain⟨ab,ao,asp⟩:=a;clear hbase hcs
  go_wp2_with (at_builtin;refine Lib.wpList_append_run _ rfl _ _ _ _ rfl _ _ rfl rfl _ _ (hrun _) ?_)
  all_goals (go_ret;exact⟨Gc,rfl,hG1,hG2,cur2,rfl,hs2,hrow⟩)
set_option maxHeartbeats 8000000 in
set_option maxRecDepth 100000 in
theorem pP(b n c i vb vc:Nat)(cs:List Value)(vcur:Array Value)(w:World)(hi:i<n)(hnc:n≤c)(hroom:c<n+1)(hbig:n≤1000000)(hvw:vb<w.heap.size)(hbw:b<w.heap.size)
  (hcl:cs.length=n*65) (hcs:∀j v,cs[j]? =some v→w.cell? ⟨b,j,none⟩=some v) (h1c:∀v∈cs,v.oneCell'=true)
  (hv:w.heap[vb]? =some (.cells vcur 31 (0,0))) (hvs:65≤vcur.size) (h1v:∀v∈vcur.toList.take 65,v.oneCell'=true):
  Calls Tryz.prog Vm #[.slice (some ⟨b,0,none⟩) n c,.int .i64 i,.slice (some ⟨vb,0,none⟩) 1 vc] w fun e w'=>
   ∃G,e=.returned (.slice (some ⟨w.heap.size,0,none⟩) (n+1) G)∧n+1≤G∧G≤maxLen∧∃cur' q,(∀k,k<w.heap.size→w'.heap[k]? =w.heap[k]?)∧ioOf w'=ioOf w∧q=w'.heap.size∧w'.heap[w.heap.size]? =some (.cells cur' 31 (0,0))∧cur'.size=G*65∧cur'.toList.take ((n+1)*65)=cs.take (i*65)++vcur.toList.take 65++cs.drop (i*65):=by
 have mixed:=GL
 obtain⟨i0,z,hi0,hz0,hz1,hz2,hz3⟩:=XR;have hq1:¬((i:Int)=(n:Int)):=by omega
 have hq2:(c:Int)<(n:Int)+1:=by omega
 have hw1:IntKind.i64.wrap ((i:Int)+1)=(i:Int)+1:=by rw[IntKind.wrap_i64];omega
 have hw2:IntKind.i64.wrap ((n:Int)+1)=(n:Int)+1:=by rw[IntKind.wrap_i64];omega
 have hw3:IntKind.i64.wrap ((n:Int)+1-(i:Int))=(n:Int)+1-(i:Int):=by rw[IntKind.wrap_i64];omega
 have hb1:(0:Int)≤(i:Int)+1:=by omega
 have hin:i≤n:=by omega
 have htn:((i:Int)+1).toNat=i+1:=by omega
 have hb3:(i:Int)≤(n:Int)+1:=by omega
 have hkk:(n:Int)+1-(i:Int)=((n+1-i:Nat):Int):=by omega
 have hik:i+(n+1-i)=n+1:=by omega
 obtain⟨vs,hvs'⟩:∃vs,vs=vcur.toList.take 65:=⟨_,rfl⟩;have hvl:vs.length=65:=by rw[hvs',ACh,ACp];omega
 obtain⟨olds,hol⟩:∃olds,olds=cs.take (i*65):=⟨_,rfl⟩;have hll:olds.length=i*65:=by rw[hol,ACh];omega
 obtain⟨tails,htl'⟩:∃tails,tails=cs.drop (i*65):=⟨_,rfl⟩;have htl2:tails.length=(n-i)*65:=by rw[htl',ADA];omega
 have hold:(Builtin.firstCells i0.size i (.slice (some ⟨b,0,none⟩) i c)).run Tryz.prog w.drew=.ok olds.toArray w.drew:=by
  rw[hz1];exact run_firstCells_some w.drew 65 i ⟨b,0,none⟩ i c olds hll (fun j v hj=>by
   rw[Addr.add_lit,ACk];rw[hol,AC6]at hj;split at hj
   ·exact hcs j v hj
   ·cases hj)
 obtain⟨Gc,hGc⟩:∃Gc,Gc=grownCap w (n+1) c 31:=⟨_,rfl⟩;have hG1:n+1≤Gc:=by rw[hGc];exact grownCap_ge w _ _ _
 have hG2:Gc≤maxLen:=by rw[hGc];exact grownCap_le_maxLen w (n+1) c _ (by unfold maxLen;omega)
 obtain⟨R0,hR0⟩:∃R0:Array Value,R0=olds.toArray++Builtin.zeroCells z.cells (n+1-i)++Builtin.zeroCells z.cells (Gc-(n+1)):=⟨_,rfl⟩;have hs0:R0.size=Gc*65:=by
  rw[hR0];simp only[ADs,Vn,hz3,ADm,hll];omega
 have hrz:∀ty,(Builtin.append_ #[34,3] ty #[.slice (some ⟨b,0,none⟩) i c,.int .i64 ((n:Int)+1-(i:Int))]).run Tryz.prog w=.ok (.slice (some ⟨w.heap.size,0,none⟩) (n+1) Gc) (w.drew.alloc (.cells R0 31)):=fun ty=>by
  have h:=Lib.run_append_grow_zeros w 34 3 ty 31 i0 z .i64 .i64 Tryz.underlying34 Tryz.underlying3 hi0 hz0 (some ⟨b,0,none⟩) i c olds hold (n+1-i) (by omega) (by omega) (by omega) (by omega) (by rw[hz2];omega) (by rw[hz2,hik];exact growslice_fits (bytes:=72) hroom (by omega))
  rw[hik]at h;rw[hkk,hR0,hGc];exact h
 obtain⟨W1,hW1⟩:∃W1,W1=w.drew.alloc (.cells R0 31):=⟨_,rfl⟩;have hW1b:W1.heap[w.heap.size]? =some (.cells R0 31 (0,0)):=by rw[hW1];exact heap_alloc_new w.drew _
 have hW1o:∀k,k<w.heap.size→W1.heap[k]? =w.heap[k]? :=fun k hk=>by rw[hW1];exact heap_alloc_old w.drew _ hk
 obtain⟨R1,hR1⟩:∃R1:Array Value,R1=(R0.toList.take (i*65)++vs++R0.toList.drop (i*65+vs.length)).toArray:=⟨_,rfl⟩;have hs1:R1.size=R0.size:=by rw[hR1];simp;omega
 have hcpA:∀ty dc,(Builtin.copy_ #[34,34] ty #[.slice (some ⟨w.heap.size,i*65,none⟩) (n+1-i) dc,.slice (some ⟨vb,0,none⟩) 1 vc]).run Tryz.prog W1=.ok (goInt (1:Nat)) (W1.setRow w.heap.size R1):=fun ty dc=>by
  rw[hR1];refine JV _ _ _ ty 31 w.heap.size (i*65) (n+1-i) dc 65 ⟨vb,0,none⟩ 1 vc R0 _ vs Tryz.underlying34 Zu hW1b 1 (by simp only[Nat.min_def];split<;>omega) (by omega) (fun j v hj=>?_) (by rw[hs0];omega) (fun v hv=>h1v v (by rw[←hvs'];exact hv))
  rw[Addr.add_lit];simp only[World.cell?,hW1o vb hvw,hv,ACk];rw[hvs',AC6]at hj;split at hj
  ·simpa using hj
  ·cases hj
 obtain⟨W2,hW2⟩:∃W2,W2=(W1.setRow w.heap.size R1).drew:=⟨_,rfl⟩;have hW2b:W2.heap[w.heap.size]? =some (.cells R1 31 (0,0)):=by rw[hW2];exact setRow_heap W1 _ R0 _ _ _ hW1b
 have hW2o:∀k,k<w.heap.size→W2.heap[k]? =w.heap[k]? :=fun k hk=>by
  rw[hW2];exact (setRow_other W1 _ k R1 (by omega)).trans (hW1o k hk)
 obtain⟨R2,hR2⟩:∃R2:Array Value,R2=(R1.toList.take ((i+1)*65)++tails++R1.toList.drop ((i+1)*65+tails.length)).toArray:=⟨_,rfl⟩;have hs2:R2.size=R1.size:=by rw[hR2];simp;omega
 have hcpB:∀ty dc sc,(Builtin.copy_ #[34,34] ty #[.slice (some ⟨w.heap.size,(i+1)*65,none⟩) (n-i) dc,.slice (some ⟨b,i*65,none⟩) (n-i) sc]).run Tryz.prog W2=.ok (goInt (n-i:Nat)) (W2.setRow w.heap.size R2):=fun ty dc sc=>by
  rw[hR2];refine JV _ _ _ ty 31 w.heap.size ((i+1)*65) (n-i) dc 65 ⟨b,i*65,none⟩ (n-i) sc R1 _ tails Tryz.underlying34 Zu hW2b (n-i) (by simp only[Nat.min_def];split<;>omega) htl2 (fun j v hj=>?_) (by rw[hs1,hs0];omega) (fun v hv=>h1c v (by rw[htl']at hv;exact ADC hv))
  rw[Addr.add_lit];rw[htl',AC9]at hj;have:=hcs _ v hj
  simpa only[World.cell?,hW2o b hbw]using this
 have hrow:R2.toList.take ((n+1)*65)=cs.take (i*65)++vcur.toList.take 65++cs.drop (i*65):=by
  rw[←hvs',←hol,←htl'];have e0:R0.toList.take (i*65)=olds:=by
   rw[hR0];simp only[AD8,ACy];rw[ACz (by first|omega|(simp;omega)|(simp only[ACT];omega)),ACg (by first|omega|(simp;omega)|(simp only[ACT];omega))]
  have e1:R1.toList.take ((i+1)*65)=olds++vs:=by
   rw[hR1,e0];simp only;rw[ACz (by first|omega|(simp;omega)|(simp only[ACT];omega)),ACg (by first|omega|(simp;omega)|(simp only[ACT];omega))]
  rw[hR2,e1];simp only;rw[ACz (by first|omega|(simp;omega)|(simp only[ACT];omega)),ACg (by first|omega|(simp;omega)|(simp only[ACT];omega))]
 have hfo:∀k,k<w.heap.size→(W2.setRow w.heap.size R2).heap[k]? =w.heap[k]? :=fun k hk=>(setRow_other W2 _ k R2 (by omega)).trans (hW2o k hk)
 have hfb:(W2.setRow w.heap.size R2).heap[w.heap.size]? =some (.cells R2 31 (0,0)):=setRow_heap W2 _ R1 _ _ _ hW2b
 have hio:ioOf (W2.setRow w.heap.size R2)=ioOf w:=by rw[hW2,hW1];rfl
 have hsF:R2.size=Gc*65:=by rw[hs2,hs1,hs0]
 have hGi:¬(Gc=i):=by omega
 have hGim:¬(Gc=i+1):=by omega
 have hci:¬(c=i):=by omega
 rw[←hW1]at hrz;clear hvs' hol htl' hR0 hR1 hR2 hW1b hW1o hW2b hW2o hs0 hs1 hs2 hvl hll htl2 hz0 hz1 hz2 hz3 hi0 hGc hold hkk hik
 go_enter Tryz.func92,Tryz.ntmps92
 clear hW1
 go_wp2_with (first
  |(at_builtin;refine Lib.wpList_append_run _ rfl _ _ _ _ rfl _ _ rfl rfl _ _ (hrz _) ?_)
  |(at_builtin;refine wpL_copy _ rfl _ _ 34 34 rfl _ _ rfl rfl (hcpA _ _) ?_))
 go_region_law_o (refine Wj rfl _ _ 34 34 rfl (.slice (some ⟨w.heap.size,(i+1)*65,none⟩) (n-i) (Gc-(i+1))) (.slice (some ⟨b,i*65,none⟩) (n-i) (c-i)) (by simp[Act.eval,Act.put]) (by simp[Act.eval,Act.put]) (by rw[←hW2];exact hcpB 3 (Gc-(i+1)) (c-i)) ?_)
 go_wp2
 go_ret
 subst hW2;exact⟨Gc,rfl,hG1,hG2,R2,_,hfo,hio,rfl,hfb,hsF,hrow⟩
section
variable {P:Program}
theorem pQ{ops:Array Oper}{o:Oper}{a:Act}{w:World}{K:Act→World→Prop}{Q:Exit→Act→World→Prop}{E:Prop}
  (hg:o.guard=none) (d x:Operand) (dT sT:TypeId) (hop:o.op=Op.call {callee:=Callee.builtin Builtin.append,args:=#[d,x],argTypes:=#[dT,sT]})
  (v u:Value) (hd:a.eval d=v) (hx:a.eval x=u) {v':Value} {w':World} (hr:(Builtin.append_ #[dT,sT] o.type #[v,u]).run P w=.ok v' w') (hK:K (a.put o.dst v') w'):
  if Region.wanted o (yielded ops a.tmps)=true then Oper.wp P o a w K Q else E:=by
 have hw:Region.wanted o (yielded ops a.tmps)=true:=by simp[Region.wanted,hg]
 rw[if_pos hw];unfold Oper.wp;simp[execOp,hop,resolve,invoke,builtin,hd,hx,hr,Result.andThen];exact hK
end
theorem zY:(Tryz.prog.info? 31).map (fun i=>i.zero.map fun z=>z.cells.toList.all fun v=>v.oneCell')=some (some true):=by kernel_rfl
abbrev pR:FuncId:=93
set_option maxHeartbeats 4000000 in
set_option maxRecDepth 100000 in
theorem tf(b n c:Nat)(cur:Array Value)(w:World)(h2:2≤n)(hnc:n≤c)(hc63:c≤9223372036854775807)
  (hb:w.heap[b]? =some (.cells cur 31 (0,0))) (hsz:c*65≤cur.size) (h1c:∀v∈cur.toList.take (n*65),v.oneCell'=true):
  Calls Tryz.prog pR #[.slice (some ⟨b,0,none⟩) n c,.int .i64 0,.int .i64 1] w fun e w'=>
   e=.returned (.slice (some ⟨b,0,none⟩) (n-1) c)∧∃cur',w'=w.drew.setRow b cur'∧cur'.size=cur.size∧cur'.toList.take ((n-1)*65)=(cur.toList.take (n*65)).drop 65:=by
 have mixed:=GL
 obtain⟨i0,z,hi0,hz0,hz1,hz2,hz3⟩:=XR;have hone:∀v∈z.cells.toList,v.oneCell'=true:=by
  have h:=zY
  rw[hi0]at h;simp only[ADF,ACJ,hz0]at h;intro v hv;exact ACt.1 h v hv
 obtain⟨news,hns⟩:∃news,news=(cur.toList.take (n*65)).drop 65:=⟨_,rfl⟩;have hnl:news.length=(n-1)*65:=by rw[hns,ADA,ACh,ACp];omega
 have hbd:w.drew.heap[b]? =some (.cells cur 31 (0,0)):=hb
 obtain⟨cur1,hcur1⟩:∃cur1:Array Value,cur1=(cur.toList.take (0*65)++news++cur.toList.drop (0*65+news.length)).toArray:=⟨_,rfl⟩;have hs1:cur1.size=cur.size:=by rw[hcur1];simp;omega
 have happ:∀ty,(Builtin.append_ #[34,34] ty #[.slice (some ⟨b,0,none⟩) 0 c,.slice (some ⟨b,65,none⟩) (n-1) (c-1)]).run Tryz.prog w.drew=.ok (.slice (some ⟨b,0,none⟩) (n-1) c) (w.drew.setRow b cur1):=fun ty=>by
  have h:=run_append_room (P:=Tryz.prog) w.drew 34 ty 31 i0 Tryz.underlying34 hi0 b 0 c cur hbd ⟨b,65,none⟩ (n-1) (c-1) news (by rw[hz1,hnl]) (fun j u hj=>by
   rw[Addr.add_lit];simp only[World.cell?,hbd];rw[hns,AC9,AC6]at hj;split at hj
   ·simpa using hj
   ·cases hj) (fun u hu=>h1c u (by rw[hns]at hu;exact ADC hu)) (by omega) (by rw[hz1];omega)
  rw[hz1,ACk]at h;rw[hcur1];exact h
 have hb1:(w.drew.setRow b cur1).heap[b]? =some (.cells cur1 31 (0,0)):=setRow_heap w.drew b cur _ _ _ hbd
 obtain⟨zs,hzs⟩:∃zs,zs=(Builtin.zeroCells z.cells 1).toList:=⟨_,rfl⟩;have hzl:zs.length=65:=by rw[hzs,ACp,Vn,hz3]
 have hzo:∀v∈zs,v.oneCell'=true:=by
  intro v hv;rw[hzs]at hv;simp[Builtin.zeroCells]at hv;obtain⟨a,ha,rfl⟩:=hv;have hlt:a%z.cells.size<z.cells.size:=AD4 _ (by omega)
  have he:z.cells[a%z.cells.size]! =z.cells[a%z.cells.size]:=getElem!_pos z.cells _ hlt
  rw[he];exact hone _ (by simp)
 obtain⟨cur2,hcur2⟩:∃cur2:Array Value,cur2=(cur1.toList.take ((n-1)*65+0)++zs++cur1.toList.drop ((n-1)*65+0+zs.length)).toArray:=⟨_,rfl⟩;have hs2:cur2.size=cur.size:=by rw[hcur2];simp;omega
 have hclr:∀ty,(Builtin.clear_ #[34] ty #[.slice (some ⟨b,(n-1)*65,none⟩) (n-(n-1)) (c-(n-1))]).run Tryz.prog (w.drew.setRow b cur1)=.ok (.tuple #[]) (w.drew.setRow b cur2):=fun ty=>by
  have hst:=run_storeCells_at Tryz.prog b ((n-1)*65) 31 zs 0 cur1 (w.drew.setRow b cur1) hb1 (by omega) hzo
  rw[←hcur2,setRow_setRow]at hst;have h1:n-(n-1)=1:=by omega
  rw[h1];have hz:∀w,(zeroValue 31).run Tryz.prog w=.ok z w:=fun w=>by simp[zeroValue,typeInfo,hi0,hz0]
  simp[Builtin.clear_,run_underlying Tryz.underlying34,hz];rw[←hzs]at *;simp[hst]
 have hrow:cur2.toList.take ((n-1)*65)=(cur.toList.take (n*65)).drop 65:=by
  rw[←hns,hcur2];simp only[ACy,ADf];rw[ACz (by rw[ACh,ACp];omega),AEh,AEp,hcur1]
  simp only[AD3,List.take_zero,ADD];rw[ACz (by omega),ACg (by omega)]
 have hq1:¬(c=1):=by omega
 have hq2:¬(c=n-1):=by omega
 have hq3:(1:Int)≤(n:Int):=by omega
 have hq4:n-1≤n:=by omega
 have hq5:n≤c:=hnc
 clear hns hcur1 hcur2 hzs hnl hzl hzo hs1 hz0 hz1 hz2 hz3 hi0 hone hb1
 go_enter Tryz.func93,Tryz.ntmps93
 go_wp2
 go_region_law_o (refine pQ rfl _ _ 34 34 rfl (.slice (some ⟨b,0,none⟩) 0 c) (.slice (some ⟨b,65,none⟩) (n-1) (c-1)) (by simp[Act.eval,Act.put]) (by simp[Act.eval,Act.put]) (happ _) ?_)
 go_wp2_with (at_builtin;refine wpL_clear _ rfl _ 34 rfl _ rfl (hclr _) ?_)
 go_ret
 exact⟨rfl,cur2,rfl,hs2,hrow⟩
end Go.Proofs.YtobajijkmmhdjaaGreatDoor.Se
namespace Go.Proofs.YtobajijkmmhdjaaGreatDoor.Se
open Go Go.AM
theorem dD{m:Env}{t:Ty}{d:DV}{v:Value}(h:Rep m t d v):v.oneCell'=true:=by
 rcases h.kind with ⟨k,z,rfl⟩|⟨b,rfl⟩|⟨s,rfl⟩|⟨a,n,c,rfl⟩<;>rfl
theorem Qe{E:Nat→Option Obj}{w:World}{l:List (List DV)}{b cap:Nat}{v:Value}{el:TypeId}{ts:List Ty}(h:OwnAt E w el ts l b cap v)(h0:cap≠0):
  v=.slice (some ⟨b,0,none⟩) l.length cap∧l.length≤cap∧cap≤maxLen∧E b=none∧(∀row∈l,row.length=ts.length)∧∃c:Array Value,w.heap[b]? =some (.cells c el (0,0))∧cap*ts.length≤c.size∧(∀u∈c.toList.take (l.length*ts.length),u.oneCell'=true)∧
   ∀k,k<l.length*ts.length→∃u,c[k]? =some u∧Rep (Al E) (ts.getD (k%ts.length) .bool) ((l.getD (k / ts.length) []).getD (k%ts.length) (.bool false)) u:=by
 obtain⟨a,hv,h1,h2,h3,h4⟩:=h;obtain⟨rfl,k1,k2,k3,c,k4,k5,k6⟩:=h4 h0;have k6':∀k,k<l.length*ts.length→∃u,c[k]? =some u∧Rep (Al E) (ts.getD (k%ts.length) .bool) ((l.getD (k / ts.length) []).getD (k%ts.length) (.bool false)) u:=fun k hk=>by
  obtain⟨u,u1,u2⟩:=k6 k hk;refine⟨u,u1,?_⟩
  simpa only[atD,AC5]using u2
 refine⟨hv,h1,h2,k1,k2,c,k4,k5,fun u hu=>?_,k6'⟩
 obtain⟨k,hk⟩:=ACf.1 hu;rw[AC6]at hk;split at hk
 ·rename_i hlt;obtain⟨u',u1,u2⟩:=k6' k hlt;have:c.toList[k]? =some u':=by simpa using u1
  rw[this]at hk;cases hk;exact dD u2
 ·cases hk
theorem KS{E:Nat→Option Obj}{w:World}{l:List (List DV)}{b cap:Nat}{el:TypeId}{ts:List Ty}{c:Array Value}(h1:l.length≤cap)(h2:cap≤maxLen)(hE:E b=none)(hrow:∀row∈l,row.length=ts.length)(hts:1≤ts.length)
  (hb:w.heap[b]? =some (.cells c el (0,0))) (hsz:cap*ts.length≤c.size) (cells:List Value) (hc:c.toList.take (l.length*ts.length)=cells)
  (hrep:∀a j row,l[a]? =some row→j<ts.length→∃u,cells[a*ts.length+j]? =some u∧Rep (Al E) (ts.getD j .bool) (row.getD j (.bool false)) u):OwnAt E w el ts l b cap (.slice (some ⟨b,0,none⟩) l.length cap):=by
 refine⟨_,rfl,h1,h2,(fun e=>by cases e),fun _=>⟨rfl,hE,hrow,hts,c,hb,hsz,fun k hk=>?_⟩⟩
 have hi:k / ts.length<l.length:=(AEL hts).2 hk
 have hj:k%ts.length<ts.length:=AD4 _ hts
 have hkk:k / ts.length*ts.length+k%ts.length=k:=by rw[ADT];exact AEM k _
 obtain⟨u,u1,u2⟩:=hrep (k / ts.length) (k%ts.length) l[k / ts.length] (ACL hi) hj;refine⟨u,?_,?_⟩
 ·rw[hkk,←hc,ADG hk]at u1;simpa using u1
 ·have:atD (.list l) (.int .i64 (k / ts.length:Nat)) (k%ts.length)=l[k / ts.length].getD (k%ts.length) (.bool false):=by
   simp only[atD,AC5,ACI,ACL hi,ACo]
  rw[this];exact u2
theorem Zw:tDig.length=65:=by kernel_rfl
theorem lM{E:Nat→Option Obj}{l:List (List DV)}{row:List DV}{i:Nat}{ts:List Ty}{cs vs:List Value}(hi:i≤l.length)(hcl:cs.length=l.length*ts.length)(hvl:vs.length=ts.length)
  (hrep:∀k,k<l.length*ts.length→∃u,cs[k]? =some u∧Rep (Al E) (ts.getD (k%ts.length) .bool) ((l.getD (k / ts.length) []).getD (k%ts.length) (.bool false)) u)
  (hv:∀k,k<ts.length→∃u,vs[k]? =some u∧Rep (Al E) (ts.getD k .bool) (row.getD k (.bool false)) u):
  ∀a j r,(l.take i++[row]++l.drop i)[a]? =some r→j<ts.length→∃u,(cs.take (i*ts.length)++vs++cs.drop (i*ts.length))[a*ts.length+j]? =some u∧Rep (Al E) (ts.getD j .bool) (r.getD j (.bool false)) u:=by
 intro a j r ha hj;have get:∀a',a'<l.length→∃u,cs[a'*ts.length+j]? =some u∧Rep (Al E) (ts.getD j .bool) ((l.getD a' []).getD j (.bool false)) u:=by
  intro a' h;have hk:a'*ts.length+j<l.length*ts.length:=by
   have:(a'+1)*ts.length≤l.length*ts.length:=ACx _ h
   rw[ADH]at this;omega
  obtain⟨u,u1,u2⟩:=hrep _ hk;have e1:(a'*ts.length+j)%ts.length=j:=by rw[ADT,AEK,ADz hj]
  have e2:(a'*ts.length+j) / ts.length=a':=by rw[ADT,AEY (by omega),AER hj,ADf]
  rw[e1,e2]at u2;exact⟨u,u1,u2⟩
 have htl:(cs.take (i*ts.length)).length=i*ts.length:=by
  rw[ACh,hcl];exact ADZ (ACx _ hi)
 have hil:(l.take i).length=i:=by rw[ACh];omega
 rcases AEF a i with h|h|h
 ·rw[ACy,ACc (by omega),ADG h]at ha
  obtain⟨u,u1,u2⟩:=get a (by omega)
  refine⟨u,?_,?_⟩
  ·have hlt:a*ts.length+j<i*ts.length:=by
    have:(a+1)*ts.length≤i*ts.length:=ACx _ h
    rw[ADH]at this;omega
   rw[ACy,ACc (by omega),ADG hlt]
   exact u1
  ·have:l.getD a []=r:=by rw[ACI,ha];rfl
   rw[←this];exact u2
 ·subst h;rw[ACy,ACV (by omega),hil,Nat.sub_self]at ha
  simp only[ADY,ADD,ACl,ACJ]at ha;subst ha;obtain⟨u,u1,u2⟩:=hv j hj;refine⟨u,?_,u2⟩
  rw[ACy,ACV (by omega),htl,ACc (by omega),AD2]
  exact u1
 ·rw[ACy,ACV (by omega),hil,show a-i=(a-i-1)+1 by omega]at ha
  simp only[ADY,ADD,AC0,AC9]at ha;rw[show i+(a-i-1)=a-1 by omega]at ha
  have hlt:=(ACW.1 ha).1
  obtain⟨u,u1,u2⟩:=get (a-1) hlt;refine⟨u,?_,?_⟩
  ·have e1:a*ts.length=(a-1)*ts.length+ts.length:=by
    conv=>lhs;rw[show a=(a-1)+1 by omega,ADH,Nat.one_mul]
   have e2:i*ts.length≤(a-1)*ts.length:=ACx _ (by omega)
   rw[ACV (by rw[ACT];omega),ACT,htl,hvl,AC9]
   rw[show i*ts.length+(a*ts.length+j-(i*ts.length+ts.length))=(a-1)*ts.length+j by omega]
   exact u1
  ·have:l.getD (a-1) []=r:=by rw[ACI,ha];rfl
   rw[←this];exact u2
theorem zZ:eW Tryz.prog G Vm 31 tDig:=by
 refine⟨Dj (by kernel_rfl),fun E l b cap v i row vb vc vcur w hE hown hi hlen hvb hEv hne hvs hrl hrow=>?_⟩
 have h65:=Zw
 have hrowsE:(∀r∈l,r.length=tDig.length)→∀r∈l.take i++[row]++l.drop i,r.length=tDig.length:=fun h r hr=>by
  simp only[ADR,ACs]at hr;rcases hr with (hr|rfl)|hr
  ·exact h r (AD1 hr)
  ·exact hrl
  ·exact h r (ADC hr)
 have hll:(l.take i++[row]++l.drop i).length=l.length+1:=by simp;omega
 have hvw:=(ACQ.1 hvb).1
 have hvrep:∀k,k<tDig.length→∃u,(vcur.toList.take 65)[k]? =some u∧Rep (Al E) (tDig.getD k .bool) (row.getD k (.bool false)) u:=fun k hk=>by
  obtain⟨u,u1,u2⟩:=hrow k hk;exact⟨u,by rw[ADG (by omega)];simpa using u1,u2⟩
 have hvl:(vcur.toList.take 65).length=tDig.length:=by rw[ACh,ACp];omega
 have h1v:∀u∈vcur.toList.take 65,u.oneCell'=true:=fun u hu=>by
  obtain⟨k,hk⟩:=ACf.1 hu;have hlt:=(ACW.1 hk).1
  obtain⟨u',u1,u2⟩:=hvrep k (by omega)
  rw[u1]at hk;cases hk;exact dD u2
 by_cases h0:cap=0
 ·obtain⟨a,rfl,g1,g2,g3,_⟩:=hown;have hnil:l=[]:=ACi.1 (by omega)
  subst hnil;have hi0:i=0:=by simpa using hi
  subst hi0;subst h0;refine (O6 a b 0 0 vb vc [] vcur w (ACv _) (by omega) (by omega) (.inr rfl) rfl (fun _ j v hj=>by simp at hj) hvb (by omega) h1v).mono ?_
  rintro e w' ⟨Gc,rfl,q1,q2,cur',rfl,q3,q4⟩;have hfin:=KS (E:=E) (w:=w.drew.alloc (.cells cur' 31)) (l:=[row]) (b:=w.heap.size) (cap:=Gc) (el:=31) (ts:=tDig) (c:=cur') q1 q2 (by
   cases he:E w.heap.size with
   |none=>rfl
   |some o=>
    have:=(ACQ.1 (hE _ _ he)).1
    omega) (fun r hr=>by rw[ACs.1 hr];exact hrl) (by omega) (heap_alloc_new w.drew _) (by rw[h65];omega) (vcur.toList.take 65) (by rw[h65];exact q4) (fun x j r hx hj=>by
   cases x with
   |zero=>
    simp only[ACl,ACJ]at hx;subst hx;rw[AD3,ACk];exact hvrep j hj
   |succ x=>simp at hx)
  exact⟨_,_,Gc,rfl,⟨fun k hk _=>heap_alloc_old w.drew _ hk,rfl⟩,hfin,.inr (ACv _)⟩
 ·obtain⟨rfl,g1,g2,g3,g4,cur,g5,g6,g7,g8⟩:=Qe hown h0;have hbw:=(ACQ.1 g5).1
  have hc63:cap≤9223372036854775807:=by unfold maxLen at g2;omega
  rw[h65]at g6 g7;have hcsl:(cur.toList.take (l.length*65)).length=l.length*65:=by
   have hcz:cur.toList.length=cur.size:=ACp
   rw[ACh];omega
  have hcell:∀j v,(cur.toList.take (l.length*65))[j]? =some v→w.cell? ⟨b,j,none⟩=some v:=fun j v hj=>by
   rw[AC6]at hj;split at hj
   ·simp only[World.cell?,g5];simpa using hj
   ·cases hj
  have hcr:∀k,k<l.length*tDig.length→∃u,(cur.toList.take (l.length*65))[k]? =some u∧Rep (Al E) (tDig.getD (k%tDig.length) .bool) ((l.getD (k / tDig.length) []).getD (k%tDig.length) (.bool false)) u:=fun k hk=>by
   obtain⟨u,u1,u2⟩:=g8 k hk;rw[h65]at hk;exact⟨u,by rw[ADG hk];simpa using u1,u2⟩
  have hins:=lM (E:=E) (ts:=tDig) hi (by rw[h65];exact hcsl) hvl hcr hvrep
  rw[h65]at hins;have hEnew:E w.heap.size=none:=by
   cases he:E w.heap.size with
   |none=>rfl
   |some o=>
    have:=(ACQ.1 (hE _ _ he)).1
    omega
  have place:∀(cur':Array Value),cur'.size=cur.size→cur'.toList.take ((l.length+1)*65)=(cur.toList.take (l.length*65)).take (i*65)++vcur.toList.take 65++(cur.toList.take (l.length*65)).drop (i*65)→∀w1:World,w1.heap=w.heap→ioOf w1=ioOf w→l.length+1≤cap→
    OnlyB b cap w (w1.setRow b cur')∧OwnAt E (w1.setRow b cur') 31 tDig (l.take i++[row]++l.drop i) b cap (.slice (some ⟨b,0,none⟩) (l.take i++[row]++l.drop i).length cap):=by
   intro cur' hs hrow' w1 hw1 hio hroom;have hb1:w1.heap[b]? =some (.cells cur 31 (0,0)):=by rw[hw1];exact g5
   refine⟨⟨fun k hk hkb=>?_,hio⟩,?_⟩
   ·rw[setRow_other w1 b k cur' (hkb h0),hw1]
   ·refine KS (by rw[hll];exact hroom) g2 g3 (hrowsE g4) (by omega) (setRow_heap w1 b cur cur' _ _ hb1) (by rw[h65,hs];exact g6) ((cur.toList.take (l.length*65)).take (i*65)++vcur.toList.take 65++(cur.toList.take (l.length*65)).drop (i*65)) (by rw[hll,h65];exact hrow') (fun a j r ha hj=>hins a j r ha (by omega))
  by_cases hn:i=l.length
  ·subst hn;have hrowE:∀X:List Value,X=cur.toList.take (l.length*65)++vcur.toList.take 65→X=(cur.toList.take (l.length*65)).take (l.length*65)++vcur.toList.take 65++(cur.toList.take (l.length*65)).drop (l.length*65):=fun X hX=>by
    rw[hX,AEh,AEp,AC2 (by omega),ADg]
   by_cases hroom:l.length+1≤cap
   ·refine (Zv b l.length cap vb vc cur vcur w hroom hc63 g5 g6 hvb (by omega) h1v).mono ?_
    rintro e w' ⟨rfl,cur',rfl,q1,q2⟩;obtain⟨r1,r2⟩:=place cur' q1 (hrowE _ q2) w rfl rfl hroom;rw[hll]at r2;exact⟨_,b,cap,rfl,r1,r2,.inl ⟨h0,rfl⟩⟩
   ·refine (O6 (some ⟨b,0,none⟩) b l.length cap vb vc (cur.toList.take (l.length*65)) vcur w g1 (by omega) hlen (.inl rfl) hcsl (fun _=>hcell) hvb (by omega) h1v).mono ?_
    rintro e w' ⟨Gc,rfl,q1,q2,cur',rfl,q3,q4⟩;have hfin:=KS (E:=E) (w:=w.drew.alloc (.cells cur' 31)) (l:=l.take l.length++[row]++l.drop l.length) (b:=w.heap.size) (cap:=Gc) (el:=31) (ts:=tDig) (c:=cur') (by rw[hll];exact q1) q2 hEnew (hrowsE g4) (by omega) (heap_alloc_new w.drew _) (by rw[h65];omega) ((cur.toList.take (l.length*65)).take (l.length*65)++vcur.toList.take 65++(cur.toList.take (l.length*65)).drop (l.length*65)) (by rw[hll,h65];exact hrowE _ q4) (fun a j r ha hj=>hins a j r ha (by omega))
    rw[hll]at hfin;exact⟨_,_,Gc,rfl,⟨fun k hk _=>heap_alloc_old w.drew _ hk,rfl⟩,hfin,.inr (ACv _)⟩
  ·have hlt:i<l.length:=by omega
   by_cases hroom:l.length+1≤cap
   ·refine (lL b l.length cap i vb vc cur vcur w hlt hroom hc63 (hne h0) g5 g6 hvb (by omega) g7 h1v).mono ?_
    rintro e w' ⟨rfl,cur',rfl,q1,q2⟩;obtain⟨r1,r2⟩:=place cur' q1 (by rw[AEh,ADZ (by omega)];exact q2) w.drew rfl rfl hroom
    rw[hll]at r2;exact⟨_,b,cap,rfl,r1,r2,.inl ⟨h0,rfl⟩⟩
   ·refine (pP b l.length cap i vb vc (cur.toList.take (l.length*65)) vcur w hlt g1 (by omega) hlen hvw hbw hcsl hcell g7 hvb (by omega) h1v).mono ?_
    rintro e w' ⟨Gc,rfl,q1,q2,cur',q,p1,p2,p3,p4,p5,p6⟩;have hfin:=KS (E:=E) (w:=w') (l:=l.take i++[row]++l.drop i) (b:=w.heap.size) (cap:=Gc) (el:=31) (ts:=tDig) (c:=cur') (by rw[hll];exact q1) q2 hEnew (hrowsE g4) (by omega) p4 (by rw[h65];omega) ((cur.toList.take (l.length*65)).take (i*65)++vcur.toList.take 65++(cur.toList.take (l.length*65)).drop (i*65)) (by rw[hll,h65];exact p6) (fun a j r ha hj=>hins a j r ha (by omega))
    rw[hll]at hfin;exact⟨_,_,Gc,rfl,⟨fun k hk _=>p1 k hk,p2⟩,hfin,.inr (ACv _)⟩
def xX(ds:List DV):List (List DV):=[[.list ((lD ds 0).drop 1)]]
abbrev lN:List (SX×Bool):=[(lss (k64 1) (.len (.v 0)),true),(eql (.v 1) (k64 0),true),(eql (.v 2) (k64 1),true)]
theorem zd(I:Nat→List DV→DV):Xc Tryz.prog G pR 31 tDig [.one tI,.one tI] (fun ds=>∀p∈lN,den (AA I ds) p.1=.bool p.2) xX:=by
 refine⟨Dj (by kernel_rfl),fun E l b cap v ds vs w hE hown hargs hv hpre _=>?_⟩
 have h65:=Zw
 simp only[RepArgs,RepOne]at hargs;obtain⟨_,_,v1,_,rfl,e1,⟨d1,rfl,r1⟩,_,_,v2,_,rfl,e2,⟨d2,rfl,r2⟩,rfl,e3⟩:=hargs;simp only[Rep]at r1 r2;obtain⟨z1,rfl,rfl,_⟩:=r1;obtain⟨z2,rfl,rfl,_⟩:=r2;have p1:=hpre (lss (k64 1) (.len (.v 0)),true) (by simp)
 have p2:=hpre (eql (.v 1) (k64 0),true) (by simp)
 have p3:=hpre (eql (.v 2) (k64 1),true) (by simp)
 generalize hR:AA I (DV.list l::[[DV.int .i64 z1],[DV.int .i64 z2]].flatten)=R at p1 p2 p3;have d0:den R (.v 0)=.list l:=by rw[←hR];rfl
 have d1:den R (.v 1)=.int .i64 z1:=by rw[←hR];rfl
 have d2:den R (.v 2)=.int .i64 z2:=by rw[←hR];rfl
 rw[AB (d_k .i64 1) (AF d0)]at p1;rw[AN d1 (d_k .i64 0)]at p2;rw[AN d2 (d_k .i64 1)]at p3;simp only[DV.bool.injEq,ACN,ACZ]at p1 p2 p3;have hvs:vs=#[v,.int .i64 0,.int .i64 1]:=by
  apply AD0.1
  have h0:vs.toList[0]? =some v:=by simpa using hv
  cases h:vs.toList with
  |nil=>rw[h]at h0;cases h0
  |cons x r=>
   rw[h]at h0 e1;simp only[ACl,ACJ]at h0;simp only[ADr,AC1]at e1;rw[h0,e1,e2,e3,p2,p3];rfl
 subst hvs;have hcap:cap≠0:=by
  obtain⟨_,_,q,_⟩:=hown;omega
 obtain⟨rfl,g1,g2,g3,g4,cur,g5,g6,g7,g8⟩:=Qe hown hcap;rw[h65]at g6 g7;have hl2:2≤l.length:=by omega
 refine (tf b l.length cap cur w hl2 g1 (by unfold maxLen at g2;omega) g5 g6 g7).mono ?_
 rintro e w' ⟨rfl,cur',rfl,q1,q2⟩;have hdl:(l.drop 1).length=l.length-1:=ADA ..
 have hfin:=KS (E:=E) (w:=w.drew.setRow b cur') (l:=l.drop 1) (b:=b) (cap:=cap) (el:=31) (ts:=tDig) (c:=cur') (by omega) g2 g3 (fun r hr=>g4 r (ADC hr)) (by omega) (setRow_heap w.drew b cur cur' _ _ g5) (by rw[h65,q1];exact g6) ((cur.toList.take (l.length*65)).drop 65) (by rw[hdl,h65];exact q2) (fun a j r ha hj=>by
  rw[AC9]at ha;have hlt:=(ACW.1 ha).1
  rw[h65]at hj⊢;have hk:(1+a)*65+j<l.length*65:=by omega
  obtain⟨u,u1,u2⟩:=g8 ((1+a)*65+j) (by rw[h65];exact hk)
  rw[h65]at u2;have e1:((1+a)*65+j)%65=j:=by omega
  have e2:((1+a)*65+j) / 65=1+a:=by omega
  rw[e1,e2]at u2;refine⟨u,?_,?_⟩
  ·rw[AC9,show 65+(a*65+j)=(1+a)*65+j by omega,ADG hk]
   simpa using u1
  ·have:l.getD (1+a) []=r:=by rw[ACI,ha];rfl
   rw[←this];exact u2)
 rw[hdl]at hfin;exact⟨_,l.drop 1,b,cap,rfl,rfl,⟨fun k hk hkb=>setRow_other w.drew b k cur' (hkb hcap),rfl⟩,hfin,.inl ⟨hcap,rfl⟩⟩
abbrev xp:List Ty:=[tI,tI,.slice [tVs],tI]
abbrev tRep:List Ty:=[tI,.int .u32]++xp++[tI]++CV++[tB]
abbrev ABf:Ent:=US 47 [.one (.slice CV)] 31 CV [] [Aj 0] 129 []
abbrev zk:Ent:=US 51 [.one (.slice [tVs])] 122 [tVs] [] [Aj 0] 127 []
abbrev iL:Ent:=eFn 52 [.one (.slice tV)] [.one (.slice tV)] [Aj 0] 128 []
abbrev fHr:Nat:=12
abbrev fDn:Nat:=27
abbrev lg:Code:=B0 fDn 0
def syN:List Ty→Nat→List AV
 | [],_=>[]
 |t::ts,k=>.sy t (.v k)::syN ts (Nat.succ k)
def LZ(b:Nat):List Ty→Nat→List Go.AM.Src
 | [],_=>[]
 |t::ts,k=>.cell b k t::LZ b ts (Nat.succ k)
abbrev iM:List Ty:=[tI,.int .u32,.str,.bool]++tQry++[.bool,tI]
abbrev dZ(k d:Nat):List AV:=syN iM k++[.own 6 CV (.v d)]
abbrev xq(l:List AV):Blk:={t:=97,row:=false,sz:=1,n:=235,z:=[.dead],c:=Z0 ((List.range 83).zip l)}
def TDn:Tmpl:={tm:=[(0,.ptr 7 0),(4,.ptr 9 0),(14,.sy tI (.v 6)),(15,.sy tI (.v 2))],ob:=[(9,Bz 43 [.sy tI (.v 3),.sy tI (.v 4),.own 10 [tVs] (.v 0),.sy tI (.v 5)]),(7,xq (dZ 7 1))],ow:=[⟨10,122,[tVs],.v 0⟩,⟨6,31,CV,.v 1⟩],src:=[.own 0,.own 1,.tm 15 tI,.cell 9 0 tI,.cell 9 1 tI,.cell 9 3 tI,.tm 14 tI]++LZ 7 iM 0,osrc:=[.cell 9 2 122 [tVs],.cell 7 82 31 CV]}
def YDn:Tmpl:={tm:=[(0,.ptr 7 0),(4,.ptr 9 0)],ob:=[(9,Bz 43 [.sy tI (.v 1),.sy tI (.v 2),.sy (.slice [tVs]) (.v 86),.sy tI (.v 3)]),(7,xq (dZ 4 0))],ow:=[⟨6,31,CV,.v 0⟩],src:=[.own 0,.cell 9 0 tI,.cell 9 1 tI,.cell 9 3 tI]++(LZ 7 iM 0++[.cell 9 2 (.slice [tVs])]),osrc:=[.cell 7 82 31 CV],isrc:=[.cell 9 2 122 [tVs]]}
abbrev lh:List Nat:=[1,3,4,5]++(List.range 82).map (·+7)
def SDn:StdL:={n:=47,T:=TDn,tys:=[.slice [tVs],.slice CV,tI,tI,tI,tI,tI]++iM,pre:=[(eql (.v 2) (k64 0),true),(eql (.v 6) (.len (.v 0)),true),(.app 165 [.v 0],true),(lss (k64 1000000) (.len (.v 0)),false)],f:=170,keep:=lh,yes:=(.exit 0,YDn,1)}
abbrev dnR:SX:=.at (.app 128 [.at (.v 0) (.v 2) 0]) (k64 0) 0
def pDn:RPln:=
 .ask (lss (.v 2) (.v 6))
  (DT [(lss (.v 2) (k64 0),false),(lss (.v 2) (.len (.v 0)),true),(lss (k64 1000000) (.len (.at (.v 0) (.v 2) 0)),false)]
   (.next ([.upd (.v 0) (.v 2) 0 dnR,.v 1,add (.v 2) (k64 1)]++AH 3 86)))
  (.exit true (ER lh++[.v 0]))
set_option maxRecDepth 100000
theorem kDn(I:Nat→List DV→DV):(SDn.ok&&(Au SDn pDn&&AW SDn.L (B1 I (AR [iL]) [] [] lg) [] pDn))=true:=by kernel_rfl
def smallR(l:List (List DV)):Bool:=l.all fun r=>match r.getD 0 (.bool false) with
 |.list x=>decide (x.length≤1000000)
 |_=>false
def iO(ds:List DV):Prop:=∃(l:List (List DV)) (i:Int),ds.getD 0 (.bool false)=.list l∧ds.getD 2 (.bool false)=.int .i64 i∧ds.getD 6 (.bool false)=.int .i64 l.length∧0≤i∧i≤l.length∧l.length≤1000000∧smallR l=true
def pb(ds:List DV):Nat:=(lD ds 0).length-(iD ds 2).toNat
def PA:Nat→List DV→DV
 |128,ds=>.list (Vr ds)
 |_,_=>.bool false
def pc:List DV→Bool×List DV:=E4 PA 86 pDn pb
theorem ll{l:List (List DV)}(h:smallR l=true){i:Nat}(hi:i<l.length):∃x,(l.getD i []).getD 0 (.bool false)=.list x∧x.length≤1000000:=by
 have h1:=ACt.1 h _ (AC7 hi)
 have he:l.getD i []=l[i]:=by rw[ACI,ACL hi];rfl
 rw[he];split at h1
 ·rename_i s hs;exact⟨s,hs,by simpa using h1⟩
 ·cases h1
theorem IP{ds:List DV}{k:Nat}{l:List (List DV)}(h:ds.getD k (.bool false)=.list l):lD ds k=l:=by
 unfold lD;rw[h]
theorem He{ds:List DV}{k:Nat}{a:IntKind}{z:Int}(h:ds.getD k (.bool false)=.int a z):iD ds k=z:=by
 unfold iD;rw[h]
theorem ABg:∀ds,iO ds→CA iO pb (AA PA ds) ds pDn:=by
 rintro ds ⟨l,i,w0,w2,w6,h0,h1,h2,h3⟩;have e0:den (AA PA ds) (.v 0)=.list l:=w0
 have e2:den (AA PA ds) (.v 2)=.int .i64 i:=w2
 have e6:den (AA PA ds) (.v 6)=.int .i64 l.length:=w6
 have hI:(AA PA ds).I=PA:=rfl
 generalize AA PA ds=R at *;unfold pDn;refine D4 (AB e2 e6) (fun g=>?_) (fun g=>trivial)
 simp only[ACN]at g;obtain⟨x,q1,q2⟩:=ll h3 (i:=i.toNat) (by omega)
 have dX:den R (.at (.v 0) (.v 2) 0)=.list x:=(Ab 0 e0 e2).trans q1
 refine CO ((AB e2 (d_k .i64 0)).trans (congrArg DV.bool (ACR (by show ¬i<((0:Nat):Int);omega)))) (CO ((AB e2 (AF e0)).trans (congrArg DV.bool (ACb g))) (CO ((AB (d_k .i64 1000000) (AF dX)).trans (congrArg DV.bool (ACR (by show ¬((1000000:Nat):Int)<x.length;omega)))) ?_))
 have dA:den R (.app 128 [.at (.v 0) (.v 2) 0])=.list [[.list x]]:=by
  rw[AO,hI];simp only[ACO,ACS,dX];rfl
 have dR:den R dnR=.list x:=(Ab 0 dA (d_k .i64 0)).trans rfl
 have dU:den R (.upd (.v 0) (.v 2) 0 dnR)=.list (l.set i.toNat ((l.getD i.toNat []).set 0 (.list x))):=by rw[yN e0 e2,dR]
 have hlen:(l.set i.toNat ((l.getD i.toNat []).set 0 (.list x))).length=l.length:=AEn
 have dN:=B6 e2 (d_k .i64 1) (show -9223372036854775808≤i+1 by omega) (show i+1≤9223372036854775807 by omega)
 refine⟨⟨l.set i.toNat ((l.getD i.toNat []).set 0 (.list x)),i+1,dU,dN,?_,by omega,by rw[hlen];omega,by rw[hlen];exact h2,?_⟩,?_⟩
 ·rw[hlen];exact e6
 ·refine ACt.2 fun r hr=>?_
  rcases ADj hr with hr|rfl
  ·exact ACt.1 h3 r hr
  ·have:((l.getD i.toNat []).set 0 (.list x)).getD 0 (.bool false)=.list x:=by
    cases hr0:l.getD i.toNat []with
    |nil=>rw[hr0]at q1;cases q1
    |cons a b=>rfl
   rw[this];simpa using q2
 ·have a1:lD (([SX.upd (.v 0) (.v 2) 0 dnR,.v 1,add (.v 2) (k64 1)]++AH 3 86).map (den R)) 0=l.set i.toNat ((l.getD i.toNat []).set 0 (.list x)):=IP (by exact dU)
  have a2:iD (([SX.upd (.v 0) (.v 2) 0 dnR,.v 1,add (.v 2) (k64 1)]++AH 3 86).map (den R)) 2=i+1:=He (by exact dN)
  show (lD _ 0).length-(iD _ 2).toNat<(lD ds 0).length-(iD ds 2).toNat
  rw[a1,a2,IP w0,He w2,hlen];omega
theorem xr{I:Nat→List DV→DV}(i1:I 128=fun ds=>.list (Vr ds))(i2:I 165=fun ds=>.bool (smallR (lD ds 0)))(i3:I 170=fun ds=>.list (FL pc ds)):BJ Tryz.prog G I lg SDn.L:=by
 refine B5 (F:=pc) (Inv:=iO) (μ:=pb) (AG (l:=[iL]) ⟨AP AI (rb I).data (fun ds=>congrFun i1 ds) _ (by kernel_rfl),trivial⟩) (sub:=[]) trivial (lps:=[]) AL (fun ds=>congrFun i3 ds) pDn (kDn I) ?_ (fun ds hi=>Fx (f:=[128]) (Jl (i1.trans rfl) JX) (by kernel_rfl) ABg hi)
 intro ds h hp;obtain⟨d0,g0,t0⟩:=BL (k:=0) h rfl;obtain⟨d2,g2,t2⟩:=BL (k:=2) h rfl;obtain⟨d6,g6,t6⟩:=BL (k:=6) h rfl;obtain⟨l,rfl,_⟩:=t0.list;obtain⟨i,rfl,_⟩:=t2.i64;obtain⟨n,rfl,_⟩:=t6.i64;have w0:ds.getD 0 (.bool false)=.list l:=by rw[ACI,g0];rfl
 have w2:ds.getD 2 (.bool false)=.int .i64 i:=by rw[ACI,g2];rfl
 have w6:ds.getD 6 (.bool false)=.int .i64 n:=by rw[ACI,g6];rfl
 have p1:=hp (eql (.v 2) (k64 0),true) (by simp[SDn])
 have p2:=hp (eql (.v 6) (.len (.v 0)),true) (by simp[SDn])
 have p3:=hp (.app 165 [.v 0],true) (by simp[SDn])
 have p4:=hp (lss (k64 1000000) (.len (.v 0)),false) (by simp[SDn])
 have e0:den (AA I ds) (.v 0)=.list l:=w0
 have e2:den (AA I ds) (.v 2)=.int .i64 i:=w2
 have e6:den (AA I ds) (.v 6)=.int .i64 n:=w6
 have p3:I 165 [den (AA I ds) (.v 0)]=.bool true:=p3
 rw[e0,i2]at p3;have p3:DV.bool (smallR l)=.bool true:=p3
 rw[AN e2 (d_k .i64 0)]at p1;rw[AN e6 (AF e0)]at p2;rw[AB (d_k .i64 1000000) (AF e0)]at p4;simp only[DV.bool.injEq,ACN,ACK,ACZ]at p1 p2 p3 p4;exact⟨l,i,w0,w2,by rw[w6,p2],by omega,by omega,by omega,p3⟩
def sq1:Code→Code
 |.seq a _=>a
 |c=>c
def sq2:Code→Code
 |.seq _ b=>b
 |c=>c
def Z2:Func:=(Tryz.prog.funcs[fTk]?).getD default
def xe:Code:=sq1 (B4 fTk)
def xf:Code:=sq1 (sq2 (B4 fTk))
def xg:Code:=sq1 (sq1 (sq2 (sq2 (B4 fTk))))
def tkZ:Code:=sq2 (sq2 (sq2 (B4 fTk)))
def TTk:Tmpl:={tm:=[(2,.ptr 0 0),(3,.ptr 1 0),(4,.own 7 [tVs] (.v 2)),(10,.sy CL (.v 0)),(11,.sy tI (.len (.v 0))),(12,.sy tI (.v 1))],ob:=[(0,Bz 41 [.dead]),(1,Bz 37 [.dead])],ow:=[⟨7,122,[tVs],.v 2⟩],src:=[.tm 10 CL,.tm 12 tI,.own 0],osrc:=[.tm 4 122 [tVs]]}
def YTk:Tmpl:={tm:=[(2,.ptr 0 0),(3,.ptr 1 0),(4,.sy (.slice [tVs]) (.v 0))],ob:=[(0,Bz 41 [.dead]),(1,Bz 37 [.dead])],src:=[.tm 4 (.slice [tVs])],isrc:=[.tm 4 122 [tVs]]}
def NTk:Tmpl:={tm:=[(2,.ptr 0 0),(3,.ptr 1 0)],ob:=[(0,Bz 41 [.sy (.slice [tVs]) .emp]),(1,Bz 37 [.sc (.int .i64 251)])]}
def STk:StdL:={n:=36,T:=TTk,tys:=[CL,tI,.slice [tVs]],pre:=[],f:=161,two:=true,yes:=(.exit 0,YTk,1),no:=(.ret,NTk,0)}
def Rc:Ey:=[(152,[(2,SVa.L)])]
abbrev tkT:SX:=.at (.v 0) (.v 1) 1
abbrev tkE(k:Nat):SX:=.at (.app 160 [.bytes tkT,.emp]) (k64 0) k
def pTk:RPln:=
 .ask (lss (.v 1) (.len (.v 0)))
  (DT [(lss (.v 1) (k64 0),false),(lss (k64 1000000) (.len (.bytes tkT)),false),(lss (k64 1000000) (.len (.v 2)),false),(eql (.len .emp) (k64 0),true)]
   (.ask (tkE 0) (.ask (eql (.len (tkE 1)) (k64 0)) (.exit false []) (.next [.v 0,add (.v 1) (k64 1),.cat (.v 2) (.row [tkE 1])])) (.exit false [])))
  (.exit true [.v 2])
def EW(l:List (List DV)):Bool:=l.all fun r=>match r.getD 1 (.bool false) with
 |.str s=>decide (s.size≤1000000)
 |_=>false
def pY(ds:List DV):Nat:=(lD ds 0).length-(iD ds 1).toNat
def Vq:List DV→Bool×List DV:=E4 Z1 0 pTk pY
def tkI:Nat→List DV→DV
 |161,ds=>.list (FL Vq ds)
 |162,ds=>.bool (EW (lD ds 0))
 |n,ds=>Z1 n ds
abbrev zf(facts:List (SX×Bool))(s:St):Run:=@CC (mkO facts tkI) Tryz.prog G (AR [eDv] (mkO facts tkI)) 100 (Cy Rc) (fun _=>[]) lW s
theorem zg:(STk.ok&&Au STk pTk)=true:=by kernel_rfl
theorem ABW:∀l,GN STk.L zf l [] pTk:=by
 intro l;refine⟨⟨⟨⟨?_,.inr ⟨2000014,?_,?_,?_⟩⟩,?_,.inr ⟨2000014,?_,?_,?_⟩⟩,?_,.inr ⟨2000014,?_,?_,?_⟩⟩,?_,.inl ?_⟩
 all_goals kernel_rfl
def iG(ds:List DV):Prop:=∃(l r:List (List DV)) (i:Int),ds=[.list l,.int .i64 i,.list r]∧EW l=true∧0≤i∧i=r.length∧i≤l.length∧l.length≤1000000
theorem lY{l:List (List DV)}(h:EW l=true){i:Nat}(hi:i<l.length):∃s,(l.getD i []).getD 1 (.bool false)=.str s∧s.size≤1000000:=by
 have h1:=ACt.1 h _ (AC7 hi)
 have he:l.getD i []=l[i]:=by rw[ACI,ACL hi];rfl
 rw[he];split at h1
 ·rename_i s hs;exact⟨s,hs,by simpa using h1⟩
 ·cases h1
theorem ABX:∀ds,iG ds→CA iG pY (AA Z1 ds) ds pTk:=by
 rintro ds ⟨l,r,i,rfl,hs,h0,h1,h2,h3⟩;generalize hR:AA Z1 [.list l,.int .i64 i,.list r]=R;have e0:den R (.v 0)=.list l:=by rw[←hR];rfl
 have e1:den R (.v 1)=.int .i64 i:=by rw[←hR];rfl
 have e2:den R (.v 2)=.list r:=by rw[←hR];rfl
 have hI:R.I=Z1:=by rw[←hR];rfl
 unfold pTk;refine D4 (AB e1 (AF e0)) (fun g=>?_) (fun g=>trivial)
 simp only[ACN]at g;obtain⟨s,q1,q2⟩:=lY hs (i:=i.toNat) (by omega)
 have dT:den R tkT=.str s:=(Ab 1 e0 e1).trans q1
 have dB:=Ly R dT
 refine CO ((AB e1 (d_k .i64 0)).trans (congrArg DV.bool (ACR (by show ¬i<((0:Nat):Int);omega)))) ?_
 refine CO ((AB (d_k .i64 1000000) (AY dB)).trans (congrArg DV.bool (ACR ?_))) ?_
 ·rw[show (Bl s).length=s.size from by simp[Bl]]
  show ¬((1000000:Nat):Int)<s.size
  omega
 refine CO ((AB (d_k .i64 1000000) (AF e2)).trans (congrArg DV.bool (ACR (by show ¬((1000000:Nat):Int)<r.length;omega)))) ?_
 refine CO rfl ?_
 have dF:den R (.app 160 [.bytes tkT,.emp])=.list [.bool (Vp [.list (bytesI (Bl s)),.list []]).1::(Vp [.list (bytesI (Bl s)),.list []]).2]:=by
  rw[AO,hI];simp only[ACO,ACS,dB];rfl
 have dE:den R (tkE 0)=.bool (Vp [.list (bytesI (Bl s)),.list []]).1:=(Ab 0 dF (d_k .i64 0)).trans rfl
 obtain⟨b,hb⟩:=Bn R (.len (tkE 1)) (k64 0);refine D4 dE (fun _=>D4 hb (fun _=>trivial) (fun _=>?_)) (fun _=>trivial)
 have hτ:([.v 0,add (.v 1) (k64 1),.cat (.v 2) (.row [tkE 1])]:List SX).map (den R)=[.list l,.int .i64 (i+1),.list (r++[[den R (tkE 1)]])]:=by
  have:den R (.cat (.v 2) (.row [tkE 1]))=.list (r++[[den R (tkE 1)]]):=by
   rw[show den R (.cat (.v 2) (.row [tkE 1]))=Du (den R (.v 2)) (den R (.row [tkE 1])) from rfl,e2];rfl
  simp only[ACO,ACS,e0,this,B6 e1 (d_k .i64 1) (show -9223372036854775808≤i+1 by omega) (show i+1≤9223372036854775807 by omega)]
  rfl
 unfold CA;rw[hτ];exact⟨⟨l,_,i+1,rfl,hs,by omega,by rw[ACT];show i+1=((r.length+1:Nat):Int);omega,by omega,h3⟩,by show l.length-(i+1).toNat<l.length-i.toNat;omega⟩
abbrev rZ:List (SX×Bool):=[(lss (k64 1000000) (.len (.v 0)),false),(.app 162 [.v 0],true)]
def Ftk(ds:List DV):List (List DV):=match (Vq [ds.getD 0 (.bool false),.int .i64 0,.list []]).1 with
 |true=>[[(Vq [ds.getD 0 (.bool false),.int .i64 0,.list []]).2.getD 0 (.bool false)],[.int .i64 0]]
 |false=>[[.list []],[.int .i64 251]]
def xh:Bool→List (List SX)
 |true=>[[.v 0],[k64 0]]
 |false=>[[.emp],[k64 251]]
theorem xi:Z2.body=some (.seq xe (.seq xf (.seq (.seq xg (.block 0 (.loop lW))) tkZ))):=by kernel_rfl
theorem ABY:Tryz.prog.funcs[fTk]? =some Z2:=by kernel_rfl
theorem xj:Wy STk.L [.v 0,k64 0,.emp] (KY (KY (@CC (mkO [] tkI) Tryz.prog G (AR [eDv] (mkO [] tkI)) 100 (Cy Rc) (fun _=>[]) xe (Xe [.one CL] Z2)) (@CC (mkO [] tkI) Tryz.prog G (AR [eDv] (mkO [] tkI)) 100 (Cy Rc) (fun _=>[]) xf)) (@CC (mkO [] tkI) Tryz.prog G (AR [eDv] (mkO [] tkI)) 100 (Cy Rc) (fun _=>[]) xg))=true:=by kernel_rfl
theorem zh:∀b l,T9 Tryz.prog [.one (.slice [tVs]),.one tI] Z2.results.toList (xh b) (Hg 0 STk.L (@CC (mkO [] tkI) Tryz.prog G (AR [eDv] (mkO [] tkI)) 100 (Cy Rc) (fun _=>[]) tkZ) b l)=true∧dfR (Hg 0 STk.L (@CC (mkO [] tkI) Tryz.prog G (AR [eDv] (mkO [] tkI)) 100 (Cy Rc) (fun _=>[]) tkZ) b l)=some [.rest l]:=by
 intro b l;cases b<;>refine⟨?_,?_⟩
 all_goals kernel_rfl
theorem ti(I:Nat→List DV→DV)(hI:I 162=fun ds=>.bool (EW (lD ds 0))):Am Tryz.prog G fTk [.one CL] [.one (.slice [tVs]),.one tI] (fun ds=>∀p∈rZ,den (AA I ds) p.1=.bool p.2) Ftk:=by
 have hk:=zg
 simp only[ACH]at hk;refine uV (I:=tkI) (sub:=Cy Rc) (L:=STk.L) (spec:=AR [eDv]) (fn:=Z2) GL PB (AG (xc rfl)) AI 100 (Gz ⟨Fw (by kernel_rfl) (xd rfl rfl),trivial⟩) (Dj (by kernel_rfl)) ABY xi (by kernel_rfl) (fun R=>iG (rhoL R.ρ 0 3)) (fun R=>pY (rhoL R.ρ 0 3)) ?_ [.v 0,k64 0,.emp] xj xh zh ?_
 ·intro R hRI hinv;refine KX (facts:=[]) (by simp) ABW (FI (S:=STk) (F:=Vq) (fun _=>rfl) hRI hk.2 ?_)
  exact Fx (f:=[160]) (Jl rfl JX) (by kernel_rfl) ABX hinv
 ·intro E ds vs hr hp;obtain⟨d,rfl,hd⟩:∃d,ds=[[d]]∧Is CL d:=by
   have h:=F3 hr
   simp only[An,Ba]at h;obtain⟨_,_,rfl,⟨d,rfl,hd⟩,rfl⟩:=h;exact⟨d,rfl,hd⟩
  obtain⟨l,rfl,hl,_⟩:=Is.lst hd;have p1:=hp (lss (k64 1000000) (.len (.v 0)),false) (by simp)
  have p2:=hp (.app 162 [.v 0],true) (by simp)
  have e0:∀J,den (AA J [[DV.list l]].flatten) (.v 0)=.list l:=fun J=>rfl
  rw[AB (d_k .i64 1000000) (AF (e0 I))]at p1;have p2:(AA I [[DV.list l]].flatten).I 162 [DV.list l]=.bool true:=p2
  rw[show (AA I [[DV.list l]].flatten).I=I from rfl,hI]at p2;have p2:DV.bool (EW l)=.bool true:=p2
  simp only[DV.bool.injEq,ACK,ACZ]at p1 p2;refine⟨⟨l,[],0,rfl,p2,by omega,rfl,by omega,by omega⟩,(Vq [.list l,.int .i64 0,.list []]).1,rfl,?_⟩
  show Ftk [.list l]=_
  unfold Ftk;show (match (Vq [.list l,.int .i64 0,.list []]).1 with|true=>_|false=>_)=_
  split
  ·rename_i h;rw[h];rfl
  ·rename_i h;rw[h];rfl
abbrev eRg:Ent:=eFn 28 [.agg tQry] [.agg pT,.one tI] Iw 153 []
abbrev xk:Ent:=eFn 89 [.agg CV,.agg CV,.one DI] [.one .bool] [] 154 []
abbrev eVr:Ent:=eFn 90 [.agg Ad,.agg tRg,.agg tSp] [.one CL,.one tI] [] 155 []
abbrev eTk:Ent:=eFn fTk [.one CL] [.one (.slice [tVs]),.one tI] rZ 163 []
abbrev vyR:SX:=.app 153 (AH 65 76)
abbrev vyV:SX:=.app 155 (AH 1 32++(Aq vyR 0 3++AH 141 4))
abbrev vyC:SX:=.at vyV (k64 0) 0
abbrev vyT(k:Nat):SX:=.at (.app 163 [vyC]) (k64 k) 0
abbrev vyB:Pln:=.done [[.emp],[k64 251]]
def pVy:Pln:=
 .know (lss (k64 1000) (.len (.v 66))) false (.ask (eql (.at vyR (k64 1) 0) (k64 0))
  (.ask (eql (.v 65) (k64 3))
   (.ask (eql (.v 141) (k64 0)) (.ask (eql (.v 142) (k64 0)) (.ask (lss (k64 0) (add (.len (.v 143)) (.len (.v 144)))) vyB
    (.ask (.at (.app 154 (AH 0 65++(AH 76 65++[.v 145]))) (k64 0) 0) (.done [[.emp],[k64 0]]) vyB)) vyB) vyB)
   (.ask (eql (.at vyV (k64 1) 0) (k64 0))
    (.ask (lss (k64 0) (.len (.v 145))) vyB
     (.know (lss (k64 1000000) (.len vyC)) false (.know (.app 162 [vyC]) true (.done [[vyT 0],[vyT 1]]))))
    vyB))
  (.done [[.emp],[.at vyR (k64 1) 0]]))
set_option maxRecDepth 100000
theorem kVy(I:Nat→List DV→DV):(hasB 49&&AJ [.one (.slice [tVs]),.one tI] (Bc I (AR [eRg,xk,eVr,eTk]) [] [] 49 [.agg CV,.agg tQry,.agg tP]) [] pVy)=true:=by kernel_rfl
def vyI:Nat→List DV→DV
 |153,ds=>.list (lS ds)
 |154,ds=>.list (Zt ds)
 |155,ds=>.list (VZ ds)
 |162,ds=>.bool (EW (lD ds 0))
 |163,ds=>.list (Ftk ds)
 |_,_=>.bool false
def Fvy(ds:List DV):List (List DV):=evP (AA vyI ds) pVy
abbrev ra:List (SX×Bool):=[(lss (k64 1000) (.len (.v 66)),false),(lss (k64 1000000) (.len (.v 143)),false),(.app 162 [.v 143],true)]
def xl:List (List SX)→Bool
 | [[.kb _]]=>true
 | [[.all _]]=>true
 | [[.bin .eql _ _]]=>true
 | [[.at (.app 147 _) (.ki .i64 (.ofNat 0)) 0]]=>true
 |_=>false
def xm:List (List SX)→Bool
 | [[.kb _]]=>true
 | [[.all _]]=>true
 |_=>false
theorem tj(ds:List DV):∃b,pO ds=[[.bool b]]:=by
 obtain⟨r,h1,h2⟩:=H3 (R:=AA LY ds) (Q:=xm) (p:=iB) (by kernel_rfl)
 unfold xm at h1;split at h1
 ·exact⟨_,h2⟩
 ·rename_i es;obtain⟨b,hb⟩:=KW (AA LY ds) es;exact⟨b,h2.trans (by simp only[ACO,ACS,hb])⟩
 ·cases h1
theorem lZ(ds:List DV):∃b,Zt ds=[[.bool b]]:=by
 obtain⟨r,h1,h2⟩:=H3 (R:=AA exI ds) (Q:=xl) (p:=Tx) (by kernel_rfl)
 unfold xl at h1;split at h1
 ·exact⟨_,h2⟩
 ·rename_i es;obtain⟨b,hb⟩:=KW (AA exI ds) es;exact⟨b,h2.trans (by simp only[ACO,ACS,hb])⟩
 ·rename_i x y;obtain⟨b,hb⟩:=Bn (AA exI ds) x y;exact⟨b,h2.trans (by simp only[ACO,ACS,hb])⟩
 ·rename_i es;obtain⟨b,hb⟩:=tj (es.map (den (AA exI ds)));have:den (AA exI ds) (.app 147 es)=.list [[.bool b]]:=by
   rw[AO];exact congrArg DV.list hb
  exact⟨b,h2.trans (by simp only[ACO,ACS,Ab 0 this (d_k .i64 0)];rfl)⟩
 ·cases h1
theorem Ww{l:List (List DV)}(p:List DV→Bool)(h:EW l=true):EW (l.filter p)=true:=
 ACt.2 fun r hr=>ACt.1 h r (List.mem_filter.1 hr).1
theorem tk(ds:List DV)(h1:EW (lD ds 37)=true)(h2:(lD ds 37).length≤1000000):∃l e,VZ ds=[[.list l],[.int .i64 e]]∧EW l=true∧l.length≤1000000:=by
 unfold VZ;generalize hv:Hd ds (iD ds 35) (iD ds 36) (lD ds 37) (lD ds 38) (sD ds 32) (sD ds 33) (bD ds 34)=v;cases v with
 |none=>exact⟨[],251,rfl,rfl,by simp⟩
 |some l=>
  refine⟨l,0,rfl,?_⟩
  unfold Hd at hv;split at hv
  ·cases hv
  ·split at hv
   ·cases hv
   ·split at hv
    ·simp only[ACJ]at hv;subst hv;exact⟨rfl,by simp⟩
    ·split at hv
     ·cases hv
     ·simp only[ACJ]at hv;subst hv;exact⟨Ww _ h1,AEB (List.length_filter_le _ _) h2⟩
theorem zi:Ap Tryz.prog G vyI [eRg,xk,eVr,eTk]:=
 ⟨AP AI (th vyI) (fun _=>rfl) _ (by kernel_rfl),AP AI (pre_true te) (fun _=>rfl) _ rfl,AP AI (pre_true zK) (fun _=>rfl) _ rfl,AP AI (ti vyI rfl) (fun _=>rfl) _ (by kernel_rfl),trivial⟩
theorem ABZ(I:Nat→List DV→DV)(hI:I 162=fun ds=>.bool (EW (lD ds 0))):Am Tryz.prog G 49 [.agg CV,.agg tQry,.agg tP] [.one (.slice [tVs]),.one tI] (fun ds=>∀p∈ra,den (AA I ds) p.1=.bool p.2) Fvy:=by
 have hk:=kVy vyI
 rw[ACH]at hk;refine Av (AG zi) [] [] AL hk.1 pVy hk.2 ?_
 intro ds h hp;refine Bq ?_
 have p1:=hp (lss (k64 1000) (.len (.v 66)),false) (by simp)
 have p2:=hp (lss (k64 1000000) (.len (.v 143)),false) (by simp)
 have p3:=hp (.app 162 [.v 143],true) (by simp)
 obtain⟨l,e143,hl⟩:∃l:List (List DV),ds.flatten.getD 143 (.bool false)=.list l∧l.length≤maxLen:=by
  simp only[An,Ba]at h;obtain⟨d1,_,rfl,h1,d2,_,rfl,h2,d3,_,rfl,h3,rfl⟩:=h;obtain⟨x,g,ix⟩:=BL (k:=2) h3 rfl;obtain⟨l,rfl,hl,_⟩:=Is.lst ix;refine⟨l,?_,hl⟩
  have l1:d1.length=65:=GF h1
  have l2:d2.length=76:=GF h2
  rw[ACI,ADE,ACV (by omega),ADE,ACV (by omega),ADE,ACc (by rw[l1,l2];exact (ACW.1 g).1),l1,l2,g]
  rfl
 generalize ds.flatten=D at *;have q1:den (AA vyI D) (lss (k64 1000) (.len (.v 66)))=.bool false:=p1
 have e0:den (AA I D) (.v 143)=.list l:=e143
 rw[AB (d_k .i64 1000000) (AF e0)]at p2;have p3:I 162 [D.getD 143 (.bool false)]=.bool true:=p3
 rw[hI,e143]at p3;have p3:DV.bool (EW l)=.bool true:=p3
 simp only[DV.bool.injEq,ACK,ACZ]at p2 p3;have hR:(AA vyI D).I=vyI:=rfl
 have e1:den (AA vyI D) (.v 143)=.list l:=e143
 generalize AA vyI D=R at *;obtain⟨b1,k1⟩:=Bn R (.at vyR (k64 1) 0) (k64 0);obtain⟨b2,k2⟩:=Bn R (.v 65) (k64 3);obtain⟨b3,k3⟩:=Bn R (.v 141) (k64 0);obtain⟨b4,k4⟩:=Bn R (.v 142) (k64 0);obtain⟨b5,k5⟩:=EJ R (k64 0) (add (.len (.v 143)) (.len (.v 144)));obtain⟨b6,k6⟩:=lZ ((AH 0 65++(AH 76 65++[SX.v 145])).map (den R));have dG:den R (.app 154 (AH 0 65++(AH 76 65++[.v 145])))=.list [[.bool b6]]:=by
  rw[AO,hR];exact congrArg DV.list k6
 obtain⟨b7,k7⟩:=Bn R (.at vyV (k64 1) 0) (k64 0);obtain⟨b8,k8⟩:=EJ R (k64 0) (.len (.v 145));have e37:lD ((AH 1 32++(Aq vyR 0 3++AH 141 4)).map (den R)) 37=l:=by
  show (match den R (.v 143) with|.list l=>l|_=>[])=l
  rw[e1]
 obtain⟨c,e,k9,s1,s2⟩:=tk ((AH 1 32++(Aq vyR 0 3++AH 141 4)).map (den R)) (by rw[e37];exact p3) (by rw[e37];omega)
 have dV:den R vyV=.list [[.list c],[.int .i64 e]]:=by
  rw[show vyV=.app 155 (AH 1 32++(Aq vyR 0 3++AH 141 4)) from rfl,AO,hR];exact congrArg DV.list k9
 have dC:den R vyC=.list c:=(Ab 0 dV (d_k .i64 0)).trans rfl
 have d162:den R (.app 162 [vyC])=.bool true:=by
  rw[AO,hR];simp only[ACO,ACS,dC];exact congrArg DV.bool s1
 exact AU q1 (Ai k1 (fun _=>Ai k2 (fun _=>Ai k3 (fun _=>Ai k4 (fun _=>Ai k5 (fun _=>trivial) (fun _=>Ai ((Ab 0 dG (d_k .i64 0)).trans rfl) (fun _=>trivial) (fun _=>trivial))) (fun _=>trivial)) (fun _=>trivial))
  (fun _=>Ai k7 (fun _=>Ai k8 (fun _=>trivial) (fun _=>AU ((AB (d_k .i64 1000000) (AF dC)).trans (congrArg DV.bool (ACR (by show ¬((1000000:Nat):Int)<c.length;omega)))) (AU d162 trivial))) (fun _=>trivial))) (fun _=>trivial))
end Go.Proofs.YtobajijkmmhdjaaGreatDoor.Se
namespace Go.Proofs.YtobajijkmmhdjaaGreatDoor
open Go Go.AM Go.RowKit
theorem vj:(Tryz.prog.info? 5).map (fun i=>(i.zero,i.size,i.bytes))=some (some (.int .u8 0),1,1):=by kernel_rfl
theorem ZB{t:TypeId}{z:Value}{s b:Nat}(h:(Tryz.prog.info? t).map (fun i=>(i.zero,i.size,i.bytes))=some (some z,s,b)):∃i,Tryz.prog.info? t=some i∧i.zero=some z∧i.size=s∧i.bytes=b:=by
 cases e:Tryz.prog.info? t with
 |none=>rw[e]at h;cases h
 |some i=>
  rw[e]at h;simp only[ADF,ACJ,ACP]at h;exact⟨i,rfl,h.1,h.2.1,h.2.2⟩
theorem cB{w w':World}(h1:w'.os=w.os)(h2:w'.output=w.output):ioOf w'=ioOf w:=by
 unfold ioOf;rw[h1,h2]
def Src_x(w:World)(a:Option Addr)(n:Nat)(news:List Value):Prop:=news.length=n∧(∀u∈news,u.oneCell'=true)∧((a=none∧n=0)∨∃ad,a=some ad∧(n=0∨∃b o,ad=⟨b,o,none⟩)∧∀j u,news[j]? =some u→w.cell? (ad.add j)=some u)
theorem vk{E:Nat→Option Obj}{w:World}(hE:∀b o,E b=some o→w.heap[b]? =some o){d:DV}{v:Value}(h:Rep (Al E) tB d v):∃(ds:List DV) (a:Option Addr) (c:Nat),d=.list (ds.map fun x=>[x])∧ds.length≤maxLen∧
  (∀x∈ds,∃z,x=.int .u8 z∧IntKind.min .u8≤z∧z≤IntKind.max .u8)∧v=.slice a ds.length c∧ds.length≤c∧(a=none→c=0)∧Src_x w a ds.length (ds.map CE):=by
 obtain⟨ds,rfl,h2,h3,h4⟩:=Q8 (t:=tU8) rfl h;simp only[V,ACX]at h4;obtain⟨a,c,rfl,g1,_,g3,g4⟩:=h4;have hint:∀x∈ds,∃z,x=.int .u8 z∧IntKind.min .u8≤z∧z≤IntKind.max .u8:=by
  intro x hx;have:=h3 x hx
  simp only[Rep]at this;obtain⟨z,e,_,k1,k2⟩:=this;exact⟨z,e,k1,k2⟩
 refine⟨ds,a,c,rfl,h2,hint,rfl,g1,g3,by simp,fun u hu=>?_,?_⟩
 ·obtain⟨x,hx,rfl⟩:=ADw.1 hu;obtain⟨z,rfl,_⟩:=hint x hx;rfl
 ·rcases g4 with g4|⟨b,o,rfl,hv⟩
  ·have hn:ds.length=0:=by omega
   have hnil:ds=[]:=ACi.1 hn
   subst hnil;cases a with
   |none=>exact .inl ⟨rfl,rfl⟩
   |some ad=>exact .inr ⟨ad,rfl,.inl rfl,fun j u hj=>by simp at hj⟩
  ·refine .inr ⟨_,rfl,.inr ⟨b,o,rfl⟩,fun j u hj=>?_⟩
   have key:∀(l:List DV) (o:Nat),VR (Al E) b 1 o (l.map fun x=>[.sc (CE x)])→∀i x,(l.map CE)[i]? =some x→(Al E).ecell b (o+i)=some x:=by
    intro l
    induction l with
    |nil=>intro o _ i x hi;simp at hi
    |cons y l ih=>
     intro o hv i x hi;simp only[ACO,VR,VC,V]at hv;obtain⟨_,⟨⟨u,h1,rfl⟩,_⟩,h2⟩:=hv;cases i with
     |zero=>simp only[ACO,ACl,ACJ]at hi;subst hi;simpa using h1
     |succ i=>
      have:=ih (o+1) h2 i x (by simpa using hi)
      rw[show o+(i+1)=o+1+i by omega]
      exact this
   have h1:=key ds o hv j u hj
   unfold Env.ecell at h1;split at h1
   ·rename_i cells t p hb;have h2:=hE b _ hb
    rw[add_plain];unfold World.cell?;simp only[h2];exact h1
   ·cases h1
theorem sY{E:Nat→Option Obj}{w w':World}{v:Value}{ds:List DV}(hE:∀b o,E b=some o→w.heap[b]? =some o)(hb:Below w.heap.size w w')(hds:∀x∈ds,∃z,x=.int .u8 z∧IntKind.min .u8≤z∧z≤IntKind.max .u8)
  (hl:ds.length≤maxLen) (hown:w'.ownsRow w.heap.size 5 1 v ds.length (ds.map CE)):∃E',Grows E E' w w'∧Rep (Al E') tB (.list (ds.map fun x=>[x])) v:=by
 have hold:∀b o,E b=some o→w'.heap[b]? =some o:=by
  intro b o h;have h1:=hE b o h
  rw[hb.block b (ACQ.1 h1).1];exact h1
 obtain⟨_,⟨rfl,h0⟩|⟨g,cap,cur,rfl,hg0,hg,hn,_,hcs,htk⟩⟩:=hown
 ·have hnil:ds=[]:=ACi.1 h0
  subst hnil;refine⟨E,⟨fun b o h=>h,fun b o h=>⟨hold b o h,.inl h⟩,fun b hlt=>hb.block b hlt,cB hb.os hb.output⟩,?_⟩
  simp only[Rep];exact⟨[],none,0,rfl,rfl,ACv _,by simp,fun _=>rfl,.inl rfl⟩
 ·have hEg:E g=none:=by
   cases h:E g with
   |none=>rfl
   |some o=>
    have:=(ACQ.1 (hE g o h)).1
    omega
  refine⟨fun k=>if k=g then some (.cells cur 5 (0,0)) else E k,⟨fun b o h=>?_,fun b o h=>?_,fun b hlt=>hb.block b hlt,cB hb.os hb.output⟩,?_⟩
  ·have:b≠g:=fun e=>by rw[e,hEg]at h;cases h
   simp only[if_neg this];exact h
  ·by_cases e:b=g
   ·subst e;simp only[if_true,ACJ]at h;subst h;exact⟨hg,.inr hg0⟩
   ·simp only[if_neg e]at h;exact⟨hold b o h,.inl h⟩
  ·simp only[Rep];refine⟨_,_,cap,rfl,by rw[ACX],by rw[ACX];exact hn,by rw[ACX];exact hl,(fun e=>by cases e),.inr ⟨g,0,rfl,fun i row hi=>?_⟩⟩
   rw[ACw]at hi;cases hx:ds[i]? with
   |none=>rw[hx]at hi;cases hi
   |some x=>
    rw[hx]at hi;cases hi;obtain⟨z,rfl,k1,k2⟩:=hds x (ACf.2 ⟨i,hx⟩);simp only[RepL,ADJ,AD6,ACk];refine⟨_,[],.int .u8 z,rfl,?_,?_,rfl⟩
    ·unfold Env.ecell;simp only[Al,if_true];have hlt:=(ACW.1 hx).1
     have h1:(cur.toList.take (ds.length*1))[i]? =some (CE (.int .u8 z)):=by
      rw[htk,ACw,hx];rfl
     rw[ADG (by omega)]at h1
     simpa[CE]using h1
    ·simp only[Rep];exact⟨z,rfl,rfl,k1,k2⟩
theorem P8{ops:Array Oper}{rest:List Oper}{o:Oper}{a:Act}{w:World}{Q:Exit→Act→World→Prop}(hgd:o.guard=none)(s x:Operand)
  (ho:o.op=.call {callee:=.builtin .append,args:=#[s,x],argTypes:=#[44,44]}) (base:Nat) (v:Value) (n:Nat) (xs:List Value) (hs:a.eval s=v) (hown:w.ownsRow base 5 1 v n xs)
  (ad:Option Addr) (m c:Nat) (news:List Value) (hx:a.eval x=.slice ad m c) (hsrc:Src_x w ad m news) (h63:n+m≤10000000) (hbase:base≤w.heap.size)
  (h:∀v' w',w'.ownsRow base 5 1 v' (n+m) (xs++news)→w.grownBy w' v.ownBlock→wpList Tryz.prog ops Q rest (a.put o.dst v') w'):wpList Tryz.prog ops Q (o::rest) a w:=by
 obtain⟨i0,hi,hz0,hz1,hz2⟩:=ZB vj;obtain⟨hl,h1,hsrc|⟨ad',rfl,_,hc⟩⟩:=hsrc
 ·obtain⟨rfl,rfl⟩:=hsrc;have hnil:news=[]:=ACi.1 hl
  subst hnil;refine wpList_plain hgd fun K hK=>?_
  have hv:∃b n' c',v=.slice b n' c'∧n'≤c':=by
   obtain⟨_,⟨rfl,_⟩|⟨g,cap,cur,rfl,_,_,hn,_⟩⟩:=hown
   ·exact⟨_,_,_,rfl,ACv _⟩
   ·exact⟨_,_,_,rfl,hn⟩
  obtain⟨b,n',c',rfl,hn'⟩:=hv;have hrun:=Kl (P:=Tryz.prog) (w:=w) (ts:=#[44,44]) (t:=44) (u:=44) (ty:=o.type) (e:=5) (i:=i0) rfl rfl Tryz.underlying44 Tryz.underlying44 (fun k e=>by cases e) hi (base:=b) (sLen:=n') (sCap:=c') (x:=.slice none 0 c)
   (by simp[Builtin.lenOf]) (by simp[Builtin.firstCells]) hn'
  unfold Oper.wp execOp;simp only[ho,resolve,invoke,builtin,Sem.run_bind,Sem.run_pure,Result.andThen_ok,List.map_toArray,ACO,ACS,hs,hx,hrun];exact hK _ _ (h _ _ (by simpa using hown) ⟨rfl,rfl,rfl,ACv _,fun _ _ _=>rfl⟩)
 ·exact wpList_append_own w hgd s x 44 ho base 5 i0 (.int .u8 0) 1 1 Tryz.underlying44 hi hz0 hz1 hz2 rfl (by decide) v n xs hs hown ad' m c news hx (by rw[AD6];exact hl) hc h1 (by unfold maxLen;omega) (by omega) hbase fun v' w' k1 k2 _=>h v' w' k1 k2
theorem Src_x.mono{L:Nat}{w w':World}{a:Option Addr}{n:Nat}{news:List Value}(h:Src_x w a n news)(hw:∀(ad:Addr) (u:Value),w.cell? ad=some u→w'.cell? ad=some u):Src_x w' a n news:=by
 obtain⟨h1,h2,h3|⟨ad,h3,h5,h4⟩⟩:=h
 ·exact⟨h1,h2,.inl h3⟩
 ·exact⟨h1,h2,.inr ⟨ad,h3,h5,fun j u hj=>hw _ _ (h4 j u hj)⟩⟩
theorem Src_x.below{w w':World}{a:Option Addr}{n:Nat}{news:List Value}(h:Src_x w a n news)(hb:Below w.heap.size w w'):Src_x w' a n news:=
 h.mono (L:=0) fun ad u hc=>(World.cell?_of_block (hb.block ad.block (World.block_lt_of_cell? w ad hc))).trans hc
set_option maxHeartbeats 1600000 in
set_option maxRecDepth 1000000 in
theorem j7(a1:Option Addr)(n1 c1:Nat)(x1:List Value)(w:World)(h1:Src_x w a1 n1 x1)(hn1:n1≤1000000):
  Calls Tryz.prog 148 #[.slice a1 n1 c1] w fun e w'=>∃v',e=.returned v'∧w'.ownsRow w.heap.size 5 1 v' n1 x1∧Below w.heap.size w w':=by
 have q:∀(w:World) (a:Option Addr) (n c n' c':Nat),(binOp .eql 44 (.slice a n c) (.slice none n' c')).run Tryz.prog w=.ok (.bool a.isNone) w:=fun w a n c n' c'=>Lib.run_eql_slice_nil w _ _ a n c n' c' Tryz.underlying44
 cases a1 with
 |none=>
  have hz:n1=0∧x1=[]:=by
   obtain⟨g1,_,g2|⟨ad,g2,_,_⟩⟩:=h1
   ·obtain⟨_,rfl⟩:=g2;exact⟨rfl,ACi.1 g1⟩
   ·cases g2
  obtain⟨rfl,rfl⟩:=hz
  go_enter Tryz.func148,Tryz.ntmps148
  go_wp2
  go_ret
  exact⟨_,rfl,World.ownsRow_nil _ _ _ _,Below.refl _ _⟩
 |some ad=>
  have hown0:∀wr:World,w.heap.size≤wr.heap.size→(wr.alloc (.cells #[] 5)).ownsRow w.heap.size 5 1 (.slice (some ⟨wr.heap.size,0,none⟩) 0 0) 0 []:=fun wr hs=>World.ownsRow_made wr #[] 0 hs (ADO _) (by simp)
  go_enter Tryz.func148,Tryz.ntmps148
  go_wp2_with (at_builtin;refine P8 rfl _ _ rfl w.heap.size _ 0 [] rfl (hown0 w (ACv _)) (some ad) n1 c1 x1 rfl (h1.below ((Below.refl _ w).alloc (ACv _) _)) (by omega) (by simp) ?_)
  intro v2 w2 hown2 hgrow2;have hb2:Below w.heap.size w w2:=((Below.refl _ w).alloc (ACv _) _).grown hgrow2 (by simp) (by intro k hk;simp[Value.ownBlock]at hk;omega)
  clear hgrow2 hown0
  go_wp2
  go_ret
  exact⟨v2,rfl,by simpa using hown2,hb2⟩
theorem oA{I:Nat→List DV→DV}{l:List (List DV)}{ds:List DV}{k:Nat}(h:den (AA I ds) (Aj k).1=.bool (Aj k).2)(hk:ds.getD k (.bool false)=.list l):l.length≤1000000:=by
 simp only[den,AA,hk,Bm,AZ,DV.bool.injEq,ACK]at h;simp at h;omega
theorem sZ(I:Nat→List DV→DV):Am Tryz.prog G 148 [.one tB] [.one tB] (fun ds=>∀p∈[Aj 0],den (AA I ds) p.1=.bool p.2) Z6:=by
 refine⟨Dj (by kernel_rfl),fun E ds vs w hE hr hpre _=>?_⟩
 simp only[RepArgs,RepOne]at hr;obtain⟨_,_,v1,_,rfl,e1,⟨d1,rfl,g1⟩,rfl,rfl⟩:=hr;obtain⟨l1,a1,c1,rfl,m1,i1,rfl,k1,_,s1⟩:=vk hE g1;have hvs:vs=#[.slice a1 l1.length c1]:=AD0.1 e1
 subst hvs;have b1:l1.length≤1000000:=by
  have:=oA (l:=l1.map fun x=>[x]) (hpre (Aj 0) (by simp)) (by simp)
  simpa using this
 refine (j7 a1 _ c1 _ w s1 b1).mono ?_
 rintro e w' ⟨v',rfl,hown,hb⟩;obtain⟨E',hg,hrep⟩:=sY hE hb i1 m1 hown;refine⟨v',E',rfl,hg,?_⟩
 simp only[RepRes,RepOne];exact⟨_,rfl,.list (l1.map fun x=>[x]),by simp[lD],hrep⟩
abbrev o8(x y:SX):SX:=.bin .or (.bin .shl x (.ki .u64 (.ofNat 8))) (.conv .u64 y)
theorem cC{l:List Int}{i:Nat}(h:i<l.length):(l.take (i+1)).drop i=[l.getD i 0]:=by
 rw[List.take_add_one,ADL (by rw[ACh];omega),AC2 (by rw[ACh];omega)]
 rw[ACL h,ACI,ACL h];rfl
theorem cD(R:Rho){x y:SX}{a b:List (List DV)}(hx:den R x=.list a)(hy:den R y=.list b):den R (.cat x y)=.list (a++b):=by
 simp only[den,hx,hy,Du]
theorem yl{ds:List (List DV)}(h:An [.one tB] ds):∃l:List Int,ds=[[.list (bytesI l)]]∧BI l∧l.length≤maxLen:=by
 simp only[An,Ba]at h;obtain⟨_,_,rfl,⟨d,rfl,hd⟩,rfl⟩:=h;obtain⟨l,rfl,h1,h2⟩:=hd.ints;exact⟨l,rfl,h1,h2⟩
theorem sa{R:Rho}{l:List Int}(hp:den R (Aj 0).1=.bool (Aj 0).2)(q0:R.ρ 0=.list (bytesI l)):l.length≤1000000:=by
 rw[AB (d_k .i64 1000000) (AY (d_v q0))]at hp;simp only[DV.bool.injEq,ACK]at hp;omega
def Gf(t:TypeId)(cs:List AV):Blk:={t,row:=false,sz:=1,n:=cs.length,z:=[.dead],c:=Blk.putAll .nil 0 cs}
abbrev VE:AV:=.sc (.slice none 0 0)
def bRe(b i e:Nat):Blk:={t:=212,row:=false,sz:=1,n:=3,z:=[.dead],c:=(((Tr.nil:Tr AV).put 0 (.sy tB (.v b))).put 1 (.sy tI (.v i))).put 2 (.sy tI (.v e))}
def S8:Ent:=eFn 148 [.one tB] [.one tB] [Aj 0] 5
theorem WR:Ap Tryz.prog G AE [S8]:=⟨AP AI (sZ AE) (fun _=>rfl) [] (by kernel_rfl),trivial⟩
end Go.Proofs.YtobajijkmmhdjaaGreatDoor
namespace Go.Proofs.YtobajijkmmhdjaaGreatDoor
open Go Go.AM
theorem kd{α:Type}{a:α}{l:List α}:List.drop 1 (a::l)=l:=rfl
theorem Pg{d0 d1 d2:DV}{r:List DV}(h0:Is tB d0)(h1:Is tI d1)(h2:Is tI d2)(hp:den (AA AE (d0::d1::d2::r)) (.app 90 [.v 0,.v 1,.v 2])=.bool true):ZY [d0,d1,d2]:=by
 obtain⟨l,rfl,hB,_⟩:=h0.ints;obtain⟨a,rfl,_⟩:=h1.i64;obtain⟨e,rfl,_⟩:=h2.i64;rw[AO]at hp;have hp:DV.bool (TQ [.list (bytesI l),.int .i64 a,.int .i64 e])=.bool true:=hp
 rw[ZZ]at hp;simp only[DV.bool.injEq,ACH,ACN]at hp;exact⟨l,a,e,rfl,hB,hp⟩
theorem HU{R:Rho}(hI:R.I=AE){x y z:SX}{l:List Int}{a e:Int}(hx:den R x=.list (bytesI l))(hy:den R y=.int .i64 a)(hz:den R z=.int .i64 e)(h:B9 l a):den R (.app 90 [x,y,z])=.bool true:=by
 rw[AO,hI];simp only[ACO,ACS,hx,hy,hz];show DV.bool (TQ _)=_
 rw[ZZ];obtain⟨_,h1,h2,h3⟩:=h;simp[h1,h2,h3]
theorem qg{R:Rho}(hI:R.I=AE){x y z:SX}{l:List Int}{a e:Int}(hx:den R x=.list (bytesI l))(hy:den R y=.int .i64 a)(hz:den R z=.int .i64 e):
  den R (.at (.app 91 [x,y,z]) (k64 0) 1)=.int .u16 (rdU l a e).1∧den R (.at (.app 91 [x,y,z]) (k64 0) 2)=.int .i64 (rdU l a e).2.1∧den R (.at (.app 91 [x,y,z]) (k64 0) 3)=.int .i64 (rdU l a e).2.2:=by
 have h:∀k,den R (.at (.app 91 [x,y,z]) (k64 0) k)=_:=fun k=>Eh (k:=k) (F:=VT) hI (fun _=>rfl)
 simp only[ACO,ACS,hx,hy,hz,cU]at h;exact⟨h 1,h 2,h 3⟩
theorem qh{R:Rho}(hI:R.I=AE){x y z u:SX}{l:List Int}{a e n:Int}(hx:den R x=.list (bytesI l))(hy:den R y=.int .i64 a)(hz:den R z=.int .i64 e)(hu:den R u=.int .i64 n):
  den R (.at (.app 92 [x,y,z,u]) (k64 0) 1)=.list (bytesI (rdW l a e n).1)∧den R (.at (.app 92 [x,y,z,u]) (k64 0) 2)=.int .i64 (rdW l a e n).2.1∧den R (.at (.app 92 [x,y,z,u]) (k64 0) 3)=.int .i64 (rdW l a e n).2.2:=by
 have h:∀k,den R (.at (.app 92 [x,y,z,u]) (k64 0) k)=_:=fun k=>Eh (k:=k) (F:=VU) hI (fun _=>rfl)
 simp only[ACO,ACS,hx,hy,hz,hu,cV]at h;exact⟨h 1,h 2,h 3⟩
def TU(id:Nat):Tmpl:={tm:=[(0,.ptr id 0)],ob:=[(id,bRe 0 1 2)],src:=[.cell id 0 tB,.cell id 1 tI,.cell id 2 tI]}
def YU(id:Nat):Tmpl:={tm:=[(0,.sy (.int .u16) (.v 1))],ob:=[(id,bRe 0 2 3)],src:=[.cell id 0 tB,.tm 0 (.int .u16),.cell id 1 tI,.cell id 2 tI]}
abbrev rdV:SX×Bool:=(.app 90 [.v 0,.v 1,.v 2],true)
def SU(id:Nat):StdL:={n:=1,T:=TU id,tys:=[tB,tI,tI],pre:=[rdV],f:=91,keep:=[0],yes:=(.ret,YU id,3)}
abbrev at2:SX:=add (.v 1) (k64 2)
abbrev Ii:SX:=.cut (.v 0) (sub at2 (k64 2)) at2
abbrev qi:SX:=.conv .u16 (o8 (.bin .or (.ki .u64 (.ofNat 0)) (.conv .u64 (.at Ii (k64 0) 0))) (.at Ii (k64 1) 0))
abbrev VD:SX:=.ki .u16 (.ofNat 0)
def pU:RPln:=
 .ask (eql (.v 2) (k64 0))
  (.ask (lss (sub (.len (.v 0)) (.v 1)) (k64 2))
   (.exit true [.v 0,VD,.v 1,k64 7])
   (DT [(lss (sub at2 (k64 2)) (k64 0),false),(lss at2 (sub at2 (k64 2)),false),(lss (.len (.v 0)) at2,false),(lss (k64 0) (.len Ii),true),(lss (k64 1) (.len Ii),true),(lss (k64 2) (.len Ii),false)]
    (.exit true [.v 0,qi,at2,.v 2])))
  (.exit true [.v 0,VD,.v 1,.v 2])
theorem okU(id:Nat)(h:(hasB 80&&((SU id).ok&&(Au (SU id) pU&&Bs (SU id).L (GG AE (AR []) [] [] 80) [] pU)))=true):D0 Tryz.prog G AE 80 (SU id).L:=by
 refine H4 (F:=VT) (Inv:=ZY) (AG (l:=[]) trivial) (sub:=[]) trivial [] AL (ACv 1) (fun _=>rfl) pU h ?_ ?_
 ·intro ds h hp;obtain⟨d0,_,rfl,h0,d1,_,rfl,h1,d2,_,rfl,h2,rfl⟩:=h;exact Pg h0 h1 h2 (hp rdV (by simp[SU]))
 ·rintro ds ⟨l,a,e,rfl,hB,hl,h0,h1⟩;generalize hR:AA AE [.list (bytesI l),.int .i64 a,.int .i64 e]=R;have e0:R.ρ 0=.list (bytesI l):=by rw[←hR];rfl
  have e1:R.ρ 1=.int .i64 a:=by rw[←hR];rfl
  have e2:R.ρ 2=.int .i64 e:=by rw[←hR];rfl
  have dl:=AY (d_v e0)
  have dlf:den R (sub (.len (.v 0)) (.v 1))=.int .i64 (l.length-a):=Cv dl (d_v e1) (by omega) (by omega)
  show Af 1 VT _ _ R _ pU
  unfold pU;have hF:=cU l a e
  refine Ae (AN (d_v e2) (d_k .i64 0)) (fun he=>?_) (fun he=>?_)
  ·simp only[ACN]at he;refine Ae (AB dlf (d_k .i64 2)) (fun h2=>?_) (fun h2=>?_)
   ·simp only[ACN]at h2;show _=_
    rw[hF,rdU,if_neg (by simpa using he),if_pos (by simpa using h2)]
    simp only[kd,ACO,ACS,den,e1];rfl
   ·simp only[ACK]at h2;have h2:a+2≤l.length:=by simp at h2;omega
    have da:den R at2=.int .i64 (a+((2:Nat):Int)):=B6 (d_v e1) (d_k .i64 2) (by omega) (by omega)
    have ds:den R (sub at2 (k64 2))=.int .i64 a:=(Cv (R:=R) da (d_k .i64 2) (by omega) (by omega)).trans (congrArg (DV.int .i64) (by omega))
    have hC:den R Ii=.list (bytesI [l.getD a.toNat 0,l.getD (a.toNat+1) 0]):=by
     rw[HB (d_v e0) ds da];refine congrArg (fun x=>DV.list (bytesI x)) ?_
     rw[show (a+((2:Nat):Int)).toNat=a.toNat+1+1 by omega]
     have h1:(l.take (a.toNat+1+1)).drop a.toNat=(l.take (a.toNat+1)).drop a.toNat++(l.take (a.toNat+1+1)).drop (a.toNat+1):=Wv (by omega) (by omega)
     rw[h1,cC (by omega),cC (by omega)]
     rfl
    have hm:∀j,j<l.length→0≤l.getD j 0∧l.getD j 0≤255:=fun j hj=>Bb hB (by
     rw[ACI,ACL hj];exact AC7 _)
    have m0:=hm a.toNat (by omega)
    have m1:=hm (a.toNat+1) (by omega)
    have a0:den R (.at Ii (k64 0) 0)=.int .u8 (l.getD a.toNat 0):=Mg (l:=[l.getD a.toNat 0,l.getD (a.toNat+1) 0]) (z:=((0:Nat):Int)) hC (d_k .i64 0) (by omega) (by simp)
    have a1:den R (.at Ii (k64 1) 0)=.int .u8 (l.getD (a.toNat+1) 0):=Mg (l:=[l.getD a.toNat 0,l.getD (a.toNat+1) 0]) (z:=((1:Nat):Int)) hC (d_k .i64 1) (by omega) (by simp)
    have dn:den R qi=.int .u16 (EE l a.toNat):=gN (Kw (XL a0 m0) a1 m0.1 (by omega) m1) ⟨by unfold EE;omega,by unfold EE;omega⟩
    have dC:=AY hC
    refine FJ (l:=[_,_,_,_,_,_]) (fun q hq=>?_) ?_
    ·simp only[ACU,ACm,or_false]at hq;rcases hq with rfl|rfl|rfl|rfl|rfl|rfl
     ·rw[AB ds (d_k .i64 0)];simp only[DV.bool.injEq,ACK];omega
     ·rw[AB da ds];simp only[DV.bool.injEq,ACK];omega
     ·rw[AB dl da];simp only[DV.bool.injEq,ACK];omega
     ·rw[AB (d_k .i64 0) dC];rfl
     ·rw[AB (d_k .i64 1) dC];rfl
     ·rw[AB (d_k .i64 2) dC];rfl
    ·show _=_
     rw[hF,rdU,if_neg (by simpa using he),if_neg (by omega)]
     simp only[kd,ACO,ACS,dn,da,d_v e2];rfl
  ·simp only[ACK]at he;show _=_
   rw[hF,rdU,if_pos (by simpa using he)]
   simp only[kd,ACO,ACS,den,e1,e2];rfl
def TRw(id:Nat):Tmpl:={tm:=[(0,.ptr id 0),(1,.sy tI (.v 3))],ob:=[(id,bRe 0 1 2)],src:=[.cell id 0 tB,.cell id 1 tI,.cell id 2 tI,.tm 1 tI]}
def YRw(id:Nat):Tmpl:={tm:=[(0,.sy tB (.v 1))],ob:=[(id,bRe 0 2 3)],src:=[.cell id 0 tB,.tm 0 tB,.cell id 1 tI,.cell id 2 tI]}
def SRw(id:Nat):StdL:={n:=2,T:=TRw id,tys:=[tB,tI,tI,tI],pre:=[rdV,(lss (.v 3) (k64 0),false)],f:=92,keep:=[0],yes:=(.ret,YRw id,3)}
abbrev atN:SX:=add (.v 1) (.v 3)
abbrev ff:SX:=.cut (.v 0) (sub atN (.v 3)) atN
abbrev cl(x:SX):SX:=.at (.app 5 [x]) (k64 0) 0
def pRw:RPln:=
 DT [(lss (.v 3) (k64 0),false),(lss (k64 1000000) (.len .emp),false)] (.ask (eql (.v 2) (k64 0))
  (.ask (lss (sub (.len (.v 0)) (.v 1)) (.v 3))
   (.exit true [.v 0,cl .emp,.v 1,k64 7])
   (DT [(lss (sub atN (.v 3)) (k64 0),false),(lss atN (sub atN (.v 3)),false),(lss (.len (.v 0)) atN,false),(lss (k64 1000000) (.len ff),false)]
    (.exit true [.v 0,cl ff,atN,.v 2])))
  (.exit true [.v 0,cl .emp,.v 1,.v 2]))
theorem vi{R:Rho}(hI:R.I=AE){x:SX}{l:List (List DV)}(hx:den R x=.list l):den R (cl x)=.list l:=by
 refine Mh (F:=Z6) (by rw[hI];rfl) ?_
 simp only[ACO,ACS,hx];rfl
theorem AAg(id:Nat)(h:(hasB 121&&((SRw id).ok&&(Au (SRw id) pRw&&Bs (SRw id).L (GG AE (AR [S8]) [] [] 121) [] pRw)))=true):D0 Tryz.prog G AE 121 (SRw id).L:=by
 refine H4 (F:=VU) (Inv:=y9) (AG WR) (sub:=[]) trivial [] AL (show 1≤2 by decide) (fun _=>rfl) pRw h ?_ ?_
 ·intro ds h hp;obtain⟨d0,_,rfl,h0,d1,_,rfl,h1,d2,_,rfl,h2,d3,_,rfl,h3,rfl⟩:=h;obtain⟨l,a,e,he,g1,g2,g3,g4⟩:=Pg h0 h1 h2 (hp rdV (by simp[SRw]))
  simp only[ADa,and_true]at he;obtain⟨rfl,rfl,rfl⟩:=he;obtain⟨n,rfl,n1,n2⟩:=h3.i64;have p:=hp (lss (.v 3) (k64 0),false) (by simp[SRw])
  rw[AB (d_v (d:=.int .i64 n) rfl) (d_k .i64 0)]at p;simp only[DV.bool.injEq,ACK]at p;exact⟨l,a,e,n,rfl,⟨g1,g2,g3,g4⟩,by omega,n2⟩
 ·rintro ds ⟨l,a,e,n,rfl,⟨hB,hl,h0,h1⟩,n0,n2⟩;generalize hR:AA AE [.list (bytesI l),.int .i64 a,.int .i64 e,.int .i64 n]=R;have hI:R.I=AE:=by rw[←hR];rfl
  have e0:R.ρ 0=.list (bytesI l):=by rw[←hR];rfl
  have e1:R.ρ 1=.int .i64 a:=by rw[←hR];rfl
  have e2:R.ρ 2=.int .i64 e:=by rw[←hR];rfl
  have e3:R.ρ 3=.int .i64 n:=by rw[←hR];rfl
  have dl:=AY (d_v e0)
  have dlf:den R (sub (.len (.v 0)) (.v 1))=.int .i64 (l.length-a):=Cv dl (d_v e1) (by omega) (by omega)
  have dem:den R (cl .emp)=.list (bytesI []):=vi hI rfl
  show Af 1 VU _ _ R _ pRw
  unfold pRw;have hF:=cV l a e n
  refine FJ (l:=[_,_]) (fun q hq=>?_) ?_
  ·simp only[ACU,ACm,or_false]at hq;rcases hq with rfl|rfl
   ·rw[AB (d_v e3) (d_k .i64 0)];simp only[DV.bool.injEq,ACK];omega
   ·rfl
  refine Ae (AN (d_v e2) (d_k .i64 0)) (fun he=>?_) (fun he=>?_)
  ·simp only[ACN]at he;refine Ae (AB dlf (d_v e3)) (fun h2=>?_) (fun h2=>?_)
   ·simp only[ACN]at h2;show _=_
    rw[hF,rdW,if_neg (by simpa using he),if_pos h2]
    simp only[kd,ACO,ACS,dem,d_v e1];rfl
   ·simp only[ACK]at h2;have da:den R atN=.int .i64 (a+n):=B6 (d_v e1) (d_v e3) (by omega) (by omega)
    have ds:den R (sub atN (.v 3))=.int .i64 a:=by
     exact (Cv (R:=R) da (d_v e3) (by omega) (by omega)).trans (congrArg (DV.int .i64) (by omega))
    have hC:den R ff=.list (bytesI ((l.take (a+n).toNat).drop a.toNat)):=HB (d_v e0) ds da
    refine FJ (l:=[_,_,_,_]) (fun q hq=>?_) ?_
    ·simp only[ACU,ACm,or_false]at hq;rcases hq with rfl|rfl|rfl|rfl
     ·rw[AB ds (d_k .i64 0)];simp only[DV.bool.injEq,ACK];omega
     ·rw[AB da ds];simp only[DV.bool.injEq,ACK];omega
     ·rw[AB dl da];simp only[DV.bool.injEq,ACK];omega
     ·exact Cr R hC (by rw[ADA,ACh];omega)
    ·show _=_
     rw[hF,rdW,if_neg (by simpa using he),if_neg h2]
     simp only[kd,ACO,ACS,vi hI hC,da,d_v e2]
  ·simp only[ACK]at he;show _=_
   rw[hF,rdW,if_pos (by simpa using he)]
   simp only[kd,ACO,ACS,dem,d_v e1,d_v e2]
def eU(ids:List Nat):Ent:=Jo 80 (ids.map fun i=>(SU i).L)
def eRw(ids:List Nat):Ent:=Jo 121 (ids.map fun i=>(SRw i).L)
theorem kU1:(hasB 80&&((SU 1).ok&&(Au (SU 1) pU&&Bs (SU 1).L (GG AE (AR []) [] [] 80) [] pU)))=true:=by kernel_rfl
theorem AAU:(hasB 121&&((SRw 1).ok&&(Au (SRw 1) pRw&&Bs (SRw 1).L (GG AE (AR [S8]) [] [] 121) [] pRw)))=true:=by kernel_rfl
abbrev nh:List Ent:=[eU [1],eRw [1],S8]
theorem U7:Ap Tryz.prog G AE nh:=⟨Gq AI (fun L hL=>by
  simp only[ACO,ACS,ACU,ACm,or_false]at hL;subst hL;exact okU 1 kU1),Gq AI (fun L hL=>by
  simp only[ACO,ACS,ACU,ACm,or_false]at hL;subst hL;exact AAg 1 AAU),WR.1,trivial⟩
abbrev LN:Ty:=.int .u16
abbrev vK:AV:=.agg [.ptr 1 0]
def TTx:Tmpl:={tm:=[(0,vK)],ob:=[(1,bRe 0 1 2)],src:=[.cell 1 0 tB,.cell 1 1 tI,.cell 1 2 tI]}
def YTx:Tmpl:={tm:=[(0,.sy .str (.v 1))],ob:=[(1,bRe 0 2 3)],src:=[.cell 1 0 tB,.tm 0 .str,.cell 1 1 tI,.cell 1 2 tI]}
def STx:StdL:={n:=1,T:=TTx,tys:=[tB,tI,tI],pre:=[rdV],f:=93,keep:=[0],yes:=(.ret,YTx,3)}
abbrev uX(k:Nat):SX:=.at (.app 91 [.v 0,.v 1,.v 2]) (k64 0) k
abbrev wX(k:Nat):SX:=.at (.app 92 [.v 0,uX 2,uX 3,.conv .i64 (uX 1)]) (k64 0) k
def XB:RPln:=DT [(.app 90 [.v 0,.v 1,.v 2],true),(.app 90 [.v 0,uX 2,uX 3],true),(lss (.conv .i64 (uX 1)) (k64 0),false)] (.exit true [.v 0,.text (wX 1),wX 2,wX 3])
theorem yX:(hasB 83&&(STx.ok&&(Au STx XB&&Bs STx.L (GG AE (AR nh) [] [] 83) [] XB)))=true:=by kernel_rfl
theorem WO{S:StdL}(hpre:rdV∈S.pre){ds:List DV}(h:IsL [tB,tI,tI] ds)(hp:∀p∈S.pre,den (AA AE ds) p.1=.bool p.2):ZY ds:=by
 obtain⟨d0,_,rfl,h0,d1,_,rfl,h1,d2,_,rfl,h2,rfl⟩:=h;exact Pg h0 h1 h2 (hp rdV hpre)
theorem vM:D0 Tryz.prog G AE 83 STx.L:=by
 refine H4 (F:=VV) (Inv:=ZY) (AG U7) (sub:=[]) trivial [] AL (ACv 1) (fun _=>rfl) XB yX (fun ds h hp=>WO (S:=STx) (by simp[STx]) h hp) ?_
 rintro ds ⟨l,a,e,rfl,hok⟩;generalize hR:AA AE [.list (bytesI l),.int .i64 a,.int .i64 e]=R;have hI:R.I=AE:=by rw[←hR];rfl
 have e0:den R (.v 0)=.list (bytesI l):=by rw[←hR];rfl
 have e1:den R (.v 1)=.int .i64 a:=by rw[←hR];rfl
 have e2:den R (.v 2)=.int .i64 e:=by rw[←hR];rfl
 obtain⟨u1,u2,u3⟩:=qg hI e0 e1 e2;obtain⟨o1,n0,n1⟩:=TV (e:=e) hok;have dn:den R (.conv .i64 (uX 1))=.int .i64 (rdU l a e).1:=eX u1 (by omega) (by omega)
 obtain⟨w1,w2,w3⟩:=qh hI e0 u2 u3 dn;show Af 1 VV _ _ R _ XB
 refine FJ (l:=[_,_,_]) (fun q hq=>?_) ?_
 ·simp only[ACU,ACm,or_false]at hq;rcases hq with rfl|rfl|rfl
  ·exact HU hI e0 e1 e2 hok
  ·exact HU hI e0 u2 u3 o1
  ·rw[AB dn (d_k .i64 0)];simp only[DV.bool.injEq,ACK];omega
 ·show _=_
  rw[cW];simp only[kd,ACO,ACS,HA R w1,w2,w3];rfl
def TId:Tmpl:={tm:=[(0,vK)],ob:=[(1,bRe 0 1 2)],src:=[.cell 1 0 tB,.cell 1 1 tI,.cell 1 2 tI]}
def qS(t:Ty)(b:Nat):Nat→List AV
 |0=>[]
 |n+1=>.sy t (.v b)::qS t (Nat.succ b) n
def bu(t:Nat)(ty:Ty)(k:Nat):Nat→List Go.AM.Src
 |0=>[]
 |n+1=>.part t k ty::bu t ty (Nat.succ k) n
def YId:Tmpl:={tm:=[(0,.agg (qS tU8 1 32))],ob:=[(1,bRe 0 33 34)],src:=.cell 1 0 tB::(bu 0 tU8 0 32++[.cell 1 1 tI,.cell 1 2 tI])}
def SId:StdL:={n:=1,T:=TId,tys:=[tB,tI,tI],pre:=[rdV],f:=95,keep:=[0],yes:=(.ret,YId,34)}
def S3(e:SX):Nat→Nat→List SX
 |_,0=>[]
 |k,n+1=>.at e (k64 k) 0::S3 e (Nat.succ k) n
def XC:Nat→List SX
 |0=>[]
 |n+1=>.ki .u8 (.ofNat 0)::XC n
theorem Y2{R:Rho}{e:SX}{s:List Int}(he:den R e=.list (bytesI s)):∀{n k:Nat},k+n=s.length→(S3 e k n).map (den R)=(s.drop k).map fun z=>DV.int .u8 z
 |0,k,h=>by rw[ADP (by omega)];rfl
 |n+1,k,h=>by
  have hk:k<s.length:=by omega
  rw[ACj hk];simp only[S3,ACO];rw[Y2 he (n:=n) (k:=k+1) (by omega),Mg (z:=((k:Nat):Int)) he (d_k .i64 k) (by omega) (by omega)]
  congr 1
  simp[ACI,ACL hk]
theorem bx{R:Rho}:∀n:Nat,(XC n).map (den R)=(List.replicate n (0:Int)).map fun z=>DV.int .u8 z
 |0=>rfl
 |n+1=>by
  rw[AD7];simp only[XC,ACO,bx n];rfl
abbrev w32(k:Nat):SX:=.at (.app 92 [.v 0,.v 1,.v 2,k64 32]) (k64 0) k
def pId:RPln:=.know (.app 90 [.v 0,.v 1,.v 2]) true (.ask (lss (.len (w32 1)) (k64 32))
  (.know (eql (.len (w32 1)) (k64 0)) true (.exit true (.v 0::(XC 32++[w32 2,w32 3]))))
  (.exit true (.v 0::(S3 (w32 1) 0 32++[w32 2,w32 3]))))
theorem kId:(hasB 85&&(SId.ok&&(Au SId pId&&Bs SId.L (GG AE (AR nh) [] [] 85) [] pId)))=true:=by kernel_rfl
theorem bz{l:List Int}{a e:Int}(h:B9 l a):(rdW l a e 32).1.length=32∨(rdW l a e 32).1=[]:=by
 obtain⟨hB,hl,h0,h1⟩:=h;unfold rdW;split
 ·exact .inr rfl
 split
 ·exact .inr rfl
 ·left
  rw[ADA,ACh];omega
theorem vN:D0 Tryz.prog G AE 85 SId.L:=by
 refine H4 (F:=VW) (Inv:=ZY) (AG U7) (sub:=[]) trivial [] AL (ACv 1) (fun _=>rfl) pId kId (fun ds h hp=>WO (S:=SId) (by simp[SId]) h hp) ?_
 rintro ds ⟨l,a,e,rfl,hok⟩;generalize hR:AA AE [.list (bytesI l),.int .i64 a,.int .i64 e]=R;have hI:R.I=AE:=by rw[←hR];rfl
 have e0:den R (.v 0)=.list (bytesI l):=by rw[←hR];rfl
 have e1:den R (.v 1)=.int .i64 a:=by rw[←hR];rfl
 have e2:den R (.v 2)=.int .i64 e:=by rw[←hR];rfl
 obtain⟨w1,w2,w3⟩:=qh hI e0 e1 e2 (d_k .i64 32);have w1:den R (w32 1)=.list (bytesI (rdW l a e 32).1):=w1
 have w2:den R (w32 2)=.int .i64 (rdW l a e 32).2.1:=w2
 have w3:den R (w32 3)=.int .i64 (rdW l a e 32).2.2:=w3
 have dl:=AY w1
 show Af 1 VW _ _ R _ pId
 refine A0 (HU hI e0 e1 e2 hok) (Ae (AB dl (d_k .i64 32)) (fun h=>?_) (fun h=>?_))
 ·simp only[ACN]at h;have hn:(rdW l a e 32).1=[]:=by
   rcases bz (e:=e) hok with h1|h1
   ·omega
   ·exact h1
  refine A0 (by rw[AN dl (d_k .i64 0),hn];rfl) ?_
  show _=_
  rw[VX,hn];rw[kd,ACd,bx];simp only[ACO,ACS,w2,w3];rfl
 ·simp only[ACK]at h;have hn:(rdW l a e 32).1.length=32:=by
   rcases bz (e:=e) hok with h1|h1
   ·exact h1
   ·rw[h1]at h;simp at h
  show _=_
  rw[VX];rw[kd,ACd,Y2 w1 (by omega)]
  simp only[ACO,ACS,w2,w3,GK,if_pos hn];rfl
abbrev OZ:List Ent:=[eU [1],Jo 83 [STx.L],Jo 85 [SId.L]]
theorem PY:Ap Tryz.prog G AE OZ:=⟨U7.1,Gq AI (fun L hL=>by
  simp only[ACU,ACm,or_false]at hL;subst hL;exact vM),Gq AI (fun L hL=>by
  simp only[ACU,ACm,or_false]at hL;subst hL;exact vN),trivial⟩
theorem qT{R:Rho}(hI:R.I=AE){x y z:SX}{l:List Int}{a e:Int}(hx:den R x=.list (bytesI l))(hy:den R y=.int .i64 a)(hz:den R z=.int .i64 e):
  den R (.at (.app 93 [x,y,z]) (k64 0) 1)=.str (Ci (rdT l a e).1)∧den R (.at (.app 93 [x,y,z]) (k64 0) 2)=.int .i64 (rdT l a e).2.1∧den R (.at (.app 93 [x,y,z]) (k64 0) 3)=.int .i64 (rdT l a e).2.2:=by
 have h:∀k,den R (.at (.app 93 [x,y,z]) (k64 0) k)=_:=fun k=>Eh (k:=k) (F:=VV) hI (fun _=>rfl)
 simp only[ACO,ACS,hx,hy,hz,cW]at h;exact⟨h 1,h 2,h 3⟩
abbrev bRr:Blk:=Gf 171 [.ptr 1 0]
abbrev bSp:Blk:=Gf 172 [.ptr 3 0]
abbrev oP(k:Nat):OSrc:=.cell 3 k 29 IL
def TD1(b:Nat):Tmpl:={tm:=[(1,.clo (.func 82) [] [.ptr 4 0,.ptr 2 0]),(2,.ptr b 0),(4,.sy LN (.v 3))],ob:=[(1,bRe 0 1 2),(2,bRr),(3,Gf 73 [.sy tI (.v 5),.sy tI (.v 6),.own 7 tC (.v 4),VE,VE]),(4,bSp),(b,bRr)],ow:=[⟨7,110,tC,.v 4⟩],src:=[.cell 1 0 tB,.cell 1 1 tI,.cell 1 2 tI,.tm 4 LN,.own 0,.cell 3 0 tI,.cell 3 1 tI],osrc:=[.cell 3 2 110 tC]}
def YD1(b:Nat):Tmpl:={tm:=[],ob:=[(1,bRe 0 3 4),(2,bRr),(3,Gf 73 [.sy tI (.v 1),.sy tI (.v 2),.sy Cx (.v 5),VE,VE]),(4,bSp),(b,bRr)],src:=[.cell 1 0 tB,.cell 3 0 tI,.cell 3 1 tI,.cell 1 1 tI,.cell 1 2 tI,.cell 3 2 Cx],isrc:=[.cell 3 2 110 tC]}
def SD1(b:Nat):StdL:={n:=20,T:=TD1 b,tys:=[tB,tI,tI,LN,.slice tC,tI,tI],pre:=[rdV,(lss (k64 0) (.len (.v 4)),false)],f:=94,keep:=[0,5,6],yes:=(.exit 0,YD1 b,3)}
abbrev IJ:Code:=B0 81 0
abbrev x1(k:Nat):SX:=.at (.app 93 [.v 0,.v 1,.v 2]) (k64 0) k
abbrev x2(k:Nat):SX:=.at (.app 93 [.v 0,x1 2,x1 3]) (k64 0) k
abbrev Y3:SX:=.bin .sub (.v 3) (.ki .u16 (.ofNat 1))
def pD1:RPln:=
 .ask (lss VD (.v 3))
  (.ask (eql (.v 2) (k64 0))
   (DT [(.app 90 [.v 0,.v 1,.v 2],true),(.app 90 [.v 0,x1 2,x1 3],true),(lss (k64 1000000) (.len (.v 4)),false)]
    (.next [.v 0,x2 2,x2 3,Y3,.cat (.v 4) (.row [x1 1,x2 1]),.v 5,.v 6]))
   (.exit true [.v 0,.v 5,.v 6,.v 1,.v 2,.v 4]))
  (.exit true [.v 0,.v 5,.v 6,.v 1,.v 2,.v 4])
def Oa(ds:List DV)(r:List DV):Prop:=∃l a e n p,ds=.list (bytesI l)::.int .i64 a::.int .i64 e::.int .u16 n::.list p::r∧B9 l a∧0≤n∧(p.length:Int)+n≤65535
theorem U9{ts:List Ty}{d0 d1 d2 d3 d4:DV}{r:List DV}(h0:Is tB d0)(h1:Is tI d1)(h2:Is tI d2)(h3:Is LN d3)(h4:Is (.slice ts) d4)(hp0:den (AA AE (d0::d1::d2::d3::d4::r)) (.app 90 [.v 0,.v 1,.v 2])=.bool true)
  (hp1:den (AA AE (d0::d1::d2::d3::d4::r)) (lss (k64 0) (.len (.v 4)))=.bool false):Oa (d0::d1::d2::d3::d4::r) r:=by
 obtain⟨l,a,e,he,hok⟩:=Pg h0 h1 h2 hp0;simp only[ADa,and_true]at he;obtain⟨rfl,rfl,rfl⟩:=he;obtain⟨n,rfl,n0,n1⟩:=h3.u16;obtain⟨p,rfl,_⟩:=h4.list;rw[AB (d_k .i64 0) (AF (d_v (d:=.list p) rfl))]at hp1;simp only[DV.bool.injEq,ACK]at hp1;exact⟨l,a,e,n,p,rfl,hok,n0,by omega⟩
def muD(ds:List DV):Nat:=(iD ds 3).toNat
theorem qU{R:Rho}{n:Int}(h:R.ρ 3=.int .u16 n)(h0:0<n)(h1:n≤65535):den R Y3=.int .u16 (n-1):=by
 simp only[den,h,AZ,wrap_u16];refine congrArg (DV.int .u16) ?_
 show (n-1)%65536=_
 omega
theorem vO{b:Nat}(hok:((SD1 b).ok&&(Au (SD1 b) pD1&&AW (SD1 b).L (B1 AE (AR OZ) [] [] IJ) [] pD1))=true):BJ Tryz.prog G AE IJ (SD1 b).L:=by
 refine B5 (F:=Pv) (μ:=muD) (Inv:=fun ds=>∃t f,Oa ds [t,f]) (AG PY) (sub:=[]) trivial (lps:=[]) AL (fun _=>rfl) pD1 hok ?_ ?_
 ·intro ds h hp;obtain⟨d0,_,rfl,h0,d1,_,rfl,h1,d2,_,rfl,h2,d3,_,rfl,h3,d4,_,rfl,h4,t,_,rfl,h5,f,_,rfl,h6,rfl⟩:=h;exact⟨t,f,U9 h0 h1 h2 h3 h4 (hp rdV (by simp[SD1])) (hp (lss (k64 0) (.len (.v 4)),false) (by simp[SD1]))⟩
 ·rintro ds ⟨t,f,l,a,e,n,p,rfl,hok,n0,n1⟩;generalize hR:AA AE [.list (bytesI l),.int .i64 a,.int .i64 e,.int .u16 n,.list p,t,f]=R;have hI:R.I=AE:=by rw[←hR];rfl
  have e0:den R (.v 0)=.list (bytesI l):=by rw[←hR];rfl
  have e1:den R (.v 1)=.int .i64 a:=by rw[←hR];rfl
  have e2:den R (.v 2)=.int .i64 e:=by rw[←hR];rfl
  have e3:den R (.v 3)=.int .u16 n:=by rw[←hR];rfl
  have e4:den R (.v 4)=.list p:=by rw[←hR];rfl
  have e5:den R (.v 5)=t:=by rw[←hR];rfl
  have e6:den R (.v 6)=f:=by rw[←hR];rfl
  show Af 3 Pv _ _ R _ pD1
  refine Ae (AB (show den R VD=.int .u16 0 from rfl) e3) (fun hn=>?_) (fun hn=>?_)
  ·simp only[ACN]at hn;refine Ae (AN e2 (d_k .i64 0)) (fun he=>?_) (fun he=>?_)
   ·simp only[ACN]at he;have he:e=0:=he
    subst he;obtain⟨g1,g2,g3⟩:=qT hI e0 e1 e2;have o1:=(TW (e:=0) hok)
    obtain⟨k1,k2,k3⟩:=qT hI e0 g2 g3;have o2:=(TW (e:=(rdT l a 0).2.2) o1)
    refine FJ (l:=[_,_,_]) (fun q hq=>?_) ?_
    ·simp only[ACU,ACm,or_false]at hq;rcases hq with rfl|rfl|rfl
     ·exact HU hI e0 e1 e2 hok
     ·exact HU hI e0 g2 g3 o1
     ·rw[AB (d_k .i64 1000000) (AF e4)];simp only[DV.bool.injEq,ACK];omega
    ·have hc:=cD R e4 (show den R (.row [x1 1,x2 1])=.list [Pt (rdT l a 0).1 (rdT l (rdT l a 0).2.1 (rdT l a 0).2.2).1] from by
      show DV.list [[den R (x1 1),den R (x2 1)]]=_
      rw[g1,k1]
      rfl)
     have hm:[SX.v 0,x2 2,x2 3,Y3,.cat (.v 4) (.row [x1 1,x2 1]),.v 5,.v 6].map (den R)=[.list (bytesI l),.int .i64 (rdT l (rdT l a 0).2.1 (rdT l a 0).2.2).2.1,.int .i64 (rdT l (rdT l a 0).2.1 (rdT l a 0).2.2).2.2,.int .u16 (n-1),.list (p++[Pt (rdT l a 0).1 (rdT l (rdT l a 0).2.1 (rdT l a 0).2.2).1]),t,f]:=by
      simp only[ACO,ACS,e0,k2,k3,qU e3 hn (by omega),hc,e5,e6]
     show _∧_∧_
     rw[hm];refine⟨⟨t,f,_,_,_,_,_,rfl,o2,by omega,by rw[ACT];simp;omega⟩,?_,?_⟩
     ·show (n-1).toNat<n.toNat
      omega
     ·rw[KJ,KJ,show n.toNat=(n-1).toNat+1 by omega]
      rfl
   ·simp only[ACK]at he;have he:¬e=0:=he
    show _=_
    have hr:Co l n.toNat a e p=(p,a,e):=by
     cases n.toNat with
     |zero=>rfl
     |succ m=>exact if_pos he
    rw[KJ,hr];simp only[ADr,AC1,ACO,ACS,e1,e2,e4]
  ·simp only[ACK]at hn;show _=_
   have hr:Co l n.toNat a e p=(p,a,e):=by
    rw[show n.toNat=0 by omega]
    rfl
   rw[KJ,hr];simp only[ADr,AC1,ACO,ACS,e1,e2,e4]
theorem S4(x d:DV)(r:List DV):∀(l:List DV) (k:Nat) (p:List DV),p.length=k→rhoL (fun i=>(p++(l++r)).getD i d) k l.length=l
 | [],_,_,_=>rfl
 |a::l,k,p,hp=>by
  simp only[ACe,rhoL];have h1:(p++(a::l++r)).getD k d=a:=by
   rw[ACI,ACV (by omega)]
   simp[hp]
  have h2:=S4 x d r l (k+1) (p++[a]) (by simp[hp])
  have e:p++[a]++(l++r)=p++(a::l++r):=by simp
  rw[e]at h2;rw[h1,h2]
theorem ni(s:List Int):(GK s).length=32:=by
 unfold GK idD;split
 ·rename_i h;rw[ACX,h]
 ·simp
abbrev y95(k:Nat):SX:=.at (.app 95 [.v 0,.v 1,.v 2]) (k64 0) k
abbrev XD:List SX:=Aq (.app 95 [.v 0,.v 1,.v 2]) 1 32
theorem AAV{R:Rho}(hI:R.I=AE){l:List Int}{a e:Int}(hx:den R (.v 0)=.list (bytesI l))(hy:den R (.v 1)=.int .i64 a)(hz:den R (.v 2)=.int .i64 e):
  XD.map (den R)=GK (rdW l a e 32).1∧den R (y95 33)=.int .i64 (rdW l a e 32).2.1∧den R (y95 34)=.int .i64 (rdW l a e 32).2.2:=by
 have hap:den R (.app 95 [.v 0,.v 1,.v 2])=.list [.bool true::(GK (rdW l a e 32).1++[.int .i64 (rdW l a e 32).2.1,.int .i64 (rdW l a e 32).2.2])]:=by
  rw[AO,hI];simp only[ACO,ACS,hx,hy,hz];show DV.list (FL VW _)=_
  unfold FL;rw[VX]
 have hl:=ni (rdW l a e 32).1
 refine⟨?_,?_,?_⟩
 ·rw[CI hap];have:=S4 (.bool true) (.bool false) [.int .i64 (rdW l a e 32).2.1,.int .i64 (rdW l a e 32).2.2] (GK (rdW l a e 32).1) 1 [.bool true] rfl
  rw[hl]at this;exact this
 ·show atD (den R (.app 95 [.v 0,.v 1,.v 2])) (.int .i64 0) 33=_
  rw[hap];show (DV.bool true::(GK (rdW l a e 32).1++_)).getD 33 _=_
  rw[ACr,ACI,ACV (by omega),hl]
  rfl
 ·show atD (den R (.app 95 [.v 0,.v 1,.v 2])) (.int .i64 0) 34=_
  rw[hap];show (DV.bool true::(GK (rdW l a e 32).1++_)).getD 34 _=_
  rw[ACr,ACI,ACV (by omega),hl]
  rfl
def TD2(b:Nat):Tmpl:={tm:=[(1,.clo (.func 84) [] [.ptr 4 0,.ptr 2 0]),(2,.ptr b 0),(4,.sy LN (.v 3))],ob:=[(1,bRe 0 1 2),(2,bRr),(3,Gf 73 [.sy tI (.v 5),.sy tI (.v 6),.sy Cx (.v 7),.own 7 IL (.v 4),VE]),(4,bSp),(b,bRr)],ow:=[⟨7,29,IL,.v 4⟩],src:=[.cell 1 0 tB,.cell 1 1 tI,.cell 1 2 tI,.tm 4 LN,.own 0,.cell 3 0 tI,.cell 3 1 tI,.cell 3 2 Cx],osrc:=[oP 3]}
def YD2(b:Nat):Tmpl:={tm:=[],ob:=[(1,bRe 0 4 5),(2,bRr),(3,Gf 73 [.sy tI (.v 1),.sy tI (.v 2),.sy Cx (.v 3),.sy BM (.v 6),VE]),(4,bSp),(b,bRr)],src:=[.cell 1 0 tB,.cell 3 0 tI,.cell 3 1 tI,.cell 3 2 Cx,.cell 1 1 tI,.cell 1 2 tI,.cell 3 3 BM],isrc:=[oP 3]}
def SD2(b:Nat):StdL:={n:=20,T:=TD2 b,tys:=[tB,tI,tI,LN,.slice IL,tI,tI,Cx],pre:=[rdV,(lss (k64 0) (.len (.v 4)),false)],f:=96,keep:=[0,5,6,7],yes:=(.exit 0,YD2 b,3)}
def TD3(b:Nat):Tmpl:={tm:=[(1,.clo (.func 86) [] [.ptr 3 0,.ptr 2 0]),(2,.ptr b 0),(4,.sy LN (.v 3))],ob:=[(1,bRe 0 1 2),(2,bRr),(3,Gf 73 [.sy tI (.v 5),.sy tI (.v 6),.sy Cx (.v 7),.sy BM (.v 8),.own 7 IL (.v 4)]),(b,bRr)],ow:=[⟨7,29,IL,.v 4⟩],src:=[.cell 1 0 tB,.cell 1 1 tI,.cell 1 2 tI,.tm 4 LN,.own 0,.cell 3 0 tI,.cell 3 1 tI,.cell 3 2 Cx,.cell 3 3 BM],osrc:=[oP 4]}
def YD3(b:Nat):Tmpl:={tm:=[],ob:=[(1,bRe 0 5 6),(2,bRr),(3,Gf 73 [.sy tI (.v 1),.sy tI (.v 2),.sy Cx (.v 3),.sy BM (.v 4),.sy BM (.v 7)]),(b,bRr)],src:=[.cell 1 0 tB,.cell 3 0 tI,.cell 3 1 tI,.cell 3 2 Cx,.cell 3 3 BM,.cell 1 1 tI,.cell 1 2 tI,.cell 3 4 BM],isrc:=[oP 4]}
def SD3(b:Nat):StdL:={n:=20,T:=TD3 b,tys:=[tB,tI,tI,LN,.slice IL,tI,tI,Cx,BM],pre:=[rdV,(lss (k64 0) (.len (.v 4)),false)],f:=96,keep:=[0,5,6,7,8],yes:=(.exit 0,YD3 b,3)}
def pDi(ks:List SX):RPln:=
 .ask (lss VD (.v 3))
  (.ask (eql (.v 2) (k64 0))
   (DT [(.app 90 [.v 0,.v 1,.v 2],true),(lss (k64 1000000) (.len (.v 4)),false)]
    (.next (.v 0::y95 33::y95 34::Y3::.cat (.v 4) (.row XD)::ks)))
   (.exit true (.v 0::(ks++[.v 1,.v 2,.v 4]))))
  (.exit true (.v 0::(ks++[.v 1,.v 2,.v 4])))
abbrev pD2:RPln:=pDi [.v 5,.v 6,.v 7]
abbrev pD3:RPln:=pDi [.v 5,.v 6,.v 7,.v 8]
theorem j1{R:Rho}(hI:R.I=AE){l:List Int}{a e n:Int}{p:List (List DV)}{r:List DV}{ks:List SX}(e0:den R (.v 0)=.list (bytesI l))(e1:den R (.v 1)=.int .i64 a)(e2:den R (.v 2)=.int .i64 e)(e3:den R (.v 3)=.int .u16 n)(e4:den R (.v 4)=.list p)(er:ks.map (den R)=r)
  (hok:B9 l a) (n0:0≤n) (n1:(p.length:Int)+n≤65535):Af (ks.length+1) Kv (fun ds=>Oa ds r) muD R (.list (bytesI l)::.int .i64 a::.int .i64 e::.int .u16 n::.list p::r) (pDi ks):=by
 have fin:CT l n.toNat a e p=(p,a,e)→Af (ks.length+1) Kv (fun ds=>Oa ds r) muD R (.list (bytesI l)::.int .i64 a::.int .i64 e::.int .u16 n::.list p::r) (.exit true (.v 0::(ks++[.v 1,.v 2,.v 4]))):=by
  intro hr;show _=_
  rw[M8,hr,ADr,List.drop_left];simp only[ACO,ACS,e1,e2,e4]
 unfold pDi;refine Ae (AB (show den R VD=.int .u16 0 from rfl) e3) (fun hn=>?_) (fun hn=>?_)
 ·simp only[ACN]at hn;refine Ae (AN e2 (d_k .i64 0)) (fun he=>?_) (fun he=>?_)
  ·simp only[ACN]at he;have he:e=0:=he
   subst he;obtain⟨g1,g2,g3⟩:=AAV hI e0 e1 e2;have o1:=(Za (e:=0) (n:=32) hok (by decide)).1
   refine FJ (l:=[_,_]) (fun q hq=>?_) ?_
   ·simp only[ACU,ACm,or_false]at hq;rcases hq with rfl|rfl
    ·exact HU hI e0 e1 e2 hok
    ·rw[AB (d_k .i64 1000000) (AF e4)];simp only[DV.bool.injEq,ACK];omega
   ·have hc:=cD R e4 (show den R (.row XD)=.list [GK (rdW l a 0 32).1] from by
     simp only[den,D8,g1])
    have hm:(SX.v 0::y95 33::y95 34::Y3::.cat (.v 4) (.row XD)::ks).map (den R)=.list (bytesI l)::.int .i64 (rdW l a 0 32).2.1::.int .i64 (rdW l a 0 32).2.2::.int .u16 (n-1)::.list (p++[GK (rdW l a 0 32).1])::r:=by
     simp only[ACO,e0,g2,g3,qU e3 hn (by omega),hc,er]
    show _∧_∧_
    rw[hm];refine⟨⟨_,_,_,_,_,rfl,o1,by omega,by rw[ACT];simp;omega⟩,?_,?_⟩
    ·show (n-1).toNat<n.toNat
     omega
    ·rw[M8,M8,show n.toNat=(n-1).toNat+1 by omega]
     rfl
  ·simp only[ACK]at he;have he:¬e=0:=he
   refine fin ?_
   cases n.toNat with
   |zero=>rfl
   |succ m=>exact if_pos he
 ·simp only[ACK]at hn;refine fin ?_
  rw[show n.toNat=0 by omega]
  rfl
theorem vP{b:Nat}(hok:((SD2 b).ok&&(Au (SD2 b) pD2&&AW (SD2 b).L (B1 AE (AR OZ) [] [] IJ) [] pD2))=true):BJ Tryz.prog G AE IJ (SD2 b).L:=by
 refine B5 (F:=Kv) (μ:=muD) (Inv:=fun ds=>∃t f c,Oa ds [t,f,c]) (AG PY) (sub:=[]) trivial (lps:=[]) AL (fun _=>rfl) pD2 hok ?_ ?_
 ·intro ds h hp;obtain⟨d0,_,rfl,h0,d1,_,rfl,h1,d2,_,rfl,h2,d3,_,rfl,h3,d4,_,rfl,h4,t,_,rfl,h5,f,_,rfl,h6,c,_,rfl,h7,rfl⟩:=h;exact⟨t,f,c,U9 h0 h1 h2 h3 h4 (hp rdV (by simp[SD2])) (hp (lss (k64 0) (.len (.v 4)),false) (by simp[SD2]))⟩
 ·rintro ds ⟨t,f,c,l,a,e,n,p,rfl,hok,n0,n1⟩;exact E1 (Inv:=fun ds=>Oa ds [t,f,c]) (fun ds h=>⟨t,f,c,h⟩) (j1 (r:=[t,f,c]) (ks:=[.v 5,.v 6,.v 7]) (R:=AA AE [.list (bytesI l),.int .i64 a,.int .i64 e,.int .u16 n,.list p,t,f,c]) rfl rfl rfl rfl rfl rfl rfl hok n0 n1)
theorem vQ{b:Nat}(hok:((SD3 b).ok&&(Au (SD3 b) pD3&&AW (SD3 b).L (B1 AE (AR OZ) [] [] IJ) [] pD3))=true):BJ Tryz.prog G AE IJ (SD3 b).L:=by
 refine B5 (F:=Kv) (μ:=muD) (Inv:=fun ds=>∃t f c q,Oa ds [t,f,c,q]) (AG PY) (sub:=[]) trivial (lps:=[]) AL (fun _=>rfl) pD3 hok ?_ ?_
 ·intro ds h hp;obtain⟨d0,_,rfl,h0,d1,_,rfl,h1,d2,_,rfl,h2,d3,_,rfl,h3,d4,_,rfl,h4,t,_,rfl,h5,f,_,rfl,h6,c,_,rfl,h7,q,_,rfl,h8,rfl⟩:=h;exact⟨t,f,c,q,U9 h0 h1 h2 h3 h4 (hp rdV (by simp[SD3])) (hp (lss (k64 0) (.len (.v 4)),false) (by simp[SD3]))⟩
 ·rintro ds ⟨t,f,c,q,l,a,e,n,p,rfl,hok,n0,n1⟩;exact E1 (Inv:=fun ds=>Oa ds [t,f,c,q]) (fun ds h=>⟨t,f,c,q,h⟩) (j1 (r:=[t,f,c,q]) (ks:=[.v 5,.v 6,.v 7,.v 8]) (R:=AA AE [.list (bytesI l),.int .i64 a,.int .i64 e,.int .u16 n,.list p,t,f,c,q]) rfl rfl rfl rfl rfl rfl rfl hok n0 n1)
theorem aZ:maxLen≤9223372036854775807:=by unfold maxLen;omega
theorem wU{r:List DV}(h1:r.length=2)(h2:∀(j:Nat) (t:Ty) (x:DV),tC[j]? =some t→r[j]? =some x→Is t x):IsC r:=by
 match r,h1,h2 with
 | [a,b],_,h2=>
  obtain⟨k,rfl,_⟩:=(h2 0 _ a rfl rfl).str;obtain⟨v,rfl,_⟩:=(h2 1 _ b rfl rfl).str;exact⟨k,v,rfl⟩
theorem wV{r:List DV}(h1:r.length=32)(h2:∀(j:Nat) (t:Ty) (x:DV),IL[j]? =some t→r[j]? =some x→Is t x):IsD r:=by
 have key:∀x∈r,∃z:Int,x=.int .u8 z∧0≤z∧z≤255:=by
  intro x hx;obtain⟨j,hj⟩:=ACf.1 hx;have hlt:j<32:=by have:=(ACW.1 hj).1;omega
  obtain⟨b,rfl⟩:=(h2 j tU8 x (by rw[IL,AEa,if_pos hlt]) hj).u8
  exact⟨b.toNat,rfl,by omega,by have:=b.toNat_lt;omega⟩
 refine⟨idB r,?_,by simp[idB,h1],?_⟩
 ·unfold idB;rw[ADQ]
  conv=>lhs;rw[←AEV r]
  exact ADN fun x hx=>by
   obtain⟨z,rfl,_⟩:=key x hx;rfl
 ·intro z hz;obtain⟨x,hx,rfl⟩:=ADw.1 hz;obtain⟨z,rfl,h⟩:=key x hx;exact h
theorem Is.cells{d:DV}(h:Is Cx d):∃l,d=.list l∧l.length≤maxLen∧∀r∈l,IsC r:=by
 obtain⟨l,rfl,h2,h3⟩:=h.list;exact⟨l,rfl,h2,fun r hr=>wU (h3 r hr).1 (h3 r hr).2⟩
theorem Is.ids{d:DV}(h:Is BM d):∃l,d=.list l∧l.length≤maxLen∧∀r∈l,IsD r:=by
 obtain⟨l,rfl,h2,h3⟩:=h.list;exact⟨l,rfl,h2,fun r hr=>wV (by simpa using (h3 r hr).1) (h3 r hr).2⟩
end Go.Proofs.YtobajijkmmhdjaaGreatDoor
end
