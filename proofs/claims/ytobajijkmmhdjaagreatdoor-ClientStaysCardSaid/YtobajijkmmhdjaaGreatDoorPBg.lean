/-
  A part of the proof of ClientStays (the machine on named data, and the contracts of the functions that the law reaches). Its names and spaces were shortened by a program of ours.
-/
import Derived.LaidHandle
import Derived.Test.YtobajijkmmhdjaaGreatDoorPBa
import Derived.Test.YtobajijkmmhdjaaGreatDoorPAh
set_option linter.all false
noncomputable section
namespace Go.Proofs.YtobajijkmmhdjaaGreatDoor
open Go Go.AM Go.ChangeShapes Go.WideShapes Go.ChangeAt Go.RowKit
theorem mD:Tryz.prog.globalNamed "tallyhouse/blake.start" =some 0:=by kernel_rfl
theorem mE:Tryz.prog.globalNamed "tallyhouse/blake.orders" =some 2:=by kernel_rfl
theorem mF:Tryz.prog.globalNamed "tallyhouse/blake.fours" =some 3:=by kernel_rfl
def iw:AV→Value
 |.sc v=>v
 |_=>undef
theorem Rh{l:List AV}(h:l.all Rf=true):l=(l.map iw).map .sc:=by
 rw[ADQ];refine (List.map_id' l).symm.trans (ADN fun a ha=>?_)
 have:=ACt.1 h a ha
 cases a<;>first|rfl|(simp[Rf]at this)
theorem ACD:Fm (Rows.laid_tallyhouse_blake_start (H:=Unit))=some (T5.map iw):=by kernel_rfl
theorem ACE:Fm (Rows.laid_tallyhouse_blake_orders (H:=Unit))=some (MG.map iw):=by kernel_rfl
theorem ACF:Fm (Rows.laid_tallyhouse_blake_fours (H:=Unit))=some (T6.map iw):=by kernel_rfl
theorem yI:(Tryz.prog.globals[0]?).map (fun g=>LJ Tryz.prog 5 g.type)=some true:=by kernel_rfl
theorem yJ:(Tryz.prog.globals[2]?).map (fun g=>LJ Tryz.prog 5 g.type)=some true:=by kernel_rfl
theorem yK:(Tryz.prog.globals[3]?).map (fun g=>LJ Tryz.prog 5 g.type)=some true:=by kernel_rfl
theorem aE{g:Nat}{t:TypeId}(h:(Tryz.prog.globals[g]?).map (fun g=>LJ Tryz.prog 5 g.type)=some true)(ht:(Tryz.prog.globals[g]?).map (·.type)=some t):LJ Tryz.prog 5 t=true:=by
 cases hg:Tryz.prog.globals[g]? with
 |none=>rw[hg]at ht;cases ht
 |some x=>
  rw[hg]at h ht;simp only[ADF,ACJ]at h ht;rw[←ht];exact h
def di(x:String×DataW Unit):Bool:=x.1== "tallyhouse/blake.start" ||x.1== "tallyhouse/blake.orders" ||x.1== "tallyhouse/blake.fours"
def yL:List (String×DataW Unit):=[("tallyhouse/blake.start",Rows.laid_tallyhouse_blake_start),("tallyhouse/blake.orders",Rows.laid_tallyhouse_blake_orders),("tallyhouse/blake.fours",Rows.laid_tallyhouse_blake_fours)]
theorem yM:Rows.clientStaysRow.laid.filter di=yL:=by kernel_rfl
theorem AAN{g:Nat}{cs:List AV}(h:G g=some cs):g=0∧cs=T5∨g=2∧cs=MG∨g=3∧cs=T6:=by
 unfold G at h;split at h<;>cases h
 ·exact .inl ⟨rfl,rfl⟩
 ·exact .inr (.inl ⟨rfl,rfl⟩)
 ·exact .inr (.inr ⟨rfl,rfl⟩)
theorem uK:T5.all Rf=true:=by kernel_rfl
theorem p8:MG.all Rf=true:=by kernel_rfl
theorem uL:T6.all Rf=true:=by kernel_rfl
set_option maxRecDepth 100000 in
theorem mG{W:World}(h:laidMetH Tryz.prog Rows.clientStaysRow.laid W):Lw G fun b=>W.heap[b]? :=by
 have h:=laidMetH.filter di h
 rw[yM,MakeChecks.laidMetH_plain _ _ _ (by kernel_rfl)]at h
 obtain⟨ps,⟨g0,t0,c0,f0,p0,q0,a0,b0,v0,d0,⟨g1,t1,c1,f1,p1,q1,a1,b1,v1,d1,⟨g2,t2,c2,f2,p2,q2,a2,b2,v2,d2,_,_⟩,_⟩,_⟩,_,_⟩:=h;obtain rfl:=ADn (mD.symm.trans a0);obtain rfl:=ADn (mE.symm.trans a1);obtain rfl:=ADn (mF.symm.trans a2);intro g cs hg;rcases AAN hg with ⟨rfl,rfl⟩|⟨rfl,rfl⟩|⟨rfl,rfl⟩
 ·exact OO 5 mD v0 d0 (aE yI b0) ACD (Rh uK)
 ·exact OO 5 mE v1 d1 (aE yJ b1) ACE (Rh p8)
 ·exact OO 5 mF v2 d2 (aE yK b2) ACF (Rh uL)
set_option maxRecDepth 100000 in
theorem mH{W:World}{r:Reach}{b:Nat}{t e:TypeId}{v:Value}(ht:Tryz.prog.underlying t=some (.slice e))(h:Value.okWide Tryz.prog W r b t v):∃a l c,v=.slice a l c:=by
 unfold Value.okWide at h;rw[ht]at h;unfold Cell.okWide at h;rw[ht]at h;cases v<;>first|exact⟨_,_,_,rfl⟩|(simp[Cell.ok,ht]at h)
set_option maxRecDepth 100000 in
theorem uM{H:Type}{enc:TypeId×Value→H}{W:World}{r:Reach}{b:Nat}{t e:TypeId}{v:Value}{d:DataW H}{ps:List MemPlace}{ty:Ty}(ht:Tryz.prog.underlying t=some (.slice e))(hv:Value.okWide Tryz.prog W r b t v)(hf:flat Tryz.prog 12 t=some [ty])
  (h:DataW.Trod enc Tryz.prog W 0 (fun _=>true) true t v d ps):∃x,RepOne (Ip W) (.one ty) [x] v:=by
 obtain⟨a,l,c,rfl⟩:=mH ht hv;obtain⟨fuel,h⟩:=h;obtain⟨ds,hd⟩:=HO 12 t [ty] hf fuel _ _ h;simp only[RepV]at hd;obtain⟨x,ds',v',vs',rfl,e1,h1,rfl,rfl⟩:=hd;have:Value.cells (.slice a l c)=#[.slice a l c]:=rfl
 rw[this]at e1;cases e1;exact⟨x,x,rfl,h1⟩
set_option maxRecDepth 100000 in
theorem uN{W:World}{r:Reach}{b:Nat}{t:TypeId}{v:Value}(ht:Tryz.prog.underlying t=some (.int .i64))(h:Value.okWide Tryz.prog W r b t v):∃z,v=.int .i64 z:=by
 unfold Value.okWide at h;rw[ht]at h;unfold Cell.okWide at h;rw[ht]at h;cases v<;>simp_all[Cell.ok]
set_option maxRecDepth 100000 in
theorem uO{H:Type}{enc:TypeId×Value→H}{W:World}{r:Reach}{b:Nat}{t:TypeId}{v:Value}{d:DataW H}{ps:List MemPlace}{ty:Ty}(ht:Tryz.prog.underlying t=some (.int .i64))(hv:Value.okWide Tryz.prog W r b t v)(hf:flat Tryz.prog 12 t=some [ty])
  (h:DataW.Trod enc Tryz.prog W 0 (fun _=>true) true t v d ps):∃x,RepOne (Ip W) (.one ty) [x] v:=by
 obtain⟨z,rfl⟩:=uN ht hv;obtain⟨fuel,h⟩:=h;obtain⟨ds,hd⟩:=HO 12 t [ty] hf fuel _ _ h;simp only[RepV]at hd;obtain⟨x,ds',v',vs',rfl,e1,h1,rfl,rfl⟩:=hd;have:Value.cells (.int .i64 z)=#[.int .i64 z]:=rfl
 rw[this]at e1;cases e1;exact⟨x,x,rfl,h1⟩
set_option maxRecDepth 100000 in
theorem AAO:flat Tryz.prog 12 3=some [tI]:=by kernel_rfl
theorem AAP:flat Tryz.prog 12 22=some [.slice Se.tOp]:=by kernel_rfl
theorem p9{W W':World}{E E':Nat→Option Obj}(h:Grows E E' W W')(hs:W.heap.size≤W'.heap.size):Below W.heap.size W {W' with tape:=W.tape}:=
 ⟨congrArg Prod.fst h.io,rfl,congrArg Prod.snd h.io,hs,h.old⟩
theorem uP{W W':World}(h:∀b,b<W.heap.size→W'.heap[b]? =W.heap[b]?):W.heap.size≤W'.heap.size:=by
 by_cases h0:W.heap.size=0
 ·omega
 ·have h1:=h (W.heap.size-1) (by omega)
  have h2:W.heap[W.heap.size-1]? =some (W.heap[W.heap.size-1]'(by omega)):=ACq (by omega)
  rw[h2]at h1;have:=(ACQ.1 h1).1
  omega
set_option maxRecDepth 100000 in
theorem qA(H:Type)(enc:TypeId×Value→H)(W:World)(base:Nat)(args:Array Value)(ds gs:List (DataW H))(before:List MemPlace)
  (hval:∀(j:Nat) t v,Tryz.f3.params[j]? =some t→args[j]? =some v→Value.okWide Tryz.prog W .any base t v)
  (hW:DataW.Whole enc Tryz.prog Tryz.f3.params.toList Rows.clientStaysSpec.vars false W args.toList ds gs before) (hL:laidMetH Tryz.prog Rows.clientStaysRow.laid W):
  Calls Tryz.prog 3 args W fun e W'=>∃v,e=.returned v∧Rows.clientStaysSpec.post enc Tryz.prog Tryz.f3 false true false false W args v W':=by
 have hW':=hW
 obtain⟨p,q,hA0,hV,rfl,_,_⟩:=hW;have hA:DataW.TrodAll enc Tryz.prog W 0 (fun _=>true) true Tryz.f3.params.toList args.toList ds p:=hA0
 rw[Tryz.params3]at hA hval;obtain⟨v0,vs0,d0,ds0,p0,q0,hargs,rfl,rfl,h0,r0⟩:=trodAll_cons hA;obtain⟨v1,vs1,d1,ds1,p1,q1,rfl,rfl,rfl,h1,r1⟩:=trodAll_cons r0;obtain⟨rfl,rfl,rfl⟩:=trodAll_nil r1;obtain rfl:args=#[v0,v1]:=by apply ADX;simpa using hargs
 obtain⟨rfl,rfl⟩:=trodVars_none hV;obtain⟨x0,a0⟩:=uO Tryz.underlying3 (hval 0 3 v0 rfl rfl) AAO h0;obtain⟨x1,a1⟩:=uM Tryz.underlying22 (hval 1 22 v1 rfl rfl) AAP h1;have hR:RepArgs (Ip W) [.one tI,.one (.slice Se.tOp)] [[x0],[x1]] (#[v0,v1]:Array Value).toList:=
  ⟨_,_,_,_,rfl,rfl,a0,_,_,_,_,rfl,rfl,a1,rfl,rfl⟩
 refine ((Se.AAt Se.uJ).2 (fun b=>W.heap[b]?) _ #[v0,v1] W (fun _ _ h=>h) hR trivial (mG hL)).mono ?_
 rintro e W' ⟨v,E',rfl,hg,hr⟩;obtain⟨d,e1,x,rfl,e2⟩:=hr;cases e1;simp only[Rep]at e2;obtain⟨b,e3,rfl⟩:=e2;cases e3;have hb:=p9 hg (uP hg.old)
 have hlt:∀x∈p0++(p1++[]),x.block<W.heap.size:=fun x hx=>by
  have:=hW'.lt x (by simpa using hx)
  exact this
 have ARG:∀{t:TypeId} {v:Value} {d:DataW H} {ps:List MemPlace},Tryz.prog.readableRec t=true→t<Tryz.prog.types.size→DataW.Trod enc Tryz.prog W 0 (fun _=>true) true t v d ps→(∀x∈ps,x.block<W.heap.size)→
   DataW.Trod enc Tryz.prog W' 0 (fun b=>decide (b<W.heap.size)) true t v d ps:=fun hr ht h hl=>
  DataW.Trod.of_heap (w:={W' with tape:=W.tape}) (w':=W') rfl (Below.trod (by kernel_rfl) hr ht h hb hl)
 have hfr:∀may,W.keptBut W' may:=fun may=>⟨hb.os,hb.output,(hb.frame may).2.2⟩
 have hl0:∀x∈p0,x.block<W.heap.size:=fun x hx=>hlt x (by simp[hx])
 have hl1:∀x∈p1,x.block<W.heap.size:=fun x hx=>hlt x (by simp[hx])
 have A2:=trodAll_mk2 (ARG (by kernel_rfl) (of_decide_eq_true (by kernel_rfl)) h0 hl0) (ARG (by kernel_rfl) (of_decide_eq_true (by kernel_rfl)) h1 hl1)
 exact⟨_,rfl,_,_,_,[],_,[],hW',trodAll_mk1 (shut_bool Tryz.underlying4 _),A2,rfl,hfr _,fun h=>by cases h⟩
end Go.Proofs.YtobajijkmmhdjaaGreatDoor
end
