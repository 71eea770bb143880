/-
  A part of the proof of ClientStays (the machine on named data, and the contracts of the functions that the law reaches). Its names and spaces were shortened by a program of ours.
-/
import Derived.MapKept
import Derived.DeepKeys
import Derived.Laws.StructEq
import Derived.Test.YtobajijkmmhdjaaGreatDoorPAb
set_option linter.all false
namespace Go.AM
open Go
section
variable {P:Program}{m:Env}{h:AHeap}{w:World}
theorem jc{ts:Array TypeId}{ty:TypeId}{consts:Array Bool}{as:List AV}{vs:Array Value}(hl:VL m as vs.toList)(hr:HR m h w){av:AV}{h':AHeap}
  (hop:A7 P h .len ts ty as=some (av,h')):Good m ((builtin .len ts ty consts vs).run P w) av h':=by
 simp only[A7,qD]at hop;split at hop
 ·rename_i t x hts;simp only[VL]at hl;obtain⟨v,us,hvs,hx,rfl⟩:=hl;obtain rfl:vs=#[v]:=by apply ADX;simpa using hvs
  have hv0:(#[v]:Array Value)[0]? =some v:=rfl
  have fin:∀n:Nat,(Builtin.len_ ts ty #[v]).run P w=.ok (goInt n) w→some (E5 n,h)=some (av,h')→Good m ((builtin .len ts ty consts #[v]).run P w) av h':=by
   intro n e he;simp only[ACJ,ACP]at he;obtain⟨rfl,rfl⟩:=he;exact Good.run (s:=Builtin.len_ ts ty #[v]) (v:=goInt n) hr (by simp[V,E5,goInt]) e
  split at hop
  ·rename_i e hu;split at hop
   ·cases hop
   ·rename_i hns;split at hop
    ·rename_i n hn;rcases Mq hx hn with ⟨a,c,rfl⟩|⟨b,rfl,rfl⟩
     ·exact fin n (by simp[Builtin.len_,hts,run_underlying hu]) hop
     ·exfalso
      cases x<;>simp only[V]at hx
      ·subst hx;exact hns _ rfl
      ·obtain⟨_,e1,_⟩:=hx;cases e1
      ·obtain⟨_,e1,_⟩:=hx;cases e1
      ·obtain⟨_,e1,_⟩:=hx;cases e1
      ·obtain⟨_,_,e1,_⟩:=hx;cases e1
      ·obtain⟨_,e1⟩:=hx;cases e1
      ·obtain⟨_,_,e1,_⟩:=hx;cases e1
      ·obtain⟨_,_,e1,_⟩:=hx;cases e1
      ·obtain⟨_,_,e1,_⟩:=hx;cases e1
      ·obtain⟨_,_,e1,_⟩:=hx;cases e1
      ·simp[lenOf]at hn
      ·simp[lenOf]at hn
      ·simp[lenOf]at hn
      ·simp[lenOf]at hn
      ·simp[lenOf]at hn
    ·cases hop
  ·rename_i hu;split at hop
   ·rename_i s;simp only[V]at hx;exact fin _ (by simp[Builtin.len_,hts,run_underlying hu,hx]) hop
   ·cases hop
  ·rename_i n e hu;exact fin n (by simp[Builtin.len_,hts,run_underlying hu]) hop
  ·rename_i a hu;split at hop
   ·rename_i n e hua;exact fin n (by simp[Builtin.len_,hts,run_underlying hu,run_underlying hua]) hop
   ·cases hop
  ·cases hop
 ·cases hop
theorem jd{ts:Array TypeId}{ty:TypeId}{consts:Array Bool}{as:List AV}{vs:Array Value}(hl:VL m as vs.toList)(hr:HR m h w){av:AV}{h':AHeap}
  (hop:A7 P h .min ts ty as=some (av,h')):Good m ((builtin .min ts ty consts vs).run P w) av h':=by
 simp only[A7,qE]at hop;split at hop
 ·rename_i us hus;simp only[ACa,ACP]at hop;obtain⟨z,hz,rfl,rfl⟩:=hop;have e:vs=us.toArray:=by apply ADX;simpa using bP hus hl
  exact Good.run (s:=Builtin.min_ ts ty vs) (v:=z) hr (by simp[V]) (by rw[e];exact Fj _ _ hz)
 ·cases hop
theorem je{ts:Array TypeId}{ty:TypeId}{consts:Array Bool}{as:List AV}{vs:Array Value}(hl:VL m as vs.toList)(hr:HR m h w){av:AV}{h':AHeap}
  (hop:A7 P h .max ts ty as=some (av,h')):Good m ((builtin .max ts ty consts vs).run P w) av h':=by
 simp only[A7,qG]at hop;split at hop
 ·rename_i us hus;simp only[ACa,ACP]at hop;obtain⟨z,hz,rfl,rfl⟩:=hop;have e:vs=us.toArray:=by apply ADX;simpa using bP hus hl
  exact Good.run (s:=Builtin.max_ ts ty vs) (v:=z) hr (by simp[V]) (by rw[e];exact Fj _ _ hz)
 ·cases hop
theorem nC{ts:Array TypeId}{t ty e:TypeId}{size n0 dl:Nat}{base:Option Addr}{c:Nat}{x:Value}{news:List Value}(hts:ts[0]? =some t)(ht:P.underlying t=some (.slice e))(hs:Bh P e=some size)
  (hn:(Builtin.lenOf x).run P w=.ok n0 w) (hf:(Builtin.firstCells size (Nat.min n0 dl) x).run P w=.ok news.toArray w) {w':World}
  (hst:∀a,base=some a→(storeCells a news).run P w=.ok () w') (hnone:base=none→w'=w):
  (Builtin.copy_ ts ty #[.slice base dl c,x]).run P w=.ok (goInt (Nat.min n0 dl)) w':=by
 unfold Builtin.copy_;simp only[hts,ADV,ACl,AC0,Sem.run_bind,run_underlying ht,Result.andThen_ok,hn,B7 hs,hf];cases base with
 |none=>rw[hnone rfl];simp
 |some a=>simp[hst a rfl]
theorem F6{ts:Array TypeId}{ty:TypeId}{consts:Array Bool}{as:List AV}{vs:Array Value}(hl:VL m as vs.toList)(hr:HR m h w){av:AV}{h':AHeap}
  (hop:A7 P h .copy ts ty as=some (av,h')):Good m ((builtin .copy ts ty consts vs).run P w) av h':=by
 simp only[A7,El]at hop;split at hop
 ·rename_i t d x hts;simp only[VL]at hl;obtain⟨dv,us,hvs,hd,xv,us',rfl,hx,rfl⟩:=hl;obtain rfl:vs=#[dv,xv]:=by apply ADX;simpa using hvs
  split at hop
  ·rename_i e ht;split at hop
   ·rename_i size dl n0 hs hdl hn0;have hrn:=WE (P:=P) (w:=w) hx hn0
    have fin:∀(base:Option Addr) (c:Nat) (news:List Value) (w':World) (hh:AHeap),dv=.slice base dl c→(Builtin.firstCells size (Nat.min n0 dl) xv).run P w=.ok news.toArray w→
      (∀a,base=some a→(storeCells a news).run P w=.ok () w')→(base=none→w'=w)→HR m hh w'→some (E5 (Nat.min n0 dl),hh)=some (av,h')→
      Good m ((builtin .copy ts ty consts #[dv,xv]).run P w) av h':=by
     intro base c news w' hh hdv hf h1 h2 h3 he;simp only[ACJ,ACP]at he;obtain⟨rfl,rfl⟩:=he;subst hdv;exact Good.new (s:=Builtin.copy_ ts ty #[.slice base dl c,xv]) (v:=goInt (Nat.min n0 dl)) (.refl m) h3 (by simp[V,E5,goInt]) (nC hts ht hs hrn hf h1 h2)
    split at hop
    ·rename_i cs id off len cap hcs;obtain⟨news,k1,k2,_,_⟩:=B2 (P:=P) hr hx hcs;have hd':=hd
     simp only[V]at hd;obtain⟨_,c,hdv,g1,_⟩:=hd;split at hop
     ·rename_i b hb;split at hop
      ·rename_i hn;simp only[ACH,ACn,ACY]at hn;obtain⟨w',g2,g3⟩:=BR.write (P:=P) hr (BQ hb) (off:=off) k1 (by rw[hn.2];exact hn.1.1) hn.1.2
       have hdl':len=dl:=by simpa[lenOf]using hdl
       exact fin _ c news w' _ (by rw[←hdl'];exact hdv) k2 (fun a e=>by cases e;exact g2) (fun e=>by cases e) g3 hop
      ·cases hop
     ·cases hop
    ·rename_i k hcs;obtain⟨news,k1,k2,_,_⟩:=B2 (P:=P) hr hx hcs;simp only[VL]at k1;subst k1;simp only[V]at hd;simp only[lenOf,ACJ]at hdl;subst hdl;obtain⟨a,c,hdv,_⟩:=hd;exact fin a c [] w h hdv k2 (fun a e=>by simp[storeCells]) (fun _=>rfl) hr hop
    ·rename_i l c hcs;obtain⟨news,k1,k2,_,_⟩:=B2 (P:=P) hr hx hcs;simp only[VL]at k1;subst k1;simp only[V]at hd;simp only[lenOf,ACJ]at hdl;subst hdl;exact fin none c [] w h hd k2 (fun a e=>by cases e) (fun _=>rfl) hr hop
    ·rename_i sz ex hcs;obtain⟨news,k1,k2,_,_⟩:=B2 (P:=P) hr hx hcs;simp only[VL]at k1;subst k1;simp only[V]at hd;simp only[lenOf,ACJ]at hdl;subst hdl;obtain⟨a,c,hdv,_⟩:=hd;exact fin a c [] w h hdv k2 (fun a e=>by simp[storeCells]) (fun _=>rfl) hr hop
    ·cases hop
   ·cases hop
  ·cases hop
 ·cases hop
theorem NP{b:Builtin}{ts:Array TypeId}{ty:TypeId}{consts:Array Bool}{as:List AV}{vs:Array Value}(hl:VL m as vs.toList)(hr:HR m h w){av:AV}{h':AHeap}
  (hop:A7 P h b ts ty as=some (av,h')):Good m ((builtin b ts ty consts vs).run P w) av h':=by
 cases b with
 |len=>exact jc hl hr hop
 |min=>exact jd hl hr hop
 |max=>exact je hl hr hop
 |copy=>exact F6 hl hr hop
 |append=>
  have hop':=hop
  simp only[A7,EX]at hop;split at hop
  ·rename_i t u s x hts0 hts1;simp only[VL]at hl;obtain⟨dv,us,hvs,hd,xv,us',rfl,hx,rfl⟩:=hl;obtain rfl:vs=#[dv,xv]:=by apply ADX;simpa using hvs
   exact Da hd hx hr hop'
  ·cases hop
 |_=>simp[A7]at hop
theorem e9{x:AV}{b:ByteArray}(hx:V m x (.string b)):x=.sc (.string b)∨x=.dead∨∃t e,x=.sy t e:=by
 cases x<;>simp only[V]at hx
 ·subst hx;exact .inl rfl
 ·obtain⟨_,e1,_⟩:=hx;cases e1
 ·obtain⟨_,e1,_⟩:=hx;cases e1
 ·obtain⟨_,e1,_⟩:=hx;cases e1
 ·obtain⟨_,_,e1,_⟩:=hx;cases e1
 ·obtain⟨_,e1⟩:=hx;cases e1
 ·obtain⟨_,_,e1,_⟩:=hx;cases e1
 ·obtain⟨_,_,e1,_⟩:=hx;cases e1
 ·obtain⟨_,_,e1,_⟩:=hx;cases e1
 ·obtain⟨_,_,e1,_⟩:=hx;cases e1
 ·exact .inr (.inr ⟨_,_,rfl⟩)
 ·exact .inr (.inl rfl)
 ·obtain⟨_,e1⟩:=hx;unfold Iq at e1;split at e1<;>cases e1
 ·obtain⟨_,_,_,_,e1,_⟩:=hx;cases e1
 ·obtain⟨_,_,e1,_⟩:=hx;cases e1
theorem JE(src dst:TypeId)(x:Operand):C0 P m h w (.convert src dst x):=by
 intro dst' type pos after guard ev ρ hev hr av h' hop;have hx:=hev x
 simp only[opA,Fa]at hop;split at hop
 ·rename_i e hs hd;split at hop
  ·rename_i he;split at hop
   ·cases hop
   ·rename_i hns;split at hop
    ·rename_i n hn;split at hop
     ·rename_i cs hcs;simp only[ACa,ACP]at hop;obtain⟨bs,hbs,rfl,rfl⟩:=hop;obtain⟨vs,k1,k2,_,_⟩:=B2 (P:=P) hr hx hcs;obtain⟨ns,rfl,rfl⟩:=Hr hbs k1;rcases Mq hx hn with ⟨a,c,hxv⟩|⟨b,hxv,rfl⟩
      ·refine Good.run (s:=convert src dst (ρ x)) (v:=.string ⟨(ns.map fun n=>UInt8.ofNat n.toNat).toArray⟩) hr (by simp[V]) ?_
       have hcv:convert src dst (ρ x)=convert src dst (.slice a n c):=by rw[hxv]
       rw[hcv];cases a with
       |none=>
        have:ns=[]:=by
         rw[hxv]at k2;simp[Builtin.firstCells]at k2;exact k2
        subst this;simp[convert,run_underlying hs,run_underlying hd,run_underlying he,Conv.bytesToString];rfl
       |some ad=>
        have hld:(loadCells ad n).run P w=.ok (ns.map (Value.int .u8)).toArray w:=by
         rw[hxv]at k2;simpa[Builtin.firstCells]using k2
        have:=run_bytesToString w ad n c ns hld
        rw[QO]at this;simp only[convert,Sem.run_bind,run_underlying hs,run_underlying hd,Result.andThen_ok,run_underlying he];exact this
      ·rw[hxv]at hx;rcases e9 hx with e1|e1|⟨_,_,e1⟩
       ·exact absurd e1 (hns b)
       ·rw[e1]at hn;simp[lenOf]at hn
       ·rw[e1]at hn;simp[lenOf]at hn
     ·cases hop
    ·cases hop
  ·cases hop
 ·rename_i e hne hs hd;split at hop
  ·rename_i he;split at hop
   ·rename_i s es;simp only[ACJ,ACP]at hop;obtain⟨rfl,rfl⟩:=hop;rw[es]at hx;simp only[V]at hx;obtain⟨v,w',m',g1,g2,g3,g4⟩:=aO (P:=P) (src:=src) (dst:=dst) (s:=s) hr (by assumption) hd he
    exact Good.new (s:=convert src dst (ρ x)) g2 g4 g3 (by rw[hx];exact g1)
   ·cases hop
  ·cases hop
 ·split at hop
  ·rename_i v hf;simp only[ACJ,ACP]at hop;obtain⟨rfl,rfl⟩:=hop;unfold Xn at hf;split at hf
   ·rename_i k0 n e;split at hf
    ·rename_i k hk;have:=FC hf
     subst this;rw[e]at hx;simp only[V]at hx;refine Good.run (s:=convert src dst (ρ x)) hr (v:=.int k (k.wrap n)) (by simp[V]) ?_
     rw[hx];have hsrc:∃d,P.underlying src=some d:=⟨_,by assumption⟩
     obtain⟨d,hsrc⟩:=hsrc;have hk':P.underlying dst=some (.int k):=hk
     unfold convert;rw[Sem.run_bind,run_underlying hsrc,Result.andThen_ok,Sem.run_bind,run_underlying hk',Result.andThen_ok];cases d<;>rfl
    ·cases hf
   ·cases hf
  ·split at hop
   ·rename_i u e;simp only[ACa,ACP]at hop;obtain⟨z,h1,rfl,rfl⟩:=hop;have h2:=PQ e hx
    exact Good.run (s:=convert src dst (ρ x)) hr (v:=z) (by simp[V]) (by rw[h2];exact Fj _ _ h1)
   ·cases hop
 ·cases hop
theorem GW(t:TypeId)(x:Operand):C0 P m h w (.sliceToArrayPointer t x):=by
 intro dst' type pos after guard ev ρ hev hr av h' hop;have hx:=hev x
 simp only[opA,De]at hop;split at hop
 ·rename_i n e hu;have run:∀(a:Option Addr) (len c:Nat),n≤len→(Instr.arrayAt t (.slice a len c)).run P w=.ok (.pointer a) w:=by
   intro a len c hle;have:¬(len<n):=by omega
   simp[Instr.arrayAt,run_underlying hu,this]
  split at hop
  ·rename_i id off len cap k es hs;split at hop
   ·rename_i hb;rw[ACn]at hb;simp only[ACJ,ACP]at hop;obtain⟨rfl,rfl⟩:=hop;rw[es]at hx;simp only[V]at hx;obtain⟨h1,c,hxv,_⟩:=hx;exact Good.run (s:=Instr.arrayAt t (ρ x)) hr (XA h1) (by rw[hxv];exact run _ _ _ hb)
   ·cases hop
  ·rename_i sz ex es k ees hs;split at hop
   ·rename_i hb;simp only[ACH,ACn,ACY]at hb;simp only[ACJ,ACP]at hop;obtain⟨rfl,rfl⟩:=hop;rw[ees]at hx;simp only[V]at hx;obtain⟨a,c,hxv,g1,_,g3,g4⟩:=hx;rcases g4 with g4|⟨b,o,rfl,hv⟩
    ·omega
    ·exact Good.run (s:=Instr.arrayAt t (ρ x)) hr (Yf (Mp hv)) (by rw[hxv];exact run _ _ _ hb.1.1)
   ·cases hop
  ·cases hop
 ·cases hop
theorem fA{n:Nat}(h:n≤9223372036854775807):n<lim .i64:=by
 show n<9223372036854775808
 omega
theorem Hf{t e:TypeId}{i:TypeInfo}{z:Value}{k1 k2:IntKind}{len cap:Nat}(hu:P.underlying t=some (.slice e))(hi:P.info? e=some i)(hz:i.zero=some z)
  (e1:IntKind.i64.wrap (len:Int)=len) (e2:IntKind.i64.wrap (cap:Int)=cap) (h1:¬((len:Int) > cap)) (h2:¬((cap:Int)<0)) (h3:¬((len:Int)<0)) (h4:¬((i.bytes:Int)*cap > 2^48)):
  (Instr.makeSlice t (.int k1 len) (.int k2 cap)).run P w=.ok (.slice (some ⟨w.heap.size,0,none⟩) len cap) (w.alloc (.cells ((Array.range (cap*i.size)).map (z.cells[·%z.cells.size]!)) e)):=by
 have c1:decide ((len:Int) > cap)=false:=ACR h1
 have c2:decide ((cap:Int)<0)=false:=ACR h2
 have c3:decide ((len:Int)<0)=false:=ACR h3
 have c4:decide ((i.bytes:Int)*cap > 2^48)=false:=ACR h4
 have hzz:zeroOf P e=some z:=by unfold zeroOf;simp[hi,hz]
 unfold Instr.makeSlice;rw[Sem.run_bind,run_underlying hu,Result.andThen_ok];simp only[asInt,asIntOf];rw[Sem.run_bind];simp only[Sem.run_bind,Sem.run_pure,Result.andThen_ok,Io hi,e1,e2,c1,c2,c3,c4,Bool.or_false,AC3,if_false,run_askRoom,AC5];have hsz:(sizeOf e).run P w=.ok i.size w:=B7 (by unfold Bh;simp[hi])
 rw[hsz];simp only[Result.andThen_ok]
 by_cases h0:cap*i.size=0
 ·rw[if_pos h0];simp[newRow,h0,Array.range_zero']
 ·rw[if_neg h0];simp only[Sem.run_bind,DM hzz,Result.andThen_ok,Sem.run_pure];simp[newRow]
theorem YY(t:TypeId)(l c:Operand):C0 P m h w (.makeSlice t l c):=by
 intro dst' type pos after guard ev ρ hev hr av h' hop;simp only[opA,K7]at hop;split at hop
 ·rename_i e hu;split at hop
  ·rename_i len cap i hl hc hi;split at hop
   ·rename_i z hz;split at hop
    ·rename_i hb;simp only[ACH,ACn,ACY]at hb;obtain⟨⟨⟨⟨hb1,hb2⟩,hb3⟩,hb4⟩,hb5⟩:=hb;obtain⟨k1,hl'⟩:=Dt hl (hev l);obtain⟨k2,hc'⟩:=Dt hc (hev c);simp only[ACJ,ACP]at hop;obtain⟨rfl,rfl⟩:=hop;have hzs:z.cells.size≠0:=by omega
     let cells:Array Value:=(Array.range (cap*i.size)).map (z.cells[·%z.cells.size]!)
     have wl:∀n:Nat,n≤9223372036854775807→IntKind.i64.wrap (n:Int)=n:=
      fun n hn=>wrap_small .i64 n (fA hn)
     have e1:=wl len (by omega)
     have e2:=wl cap hb3
     have hbc:¬((i.bytes:Int)*cap > 2^48):=by
      have:i.bytes*cap≤281474976710656:=by rw[ADT];exact hb2
      have h2:((i.bytes*cap:Nat):Int)≤((281474976710656:Nat):Int):=Int.ofNat_le.2 this
      rw[Int.natCast_mul]at h2;omega
     refine Good.new (s:=Instr.makeSlice t (ρ l) (ρ c)) (m':=m.add h.next (w.heap.size,0)) (w':=w.alloc (.cells cells e)) (v:=.slice (some ⟨w.heap.size,0,none⟩) len cap) (hr.le_add _) ?_ ?_ ?_
     ·refine hr.alloc _ _ _ ⟨cells,heap_alloc_new w _,?_,?_,fun h=>by cases h⟩
      ·simp[cells]
      ·intro j hj;have hj':j<cap*i.size:=hj
       have hmod:j%z.cells.size<z.cells.size:=AD4 _ (by omega)
       refine⟨z.cells[j%z.cells.size]!,?_,?_⟩
       ·simp[cells,hj']
       ·simp only[Blk.cell,Tr.get_nil,ACX,ACp,List.getD];rw[ACw];simp[hmod,V]
     ·simp only[V];exact⟨by simp,cap,by simp,hb1,fun k e=>by cases e;rfl,fun e=>by cases e⟩
     ·rw[hl',hc'];have hn0:cap*i.size=0∨cap*i.size≠0:=by omega
      have hlc:¬((len:Int) > cap):=by omega
      have hc0:¬((cap:Int)<0):=by omega
      have hl0:¬((len:Int)<0):=by omega
      have hi2:P.info? e=some i:=hi
      exact Hf hu hi2 hz e1 e2 hlc hc0 hl0 hbc
    ·cases hop
   ·cases hop
  ·cases hop
 ·cases hop
end
end Go.AM
namespace Go.AM
open Go
open Go.MapKept (run_getObj_map run_setObj_map run_findKey heap_set)
theorem Q3:∀l:List UInt8,eqN l l=true
 | []=>rfl
 |a::l=>by simp[eqN,Q3 l]
theorem LF{P:Program}{t e:TypeId}(h:Js P t=some e):∃k,P.underlying t=some (.map k e)∧P.underlying k=some .string:=by
 unfold Js at h;split at h
 ·rename_i k e' ht;split at h
  ·rename_i hk;cases h;exact⟨k,ht,hk⟩
  ·cases h
 ·cases h
def YZ(c:List MapEntry)(es:List (ByteArray×Value)):Prop:=c.map (fun e=>(e.key,e.val))=es.map fun e=>(Value.string e.1,e.2)
theorem LG(s:ByteArray):∀(c:List MapEntry) (es:List (ByteArray×Value)) (i:Nat),YZ c es→∃r,Instr.findNow .string (.string s) c i=some r∧(MM s es=none→r=none)∧∀v,MM s es=some v→∃j,r=some (j,v)
 | [],[],_,_=>⟨none,rfl,fun _=>rfl,fun v h=>by simp[MM]at h⟩
 |e::c,(k,v)::es,i,h=>by
  simp only[YZ,ACO,ADa,ACP]at h;obtain⟨⟨h1,h2⟩,h3⟩:=h;simp only[Instr.findNow,h1,Instr.sameNow,MM]
  by_cases hs:s=k
  ·subst hs;rw[(MapKept.bytes_beq s s).2 rfl];refine⟨some (i,e.val),rfl,fun h=>?_,fun u hu=>?_⟩
   ·rw[Q3]at h;cases h
   ·rw[Q3]at hu;simp only[ACJ]at hu;exact⟨i,by rw[h2,hu]⟩
  ·have hb:(s==k)=false:=by
    cases hq:s==k with
    |false=>rfl
    |true=>exact absurd ((MapKept.bytes_beq s k).1 hq) hs
   have hn:eqN s.data.toList k.data.toList=false:=by
    cases hq:eqN s.data.toList k.data.toList with
    |false=>rfl
    |true=>exact absurd (Ib (Ym hq)) hs
   rw[hb,hn];exact LG s c es (i+1) h3
 | [],_::_,_,h=>by simp[YZ]at h
 |_::_,[],_,h=>by simp[YZ]at h
section
variable {P:Program}{m:Env}{h:AHeap}{w:World}
theorem NR{kt:TypeId}{s:ByteArray}(hd:P.underlying kt=some .string)(e:Bool)(n:Nat):(Instr.checkKey e (n+1) kt (.string s)).run P w=.ok () w:=by
 unfold Instr.checkKey;simp only[Sem.run_bind,run_underlying hd,Result.andThen];rfl
theorem jf{id:Nat}{es:List (ByteArray×Value)}(hr:HR m h w)(hg:h.t.get id=some (.map es)):∃c clock,w.heap[(m.mu id).1]? =some (.map c clock)∧YZ c.toList es:=(hr.obj id _ hg).2.2
theorem qM{h:AHeap}(hr:HR m h w):V (m.add h.next (w.heap.size,0)) (.hnd 0 h.next) (.map (some w.heap.size)):=by
 simp[V,Iq]
theorem HR.newMap(hr:HR m h w):HR (m.add h.next (w.heap.size,0)) (h.alloc (.map [])) (w.alloc (.map #[] 0)):=
 hr.alloc _ _ _ ⟨#[],0,heap_alloc_new w _,rfl⟩
theorem fB(t:TypeId)(r:Option Operand):C0 P m h w (.makeMap t r):=by
 intro dst' type pos after guard ev ρ hev hr av h' hop;simp only[opA,Nf]at hop;split at hop
 ·cases hop;exact Good.new (s:=Instr.makeMap t none) (hr.le_add _) hr.newMap (qM hr) (by simp[Instr.makeMap])
 ·rename_i e x hi;obtain⟨k,ht,_⟩:=LF hi;split at hop
  ·rename_i j z ez;cases hop;have hx:=hev x
   rw[ez]at hx;simp only[V]at hx;refine Good.new (s:=Instr.makeMap t (some (ρ x))) (hr.le_add _) hr.newMap (qM hr) ?_
   rw[hx];simp[Instr.makeMap,run_underlying ht,asInt,asIntOf]
  ·cases hop
 ·cases hop
theorem OI{t:TypeId}{mo k x:Operand}{ev:Operand→AV}{ρ:Operand→Value}(hev:∀x,V m (ev x) (ρ x))(hr:HR m h w){av:AV}{h':AHeap}(hop:IA P ev h t mo k x=some (av,h')):
  Good m ((do Instr.mapUpdate t (ρ mo) (ρ k) (ρ x);pure Next.skip:Sem Next).run P w) av h':=by
 unfold IA at hop;split at hop
 ·rename_i e id s v hi em ek ex;obtain⟨kt,ht,hk⟩:=LF hi;split at hop
  ·rename_i es hg;split at hop
   ·rename_i hf;cases hop;obtain⟨c,clock,g1,g2⟩:=jf hr hg;have hm:=hev mo
    have hkv:=hev k
    have hxv:=PQ ex (hev x)
    rw[em]at hm;rw[ek]at hkv;simp only[V,Iq]at hm hkv;obtain⟨_,hm⟩:=hm;obtain⟨r,q1,q2,_⟩:=LG s c.toList es 0 g2;have hr0:=q2 hf
    subst hr0;have hput:HR m (h.put id (.map (es++[(s,v)]))) {w with heap:=w.heap.setIfInBounds (m.mu id).1 (.map (c.push {key:=.string s,val:=v,born:=clock}) (clock+1))}:=by
     obtain⟨s1,s2⟩:=heap_set (w:=w) (o':=.map (c.push {key:=.string s,val:=v,born:=clock}) (clock+1)) g1;refine hr.put hg ⟨_,_,s1,?_⟩ (fun b hb=>s2 b hb)
     have g2':c.toList.map (fun e=>(e.key,e.val))=es.map fun e=>(Value.string e.1,e.2):=g2
     simp[g2']
    refine Good.done (.refl m) hput ?_
    rw[hm,hkv,hxv];unfold Instr.mapUpdate;simp only[Sem.run_bind,run_underlying ht,Result.andThen_ok,run_getObj_map g1,NR hk,run_findKey hk q1,run_setObj_map _ g1]
   ·cases hop
  ·cases hop
 ·cases hop
theorem Ya(t:TypeId)(mo k x:Operand):C0 P m h w (.mapUpdate t mo k x):=by
 intro dst' type pos after guard ev ρ hev hr av h' hop;simp only[opA]at hop;exact OI hev hr hop
theorem jg(t:TypeId)(mo k x:Operand):C0 P m h w (.insert t mo k x):=by
 intro dst' type pos after guard ev ρ hev hr av h' hop;simp only[opA]at hop;exact OI hev hr hop
theorem jh(t:TypeId)(x i:Operand)(ok:Bool):C0 P m h w (.lookup t x i ok):=by
 intro dst' type pos after guard ev ρ hev hr av h' hop;simp only[opA,Qg]at hop;split at hop
 ·rename_i e id s hi ex ei;obtain⟨kt,ht,hk⟩:=LF hi;split at hop
  ·rename_i es hg;obtain⟨c,clock,g1,g2⟩:=jf hr hg;have hx:=hev x
   have hiv:=hev i
   rw[ex]at hx;rw[ei]at hiv;simp only[V,Iq]at hx hiv;obtain⟨_,hx⟩:=hx;obtain⟨r,q1,q2,q3⟩:=LG s c.toList es 0 g2;have run:∀v b,(match r with|some (_,u)=>v=u∧b=true|none=>(zeroValue e).run P w=.ok v w∧b=false)→(Instr.lookup t (ρ x) (ρ i) ok).run P w=.ok (if ok then .tuple #[v,.bool b] else v) w:=by
    intro v b hv;rw[hx,hiv];unfold Instr.lookup;simp only[Sem.run_bind,run_underlying ht,Result.andThen_ok,run_getObj_map g1,Sem.run_pure,NR hk,run_findKey hk q1];cases r with
    |none=>
     simp only at hv⊢;obtain⟨h1,rfl⟩:=hv;simp only[Sem.run_bind,h1,Result.andThen_ok,Sem.run_pure]
    |some p=>
     obtain⟨j,u⟩:=p;simp only at hv⊢;obtain⟨rfl,rfl⟩:=hv;simp only[Sem.run_bind,Sem.run_pure,Result.andThen_ok]
   split at hop
   ·rename_i v hf;obtain⟨j,rfl⟩:=q3 v hf;have hrun:=run v true ⟨rfl,rfl⟩
    cases ok with
    |true=>cases hop;exact Good.run (s:=Instr.lookup t (ρ x) (ρ i) true) hr (by simp[V]) hrun
    |false=>cases hop;exact Good.run (s:=Instr.lookup t (ρ x) (ρ i) false) hr (by simp[V]) hrun
   ·rename_i hf;have hr0:=q2 hf
    subst hr0;split at hop
    ·rename_i z hz;cases hop;exact Good.run (s:=Instr.lookup t (ρ x) (ρ i) true) hr (by simp[V]) (run z false ⟨by simp[DM hz],rfl⟩)
    ·rename_i z hz;cases hop;exact Good.run (s:=Instr.lookup t (ρ x) (ρ i) false) hr (by simp[V]) (run z false ⟨by simp[DM hz],rfl⟩)
    ·cases hop
  ·cases hop
 ·cases hop
end
end Go.AM
namespace Go.AM
open Go
section
variable {P:Program}{m:Env}{h:AHeap}{w:World}
theorem OH{ev:Operand→AV}{ρ:Operand→Value}(hev:∀x,V m (ev x) (ρ x)){mx:Option Operand}{n d:Nat}(hb:mx.map (bound ev 0∘some)=some (some n)):Bd (mx.map ρ) n d∧mx.isSome=true:=by
 cases mx with
 |none=>simp at hb
 |some x=>
  simp only[ADF,Function.comp,bound,ACJ]at hb;exact⟨Dt hb (hev x),rfl⟩
theorem Hq{ev:Operand→AV}{mx:Option Operand}(hb:mx.map (bound ev 0∘some)=none):mx=none:=by
 cases mx with
 |none=>rfl
 |some x=>simp at hb
theorem SQ{k c:Nat}{a:Option Addr}{n:Nat}(hn:n=0)(h0:k=0→c=0)(h1:a=none→c=0):V m (.emp k) (.slice a n c):=by
 subst hn;simp only[V];exact⟨a,c,rfl,h0,h1⟩
theorem bQ{sz:Nat}{ex:Bool}{es:List (List AV)}{x:Value}(hx:V m (.fsl sz ex es) x){l u c':Nat}{ex':Bool}(hl:l≤u)(hu:u≤es.length):
  ∃a c,x=.slice a es.length c∧es.length≤c∧(ex=true→c=es.length)∧
   (∀mm,(mm=l→u=l)→u≤mm→c'=mm-l→(ex'=true→mm=u)→(c=0→c'=0)→V m (.fsl sz ex' ((es.take u).drop l)) (.slice (if mm=l then a else a.map (·.add (l*sz))) (u-l) c'))∧(a=none→c=0):=by
 simp only[V]at hx;obtain⟨a,c,hxv,g1,g2,g3,g4⟩:=hx;refine⟨a,c,hxv,g1,g2,?_,g3⟩
 intro mm h1 h2 h3 h4 h5;have hlen:((es.take u).drop l).length=u-l:=by simp;omega
 simp only[V];refine⟨_,_,by rw[hlen],by rw[hlen,h3];omega,fun e=>by rw[hlen,h3,h4 e],?_,?_⟩
 ·intro e;split at e
  ·exact h5 (g3 e)
  ·have:a=none:=by simpa using e
   exact h5 (g3 this)
 ·rcases g4 with g4|⟨b,o,rfl,hv⟩
  ·exact .inl (h5 g4)
  ·refine .inr ?_
   split
   ·rename_i e;have e0:(es.take u).drop l=[]:=ADl (by rw[hlen,h1 e];omega)
    exact⟨b,o,rfl,by rw[e0];simp[VR]⟩
   ·exact⟨b,o+l*sz,by simp[add_plain],bR l (Uu u hv)⟩
theorem ok_slice(t:TypeId)(x:Operand)(lo hi mx:Option Operand):C0 P m h w (.slice t x lo hi mx):=by
 intro dst' type pos after guard ev ρ hev hr av h' hop;have hx:=hev x
 have fin:∀{v:Value},(Instr.sliceAt t (ρ x) (lo.map ρ) (hi.map ρ) (mx.map ρ)).run P w=.ok v w→V m av v→h'=h→Good m ((execOp ρ ⟨dst',.slice t x lo hi mx,type,pos,after,guard⟩).run P w) av h':=by
  intro v e hv he;subst he;exact Good.run (s:=Instr.sliceAt t (ρ x) (lo.map ρ) (hi.map ρ) (mx.map ρ)) hr hv e
 have bd:∀{d n:Nat} {o:Option Operand},bound ev d o=some n→Bd (o.map ρ) n d:=fun hb=>Q4 hev hb
 have isS:∀{o:Option Operand},(o.map ρ).isSome=o.isSome:=fun {o}=>by cases o<;>rfl
 simp only[opA,JY]at hop;split at hop
 ·
  rename_i ht;split at hop
  ·rename_i s es;rw[es]at hx;simp only[V]at hx;split at hop
   ·rename_i l u hl hu;split at hop
    ·rename_i hb;simp only[ACH,ACn]at hb;simp only[ACJ,ACP]at hop;obtain⟨rfl,rfl⟩:=hop;exact fin (v:=.string (s.extract l u)) (by rw[hx];exact Yc ht (bd hl) (bd hu) hb.1 hb.2) (by simp[V]) rfl
    ·cases hop
   ·cases hop
  ·cases hop
 ·rename_i e ht;split at hop
  ·cases hop
  ·rename_i size hs;split at hop
   ·
    rename_i id off len cap es;rw[es]at hx;simp only[V]at hx;obtain⟨hid,c,hxv,g1,g2,g3⟩:=hx;split at hop
    ·rename_i l u hl hu hm;have hm':=Hq hm
     subst hm';split at hop
     ·rename_i c0;have hc:c=c0:=g2 c0 rfl
      subst hc;split at hop
      ·rename_i hb;simp only[ACH,ACn]at hb;simp only[ACJ,ACP]at hop;obtain⟨rfl,rfl⟩:=hop;refine fin (v:=_) (by rw[hxv];exact ET (mm:=c) ht hs (bd hl) (bd hu) rfl (fun e=>by cases e) hb.1 hb.2 (ACv _)) ?_ rfl
       have e1:(c=l)=(c-l=0):=propext ⟨fun e=>by omega,fun e=>by omega⟩
       simp only[V,e1];refine⟨hid,c-l,?_,by omega,fun k e=>by cases e;rfl,fun e=>by cases e⟩
       split<;>simp[add_plain]
      ·cases hop
     ·split at hop
      ·rename_i hb;simp only[ACH,ACn]at hb;simp only[ACJ,ACP]at hop;obtain⟨rfl,rfl⟩:=hop;refine fin (v:=_) (by rw[hxv];exact ET (mm:=c) ht hs (bd hl) (bd hu) rfl (fun e=>by cases e) hb.1.1 (by omega) (ACv _)) ?_ rfl
       split
       ·rename_i h0;rw[ACY]at h0;subst h0;have e0:(if c=0 then (some (⟨(m.mu id).1,off,none⟩:Addr)) else (some ⟨(m.mu id).1,off,none⟩:Option Addr).map (·.add (0*size)))=some ⟨(m.mu id).1,off,none⟩:=by
         split<;>simp[Addr.add]
        rw[e0];simp only[V];exact⟨hid,c,rfl,by omega,fun k e=>(by cases e),fun _ e=>g3 rfl e⟩
       ·rename_i h0;have h0':l≠0:=fun e=>by subst e;simp[HQ]at h0
        split
        ·rename_i hlt;have hlt':=Ct hlt
         have:¬c=l:=by omega
         rw[if_neg this];simp only[V,ADF,add_plain];refine⟨hid,c-l,rfl,by omega,fun k e=>(by cases e),fun _ e=>?_⟩
         have:0<l*size:=Nat.mul_pos (by omega) (by omega)
         omega
        ·rename_i hlt;have hge:¬l<len:=fun e=>by
          have:Nat.blt l len=true:=by simp[Nat.blt];omega
          rw[this]at hlt;cases hlt
         exact SQ (by omega) (fun e=>by omega) (fun e=>by split at e<;>simp at e)
      ·cases hop
    ·rename_i l u mm hl hu hm;obtain⟨hm',hms⟩:=OH (d:=c) hev hm;split at hop
     ·rename_i hb;simp only[ACH,ACn]at hb;obtain⟨⟨⟨hb1,hb2⟩,hb3⟩,hb4⟩:=hb;simp only[ACJ,ACP]at hop;obtain⟨rfl,rfl⟩:=hop;have hmc:mm≤c:=by
       cases cap with
       |none=>simp only[AEA]at hb3;omega
       |some k=>have:=g2 k rfl;simp only[ACo]at hb3;omega
      refine fin (v:=_) (by rw[hxv];exact ET (mm:=mm) ht hs (bd hl) (bd hu) hm' (fun _=>by rw[isS];exact hb4) hb1 hb2 hmc) ?_ rfl
      split
      ·rename_i h0;rw[ACY]at h0;exact SQ (by omega) (fun _=>by omega) (fun _=>by omega)
      ·rename_i h0;have h0':¬mm=l:=fun e=>by subst e;simp[HQ]at h0
       rw[if_neg h0'];simp only[V,ADF,add_plain];exact⟨hid,_,rfl,by omega,fun k e=>by cases e;rfl,fun e=>by cases e⟩
     ·cases hop
    ·cases hop
   ·
    rename_i sz ex es ees;rw[ees]at hx;split at hop
    ·rename_i l u hl hu hm;have hm':=Hq hm
     subst hm';split at hop
     ·rename_i hb;simp only[ACH,ACn,ACY]at hb;obtain⟨⟨hb1,hb2⟩,rfl⟩:=hb;simp only[ACJ,ACP]at hop;obtain⟨rfl,rfl⟩:=hop;have hx0:=hx
      simp only[V]at hx0;obtain⟨a0,c0,hxv0,_,_,_,_⟩:=hx0;obtain⟨a,c,hxv,g1,g2,g3,g4⟩:=bQ (c':=c0-l) (ex':=(ex&&Nat.beq u es.length)) hx hb1 hb2;have hcc:c=c0:=by rw[hxv0]at hxv;cases hxv;rfl
      subst hcc;refine fin (v:=_) (by rw[hxv];exact ET (mm:=c) ht hs (bd hl) (bd hu) rfl (fun e=>by cases e) hb1 (by omega) (ACv _)) (g3 c (fun e=>by omega) (by omega) rfl ?_ (fun e=>by omega)) rfl
      intro e;simp only[ACH,ACY]at e;rw[g2 e.1,e.2]
     ·cases hop
    ·rename_i l u mm hl hu hm;have hx0:=hx
     simp only[V]at hx0;obtain⟨a0,c0,hxv0,hg1,_,_,_⟩:=hx0;obtain⟨hm',hms⟩:=OH (d:=c0) hev hm;split at hop
     ·rename_i hb;simp only[ACH,ACn,ACY]at hb;obtain⟨⟨⟨⟨hb1,hb2⟩,hb3⟩,rfl⟩,hb5⟩:=hb;simp only[ACJ,ACP]at hop;obtain⟨rfl,rfl⟩:=hop;obtain⟨a,c,hxv,g1,g2,g3,g4⟩:=bQ (c':=mm-l) (ex':=Nat.beq u mm) hx hb1 (by omega)
      have hcc:c=c0:=by rw[hxv0]at hxv;cases hxv;rfl
      subst hcc;refine fin (v:=_) (by rw[hxv];exact ET (mm:=mm) ht hs (bd hl) (bd hu) hm' (fun _=>by rw[isS];exact hb5) hb1 hb2 (by omega)) ?_ rfl
      split
      ·rename_i h0;rw[ACY]at h0;exact SQ (by omega) (fun _=>by omega) (fun _=>by omega)
      ·exact g3 mm (fun e=>by omega) hb2 rfl (fun e=>by rw[ACY]at e;exact e.symm) (fun e=>by omega)
     ·cases hop
    ·cases hop
   ·
    rename_i es;rw[es]at hx;simp only[V]at hx;split at hop
    ·rename_i hl hu hm;split at hop
     ·rename_i hb;simp only[ACJ,ACP]at hop;obtain⟨rfl,rfl⟩:=hop;refine fin (v:=.slice none 0 0) ?_ (by simp[V]) rfl
      rw[hx];have:=ET (P:=P) (w:=w) (a:=none) (len:=0) (cap:=0) (mm:=0) ht hs (bd hl) (bd hu) (bd hm) (fun e=>by
       rw[isS]at e⊢;cases mx with
       |none=>cases e
       |some y=>simpa using hb) (ACv _) (ACv _) (ACv _)
      simpa using this
     ·cases hop
    ·cases hop
   ·
    rename_i k es;rw[es]at hx;simp only[V]at hx;obtain⟨a,c,hxv,g1,g2⟩:=hx;split at hop
    ·rename_i hl hu hm;have hm':=Hq hm
     subst hm';simp only[ACJ,ACP]at hop;obtain⟨rfl,rfl⟩:=hop;refine fin (v:=_) (by rw[hxv];exact ET (mm:=c) ht hs (bd hl) (bd hu) rfl (fun e=>by cases e) (ACv _) (ADO _) (ACv _)) (SQ rfl (fun e=>g1 e) ?_) rfl
     intro e;split at e
     ·exact g2 e
     ·have:a=none:=by simpa using e
      exact g2 this
    ·rename_i hl hu hm;obtain⟨hm',hms⟩:=OH (d:=c) hev hm;split at hop
     ·rename_i hb;simp only[ACJ,ACP]at hop;obtain⟨rfl,rfl⟩:=hop;exact fin (v:=_) (by rw[hxv];exact ET (mm:=0) ht hs (bd hl) (bd hu) hm' (fun _=>by rw[isS];exact hb) (ACv _) (ACv _) (ADO _)) (SQ rfl (fun _=>rfl) (fun _=>rfl)) rfl
     ·cases hop
    ·cases hop
   ·cases hop
 ·
  rename_i n e ht;split at hop
  ·rename_i size id off hs es;obtain⟨hid,hxv⟩:=J4 es hx;split at hop
   ·rename_i l u hl hu;split at hop
    ·rename_i hb;simp only[ACH,ACn]at hb;simp only[ACJ,ACP]at hop;obtain⟨rfl,rfl⟩:=hop;refine fin (v:=_) (by rw[hxv];exact OJ ht hs (bd hl) (bd hu) hb.1 hb.2) ?_ rfl
     simp only[V];refine⟨hid,n-l,?_,by omega,fun k e=>by cases e;rfl,fun e=>by cases e⟩
     split<;>simp[add_plain]
    ·cases hop
   ·cases hop
  ·rename_i size cs hs es;rw[es]at hx;simp only[V]at hx;obtain⟨b,o,hxv,hv⟩:=hx;split at hop
   ·rename_i u hl hu;split at hop
    ·rename_i hb;simp only[ACH,ACn,ACY]at hb;obtain⟨⟨hb1,rfl⟩,hb3⟩:=hb;simp only[ACJ,ACP]at hop;obtain⟨rfl,rfl⟩:=hop;refine fin (v:=_) (by rw[hxv];exact OJ ht hs (bd hl) (bd hu) (ADO _) hb1) ?_ rfl
     have hlen:((cs.take u).map fun c=>[c]).length=u:=by simp;omega
     simp only[V];refine⟨some ⟨b,o,none⟩,n,?_,by rw[hlen];exact hb1,fun e=>by rw[ACY]at e;rw[hlen];exact e.symm,fun e=>(by cases e),.inr ⟨b,o,rfl,WC (bS u hv)⟩⟩
     rw[hlen];split<;>simp[Addr.add]
    ·cases hop
   ·cases hop
  ·cases hop
 ·cases hop
theorem Gv{α:Type}(l:List α):∀n:Nat,((List.replicate n l).flatten).length=n*l.length
 |0=>by simp
 |n+1=>by rw[AD7,ADE,ACT,Gv l n,ADH];omega
theorem J2{l:List AV}{vs:List Value}(hl:VL m l vs):∀n:Nat,VL m (List.replicate n l).flatten (List.replicate n vs).flatten
 |0=>by simp[VL]
 |n+1=>by rw[AD7,AD7,ADE,ADE];exact Dy hl (J2 hl n)
theorem NQ(z:Array Value)(hz:0<z.size)(n:Nat):((Array.range (n*z.size)).map (z[·%z.size]!)).toList=(List.replicate n z.toList).flatten:=by
 induction n with
 |zero=>simp
 |succ n ih=>
  have e:List.replicate (n+1) z.toList=List.replicate n z.toList++[z.toList]:=List.replicate_succ'
  rw[e,List.flatten_append,←ih];simp only[Array.toList_map,Array.toList_range,ADE,List.flatten_nil,ADg];rw[ADH,Nat.one_mul,List.range_add,ACd];congr 1
  rw[ADQ];apply ADh
  intro i;rw[ACw]
  by_cases hi:i<z.size
  ·have h1:(n*z.size+i)%z.size=i:=by rw[ADT,AEK];exact ADz hi
   simp[hi,h1]
  ·simp[hi]
theorem Wl(t:TypeId)(len:Nat)(parts:Array (Nat×Operand)):C0 P m h w (.buildSlice t len parts):=by
 intro dst' type pos after guard ev ρ hev hr av h' hop;have hp:∀(i:Nat) (p:Nat×AV) (q:Nat×Value),(parts.toList.map fun (i,x)=>(i,ev x))[i]? =some p→(parts.toList.map fun (i,x)=>(i,ρ x))[i]? =some q→p.1=q.1∧V m p.2 q.2:=by
  intro i p q hpp hqq;simp only[ACw,ACa]at hpp hqq;obtain⟨a,ha,rfl⟩:=hpp;obtain⟨b,hb,rfl⟩:=hqq;rw[ha]at hb;cases hb;exact⟨rfl,hev _⟩
 have hlenp:(parts.toList.map fun (i,x)=>(i,ev x)).length=(parts.toList.map fun (i,x)=>(i,ρ x)).length:=by simp
 have e0:(parts.map fun (i,x)=>(i,ρ x)).toList=parts.toList.map fun (i,x)=>(i,ρ x):=by simp
 simp only[opA,Jq]at hop;split at hop
 ·rename_i e ht;split at hop
  ·rename_i size zero hs hz;obtain⟨z,hz1,rfl⟩:=Ge hz;split at hop
   ·cases hop
   ·rename_i hb;simp only[ACH,ACn,ACY,ACX,ACp]at hb;split at hop
    ·rename_i cs hf;simp only[ACJ,ACP]at hop;obtain⟨rfl,rfl⟩:=hop;obtain⟨hb1,hb2⟩:=hb;have hzl:=J2 (F5 m z.cells.toList) len
     let cells:Array Value:=if len*size=0 then #[] else (Array.range (len*size)).map (z.cells[·%z.cells.size]!)
     have hcells:VL m (List.replicate len (z.cells.toList.map AV.sc)).flatten cells.toList:=by
      by_cases h0:len*size=0
      ·simp only[cells,if_pos h0];have:(List.replicate len (z.cells.toList.map AV.sc)).flatten=[]:=ADl (by rw[Gv];simp[hb2,h0])
       rw[this];simp[VL]
      ·simp only[cells,if_neg h0];have hz0:0<z.cells.size:=by
        rw[hb2];rcases Nat.eq_zero_or_pos size with e|e
        ·rw[e]at h0;simp at h0
        ·exact e
       have:=NQ z.cells hz0 len
       rw[hb2]at this;rw[←hb2]at this⊢;rw[hb2]at this⊢;rw[this];exact hzl
     obtain⟨us,g1,g2⟩:=JF (m:=m) (fun i=>some (i*size,size)) _ _ _ cells cs hlenp hp hcells hf
     have hcs:cs.length=us.size:=by have:=Ay g2;simpa using this.symm
     have hrun:(Instr.buildSlice t len (parts.map fun (i,x)=>(i,ρ x))).run P w=.ok (.slice (some ⟨w.heap.size,0,none⟩) len len) (w.alloc (.cells us e)):=by
      have hbig:¬(len*size > 2^24):=by omega
      have e1:(parts.map fun x=>(x.fst,ρ x.snd)).toList=parts.toList.map fun (i,x)=>(i,ρ x):=e0
      unfold Instr.buildSlice;rw[Sem.run_bind,run_underlying ht,Result.andThen_ok];simp only[Sem.run_bind,B7 hs,Result.andThen_ok,if_neg hbig]
      by_cases h0:len*size=0
      ·have hc0:cells=(Array.range (len*size)).map ((#[]:Array Value)[·%(#[]:Array Value).size]!):=by simp only[cells,if_pos h0];rw[h0];simp[Array.range_zero']
       rw[if_pos h0];simp only[pure_bind];rw[e1,←hc0,g1];simp[newRow]
      ·have hc0:cells=(Array.range (len*size)).map (z.cells[·%z.cells.size]!):=by simp only[cells,if_neg h0]
       rw[if_neg h0];simp only[Sem.run_bind,DM hz1,Result.andThen_ok,Sem.run_pure,pure_bind];rw[e1,←hc0,g1];simp[newRow]
     refine⟨_,_,m.add h.next (w.heap.size,0),.inl (by simp only[execOp];rw[IY,hrun];rfl),hr.le_add _,?_,hr.alloc _ _ _ (BR.fresh (Jp e cs) 0 g2 rfl rfl rfl (QN e cs) (hr.le_add _))⟩
     simp only[V];exact⟨by simp,len,by simp,ACv _,fun k e=>by cases e;rfl,fun e=>by cases e⟩
    ·cases hop
  ·cases hop
 ·cases hop
theorem Kk(o:Oper){ev:Operand→AV}{ρ:Operand→Value}(hev:∀x,V m (ev x) (ρ x))(hr:HR m h w){av:AV}{h':AHeap}(hop:opA P ev h o=some (av,h')):
  Good m ((execOp ρ o).run P w) av h':=by
 obtain⟨dst,op,type,pos,after,guard⟩:=o;cases op with
 |move x=>exact sI x dst type pos after guard ev ρ hev hr av h' hop
 |assign x=>exact jk x dst type pos after guard ev ρ hev hr av h' hop
 |pick c a b=>exact sJ c a b dst type pos after guard ev ρ hev hr av h' hop
 |alloc t=>exact nI t dst type pos after guard ev ρ hev hr av h' hop
 |box t x=>exact ux t x dst type pos after guard ev ρ hev hr av h' hop
 |build t ps=>exact nJ t ps dst type pos after guard ev ρ hev hr av h' hop
 |buildSlice t n ps=>exact Wl t n ps dst type pos after guard ev ρ hev hr av h' hop
 |load t a=>exact sN t a dst type pos after guard ev ρ hev hr av h' hop
 |store t a x=>exact nN t a x dst type pos after guard ev ρ hev hr av h' hop
 |nilCheck x=>exact aP x dst type pos after guard ev ρ hev hr av h' hop
 |binOp b t x y ty=>exact nM b t x y ty dst type pos after guard ev ρ hev hr av h' hop
 |unOp u t x=>exact sM u t x dst type pos after guard ev ρ hev hr av h' hop
 |convert s d x=>exact JE s d x dst type pos after guard ev ρ hev hr av h' hop
 |sliceToArrayPointer t x=>exact GW t x dst type pos after guard ev ρ hev hr av h' hop
 |makeInterface t x=>exact Q5 t x dst type pos after guard ev ρ hev hr av h' hop
 |makeFunc f a b=>exact aQ f a b dst type pos after guard ev ρ hev hr av h' hop
 |makeSlice t l c=>exact YY t l c dst type pos after guard ev ρ hev hr av h' hop
 |slice t x lo hi mx=>exact ok_slice t x lo hi mx dst type pos after guard ev ρ hev hr av h' hop
 |fieldAddr s x f=>exact Yg s x f dst type pos after guard ev ρ hev hr av h' hop
 |field t x f=>exact nO t x f dst type pos after guard ev ρ hev hr av h' hop
 |indexAddr t x i=>exact OK t x i dst type pos after guard ev ρ hev hr av h' hop
 |index t x i=>exact Yh t x i dst type pos after guard ev ρ hev hr av h' hop
 |extract x i=>exact fG x i dst type pos after guard ev ρ hev hr av h' hop
 |range t x=>exact nP t x dst type pos after guard ev ρ hev hr av h' hop
 |next x b=>exact sO x b dst type pos after guard ev ρ hev hr av h' hop
 |typeAssert x a b c=>exact Wm x a b c dst type pos after guard ev ρ hev hr av h' hop
 |makeMap t r=>exact fB t r dst type pos after guard ev ρ hev hr av h' hop
 |insert t m k x=>exact jg t m k x dst type pos after guard ev ρ hev hr av h' hop
 |mapUpdate t m k x=>exact Ya t m k x dst type pos after guard ev ρ hev hr av h' hop
 |lookup t x i b=>exact jh t x i b dst type pos after guard ev ρ hev hr av h' hop
 |_=>simp[opA]at hop
end
section
variable {P:Program}{m:Env}{h:AHeap}{w:World}
theorem HS[O:Orc](hF:FactsOK m.R){a:AV}{v:Value}(hv:V m a v):V m (Qh a) v:=by
 unfold Qh;split
 ·rename_i e;split
  ·rename_i b hb;simp only[V,Rep]at hv⊢;obtain⟨c,h1,rfl⟩:=hv;rw[Bv hF hb]at h1;cases h1;rfl
  ·exact hv
 ·exact hv
def Plain(R:Rho)(t:Ty)(e:SX)(v:Value):Prop:=
 match t with
 |.int k=>∃z,den R e=.int k z∧v=.int k z
 |.bool=>∃b,den R e=.bool b∧v=.bool b
 |.str=>∃s,den R e=.str s∧v=.string s
 |.slice _=>True
theorem Rep.plain{R:Rho}{t:Ty}{e:SX}{v:Value}(h:Rep m t (den R e) v):Plain R t e v:=by
 cases t with
 |int k=>simp only[Rep]at h;obtain⟨z,h1,h2,_⟩:=h;exact⟨z,h1,h2⟩
 |bool=>simp only[Rep]at h;exact h
 |str=>simp only[Rep]at h;obtain⟨s,h1,h2,_⟩:=h;exact⟨s,h1,h2⟩
 |slice cs=>trivial
theorem Db{a:AV}{t:Ty}{e:SX}{v:Value}(h:MN a=some (t,e))(hv:V m a v):Plain m.R t e v:=by
 unfold MN at h;split at h<;>simp only[ACJ,ACP,reduceCtorEq]at h
 ·obtain⟨rfl,rfl⟩:=h;simp only[V]at hv;exact hv.plain
 all_goals
  obtain⟨rfl,rfl⟩:=h;simp only[V]at hv;subst hv;exact⟨_,rfl,rfl⟩
theorem HT{a:AV}{e:SX}{v:Value}(h:MO a=some e)(hv:V m a v):∃k z,den m.R e=.int k z∧v=.int k z:=by
 unfold MO at h;split at h
 ·rename_i k e' he;simp only[ACJ]at h;subst h;obtain⟨z,h1,h2⟩:=Db he hv;exact⟨k,z,h1,h2⟩
 ·cases h
theorem nS(d:DV)(h:(∃k z,d=.int k z)∨(∃b,d=.bool b)∨∃s,d=.str s):AZ .eql d d=.bool true:=by
 rcases h with ⟨k,z,rfl⟩|⟨b,rfl⟩|⟨s,rfl⟩<;>simp[AZ]
theorem Uv{R:Rho}{x y:SX}(h:(∃k z,den R x=.int k z)∨(∃b,den R x=.bool b)∨∃s,den R x=.str s):den R (eqS x y)=AZ .eql (den R x) (den R y):=by
 unfold eqS;split
 ·rename_i e;rw[←Aw e,nS _ h];rfl
 ·rfl
theorem Be[O:Orc](hF:FactsOK m.R){x y:SX}(hl:leS x y=true){k l:IntKind}{a b:Int}(hx:den m.R x=.int k a)(hy:den m.R y=.int l b):a≤b:=by
 unfold leS at hl;split at hl
 ·simp only[den,DV.int.injEq]at hx hy;obtain⟨rfl,rfl⟩:=hx;obtain⟨rfl,rfl⟩:=hy;have:=ADe hl
  simp only[ACZ];omega
 ·rename_i e;simp only[den,DV.int.injEq]at hx;obtain⟨rfl,rfl⟩:=hx;simp only[den]at hy;unfold Bm at hy;split at hy<;>simp only[DV.int.injEq,reduceCtorEq]at hy
  ·obtain⟨_,rfl⟩:=hy;simp
  ·obtain⟨_,rfl⟩:=hy;simp
 ·simp only[ADW]at hl;rcases hl with hl|hl
  ·rw[Aw hl,hy]at hx;cases hx;omega
  ·split at hl
   ·rename_i hk;have:=Bv hF hk
    simp only[den,hx,hy,AZ,DV.bool.injEq,ACN]at this;omega
   ·split at hl
    ·rename_i hk;have:=Bv hF hk
     simp only[den,hx,hy,AZ,DV.bool.injEq,ACK]at this;omega
    ·cases hl
theorem Ak(e:SX)(cs:List Ty):∀(n i:Nat),(rowsOf e cs i n).length=n
 |0,_=>rfl
 |n+1,i=>by simp[rowsOf,Ak e cs n]
theorem JI(e:SX)(cs:List Ty):∀(n i j:Nat),j<n→(rowsOf e cs i n)[j]? =some (Ac e (.ki .i64 (.ofNat (i+j))) 0 cs)
 |n+1,i,0,_=>by simp[rowsOf]
 |n+1,i,j+1,h=>by
  rw[rowsOf,AC0,JI e cs n (i+1) j (by omega)]
  rw[show i+1+j=i+(j+1) by omega]
theorem QV(e:SX)(cs:List Ty):∀(l n i:Nat),(rowsOf e cs i n).drop l=rowsOf e cs (i+l) (n-l)
 |0,n,i=>by simp
 |l+1,0,i=>by simp[rowsOf]
 |l+1,n+1,i=>by
  rw[rowsOf,ADr,QV e cs l n (i+1)];rw[show i+1+l=i+(l+1) by omega,show n+1-(l+1)=n-l by omega]
theorem QW(e:SX)(cs:List Ty):∀(u n i:Nat),(rowsOf e cs i n).take u=rowsOf e cs i (min u n)
 |0,n,i=>by simp[rowsOf]
 |u+1,0,i=>by simp[rowsOf]
 |u+1,n+1,i=>by
  rw[rowsOf,ADS,QW e cs u n (i+1)];rw[show min (u+1) (n+1)=min u n+1 by omega,rowsOf]
theorem Bw(e i:SX):∀(cs:List Ty) (k:Nat),(Ac e i k cs).length=cs.length
 | [],_=>rfl
 |t::ts,k=>by simp[Ac,Bw e i ts]
theorem RepL.length{b:Nat}:∀{ts:List Ty} {ds:List DV} {o:Nat},RepL m ts ds b o→ds.length=ts.length
 | [],ds,o,h=>by simp only[RepL]at h;simp[h]
 |t::ts,ds,o,h=>by
  simp only[RepL]at h;obtain⟨d,rest,v,rfl,_,_,h4⟩:=h;simp[h4.length]
theorem L4{e i:SX}{es:List (List DV)}{row:List DV}{k0:IntKind}{j:Nat}(he:den m.R e=.list es)(hi:den m.R i=.int k0 (j:Int))(hj:es[j]? =some row){b:Nat}:
  ∀{ts:List Ty} {k o:Nat} {ds:List DV},row.drop k=ds→(RepL m ts ds b o↔VC m b o (Ac e i k ts)∧ds.length=ts.length)
 | [],k,o,ds,hd=>by simp[RepL,Ac,VC]
 |t::ts,k,o,ds,hd=>by
  have hden:den m.R (.at e i k)=row.getD k (.bool false):=by
   simp only[den,he,hi,atD,AC5,ACI,hj,ACo]
  simp only[RepL,Ac,VC,V];constructor
  ·rintro⟨d,rest,v,rfl,h1,h2,h3⟩;have hr:row.drop (k+1)=rest:=by rw[←AEQ,hd];rfl
   have hk:row.getD k (.bool false)=d:=by
    have:row[k]? =some d:=by
     have:=congrArg (·[0]?) hd
     simpa using this
    simp[ACI,this]
   obtain⟨h4,h5⟩:=(L4 he hi hj (b:=b) hr).1 h3;exact⟨⟨⟨v,h1,by rw[hden,hk];exact h2⟩,h4⟩,by simp[h5]⟩
  ·rintro⟨⟨⟨v,h1,h2⟩,h3⟩,h4⟩;cases ds with
   |nil=>simp at h4
   |cons d rest=>
    have hr:row.drop (k+1)=rest:=by rw[←AEQ,hd];rfl
    have hk:row.getD k (.bool false)=d:=by
     have:row[k]? =some d:=by
      have:=congrArg (·[0]?) hd
      simpa using this
     simp[ACI,this]
    rw[hden,hk]at h2;exact⟨d,rest,v,rfl,h1,h2,(L4 he hi hj (b:=b) hr).2 ⟨h3,by simpa using h4⟩⟩
theorem qP{b sz:Nat}:∀{es:List (List AV)} {o i:Nat} {e:List AV},VR m b sz o es→es[i]? =some e→e.length=sz∧VC m b (o+i*sz) e
 |x::xs,o,0,e,h,hi=>by
  simp only[VR]at h;simp only[ACl,ACJ]at hi;subst hi;simpa using ⟨h.1,h.2.1⟩
 |x::xs,o,i+1,e,h,hi=>by
  simp only[VR]at h;rw[AC0]at hi;have:=qP h.2.2 hi
  rw[show o+(i+1)*sz=o+sz+i*sz by rw[ADH,Nat.one_mul];omega]
  exact this
theorem fP{b sz:Nat}:∀{es:List (List AV)} {o:Nat},(∀i e,es[i]? =some e→e.length=sz∧VC m b (o+i*sz) e)→VR m b sz o es
 | [],o,h=>by simp[VR]
 |x::xs,o,h=>by
  simp only[VR];have h0:=h 0 x rfl
  refine⟨h0.1,by simpa using h0.2,fP fun i e hi=>?_⟩
  have:=h (i+1) e (by simpa using hi)
  rw[show o+(i+1)*sz=o+sz+i*sz by rw[ADH,Nat.one_mul];omega]at this
  exact this
theorem Ic{cs:List Ty}{e:SX}{v:Value}(hv:Rep m (.slice cs) (den m.R e) v):∃es:List (List DV),den m.R e=.list es∧es.length≤maxLen∧V m (.fsl cs.length false (rowsOf e cs 0 es.length)) v∧∀(i:Nat) (row:List DV),es[i]? =some row→row.length=cs.length∨es.length=0∨v=.slice none 0 0:=by
 simp only[Rep]at hv;obtain⟨es,a,c,h1,rfl,h3,h4,h5,h6⟩:=hv;refine⟨es,h1,h4,?_,?_⟩
 ·simp only[V];rw[Ak];refine⟨a,c,rfl,h3,(fun e=>by cases e),h5,?_⟩
  rcases h6 with h6|⟨b,o,e1,h7⟩
  ·exact .inl h6
  ·refine .inr ⟨b,o,e1,fP fun i x hi=>?_⟩
   have hlt:i<es.length:=by
    have:=(ACW.1 hi).1
    rwa [Ak]at this
   rw[JI _ _ _ _ _ hlt,ACJ]at hi;subst hi;refine⟨Bw _ _ _ _,?_⟩
   have hrow:es[i]? =some es[i]:=ACL hlt
   refine ((L4 (ts:=cs) (k:=0) (ds:=es[i]) h1 (j:=i) (k0:=.i64) ?_ hrow (AC1) (b:=b) (o:=o+i*cs.length)).1 (h7 i _ hrow)).1
   simp[den]
 ·intro i row hi;rcases h6 with h6|⟨b,o,e1,h7⟩
  ·have:=h6
   exact .inr (.inl (by omega))
  ·exact .inl (h7 i row hi).length
theorem u6{cs:List Ty}{e e':SX}{es:List (List DV)}{l n:Nat}{ex:Bool}{v:Value}(he:den m.R e=.list es)(hle:l+n≤es.length)(hes:es.length≤maxLen)(hrow:∀(i:Nat) (row:List DV),es[i]? =some row→row.length=cs.length)
  (he':den m.R e'=.list ((es.drop l).take n)) (hv:V m (.fsl cs.length ex (rowsOf e cs l n)) v):Rep m (.slice cs) (den m.R e') v:=by
 simp only[V]at hv;obtain⟨a,c,rfl,h2,h3,h4,h5⟩:=hv;rw[Ak]at h2 h3⊢;simp only[Rep];have hln:((es.drop l).take n).length=n:=by simp;omega
 refine⟨(es.drop l).take n,a,c,he',by rw[hln],by omega,by omega,h4,?_⟩
 rcases h5 with h5|⟨b,o,e1,h6⟩
 ·exact .inl h5
 ·refine .inr ⟨b,o,e1,fun i row hi=>?_⟩
  have hlt:i<n:=by
   have:=(ACW.1 hi).1
   omega
  rw[ADG hlt,AC9]at hi;have:=(qP h6 (JI e cs n l i hlt)).2
  exact (L4 (ts:=cs) (k:=0) (ds:=row) he (j:=l+i) (k0:=.i64) (by simp[den]) hi (AC1) (b:=b) (o:=o+i*cs.length)).2 ⟨this,hrow _ _ hi⟩
end
section
variable {P:Program}{m:Env}{h:AHeap}{w:World}
theorem Df(k:IntKind)(z:Int):k.min≤k.wrap z∧k.wrap z≤k.max:=by
 unfold IntKind.min IntKind.max IntKind.wrap;have hb:(0:Int)<2^(k.bits-1)∧(2:Int)^k.bits=2*2^(k.bits-1):=by cases k<;>decide
 generalize (2:Int)^(k.bits-1)=B at hb⊢;rw[hb.2];have h1:=Int.emod_nonneg z (show (2*B:Int)≠0 by omega)
 have h2:=Int.emod_lt_of_pos z (show (0:Int)<2*B by omega)
 cases k.signed
 ·simp only[Bool.false_and,AC3,if_false];omega
 ·simp only[AEl,if_true,ACN];split<;>omega
theorem ieq(a b:Int):(a==b)=decide (a=b):=AEG.2 (by simp)
theorem ile(a b:Int):decide (a≤b)= !decide (b<a):=by
 by_cases h:a≤b
 ·have:¬b<a:=by omega
  simp[h,this]
 ·have:b<a:=by omega
  simp[h,this]
theorem nT{R:Rho}{op:BinOp}{x y e:SX}{k:IntKind}{a b:Int}(h:Xq op x y=some e)(hx:den R x=.int k a)(hy:den R y=.int k b):
  ∃c,den R e=.bool c∧(Op.intCmp op a b)=pure (.bool c):=by
 have hq:den R (eqS x y)=.bool (decide (a=b)):=by
  rw[Uv (.inl ⟨_,_,hx⟩),hx,hy];simp[AZ]
 cases op<;>simp only[Xq,ACJ,reduceCtorEq]at h<;>subst h
 case eql=>exact⟨_,hq,by simp only[Op.intCmp,ieq]⟩
 case neq=>exact⟨!decide (a=b),by simp[den,hq,Gn],by simp only[Op.intCmp,bne,ieq]⟩
 case lss=>exact⟨_,by simp[den,hx,hy,AZ];rfl,by simp only[Op.intCmp]⟩
 case leq=>exact⟨!decide (b<a),by simp[den,hx,hy,AZ,Gn],by simp only[Op.intCmp,ile]⟩
 case gtr=>exact⟨_,by simp[den,hx,hy,AZ];rfl,by simp only[Op.intCmp,gt_iff_lt]⟩
 case geq=>exact⟨!decide (a<b),by simp[den,hx,hy,AZ,Gn],by simp only[Op.intCmp,ge_iff_le,ile]⟩
theorem FM{op:BinOp}{t:TypeId}{p q:Operand}{k:IntKind}{a b:Int}{s:Sem Value}{z:Value}(hs:binOp op t (.int k a) (.int k b)=s)(hz:s=pure z):
  ((do eqGuard op t p q (.int k a) (.int k b);binOp op t (.int k a) (.int k b)):Sem Value).run P w=.ok z w:=by
 rw[hs,hz];have:(eqGuard op t p q (.int k a) (.int k b)).run P w=.ok () w:=by
  unfold eqGuard;cases op<;>simp
 rw[Sem.run_bind,this];simp
theorem jt(a b:ByteArray):(a.toList==b.toList)=decide (a=b):=by
 rw[ByteArray.toList_eq,ByteArray.toList_eq]
 by_cases e:a=b
 ·simp[e]
 ·have:¬a.data=b.data:=fun h=>e (Ib (by rw[h]))
  simp[e,this]
theorem FN{op:BinOp}{t:TypeId}{p q:Operand}{a b:ByteArray}{z:Value}(hz:Op.stringOp op a b=pure z)(hop:op≠.shl∧op≠.shr):
  ((do eqGuard op t p q (.string a) (.string b);binOp op t (.string a) (.string b)):Sem Value).run P w=.ok z w:=by
 have hb:binOp op t (.string a) (.string b)=Op.stringOp op a b:=by
  cases op<;>simp[binOp]
 rw[hb,hz];have:(eqGuard op t p q (.string a) (.string b)).run P w=.ok () w:=by
  unfold eqGuard;cases op<;>simp
 rw[Sem.run_bind,this];simp
def FR:DV→Lit
 |.int k z=>.int k z
 |.bool b=>.bool b
 |.str s=>.string s.data.toList
 |.list _=>.bool false
def C8:DV→Prop
 |.list _=>False
 |_=>True
theorem nU{a b:DV}(ha:C8 a)(hb:C8 b)(h:FR a=FR b):a=b:=by
 cases a<;>cases b<;>simp only[FR,C8,reduceCtorEq,Lit.int.injEq,Lit.bool.injEq,Lit.string.injEq]at*
 ·rw[h.1,h.2]
 ·rw[h]
 ·rw[Ib h]
theorem Q6{k:IntKind}{z:Int}(h:inR k z=true):k.min≤z∧z≤k.max:=by
 unfold inR at h;split at h
 ·rename_i n;have:=Ct h
  cases k<;>simp[lim,IntKind.min,IntKind.max,IntKind.signed,IntKind.bits]at* <;>omega
 ·rename_i n;simp only[ACH]at h;have:=Ct h.2
  cases k<;>simp[lim,IntKind.min,IntKind.max,IntKind.signed,IntKind.bits]at* <;>omega
theorem u7{k:IntKind}{z:Int}(h1:k.min≤z)(h2:z≤k.max):(Lit.int k z).wf=true:=by
 simp[Lit.wf];exact⟨h1,h2⟩
theorem fQ{q:IntKind}{a:AV}{e:SX}{v:Value}(h:G3 (.int q) a=some e)(hv:V m a v):∃z,den m.R e=.int q z∧v=.int q z∧q.min≤z∧z≤q.max:=by
 unfold G3 at h;split at h<;>(try (cases h;done))<;>(try (rename_i hq;cases hq;done))
 ·rename_i k l e' heq;cases heq;split at h
  ·rename_i hk;cases h;cases Ep hk;simpa only[V,Rep]using hv
  ·cases h
 ·rename_i k l z heq;cases heq;split at h
  ·rename_i hk;cases h;simp only[ACH]at hk;cases Ep hk.1;simp only[V]at hv;exact⟨z,rfl,hv,Q6 hk.2⟩
  ·cases h
theorem aU{a:AV}{e:SX}{v:Value}(h:G3 .bool a=some e)(hv:V m a v):∃b,den m.R e=.bool b∧v=.bool b:=by
 unfold G3 at h;split at h<;>(try (cases h;done))<;>(try (rename_i heq;cases heq;done))
 ·cases h;simpa only[V,Rep]using hv
 ·cases h;simp only[V]at hv;exact⟨_,rfl,hv⟩
theorem fS{a:AV}{e:SX}{v:Value}(h:G3 .str a=some e)(hv:V m a v):∃s,den m.R e=.str s∧v=.string s∧s.size≤maxLen:=by
 unfold G3 at h;split at h<;>(try (cases h;done))<;>(try (rename_i heq;cases heq;done))
 ·cases h;simpa only[V,Rep]using hv
 ·split at h
  ·rename_i hs;cases h;simp only[V]at hv;exact⟨_,rfl,hv,ADe hs⟩
  ·cases h
def Lits(m:Env)(xs:List SX)(ls:List Lit):Prop:=ls=xs.map (fun x=>FR (den m.R x))∧∀x∈xs,C8 (den m.R x)
theorem Lits.flatten{xss:List (List SX)}{lss:List (List Lit)}(hl:xss.length=lss.length)(h:∀(i:Nat) (xs:List SX) (ls:List Lit),xss[i]? =some xs→lss[i]? =some ls→Lits m xs ls):Lits m xss.flatten lss.flatten:=by
 induction xss generalizing lss with
 |nil=>
  cases lss with
  |nil=>exact⟨rfl,by simp⟩
  |cons=>simp at hl
 |cons xs xss ih=>
  cases lss with
  |nil=>simp at hl
  |cons ls lss=>
   have h0:=h 0 xs ls rfl rfl
   have h1:=ih (lss:=lss) (by simpa using hl) fun i a b ha hb=>h (i+1) a b (by simpa using ha) (by simpa using hb)
   refine⟨by simp only[ADE,ACd];rw[h0.1,h1.1],fun x hx=>?_⟩
   simp only[ADE,ADR]at hx;rcases hx with hx|hx
   ·exact h0.2 x hx
   ·exact h1.2 x hx
theorem mapM_some{α β:Type}{f:α→Option β}:∀{l:List α} {ys:List β},l.mapM f=some ys→ys.length=l.length∧∀(i:Nat) (x:α),l[i]? =some x→∃y,ys[i]? =some y∧f x=some y
 | [],ys,h=>by simp at h;subst h;simp
 |x::l,ys,h=>by
  rw[List.mapM_cons]at h;simp only[bind,AEX,pure,ACJ]at h;obtain⟨y,hy,ys',hys,rfl⟩:=h;obtain⟨h1,h2⟩:=mapM_some hys;refine⟨by simp[h1],fun i z hz=>?_⟩
  cases i with
  |zero=>simp at hz;subst hz;exact⟨y,rfl,hy⟩
  |succ i=>simpa using h2 i z (by simpa using hz)
theorem bW{α β:Type}{f:α→Option β}:∀{l:List α},(∀x∈l,∃y,f x=some y)→∃ys,l.mapM f=some ys
 | [],_=>⟨[],by simp⟩
 |x::l,h=>by
  obtain⟨y,hy⟩:=h x (by simp)
  obtain⟨ys,hys⟩:=bW (l:=l) fun z hz=>h z (by simp[hz])
  exact⟨y::ys,by rw[List.mapM_cons];simp[hy,hys]⟩
theorem Lits.mapM{α:Type}{f:α→Option (List SX)}{g:α→Option (List Lit)}{l:List α}{xss:List (List SX)}(h:l.mapM f=some xss)(hfg:∀x∈l,∀xs,f x=some xs→∃ls,g x=some ls∧Lits m xs ls):
  ∃lss,l.mapM g=some lss∧Lits m xss.flatten lss.flatten:=by
 obtain⟨h1,h2⟩:=mapM_some h;have hg:∃lss,l.mapM g=some lss:=by
  refine bW fun x hx=>?_
  obtain⟨i,hi⟩:=ACf.1 hx;obtain⟨y,_,hy⟩:=h2 i x hi;obtain⟨ls,hls,_⟩:=hfg x hx y hy;exact⟨ls,hls⟩
 obtain⟨lss,hlss⟩:=hg;obtain⟨k1,k2⟩:=mapM_some hlss;refine⟨lss,hlss,Lits.flatten (by omega) fun i xs ls hx hl=>?_⟩
 have hlt:i<l.length:=by rw[←h1];exact (ACW.1 hx).1
 have hli:l[i]? =some l[i]:=ACL hlt
 obtain⟨y,hy1,hy2⟩:=h2 i _ hli;obtain⟨z,hz1,hz2⟩:=k2 i _ hli;rw[hx]at hy1;cases hy1;rw[hl]at hz1;cases hz1;obtain⟨ls',e1,e2⟩:=hfg _ (ACf.2 ⟨i,hli⟩) _ hy2;rw[hz2]at e1;cases e1;exact e2
theorem Fp:∀(d:Nat) {t:TypeId} {cs:List AV} {xs:List SX} {vs:List Value},symLits P d t cs=some xs→VL m cs vs→∃ls,P.keyLits d t vs=some ls∧Lits m xs ls
 |0,t,cs,xs,vs,h,hv=>by simp[symLits]at h
 |d+1,t,cs,xs,vs,h,hv=>by
  unfold symLits at h;unfold Program.keyLits;split at h
  ·rename_i hu;split at h
   ·rename_i c;simp only[ACa]at h;obtain⟨e,he,rfl⟩:=h;simp only[VL]at hv;obtain⟨v,us,rfl,hv,rfl⟩:=hv;obtain⟨b,h1,rfl⟩:=aU he hv;rw[hu];exact⟨[.bool b],rfl,by simp[h1,FR],by simp[h1,C8]⟩
   ·cases h
  ·rename_i q hu;split at h
   ·rename_i c;simp only[ACa]at h;obtain⟨e,he,rfl⟩:=h;simp only[VL]at hv;obtain⟨v,us,rfl,hv,rfl⟩:=hv;obtain⟨z,h1,rfl,h2,h3⟩:=fQ he hv;rw[hu];exact⟨[.int q z],by simp[u7 h2 h3],by simp[h1,FR],by simp[h1,C8]⟩
   ·cases h
  ·rename_i hu;split at h
   ·rename_i c;simp only[ACa]at h;obtain⟨e,he,rfl⟩:=h;simp only[VL]at hv;obtain⟨v,us,rfl,hv,rfl⟩:=hv;obtain⟨s,h1,rfl,h2⟩:=fS he hv;rw[hu];exact⟨[.string s.data.toList],by simp[h2],by simp[h1,FR],by simp[h1,C8]⟩
   ·cases h
  ·rename_i n e hu;split at h
   ·rename_i hlen;rw[ACY]at hlen;simp only[ACa]at h;obtain⟨xss,hx,rfl⟩:=h;obtain⟨lss,h1,h2⟩:=Lits.mapM (m:=m) (g:=fun i=>P.keyLits d e ((vs.drop (i*P.cellsOf e)).take (P.cellsOf e))) hx fun i _ ys hy=>Fp d hy (Jd (L2 hv _) _)
    rw[hu];simp only[Ay hv,hlen,if_true];exact⟨lss.flatten,by rw[h1];rfl,h2⟩
   ·cases h
  ·rename_i fs hu;split at h
   ·rename_i hlen;simp only[ACH,ACY]at hlen;simp only[ACa]at h;obtain⟨xss,hx,rfl⟩:=h;obtain⟨lss,h1,h2⟩:=Lits.mapM (m:=m) (g:=fun (f:Field)=>P.keyLits d f.type ((vs.drop f.offset).take (P.cellsOf f.type))) hx fun f _ ys hy=>Fp d hy (Jd (L2 hv _) _)
    rw[hu];simp only[Ay hv,hlen.1,hlen.2,and_self,if_true];exact⟨lss.flatten,by rw[h1];rfl,h2⟩
   ·cases h
  ·cases h
end
section
variable {P:Program}{m:Env}{h:AHeap}{w:World}
theorem bX{a b:DV}(ha:C8 a)(hb:C8 b):∃r:Bool,AZ .eql a b=.bool r∧(r=true↔FR a=FR b):=by
 cases a<;>cases b<;>simp only[C8]at ha hb<;>refine⟨_,rfl,?_⟩<;>simp[FR]
 exact⟨fun h=>by rw[h],fun h=>Ib (by rw[h])⟩
theorem WJ:∀{xs ys:List SX},xs.length=ys.length→(∀x∈xs,C8 (den m.R x))→(∀y∈ys,C8 (den m.R y))→
  (den.denAll m.R (IB xs ys)=true↔xs.map (fun x=>FR (den m.R x))=ys.map (fun x=>FR (den m.R x)))
 | [],[],_,_,_=>by simp[IB,den.denAll]
 |x::xs,y::ys,hl,hx,hy=>by
  have ih:=WJ (xs:=xs) (ys:=ys) (by simpa using hl) (fun z hz=>hx z (by simp[hz])) (fun z hz=>hy z (by simp[hz]))
  rw[IB];split
  ·rename_i e;have:=Aw e
   subst this;rw[ih];simp
  ·obtain⟨r,h0,h1⟩:=bX (hx x (by simp)) (hy y (by simp))
   simp only[den.denAll,den,h0,isT,ACH,ih,ACO,ADa,h1]
 | [],_::_,hl,_,_=>by simp at hl
 |_::_,[],hl,_,_=>by simp at hl
theorem SY:∀{xs ys:List SX},(∀x∈xs,C8 (den m.R x))→(∀y∈ys,C8 (den m.R y))→∀e∈IB xs ys,∃b,den m.R e=.bool b
 |x::xs,y::ys,hx,hy,e,he=>by
  have ih:=SY (xs:=xs) (ys:=ys) (fun z hz=>hx z (by simp[hz])) (fun z hz=>hy z (by simp[hz]))
  rw[IB]at he;split at he
  ·exact ih e he
  ·simp only[ACU]at he;rcases he with rfl|he
   ·obtain⟨r,h0,_⟩:=bX (hx x (by simp)) (hy y (by simp))
    exact⟨r,by rw[den,h0]⟩
   ·exact ih e he
 | [],_,_,_,e,he=>by simp[IB]at he
 |_::_,[],_,_,e,he=>by simp[IB]at he
theorem nV{R:Rho}:∀{es:List SX},(∀e∈es,∃b,den R e=.bool b)→den R (mO es)=.bool (den.denAll R es)
 | [],_=>rfl
 | [e],h=>by
  obtain⟨b,hb⟩:=h e (by simp)
  simp[mO,hb,den.denAll,isT]
 |e::f::es,_=>rfl
theorem JJ{a:AV}{cs:List AV}{v:Value}(h:G1 a=some cs)(hv:V m a v):∃vs:Array Value,v=.agg vs∧VL m cs vs.toList:=by
 unfold G1 at h;split at h<;>simp only[ACJ,reduceCtorEq]at h
 ·rename_i xs;subst h;simp only[V]at hv;exact⟨xs,hv,F5 m _⟩
 ·subst h;simpa only[V]using hv
theorem Ht{d:Nat}{t:TypeId}{vs:Array Value}{ls:List Lit}(h:P.keyLits d t vs.toList=some ls)(hn:P.keyTypeAt 8 t=true)(hagg:∀v,vs.toList=[v]→FZ P t=some true):(Value.agg vs).formed P t=true∨FZ P t=some false:=by
 cases d with
 |zero=>simp[Program.keyLits]at h
 |succ d=>
  unfold Program.keyLits at h;cases hu:P.underlying t with
  |none=>simp[hu]at h
  |some kd=>
   cases kd<;>simp only[hu]at h<;>(try (cases h;done))
   case array n e=>
    split at h
    ·rename_i hl;left
     simp only[Value.formed,hu];simpa using hl
    ·cases h
   case struct fs=>
    split at h
    ·rename_i hl;left
     simp only[Value.formed,hu];simpa using hl.1
    ·cases h
   all_goals (right;simp[FZ,hu])
theorem SZ{t:TypeId}{a b:AV}{e:SX}{x y:Value}(h:W3 P t a b=some e)(hx:V m a x)(hy:V m b y)(hagg:FZ P t=some true):
  ∃r:Bool,den m.R e=.bool r∧(Op.equal t x y).run P w=.ok r w∧∃xs ys,x=.agg xs∧y=.agg ys∧P.eqGuardType P.depth t=false:=by
 unfold W3 at h;split at h
 ·rename_i cs ds ha hb;split at h
  ·rename_i hk;simp only[ACH,ADc]at hk;split at h
   ·rename_i xs ys h1 h2;split at h
    ·rename_i hlen;rw[ACY]at hlen;cases h;obtain⟨vs,rfl,hv⟩:=JJ ha hx;obtain⟨us,rfl,hu⟩:=JJ hb hy;obtain⟨la,e1,p1,p2⟩:=Fp (m:=m) 8 h1 hv;obtain⟨lb,e2,q1,q2⟩:=Fp (m:=m) 8 h2 hu;have f1:=Ht e1 hk.1 fun _ _=>hagg
     have f2:=Ht e2 hk.1 fun _ _=>hagg
     rw[hagg]at f1 f2;simp only[ACJ,Bool.true_eq_false,or_false]at f1 f2;obtain⟨r,hr,hiff⟩:=run_equalIn_deep (P:=P) 9992 8 t hk.1 w 8 8 _ _ la lb f1 f2 (by simpa[Value.cells]using e1) (by simpa[Value.cells]using e2)
     refine⟨r,?_,hr,vs,us,rfl,rfl,hk.2⟩
     rw[nV (SY p2 q2)];have:=WJ hlen p2 q2
     rw[←p1,←q1,←hiff]at this;congr 1
     exact AEG.2 this
    ·cases h
   ·cases h
  ·cases h
 ·cases h
end
section
variable {P:Program}{m:Env}{h:AHeap}{w:World}
theorem DN{R:Rho}{e:SX}{b:Bool}(h:den R e=.bool b):Rep m .bool (den R e) (.bool b):=by
 simp only[Rep];exact⟨b,h,rfl⟩
theorem Q7:∀x y:List UInt8,Op.bytesLess y x= !(Op.bytesLess x y||x==y)
 | [],[]=>by simp[Op.bytesLess]
 | [],_::_=>by simp[Op.bytesLess]
 |_::_,[]=>by simp[Op.bytesLess]
 |a::x,b::y=>by
  simp only[Op.bytesLess,Q7 x y,List.cons_beq_cons];rcases AEF a.toNat b.toNat with h|h|h
  ·have h1:a<b:=h
   have h2:¬b<a:=fun h3=>by have:b.toNat<a.toNat:=h3;omega
   have h4:¬b=a:=fun e=>by subst e;omega
   simp[h1,h2,h4]
  ·have h1:a=b:=UInt8.toNat_inj.1 h
   subst h1;have h2:¬a<a:=fun h3=>by have:a.toNat<a.toNat:=h3;omega
   simp[h2]
  ·have h1:b<a:=h
   have h2:¬a<b:=fun h3=>by have:a.toNat<b.toNat:=h3;omega
   have h4:¬a=b:=fun e=>by subst e;omega
   simp[h1,h2,h4]
theorem Wn{op:BinOp}{t:TypeId}{p q:Operand}{a b r:AV}{x y:Value}(hs:UH P op t a b=some r)(hx:V m a x)(hy:V m b y):
  ∃z,((do eqGuard op t p q x y;binOp op t x y):Sem Value).run P w=.ok z w∧V m r z:=by
 unfold UH at hs;split at hs
 ·rename_i k x' l y' h1 h2;split at hs
  ·rename_i hk;cases Ep hk;obtain⟨u,d1,rfl⟩:=Db h1 hx;obtain⟨v,d2,rfl⟩:=Db h2 hy;have cmp:(Xq op x' y').map (AV.sy .bool)=some r→binOp op t (.int k u) (.int k v)=Op.intCmp op u v→∃z,((do eqGuard op t p q (.int k u) (.int k v);binOp op t (.int k u) (.int k v)):Sem Value).run P w=.ok z w∧V m r z:=by
    intro hc hb;simp only[ACa]at hc;obtain⟨e,he,rfl⟩:=hc;obtain⟨c,g1,g2⟩:=nT he d1 d2;exact⟨_,FM (hb.trans g2) rfl,by simp only[V];exact DN g1⟩
   have ar:∀{o:BinOp} {z:Int},den m.R (.bin o x' y')=.int k (k.wrap z)→r=.sy (.int k) (.bin o x' y')→binOp op t (.int k u) (.int k v)=pure (.int k (k.wrap z))→∃z,((do eqGuard op t p q (.int k u) (.int k v);binOp op t (.int k u) (.int k v)):Sem Value).run P w=.ok z w∧V m r z:=by
    intro o z g1 g2 g3;subst g2;refine⟨_,FM g3 rfl,?_⟩
    simp only[V,Rep,g1];exact⟨_,rfl,rfl,(Df k z).1,(Df k z).2⟩
   split at hs
   ·cases hs;exact ar (by simp only[den,d1,d2,AZ];rfl) rfl (by simp[binOp,Op.intArith])
   ·cases hs;exact ar (by simp only[den,d1,d2,AZ];rfl) rfl (by simp[binOp,Op.intArith])
   ·cases hs;exact ar (by simp only[den,d1,d2,AZ];rfl) rfl (by simp[binOp,Op.intArith])
   ·cases hs;exact ar (by simp only[den,d1,d2,AZ,F7];rfl) rfl (by simp[binOp,Op.intBits])
   ·cases hs;exact ar (by simp only[den,d1,d2,AZ,F7];rfl) rfl (by simp[binOp,Op.intBits])
   ·cases hs;exact ar (by simp only[den,d1,d2,AZ,F7];rfl) rfl (by simp[binOp,Op.intBits])
   ·cases hs;exact ar (by simp only[den,d1,d2,AZ,F7];rfl) rfl (by simp[binOp,Op.intBits])
   ·refine cmp hs ?_
    cases op<;>simp_all[binOp,Xq]
  ·cases hs
 ·rename_i x' y' h1 h2;obtain⟨u,d1,rfl⟩:=Db h1 hx;obtain⟨v,d2,rfl⟩:=Db h2 hy;have hq:den m.R (eqS x' y')=.bool (decide (u=v)):=by
   rw[Uv (.inr (.inr ⟨_,d1⟩)),d1,d2];simp[AZ]
  split at hs<;>(try (cases hs;done))<;>cases hs
  ·exact⟨.bool (decide (u=v)),FN (by simp only[Op.stringOp,jt]) ⟨by simp,by simp⟩,by simp only[V];exact DN hq⟩
  ·exact⟨.bool (!decide (u=v)),FN (by simp only[Op.stringOp,jt]) ⟨by simp,by simp⟩,by simp only[V];exact DN (by simp only[den,hq,Gn])⟩
  ·exact⟨.bool (Op.bytesLess u.toList v.toList),FN (by simp only[Op.stringOp]) ⟨by simp,by simp⟩,by simp only[V];exact DN (by simp only[den,d1,d2,AZ])⟩
  ·exact⟨.bool (!Op.bytesLess u.toList v.toList),FN (by simp only[Op.stringOp]) ⟨by simp,by simp⟩,by simp only[V];exact DN (by simp only[den,d1,d2,AZ,Gn])⟩
  ·exact⟨.bool (Op.bytesLess v.toList u.toList),FN (by simp only[Op.stringOp,Q7 u.toList v.toList]) ⟨by simp,by simp⟩,by simp only[V];exact DN (by simp only[den,d1,d2,AZ])⟩
  ·exact⟨.bool (!Op.bytesLess v.toList u.toList),FN (by simp only[Op.stringOp,Q7 u.toList v.toList,Bool.not_not]) ⟨by simp,by simp⟩,by simp only[V];exact DN (by simp only[den,d1,d2,AZ,Gn])⟩
 ·rename_i x' y' h1 h2;obtain⟨u,d1,rfl⟩:=Db h1 hx;obtain⟨v,d2,rfl⟩:=Db h2 hy;have hq:den m.R (eqS x' y')=.bool (u==v):=by
   rw[Uv (.inr (.inl ⟨_,d1⟩)),d1,d2];simp[AZ]
  split at hs
  ·rename_i hu;have hg:(eqGuard op t p q (.bool u) (.bool v)).run P w=.ok () w:=by
    unfold eqGuard;cases op<;>simp
   split at hs<;>(try (cases hs;done))<;>cases hs
   ·refine⟨.bool (u==v),?_,by simp only[V];exact DN hq⟩
    rw[Sem.run_bind,hg];simp only[Result.andThen_ok,binOp,Sem.run_bind,run_equal_bool (P:=P) w t u v hu,Sem.run_pure]
   ·refine⟨.bool (!(u==v)),?_,by simp only[V];exact DN (by simp only[den,hq,Gn])⟩
    rw[Sem.run_bind,hg];simp only[Result.andThen_ok,binOp,Sem.run_bind,run_equal_bool (P:=P) w t u v hu,Sem.run_pure]
  ·cases hs
 ·split at hs<;>(try (cases hs;done))
  ·split at hs
   ·rename_i hagg;simp only[ACa]at hs;obtain⟨e,he,rfl⟩:=hs;obtain⟨c,g1,g2,xs,ys,rfl,rfl,g3⟩:=SZ (w:=w) he hx hy hagg;have hg:∀o,(eqGuard o t p q (.agg xs) (.agg ys)).run P w=.ok () w:=fun o=>run_eqGuard_agg w o t p q xs ys g3
    refine⟨.bool c,?_,by simp only[V];exact DN (g1)⟩
    rw[Sem.run_bind,hg];simp only[Result.andThen_ok,binOp,Sem.run_bind,g2,Sem.run_pure]
   ·cases hs
  ·split at hs
   ·rename_i hagg;simp only[ACa]at hs;obtain⟨e,he,rfl⟩:=hs;obtain⟨c,g1,g2,xs,ys,rfl,rfl,g3⟩:=SZ (w:=w) he hx hy hagg;have hg:∀o,(eqGuard o t p q (.agg xs) (.agg ys)).run P w=.ok () w:=fun o=>run_eqGuard_agg w o t p q xs ys g3
    refine⟨.bool (!c),?_,by simp only[V];exact DN (by simp only[den,g1,Gn])⟩
    rw[Sem.run_bind,hg];simp only[Result.andThen_ok,binOp,Sem.run_bind,g2,Sem.run_pure]
   ·cases hs
theorem bZ{k:IntKind}{x:Int}{n:Nat}(h1:k.min≤x)(h2:x≤k.max):k.min≤x.fdiv (2^n)∧x.fdiv (2^n)≤k.max:=by
 have hp:(1:Int)≤2^n:=by
  have:=Nat.one_le_two_pow (n:=n)
  exact_mod_cast this
 have hm:k.min≤0∧0≤k.max:=by cases k<;>decide
 rw[ADb _ (by omega)]
 constructor
 ·by_cases hx:0≤x
  ·have:=Int.ediv_nonneg hx (show (0:Int)≤2^n by omega)
   omega
  ·have:x≤x / 2^n:=by
    rw[Int.le_ediv_iff_mul_le (by omega)]
    have h3:x*2^n≤x*1:=Int.mul_le_mul_of_nonpos_left (by omega) hp
    omega
   omega
 ·by_cases hx:0≤x
  ·have:=Int.ediv_le_self (2^n) hx
   omega
  ·have:x / 2^n≤0:=by
    have:=Int.ediv_le_ediv (a:=x) (b:=0) (c:=2^n) (by omega) (by omega)
    simpa using this
   omega
theorem Uw{k:IntKind}{x:Int}{n:Nat}(h1:k.min≤x)(h2:x≤k.max):k.min≤x.tmod (n:Int)∧x.tmod (n:Int)≤k.max:=by
 have hm:k.min≤0∧0≤k.max:=by cases k<;>decide
 rcases Int.lt_or_le x 0 with h|h
 ·have e:x= -((-x).toNat:Int):=by omega
  have:x.tmod (n:Int)= -(((-x).toNat%n:Nat):Int):=by
   conv=>lhs;rw[e]
   rw[Int.neg_tmod];rfl
  have hle:=Nat.mod_le (-x).toNat n
  omega
 ·have e:x=(x.toNat:Int):=by omega
  have:x.tmod (n:Int)=((x.toNat%n:Nat):Int):=by
   conv=>lhs;rw[e]
   rfl
  have hle:=Nat.mod_le x.toNat n
  omega
theorem Yn{op:BinOp}{t:TypeId}{p q:Operand}{a b r:AV}{x y:Value}(hs:Xr P op t a b=some r)(hx:V m a x)(hy:V m b y):
  ∃z,((do eqGuard op t p q x y;binOp op t x y):Sem Value).run P w=.ok z w∧V m r z:=by
 unfold Xr at hs;split at hs
 ·rename_i r' hr;cases hs;unfold ua at hr;split at hr
  ·rename_i k e l c;cases hr;simp only[V,Rep]at hx hy;obtain⟨u,d1,rfl,g1,g2⟩:=hx;subst hy;refine⟨.int k (u.fdiv (2^min c k.bits)),?_,?_⟩
   ·have hg:(eqGuard .shr t p q (.int k u) (.int l (.ofNat c))).run P w=.ok () w:=by
     unfold eqGuard;simp
    rw[Sem.run_bind,hg];have hc:¬((Int.ofNat c)<0):=by simp
    simp only[Result.andThen_ok,binOp,Op.shift,if_neg hc];rfl
   ·simp only[V,Rep,den,d1,AZ];exact⟨_,rfl,rfl,bZ g1 g2⟩
  ·rename_i k e l c;cases hr;simp only[V,Rep]at hx hy;obtain⟨u,d1,rfl,g1,g2⟩:=hx;subst hy;refine⟨.int k (k.wrap (u*2^min c k.bits)),?_,?_⟩
   ·have hg:(eqGuard .shl t p q (.int k u) (.int l (.ofNat c))).run P w=.ok () w:=by
     unfold eqGuard;simp
    rw[Sem.run_bind,hg];have hc:¬((Int.ofNat c)<0):=by simp
    simp only[Result.andThen_ok,binOp,Op.shift,if_neg hc];rfl
   ·simp only[V,Rep,den,d1,AZ];exact⟨_,rfl,rfl,(Df k _).1,(Df k _).2⟩
  ·rename_i k e l c;split at hr
   ·rename_i hk;cases hr;simp only[ACH]at hk;cases Ep hk.1;have hc0:=Ct hk.2
    simp only[V,Rep]at hx hy;obtain⟨u,d1,rfl,g1,g2⟩:=hx;subst hy;refine⟨.int k (k.wrap (u.tdiv c)),FM ?_ rfl,?_⟩
    ·have hne:¬((Int.ofNat c)=0):=by simp;omega
     simp only[binOp,Op.intDiv,if_neg hne,ne_eq,not_true_eq_false,if_false];rfl
    ·simp only[V,Rep,den,d1,AZ];exact⟨_,rfl,rfl,(Df k _).1,(Df k _).2⟩
   ·cases hr
  ·rename_i k e l c;split at hr
   ·rename_i hk;cases hr;simp only[ACH]at hk;cases Ep hk.1;have hc0:=Ct hk.2
    simp only[V,Rep]at hx hy;obtain⟨u,d1,rfl,g1,g2⟩:=hx;subst hy;refine⟨.int k (u.tmod c),FM ?_ rfl,?_⟩
    ·have hne:¬((Int.ofNat c)=0):=by simp;omega
     simp only[binOp,Op.intDiv,if_neg hne,ne_eq,not_true_eq_false,if_false];rfl
    ·simp only[V,Rep,den,d1,AZ];exact⟨_,rfl,rfl,Uw g1 g2⟩
   ·cases hr
  ·cases hr
 ·exact Wn hs hx hy
end
end Go.AM
