/-
  A part of the proof of ClientStays (the machine on named data, and the contracts of the functions that the law reaches). Its names and spaces were shortened by a program of ours.
-/
import Derived.DeepKeys3
import Derived.MapKept
import Derived.Test.YtobajijkmmhdjaaGreatDoorPAc
set_option linter.all false
noncomputable section
namespace Go.AM
open Go
section
variable [O:Orc]{P:Program}{m:Env}{h:AHeap}{w:World}
open Classical in
def seen(ρ:Operand→Value)(x:Operand)(a:AV):Operand→AV:=fun y=>if y=x then a else .sc (ρ y)
theorem Hu{ρ:Operand→Value}{x:Operand}{a:AV}(ha:V m a (ρ x))(y:Operand):V m (seen ρ x a y) (ρ y):=by
 unfold seen
 by_cases e:y=x
 ·rw[if_pos e,e];exact ha
 ·rw[if_neg e];simp[V]
theorem Good.imp{r:Result Next}{a b:AV}{h':AHeap}(hg:Good m r a h')(hab:∀m' v,m.le m'→V m' a v→V m' b v):Good m r b h':=by
 obtain⟨v,w',m',h1,h2,h3,h4⟩:=hg;exact⟨v,w',m',h1,h2,hab m' v h2 h3,h4⟩
theorem II{ev:Operand→AV}{ρ:Operand→Value}(hev:∀x,V m (ev x) (ρ x)){d e:SX}{x:Option Operand}{n:Nat}(hd:den m.R d=.int .i64 (n:Int))(hb:FA ev d x=some e):
  ∃k z,den m.R e=.int k z∧(∀y,x=some y→ρ y=.int k z)∧(x=none→z=n):=by
 cases x with
 |none=>cases hb;exact⟨_,_,hd,(fun y e=>by cases e),fun _=>rfl⟩
 |some y=>
  obtain⟨k,z,h1,h2⟩:=HT hb (hev y);exact⟨k,z,h1,(fun y' e=>by cases e;exact h2),fun e=>by cases e⟩
theorem Sa{ρ:Operand→Value}{x:Operand}{a:AV}{b:Option Operand}{d n:Nat}{k:IntKind}(h1:∀y,b=some y→ρ y=.int k (n:Int))(h0:b=none→n=d)(hx:∀y,b=some y→y≠x):bound (seen ρ x a) d b=some n:=by
 cases b with
 |none=>simp[bound,h0 rfl]
 |some y=>
  simp only[bound,seen,if_neg (hx y rfl),h1 y rfl];rfl
theorem Sb(hF:FactsOK m.R){t:TypeId}{x ix:Operand}{dst type pos after guard}{ev:Operand→AV}{ρ:Operand→Value}(hev:∀x,V m (ev x) (ρ x))(hr:HR m h w){av:AV}{h':AHeap}
  (hop:DF P ev h ⟨dst,.indexAddr t x ix,type,pos,after,guard⟩=some (av,h')):Good m ((execOp ρ ⟨dst,.indexAddr t x ix,type,pos,after,guard⟩).run P w) av h':=by
 simp only[DF]at hop;split at hop<;>(try (cases hop;done))
 rename_i el cs e hu hx;split at hop<;>(try (cases hop;done))
 rename_i size i hs hi;split at hop<;>(try (cases hop;done))
 rename_i hle;simp only[ACH,ACY]at hle;obtain⟨hle,rfl⟩:=hle;split at hop<;>(try (cases hop;done))
 rename_i hlt;cases hop;have hxv:=hev x
 rw[hx]at hxv;simp only[V]at hxv;obtain⟨es,e1,e2,e3,e4⟩:=Ic hxv;obtain⟨k,z,d1,d2⟩:=HT hi (hev ix);have hz0:=Be hF hle (x:=EL) (a:=0) (k:=.i64) (by simp[EL,den]) d1
 have hzl:=Bv hF hlt
 simp only[den,d1,e1,Bm,AZ,DV.bool.injEq,ACN]at hzl;obtain⟨j,rfl⟩:=ADM hz0;have hj:j<es.length:=by omega
 have hne:ix≠x:=by
  intro e;rw[e]at d2;simp only[V]at e3;obtain⟨a,c,e5,_⟩:=e3;rw[d2]at e5;cases e5
 refine (OK t x ix dst type pos after guard (seen ρ x (.fsl cs.length false (rowsOf e cs 0 es.length))) ρ (Hu e3) hr (.fp (Ac e (.ki .i64 (.ofNat j)) 0 cs)) h ?_).imp ?_
 ·simp only[opA,H9,seen,if_pos,if_neg hne,d2];have:H8 (.sc (.int k ((j:Nat):Int)))=some j:=rfl
  simp only[this,hu,hs,ADv];rw[JI e cs es.length 0 j hj];simp
 ·intro m' v hm hv;simp only[V]at hv⊢;obtain⟨b,o,rfl,hc⟩:=hv;refine⟨b,o,rfl,?_⟩
  have key:∀(ts:List Ty) (k0 o:Nat),VC m' b o (Ac e (.ki .i64 (.ofNat j)) k0 ts)→VC m' b o (Ac e i k0 ts):=by
   intro ts
   induction ts with
   |nil=>intro k0 o _;simp[Ac,VC]
   |cons t ts ih=>
    intro k0 o hc;simp only[Ac,VC,V]at hc⊢;obtain⟨⟨v,g1,g2⟩,g3⟩:=hc;refine⟨⟨v,g1,?_⟩,ih _ _ g3⟩
    have:den m'.R (.at e i k0)=den m'.R (.at e (.ki .i64 (.ofNat j)) k0):=by
     rw[hm.R];simp only[den,d1,e1,atD];rfl
    rw[this];exact g2
  exact key _ _ _ hc
theorem aV(hF:FactsOK m.R){t:TypeId}{x ix:Operand}{dst type pos after guard}{ev:Operand→AV}{ρ:Operand→Value}(hev:∀x,V m (ev x) (ρ x))(hr:HR m h w){av:AV}{h':AHeap}
  (hop:DF P ev h ⟨dst,.index t x ix,type,pos,after,guard⟩=some (av,h')):Good m ((execOp ρ ⟨dst,.index t x ix,type,pos,after,guard⟩).run P w) av h':=by
 simp only[DF]at hop;split at hop<;>(try (cases hop;done))
 rename_i e hu hx;split at hop<;>(try (cases hop;done))
 rename_i i hi;split at hop<;>(try (cases hop;done))
 rename_i hle;split at hop<;>(try (cases hop;done))
 rename_i hlt;cases hop;have hxv:=hev x
 rw[hx]at hxv;simp only[V,Rep]at hxv;obtain⟨s,e1,e2,e3⟩:=hxv;obtain⟨k,z,d1,d2⟩:=HT hi (hev ix);have hz0:=Be hF hle (x:=EL) (a:=0) (k:=.i64) (by simp[EL,den]) d1
 have hzl:=Bv hF hlt
 simp only[den,d1,e1,Bm,AZ,DV.bool.injEq,ACN]at hzl;obtain⟨j,rfl⟩:=ADM hz0;have hj:j<s.size:=by omega
 refine (Yh t x ix dst type pos after guard (fun y=>.sc (ρ y)) ρ (fun y=>by simp[V]) hr (.sc (.int .u8 (s[j]).toNat)) h ?_).imp ?_
 ·simp only[opA,PF,hu,e2,d2];have:H8 (.sc (.int k ((j:Nat):Int)))=some j:=rfl
  simp only[this];rw[show s[j]? =some s[j] from getElem?_pos s j hj]
 ·intro m' v hm hv;simp only[V]at hv;subst hv;simp only[V,Rep];refine⟨_,?_,rfl,?_,?_⟩
  ·rw[hm.R];simp only[den,d1,e1,fJ];have:(s.data.toList.getD ((j:Nat):Int).toNat 0)=s[j]:=by
    have hj':j<s.data.toList.length:=by simpa using hj
    simp only[AC5,ACI,ACL hj',ACo];simp;rfl
   rw[this]
  ·simp[IntKind.min,IntKind.signed]
  ·have:=(s[j]).toNat_lt
   simp[IntKind.max,IntKind.signed,IntKind.bits];omega
theorem aW(hF:FactsOK m.R){t:TypeId}{x:Operand}{lo hi:Option Operand}{dst type pos after guard}{ev:Operand→AV}{ρ:Operand→Value}(hev:∀x,V m (ev x) (ρ x))(hr:HR m h w){av:AV}{h':AHeap}
  (hop:DF P ev h ⟨dst,.slice t x lo hi none,type,pos,after,guard⟩=some (av,h')):Good m ((execOp ρ ⟨dst,.slice t x lo hi none,type,pos,after,guard⟩).run P w) av h':=by
 simp only[DF]at hop;split at hop<;>(try (cases hop;done))
 ·rename_i e hu hx;split at hop<;>(try (cases hop;done))
  rename_i a b ha hb;split at hop<;>(try (cases hop;done))
  rename_i hle;cases hop;simp only[ACH]at hle;have hxv:=hev x
  rw[hx]at hxv;simp only[V,Rep]at hxv;obtain⟨s,e1,e2,e3⟩:=hxv;obtain⟨ka,za,a1,a2,a3⟩:=II (n:=0) hev (by simp[EL,den]) ha
  obtain⟨kb,zb,b1,b2,b3⟩:=II (n:=s.size) hev (by simp[den,e1,Bm]) hb
  have g1:=Be hF hle.1.1 (x:=EL) (a:=0) (k:=.i64) (by simp[EL,den]) a1
  have g2:=Be hF hle.1.2 a1 b1
  have g3:=Be hF hle.2 (l:=.i64) (b:=(s.size:Int)) b1 (by simp[den,e1,Bm])
  obtain⟨l,rfl⟩:=ADM g1;obtain⟨u,rfl⟩:=ADM (show 0≤zb by omega)
  have bnd:∀(bb:Option Operand) (d n:Nat) (k:IntKind),(∀y,bb=some y→ρ y=.int k (n:Int))→(bb=none→(n:Int)=d)→bound (fun y=>AV.sc (ρ y)) d bb=some n:=by
   intro bb d n k q1 q2;cases bb with
   |none=>simp only[bound];have:=q2 rfl;congr 1;omega
   |some y=>simp only[bound,q1 y rfl];rfl
  refine (ok_slice t x lo hi none dst type pos after guard (fun y=>.sc (ρ y)) ρ (fun y=>by simp[V]) hr (.sc (.string (s.extract l u))) h ?_).imp ?_
  ·simp only[opA,JY,hu,e2];rw[bnd lo 0 l ka a2 (fun q=>by have:=a3 q;omega),bnd hi s.size u kb b2 b3]
   have h1:Nat.ble l u=true:=by rw[ACn];omega
   have h2:Nat.ble u s.size=true:=by rw[ACn];omega
   simp[h1,h2]
  ·intro m' v hm hv;simp only[V]at hv;subst hv;simp only[V,Rep];refine⟨_,?_,rfl,?_⟩
   ·rw[hm.R];simp only[den,e1,a1,b1,FQ,AC5]
   ·have:(s.extract l u).size≤s.size:=by simp;omega
    omega
 ·rename_i el cs e hu hx;split at hop<;>(try (cases hop;done))
  rename_i size hs;split at hop<;>(try (cases hop;done))
  rename_i a b ha hb;split at hop<;>(try (cases hop;done))
  rename_i hle;cases hop;simp only[ACH,ACY]at hle;obtain⟨hle,rfl⟩:=hle;have hxv:=hev x
  rw[hx]at hxv;simp only[V]at hxv;obtain⟨es,e1,e2,e3,e4⟩:=Ic hxv;obtain⟨ka,za,a1,a2,a3⟩:=II (n:=0) hev (by simp[EL,den]) ha
  obtain⟨kb,zb,b1,b2,b3⟩:=II (n:=es.length) hev (by simp[den,e1,Bm]) hb
  have g1:=Be hF hle.1.1 (x:=EL) (a:=0) (k:=.i64) (by simp[EL,den]) a1
  have g2:=Be hF hle.1.2 a1 b1
  have g3:=Be hF hle.2 (l:=.i64) (b:=(es.length:Int)) b1 (by simp[den,e1,Bm])
  obtain⟨l,rfl⟩:=ADM g1;obtain⟨u,rfl⟩:=ADM (show 0≤zb by omega)
  have hnsl:∃a c,ρ x=.slice a es.length c:=by
   simp only[V]at e3;obtain⟨a,c,q,_⟩:=e3;rw[Ak]at q;exact⟨a,c,q⟩
  obtain⟨aa,cc,hsl⟩:=hnsl;have hne:∀(bb:Option Operand) (n:Nat) (k:IntKind),(∀y,bb=some y→ρ y=.int k (n:Int))→∀y,bb=some y→y≠x:=by
   intro bb n k q y hy e;have:=q y hy
   rw[e,hsl]at this;cases this
  refine (ok_slice t x lo hi none dst type pos after guard (seen ρ x (.fsl cs.length false (rowsOf e cs 0 es.length))) ρ (Hu e3) hr (.fsl cs.length false (rowsOf e cs l (u-l))) h ?_).imp ?_
  ·simp only[opA,JY,hu,hs];have hsx:seen ρ x (.fsl cs.length false (rowsOf e cs 0 es.length)) x=.fsl cs.length false (rowsOf e cs 0 es.length):=by simp[seen]
   rw[hsx];simp only[Ak,Option.map_none];rw[Sa (n:=l) (k:=ka) a2 (fun q=>by have:=a3 q;omega) (hne lo l ka a2),Sa (n:=u) (k:=kb) b2 (fun q=>by have:=b3 q;omega) (hne hi u kb b2)]
   have h1:Nat.ble l u=true:=by rw[ACn];omega
   have h2:Nat.ble u es.length=true:=by rw[ACn];omega
   simp only[h1,h2,ADv,Bool.and_self,Bool.false_and];rw[QW,QV,ADZ (by omega),ACk]
  ·intro m' v hm hv;simp only[V]
   by_cases hz:es.length=0
   ·have:u-l=0:=by omega
    rw[this]at hv;simp only[V,rowsOf]at hv;obtain⟨a,c,rfl,q2,q3,q4,q5⟩:=hv;simp only[Rep];refine⟨[],a,c,?_,rfl,by simp,by simp,q4,?_⟩
    ·rw[hm.R];simp only[den,e1,a1,b1,FQ];have:es=[]:=ACi.1 hz
     simp[this]
    ·rcases q5 with q5|⟨bb,o,q6,q7⟩
     ·exact .inl q5
     ·exact .inr ⟨bb,o,q6,by simp⟩
   ·refine u6 (es:=es) (l:=l) (n:=u-l) (e:=e) (by rw[hm.R];exact e1) (by omega) e2 ?_ ?_ hv
    ·intro i row hi;rcases e4 i row hi with q|q|q
     ·exact q
     ·exact absurd q hz
     ·rw[hsl]at q;simp only[Value.slice.injEq]at q;omega
    ·rw[hm.R];simp only[den,e1,a1,b1,FQ,AC5,List.drop_take]
 ·rename_i el id len hu hx;split at hop<;>(try (cases hop;done))
  rename_i size blk hs hblk;split at hop<;>(try (cases hop;done))
  rename_i l u hl hh;split at hop<;>(try (cases hop;done))
  rename_i hb;cases hop;simp only[ACH,ACn,ACY]at hb;obtain⟨⟨⟨⟨hrow,hsz⟩,h1⟩,hlt⟩,hle⟩:=hb;have hlt:=Ct hlt
  have hxv:=hev x
  rw[hx]at hxv;simp only[V]at hxv;obtain⟨hid,c,hxe,g1,_,g3⟩:=hxv;have hc:=g3 trivial trivial
  obtain⟨_,_,cs,b1,b2,b3,b4⟩:=hr.obj id _ (BQ hblk);obtain⟨b5,b6,b7⟩:=b4 hrow;have huc:u≤c:=by
   rw[hc];rw[hsz]at b7;exact Nat.le_of_mul_le_mul_right (AEB hle b7) (by omega)
  have hrun:=ET (P:=P) (w:=w) (mm:=c) hu hs (a:=some ⟨(m.mu id).1,0,none⟩) (len:=len) (cap:=c) (Q4 hev hl) (Q4 hev hh) (mx:=none) rfl (fun e=>by cases e) (Nat.le_of_lt hlt) huc (ACv _)
  refine Good.run (s:=Instr.sliceAt t (ρ x) (lo.map ρ) (hi.map ρ) none) hr ?_ (by rw[hxe];exact hrun)
  rw[if_neg (by omega:¬c=l)]
  simp only[V,ADF,add_plain,ACk];refine⟨hid,c-l,rfl,by omega,fun k e=>(by cases e),fun _ e=>?_⟩
  have:l=0:=by
   rcases Nat.mul_eq_zero.1 e with e|e
   ·exact e
   ·omega
  omega
omit O in
theorem Fq{m:Env}{t:Ty}{a:AV}{e:SX}{v:Value}(h:Fb t a=some e)(hv:V m a v):Rep m t (den m.R e) v:=by
 unfold Fb at h;split at h
 ·split at h
  ·rename_i hk;cases h;rw[PV hk];simpa only[V]using hv
  ·cases h
 ·simp only[V]at hv;subst hv;split at h
  ·split at h
   ·rename_i hk;cases h;simp only[ACH]at hk;cases Ep hk.1;simp only[Rep];exact⟨_,rfl,rfl,(Q6 hk.2).1,(Q6 hk.2).2⟩
   ·cases h
  ·cases h;simp only[Rep];exact⟨_,rfl,rfl⟩
  ·split at h
   ·rename_i hs;cases h;simp only[Rep];exact⟨_,rfl,rfl,ADe hs⟩
   ·cases h
  ·cases h;simp only[Rep];exact⟨[],none,0,rfl,rfl,ACv _,by simp,fun _=>rfl,.inl rfl⟩
  ·cases h
 ·cases h
def CE:DV→Value
 |.int k z=>.int k z
 |.bool b=>.bool b
 |.str s=>.string s
 |.list _=>.nilFunc
omit O in
theorem fT{α β:Type}(f:α→β):∀l:List α,(l.map fun x=>[f x]).flatten=l.map f
 | []=>rfl
 |x::l=>by simp[fT f l]
omit O in
theorem sS{t:Ty}(ht:Em t=true){d:DV}{v:Value}(h:Rep m t d v):v=CE d:=by
 cases t with
 |int k=>simp only[Rep]at h;obtain⟨z,rfl,rfl,_⟩:=h;rfl
 |bool=>simp only[Rep]at h;obtain⟨b,rfl,rfl⟩:=h;rfl
 |str=>simp only[Rep]at h;obtain⟨s,rfl,rfl,_⟩:=h;rfl
 |slice cs=>cases ht
omit O in
theorem bj{t:Ty}(ht:Em t=true){d:DV}{v:Value}(h:Rep m t d v):BW (.sc v)=true:=by
 cases t with
 |int k=>simp only[Rep]at h;obtain⟨z,rfl,rfl,_⟩:=h;rfl
 |bool=>simp only[Rep]at h;obtain⟨b,rfl,rfl⟩:=h;rfl
 |str=>simp only[Rep]at h;obtain⟨s,rfl,rfl,_⟩:=h;rfl
 |slice cs=>cases ht
omit O in
theorem Yo{m':Env}{t:Ty}(ht:Em t=true){d:DV}{v:Value}(h:Rep m t d v):Rep m' t d v:=by
 cases t with
 |int k=>simpa only[Rep]using h
 |bool=>simpa only[Rep]using h
 |str=>simpa only[Rep]using h
 |slice cs=>cases ht
omit O in
theorem Q8{t:Ty}(ht:Em t=true){d:DV}{v:Value}(h:Rep m (.slice [t]) d v):∃ds:List DV,d=.list (ds.map fun x=>[x])∧ds.length≤maxLen∧(∀x∈ds,Rep m t x (CE x))∧
  V m (.fsl 1 false (ds.map fun x=>[.sc (CE x)])) v:=by
 simp only[Rep]at h;obtain⟨es,a,c,rfl,rfl,h3,h4,h5,h6⟩:=h;rcases h6 with h6|⟨b,o,rfl,h7⟩
 ·have:es=[]:=ADl (by omega)
  subst this;refine⟨[],rfl,by simp,by simp,?_⟩
  simp only[V,ACS,ADU];exact⟨a,c,rfl,ADO _,(fun e=>by cases e),h5,.inl h6⟩
 ·have hrow:∀i row,es[i]? =some row→∃x,row=[x]∧m.ecell b (o+i)=some (CE x)∧Rep m t x (CE x):=by
   intro i row hi;have:=h7 i row hi
   simp only[RepL,ADJ,AD6]at this;obtain⟨x,rest,u,rfl,k1,k2,rfl⟩:=this;have hu:=sS ht k2
   subst hu;exact⟨x,rfl,k1,k2⟩
  have hes:∃ds:List DV,es=ds.map fun x=>[x]:=by
   refine⟨es.map fun r=>r.headD (.bool false),?_⟩
   rw[ADQ];refine (ADh fun i=>?_)
   rw[ACw];cases hi:es[i]? with
   |none=>rfl
   |some row=>
    obtain⟨x,rfl,_⟩:=hrow i row hi;rfl
  obtain⟨ds,rfl⟩:=hes;rw[ACX]at h3 h4;refine⟨ds,rfl,h4,fun x hx=>?_,?_⟩
  ·obtain⟨i,hi⟩:=ACf.1 hx;obtain⟨y,e,_,k⟩:=hrow i [x] (by rw[ACw,hi];rfl)
   cases e;exact k
  ·simp only[V,ACX];refine⟨_,c,rfl,h3,(fun e=>by cases e),h5,.inr ⟨b,o,rfl,fP fun i e hi=>?_⟩⟩
   rw[ACw]at hi;cases hd:ds[i]? with
   |none=>rw[hd]at hi;cases hi
   |some x=>
    rw[hd]at hi;cases hi;obtain⟨y,e,k1,_⟩:=hrow i [x] (by rw[ACw,hd];rfl)
    cases e;simp only[VC,V,ADJ,and_true,true_and,AD6];exact⟨_,k1,rfl⟩
omit O in
theorem sU{t:Ty}{ds:List DV}{ex:Bool}{v:Value}(hl:ds.length≤maxLen)(hd:∀x∈ds,Rep m t x (CE x))(h:V m (.fsl 1 ex (ds.map fun x=>[.sc (CE x)])) v):Rep m (.slice [t]) (.list (ds.map fun x=>[x])) v:=by
 simp only[V,ACX]at h;obtain⟨a,c,rfl,h1,h2,h3,h4⟩:=h;simp only[Rep];refine⟨_,a,c,rfl,by rw[ACX],by rw[ACX];exact h1,by rw[ACX];exact hl,h3,?_⟩
 rcases h4 with h4|⟨b,o,rfl,hv⟩
 ·exact .inl h4
 ·refine .inr ⟨b,o,rfl,?_⟩
  have key:∀(l:List DV) (o:Nat),VR m b 1 o (l.map fun x=>[.sc (CE x)])→∀i x,l[i]? =some x→m.ecell b (o+i)=some (CE x):=by
   intro l
   induction l with
   |nil=>intro o _ i x hi;simp at hi
   |cons y l ih=>
    intro o hv i x hi;simp only[ACO,VR,VC,V]at hv;obtain⟨_,⟨⟨u,h1,rfl⟩,_⟩,h2⟩:=hv;cases i with
    |zero=>simp only[ACl,ACJ]at hi;subst hi;simpa using h1
    |succ i=>
     have:=ih (o+1) h2 i x (by simpa using hi)
     rw[show o+(i+1)=o+1+i by omega]
     exact this
  intro i row hi;rw[ACw]at hi;cases hx:ds[i]? with
  |none=>rw[hx]at hi;cases hi
  |some x=>
   rw[hx]at hi;cases hi;simp only[RepL,ADJ,AD6];exact⟨x,[],_,rfl,key ds o hv i x hx,hd x (ACf.2 ⟨i,hx⟩),rfl⟩
omit O in
theorem WL(s:ByteArray):Eo (.str s)=.list ((s.data.toList.map fun b=>DV.int .u8 b.toNat).map fun x=>[x]):=by
 simp[Eo]
omit O in
theorem u8_in(b:UInt8):IntKind.min .u8≤(b.toNat:Int)∧(b.toNat:Int)≤IntKind.max .u8:=by
 have:=b.toNat_lt
 constructor
 ·simp[IntKind.min,IntKind.signed]
 ·simp[IntKind.max,IntKind.signed,IntKind.bits];omega
omit O in
theorem Ms{e:SX}{cs:List Ty}{j:Nat}(hj:j<cs.length):∀(n s i:Nat),i<n→(rowsOf e cs s n).flatten[i*cs.length+j]? =(Ac e (.ki .i64 (.ofNat (s+i))) 0 cs)[j]? :=by
 intro n
 induction n with
 |zero=>intro s i hi;omega
 |succ n ih=>
  intro s i hi;rw[rowsOf,ADE];cases i with
  |zero=>
   rw[AD3,ACk,ACc (by rw[Bw];exact hj)]
   rfl
  |succ i=>
   rw[ACV (by rw[Bw,AEJ];omega),Bw]
   rw[show (i+1)*cs.length+j-cs.length=i*cs.length+j by rw[AEJ];omega,ih (s+1) i (by omega)]
   rw[show s+1+i=s+(i+1) by omega]
omit O in
theorem HR.sub{m:Env}{h1 h2:AHeap}{w:World}(hr:HR m h1 w)(hn:h2.next=h1.next)(hl:h2.lim=h1.lim)(hs:∀id o,h2.t.get id=some o→h1.t.get id=some o):HR m h2 w:=
 ⟨fun id hd=>by rw[hn,hl];exact hr.next id hd,by rw[hn,hl];exact hr.lim,fun id hd=>by rw[hn,hl];exact hr.res id hd,hr.EF,hr.E,hr.F,fun id o ho=>hr.objL id o (hs id o ho),fun i j x y hx hy=>hr.injL i j x y (hs i x hx) (hs j y hy),hr.io⟩
omit O in
theorem FD{e i:SX}:∀{cs:List Ty} {k j:Nat} {t:Ty},cs[j]? =some t→(Ac e i k cs)[j]? =some (.sy t (.at e i (k+j)))
 |c::cs,k,0,t,h=>by
  simp only[ACl,ACJ]at h;subst h;simp[Ac]
 |c::cs,k,j+1,t,h=>by
  rw[Ac,AC0,FD (k:=Nat.succ k) (by simpa using h)]
  congr 3
  show k+1+j=_
  omega
omit O in
theorem EU(e:SX)(cs:List Ty):∀n i,(rowsOf e cs i n).flatten.length=n*cs.length:=by
 intro n
 induction n with
 |zero=>intro i;simp[rowsOf]
 |succ n ih=>intro i;rw[rowsOf,ADE,ACT,Bw,ih];rw[AEJ];omega
omit O in
theorem CR{t:TypeId}{ts:List Ty}{E:SX}{N k:Nat}(hts:1≤ts.length)(hk:k<N*ts.length):(BH t ts E N).cell k=.sy (ts.getD (k%ts.length) .bool) (.at E (.ki .i64 (.ofNat (k / ts.length))) (k%ts.length)):=by
 have hi:k / ts.length<N:=(AEL hts).2 hk
 have hj:k%ts.length<ts.length:=AD4 _ hts
 have hkk:k / ts.length*ts.length+k%ts.length=k:=by rw[ADT];exact AEM k _
 have e2:ts[k%ts.length]? =some ts[k%ts.length]:=ACL hj
 unfold Blk.cell BH;simp only[CD];rw[if_pos ⟨ADO _,by rw[EU];omega⟩,ADo]
 have:=Ms (e:=E) hj N 0 (k / ts.length) hi
 rw[hkk,ACk,FD e2,ACk]at this;rw[this];simp only[ACI,e2,ACo]
omit O in
theorem bm{m:Env}{b:Nat}:∀{ts:List Ty} {ds:List DV} {o:Nat},ds.length=ts.length→(∀(j:Nat) (t:Ty) (d:DV),ts[j]? =some t→ds[j]? =some d→∃u,m.ecell b (o+j)=some u∧Rep m t d u)→RepL m ts ds b o
 | [],ds,o,hl,_=>by
  simp only[RepL];exact ACi.1 hl
 |t::ts,[],o,hl,_=>by simp at hl
 |t::ts,d::ds,o,hl,h=>by
  simp only[RepL];obtain⟨u,h1,h2⟩:=h 0 t d rfl rfl;refine⟨d,ds,u,rfl,h1,h2,bm (by simpa using hl) fun j t' d' h3 h4=>?_⟩
  rw[show o+1+j=o+(j+1) by omega]
  exact h (j+1) t' d' (by simpa using h3) (by simpa using h4)
omit O in
theorem Sp{m:Env}{h:AHeap}{w:World}{id:Nat}{t:TypeId}{ts:List Ty}{e:SX}{v:Value}(hr:HR m h w)(hv:V m (.own id ts e) v)(hg:h.t.get id=some (.grow t ts e)):
  ∃m2,m.le m2∧V m2 (.sy (.slice ts) e) v∧HR m2 {next:=h.next,lim:=h.lim,t:=h.t.cut id} w:=by
 simp only[V]at hv;obtain⟨hd,l,a,d1,rfl,d2,d3,d4,d5⟩:=hv;have sub:∀i o,(h.t.cut id).get i=some o→h.t.get i=some o∧i≠id:=by
  intro i o hi;rw[Tr.get_cut]at hi;split at hi
  ·cases hi
  ·rename_i hne;exact⟨hi,fun e=>hne e.symm⟩
 obtain⟨_,hEF,hG⟩:=hr.objL id _ hg
 by_cases hp:(m.mu id).2=0
 ·refine⟨m,.refl m,?_,hr.sub rfl rfl fun i o ho=>(sub i o ho).1⟩
  simp only[V,Rep];exact⟨l,a,_,d1,rfl,d2,by omega,d4,.inl hp⟩
 obtain⟨hE,hF⟩:=hEF hp;rcases GR.own (show GR m (m.mu id) t ts e w from hG) (by assumption) with h0|⟨l',e1,e2,e3,e4,hB⟩
 ·exact absurd h0 hp
 rw[d1]at e1;cases e1;obtain⟨cells,g1,g2,g3,_⟩:=hB;have hne:∀k o,m.E k=some o→k≠(m.mu id).1:=fun k o ho e=>by rw[e,hE]at ho;cases ho
 have hw:m.wle {m with E:=fun k=>if k=(m.mu id).1 then some (.cells cells t (0,0)) else m.E k}:=⟨fun _ h=>h,fun _ _=>rfl,fun k o ho=>by
  simp only[if_neg (hne k o ho)];exact ho,rfl,rfl⟩
 refine⟨_,⟨hw,fun _ _ h=>h,fun _ h=>h⟩,?_,⟨hr.next,hr.lim,hr.res,fun k x hk=>?_,fun k o hk=>?_,hr.F,fun i o ho=>?_,fun i j x y hi hj=>hr.injL i j x y (sub i x hi).1 (sub j y hj).1,hr.io⟩⟩
 ·simp only[V,Rep];refine⟨l,a,_,d1,rfl,d2,by omega,d4,.inr ⟨_,0,d5 hp,fun i row hi=>?_⟩⟩
  have hlt:i<l.length:=(ACW.1 hi).1
  have hrow:=e2 row (ACf.2 ⟨i,hi⟩)
  refine bm hrow fun j t' d h3 h4=>?_
  have hj:j<ts.length:=(ACW.1 h3).1
  have hk:i*ts.length+j<l.length*ts.length:=by
   have:i*ts.length+ts.length≤l.length*ts.length:=by rw[←AEJ];exact ACx _ hlt
   omega
  obtain⟨u,u1,u2⟩:=g3 (i*ts.length+j) hk;refine⟨u,?_,?_⟩
  ·simp only[Env.ecell,if_pos,ACk];exact u1
  ·rw[CR e4 hk]at u2;have q1:(i*ts.length+j) / ts.length=i:=by
    rw[ADT,AEY (by omega),AER hj];rfl
   have q2:(i*ts.length+j)%ts.length=j:=by
    rw[ADT,AEK,ADz hj]
   rw[q1,q2]at u2;simp only[V,den,d1,atD,ACZ,AC5,ACI,hi,ACo,h3,h4]at u2;exact Rep.wmono hw _ _ _ u2
 ·have h1:=hr.EF k x hk
  have:k≠(m.mu id).1:=fun e=>by rw[e,hF]at hk;cases hk
  simp only[if_neg this];exact h1
 ·by_cases e:k=(m.mu id).1
  ·simp only[if_pos e,ACJ]at hk;subst hk;rw[e];exact g1
  ·simp only[if_neg e]at hk;exact hr.E k o hk
 ·obtain⟨l1,l2⟩:=sub i o ho;obtain⟨n1,n2,n3⟩:=hr.objL i o l1;refine⟨n1,fun lo=>⟨?_,(n2 lo).2⟩,n3.wmove hw fun _=>rfl⟩
  have:(m.mu i).1≠(m.mu id).1:=fun e=>l2 (hr.injL i id o _ l1 hg lo hp e)
  simp only[if_neg this];exact (n2 lo).1
omit O in
theorem Mt{α β:Type}{f:β→α}:∀{l:List α},(∀x∈l,∃b,x=f b)→∃bs:List β,l=bs.map f
 | [],_=>⟨[],rfl⟩
 |x::l,h=>by
  obtain⟨b,rfl⟩:=h x (by simp)
  obtain⟨bs,rfl⟩:=Mt (l:=l) fun y hy=>h y (ACu _ hy)
  exact⟨b::bs,rfl⟩
omit O in
theorem OS:∀bs:List UInt8,EK (bs.map fun b=>.sc (.int .u8 b.toNat))=some bs
 | []=>rfl
 |b::bs=>by
  show (EK (bs.map fun b=>.sc (.int .u8 b.toNat))).map (UInt8.ofNat (Int.toNat (b.toNat:Int)):: ·)=_
  rw[OS bs];simp
theorem fU{src dt el:TypeId}{x:Operand}{id:Nat}{t:TypeId}{e:SX}{ρ:Operand→Value}(hr:HR m h w)(hx:V m (.own id [.int .u8] e) (ρ x))(hg:h.t.get id=some (.grow t [.int .u8] e))
  (hs:P.underlying src=some (.slice el)) (hd:P.underlying dt=some .string) (hel:P.underlying el=some (.int .u8)):Good m ((do pure (Next.value (←convert src dt (ρ x))):Sem Next).run P w) (.sy .str (.text e)) h:=by
 simp only[V]at hx;obtain⟨hdm,l,a,d1,hv,d2,d3,d4,d5⟩:=hx;obtain⟨_,hEF,hG⟩:=hr.objL id _ hg;have text:∀(bs:List UInt8),l=bs.map (fun b=>[DV.int .u8 b.toNat])→PU (den m.R e)=.str ⟨bs.toArray⟩:=by
  rintro bs rfl;rw[d1];simp only[PU,ADQ];have:∀b:UInt8,(byteOf∘fun b:UInt8=>[DV.int .u8 b.toNat]) b=_root_.id b:=by
   intro b;simp only[Function.comp,byteOf];simp
  rw[ADN (fun b _=>this b)]
  simp
 by_cases hp:(m.mu id).2=0
 ·have hl0:l=[]:=ACi.1 (by omega)
  subst hl0;have hc:=JE (P:=P) (m:=m) (h:=h) (w:=w) src dt x none 0 "" #[] none (seen ρ x (.emp 0)) ρ (Hu (by
   rw[hv];simp only[V];exact⟨a,_,rfl,fun _=>hp,d4⟩)) hr
  have hsx:seen ρ x (.emp 0) x=.emp 0:=by simp[seen]
  have hop2:opA P (seen ρ x (.emp 0)) h {dst:=none,op:=.convert src dt x,type:=0,pos:= "",after:=#[],guard:=none}=some (.sc (.string ⟨([]:List UInt8).toArray⟩),h):=by
   simp only[opA,Fa,hs,hd,hel,hsx];rfl
  refine (hc _ _ hop2).imp fun m' v hm hv=>?_
  simp only[V]at hv⊢;subst hv;rw[hm.R];simp only[Rep,den,text [] rfl];exact⟨_,rfl,rfl,ADO _⟩
 ·obtain⟨hE,hF⟩:=hEF hp;rcases GR.own (show GR m (m.mu id) t [.int .u8] e w from hG) (by assumption) with h0|⟨l',e1,e2,e3,e4,hB⟩
  ·exact absurd h0 hp
  rw[d1]at e1;cases e1;obtain⟨c,b1,b2,b3,b4⟩:=hB;have cells:∀k,k<l.length→∃b:UInt8,l[k]? =some [DV.int .u8 b.toNat]∧c[k]? =some (.int .u8 b.toNat):=by
   intro k hk;have hk1:k<l.length* [Ty.int .u8].length:=by simpa using hk
   obtain⟨u,u1,u2⟩:=b3 k hk1;rw[CR e4 hk1]at u2;simp only[ADJ,AET,AEm,AC4,V,Rep,den,d1,atD,ACZ,AC5]at u2;obtain⟨z,z1,rfl,z2,z3⟩:=u2;have hrow:=e2 l[k] (AC7 hk)
   have hk2:l[k]? =some l[k]:=ACL hk
   obtain⟨d,hd1⟩:=ADi.1 (by simpa using hrow:l[k].length=1)
   simp only[ACI,hk2,ACo,hd1,ACl]at z1;subst z1;have h3:0≤z∧z<256:=by simp[IntKind.min,IntKind.max,IntKind.signed,IntKind.bits]at z2 z3;omega
   have h4:(UInt8.ofNat z.toNat).toNat=z.toNat%256:=UInt8.toNat_ofNat'
   refine⟨UInt8.ofNat z.toNat,by rw[hk2,hd1];congr 3;omega,by rw[u1];congr 2;omega⟩
  obtain⟨bs,hbs⟩:∃bs:List UInt8,l=bs.map (fun b=>[DV.int .u8 b.toNat]):=Mt fun row hrow=>by
   obtain⟨k,hk⟩:=ACf.1 hrow;obtain⟨b,h1,_⟩:=cells k (ACW.1 hk).1;rw[hk]at h1;exact⟨b,by simpa using h1⟩
  have hlen:l.length=bs.length:=by rw[hbs];simp
  have ha:=d5 hp
  subst ha;have hr1:HR m (h.put id (.blk {t,row:=false,sz:=1,n:=l.length,z:=[],c:=Blk.putAll .nil 0 (bs.map fun b=>.sc (.int .u8 b.toNat))})) w:=by
   refine hr.put (o':=.blk _) hg ⟨c,b1,(by have e0:(BH t [Ty.int .u8] e l.length).n=l.length*1:=rfl;show l.length≤c.size;omega),fun k hk=>?_,fun hrow=>by cases hrow⟩ (fun _ _=>rfl) rfl hp
   obtain⟨b,q1,q2⟩:=cells k hk;refine⟨_,q2,?_⟩
   unfold Blk.cell;have hk':k<bs.length:=by rw[←hlen];exact hk
   rw[CD,if_pos ⟨ADO _,by simpa using hk'⟩,ADo,ACw,ACL hk']
   simp only[ADF,V];rw[hbs,ACw,ACL hk']at q1;simpa using q1.symm
  have hs0:V m (.sl id 0 l.length none) (ρ x):=by
   rw[hv];simp only[V];exact⟨hdm,_,rfl,d2,(fun k e=>by cases e),fun _ _=>rfl⟩
  have hbk:∀b:Blk,(h.put id (.blk b)).blk? id=some b:=fun b=>by
   unfold AHeap.blk? AHeap.put;simp[Tr.get_put]
  have hrc:BZ (h.put id (.blk {t,row:=false,sz:=1,n:=l.length,z:=[],c:=Blk.putAll .nil 0 (bs.map fun b=>.sc (.int .u8 b.toNat))})) 1 l.length (.sl id 0 l.length none)=some (bs.map fun b=>.sc (.int .u8 b.toNat)):=by
   have hce:({t,row:=false,sz:=1,n:=l.length,z:=[],c:=Blk.putAll .nil 0 (bs.map fun b=>.sc (.int .u8 b.toNat))}:Blk).cellsFrom 0 l.length=bs.map fun b=>.sc (.int .u8 b.toNat):=by
    refine ADh fun k=>?_
    by_cases hk:k<l.length
    ·rw[BC _ _ 0 k hk,ACk];unfold Blk.cell;rw[CD,if_pos ⟨ADO _,by simp;omega⟩,ADo,ACL (by simp;omega)]
    ·rw[AC8 (by rw[Ao];omega),AC8 (by simp;omega)]
   have hb1:(Nat.ble l.length l.length&&Nat.ble (0+l.length*1) l.length)=true:=by rw[ACH,ACn,ACn];omega
   simp only[BZ,hbk,hb1];rw[AD6,hce]
  obtain⟨vs,k1,k2,_,_⟩:=B2 (P:=P) hr1 hs0 hrc;have hbl:=OS bs
  obtain⟨ns,rfl,hns⟩:=Hr hbl k1;refine Good.run (s:=convert src dt (ρ x)) (v:=.string ⟨(ns.map fun n=>UInt8.ofNat n.toNat).toArray⟩) hr ?_ ?_
  ·simp only[V,Rep,den,text bs hbs];refine⟨_,rfl,by rw[hns],?_⟩
   show bs.toArray.size≤maxLen
   simp only[ADm];omega
  ·rw[hv];have hld:(loadCells ⟨(m.mu id).1,0,none⟩ l.length).run P w=.ok (ns.map (Value.int .u8)).toArray w:=by
    rw[hv]at k2;simpa[Builtin.firstCells]using k2
   have:=run_bytesToString w ⟨(m.mu id).1,0,none⟩ l.length (m.mu id).2 ns hld
   rw[QO]at this;simp only[convert,Sem.run_bind,run_underlying hs,run_underlying hd,Result.andThen_ok,run_underlying hel];exact this
theorem ju{m:Env}{b:Nat}:∀{xs ys:List AV} {o:Nat},VC m b o (xs++ys)→VC m b o xs
 | [],_,_,_=>by simp[VC]
 |x::xs,ys,o,h=>by
  simp only[ADY,VC]at h⊢;exact⟨h.1,ju h.2⟩
theorem J7(e:SX)(cs:List Ty):∀(n k i:Nat),rowsOf e cs i (n+k)=rowsOf e cs i n++rowsOf e cs (i+n) k
 |0,k,i=>by simp[rowsOf]
 |n+1,k,i=>by
  rw[show n+1+k=(n+k)+1 by omega,rowsOf,rowsOf,J7 e cs n k (i+1),ADY,show i+1+n=i+(n+1) by omega]
theorem jv(hF:FactsOK m.R){t:TypeId}{x:Operand}{dst type pos after guard}{ev:Operand→AV}{ρ:Operand→Value}(hev:∀x,V m (ev x) (ρ x))(hr:HR m h w){av:AV}{h':AHeap}
  (hop:DF P ev h ⟨dst,.sliceToArrayPointer t x,type,pos,after,guard⟩=some (av,h')):Good m ((execOp ρ ⟨dst,.sliceToArrayPointer t x,type,pos,after,guard⟩).run P w) av h':=by
 simp only[DF]at hop;split at hop<;>(try (cases hop;done))
 rename_i n el cs e hu hx;split at hop<;>(try (cases hop;done))
 rename_i size hs;split at hop<;>(try (cases hop;done))
 rename_i hle;simp only[ACH,ACY,ACn]at hle;obtain⟨⟨hsz,h1⟩,h2⟩:=hle;subst hsz;cases hop;have hxv:=hev x
 rw[hx]at hxv;simp only[V]at hxv;obtain⟨es,e1,e2,e3,e4⟩:=Ic hxv;have hn:=Be hF h2 (k:=.i64) (l:=.i64) (a:=(n:Int)) (b:=(es.length:Int)) (by simp[den]) (by simp only[den,e1,Bm])
 have hn':n≤es.length:=by omega
 refine (GW t x dst type pos after guard (seen ρ x (.fsl cs.length false (rowsOf e cs 0 es.length))) ρ (Hu e3) hr (.fp (rowsOf e cs 0 es.length).flatten) h ?_).imp ?_
 ·have hsx:seen ρ x (.fsl cs.length false (rowsOf e cs 0 es.length)) x=.fsl cs.length false (rowsOf e cs 0 es.length):=by simp[seen]
  have hc:(Nat.ble n (rowsOf e cs 0 es.length).length&&Nat.beq cs.length cs.length&&Nat.ble 1 n)=true:=by
   rw[Ak];simp only[ACH,ACn,ACY];exact⟨⟨hn',trivial⟩,h1⟩
  simp only[opA,De,hu,hs,hsx,hc]
 ·intro m' v hm hv;obtain⟨k,hk⟩:∃k,es.length=n+k:=⟨es.length-n,by omega⟩
  rw[hk,J7,List.flatten_append]at hv;simp only[V]at hv⊢;obtain⟨b,o,rfl,hc⟩:=hv;exact⟨b,o,rfl,ju hc⟩
theorem jw{h:AHeap}{ts:Array TypeId}{ty:TypeId}{id off len n:Nat}{cap:Option Nat}{cs:List Ty}{e:SX}(hn:len≤n):
  El P h ts ty [.sl id off len cap,.fsl cs.length false (rowsOf e cs 0 n)]=El P h ts 0 [.sl id off len cap,.fsl cs.length false (rowsOf e cs 0 len)]:=by
 obtain⟨k,rfl⟩:∃k,n=len+k:=⟨n-len,by omega⟩
 have e1:Nat.min (len+k) len=len:=Nat.min_eq_right (by omega)
 have e2:Nat.min len len=len:=AEp _
 have e3:(rowsOf e cs 0 (len+k)).take len=rowsOf e cs 0 len:=by
  rw[J7,List.take_left' (Ak e cs len 0)]
 have e4:(rowsOf e cs 0 len).take len=rowsOf e cs 0 len:=ACg (by rw[Ak];omega)
 have e5:Nat.ble len (len+k)=true:=by rw[ACn];omega
 have e6:Nat.ble len len=true:=by rw[ACn];omega
 cases hts:ts[0]? with
 |none=>simp only[El,hts]
 |some t=>
  simp only[El,hts];cases hu:P.underlying t with
  |none=>rfl
  |some d=>
   cases d with
   |slice el=>
    simp only;cases hz:Bh P el with
    |none=>rfl
    |some size=>simp only[lenOf,Ak,BZ,e1,e2,e3,e4,e5,e6]
   |_=>rfl
omit O in
theorem sV{l:List Value}(h:mP l=true):l=[.int .u8 0]:=by
 unfold mP at h;split at h
 ·rfl
 ·cases h
theorem Wo(hF:FactsOK m.R){t:TypeId}{l c:AV}{lv cv:Value}(hl:V m l lv)(hc:V m c cv)(hr:HR m h w){av:AV}{h':AHeap}(hop:UI P h t l c=some (av,h')):
  Good m ((do pure (Next.value (←Instr.makeSlice t lv cv)):Sem Next).run P w) av h':=by
 unfold UI at hop;split at hop<;>(try (cases hop;done))
 rename_i el d c' ht hc';split at hop<;>(try (cases hop;done))
 rename_i i hi;split at hop<;>(try (cases hop;done))
 rename_i z hz;split at hop<;>(try (cases hop;done))
 rename_i hk;simp only[ACH,ACY]at hk;obtain⟨⟨⟨⟨hk1,hk2⟩,hk3⟩,hk4⟩,hk5⟩:=hk;simp only[ACJ,ACP]at hop;obtain⟨rfl,rfl⟩:=hop;have hz8:z.cells=#[.int .u8 0]:=ADX (by simpa using sV hk1)
 simp only[V,Rep]at hl;obtain⟨n,n1,rfl,n2,n3⟩:=hl;obtain⟨k,q,q1,rfl⟩:=HT hc' hc;have a1:=Be hF hk4 n1 q1
 have a2:=Be hF hk5 q1 (show den m.R (.ki .i64 (.ofNat 1000000))=.int .i64 1000000 from rfl)
 have hn0:0≤n:=by
  simp only[den]at n1;cases hx:den m.R d with
  |str s=>rw[hx]at n1;simp only[Bm,DV.int.injEq,true_and]at n1;omega
  |list s=>rw[hx]at n1;simp only[Bm,DV.int.injEq,true_and]at n1;omega
  |int k z=>rw[hx]at n1;simp[Bm]at n1
  |bool b=>rw[hx]at n1;simp[Bm]at n1
 obtain⟨len,rfl⟩:=ADM hn0;obtain⟨cap,rfl⟩:=ADM (Int.le_trans hn0 a1);have b1:len≤cap:=by omega
 have b2:cap≤1000000:=by omega
 have hd:den m.R (.bytes (.len d))=.list (List.replicate len [.int .u8 0]):=by
  show Eo (den m.R (.len d))=_
  rw[n1];simp[Eo]
 have hsz:((Array.range (cap*i.size)).map (z.cells[·%z.cells.size]!)).size=cap:=by simp[hk2]
 have hcell:∀j,j<cap→((Array.range (cap*i.size)).map (z.cells[·%z.cells.size]!))[j]? =some (.int .u8 0):=by
  intro j hj;simp[hk2,hj,hz8,AET]
 refine Good.new (s:=Instr.makeSlice t (.int .i64 (len:Int)) (.int k (cap:Int))) (m':=m.add h.next (w.heap.size,cap)) (w':=w.alloc (.cells ((Array.range (cap*i.size)).map (z.cells[·%z.cells.size]!)) el)) (v:=.slice (some ⟨w.heap.size,0,none⟩) len cap) (hr.le_add _) ?_ ?_
  (Hf ht hi hz (wrap_small .i64 len (fA (by omega))) (wrap_small .i64 cap (fA (by omega))) (by omega) (by omega) (by omega) (by rw[hk3];simp;omega))
 ·refine hr.alloc _ _ _ (.inr (.inl ⟨List.replicate len [.int .u8 0],hd,?_,by simpa using b1,by simp,_,heap_alloc_new w _,?_,?_,?_⟩))
  ·intro row hrow;rw[List.eq_of_mem_replicate hrow];rfl
  ·rw[hsz];show (List.replicate len ([.int .u8 0]:List DV)).length*1≤cap
   simpa using b1
  ·intro j hj;have hj':j<(List.replicate len ([.int .u8 0]:List DV)).length*([.int .u8]:List Ty).length:=hj
   have hj2:j<len:=by simpa using hj'
   refine⟨_,hcell j (by omega),?_⟩
   rw[CR (by simp) hj']
   simp only[V];have e1:den (m.add h.next (w.heap.size,cap)).R (.at (.bytes (.len d)) (.ki .i64 (.ofNat (j / ([.int .u8]:List Ty).length))) (j%([.int .u8]:List Ty).length))=.int .u8 0:=by
    show atD (den m.R (.bytes (.len d))) (.int .i64 (.ofNat (j / 1))) (j%1)=_
    rw[hd,AEm,AET];simp[atD,hj2]
   rw[e1];simp only[ADJ,AET,AC4,Rep];exact⟨0,rfl,rfl,by decide,by decide⟩
  ·intro _;rw[hsz];exact⟨by show cap*1≤cap;omega,by unfold maxLen;show cap≤_;omega,by show (List.replicate len [DV.int IntKind.u8 0]).length*1≤cap*1;simpa using b1⟩
 ·simp only[V];exact⟨Env.add_dom _ _ _,List.replicate len [.int .u8 0],some ⟨w.heap.size,0,none⟩,hd,by simp,by simpa using b1,by simp[maxLen];omega,(fun e=>by cases e),fun _=>by simp⟩
theorem nW{m:Env}{t:Ty}{d:DV}{v:Value}(hs:Em t=true)(h:Rep m t d v):Ir t d=some v∧C8 d:=by
 cases t with
 |int k=>
  simp only[Rep]at h;obtain⟨z,rfl,rfl,h1,h2⟩:=h;exact⟨by simp[Ir,h1,h2],trivial⟩
 |bool=>
  simp only[Rep]at h;obtain⟨b,rfl,rfl⟩:=h;exact⟨rfl,trivial⟩
 |str=>
  simp only[Rep]at h;obtain⟨b,rfl,rfl,h1⟩:=h;exact⟨by simp[Ir,h1],trivial⟩
 |slice cs=>cases hs
theorem Yp{m:Env}{t:Ty}{d:DV}{v:Value}(h:Ir t d=some v):Rep m t d v:=by
 unfold Ir at h;split at h
 ·split at h
  ·rename_i hc;cases h;obtain⟨rfl,h1,h2⟩:=hc;simp only[Rep];exact⟨_,rfl,rfl,h1,h2⟩
  ·cases h
 ·cases h;simp[Rep]
 ·split at h
  ·rename_i hc;cases h;simp only[Rep];exact⟨_,rfl,rfl,hc⟩
  ·cases h
 ·cases h
def unV:Value→DV
 |.int k z=>.int k z
 |.bool b=>.bool b
 |.string s=>.str s
 |_=>.bool false
theorem bo{t:Ty}{d:DV}{v:Value}(h:Ir t d=some v):d=unV v:=by
 cases t<;>cases d<;>simp only[Ir,reduceCtorEq]at h
 ·rename_i k l z
  by_cases hc:k=l∧k.min≤z∧z≤k.max
  ·rw[if_pos hc]at h;cases h;rw[hc.1];rfl
  ·rw[if_neg hc]at h;cases h
 ·cases h;rfl
 ·rename_i s
  by_cases hc:s.size≤maxLen
  ·rw[if_pos hc]at h;cases h;rfl
  ·rw[if_neg hc]at h;cases h
theorem nY{t:Ty}{a b:DV}{v:Value}(h:Ir t a=some v)(k:Ir t b=some v):a=b:=by rw[bo h,bo k]
omit O in
theorem bp{R:Rho}{e:SX}:∀{f:SX},eqU e f=true→∀{l:List (List DV)},den R e=.list l→∃l',den R f=.list l'∧l'.length=l.length:=by
 intro f
 induction f using SX.rec (motive_2:=fun _=>True) with
 |upd g i c x ihg ihi ihx=>
  intro h l hl;simp only[eqU,ADW]at h;rcases h with h|h
  ·rw[←Aw h];exact⟨l,hl,rfl⟩
  ·obtain⟨l',h1,h2⟩:=ihg h hl;simp only[den,h1];unfold fK;split
   ·rename_i es _ _ he _;cases he;exact⟨_,rfl,by simpa using h2⟩
   ·exact⟨l',rfl,h2⟩
 |fit g x ihg ihx=>
  intro h l hl;simp only[eqU,ADW]at h;rcases h with h|h
  ·rw[←Aw h];exact⟨l,hl,rfl⟩
  ·obtain⟨l',h1,h2⟩:=ihg h hl;simp only[den,h1];unfold fM;split
   ·rename_i es k he _;cases he;split
    ·rename_i hk;exact⟨_,rfl,hk.trans h2⟩
    ·exact⟨_,rfl,h2⟩
   ·exact⟨l',rfl,h2⟩
 |nil=>trivial
 |cons=>trivial
 |_=>
  intro h l hl;simp only[eqU]at h;rw[←Aw h];exact⟨l,hl,rfl⟩
omit O in
theorem JK{m:Env}{id:Nat}{ts:List Ty}{e f:SX}{v:Value}(h:eqU e f=true)(hv:V m (.own id ts e) v):V m (.own id ts f) v:=by
 simp only[V]at hv⊢;obtain⟨h1,l,a,d1,d2,d3,d4,d5,d6⟩:=hv;obtain⟨l',k1,k2⟩:=bp h d1;exact⟨h1,l',a,k1,by rw[k2];exact d2,by rw[k2];exact d3,d4,d5,d6⟩
omit O in
theorem u9{m:Env}{id:Nat}{ts:List Ty}{e f i:SX}{c:Nat}{v:Value}(h:eqU e f=true)(hv:V m (.oe id ts e i c) v):V m (.oe id ts f i c) v:=by
 simp only[V]at hv⊢;obtain⟨b,o,q0,q1,q2,q3,l,kk,z,d1,d2,z0,z1,z2,q4⟩:=hv;obtain⟨l',k1,k2⟩:=bp h d1;exact⟨b,o,q0,q1,q2,q3,l',kk,z,k1,d2,z0,by rw[k2];exact z1,by rw[k2];exact z2,q4⟩
def J8(r:List DV):Nat→List DV→List DV
 |_,[]=>r
 |c,x::xs=>(J8 r (c+1) xs).set c x
omit O in
theorem LK{r:List DV}:∀{xs:List DV} {c:Nat},(J8 r c xs).length=r.length
 | [],c=>rfl
 |x::xs,c=>by unfold J8;rw[AEn,LK]
omit O in
theorem Yq{r:List DV}:∀{xs:List DV} {c j:Nat},c+xs.length≤r.length→(J8 r c xs).getD j (.bool false)=if c≤j∧j<c+xs.length then xs.getD (j-c) (.bool false) else r.getD j (.bool false)
 | [],c,j,_=>by
  unfold J8;rw[if_neg (by simp)]
 |x::xs,c,j,h=>by
  unfold J8;simp only[ACe]at h⊢
  by_cases e:c=j
  ·subst e;rw[if_pos ⟨ACv _,by omega⟩,Nat.sub_self]
   rw[ACI,AEe (by rw[LK];omega)]
   rfl
  ·rw[ACI,List.getElem?_set_ne e,←ACI,Yq (by omega)]
   by_cases hj:c≤j∧j<c+(xs.length+1)
   ·rw[if_pos hj,if_pos ⟨by omega,by omega⟩]
    rw[show j-c=(j-(c+1))+1 by omega,ACr]
   ·rw[if_neg hj,if_neg (by omega)]
omit O in
theorem Yr{R:Rho}{e i:SX}{l:List (List DV)}{k:IntKind}{z:Int}(he:den R e=.list l)(hi:den R i=.int k z)(hz:z.toNat<l.length):∀(xs:List SX) (c:Nat),den R (Xp e i c xs)=.list (l.set z.toNat (J8 (l.getD z.toNat []) c (xs.map (den R))))
 | [],c=>by
  simp only[Xp,ACS,J8,he];congr 1
  rw[ACI,ACL hz];simp
 |x::xs,c=>by
  simp only[Xp,den,Yr he hi hz xs (Nat.succ c),hi,ACO,J8,fK,List.set_set];congr 2
  rw[ACI,AEe hz];rfl
omit O in
theorem WM{R:Rho}{e i:SX}{l:List (List DV)}{k:IntKind}{z:Int}(he:den R e=.list l)(hi:den R i=.int k z):∀{xs:List SX} {c:Nat},W0 e i c xs=true→∀j,j<xs.length→(xs.map (den R)).getD j (.bool false)=(l.getD z.toNat []).getD (c+j) (.bool false)
 |x::xs,c,h,j,hj=>by
  simp only[W0,ACH]at h;cases j with
  |zero=>
   rw[ACO,AC4,Aw h.1];simp only[den,he,hi,atD,ADf]
  |succ j=>
   rw[ACO,ACr,WM he hi h.2 j (by simpa using hj)]
   congr 1
   show c+1+j=_
   omega
omit O in
theorem jx{R:Rho}{f i:SX}{l:List (List DV)}{k:IntKind}{z:Int}{es:List SX}{c n:Nat}(he:den R f=.list l)(hi:den R i=.int k z)(hz:z.toNat<l.length)(hrow:∀row∈l,row.length=n)(hc:c+es.length≤n):
  ∃l',den R (mN f i c es)=.list l'∧l'.length=l.length∧(∀row∈l',row.length=n)∧
   ∀a b,(l'.getD a []).getD b (.bool false)=if a=z.toNat∧c≤b∧b<c+es.length then (es.map (den R)).getD (b-c) (.bool false) else (l.getD a []).getD b (.bool false):=by
 have hzr:(l.getD z.toNat []).length=n:=by
  rw[ACI,ACL hz];exact hrow _ (AC7 hz)
 unfold mN;split
 ·rename_i hs;refine⟨l,he,rfl,hrow,fun a b=>?_⟩
  by_cases hab:a=z.toNat∧c≤b∧b<c+es.length
  ·rw[if_pos hab,WM he hi hs (b-c) (by omega),hab.1]
   congr 1
   omega
  ·rw[if_neg hab]
 ·refine⟨_,Yr he hi hz es c,by rw[AEn],fun row hr=>?_,fun a b=>?_⟩
  ·rcases ADj hr with h|h
   ·exact hrow _ h
   ·rw[h,LK,hzr]
  ·by_cases ha:a=z.toNat
   ·subst ha;have e0:(l.set z.toNat (J8 (l.getD z.toNat []) c (es.map (den R)))).getD z.toNat []=J8 (l.getD z.toNat []) c (es.map (den R)):=by
     rw[ACI,AEe hz];rfl
    rw[e0,Yq (by rw[ACX,hzr];exact hc),ACX]
    simp only[true_and]
   ·rw[if_neg (fun h=>ha h.1)]
    have e0:∀r,(l.set z.toNat r).getD a []=l.getD a []:=by
     intro r;rw[ACI,List.getElem?_set_ne (Ne.symm ha),←ACI]
    rw[e0]
omit O in
theorem Q9{m:Env}:∀{ts:List Ty} {cs:List AV} {es:List SX} {vs:List Value},Fz ts cs=some es→VL m cs vs→es.length=cs.length∧ts.length=cs.length∧∀j v,vs[j]? =some v→Rep m (ts.getD j .bool) ((es.map (den m.R)).getD j (.bool false)) v
 | [],[],es,vs,h,hv=>by
  cases h;simp only[VL]at hv;subst hv;exact⟨rfl,rfl,fun j v h=>by simp at h⟩
 |t::ts,c::cs,es,vs,h,hv=>by
  simp only[Fz]at h;split at h<;>(try (cases h;done))
  rename_i e es' h1 h2;cases h;simp only[VL]at hv;obtain⟨v,us,rfl,hv,hl⟩:=hv;obtain⟨k1,k2,k3⟩:=Q9 h2 hl;refine⟨by simp[k1],by simp[k2],fun j x hx=>?_⟩
  cases j with
  |zero=>
   simp only[ACl,ACJ]at hx;subst hx;exact Fq h1 hv
  |succ j=>exact k3 j x (by simpa using hx)
 | [],_::_,_,_,h,_=>by simp[Fz]at h
 |_::_,[],_,_,h,_=>by simp[Fz]at h
theorem Mu{m:Env}:∀{ts:List Ty} {cs:List AV} {es:List SX} {vs:List Value},Fz ts cs=some es→scalTs ts=true→VL m cs vs→CF ts (den.denL m.R es)=some vs
 | [],[],es,vs,h,_,hv=>by
  cases h;simp only[VL]at hv;subst hv;rfl
 |t::ts,c::cs,es,vs,h,hs,hv=>by
  simp only[Fz]at h;simp only[scalTs,ACH]at hs;split at h<;>(try (cases h;done))
  rename_i e es' h1 h2;cases h;simp only[VL]at hv;obtain⟨v,us,rfl,hv,hl⟩:=hv;simp only[den.denL,CF,(nW hs.1 (Fq h1 hv)).1,Mu h2 hs.2 hl]
 | [],_::_,_,_,h,_,_=>by simp[Fz]at h
 |_::_,[],_,_,h,_,_=>by simp[Fz]at h
theorem Sq{m:Env}{b:Nat}{ts:List Ty}{a:AV}{ks:List SX}{v:Value}(h:W4 b ts a=some ks)(hs:scalTs ts=true)(hv:V m a v):KeyV b ts (den.denL m.R ks) v:=by
 unfold W4 at h;split at h
 ·rename_i hb;rw[ACY]at hb;exact⟨[v],Mu h hs (by simp only[VL];exact⟨v,[],rfl,hv,rfl⟩),.inl ⟨hb,rfl⟩⟩
 ·rename_i hb;split at h<;>(try (cases h;done))
  rename_i cs hc;obtain⟨vs,rfl,hl⟩:=JJ hc hv;exact⟨vs.toList,Mu h hs hl,.inr ⟨(fun e=>by subst e;cases hb),rfl⟩⟩
theorem WN:∀{ts:List Ty} {a b:List DV} {vs:List Value},CF ts a=some vs→CF ts b=some vs→a=b
 | [],[],[],_,_,_=>rfl
 |t::ts,x::xs,y::ys,vs,h,k=>by
  simp only[CF]at h k;split at h<;>(try (cases h;done))
  rename_i v us h1 h2;cases h;split at k<;>(try (cases k;done))
  rename_i v' us' k1 k2;simp only[ACJ,ADa]at k;obtain⟨rfl,rfl⟩:=k;rw[nY h1 k1,WN h2 k2]
 | [],_::_,_,_,h,_=>by simp[CF]at h
 | [],_,_::_,_,_,h=>by simp[CF]at h
 |_::_,[],_,_,h,_=>by simp[CF]at h
 |_::_,_,[],_,_,h=>by simp[CF]at h
theorem KeyV.inj{b:Nat}{ts:List Ty}{r s:List DV}{x:Value}(h:KeyV b ts r x)(k:KeyV b ts s x):r=s:=by
 obtain⟨vs,h1,h2⟩:=h;obtain⟨us,k1,k2⟩:=k;have:vs=us:=by
  rcases h2 with ⟨h2,h3⟩|⟨h2,h3⟩<;>rcases k2 with ⟨k2,k3⟩|⟨k2,k3⟩
  ·rw[h3,k3]
  ·exact absurd h2 k2
  ·exact absurd k2 h2
  ·rw[h3]at k3;simpa using k3
 subst this;exact WN h1 k1
theorem KeyV.ext{b:Nat}{ts:List Ty}{r:List DV}{x y:Value}(h:KeyV b ts r x)(k:KeyV b ts r y):x=y:=by
 obtain⟨vs,h1,h2⟩:=h;obtain⟨us,k1,k2⟩:=k;rw[h1]at k1;cases k1;rcases h2 with ⟨h2,h3⟩|⟨h2,h3⟩<;>rcases k2 with ⟨k2,k3⟩|⟨k2,k3⟩
 ·rw[h3]at k3;simpa using k3
 ·exact absurd h2 k2
 ·exact absurd k2 h2
 ·rw[h3,k3]
theorem Ss{m:Env}:∀{ts:List Ty} {row:List DV} {vs:List Value} {i:Nat},CF ts row=some vs→(∀j d,row[j]? =some d→m.R.ρ (i+j)=d)→VL m (dummies ts i) vs∧den.denL m.R (varsFrom ts i)=row∧row.length=ts.length
 | [],[],vs,i,h,_=>by
  cases h;simp[dummies,VL,varsFrom,den.denL]
 |t::ts,d::ds,vs,i,h,hρ=>by
  simp only[CF]at h;split at h<;>(try (cases h;done))
  rename_i v us h1 h2;cases h;have h0:m.R.ρ i=d:=hρ 0 d rfl
  obtain⟨g1,g2,g3⟩:=Ss (m:=m) (i:=Nat.succ i) h2 (fun j e he=>by
   have:=hρ (j+1) e (by simpa using he)
   rw[show Nat.succ i+j=i+(j+1) by omega]
   exact this)
  refine⟨?_,?_,by simp[g3]⟩
  ·simp only[dummies,VL];exact⟨v,us,rfl,by simp only[V,den];rw[h0];exact Yp h1,g1⟩
  ·simp only[varsFrom,den.denL,den,h0,g2]
 | [],_::_,_,_,h,_=>by simp[CF]at h
 |_::_,[],_,_,h,_=>by simp[CF]at h
theorem Su{t:Ty}{d:DV}{v:Value}(h:Ir t d=some v):v.cells.toList=[v]∧(∀cs,v≠.agg cs)∧(∀cs,v≠.tuple cs):=by
 unfold Ir at h;split at h
 ·split at h<;>cases h
  simp[Value.cells]
 ·cases h;simp[Value.cells]
 ·split at h<;>cases h
  simp[Value.cells]
 ·cases h
theorem KeysOK.snoc{b:Nat}{ts:List Ty}{r:List DV}{x:MapEntry}(hk:KeyV b ts r x.key)(hv:x.val=.bool true):∀{l:List (List DV)} {c:List MapEntry},KeysOK b ts l c→KeysOK b ts (l++[r]) (c++[x])
 | [],[],_=>⟨⟨hk,hv⟩,trivial⟩
 |_::_,_::_,h=>⟨h.1,KeysOK.snoc hk hv h.2⟩
 | [],_::_,h=>h.elim
 |_::_,[],h=>h.elim
structure MapI (P:Program) (t k e:TypeId) (b:Nat) (ts:List Ty):Prop where
 und:P.underlying t=some (.map k e)
 kind:keyKind P k=some b
 scal:scalTs ts=true
 zero:zeroOf P e=some (.bool false)
 lits:∃xs,symLits P 8 k (dummies ts 0)=some xs∧eqSX.eqSXs xs (varsFrom ts 0)=true
theorem OT{P:Program}{t k e:TypeId}{b:Nat}{ts:List Ty}(h:Qi P t=some (k,e,b,ts)):MapI P t k e b ts:=by
 unfold Qi at h;split at h<;>(try (cases h;done))
 rename_i k' e' hu;split at h<;>(try (cases h;done))
 rename_i b' ts' h1 h2 h3;split at h<;>(try (cases h;done))
 rename_i xs hx;split at h<;>(try (cases h;done))
 rename_i hb;cases h;simp only[ACH]at hb;exact⟨hu,h1,hb.1,h3,xs,hx,hb.2⟩
section
variable {k:TypeId}{b:Nat}{ts:List Ty}{t e:TypeId}
theorem MapI.keyType(hi:MapI P t k e b ts):P.keyTypeAt 8 k=true:=by
 have h:=hi.kind
 unfold keyKind at h;split at h
 ·rename_i q hu;simp[Program.keyTypeAt,hu]
 ·split at h
  ·rename_i hk;exact hk
  ·cases h
 ·cases h
theorem MapI.wide(hi:MapI P t k e b ts):(b=0∧∃q,P.underlying k=some (.int q))∨(b=1∧FZ P k=some true∧(match P.underlying k with|some (.array _ _)|some (.struct _)=>true|_=>false)=true):=by
 have h:=hi.kind
 unfold keyKind at h;split at h
 ·rename_i q hu;cases h;exact .inl ⟨rfl,q,hu⟩
 ·rename_i fs hu;split at h
  ·cases h;exact .inr ⟨rfl,by simp[FZ,hu],by simp[hu]⟩
  ·cases h
 ·cases h
theorem MapI.key(hi:MapI P t k e b ts)(m:Env){row:List DV}{x:Value}(h:KeyV b ts row x):P.keyLits 8 k x.cells.toList=some (row.map FR)∧(∀d∈row,C8 d)∧x.formed P k=true:=by
 obtain⟨vs,h1,h2⟩:=h;obtain⟨xs,x1,x2⟩:=hi.lits;have x2:=E9 x2
 subst x2;obtain⟨g1,g2,_⟩:=Ss (m:={m with R:=⟨fun j=>row.getD j (.bool false),m.R.I⟩}) (i:=0) h1 (fun j d hd=>by
  show row.getD (0+j) (.bool false)=d
  rw[ACk,ACI,hd]
  rfl)
 obtain⟨ls,l1,l2,l3⟩:=Fp (m:={m with R:=⟨fun j=>row.getD j (.bool false),m.R.I⟩}) 8 x1 g1
 have hden:∀(R:Rho) (es:List SX),den.denL R es=es.map (den R):=by
  intro R es
  induction es with
  |nil=>rfl
  |cons a as ih=>simp only[den.denL,ih,ACO]
 rw[hden]at g2;have e1:ls=row.map FR:=by
  have:=congrArg (List.map FR) g2
  rw[ADQ]at this;rw[l2];exact this
 have e2:∀d∈row,C8 d:=by
  intro d hd;rw[←g2]at hd;obtain⟨y,hy,rfl⟩:=ADw.1 hd;exact l3 y hy
 subst e1;rcases hi.wide with ⟨rfl,q,hu⟩|⟨rfl,hagg,_⟩
 ·rcases h2 with ⟨_,rfl⟩|⟨h2,_⟩
  ·have hx:x.cells.toList=[x]∧(∀cs,x≠.agg cs)∧(∀cs,x≠.tuple cs):=by
    cases ts with
    |nil=>cases row<;>simp[CF]at h1
    |cons t0 ts0=>
     cases row with
     |nil=>simp[CF]at h1
     |cons d ds=>
      simp only[CF]at h1;split at h1<;>(try (cases h1;done))
      rename_i v us q1 q2;simp only[ACJ,ADa]at h1;obtain⟨rfl,_⟩:=h1;exact Su q1
   refine⟨by rw[hx.1];exact l1,e2,?_⟩
   cases x<;>simp[Value.formed,hu]
   ·exact absurd rfl (hx.2.1 _)
   ·exact absurd rfl (hx.2.2 _)
  ·exact absurd rfl h2
 ·rcases h2 with ⟨h2,_⟩|⟨_,rfl⟩
  ·cases h2
  ·have l1':P.keyLits 8 k vs.toArray.toList=some (row.map FR):=by simpa using l1
   have f1:=Ht l1' hi.keyType fun _ _=>hagg
   rw[hagg]at f1;simp only[ACJ,Bool.true_eq_false,or_false]at f1;exact⟨by simpa[Value.cells]using l1,e2,f1⟩
theorem nZ{r s:List DV}(hr:∀d∈r,C8 d)(hs:∀d∈s,C8 d)(h:r.map FR=s.map FR):r=s:=by
 induction r generalizing s with
 |nil=>cases s with
  |nil=>rfl
  |cons _ _=>simp at h
 |cons a as ih=>cases s with
  |nil=>simp at h
  |cons b bs=>
   simp only[ACO,ADa]at h;rw[nU (hr a (by simp)) (hs b (by simp)) h.1,ih (fun d hd=>hr d (by simp[hd])) (fun d hd=>hs d (by simp[hd])) h.2]
theorem MapI.check(hi:MapI P t k e b ts)(m:Env)(em:Bool){row:List DV}{x:Value}(h:KeyV b ts row x):(Instr.checkKey em 10000 k x).run P w=.ok () w:=by
 obtain⟨h1,_,h3⟩:=hi.key m h;exact run_checkKey_deep em 9992 8 k hi.keyType w 8 x _ h3 h1
theorem MapI.find(hi:MapI P t k e b ts)(m:Env){row:List DV}{x:Value}(h:KeyV b ts row x){l:List (List DV)}{c:List MapEntry}(hl:KeysOK b ts l c):
  ∃r,(Instr.findKey k x c).run P w=.ok r w∧(r=none↔row∉l)∧∀p,r=some p→p.2=.bool true:=by
 rcases hi.wide with ⟨rfl,q,hu⟩|⟨rfl,hagg,hwide⟩
 ·have int:∀{r:List DV} {y:Value},KeyV 0 ts r y→∃z,y=.int q z:=by
   intro r y hy;obtain⟨g1,_,_⟩:=hi.key m hy;obtain⟨vs,g2,g3⟩:=hy;rcases g3 with ⟨_,rfl⟩|⟨g3,_⟩
   ·have hy:y.cells.toList=[y]:=by
     cases ts with
     |nil=>cases r<;>simp[CF]at g2
     |cons t0 ts0=>
      cases r with
      |nil=>simp[CF]at g2
      |cons d ds=>
       simp only[CF]at g2;split at g2<;>(try (cases g2;done))
       rename_i v us q1 q2;simp only[ACJ,ADa]at g2;obtain⟨rfl,_⟩:=g2;exact (Su q1).1
    rw[hy]at g1;unfold Program.keyLits at g1;simp only[hu]at g1;split at g1<;>simp_all
   ·exact absurd rfl g3
  obtain⟨z,rfl⟩:=int h;have key:∀(l:List (List DV)) (c:List MapEntry) (i:Nat),KeysOK 0 ts l c→∃r,Instr.findNow (.int q) (.int q z) c i=some r∧(r=none↔row∉l)∧∀p,r=some p→p.2=.bool true:=by
   intro l
   induction l with
   |nil=>
    intro c i hl;cases c with
    |nil=>exact⟨none,rfl,by simp,by simp⟩
    |cons _ _=>exact hl.elim
   |cons r l ih=>
    intro c i hl;cases c with
    |nil=>exact hl.elim
    |cons y c=>
    obtain⟨hy,hl⟩:=hl;obtain⟨u,hu'⟩:=int hy.1;obtain⟨r',r1,r2,r3⟩:=ih c (i+1) hl;simp only[Instr.findNow,hu',Instr.sameNow,if_true]
    by_cases hz:z=u
    ·subst hz;have:row=r:=by
      have:=hy.1
      rw[hu']at this;exact h.inj this
     subst this;simp only[beq_self_eq_true];exact⟨_,rfl,by simp,by simp[hy.2]⟩
    ·rw[beq_eq_false_iff_ne.2 hz];have hne:row≠r:=by
      rintro rfl;have:=h.ext hy.1
      rw[hu']at this;cases this;exact hz rfl
     exact⟨r',r1,by simp[r2,hne],r3⟩
  obtain⟨r,r1,r2,r3⟩:=key l c 0 hl;exact⟨r,by simp[Instr.findKey,run_underlying hu,Result.andThen,r1],r2,r3⟩
 ·rw[run_findKey_eq w hwide];have key:∀(l:List (List DV)) (c:List MapEntry) (i:Nat),KeysOK 1 ts l c→∃r,(Instr.findAsking k x c i).run P w=.ok r w∧(r=none↔row∉l)∧∀p,r=some p→p.2=.bool true:=by
   intro l
   induction l with
   |nil=>
    intro c i hl;cases c with
    |nil=>exact⟨none,by simp[Instr.findAsking],by simp,by simp⟩
    |cons _ _=>exact hl.elim
   |cons r l ih=>
    intro c i hl;cases c with
    |nil=>exact hl.elim
    |cons y c=>
    obtain⟨hy,hl⟩:=hl;obtain⟨r',r1,r2,r3⟩:=ih c (i+1) hl;obtain⟨a1,a2,a3⟩:=hi.key m h;obtain⟨b1,b2,b3⟩:=hi.key m hy.1;obtain⟨z,hz,hiff⟩:=run_equalIn_deep (P:=P) 9992 8 k hi.keyType w 8 8 _ _ _ _ a3 b3 a1 b1;have hz':(Op.equal k x y.key).run P w=.ok z w:=hz
    cases z with
    |true=>
     have:row=r:=nZ a2 b2 (hiff.1 rfl)
     subst this;exact⟨some (i,y.val),by simp[Instr.findAsking,hz'],by simp,by simp[hy.2]⟩
    |false=>
     have hne:row≠r:=by
      rintro rfl;have:=hiff.2 rfl
      cases this
     exact⟨r',by simp[Instr.findAsking,hz',r1],by simp[r2,hne],r3⟩
  exact key l c 0 hl
end
theorem bq{R:Rho}:∀{xs ys:List SX},UJ xs ys=true→den.denL R xs≠den.denL R ys
 |x::xs,y::ys,h,e=>by
  simp only[UJ,ADW]at h;simp only[den.denL,ADa]at e;rcases h with h|h
  ·unfold neC at h;split at h
   ·rename_i z _ y;simp only[den,DV.int.injEq]at e;rw[e.1.2]at h;cases y<;>simp[eqI]at h
   ·simp only[den,DV.bool.injEq]at e;rw[e.1]at h;simp at h
   ·cases h
  ·exact bq h e.2
 | [],_,h,_=>by simp[UJ]at h
 |_::_,[],h,_=>by simp[UJ]at h
theorem OU{R:Rho}{ks:List SX}:∀{e:SX} {c:Bool} {l:List (List DV)},Ng e ks=some c→den R e=.list l→(c=true↔den.denL R ks∈l)
 |.emp,c,l,h,hd=>by
  simp only[Ng,ACJ]at h;simp only[den,DV.list.injEq]at hd;subst h hd;simp
 |.cat x (.row ls),c,l,h,hd=>by
  simp only[Ng]at h;simp only[den]at hd;cases hx:den R x<;>rw[hx]at hd<;>simp only[Du,DV.list.injEq,reduceCtorEq]at hd
  rename_i es;subst hd;split at h
  ·rename_i hb;cases h;rw[E9 hb];simp
  ·split at h<;>(try (cases h;done))
   rename_i hn;have:=OU h hx
   rw[this];have hne:=bq (R:=R) hn
   simp only[ADR,ACs];exact⟨.inl,fun h=>h.resolve_right fun e=>hne e.symm⟩
 |.v _,_,_,h,_|.ki _ _,_,_,h,_|.kb _,_,_,h,_|.ks _,_,_,h,_|.len _,_,_,h,_|.at _ _ _,_,_,h,_|.byte _ _,_,_,h,_|.bin _ _ _,_,_,h,_
 |.conv _ _,_,_,h,_|.not _,_,_,h,_|.cut _ _ _,_,_,h,_|.bytes _,_,_,h,_|.text _,_,_,h,_|.all _,_,_,h,_|.app _ _,_,_,h,_|.row _,_,_,h,_=>by simp[Ng]at h
 |.cat _ (.v _),_,_,h,_|.cat _ (.ki _ _),_,_,h,_|.cat _ (.kb _),_,_,h,_|.cat _ (.ks _),_,_,h,_|.cat _ (.len _),_,_,h,_|.cat _ (.at _ _ _),_,_,h,_|.cat _ (.byte _ _),_,_,h,_|.cat _ (.bin _ _ _),_,_,h,_
 |.cat _ (.conv _ _),_,_,h,_|.cat _ (.not _),_,_,h,_|.cat _ (.cut _ _ _),_,_,h,_|.cat _ (.bytes _),_,_,h,_|.cat _ (.text _),_,_,h,_|.cat _ (.all _),_,_,h,_|.cat _ (.app _ _),_,_,h,_|.cat _ .emp,_,_,h,_|.cat _ (.cat _ _),_,_,h,_=>by simp[Ng]at h
theorem jy{R:Rho}:∀{e:SX} {n:Nat} {l:List (List DV)},Qj e=some n→den R e=.list l→l.length=n:=by
 intro e
 induction e using SX.rec (motive_2:=fun _=>True) with
 |emp=>
  intro n l h hd;simp only[Qj,ACJ]at h;simp only[den,DV.list.injEq]at hd;subst h hd;rfl
 |cat x y ihx _=>
  intro n l h hd;cases y with
  |row ls=>
   simp only[Qj]at h;split at h<;>(try (cases h;done))
   rename_i k hk;cases h;simp only[den]at hd;cases hx:den R x<;>rw[hx]at hd<;>simp only[Du,DV.list.injEq,reduceCtorEq]at hd
   subst hd;have:=ihx hk hx
   simp[this]
  |_=>simp[Qj]at h
 |nil=>trivial
 |cons _ _ _ _=>trivial
 |_=>intro n l h;simp[Qj]at h
theorem Ys{id b:Nat}{ts:List Ty}{e:SX}{v:Value}(hr:HR m h w)(hv:V m (.hnd 2 id) v)(hg:h.t.get id=some (.grow b ts e)):MR m (m.mu id) b ts e w∧v=.map (some (m.mu id).1):=by
 simp only[V,Iq]at hv;obtain⟨⟨_,h2⟩,rfl⟩:=hv;have h2:=h2 trivial
 obtain⟨_,_,g⟩:=hr.objL id _ hg;rcases (show GR m (m.mu id) b ts e w from g) with g|⟨l,_,_,g3,_,c,_,_,_,g4⟩|g
 ·rw[h2]at g;cases g
 ·have:=(g4 rfl).2
  omega
 ·exact⟨g,rfl⟩
theorem Wp{t:TypeId}{r:Option Operand}{ev:Operand→AV}{ρ:Operand→Value}(hev:∀x,V m (ev x) (ρ x))(hr:HR m h w){av:AV}{h':AHeap}(hop:I5 P ev h t r=some (av,h')):
  Good m ((do pure (Next.value (←Instr.makeMap t (r.map ρ))):Sem Next).run P w) av h':=by
 have new:∀b ts,HR (m.add h.next (w.heap.size,maxLen+1)) (h.alloc (.grow b ts .emp)) (w.alloc (.map #[] 0)):=fun b ts=>
  hr.alloc _ _ _ (.inr (.inr ⟨rfl,[],#[],0,rfl,by simp,heap_alloc_new w _,trivial⟩))
 have hv:V (m.add h.next (w.heap.size,maxLen+1)) (.hnd 2 h.next) (.map (some w.heap.size)):=by simp[V,Iq]
 unfold I5 at hop;split at hop
 ·cases hop;exact Good.new (s:=Instr.makeMap t none) (hr.le_add _) (new _ _) hv (by simp[Instr.makeMap])
 ·rename_i k e b ts x hi;have hi:=OT hi
  split at hop<;>(try (cases hop;done))
  rename_i j z ez;cases hop;have hx:=hev x
  rw[ez]at hx;simp only[V]at hx;refine Good.new (s:=Instr.makeMap t (some (ρ x))) (hr.le_add _) (new _ _) hv ?_
  rw[hx];simp[Instr.makeMap,run_underlying hi.und,asInt,asIntOf]
 ·cases hop
theorem Yt{t:TypeId}{x i:AV}{xv iv:Value}(hx:V m x xv)(hi:V m i iv)(hr:HR m h w){av:AV}{h':AHeap}(hop:Nh P h t x i=some (av,h')):
  Good m ((do pure (Next.value (←Instr.lookup t xv iv false)):Sem Next).run P w) av h':=by
 unfold Nh at hop;split at hop<;>(try (cases hop;done))
 rename_i k e b ts id hm;have hm:=OT hm
 split at hop<;>(try (cases hop;done))
 rename_i c us E ks hg hk;split at hop<;>(try (cases hop;done))
 rename_i hb;rw[ACH,ACY]at hb;obtain⟨rfl,hb⟩:=hb;obtain rfl:=BS hb;obtain⟨⟨_,l,c,clock,q1,_,q2,q3⟩,rfl⟩:=Ys hr hx hg;have hkey:=Sq hk hm.scal hi
 obtain⟨r,r1,r2,r3⟩:=hm.find (w:=w) m hkey q3;have run:(Instr.lookup t (.map (some (m.mu id).1)) iv false).run P w=.ok (.bool (decide (r≠none))) w:=by
  unfold Instr.lookup;simp only[Sem.run_bind,run_underlying hm.und,Result.andThen_ok,MapKept.run_getObj_map q2,Sem.run_pure,hm.check (w:=w) m _ hkey,r1];cases r with
  |none=>
   have hz:(zeroValue e).run P w=.ok (.bool false) w:=by simp[DM hm.zero]
   simp[hz]
  |some p=>
   obtain⟨j,u⟩:=p;have:=r3 _ rfl
   simp only at this;subst this;simp
 have hden:(r≠none)↔den.denL m.R ks∈l:=by
  constructor
  ·intro h1
   by_cases hin:den.denL m.R ks∈l
   ·exact hin
   ·exact absurd (r2.2 hin) h1
  ·intro h1 h2;exact r2.1 h2 h1
 split at hop
 ·rename_i cb hc;cases hop;have:=OU hc q1
  have hv:decide (r≠none)=cb:=by
   by_cases hin:den.denL m.R ks∈l
   ·rw[this.2 hin,ACb (hden.2 hin)]
   ·have h1:cb=false:=by
     cases cb with
     |false=>rfl
     |true=>exact absurd (this.1 rfl) hin
    rw[h1,ACR fun hn=>hin (hden.1 hn)]
  rw[hv]at run;exact Good.run (s:=Instr.lookup t _ iv false) hr (by simp only[V]) run
 ·cases hop;refine Good.run (s:=Instr.lookup t _ iv false) hr ?_ run
  simp only[V];refine DN ?_
  simp only[den,AZ,q1,nR];congr 1
  exact decide_eq_decide.2 hden.symm
theorem Km[O:Orc](hF:FactsOK m.R){t:TypeId}{x i u:AV}{xv iv uv:Value}(hx:V m x xv)(hi:V m i iv)(hu:V m u uv)(hr:HR m h w){av:AV}{h':AHeap}(hop:Ni P h t x i u=some (av,h')):
  Good m ((do Instr.mapUpdate t xv iv uv;pure Next.skip:Sem Next).run P w) av h':=by
 unfold Ni at hop;split at hop<;>(try (cases hop;done))
 rename_i k e b ts id hm;have hm:=OT hm
 split at hop<;>(try (cases hop;done))
 rename_i c us E ks hg hk;split at hop<;>(try (cases hop;done))
 rename_i hb;rw[ACH,ACY]at hb;obtain⟨rfl,hb⟩:=hb;obtain rfl:=BS hb;split at hop<;>(try (cases hop;done))
 rename_i hs hle;cases hop;obtain⟨⟨q0,l,c,clock,q1,_,q2,q3⟩,rfl⟩:=Ys hr hx hg;simp only[V]at hu;subst hu;have hkey:=Sq hk hm.scal hi
 obtain⟨r,r1,r2,r3⟩:=hm.find (w:=w) m hkey q3;have hnot:den.denL m.R ks∉l:=by
  unfold ub at hs;split at hs
  ·rename_i cb hc;cases hs;have:=OU hc q1
   intro hin;have:=this.2 hin
   cases this
  ·have:=Bv hF hs
   simp only[den,AZ,q1,nR,DV.bool.injEq,ACK]at this;exact this
 have hr0:=r2.2 hnot
 subst hr0;have hlen:l.length≤1000000:=by
  unfold jE at hle;split at hle
  ·rename_i n hn;rw[jy hn q1];simpa using hle
  ·have:=Be hF hle (k:=.i64) (l:=.i64) (a:=(l.length:Int)) (b:=1000000) (by simp only[den,q1,Bm]) (by simp only[den];rfl)
   omega
 have hput:HR m (h.put id (.grow b us (.cat E (.row ks)))) {w with heap:=w.heap.setIfInBounds (m.mu id).1 (.map (c.push {key:=iv,val:=.bool true,born:=clock}) (clock+1))}:=by
  obtain⟨s1,s2⟩:=MapKept.heap_set (w:=w) (o':=.map (c.push {key:=iv,val:=.bool true,born:=clock}) (clock+1)) q2;refine hr.put hg (.inr (.inr ⟨q0,l++[den.denL m.R ks],_,_,by simp only[den,q1,Du],by simp[maxLen];omega,s1,?_⟩)) (fun b hb=>s2 b hb) rfl (by show (m.mu id).2≠0;rw[q0];omega)
  simp only[Array.toList_push];exact KeysOK.snoc hkey rfl q3
 refine Good.done (.refl m) hput ?_
 unfold Instr.mapUpdate;simp only[Sem.run_bind,run_underlying hm.und,Result.andThen_ok,MapKept.run_getObj_map q2,hm.check (w:=w) m _ hkey,r1,MapKept.run_setObj_map _ q2]
theorem Yu(hF:FactsOK m.R)(o:Oper){ev:Operand→AV}{ρ:Operand→Value}(hev:∀x,V m (ev x) (ρ x))(hr:HR m h w){av:AV}{h':AHeap}(hop:DF P ev h o=some (av,h')):
  Good m ((execOp ρ o).run P w) av h':=by
 obtain⟨dst,op,type,pos,after,guard⟩:=o;have hop':=hop
 simp only[DF]at hop;split at hop
 ·rename_i c a b;have hc:=HS hF (hev c)
  split at hop<;>(try (cases hop;done))<;>rename_i hb<;>cases hop<;>rw[hb]at hc<;>simp only[V]at hc
  ·exact .val hr (hev a) (by simp[execOp,hc,asBool])
  ·exact .val hr (hev b) (by simp[execOp,hc,asBool])
 ·rename_i bop t x y _;simp only[ACa,ACP]at hop;obtain⟨r,h1,rfl,rfl⟩:=hop;obtain⟨z,g1,g2⟩:=Yn (P:=P) (p:=x) (q:=y) (w:=w) h1 (hev x) (hev y);exact Good.run (s:=do eqGuard bop t x y (ρ x) (ρ y);binOp bop t (ρ x) (ρ y)) hr g2 g1
 ·rename_i t x;split at hop<;>(try (cases hop;done))
  rename_i e he;cases hop;have hx:=hev x
  rw[he]at hx;simp only[V,Rep]at hx;obtain⟨b,h1,h2⟩:=hx;refine Good.run (s:=Op.unary .not (ρ x)) (v:=.bool (!b)) hr (by simp only[V];exact DN (by simp only[den,h1,Gn])) ?_
  rw[h2];simp[Op.unary]
 ·rename_i src dt x;split at hop<;>(try (cases hop;done))
  ·rename_i sd k l e hs hd he;cases hop;have hx:=hev x
   rw[he]at hx;simp only[V,Rep]at hx;obtain⟨z,h1,h2,h3,h4⟩:=hx;refine Good.run (s:=convert src dt (ρ x)) (v:=.int k (k.wrap z)) hr (by simp only[V,Rep,den,h1,C7];exact⟨_,rfl,rfl,(Df k z).1,(Df k z).2⟩) ?_
   rw[h2];simp[convert,run_underlying hs,run_underlying hd,Conv.intToInt]
  ·rename_i el e hs hd he;split at hop<;>(try (cases hop;done))
   rename_i hel;cases hop;have hx:=hev x
   rw[he]at hx;simp only[V]at hx;obtain⟨ds,e1,e2,e3,e4⟩:=Q8 (t:=.int .u8) rfl hx;have hds:∃bs:List UInt8,ds=bs.map fun b=>DV.int .u8 b.toNat:=by
    refine⟨ds.map fun x=>byteOf [x],?_⟩
    rw[ADQ];have:∀x∈ds,x=DV.int .u8 (byteOf [x]).toNat:=by
     intro x hx;have:=e3 x hx
     simp only[Rep]at this;obtain⟨z,rfl,_,h1,h2⟩:=this;simp only[byteOf];have h3:0≤z∧z<256:=by simp[IntKind.min,IntKind.max,IntKind.signed,IntKind.bits]at h1 h2;omega
     congr 1
     have h4:(UInt8.ofNat z.toNat).toNat=z.toNat%256:=UInt8.toNat_ofNat'
     omega
    conv=>lhs;rw[←AEV ds]
    exact ADN this
   obtain⟨bs,rfl⟩:=hds;have hc:=JE (P:=P) (m:=m) (h:=h) (w:=w) src dt x none 0 "" #[] none (seen ρ x (.fsl 1 false ((bs.map fun b=>DV.int .u8 b.toNat).map fun x=>[.sc (CE x)]))) ρ (Hu e4) hr
   have hop2:opA P (seen ρ x (.fsl 1 false ((bs.map fun b=>DV.int .u8 b.toNat).map fun x=>[.sc (CE x)]))) h {dst:=none,op:=.convert src dt x,type:=0,pos:= "",after:=#[],guard:=none}=some (.sc (.string ⟨bs.toArray⟩),h):=by
    have hsx:seen ρ x (.fsl 1 false ((bs.map fun b=>DV.int .u8 b.toNat).map fun x=>[.sc (CE x)])) x=.fsl 1 false ((bs.map fun b=>DV.int .u8 b.toNat).map fun x=>[.sc (CE x)]):=by simp[seen]
    simp only[opA,Fa,hs,hd,hel,hsx,lenOf,ACX];have hrc:BZ h 1 bs.length (.fsl 1 false ((bs.map fun b=>DV.int .u8 b.toNat).map fun x=>[.sc (CE x)]))=some (bs.map fun b=>.sc (.int .u8 b.toNat)):=by
     have:(Nat.beq 1 1&&Nat.ble bs.length ((bs.map fun b=>DV.int .u8 b.toNat).map fun x=>[AV.sc (CE x)]).length)=true:=by
      rw[ACH,ACn];simp
     simp only[BZ,this];rw[ACg (by simp),fT (fun x=>AV.sc (CE x)),ADQ]
     rfl
    rw[hrc];have hbl:EK (bs.map fun b=>.sc (.int .u8 b.toNat))=some bs:=by
     clear hrc hsx hc e4 e3 e2 e1 hx he
     induction bs with
     |nil=>rfl
     |cons b bs ih=>
      show (EK (bs.map fun b=>.sc (.int .u8 b.toNat))).map (UInt8.ofNat (Int.toNat (b.toNat:Int)):: ·)=_
      rw[ih];simp
    simp[hbl]
   refine (hc _ _ hop2).imp fun m' v hm hv=>?_
   simp only[V]at hv⊢;subst hv;rw[hm.R];simp only[Rep,den,e1,PU];refine⟨⟨bs.toArray⟩,?_,rfl,?_⟩
   ·congr 2
    rw[ADQ,ADQ];have:∀b:UInt8,((byteOf∘fun x=>[x])∘fun b:UInt8=>DV.int .u8 b.toNat) b=id b:=by
     intro b;simp only[Function.comp,byteOf];simp
    rw[ADN (fun b _=>this b)]
    simp
   ·have e2':bs.length≤maxLen:=by simpa using e2
    exact e2'
  ·rename_i el id e hs hd he;split at hop<;>(try (cases hop;done))
   rename_i t f hel hg;split at hop<;>(try (cases hop;done))
   rename_i hk;cases hop;have hx:=hev x
   rw[he]at hx;have hx:=JK hk hx
   exact fU (P:=P) (x:=x) (ρ:=ρ) hr hx hg hs hd hel
  ·rename_i el e hs hd he;split at hop<;>(try (cases hop;done))
   rename_i hel;cases hop;have hx:=hev x
   rw[he]at hx;simp only[V,Rep]at hx;obtain⟨s,h1,h2,h3⟩:=hx;have hc:=JE (P:=P) (m:=m) (h:=h) (w:=w) src dt x none 0 "" #[] none (seen ρ x (.sc (.string s))) ρ (Hu (by simp[V,h2])) hr
   have hop2:opA P (seen ρ x (.sc (.string s))) h {dst:=none,op:=.convert src dt x,type:=0,pos:= "",after:=#[],guard:=none}=some (.fsl 1 false (s.data.toList.map fun b=>[.sc (.int .u8 b.toNat)]),h):=by
    have hsx:seen ρ x (.sc (.string s)) x=.sc (.string s):=by simp[seen]
    simp only[opA,Fa,hs,hd,hel,hsx]
   refine (hc _ _ hop2).imp fun m' v hm hv=>?_
   simp only[V];rw[hm.R];simp only[den,h1];rw[WL];refine sU (ex:=false) (by simpa using h3) (fun x hx=>?_) ?_
   ·obtain⟨b,_,rfl⟩:=ADw.1 hx;simp only[CE,Rep];exact⟨_,rfl,rfl,(u8_in b).1,(u8_in b).2⟩
   ·rw[ADQ];exact hv
 ·exact aW hF hev hr hop'
 ·rename_i t x lo hi mx;split at hop<;>(try (cases hop;done))
  rename_i el cs e hu hx;split at hop<;>(try (cases hop;done))
  rename_i size hs hlo hhi hmx;split at hop<;>(try (cases hop;done))
  rename_i hk;rw[ACY]at hk;subst hk;cases hop;have hxv:=hev x
  rw[hx]at hxv;simp only[V]at hxv;obtain⟨es,e1,e2,e3,e4⟩:=Ic hxv;have hsl:∃a c,ρ x=.slice a es.length c:=by
   simp only[V]at e3;obtain⟨a,c,q,_⟩:=e3;rw[Ak]at q;exact⟨a,c,q⟩
  obtain⟨aa,cc,hsl⟩:=hsl;have bnd:∀(bb:Option Operand) (d d':Nat),(∀y,bb=some y→True)→(bb=none→d=0∧d'=0)→bound ev d bb=some 0→bound (seen ρ x (.fsl cs.length false (rowsOf e cs 0 es.length))) d' bb=some 0:=by
   intro bb d d' _ hd hb;cases bb with
   |none=>obtain⟨_,rfl⟩:=hd rfl;rfl
   |some y=>
    simp only[bound]at hb⊢;have hyv:=hev y
    obtain⟨k2,hy⟩:=Dt hb hyv;have hne:y≠x:=by
     intro e;rw[e,hsl]at hy;cases hy
    simp only[seen,if_neg hne,hy];rfl
  have hhi':∃y,hi=some y:=by
   cases hi with
   |none=>simp[bound]at hhi
   |some y=>exact⟨y,rfl⟩
  obtain⟨y,rfl⟩:=hhi';refine (ok_slice t x lo (some y) (some mx) dst type pos after guard (seen ρ x (.fsl cs.length false (rowsOf e cs 0 es.length))) ρ (Hu e3) hr (.emp 0) h ?_)
  simp only[opA,JY,hu,hs];have hsx:seen ρ x (.fsl cs.length false (rowsOf e cs 0 es.length)) x=.fsl cs.length false (rowsOf e cs 0 es.length):=by simp[seen]
  rw[hsx];simp only[Ak,ADF,Function.comp];rw[bnd lo 0 0 (fun _ _=>trivial) (fun _=>⟨rfl,rfl⟩) hlo,bnd (some y) 1 es.length (fun _ _=>trivial) (fun e=>by cases e) hhi,bnd (some mx) 1 0 (fun _ _=>trivial) (fun e=>by cases e) hmx]
  have hk2:(Nat.ble 0 0&&Nat.ble 0 0&&Nat.ble 0 es.length&&Nat.beq cs.length cs.length&&(some y).isSome)=true:=by
   rw[ADv];simp
  simp only[hk2]
 ·exact Sb hF hev hr hop'
 ·exact aV hF hev hr hop'
 ·exact jv hF hev hr hop'
 ·rename_i t l c;exact Wo hF (hev l) (hev c) hr hop
 ·exact Wp hev hr hop
 ·rename_i t x i;exact Yt (hev x) (hev i) hr hop
 ·rename_i t x k v;exact Km hF (hev x) (hev k) (hev v) hr hop
 ·rename_i t x k v;exact Km hF (hev x) (hev k) (hev v) hr hop
 ·cases hop
def AHeap.skip(h:AHeap):AHeap:={next:=h.lim,lim:=Nat.succ h.lim,t:=h.t}
omit O in
theorem HR.skip{m:Env}{h:AHeap}{w:World}(hr:HR m h w):HR m h.skip w:=by
 have hl:=hr.lim
 refine⟨fun id hd=>?_,ADk _,fun id hd=>?_,hr.EF,hr.E,hr.F,hr.objL,hr.injL,hr.io⟩
 ·have:=hr.next id hd
  show id≠h.lim∧id<h.lim+1
  omega
 ·obtain⟨h1,h2,h3⟩:=hr.res id hd;refine⟨h1,?_⟩
  show id≠h.lim∧id<h.lim+1
  omega
theorem freeze{cs:List Ty}{e:SX}{es:List (List DV)}{v:Value}{w':World}{m':Env}{b:Blk}(hr:HR m h w)(hm:m.le m')(hr':HR m' (h.alloc (.blk b)) w')(hv:V m' (.sl h.next 0 es.length none) v)
  (he:den m.R e=.list es) (hes:es.length≤maxLen) (hrow:∀(i:Nat) (row:List DV),es[i]? =some row→row.length=cs.length)
  (hb:b.n=es.length*cs.length∧b.c=Blk.putAll .nil 0 (rowsOf e cs 0 es.length).flatten):∃m2,m.le m2∧V m2 (.sy (.slice cs) e) v∧HR m2 h.skip w':=by
 simp only[V]at hv;obtain⟨hd,c,rfl,hc1,_,_⟩:=hv;obtain⟨_,⟨hE,hF⟩,hB⟩:=hr'.obj h.next (.blk b) (by simp[AHeap.alloc,Tr.get_put])
 obtain⟨cells,g1,g2,g3,_⟩:=hB;have hne:∀k o,m'.E k=some o→k≠(m'.mu h.next).1:=fun k o ho e=>by rw[e,hE]at ho;cases ho
 have hw:m'.wle {m' with E:=fun k=>if k=(m'.mu h.next).1 then some (.cells cells b.t (0,0)) else m'.E k}:=⟨fun _ h=>h,fun _ _=>rfl,fun k o ho=>by
  simp only[if_neg (hne k o ho)];exact ho,rfl,rfl⟩
 have hsub:∀id o,h.t.get id=some o→(h.alloc (.blk b)).t.get id=some o∧id≠h.next:=by
  intro id o ho;have hd':=(hr.objL id o ho).1
  have hne:=(hr.next id hd').1
  exact⟨by simp[AHeap.alloc,Tr.get_put,Ne.symm hne,ho],hne⟩
 have hblk:∀id o,h.t.get id=some o→live o (m'.mu id)→(m'.mu id).1≠(m'.mu h.next).1:=by
  intro id o ho lo e;obtain⟨k1,k2⟩:=hsub id o ho;exact k2 (hr'.injL id h.next o (.blk b) k1 (by simp[AHeap.alloc,Tr.get_put]) lo trivial e)
 refine⟨_,hm.trans ⟨hw,fun _ _ h=>h,fun _ h=>h⟩,?_,⟨hr'.next,hr'.lim,hr'.res,fun k x hk=>?_,fun k o hk=>?_,hr'.F,fun id o ho=>?_,fun i j x y hi hj li lj e=>?_,hr'.io⟩⟩
 ·simp only[V,Rep];refine⟨es,some ⟨(m'.mu h.next).1,0,none⟩,c,by rw[hm.R];exact he,rfl,hc1,hes,(fun e=>by cases e),.inr ⟨_,0,rfl,fun i row hi=>?_⟩⟩
  have hlt:i<es.length:=(ACW.1 hi).1
  have cell:∀j,j<cs.length→∃u,cells[i*cs.length+j]? =some u∧V m' ((Ac e (.ki .i64 (.ofNat i)) 0 cs).getD j .dead) u:=by
   intro j hj;have hlt2:i*cs.length+j<b.n:=by
    rw[hb.1];have:i*cs.length+cs.length≤es.length*cs.length:=by
     rw[←AEJ];exact ACx _ hlt
    omega
   obtain⟨u,h1,h2⟩:=g3 _ hlt2;refine⟨u,h1,?_⟩
   have hfl:=Ms (e:=e) hj es.length 0 i hlt
   rw[ACk]at hfl;have hj':j<(Ac e (.ki .i64 (.ofNat i)) 0 cs).length:=by rw[Bw];exact hj
   have hcell:b.cell (i*cs.length+j)=(Ac e (.ki .i64 (.ofNat i)) 0 cs).getD j .dead:=by
    unfold Blk.cell;rw[hb.2,CD];have hin:0≤i*cs.length+j∧i*cs.length+j<0+(rowsOf e cs 0 es.length).flatten.length:=by
     refine⟨ADO _,?_⟩
     have:=ACL hj'
     rw[←hfl]at this;have:=(ACW.1 this).1
     omega
    rw[if_pos hin,ADo,hfl];generalize hx:(Ac e (.ki .i64 (.ofNat i)) 0 cs)[j]? =x;cases x with
    |none=>rw[ACL hj']at hx;cases hx
    |some x=>
     show x=_
     rw[ACI,hx];rfl
   rw[←hcell];exact h2
  rw[ACk];refine (L4 (i:=.ki .i64 (.ofNat i)) (ts:=cs) (k:=0) (ds:=row) (by show den m'.R e=_;rw[hm.R];exact he) (j:=i) (k0:=.i64) rfl hi (AC1) (o:=i*cs.length)).2 ⟨?_,hrow i row hi⟩
  have mk:∀(ts:List Ty) (k:Nat),(∀j,j<ts.length→∃u,cells[i*cs.length+k+j]? =some u∧V m' ((Ac e (.ki .i64 (.ofNat i)) k ts).getD j .dead) u)→
    VC {m' with E:=fun k=>if k=(m'.mu h.next).1 then some (.cells cells b.t (0,0)) else m'.E k} (m'.mu h.next).1 (i*cs.length+k) (Ac e (.ki .i64 (.ofNat i)) k ts):=by
   intro ts
   induction ts with
   |nil=>intro k _;simp[Ac,VC]
   |cons t ts ih=>
    intro k H;simp only[Ac,VC];obtain⟨u,h1,h2⟩:=H 0 (by simp)
    refine⟨⟨u,?_,?_⟩,?_⟩
    ·simp only[Env.ecell,if_pos];simpa using h1
    ·simp only[Ac,AC4]at h2;exact V.wmono hw _ _ h2
    ·rw[show i*cs.length+k+1=i*cs.length+(k+1) by omega]
     refine ih (k+1) fun j hj=>?_
     obtain⟨u,h1,h2⟩:=H (j+1) (by simpa using hj)
     refine⟨u,by rw[show i*cs.length+(k+1)+j=i*cs.length+k+(j+1) by omega];exact h1,?_⟩
     simpa[Ac]using h2
  have:=mk cs 0 fun j hj=>by simpa using cell j hj
  simpa using this
 ·have h1:=hr'.EF k x hk
  have:k≠(m'.mu h.next).1:=fun e=>by rw[e,hF]at hk;cases hk
  simp only[if_neg this];exact h1
 ·by_cases e:k=(m'.mu h.next).1
  ·simp only[if_pos e,ACJ]at hk;subst hk;rw[e];exact g1
  ·simp only[if_neg e]at hk;exact hr'.E k o hk
 ·obtain⟨l1,_⟩:=hsub id o ho;obtain⟨n1,n2,n3⟩:=hr'.objL id o l1;refine⟨n1,fun lo=>⟨?_,(n2 lo).2⟩,n3.wmove hw fun _=>rfl⟩
  simp only[if_neg (hblk id o ho lo)];exact (n2 lo).1
 ·exact hr'.injL i j x y (hsub i x hi).1 (hsub j y hj).1 li lj e
theorem Sv(hF:FactsOK m.R){ts:Array TypeId}{ty:TypeId}{consts:Array Bool}{as:List AV}{vs:Array Value}(hl:VL m as vs.toList)(hr:HR m h w){av:AV}{h':AHeap}
  (hop:Nl P h ts as=some (av,h')):Good m ((builtin .append ts ty consts vs).run P w) av h':=by
 unfold Nl at hop;split at hop<;>(try (cases hop;done))
 rename_i t u s cs e hts0 hts1;split at hop<;>(try (cases hop;done))
 rename_i el el2 ht hu;split at hop<;>(try (cases hop;done))
 rename_i inf z hinf hz;split at hop<;>(try (cases hop;done))
 rename_i hk;simp only[ACH,ACY,ACn]at hk;obtain⟨⟨⟨⟨⟨hroom,hcs⟩,hzl⟩,hs1⟩,hb1⟩,hbound⟩:=hk;split at hop<;>(try (cases hop;done))
 rename_i hlen;cases hop;simp only[VL]at hl;obtain⟨sv,us,hvs,hs,xv,us',rfl,hx,rfl⟩:=hl;obtain rfl:vs=#[sv,xv]:=by apply ADX;simpa using hvs
 simp only[V]at hx;obtain⟨es,e1,e2,e3,e4⟩:=Ic hx;have hl2:=Bv hF hlen
 simp only[den,e1,Bm,AZ,DV.bool.injEq,ACK]at hl2;have hn:es.length≤1000000:=by simp at hl2;omega
 have hs':V m (.fsl inf.size true []) sv:=by
  unfold noRoom at hroom;split at hroom
  ·simp only[V]at hs⊢;exact⟨none,0,hs,ACv _,fun _=>rfl,fun _=>rfl,.inl rfl⟩
  ·simp only[V]at hs⊢;obtain⟨_,c,rfl,h2,h3,_⟩:=hs;have:=h3 0 rfl
   subst this;exact⟨_,0,rfl,ACv _,fun _=>rfl,(fun e=>by cases e),.inr ⟨_,_,rfl,by simp[VR]⟩⟩
  ·simp only[V]at hs⊢;obtain⟨a,c,rfl,h2,h3⟩:=hs;have:=h2 trivial
   subst this;exact⟨a,0,rfl,ACv _,fun _=>rfl,h3,.inl rfl⟩
  ·cases hroom
 have hrow:∀(i:Nat) (row:List DV),es[i]? =some row→row.length=cs.length:=by
  intro i row hi;rcases e4 i row hi with q|q|q
  ·exact q
  ·have:=(ACW.1 hi).1
   omega
  ·rw[q]at e3;simp only[V]at e3;obtain⟨a,c,q2,_⟩:=e3;rw[Ak]at q2;simp only[Value.slice.injEq]at q2;have:=(ACW.1 hi).1
   omega
 have hflat:(rowsOf e cs 0 es.length).flatten.length=es.length*inf.size:=by
  have:∀n i,(rowsOf e cs i n).flatten.length=n*cs.length:=by
   intro n
   induction n with
   |zero=>intro i;simp[rowsOf]
   |succ n ih=>intro i;rw[rowsOf,ADE,ACT,Bw,ih];rw[AEJ];omega
  rw[this,hcs]
 have hall:(rowsOf e cs 0 es.length).flatten.all BW=true:=by
  rw[ACt];intro x hx;obtain⟨l,hl,hxl⟩:=List.mem_flatten.1 hx;have h1:∀n i,∀l∈rowsOf e cs i n,∀x∈l,BW x=true:=by
   intro n
   induction n with
   |zero=>intro i l hl;simp[rowsOf]at hl
   |succ n ih=>
    intro i l hl x hx;simp only[rowsOf,ACU]at hl;rcases hl with rfl|hl
    ·have h2:∀(cs:List Ty) k,∀x∈Ac e (.ki .i64 (.ofNat i)) k cs,BW x=true:=by
      intro cs
      induction cs with
      |nil=>intro k x hx;simp[Ac]at hx
      |cons t ts ih2=>
       intro k x hx;simp only[Ac,ACU]at hx;rcases hx with rfl|hx
       ·rfl
       ·exact ih2 _ x hx
     exact h2 _ _ x hx
    ·exact ih _ l hl x hx
  exact h1 _ _ l hl x hxl
 have hrc:BZ h inf.size es.length (.fsl cs.length false (rowsOf e cs 0 es.length))=some (rowsOf e cs 0 es.length).flatten:=by
  simp only[BZ,Ak,hcs,ADv];rw[show Nat.ble es.length es.length=true by rw[ACn];omega]
  simp only[Bool.and_self];rw[ACg (by rw[Ak];omega)]
 have hcond:(Nat.ble ((0+es.length)*inf.bytes) 140737488355328&&Nat.ble (0+es.length) 9223372036854775807&&Nat.beq z.length inf.size&&Nat.ble 1 inf.size&&Nat.ble 1 inf.bytes)=true:=by
  simp only[ACH,ACn,ACY];refine⟨⟨⟨⟨?_,by omega⟩,hzl⟩,hs1⟩,hb1⟩
  have:(0+es.length)*inf.bytes≤1000000*inf.bytes:=ACx _ (by omega)
  omega
 have hnew:((rowsOf e cs 0 es.length).flatten.all BW&&Nat.beq (rowsOf e cs 0 es.length).flatten.length (es.length*inf.size))=true:=by
  rw[hall,hflat,ADv];rfl
 cases hn0:es.length with
 |zero=>
  have hes:es=[]:=ACi.1 hn0
  have hop2:A7 P h .append ts ty [.fsl inf.size true [],.fsl cs.length false (rowsOf e cs 0 es.length)]=some (.fsl inf.size true [],h):=by
   simp only[A7,EX,hts0,hts1,ht,hu,hinf,hz,lenOf,ADU,Ak,hcond,hrc,hnew,ADv];rw[hn0];rfl
  obtain⟨v,w',m',k1,k2,k3,k4⟩:=Da (P:=P) (consts:=consts) hs' e3 hr hop2;refine⟨v,w',m',k1,k2,?_,k4.skip⟩
  simp only[V,ADU]at k3⊢;obtain⟨a,c,rfl,g1,g2,g3,g4⟩:=k3;simp only[Rep];refine⟨[],a,c,by rw[k2.R,e1,hes],rfl,by simp,by simp,g3,?_⟩
  rcases g4 with g4|⟨b,o,g5,_⟩
  ·exact .inl g4
  ·exact .inr ⟨b,o,g5,by simp⟩
 |succ n0=>
  have hop2:A7 P h .append ts ty [.fsl inf.size true [],.fsl cs.length false (rowsOf e cs 0 es.length)]=
    some (.sl h.next 0 es.length none,h.alloc (.blk {t:=el,row:=true,sz:=inf.size,n:=es.length*inf.size,z:=[],c:=Blk.putAll .nil 0 (rowsOf e cs 0 es.length).flatten})):=by
   simp only[A7,EX,hts0,hts1,ht,hu,hinf,hz,lenOf,ADU,Ak,hcond,hrc,hnew,ADv];simp only[hn0,List.flatten_nil,ADD,ACk]
  obtain⟨v,w',m',k1,k2,k3,k4⟩:=Da (P:=P) (consts:=consts) hs' e3 hr hop2;obtain⟨m2,q1,q2,q3⟩:=freeze (cs:=cs) (e:=e) (es:=es) hr k2 k4 k3 e1 e2 hrow ⟨by rw[hcs],rfl⟩
  exact⟨v,w',m2,k1,q1,q2,q3⟩
omit O in
theorem br{t:Ty}{E:SX}{ds:List DV}{id off:Nat}{cap:Option Nat}{b:Blk}{v:Value}(hr:HR m h w)(hv:V m (.sl id off ds.length cap) v)(hb:h.t.get id=some (.blk b))(hn:off+ds.length≤b.n)
  (he:den m.R E=.list (ds.map fun d=>[d])) (hlen:ds.length≤maxLen) (hcell:∀(i:Nat) (d:DV),ds[i]? =some d→∀u,V m (b.cell (off+i)) u→Rep m t d u):
  ∃m2,m.le m2∧V m2 (.sy (.slice [t]) E) v∧HR m2 {h with t:=h.t.cut id} w:=by
 simp only[V]at hv;obtain⟨hd,c,rfl,hc1,_,_⟩:=hv;obtain⟨_,⟨hE,hF⟩,hB⟩:=hr.obj id (.blk b) hb;obtain⟨cells,g1,g2,g3,_⟩:=hB;have hne:∀k o,m.E k=some o→k≠(m.mu id).1:=fun k o ho e=>by rw[e,hE]at ho;cases ho
 have hw:m.wle {m with E:=fun k=>if k=(m.mu id).1 then some (.cells cells b.t (0,0)) else m.E k}:=⟨fun _ h=>h,fun _ _=>rfl,fun k o ho=>by
  simp only[if_neg (hne k o ho)];exact ho,rfl,rfl⟩
 have sub:∀i o,(h.t.cut id).get i=some o→h.t.get i=some o∧i≠id:=by
  intro i o hi;rw[Tr.get_cut]at hi;split at hi
  ·cases hi
  ·rename_i hne;exact⟨hi,fun e=>hne e.symm⟩
 refine⟨_,⟨hw,fun _ _ h=>h,fun _ h=>h⟩,?_,⟨hr.next,hr.lim,hr.res,fun k x hk=>?_,fun k o hk=>?_,hr.F,fun i o ho=>?_,fun i j x y hi hj=>hr.injL i j x y (sub i x hi).1 (sub j y hj).1,hr.io⟩⟩
 ·simp only[V,Rep];refine⟨ds.map fun d=>[d],some ⟨(m.mu id).1,off,none⟩,c,he,by rw[ACX],by rw[ACX];exact hc1,by rw[ACX];exact hlen,(fun e=>by cases e),.inr ⟨_,off,rfl,fun i row hi=>?_⟩⟩
  rw[ACw]at hi;cases hx:ds[i]? with
  |none=>rw[hx]at hi;cases hi
  |some x=>
   rw[hx]at hi;cases hi;have hlt:i<ds.length:=(ACW.1 hx).1
   obtain⟨u,h1,h2⟩:=g3 (off+i) (by omega)
   simp only[RepL,ADJ,AD6];refine⟨x,[],u,rfl,?_,Rep.wmono hw t x u (hcell i x hx u h2),rfl⟩
   simp only[Env.ecell,if_pos];exact h1
 ·have h1:=hr.EF k x hk
  have:k≠(m.mu id).1:=fun e=>by rw[e,hF]at hk;cases hk
  simp only[if_neg this];exact h1
 ·by_cases e:k=(m.mu id).1
  ·simp only[if_pos e,ACJ]at hk;subst hk;rw[e];exact g1
  ·simp only[if_neg e]at hk;exact hr.E k o hk
 ·obtain⟨l1,l2⟩:=sub i o ho;obtain⟨n1,n2,n3⟩:=hr.objL i o l1;refine⟨n1,fun lo=>⟨?_,(n2 lo).2⟩,n3.wmove hw fun _=>rfl⟩
  have:(m.mu i).1≠(m.mu id).1:=fun e=>l2 (hr.injL i id o (.blk b) l1 hb lo trivial e)
  simp only[if_neg this];exact (n2 lo).1
omit O in
theorem LL{t:Ty}:∀{as:List AV} {e:SX},Lq t as=some e→∃ds:List DV,den m.R e=.list (ds.map fun d=>[d])∧ds.length=as.length∧∀(i:Nat) (d:DV) (a:AV),ds[i]? =some d→as[i]? =some a→∀u,V m a u→Rep m t d u
 | [],e,h=>by
  simp only[Lq,ACJ]at h;subst h;exact⟨[],rfl,rfl,fun i d a hi=>by simp at hi⟩
 |a::as,e,h=>by
  simp only[Lq]at h;split at h
  ·rename_i x xs h1 h2;cases h;obtain⟨ds,e1,e2,e3⟩:=LL h2;refine⟨den m.R x::ds,?_,by simp[e2],fun i d a' hi ha u hu=>?_⟩
   ·simp only[den,e1,Du,den.denL,ACO,List.singleton_append]
   ·cases i with
    |zero=>
     simp only[ACl,ACJ]at hi ha;subst hi ha;exact Fq h1 hu
    |succ i=>exact e3 i d a' (by simpa using hi) (by simpa using ha) u hu
  ·cases h
omit O in
theorem QX{x:AV}{t:Ty}{e:SX}{v:Value}(hx:Rv x=some (t,e))(ht:Em t=true)(hv:V m x v):∃(ds:List DV) (x':AV),den m.R e=.list (ds.map fun d=>[d])∧ds.length≤maxLen∧(∀d∈ds,Rep m t d (CE d))∧
  V m x' v∧lenOf x'=some ds.length∧∀h:AHeap,BZ h 1 ds.length x'=some (ds.map fun d=>.sc (CE d)):=by
 unfold Rv at hx;split at hx
 ·cases hx;simp only[V]at hv;obtain⟨ds,e1,e2,e3,e4⟩:=Q8 ht hv;refine⟨ds,_,e1,e2,e3,e4,by simp[lenOf],fun h=>?_⟩
  have:(Nat.beq 1 1&&Nat.ble ds.length (ds.map fun x=>[AV.sc (CE x)]).length)=true:=by
   rw[ACH,ACn];simp
  simp only[BZ,this];rw[ACg (by simp),fT (fun x=>AV.sc (CE x))]
 ·cases hx;simp only[V,Rep]at hv;obtain⟨s,h1,rfl,h3⟩:=hv;refine⟨s.data.toList.map fun b=>DV.int .u8 b.toNat,.sc (.string s),by simp only[den,h1];exact WL s,by simpa using h3,fun d hd=>?_,by simp[V],by simp[lenOf],fun h=>?_⟩
  ·obtain⟨b,_,rfl⟩:=ADw.1 hd;simp only[CE,Rep];exact⟨_,rfl,rfl,(u8_in b).1,(u8_in b).2⟩
  ·simp only[BZ,ACX];rw[ACg (by simp),ADQ]
   rfl
 ·cases hx
theorem RA(hF:FactsOK m.R){ts:Array TypeId}{ty:TypeId}{consts:Array Bool}{as:List AV}{vs:Array Value}(hl:VL m as vs.toList)(hr:HR m h w){av:AV}{h':AHeap}
  (hop:MP P h ts as=some (av,h')):Good m ((builtin .append ts ty consts vs).run P w) av h':=by
 unfold MP at hop;split at hop<;>(try (cases hop;done))
 rename_i t u id off len c x hts0 hts1;split at hop<;>(try (cases hop;done))
 rename_i el du tt e hnu ht hu htl;split at hop<;>(try (cases hop;done))
 rename_i inf z b hinf hz hblk;split at hop<;>(try (cases hop;done))
 rename_i hk;simp only[ACH,ACY,ACn]at hk;obtain⟨⟨⟨⟨⟨⟨⟨hk0,hk1⟩,hk2⟩,hk3⟩,hk4⟩,hk5⟩,hk6⟩,hk7⟩:=hk;subst hk1;split at hop<;>(try (cases hop;done))
 rename_i old hold hlen;cases hop;simp only[VL]at hl;obtain⟨sv,us,hvs,hs,xv,us',rfl,hx,rfl⟩:=hl;obtain rfl:vs=#[sv,xv]:=by apply ADX;simpa using hvs
 obtain⟨ds,x',e1,e2,e3,e4,e5,e6⟩:=QX htl hk0 hx;have hl2:=Bv hF hlen
 simp only[den,e1,Bm,AZ,DV.bool.injEq,ACK,ACX]at hl2;have hn:ds.length≤1000000:=by simp at hl2;omega
 have hall:(ds.map fun d=>AV.sc (CE d)).all BW=true:=by
  rw[ACt];intro y hy;obtain⟨d,hd,rfl⟩:=ADw.1 hy;exact bj hk0 (e3 d hd)
 have hcond:(Nat.ble ((c+ds.length)*inf.bytes) 140737488355328&&Nat.ble (c+ds.length) 9223372036854775807&&Nat.beq z.length inf.size&&Nat.ble 1 inf.size&&Nat.ble 1 inf.bytes)=true:=by
  simp only[ACH,ACn,ACY];refine⟨⟨⟨⟨?_,by omega⟩,by rw[hk3,hk2]⟩,by omega⟩,hk4⟩
  have:(c+ds.length)*inf.bytes≤2000000*inf.bytes:=ACx _ (by omega)
  omega
 have hnew:((ds.map fun d=>AV.sc (CE d)).all BW&&Nat.beq (ds.map fun d=>AV.sc (CE d)).length (ds.length*inf.size))=true:=by
  rw[hall,hk2,ACX,AD6,ADv];rfl
 have fin:∀(m':Env) (h1:AHeap) (w':World) (v:Value) (id1 off1:Nat) (cap:Option Nat) (b1:Blk),m.le m'→HR m' h1 w'→V m' (.sl id1 off1 (c+ds.length) cap) v→h1.t.get id1=some (.blk b1)→off1+(c+ds.length)≤b1.n→
   (∀i,i<c→b1.cell (off1+i)=b.cell (off+i))→(∀i d,ds[i]? =some d→b1.cell (off1+(c+i))=.sc (CE d))→(∀i o,(h.t.cut id).get i=some o→i≠id1∧h1.t.get i=some o)→(h1.next=h.next∧h1.lim=h.lim∨h1.next=h.lim∧h1.lim=h.lim+1)→
   ∃m2,m.le m2∧V m2 (.sy (.slice [tt]) (.cat old e)) v∧HR m2 {next:=h.lim,lim:=Nat.succ h.lim,t:=h.t.cut id} w':=by
  intro m' h1 w' v id1 off1 cap b1 hm hr1 hv hb1 hn1 hc1 hc2 hget hnext;obtain⟨os,o1,o2,o3⟩:=LL (m:=m') hold;rw[Ao]at o2;have hlen2:(os++ds).length=c+ds.length:=by rw[ACT,o2]
  have hcat:den m'.R (.cat old e)=.list ((os++ds).map fun d=>[d]):=by
   have e1':den m'.R e=.list (ds.map fun d=>[d]):=by rw[hm.R];exact e1
   simp only[den,o1,e1',Du,ACd]
  obtain⟨m2,q1,q2,q3⟩:=br (t:=tt) (E:=.cat old e) (ds:=os++ds) hr1 (by rw[hlen2];exact hv) hb1 (by rw[hlen2];exact hn1) hcat (by rw[hlen2];unfold maxLen;omega) (fun i d hi u hu=>by
   rcases ADd i c with hlt|hge
   ·rw[ACc (by omega)]at hi
    rw[hc1 i hlt]at hu;exact o3 i d (b.cell (off+i)) hi (BC b c off i hlt) u hu
   ·rw[ACV (by omega),o2]at hi
    have:=hc2 (i-c) d hi
    rw[show c+(i-c)=i by omega]at this
    rw[this]at hu;simp only[V]at hu;subst hu;exact Yo hk0 (e3 d (ACf.2 ⟨_,hi⟩)))
  refine⟨m2,hm.trans q1,q2,?_⟩
  have hsub:∀i o,(h.t.cut id).get i=some o→(h1.t.cut id1).get i=some o:=by
   intro i o hi;obtain⟨k1,k2⟩:=hget i o hi;rw[Tr.get_cut,if_neg (fun e=>k1 e.symm)]
   exact k2
  rcases hnext with ⟨n1,n2⟩|⟨n1,n2⟩
  ·exact (HR.sub (h2:={next:=h.next,lim:=h.lim,t:=h.t.cut id}) q3 n1.symm n2.symm hsub).skip
  ·exact HR.sub q3 n1.symm n2.symm hsub
 have cutne:∀i o,(h.t.cut id).get i=some o→i≠id∧h.t.get i=some o:=by
  intro i o hi;rw[Tr.get_cut]at hi;split at hi
  ·cases hi
  ·rename_i hne;exact⟨fun e=>hne e.symm,hi⟩
 have e5':lenOf (AV.sl id off c (some c))=some c:=rfl
 have hrc:=e6 h
 rw[←hk2]at hrc;cases hn0:ds.length with
 |zero=>
  have hble:Nat.ble (c+0) c=true:=by rw[ACn];omega
  have hblk2:Nat.ble (off+(c+0)*inf.size) b.n=true:=by rw[ACn,hk2];omega
  have hds:ds=[]:=ACi.1 hn0
  subst hds;have hop2:A7 P h .append ts ty [.sl id off c (some c),x']=some (.sl id off (c+0) (some c),h.put id (.blk b)):=by
   have hnew0:(([]:List AV).all BW&&Nat.beq ([]:List AV).length (0*inf.size))=true:=by rw[AD3];rfl
   simp only[ADU,ACS]at e5 hrc hcond;simp only[A7,EX,hts0,hts1,ht,hu,hinf,hz,e5',e5,hcond,hrc,hnew0,hble,hblk,hblk2];rfl
  obtain⟨v,w',m',k1,k2,k3,k4⟩:=Da (P:=P) (consts:=consts) hs e4 hr hop2;obtain⟨m2,q1,q2,q3⟩:=fin m' _ w' v id off (some c) b k2 k4 k3 (by simp[AHeap.put,Tr.get_put]) (by simp;omega) (fun i _=>rfl) (fun i d hi=>by simp at hi) (fun i o hi=>by
   obtain⟨g1,g2⟩:=cutne i o hi;refine⟨g1,?_⟩
   simp only[AHeap.put,Tr.get_put];rw[if_neg (fun e=>g1 e.symm)]
   exact g2) (.inl ⟨rfl,rfl⟩)
  exact⟨v,w',m2,k1,q1,q2,q3⟩
 |succ n=>
  have hble:Nat.ble (c+ds.length) c=false:=by
   rw[←Bool.not_eq_true,ACn];omega
  have hblk2:Nat.ble (off+c*inf.size) b.n=true:=by rw[ACn,hk2];omega
  have hop2:A7 P h .append ts ty [.sl id off c (some c),x']=some (.sl h.next 0 (c+ds.length) none,h.alloc (.blk {t:=el,row:=true,sz:=inf.size,n:=(c+ds.length)*inf.size,z:=[],c:=Blk.putAll .nil 0 (b.cellsFrom off (c*inf.size)++ds.map fun d=>AV.sc (CE d))})):=by
   simp only[A7,EX,hts0,hts1,ht,hu,hinf,hz,e5',e5,hcond,hrc,hnew,hble,hblk,hblk2]
  obtain⟨v,w',m',k1,k2,k3,k4⟩:=Da (P:=P) (consts:=consts) hs e4 hr hop2;have hcl:(b.cellsFrom off c).length=c:=Ao _ _ _
  obtain⟨m2,q1,q2,q3⟩:=fin m' _ w' v h.next 0 none {t:=el,row:=true,sz:=1,n:=c+ds.length,z:=[],c:=Blk.putAll .nil 0 (b.cellsFrom off c++ds.map fun d=>AV.sc (CE d))} k2 k4 k3 (by
   simp only[AHeap.alloc,Tr.get_put,if_true,hk2,AD6]) (by simp) (fun i hi=>by
   unfold Blk.cell;rw[CD,if_pos ⟨ADO _,by rw[ACT,hcl];omega⟩,ADo,ACk,ACc (by omega),BC b c off i hi]
   rfl) (fun i d hi=>by
   have hlt:=(ACW.1 hi).1
   unfold Blk.cell;rw[CD,if_pos ⟨ADO _,by rw[ACT,hcl,ACX];omega⟩,ADo,ACk,ACV (by omega),hcl,AD2,ACw,hi]
   rfl) (fun i o hi=>by
   obtain⟨g1,g2⟩:=cutne i o hi;have hd:=(hr.next i (hr.objL i o g2).1).1
   refine⟨hd,?_⟩
   simp only[AHeap.alloc,Tr.get_put];rw[if_neg (fun e=>hd e.symm)]
   exact g2) (.inr ⟨rfl,rfl⟩)
  exact⟨v,w',m2,k1,q1,q2,q3⟩
def Names(R:Rho)(ts:List Ty)(l:List (List DV))(as:List AV):Prop:=
 as.length=l.length*ts.length∧(∀row∈l,row.length=ts.length)∧
  ∀(i j:Nat) (row:List DV) (t:Ty) (d:DV) (a:AV),l[i]? =some row→ts[j]? =some t→row[j]? =some d→as[i*ts.length+j]? =some a→∀m':Env,m'.R=R→∀u,V m' a u→Rep m' t d u
omit O in
theorem jz(e:SX)(cs:List Ty):∀n i,(rowsOf e cs i n).flatten.all BW=true:=by
 intro n i;rw[ACt];intro x hx;obtain⟨l,hl,hxl⟩:=List.mem_flatten.1 hx;have h1:∀n i,∀l∈rowsOf e cs i n,∀x∈l,BW x=true:=by
  intro n
  induction n with
  |zero=>intro i l hl;simp[rowsOf]at hl
  |succ n ih=>
   intro i l hl x hx;simp only[rowsOf,ACU]at hl;rcases hl with rfl|hl
   ·have h2:∀(cs:List Ty) k,∀x∈Ac e (.ki .i64 (.ofNat i)) k cs,BW x=true:=by
     intro cs
     induction cs with
     |nil=>intro k x hx;simp[Ac]at hx
     |cons t ts ih2=>
      intro k x hx;simp only[Ac,ACU]at hx;rcases hx with rfl|hx
      ·rfl
      ·exact ih2 _ x hx
    exact h2 _ _ x hx
   ·exact ih _ l hl x hx
 exact h1 _ _ l hl x hxl
omit O in
theorem Names.ofRows{R:Rho}{e:SX}{ts:List Ty}{l:List (List DV)}(he:den R e=.list l)(hl:∀row∈l,row.length=ts.length):Names R ts l (rowsOf e ts 0 l.length).flatten:=by
 refine⟨EU e ts _ _,hl,fun i j row t d a h1 h2 h3 h4 m' hR u hu=>?_⟩
 have hi:i<l.length:=(ACW.1 h1).1
 have hj:j<ts.length:=(ACW.1 h2).1
 rw[Ms hj l.length 0 i hi,ACk,FD h2,ACJ]at h4;subst h4;simp only[V,den,hR,he,atD]at hu;simpa[ACI,h1,h3]using hu
omit O in
theorem Names.append{R:Rho}{ts:List Ty}{l1 l2:List (List DV)}{a1 a2:List AV}(h1:Names R ts l1 a1)(h2:Names R ts l2 a2):Names R ts (l1++l2) (a1++a2):=by
 refine⟨by rw[ACT,ACT,h1.1,h2.1,ADH],fun row hr=>(ADR.1 hr).elim (h1.2.1 row) (h2.2.1 row),fun i j row t d a e1 e2 e3 e4=>?_⟩
 have hj:j<ts.length:=(ACW.1 e2).1
 by_cases hi:i<l1.length
 ·rw[ACc hi]at e1;have:i*ts.length+j<a1.length:=by
   rw[h1.1];have:i*ts.length+ts.length≤l1.length*ts.length:=by rw[←AEJ];exact ACx _ hi
   omega
  rw[ACc this]at e4;exact h1.2.2 i j row t d a e1 e2 e3 e4
 ·rw[ACV (by omega)]at e1
  have hsub:(i-l1.length)*ts.length=i*ts.length-l1.length*ts.length:=Nat.sub_mul _ _ _
  have hle:l1.length*ts.length≤i*ts.length:=ACx _ (by omega)
  rw[ACV (by rw[h1.1];omega),h1.1]at e4
  exact h2.2.2 (i-l1.length) j row t d a e1 e2 e3 (by rw[hsub,←e4];congr 1;omega)
omit O in
theorem aX{t:Ty}{a:AV}{e:SX}(h:Fb t a=some e):BW a=true:=by
 unfold Fb at h;split at h
 ·rfl
 ·split at h<;>first|(cases h;done)|rfl
 ·cases h
omit O in
theorem It:∀{ts:List Ty} {as r:List AV} {es:List SX},Gk ts as=some (es,r)→∃cs,as=cs++r∧cs.length=ts.length∧es.length=ts.length∧cs.all BW=true∧∀(j:Nat) (t:Ty) (e:SX) (a:AV),ts[j]? =some t→es[j]? =some e→cs[j]? =some a→Fb t a=some e
 | [],as,r,es,h=>by
  simp only[Gk,ACJ,ACP]at h;obtain⟨rfl,rfl⟩:=h;exact⟨[],rfl,rfl,rfl,rfl,fun j t e a h=>by simp at h⟩
 |t::ts,[],r,es,h=>by simp[Gk]at h
 |t::ts,a::as,r,es,h=>by
  simp only[Gk]at h;split at h
  ·rename_i e es' r' h1 h2;cases h;obtain⟨cs,rfl,k1,k2,k3,k4⟩:=It h2;refine⟨a::cs,rfl,by simp[k1],by simp[k2],by simp[k3,aX h1],fun j t' e' a' g1 g2 g3=>?_⟩
   cases j with
   |zero=>
    simp only[ACl,ACJ]at g1 g2 g3;subst g1 g2 g3;exact h1
   |succ j=>exact k4 j t' e' a' (by simpa using g1) (by simpa using g2) (by simpa using g3)
  ·cases h
omit O in
theorem Names.row{R:Rho}{ts:List Ty}{es:List SX}{cs:List AV}(h1:cs.length=ts.length)(h2:es.length=ts.length)(h3:∀(j:Nat) (t:Ty) (e:SX) (a:AV),ts[j]? =some t→es[j]? =some e→cs[j]? =some a→Fb t a=some e):Names R ts [es.map (den R)] cs:=by
 refine⟨by simp[h1],fun row hr=>?_,fun i j row t d a e1 e2 e3 e4 m' hR u hu=>?_⟩
 ·simp only[ACs]at hr;subst hr;simp[h2]
 ·cases i with
  |zero=>
   simp only[ACl,ACJ]at e1;subst e1;rw[ACw]at e3;rw[AD3,ACk]at e4;cases he:es[j]? with
   |none=>rw[he]at e3;cases e3
   |some e=>
    rw[he]at e3;simp only[ADF,ACJ]at e3;subst e3;rw[←hR];exact Fq (h3 j t e a e2 he e4) hu
  |succ i=>simp at e1
omit O in
theorem D8(R:Rho):∀es:List SX,den.denL R es=es.map (den R)
 | []=>rfl
 |e::es=>by simp only[den.denL,D8 R es,ACO]
omit O in
theorem JL(R:Rho){ts:List Ty}:∀{n:Nat} {as:List AV} {e:SX},Kb ts n as=some e→as.length=n*ts.length→∃l,den R e=.list l∧l.length=n∧Names R ts l as∧as.all BW=true
 |0,as,e,h,hl=>by
  simp only[Kb,ACJ]at h;subst h;have:as=[]:=ACi.1 (by simpa using hl)
  subst this;exact⟨[],rfl,rfl,⟨by simp,by simp,fun i j row t d a h=>by simp at h⟩,rfl⟩
 |1,as,e,h,hl=>by
  simp only[Kb]at h;split at h
  ·rename_i es r hc;cases h;obtain⟨cs,rfl,k1,k2,k3,k4⟩:=It hc;have:r=[]:=by
    rw[ACT,k1]at hl;exact ACi.1 (by omega)
   subst this;rw[ADg];exact⟨[es.map (den R)],by simp only[den,D8],rfl,.row k1 k2 k4,k3⟩
  ·cases h
 |n+2,as,e,h,hl=>by
  simp only[Kb]at h;split at h
  ·rename_i es r hc;split at h
   ·rename_i x hx;cases h;obtain⟨cs,rfl,k1,k2,k3,k4⟩:=It hc;obtain⟨l,e1,e2,e3,e4⟩:=JL R (n:=n+1) hx (by
     rw[ACT,k1]at hl;have:(n+2)*ts.length=(n+1)*ts.length+ts.length:=AEJ (n+1) _
     omega)
    refine⟨es.map (den R)::l,by simp only[den,D8,e1,Du];rfl,by simp[e2],?_,by simp[k3,e4]⟩
    exact Names.append (l1:=[es.map (den R)]) (.row k1 k2 k4) e3
   ·cases h
  ·cases h
theorem OV(hF:FactsOK m.R){e:SX}{l:List (List DV)}(h:Nn e=true)(he:den m.R e=.list l):l.length≤1000000:=by
 unfold Nn at h;split at h
 ·simp only[den,DV.list.injEq]at he;subst he;simp
 ·simp only[den,DV.list.injEq]at he;subst he;simp
 ·split at h
  ·rename_i hl;have:=Bv hF hl
   simp only[den,he,Bm,AZ,DV.bool.injEq,ACK]at this;simp at this;omega
  ·cases h
theorem QY(hF:FactsOK m.R){ts:List Ty}{x:AV}{x':SX}{xv:Value}(hx:Rw h ts x=some x')(hv:V m x xv):
  ∃(l:List (List DV)) (y:AV) (as:List AV),den m.R x'=.list l∧l.length≤1000000∧Names m.R ts l as∧as.all BW=true∧V m y xv∧lenOf y=some l.length∧
   ∀h2:AHeap,(∀i b,h.blk? i=some b→h2.blk? i=some b)→BZ h2 ts.length l.length y=some as:=by
 have bytes:∀(e:SX) (l0:List DV),ts=[.int .u8]→Rv (.sy .str e)=some (.int .u8,.bytes e)→V m (.sy .str e) xv→(∀l,den m.R (.bytes e)=.list l→l.length≤1000000)→∃(l:List (List DV)) (y:AV) (as:List AV),den m.R (.bytes e)=.list l∧l.length≤1000000∧Names m.R ts l as∧as.all BW=true∧V m y xv∧lenOf y=some l.length∧
   ∀h2:AHeap,(∀i b,h.blk? i=some b→h2.blk? i=some b)→BZ h2 ts.length l.length y=some as:=by
  rintro e _ rfl ht hv hle;obtain⟨ds,y,e1,e2,e3,e4,e5,e6⟩:=QX ht rfl hv;refine⟨_,y,ds.map fun d=>.sc (CE d),e1,hle _ e1,⟨by simp,fun row hr=>?_,fun i j row t d a k1 k2 k3 k4 m' hR u hu=>?_⟩,?_,e4,by rw[ACX];exact e5,fun h2 _=>by rw[ACX];exact e6 h2⟩
  ·obtain⟨d,_,rfl⟩:=ADw.1 hr;rfl
  ·have hj:j=0:=by
    have:=(ACW.1 k2).1
    simpa using this
   subst hj;rw[ACw]at k1;cases hd:ds[i]? with
   |none=>rw[hd]at k1;cases k1
   |some d0=>
    rw[hd]at k1;cases k1;simp only[ACl,ACJ]at k2 k3;subst k2 k3;simp only[ACe,ADU,ACk,AD6,ADf,ACw,hd,ADF,ACJ]at k4;subst k4;simp only[V]at hu;subst hu;exact Yo rfl (e3 d0 (ACf.2 ⟨i,hd⟩))
  ·rw[ACt];intro x hx;obtain⟨d,hd,rfl⟩:=ADw.1 hx;exact bj rfl (e3 d hd)
 unfold Rw at hx;split at hx
 ·rename_i us e;split at hx<;>(try (cases hx;done))
  rename_i hk;simp only[ACH]at hk;cases hx;obtain rfl:=BS hk.1;simp only[V]at hv;obtain⟨es,e1,e2,e3,e4⟩:=Ic hv;have hrow:∀row∈es,row.length=ts.length:=by
   intro row hr;obtain⟨i,hi⟩:=ACf.1 hr;rcases e4 i row hi with q|q|q
   ·exact q
   ·have:=(ACW.1 hi).1
    omega
   ·rw[q]at e3;simp only[V]at e3;obtain⟨a,c,q2,_⟩:=e3;rw[Ak]at q2;simp only[Value.slice.injEq]at q2;have:=(ACW.1 hi).1
    omega
  refine⟨es,_,_,e1,OV hF hk.2 e1,.ofRows e1 hrow,jz _ _ _ _,e3,by simp[lenOf,Ak],fun h2 _=>?_⟩
  simp only[BZ,Ak,ADv];rw[show Nat.ble es.length es.length=true by rw[ACn];omega]
  simp only[Bool.and_self];rw[ACg (by rw[Ak];omega)]
 ·rename_i e;split at hx<;>(try (cases hx;done))
  rename_i hk;simp only[ACH]at hk;cases hx;exact bytes e [] (BS hk.1) rfl hv fun l hl=>OV hF hk.2 hl
 ·rename_i s;split at hx<;>(try (cases hx;done))
  rename_i hk;simp only[ACH,ACn]at hk;cases hx;simp only[V]at hv;subst hv;refine bytes (.ks s) [] (BS hk.1) rfl (by simp only[V,den,Rep];exact⟨s,rfl,rfl,by unfold maxLen;omega⟩) fun l hl=>?_
  simp only[den,Eo,DV.list.injEq]at hl;subst hl;simp only[ACX,ACp];have:s.data.size=s.size:=rfl
  omega
 ·cases hx;simp only[V]at hv;subst hv;exact⟨[],.sc (.slice none 0 0),[],rfl,by simp,⟨by simp,by simp,fun i j row t d a h=>by simp at h⟩,rfl,by simp[V],rfl,fun h2 _=>rfl⟩
 ·cases hx;exact⟨[],_,[],rfl,by simp,⟨by simp,by simp,fun i j row t d a h=>by simp at h⟩,rfl,hv,rfl,fun h2 _=>rfl⟩
 ·rename_i id off len cap;split at hx<;>(try (cases hx;done))
  rename_i b hle hb;split at hx<;>(try (cases hx;done))
  rename_i hn;rw[ACn]at hle hn;obtain⟨l,e1,e2,e3,e4⟩:=JL m.R hx (Ao _ _ _);refine⟨l,_,_,e1,by omega,e3,e4,hv,by simp[lenOf,e2],fun h2 hh=>?_⟩
  rw[e2];exact LH (hh id b hb) hn
 ·cases hx
omit O in
theorem HR.phantom{m:Env}{h:AHeap}{w:World}(hr:HR m h w)(t:TypeId)(ts:List Ty)(e:SX):m.le (m.add h.next (0,0))∧HR (m.add h.next (0,0)) (h.alloc (.grow t ts e)) w:=by
 have hle:=hr.le_add (0,0)
 have hlim:=hr.lim
 have get:∀i x,(h.alloc (.grow t ts e)).t.get i=some x→(i=h.next∧x=.grow t ts e)∨(i≠h.next∧h.t.get i=some x):=by
  intro i x hi;simp only[AHeap.alloc,Tr.get_put]at hi
  by_cases e:h.next=i
  ·subst e;simp only[if_true,ACJ]at hi;exact .inl ⟨rfl,hi.symm⟩
  ·simp only[e,if_false]at hi;exact .inr ⟨Ne.symm e,hi⟩
 refine⟨hle,fun i hd=>?_,by simp only[AHeap.alloc];omega,fun i hd=>?_,hr.EF,hr.E,hr.F,fun i y hy=>?_,fun i j a b ha hb li lj e=>?_,hr.io⟩
 ·simp only[AHeap.alloc];rcases hd with hd|rfl
  ·have:=hr.next i hd
   omega
  ·omega
 ·simp only[AHeap.alloc];obtain⟨h1,h2,h3⟩:=hr.res i hd;refine⟨?_,by omega,by omega⟩
  rintro (h4|h4)
  ·exact h1 h4
  ·exact h2 h4
 ·rcases get i y hy with ⟨rfl,rfl⟩|⟨h1,h2⟩
  ·exact⟨by simp,fun hl=>absurd (by simp) hl,.inl (by simp)⟩
  ·obtain⟨k1,k2,k3⟩:=hr.objL i y h2;rw[hle.mu i k1];exact⟨hle.dom i k1,k2,k3.move hle fun _=>rfl⟩
 ·rcases get i a ha with ⟨rfl,rfl⟩|⟨h1,h2⟩
  ·exact absurd (by simp) li
  ·rcases get j b hb with ⟨rfl,rfl⟩|⟨k1,k2⟩
   ·exact absurd (by simp) lj
   ·rw[hle.mu i (hr.objL i a h2).1]at e li;rw[hle.mu j (hr.objL j b k2).1]at e lj;exact hr.injL i j a b h2 k2 li lj e
omit O in
theorem Sw{m:Env}{H H2:AHeap}{w:World}{id N:Nat}{B:Blk}{v:Value}{t:TypeId}{ts:List Ty}{E:SX}{L:List (List DV)}{as:List AV}(hr:HR m H w)(hg:H.t.get id=some (.blk B))(hv:V m (.sl id 0 N none) v)
  (hE:den m.R E=.list L) (hN:L.length=N) (hts:1≤ts.length) (hnm:Names m.R ts L as) (hrow:B.row=true) (hsz:B.sz=ts.length) (ht:B.t=t) (hn:B.n=N*ts.length) (hc:∀k,k<N*ts.length→B.cell k=(as[k]?).getD .dead)
  (hnx:H2.next=H.next) (hlm:H2.lim=H.lim) (hget:∀i o,H2.t.get i=some o→(i=id∧o=.grow t ts E)∨(i≠id∧H.t.get i=some o)):
  V m (.own id ts E) v∧HR m H2 w:=by
 obtain⟨g1,g2,g3⟩:=hr.obj id _ hg;obtain⟨c,b1,b2,b3,b4⟩:=(show BR m (m.mu id) B w from g3);obtain⟨b5,b6,_⟩:=b4 hrow;simp only[V]at hv;obtain⟨hd,cap,rfl,c1,_,c2⟩:=hv;obtain rfl:cap=(m.mu id).2:=c2 trivial trivial;refine⟨?_,fun i hi=>by rw[hnx,hlm];exact hr.next i hi,by rw[hnx,hlm];exact hr.lim,fun i hi=>by rw[hnx,hlm];exact hr.res i hi,hr.EF,hr.E,hr.F,fun i o ho=>?_,fun i j x y hx hy li lj e=>?_,hr.io⟩
 ·simp only[V];exact⟨hd,L,_,hE,by rw[hN],by rw[hN];exact c1,b6,(fun e=>by cases e),fun _=>rfl⟩
 ·rcases hget i o ho with ⟨rfl,rfl⟩|⟨_,h1⟩
  ·refine⟨hd,fun _=>g2,.inr (.inl ⟨L,hE,hnm.2.1,by rw[hN];exact c1,hts,c,by rw[b1,ht];rfl,?_,fun k hk=>?_,fun _=>⟨by show _*ts.length≤_;rw[←hsz];exact b5,b6,by show L.length*ts.length≤_*ts.length;rw[hN];exact ACx _ c1⟩⟩)⟩
   ·show L.length*ts.length≤c.size
    rw[hN,←hn];exact b2
   ·have hk':k<N*ts.length:=by rw[←hN];exact hk
    obtain⟨u,u1,u2⟩:=b3 k (by rw[hn];exact hk')
    refine⟨u,u1,?_⟩
    have hi:k / ts.length<N:=(AEL hts).2 hk'
    have hj:k%ts.length<ts.length:=AD4 _ hts
    have hkk:k / ts.length*ts.length+k%ts.length=k:=by rw[ADT];exact AEM k _
    have e1:L[k / ts.length]? =some L[k / ts.length]:=ACL (by omega)
    have e2:ts[k%ts.length]? =some ts[k%ts.length]:=ACL hj
    have e3:L[k / ts.length][k%ts.length]? =some (L[k / ts.length][k%ts.length]'(by rw[hnm.2.1 _ (AC7 _)];exact hj)):=ACL _
    have hka:k<as.length:=by rw[hnm.1,hN];exact hk'
    have e4:as[k / ts.length*ts.length+k%ts.length]? =some as[k]:=by rw[hkk];exact ACL hka
    rw[hc k hk',ACL hka,ACo]at u2;have hrep:=hnm.2.2 _ _ _ _ _ _ e1 e2 e3 e4 m rfl u u2
    have hcell:(BH t ts E L.length).cell k=.sy ts[k%ts.length] (.at E (.ki .i64 (.ofNat (k / ts.length))) (k%ts.length)):=by
     unfold Blk.cell BH;simp only[CD];rw[if_pos ⟨ADO _,by rw[EU,hN];omega⟩,ADo]
     have:=Ms (e:=E) hj L.length 0 (k / ts.length) (by omega)
     rw[hkk,ACk,FD e2,ACk]at this;rw[this]
    rw[hcell];simp only[V,den,hE,atD,ACZ,AC5,ACI,e1,ACo,e3];exact hrep
  ·exact hr.objL i o h1
 ·have lift:∀i x,H2.t.get i=some x→live x (m.mu i)→∃y,H.t.get i=some y∧live y (m.mu i):=by
   intro i x hx lx;rcases hget i x hx with ⟨rfl,rfl⟩|⟨_,h1⟩
   ·exact⟨_,hg,trivial⟩
   ·exact⟨x,h1,lx⟩
  obtain⟨x',hx',lx'⟩:=lift i x hx li;obtain⟨y',hy',ly'⟩:=lift j y hy lj;exact hr.injL i j x' y' hx' hy' lx' ly' e
theorem na(hF:FactsOK m.R){id:Nat}{tys:List Ty}{e e':SX}{v:Value}(he:eN e e'=true)(hv:V m (.own id tys e) v):V m (.own id tys e') v:=by
 unfold eN at he;split at he
 ·rename_i h;exact JK h hv
 split at he<;>(try (cases he;done))
 rename_i h;obtain rfl:=Aw h;unfold qH at he;split at he<;>(try (cases he;done))
 rename_i hl;have hl:=Bv hF hl
 simp only[V]at hv⊢;obtain⟨hd,l,a,d1,d2,d3,d4,d5,d6⟩:=hv;have:∃l',den m.R e'=.list l'∧l'.length=l.length:=by
  simp only[den]at d1 hl;cases hx:den m.R e' with
  |list l'=>
   rw[hx]at d1;simp only[Bm,Eo,DV.list.injEq]at d1;exact⟨l',rfl,by rw[←d1];simp⟩
  |str s=>rw[hx]at hl;simp[Bm,Du,AZ]at hl
  |int k z=>rw[hx]at d1;simp[Bm,Eo]at d1
  |bool b=>rw[hx]at d1;simp[Bm,Eo]at d1
 obtain⟨l',e1,e2⟩:=this;exact⟨hd,l',a,e1,by rw[e2];exact d2,by rw[e2];exact d3,d4,d5,d6⟩
theorem NT(hF:FactsOK m.R){ts:Array TypeId}{ty:TypeId}{consts:Array Bool}{as:List AV}{vs:Array Value}(hl:VL m as vs.toList)(hr:HR m h w){av:AV}{h':AHeap}
  (hop:PG P h ts as=some (av,h')):Good m ((builtin .append ts ty consts vs).run P w) av h':=by
 unfold PG at hop;split at hop<;>(try (cases hop;done))
 rename_i t u id tys e0 x hts0 hts1;split at hop<;>(try (cases hop;done))
 rename_i el du hnu ht hu;split at hop<;>(try (cases hop;done))
 rename_i inf z t' tys' e hinf hz hob;split at hop<;>(try (cases hop;done))
 rename_i hk;simp only[ACH,ACY,ACn]at hk;obtain⟨⟨⟨⟨⟨⟨⟨⟨rfl,ht2⟩,he2⟩,hsz⟩,hzl⟩,hs1⟩,hb1⟩,hbound⟩,hfew⟩:=hk;obtain rfl:=BS ht2;split at hop<;>(try (cases hop;done))
 rename_i x' hx';cases hop;simp only[VL]at hl;obtain⟨sv,us,hvs,hs,xv,us',rfl,hx,rfl⟩:=hl;obtain rfl:vs=#[sv,xv]:=by apply ADX;simpa using hvs
 obtain⟨l2,y,as,e1,e2,e3,e4,e5,e6,e7⟩:=QY hF hx' hx;have hs:=na hF he2 hs
 simp only[V]at hs;obtain⟨hd,l,a,d1,rfl,d2,d3,d4,d5⟩:=hs;have hl1:=OV hF hfew d1
 have hden:∀m':Env,m.le m'→den m'.R (.cat e x')=.list (l++l2):=fun m' hm=>by rw[hm.R];simp only[den,d1,e1,Du]
 have hnew:(as.all BW&&Nat.beq as.length (l2.length*inf.size))=true:=by rw[e4,e3.1,hsz,ADv];rfl
 have hcond:∀k,k≤1000000→(Nat.ble ((k+l2.length)*inf.bytes) 140737488355328&&Nat.ble (k+l2.length) 9223372036854775807&&Nat.beq z.length inf.size&&Nat.ble 1 inf.size&&Nat.ble 1 inf.bytes)=true:=by
  intro k hk;simp only[ACH,ACn,ACY];refine⟨⟨⟨⟨?_,by omega⟩,hzl⟩,hs1⟩,hb1⟩
  have:(k+l2.length)*inf.bytes≤2000000*inf.bytes:=ACx _ (by omega)
  omega
 have hts:1≤tys.length:=by omega
 by_cases hp:(m.mu id).2=0
 ·have hl0:l=[]:=ACi.1 (by omega)
  subst hl0;have hs0:V m (.emp 0) (.slice a ([]:List (List DV)).length (m.mu id).2):=by
   simp only[V];exact⟨a,_,rfl,fun _=>hp,d4⟩
  have hr1:=hr.cut id
  have h7:=e7 {h with t:=h.t.cut id} (fun i b hb=>by
   unfold AHeap.blk? at hb⊢;simp only[Tr.get_cut]
   by_cases e:id=i
   ·subst e;rw[hob]at hb;cases hb
   ·rw[if_neg e];exact hb)
  rw[←hsz]at h7;cases hn0:l2.length with
  |zero=>
   have hl2:l2=[]:=ACi.1 hn0
   have hop2:A7 P {h with t:=h.t.cut id} .append ts ty [.emp 0,y]=some (.emp 0,{h with t:=h.t.cut id}):=by
    have hc:=hcond 0 (by omega)
    have hle:lenOf (.emp 0)=some 0:=rfl
    rw[hn0]at e6 hc h7 hnew;cases du<;>first
     |exact (hnu _ rfl).elim
     |simp only[A7,EX,hts0,hts1,ht,hu,hinf,hz,hle,e6,hc,h7,hnew]
   obtain⟨v,w',m',k1,k2,k3,k4⟩:=Da (P:=P) (consts:=consts) hs0 e5 hr1 hop2;obtain⟨q1,q2⟩:=k4.phantom t' tys (.cat e x');refine⟨v,w',_,k1,k2.trans q1,?_,q2⟩
   simp only[V]at k3⊢;obtain⟨a',c',rfl,c1,c2⟩:=k3;have hc0:=c1 trivial
   subst hc0;refine⟨by simp[AHeap.alloc],[],a',?_,?_,?_,?_,?_,?_⟩
   ·rw[hden _ (k2.trans q1),hl2];rfl
   ·simp
   ·simp
   ·simp
   ·simp
   ·simp
  |succ n0=>
   have hop2:A7 P {h with t:=h.t.cut id} .append ts ty [.emp 0,y]=some (.sl h.next 0 l2.length none,AHeap.alloc {h with t:=h.t.cut id} (.blk {t:=t',row:=true,sz:=inf.size,n:=l2.length*inf.size,z:=[],c:=Blk.putAll .nil 0 as})):=by
    have hc:=hcond 0 (by omega)
    have hle:lenOf (.emp 0)=some 0:=rfl
    rw[hn0]at e6 hc h7 hnew⊢;rw[ACk]at hc;cases du<;>first
     |exact (hnu _ rfl).elim
     |simp only[A7,EX,hts0,hts1,ht,hu,hinf,hz,hle,e6,hc,h7,hnew,ADD,ACk]
   obtain⟨v,w',m',k1,k2,k3,k4⟩:=Da (P:=P) (consts:=consts) hs0 e5 hr1 hop2;have hR:m'.R=m.R:=k2.R
   obtain⟨q1,q2⟩:=Sw (t:=t') (ts:=tys) (E:=.cat e x') (L:=[]++l2) (as:=as) (H2:=AHeap.alloc {h with t:=h.t.cut id} (.grow t' tys (.cat e x'))) k4 (id:=h.next) (by simp[AHeap.alloc,Tr.get_put];rfl) k3 (hden m' k2) (by simp) hts (by rw[hR];simpa using e3) rfl hsz rfl (by rw[←hsz])
    (fun k hk=>by
     unfold Blk.cell;rw[CD,if_pos ⟨ADO _,by rw[e3.1];omega⟩,ADo]
     rw[ACL (by rw[e3.1];omega)]
     rfl) rfl rfl (fun i o ho=>by
     simp only[AHeap.alloc,Tr.get_put]at ho⊢
     by_cases e:h.next=i
     ·subst e;simp only[if_true,ACJ]at ho;exact .inl ⟨rfl,ho.symm⟩
     ·simp only[e,if_false]at ho⊢;exact .inr ⟨Ne.symm e,ho⟩)
   exact⟨v,w',m',k1,k2,q1,q2⟩
 ·obtain⟨o1,o2,o3⟩:=hr.obj id _ hob hp;rcases GR.own (show GR m (m.mu id) t' tys e w from o3) (by assumption) with o3|⟨l',g1,g2,g3,g4,g5⟩
  ·exact absurd o3 hp
  rw[d1]at g1;cases g1;have hr1:HR m (h.put id (.blk (BH t' tys e l.length))) w:=hr.put (o':=.blk (BH t' tys e l.length)) hob g5 (fun _ _=>rfl) rfl hp
  have hs0:V m (.sl id 0 l.length none) (.slice a l.length (m.mu id).2):=by
   simp only[V];rw[d5 hp];exact⟨hd,_,rfl,d2,(fun k e=>by cases e),fun _ _=>rfl⟩
  have hbk:(h.put id (.blk (BH t' tys e l.length))).blk? id=some (BH t' tys e l.length):=by
   unfold AHeap.blk? AHeap.put;simp[Tr.get_put]
  have h7:=e7 (h.put id (.blk (BH t' tys e l.length))) (fun i b hb=>by
   unfold AHeap.blk? AHeap.put at *;simp only[Tr.get_put]
   by_cases e:id=i
   ·subst e;rw[hob]at hb;cases hb
   ·rw[if_neg e];exact hb)
  rw[←hsz]at h7;have hrowc:((BH t' tys e l.length).row&&Nat.beq (BH t' tys e l.length).n (l.length*inf.size)&&Nat.beq (BH t' tys e l.length).sz inf.size&&Nat.beq (BH t' tys e l.length).t t')=true:=by
   simp only[BH,hsz,ADv];rfl
  have hop2:A7 P (h.put id (.blk (BH t' tys e l.length))) .append ts ty [.sl id 0 l.length none,y]=some (.sl h.next 0 (l.length+l2.length) none,
    AHeap.alloc {(h.put id (.blk (BH t' tys e l.length))) with t:=(h.put id (.blk (BH t' tys e l.length))).t.cut id} (.blk {BH t' tys e l.length with n:=(l.length+l2.length)*inf.size,c:=Blk.putAll (BH t' tys e l.length).c (l.length*inf.size) as})):=by
   have hc:=hcond l.length hl1
   have hle:lenOf (.sl id 0 l.length none)=some l.length:=rfl
   cases du<;>first
    |exact (hnu _ rfl).elim
    |(simp only[A7,EX,hts0,hts1,ht,hu,hinf,hz,hle,e6,hc,h7,hnew,hbk,hrowc];rfl)
  obtain⟨v,w',m',k1,k2,k3,k4⟩:=Da (P:=P) (consts:=consts) hs0 e5 hr1 hop2;have hR:m'.R=m.R:=k2.R
  have hnm:=(Names.ofRows (ts:=tys) d1 g2).append e3
  have hol:(rowsOf e tys 0 l.length).flatten.length=l.length*tys.length:=EU _ _ _ _
  obtain⟨q1,q2⟩:=Sw (t:=t') (ts:=tys) (E:=.cat e x') (L:=l++l2) (as:=(rowsOf e tys 0 l.length).flatten++as) (H2:=AHeap.alloc {h with t:=h.t.cut id} (.grow t' tys (.cat e x'))) k4 (id:=h.next) (by simp[AHeap.alloc,AHeap.put,Tr.get_put];rfl) k3 (hden m' k2) (by simp) hts (by rw[hR];exact hnm) rfl rfl rfl (by rw[←hsz])
   (fun k hk=>by
    have h1:({BH t' tys e l.length with n:=(l.length+l2.length)*inf.size,c:=Blk.putAll (BH t' tys e l.length).c (l.length*inf.size) as}:Blk).cell k=if l.length*inf.size≤k∧k<l.length*inf.size+as.length then (as[k-l.length*inf.size]?).getD .dead else (BH t' tys e l.length).cell k:=Eb (BH t' tys e l.length) as (l.length*inf.size) k
    rw[ADH]at hk;have hal:=e3.1
    rw[h1,hsz]
    by_cases hin:l.length*tys.length≤k
    ·rw[if_pos ⟨hin,by omega⟩,ACV (by omega),hol]
    ·rw[if_neg (by omega),ACc (by omega)]
     unfold Blk.cell BH;simp only[CD];rw[if_pos ⟨ADO _,by omega⟩,ADo,ACL (by omega)]
     rfl) rfl rfl (fun i o ho=>by
    simp only[AHeap.alloc,AHeap.put,Tr.get_put,Tr.get_cut]at ho⊢
    by_cases e:h.next=i
    ·subst e;simp only[if_true,ACJ]at ho;exact .inl ⟨rfl,ho.symm⟩
    ·simp only[e,if_false]at ho⊢;refine .inr ⟨Ne.symm e,?_⟩
     by_cases e2:id=i
     ·simp[e2]at ho
     ·simpa[e2]using ho)
  exact⟨v,w',m',k1,k2,q1,q2⟩
omit O in
theorem Sx{id off:Nat}{h':AHeap}(hr:HR m h w)(hi:eO h id off=some h'):∃m',m.le m'∧HR m' h' w:=by
 unfold eO at hi;split at hi<;>(try (cases hi;done))
 rename_i b hb;split at hi<;>(try (cases hi;done))
 rename_i j us f hoff hc;split at hi<;>(try (cases hi;done))
 rename_i t vs g hg;split at hi<;>(try (cases hi;done))
 rename_i hk;cases hi;simp only[ACH]at hk;obtain rfl:=BS hk.1;obtain⟨g1,g2,g3⟩:=hr.obj id _ (BQ hb);obtain⟨cs,b1,b2,b3,b4⟩:=(show BR m (m.mu id) b w from g3);obtain⟨u,u1,u2⟩:=b3 off (Ct hoff);rw[hc]at u2;have u2:=JK hk.2 u2
 obtain⟨m2,l2,v2,r2⟩:=Sp hr u2 hg;have hne:j≠id:=by
  rintro rfl;rw[BQ hb]at hg;cases hg
 have hid:(h.t.cut j).get id=some (.blk b):=by
  rw[Tr.get_cut,if_neg hne];exact BQ hb
 have hmu:m2.mu id=m.mu id:=l2.mu id g1
 refine⟨m2,l2,r2.put (o':=.blk {b with c:=b.c.put off (.sy (.slice us) g)}) hid ?_ (fun _ _=>rfl)⟩
 show BR m2 (m2.mu id) _ w
 rw[hmu];refine⟨cs,b1,b2,fun k hk=>?_,b4⟩
 obtain⟨z,z1,z2⟩:=b3 k hk;refine⟨z,z1,?_⟩
 unfold Blk.cell;simp only[Tr.get_put]
 by_cases e:off=k
 ·subst e;rw[u1]at z1;cases z1;rw[if_pos rfl];exact v2
 ·rw[if_neg e];exact V.mono l2 _ _ z2
omit O in
theorem JM{x x':AV}{v:Value}{h':AHeap}(hr:HR m h w)(hv:V m x v)(hi:UN h x=some (x',h')):∃m',m.le m'∧V m' x' v∧HR m' h' w:=by
 unfold UN at hi;split at hi
 ·rename_i j us f;split at hi<;>(try (cases hi;done))
  rename_i t vs g hg;split at hi<;>(try (cases hi;done))
  rename_i hk;cases hi;simp only[ACH]at hk;obtain rfl:=BS hk.1;obtain⟨m2,l2,v2,r2⟩:=Sp hr (JK hk.2 hv) hg;exact⟨m2,l2,v2,r2⟩
 ·rename_i id off len cap;split at hi<;>(try (cases hi;done))
  rename_i h1 hc;cases hi;obtain⟨m2,l2,r2⟩:=Sx hr hc;exact⟨m2,l2,V.mono l2 _ _ hv,r2⟩
 ·cases hi
theorem Ux(hF:FactsOK m.R){ts:Array TypeId}{ty:TypeId}{consts:Array Bool}{as:List AV}{vs:Array Value}(hl:VL m as vs.toList)(hr:HR m h w){av:AV}{h':AHeap}
  (hop:Qn P h ts as=some (av,h')):Good m ((builtin .append ts ty consts vs).run P w) av h':=by
 unfold Qn at hop;split at hop<;>(try (cases hop;done))
 rename_i s x;split at hop<;>(try (cases hop;done))
 rename_i x' h1 hi;simp only[VL]at hl;obtain⟨sv,us,hvs,hs,xv,us',rfl,hx,rfl⟩:=hl;obtain⟨m1,l1,v1,r1⟩:=JM hr hx hi;have hl1:VL m1 [s,x'] vs.toList:=by
  rw[hvs];simp only[VL];exact⟨sv,_,rfl,V.mono l1 _ _ hs,xv,_,rfl,v1,rfl⟩
 obtain⟨v,w',m',k1,k2,k3,k4⟩:=NT (ty:=ty) (consts:=consts) (by rw[l1.R];exact hF) hl1 r1 hop
 exact⟨v,w',m',k1,l1.trans k2,k3,k4⟩
theorem Wq(hF:FactsOK m.R){a b c:AV}{u v:Value}(h:UM a b=some c)(ha:V m a u)(hb:V m b v):∃z,(Builtin.max2 u v).run P w=.ok z w∧V m c z:=by
 unfold UM at h;split at h<;>(try (cases h;done))
 rename_i k x l y h1 h2;split at h<;>(try (cases h;done))
 rename_i hk;cases Ep hk;obtain⟨p,d1,rfl⟩:=Db h1 ha;obtain⟨q,d2,rfl⟩:=Db h2 hb;split at h
 ·rename_i hle;cases h;have:=Be hF hle d1 d2
  refine⟨_,?_,hb⟩
  simp only[Builtin.max2]
  by_cases e:q > p
  ·simp[e]
  ·have:p=q:=by omega
   simp[this]
 ·split at h<;>(try (cases h;done))
  rename_i hle;cases h;have:=Be hF hle d2 d1
  refine⟨_,?_,ha⟩
  simp only[Builtin.max2];have e:¬q > p:=by omega
  simp[e]
theorem NU(hF:FactsOK m.R):∀{l:List AV} {a c:AV} {u:Value} {vs:List Value},Lp a l=some c→V m a u→VL m l vs→∃z,(vs.foldlM Builtin.max2 u).run P w=.ok z w∧V m c z
 | [],a,c,u,vs,h,ha,hl=>by
  simp only[Lp,ACJ]at h;subst h;simp only[VL]at hl;subst hl;exact⟨u,rfl,ha⟩
 |b::l,a,c,u,vs,h,ha,hl=>by
  simp only[VL]at hl;obtain⟨v,us,rfl,hb,hl⟩:=hl;simp only[Lp]at h;split at h<;>(try (cases h;done))
  rename_i d hd;obtain⟨z,g1,g2⟩:=Wq (P:=P) (w:=w) hF hd ha hb;obtain⟨z',g3,g4⟩:=NU hF h g2 hl;refine⟨z',?_,g4⟩
  rw[List.foldlM_cons,Sem.run_bind,g1,Result.andThen_ok];exact g3
theorem L5(hF:FactsOK m.R){e:SX}{l:List (List DV)}(he:den m.R e=.list l):∀{n j:Nat},Jt e n=some j→j=l.length
 |0,j,h=>by
  unfold Jt at h;split at h<;>(try (cases h;done))
  rename_i hk;cases h;have:=Bv hF hk
  simp only[den,he,Bm,AZ]at this;simp at this;simp[this]
 |n+1,j,h=>by
  unfold Jt at h;split at h
  ·rename_i hk;cases h;have:=Bv hF hk
   simp only[den,he,Bm,AZ]at this;simp at this;omega
  ·exact L5 hF he h
theorem Wr(hF:FactsOK m.R){ts:Array TypeId}{ty:TypeId}{consts:Array Bool}{as:List AV}{vs:Array Value}(hl:VL m as vs.toList)(hr:HR m h w){av:AV}{h':AHeap}
  (hop:UO P h ts as=some (av,h')):Good m ((builtin .copy ts ty consts vs).run P w) av h':=by
 unfold UO at hop;split at hop<;>(try (cases hop;done))
 rename_i id off len cap cs e;simp only[VL]at hl;obtain⟨dv,us,hvs,hd,xv,us',rfl,hx,rfl⟩:=hl;obtain rfl:vs=#[dv,xv]:=by apply ADX;simpa using hvs
 have hx':=hx
 simp only[V]at hx';obtain⟨es,e1,e2,e3,e4⟩:=Ic hx';have hl2:VL m [.sl id off len cap,.fsl cs.length false (rowsOf e cs 0 es.length)] (#[dv,xv]:Array Value).toList:=by
  simp only[VL];exact⟨dv,_,rfl,hd,xv,_,rfl,e3,rfl⟩
 split at hop
 ·rename_i hle;have hn:=Be hF hle (k:=.i64) (l:=.i64) (a:=(len:Int)) (b:=(es.length:Int)) (by simp[den]) (by simp only[den,e1,Bm])
  refine F6 (ty:=ty) hl2 hr ?_
  show El P h ts ty _=_
  rw[jw (by omega)]
  exact hop
 ·split at hop<;>(try (cases hop;done))
  rename_i j hj;have:=L5 hF (l:=es) e1 hj
  subst this;refine F6 (ty:=ty) hl2 hr ?_
  exact hop
omit O in
theorem HR.renameDead{m:Env}{h:AHeap}{w:World}{id:Nat}{o o':AObj}(hr:HR m h w)(hid:h.t.get id=some o)(h1:¬live o' (m.mu id))(ho:OR m (m.mu id) o' w):HR m (h.put id o') w:=by
 refine⟨hr.next,hr.lim,hr.res,hr.EF,hr.E,hr.F,fun i y hy=>?_,fun i j a b ha hb li lj e=>?_,hr.io⟩
 ·simp only[AHeap.put,Tr.get_put]at hy
  by_cases hi:id=i
  ·subst hi;simp only[if_true,ACJ]at hy;subst hy;exact⟨(hr.objL id o hid).1,fun hl=>absurd hl h1,ho⟩
  ·simp only[hi,if_false]at hy;exact hr.objL i y hy
 ·simp only[AHeap.put,Tr.get_put]at ha hb
  by_cases hi:id=i
  ·subst hi;simp only[if_true,ACJ]at ha;subst ha;exact absurd li h1
  ·by_cases hj:id=j
   ·subst hj;simp only[if_true,ACJ]at hb;subst hb;exact absurd lj h1
   ·simp only[hi,if_false]at ha;simp only[hj,if_false]at hb;exact hr.injL i j a b ha hb li lj e
theorem L6(hF:FactsOK m.R){ts:Array TypeId}{ty:TypeId}{consts:Array Bool}{as:List AV}{vs:Array Value}(hl:VL m as vs.toList)(hr:HR m h w){av:AV}{h':AHeap}
  (hop:MQ P h ts as=some (av,h')):Good m ((builtin .copy ts ty consts vs).run P w) av h':=by
 unfold MQ at hop;split at hop<;>(try (cases hop;done))
 rename_i t id tys e x hts0;split at hop<;>(try (cases hop;done))
 rename_i el ht;split at hop<;>(try (cases hop;done))
 rename_i size t' tys' e' x' hs hob hx';split at hop<;>(try (cases hop;done))
 rename_i hk;simp only[ACH,ACY,ACn]at hk;obtain⟨⟨⟨⟨ht2,he2⟩,he3⟩,rfl⟩,hs1⟩:=hk;obtain rfl:=BS ht2;obtain rfl:=Aw he2;obtain rfl:=Aw he3;simp only[ACJ,ACP]at hop;obtain⟨rfl,rfl⟩:=hop;simp only[VL]at hl;obtain⟨sv,us,hvs,hsv,xv,us',rfl,hx,rfl⟩:=hl;obtain rfl:vs=#[sv,xv]:=by apply ADX;simpa using hvs
 obtain⟨l2,y,as,e1,e2,e3,e4,e5,e6,e7⟩:=QY hF hx' hx;have hs':=hsv
 simp only[V]at hs';obtain⟨hd,l,a,d1,rfl,d2,d3,d4,d5⟩:=hs';have hll:l.length=l2.length:=by
  simp only[den,e1,Bm,Eo,DV.list.injEq]at d1;rw[←d1];simp
 have hlenv:∀m':Env,m.le m'→V m' (.sy (.int .i64) (.len x')) (goInt l2.length):=fun m' hm=>by
  simp only[V,Rep,den];rw[hm.R,e1];refine⟨(l2.length:Int),rfl,rfl,?_,?_⟩
  ·show (-9223372036854775808:Int)≤_
   omega
  ·show _≤(9223372036854775807:Int)
   omega
 have hmin:Nat.min l2.length l2.length=l2.length:=AEp _
 by_cases hp:(m.mu id).2=0
 ·have hl0:l=[]:=ACi.1 (by omega)
  subst hl0;have hn0:l2.length=0:=hll.symm
  have hs0:V m (.emp 0) (.slice a ([]:List (List DV)).length (m.mu id).2):=by
   simp only[V];exact⟨a,_,rfl,fun _=>hp,d4⟩
  have has:as=[]:=ACi.1 (by rw[e3.1,hn0,AD3])
  have h7:=e7 h (fun i b hb=>hb)
  rw[hn0,has]at h7;have hop2:A7 P h .copy ts ty [.emp 0,y]=some (E5 0,h):=by
   have hle:lenOf (.emp 0)=some 0:=rfl
   rw[hn0]at e6;simp only[A7,El,hts0,ht,hs,hle,e6,AEp,h7]
  have hl3:VL m [.emp 0,y] (#[.slice a ([]:List (List DV)).length (m.mu id).2,xv]:Array Value).toList:=by
   simp only[VL];exact⟨_,_,rfl,hs0,xv,_,rfl,e5,rfl⟩
  obtain⟨v,w',m',k1,k2,k3,k4⟩:=F6 (P:=P) (ty:=ty) (consts:=consts) hl3 hr hop2;have hmu:m'.mu id=m.mu id:=k2.mu id hd
  refine⟨v,w',m',k1,k2,?_,k4.renameDead hob ?_ (.inl (by rw[hmu];exact hp))⟩
  ·have:v=goInt 0:=by simpa[V,E5,goInt]using k3
   rw[this];have:=hlenv m' k2
   rw[hn0]at this;exact this
  ·show ¬(m'.mu id).2≠0
   rw[hmu];exact fun h=>h hp
 ·obtain⟨o1,o2,o3⟩:=hr.obj id _ hob hp;rcases GR.own (show GR m (m.mu id) t' tys (.bytes (.len x')) w from o3) (by assumption) with o3|⟨l',g1,g2,g3,g4,g5⟩
  ·exact absurd o3 hp
  rw[d1]at g1;cases g1;have hr1:HR m (h.put id (.blk (BH t' tys (.bytes (.len x')) l.length))) w:=hr.put (o':=.blk (BH t' tys (.bytes (.len x')) l.length)) hob g5 (fun _ _=>rfl) rfl hp
  have hs0:V m (.sl id 0 l.length none) (.slice a l.length (m.mu id).2):=by
   simp only[V];rw[d5 hp];exact⟨hd,_,rfl,d2,(fun k e=>by cases e),fun _ _=>rfl⟩
  have hbk:(h.put id (.blk (BH t' tys (.bytes (.len x')) l.length))).blk? id=some (BH t' tys (.bytes (.len x')) l.length):=by
   unfold AHeap.blk? AHeap.put;simp[Tr.get_put]
  have h7:=e7 (h.put id (.blk (BH t' tys (.bytes (.len x')) l.length))) (fun i b hb=>by
   unfold AHeap.blk? AHeap.put at *;simp only[Tr.get_put]
   by_cases e:id=i
   ·subst e;rw[hob]at hb;cases hb
   ·rw[if_neg e];exact hb)
  have hchk:(Nat.ble (0+l2.length*tys.length) (BH t' tys (.bytes (.len x')) l.length).n&&as.all BW&&Nat.beq as.length (l2.length*tys.length))=true:=by
   rw[e4,e3.1,ADv];simp only[BH,hll,ACk,AEc,ACn];exact ACv _
  have hop2:A7 P (h.put id (.blk (BH t' tys (.bytes (.len x')) l.length))) .copy ts ty [.sl id 0 l.length none,y]=some (E5 l2.length,
    (h.put id (.blk (BH t' tys (.bytes (.len x')) l.length))).put id (.blk {BH t' tys (.bytes (.len x')) l.length with c:=Blk.putAll (BH t' tys (.bytes (.len x')) l.length).c 0 as})):=by
   have hle:lenOf (.sl id 0 l.length none)=some l2.length:=by rw[←hll];rfl
   simp only[A7,El,hts0,ht,hs,hle,e6,hmin,h7,hbk,hchk]
  have hl3:VL m [.sl id 0 l.length none,y] (#[.slice a l.length (m.mu id).2,xv]:Array Value).toList:=by
   simp only[VL];exact⟨_,_,rfl,hs0,xv,_,rfl,e5,rfl⟩
  obtain⟨v,w',m',k1,k2,k3,k4⟩:=F6 (P:=P) (ty:=ty) (consts:=consts) hl3 hr1 hop2;have hR:m'.R=m.R:=k2.R
  have hv:v=goInt l2.length:=by simpa[V,E5,goInt]using k3
  obtain⟨q1,q2⟩:=Sw (t:=t') (ts:=tys) (E:=x') (L:=l2) (as:=as) (H2:=h.put id (.grow t' tys x')) k4 (id:=id) (by simp[AHeap.put,Tr.get_put];rfl) (V.mono k2 _ _ hs0) (by rw[hR];exact e1) hll.symm g4 (by rw[hR];exact e3) rfl rfl rfl rfl
   (fun k hk=>by
    have h1:({BH t' tys (.bytes (.len x')) l.length with c:=Blk.putAll (BH t' tys (.bytes (.len x')) l.length).c 0 as}:Blk).cell k=if 0≤k∧k<0+as.length then (as[k-0]?).getD .dead else (BH t' tys (.bytes (.len x')) l.length).cell k:=Eb (BH t' tys (.bytes (.len x')) l.length) as 0 k
    rw[h1,if_pos ⟨ADO _,by rw[e3.1,←hll];omega⟩,ADo]) rfl rfl (fun i o ho=>by
    simp only[AHeap.put,Tr.get_put]at ho⊢
    by_cases e:id=i
    ·subst e;simp only[if_true,ACJ]at ho;exact .inl ⟨rfl,ho.symm⟩
    ·simp only[e,if_false]at ho⊢;exact .inr ⟨Ne.symm e,ho⟩)
  exact⟨v,w',m',k1,k2,by rw[hv];exact hlenv m' k2,q2⟩
omit O in
theorem Kn(e:SX)(t:Ty):∀(n i k:Nat),(rowsOf e [t] i n).flatten[k]? =if k<n then some (.sy t (.at e (.ki .i64 (.ofNat (i+k))) 0)) else none
 |0,i,k=>by simp[rowsOf]
 |n+1,i,0=>by simp[rowsOf,Ac]
 |n+1,i,k+1=>by
  have:=Kn e t n (i+1) k
  simp only[rowsOf,Ac,ADE,ADY,ADD,AC0];rw[this,show i+1+k=i+(k+1) by omega]
  by_cases h:k<n
  ·rw[if_pos h,if_pos (by omega)]
  ·rw[if_neg h,if_neg (by omega)]
omit O in
theorem OW(e:SX)(t:Ty):∀(n i:Nat),(rowsOf e [t] i n).flatten.length=n
 |0,i=>rfl
 |n+1,i=>by
  simp only[rowsOf,Ac,ADE,ACT,ACe,ADU,OW e t n (i+1)];omega
omit O in
theorem Sy{b:Blk}{off:Nat}:∀{n:Nat},Rx b off n=true→∀i,i<n→b.cell (off+i)=.sc (.int .u8 0)
 |n+1,h,i,hi=>by
  simp only[Rx,ACH]at h
  by_cases e:i=n
  ·subst e;have h1:=h.1
   split at h1
   ·rename_i hc;exact hc
   ·cases h1
  ·exact Sy h.2 i (by omega)
omit O in
theorem HR.weaken{m:Env}{h:AHeap}{w:World}{id:Nat}{b1 b2:Blk}(hr:HR m (h.put id (.blk b1)) w)(ht:b2.t=b1.t)(hrow:b2.row=b1.row)(hsz:b2.sz=b1.sz)(hn:b2.n=b1.n)
  (hc:∀i,i<b1.n→∀v,V m (b1.cell i) v→V m (b2.cell i) v):HR m (h.put id (.blk b2)) w:=by
 have h0:(h.put id (.blk b1)).t.get id=some (.blk b1):=by
  show (h.t.put id (AObj.blk b1)).get id=_
  rw[Tr.get_put,if_pos rfl]
 refine⟨hr.next,hr.lim,hr.res,hr.EF,hr.E,hr.F,fun i y hy=>?_,fun i j a b ha hb li lj e=>?_,hr.io⟩
 ·simp only[AHeap.put,Tr.get_put]at hy
  by_cases hi:id=i
  ·subst hi;simp only[if_true,ACJ]at hy;subst hy;obtain⟨g1,g2,c,g3,g4,g5,g6⟩:=hr.objL id _ h0;refine⟨g1,fun _=>g2 trivial,c,by rw[ht];exact g3,by rw[hn];exact g4,fun k hk=>?_,fun hx=>?_⟩
   ·rw[hn]at hk;obtain⟨v,q1,q2⟩:=g5 k hk;exact⟨v,q1,hc k hk v q2⟩
   ·rw[hrow]at hx;rw[hsz,hn];exact g6 hx
  ·simp only[hi,if_false]at hy;exact hr.objL i y (by simp only[AHeap.put,Tr.get_put,hi,if_false];exact hy)
 ·have conv:∀(k:Nat) (x:AObj),(h.put id (.blk b2)).t.get k=some x→live x (m.mu k)→∃x',(h.put id (.blk b1)).t.get k=some x'∧live x' (m.mu k):=by
   intro k x hk hl;simp only[AHeap.put,Tr.get_put]at hk
   by_cases hi:id=k
   ·subst hi;exact⟨_,h0,trivial⟩
   ·simp only[hi,if_false]at hk;exact⟨x,by simp only[AHeap.put,Tr.get_put,hi,if_false];exact hk,hl⟩
  obtain⟨a',ha',la'⟩:=conv i a ha li
  obtain⟨b',hb',lb'⟩:=conv j b hb lj
  exact hr.injL i j a' b' ha' hb' la' lb' e
theorem Uy(hF:FactsOK m.R){ts:Array TypeId}{ty:TypeId}{consts:Array Bool}{as:List AV}{vs:Array Value}(hl:VL m as vs.toList)(hr:HR m h w){av:AV}{h':AHeap}
  (hop:Qp P h ts as=some (av,h')):Good m ((builtin .copy ts ty consts vs).run P w) av h':=by
 unfold Qp at hop;split at hop<;>(try (cases hop;done))
 rename_i t id off len cap e hts;split at hop<;>(try (cases hop;done))
 rename_i el ht;split at hop<;>(try (cases hop;done))
 rename_i size b hsz hb;split at hop<;>(try (cases hop;done))
 rename_i hk;simp only[ACH,ACY,ACn]at hk;obtain⟨⟨⟨rfl,hle⟩,hbn⟩,hz⟩:=hk;simp only[ACJ,ACP]at hop;obtain⟨rfl,rfl⟩:=hop;simp only[VL]at hl;obtain⟨dv,us,hvs,hd,xv,us',rfl,hx,rfl⟩:=hl;obtain rfl:vs=#[dv,xv]:=by apply ADX;simpa using hvs
 have hx':=hx
 simp only[V]at hx';obtain⟨es,e1,e2,e3,e4⟩:=Ic hx';have hn:=Be hF hle (k:=.i64) (l:=.i64) (a:=(es.length:Int)) (b:=(len:Int)) (by simp only[den,e1,Bm]) (by simp[den])
 have hj:es.length≤len:=by omega
 have hl2:VL m [.sl id off len cap,.fsl 1 false (rowsOf e [.int .u8] 0 es.length)] (#[dv,xv]:Array Value).toList:=by
  simp only[VL];exact⟨dv,_,rfl,hd,xv,_,rfl,e3,rfl⟩
 have hmin:Nat.min es.length len=es.length:=ADZ hj
 have hbi:El P h ts ty [.sl id off len cap,.fsl 1 false (rowsOf e [.int .u8] 0 es.length)]=some (E5 es.length,h.put id (.blk {b with c:=Blk.putAll b.c off (rowsOf e [.int .u8] 0 es.length).flatten})):=by
  have hlen1:lenOf (.fsl 1 false (rowsOf e [.int .u8] 0 es.length))=some es.length:=by
   simp only[lenOf,Ak]
  have hlen2:lenOf (.sl id off len cap)=some len:=rfl
  have hrc:BZ h 1 es.length (.fsl 1 false (rowsOf e [.int .u8] 0 es.length))=some (rowsOf e [.int .u8] 0 es.length).flatten:=by
   simp only[BZ];have:(Nat.beq 1 1&&Nat.ble es.length (rowsOf e [.int .u8] 0 es.length).length)=true:=by
    rw[Ak,ACH,ACn];exact⟨rfl,ACv _⟩
   rw[this];simp only;rw[ACg (by rw[Ak];exact ACv _)]
  have hall:(rowsOf e [.int .u8] 0 es.length).flatten.all BW=true:=by
   rw[ACt];intro x hx;obtain⟨k,hk⟩:=ACf.1 hx;rw[Kn]at hk;split at hk
   ·cases hk;rfl
   ·cases hk
  unfold El;simp only[hts,ht,hsz,hlen1,hlen2,hmin,hrc,hb];have hcond:(Nat.ble (off+es.length*1) b.n&&(rowsOf e [.int .u8] 0 es.length).flatten.all BW&&Nat.beq (rowsOf e [.int .u8] 0 es.length).flatten.length (es.length*1))=true:=by
   rw[hall,OW];simp only[ACH,ACn,ACY,and_true];refine⟨?_,?_⟩
   ·rw[AD6];exact AEB (Nat.add_le_add_left hj off) hbn
   ·rw[AD6]
  rw[hcond]
 obtain⟨v,w',m',k1,k2,k3,k4⟩:=F6 (ty:=ty) (consts:=consts) hl2 hr (av:=E5 es.length) (h':=h.put id (.blk {b with c:=Blk.putAll b.c off (rowsOf e [.int .u8] 0 es.length).flatten})) hbi
 have hden:den m'.R e=.list es:=by rw[k2.R];exact e1
 refine⟨v,w',m',k1,k2,?_,HR.weaken k4 rfl rfl rfl rfl fun i hi v hv=>?_⟩
 ·simp only[V,E5]at k3;subst k3;simp only[V,Rep,den,hden,Bm];exact⟨(es.length:Int),rfl,rfl,by show (-9223372036854775808:Int)≤_;omega,by show _≤(9223372036854775807:Int);unfold maxLen at e2;omega⟩
 ·rw[Eb,OW]at hv⊢;have hZ:den m'.R (.cat e (.bytes (.ki .i64 (.ofNat len))))=.list (es++List.replicate len [.int .u8 0]):=by
   simp only[den,hden,Du,Eo];rfl
  by_cases c1:off≤i∧i<off+len
  ·rw[if_pos c1,Kn,if_pos (by omega)]
   simp only[ACo,ACk];have hat:den m'.R (.at (.cat e (.bytes (.ki .i64 (.ofNat len)))) (.ki .i64 (.ofNat (i-off))) 0)=((es++List.replicate len [DV.int .u8 0]).getD (i-off) []).getD 0 (.bool false):=by
    show atD (den m'.R (.cat e (.bytes (.ki .i64 (.ofNat len))))) (.int .i64 (.ofNat (i-off))) 0=_
    rw[hZ];rfl
   by_cases c2:i<off+es.length
   ·rw[if_pos ⟨c1.1,c2⟩,Kn,if_pos (by omega)]at hv
    simp only[ACo,ACk,V]at hv;simp only[V];rw[hat];have:den m'.R (.at e (.ki .i64 (.ofNat (i-off))) 0)=(es.getD (i-off) []).getD 0 (.bool false):=by
     show atD (den m'.R e) (.int .i64 (.ofNat (i-off))) 0=_
     rw[hden];rfl
    rw[this]at hv;have hg:(es++List.replicate len [DV.int .u8 0]).getD (i-off) []=es.getD (i-off) []:=by
     simp only[ACI];rw[ACc (show i-off<es.length by omega)]
    rw[hg];exact hv
   ·rw[if_neg (show ¬(off≤i∧i<off+es.length) by omega)]at hv
    have hcell:=Sy hz (i-off) (by omega)
    rw[show off+(i-off)=i by omega]at hcell
    rw[hcell]at hv;simp only[V]at hv;subst hv;simp only[V];have hg:(es++List.replicate len [DV.int .u8 0]).getD (i-off) []=[DV.int .u8 0]:=by
     simp only[ACI];rw[ACV (show es.length≤i-off by omega),AEa,if_pos (show i-off-es.length<len by omega)]
     rfl
    rw[hat,hg];exact⟨0,rfl,rfl,by decide,by decide⟩
  ·rw[if_neg c1];rw[if_neg (show ¬(off≤i∧i<off+es.length) by omega)]at hv
   exact hv
theorem Uz(hF:FactsOK m.R){ts:Array TypeId}{ty:TypeId}{consts:Array Bool}{as:List AV}{vs:Array Value}(hl:VL m as vs.toList)(hr:HR m h w){av:AV}{h':AHeap}
  (hop:Qo P h ts as=some (av,h')):Good m ((builtin .copy ts ty consts vs).run P w) av h':=by
 unfold Qo at hop;split at hop<;>(try (cases hop;done))
 rename_i s x;split at hop<;>(try (cases hop;done))
 rename_i x' h1 hi;simp only[VL]at hl;obtain⟨sv,us,hvs,hs,xv,us',rfl,hx,rfl⟩:=hl;obtain⟨m1,l1,v1,r1⟩:=JM hr hx hi;have hl1:VL m1 [s,x'] vs.toList:=by
  rw[hvs];simp only[VL];exact⟨sv,_,rfl,V.mono l1 _ _ hs,xv,_,rfl,v1,rfl⟩
 obtain⟨v,w',m',k1,k2,k3,k4⟩:=L6 (ty:=ty) (consts:=consts) (by rw[l1.R];exact hF) hl1 r1 hop
 exact⟨v,w',m',k1,l1.trans k2,k3,k4⟩
theorem RB{ts:Array TypeId}{ty:TypeId}{consts:Array Bool}{as:List AV}{vs:Array Value}(hl:VL m as vs.toList)(hr:HR m h w){av:AV}{h':AHeap}
  (hop:MS P h ts as=some (av,h')):Good m ((builtin .append ts ty consts vs).run P w) av h':=by
 unfold MS at hop;split at hop<;>(try (cases hop;done))
 rename_i t u id off len cap k hts0 hts1;split at hop<;>(try (cases hop;done))
 rename_i e e2 ht hu;split at hop<;>(try (cases hop;done))
 rename_i inf hinf;cases hop;simp only[VL]at hl;obtain⟨sv,us,hvs,hs,xv,us',rfl,hx,rfl⟩:=hl;obtain rfl:vs=#[sv,xv]:=by apply ADX;simpa using hvs
 have hs0:=hs
 simp only[V]at hs hx;obtain⟨_,c,rfl,h1,_⟩:=hs;obtain⟨a,d,rfl,_,_⟩:=hx;refine Good.run (s:=Builtin.append_ ts ty #[.slice (some ⟨(m.mu id).1,off,none⟩) len c,.slice a 0 d]) hr hs0 ?_
 have hfc:(Builtin.firstCells inf.size 0 (.slice a 0 d)).run P w=.ok #[] w:=by
  cases a with
  |none=>simp[Builtin.firstCells]
  |some a=>simp[Builtin.firstCells,loadCells,loadCellsFrom]
 simp[Builtin.append_,hts0,hts1,run_underlying ht,run_underlying hu,sizeOf,typeInfo,hinf,Builtin.lenOf,h1,hfc,storeCells]
theorem U0{ts:Array TypeId}{ty:TypeId}{consts:Array Bool}{as:List AV}{vs:Array Value}(hl:VL m as vs.toList)(hr:HR m h w){av:AV}{h':AHeap}
  (hop:Qq P h ts as=some (av,h')):Good m ((builtin .clear ts ty consts vs).run P w) av h':=by
 unfold Qq at hop;split at hop<;>(try (cases hop;done))
 rename_i t id off len cap hts0;split at hop<;>(try (cases hop;done))
 rename_i e ht;split at hop<;>(try (cases hop;done))
 rename_i z b hz hb;split at hop<;>(try (cases hop;done))
 rename_i hc;cases hop;simp only[ACH,ACn]at hc;obtain⟨⟨⟨h1,h2⟩,h3⟩,h4⟩:=hc;simp only[VL]at hl;obtain⟨sv,us,hvs,hs,rfl⟩:=hl;obtain rfl:vs=#[sv]:=by apply ADX;simpa using hvs
 simp only[V]at hs;obtain⟨_,c,rfl,_⟩:=hs;have hvl:VL m (List.replicate len (z.cells.toList.map AV.sc)).flatten (List.replicate len z.cells.toList).flatten:=J2 (F5 m z.cells.toList) len
 obtain⟨w',hst,hr'⟩:=BR.write (P:=P) hr (BQ hb) hvl h4 h3;refine Good.new (s:=Builtin.clear_ ts ty #[.slice (some ⟨(m.mu id).1,off,none⟩) len c]) (v:=.tuple #[]) (.refl m) hr' (by simp[V]) ?_
 have hzv:(zeroValue e).run P w=.ok z w:=by simp[DM hz]
 have hzc:(Builtin.zeroCells z.cells len).toList=(List.replicate len z.cells.toList).flatten:=NQ z.cells (by omega) len
 cases len with
 |zero=>omega
 |succ n=>simp[Builtin.clear_,hts0,run_underlying ht,hzv,hzc,hst]
theorem J9(hF:FactsOK m.R){b:Builtin}{ts:Array TypeId}{ty:TypeId}{consts:Array Bool}{as:List AV}{vs:Array Value}(hl:VL m as vs.toList)(hr:HR m h w){av:AV}{h':AHeap}
  (hop:MT P h b ts as=some (av,h')):Good m ((builtin b ts ty consts vs).run P w) av h':=by
 unfold MT at hop;split at hop
 ·unfold jF at hop;split at hop
  ·rename_i t e hts;simp only[VL]at hl;obtain⟨v,us,hvs,hx,rfl⟩:=hl;obtain rfl:vs=#[v]:=by apply ADX;simpa using hvs
   split at hop<;>(try (cases hop;done))
   rename_i hu;cases hop;simp only[V,Rep]at hx;obtain⟨s,h1,rfl,h3⟩:=hx;refine Good.run (s:=Builtin.len_ ts ty #[.string s]) (v:=goInt s.size) hr ?_ (by simp[Builtin.len_,hts,run_underlying hu])
   simp only[V,Rep,den,h1,Bm,goInt];refine⟨_,rfl,rfl,?_,?_⟩
   ·(simp[IntKind.min,IntKind.signed,IntKind.bits]<;>omega)
   ·unfold maxLen at h3;simp[IntKind.max,IntKind.signed,IntKind.bits];omega
  ·rename_i t cs e hts;simp only[VL]at hl;obtain⟨v,us,hvs,hx,rfl⟩:=hl;obtain rfl:vs=#[v]:=by apply ADX;simpa using hvs
   split at hop<;>(try (cases hop;done))
   rename_i hu;cases hop;simp only[V,Rep]at hx;obtain⟨es,a,c,h1,rfl,h3,h4,_⟩:=hx;refine Good.run (s:=Builtin.len_ ts ty #[.slice a es.length c]) (v:=goInt es.length) hr ?_ (by simp[Builtin.len_,hts,run_underlying hu])
   simp only[V,Rep,den,h1,Bm,goInt];refine⟨_,rfl,rfl,?_,?_⟩
   ·(simp[IntKind.min,IntKind.signed,IntKind.bits]<;>omega)
   ·unfold maxLen at h4;simp[IntKind.max,IntKind.signed,IntKind.bits];omega
  ·rename_i t id cs e hts;simp only[VL]at hl;obtain⟨v,us,hvs,hx,rfl⟩:=hl;obtain rfl:vs=#[v]:=by apply ADX;simpa using hvs
   split at hop<;>(try (cases hop;done))
   rename_i hu;cases hop;simp only[V]at hx;obtain⟨_,es,a,h1,rfl,h3,h4,_⟩:=hx;refine Good.run (s:=Builtin.len_ ts ty #[.slice a es.length (m.mu id).2]) (v:=goInt es.length) hr ?_ (by simp[Builtin.len_,hts,run_underlying hu])
   simp only[V,Rep,den,h1,Bm,goInt];refine⟨_,rfl,rfl,?_,?_⟩
   ·(simp[IntKind.min,IntKind.signed,IntKind.bits]<;>omega)
   ·unfold maxLen at h4;simp[IntKind.max,IntKind.signed,IntKind.bits];omega
  ·cases hop
 ·unfold jG at hop;split at hop<;>(try (cases hop;done))
  rename_i a b;simp only[VL]at hl;obtain⟨u,us,hvs,hx,v,us',rfl,hy,rfl⟩:=hl;obtain rfl:vs=#[u,v]:=by apply ADX;simpa using hvs
  split at hop<;>(try (cases hop;done))
  rename_i k x l y h1 h2;split at hop<;>(try (cases hop;done))
  rename_i hk;cases Ep hk;obtain⟨p,d1,rfl⟩:=Db h1 hx;obtain⟨q,d2,rfl⟩:=Db h2 hy;have run:∀z,(if q<p then q else p)=z→(Builtin.min_ ts ty #[.int k p,.int k q]).run P w=.ok (.int k z) w:=by
   intro z hz;simp[Builtin.min_,Builtin.min2,←hz]
  split at hop
  ·rename_i hle;cases hop;have:=Be hF hle d1 d2
   exact Good.run (s:=Builtin.min_ ts ty #[.int k p,.int k q]) hr hx (run p (by rw[if_neg (by omega)]))
  ·split at hop<;>(try (cases hop;done))
   rename_i hle;cases hop;have:=Be hF hle d2 d1
   refine Good.run (s:=Builtin.min_ ts ty #[.int k p,.int k q]) hr hy (run q ?_)
   by_cases e:q<p
   ·rw[if_pos e]
   ·rw[if_neg e];omega
 ·split at hop
  ·rename_i r hr';cases hop;exact Sv hF hl hr hr'
  ·split at hop
   ·rename_i r hr';cases hop;exact RA hF hl hr hr'
   ·split at hop
    ·rename_i r hr';cases hop;exact NT hF hl hr hr'
    ·split at hop
     ·rename_i r hr';cases hop;exact Ux hF hl hr hr'
     ·exact RB hl hr hop
 ·split at hop
  ·rename_i r hr';cases hop;exact Wr hF hl hr hr'
  ·split at hop
   ·rename_i r hr';cases hop;exact L6 hF hl hr hr'
   ·split at hop
    ·rename_i r hr';cases hop;exact Uz hF hl hr hr'
    ·exact Uy hF hl hr hop
 ·unfold jH at hop;split at hop<;>(try (cases hop;done))
  rename_i a l;split at hop<;>(try (cases hop;done))
  rename_i c hc;cases hop;simp only[VL]at hl;obtain⟨u,us,hvs,hx,hl⟩:=hl;obtain⟨z,g1,g2⟩:=NU (P:=P) (w:=w) hF hc hx hl;refine Good.run (s:=Builtin.max_ ts ty vs) (v:=z) hr g2 ?_
  unfold Builtin.max_;rw[hvs];exact g1
 ·exact U0 hl hr hop
 ·cases hop
theorem OX(hF:FactsOK m.R){k:IntKind}{e:SX}:∀{n c:Nat},Nj k e n=some c→den m.R e=.int k (c:Int)∨∃d,den m.R (.bin .eql e (.ki k (.ofNat d)))=.bool true∧d=c
 |0,c,h=>by
  unfold Nj at h;split at h
  ·rename_i hl;cases h;exact .inr ⟨0,Bv hF hl,rfl⟩
  ·cases h
 |n+1,c,h=>by
  unfold Nj at h;split at h
  ·rename_i hl;cases h;exact .inr ⟨_,Bv hF hl,rfl⟩
  ·exact OX hF h
theorem Sz(hF:FactsOK m.R){a:AV}{x:Value}(hx:V m a x):V m (Qk a) x:=by
 unfold Qk;split
 ·rename_i k e;split
  ·rename_i c hc;have hx':=hx
   simp only[V,Rep]at hx';obtain⟨z,d1,rfl,g1,g2⟩:=hx';simp only[V];rcases OX hF hc with h|⟨d,h,rfl⟩
   ·rw[d1]at h;cases h;rfl
   ·simp only[den,d1,AZ,DV.bool.injEq,ACH,ACN]at h;rw[h.2]
  ·exact hx
 ·exact hx
theorem nc{k:IntKind}{x y:Int}(h1:k.min≤x)(h2:x≤k.max):k.min≤x.tmod y∧x.tmod y≤k.max:=by
 rcases Int.lt_or_le y 0 with h|h
 ·have e:y= -((-y).toNat:Int):=by omega
  rw[e,Int.tmod_neg];exact Uw h1 h2
 ·have e:y=(y.toNat:Int):=by omega
  rw[e];exact Uw h1 h2
theorem bt{l:IntKind}(h:l.signed=false):l.min=0:=by
 cases l<;>first|rfl|(simp[IntKind.signed]at h)
theorem fV(hF:FactsOK m.R){op:BinOp}{t:TypeId}{p q:Operand}{a b r:AV}{x y:Value}(hs:mQ op a b=some r)(hx:V m a x)(hy:V m b y):
  ∃z,((do eqGuard op t p q x y;binOp op t x y):Sem Value).run P w=.ok z w∧V m r z:=by
 unfold mQ at hs;split at hs<;>(try (cases hs;done))
 rename_i k e l f;simp only[V,Rep]at hx hy;obtain⟨u,d1,rfl,g1,g2⟩:=hx;obtain⟨v,d2,rfl,g3,g4⟩:=hy;have nz:(match look (.bin .eql f (.ki l (.ofNat 0))) with|some false=>true|_=>false)=true→v≠0:=by
  intro h hv;split at h
  ·rename_i hl;have:=Bv hF hl
   simp only[den,d2,AZ,DV.bool.injEq]at this;rw[hv]at this;simp at this
  ·cases h
 split at hs<;>(try (cases hs;done))
 ·split at hs
  ·rename_i hk;cases hs;simp only[ACH]at hk;cases Ep hk.1;have hv:=nz hk.2
   refine⟨.int k (k.wrap (u.tdiv v)),FM ?_ rfl,?_⟩
   ·simp only[binOp,Op.intDiv,if_neg hv,ne_eq,not_true_eq_false,if_false]
    try rfl
   ·simp only[V,Rep,den,d1,d2,AZ];exact⟨_,rfl,rfl,(Df k _).1,(Df k _).2⟩
  ·cases hs
 ·split at hs
  ·rename_i hk;cases hs;simp only[ACH]at hk;cases Ep hk.1;have hv:=nz hk.2
   refine⟨.int k (u.tmod v),FM ?_ rfl,?_⟩
   ·simp only[binOp,Op.intDiv,if_neg hv,ne_eq,not_true_eq_false,if_false]
    try rfl
   ·simp only[V,Rep,den,d1,d2,AZ];exact⟨_,rfl,rfl,nc g1 g2⟩
  ·cases hs
 ·split at hs
  ·rename_i hsg;cases hs;rw[bt hsg]at g3;obtain⟨c,rfl⟩:=ADM g3;refine⟨.int k (u.fdiv (2^min c k.bits)),?_,?_⟩
   ·have hg:(eqGuard .shr t p q (.int k u) (.int l (.ofNat c))).run P w=.ok () w:=by
     unfold eqGuard;simp
    show (do eqGuard .shr t p q (.int k u) (.int l (.ofNat c));binOp .shr t (.int k u) (.int l (.ofNat c)):Sem Value).run P w=_
    rw[Sem.run_bind,hg];have hc:¬((Int.ofNat c)<0):=by simp
    simp only[Result.andThen_ok,binOp,Op.shift,if_neg hc];rfl
   ·simp only[V,Rep,den,d1,d2,AZ];exact⟨_,rfl,rfl,bZ g1 g2⟩
  ·cases hs
 ·split at hs
  ·rename_i hsg;cases hs;rw[bt hsg]at g3;obtain⟨c,rfl⟩:=ADM g3;refine⟨.int k (k.wrap (u*2^min c k.bits)),?_,?_⟩
   ·have hg:(eqGuard .shl t p q (.int k u) (.int l (.ofNat c))).run P w=.ok () w:=by
     unfold eqGuard;simp
    show (do eqGuard .shl t p q (.int k u) (.int l (.ofNat c));binOp .shl t (.int k u) (.int l (.ofNat c)):Sem Value).run P w=_
    rw[Sem.run_bind,hg];have hc:¬((Int.ofNat c)<0):=by simp
    simp only[Result.andThen_ok,binOp,Op.shift,if_neg hc];rfl
   ·simp only[V,Rep,den,d1,d2,AZ];exact⟨_,rfl,rfl,(Df k _).1,(Df k _).2⟩
  ·cases hs
theorem QZ(hF:FactsOK m.R){a:AV}{e:SX}{x:Value}(hs:Ru a=some e)(hx:V m a x):∃s:ByteArray,den m.R e=.str s∧x=.string s∧s.size≤1000000:=by
 unfold Ru at hs;split at hs
 ·split at hs<;>(try (cases hs;done))
  rename_i hk;cases hs;simp only[V]at hx;exact⟨_,rfl,hx,ADe hk⟩
 ·split at hs<;>(try (cases hs;done))
  rename_i hl;cases hs;simp only[V,Rep]at hx;obtain⟨s,d1,rfl,_⟩:=hx;have:=Bv hF hl
  simp only[den,d1,Bm,AZ,DV.bool.injEq,ACK,ACZ]at this;exact⟨s,d1,rfl,by omega⟩
 ·cases hs
theorem fW(hF:FactsOK m.R){op:BinOp}{t:TypeId}{p q:Operand}{a b r:AV}{x y:Value}(hs:mR op a b=some r)(hx:V m a x)(hy:V m b y):
  ∃z,((do eqGuard op t p q x y;binOp op t x y):Sem Value).run P w=.ok z w∧V m r z:=by
 unfold mR at hs;split at hs<;>(try (cases hs;done))
 rename_i e f h1 h2;cases hs;obtain⟨s,d1,rfl,l1⟩:=QZ hF h1 hx;obtain⟨u,d2,rfl,l2⟩:=QZ hF h2 hy;refine⟨.string (s++u),?_,?_⟩
 ·refine D7 rfl ?_
  show Op.stringOp .add s u=_
  unfold Op.stringOp;have h63:¬(((s.size+u.size:Nat):Int) > IntKind.i64.max):=by
   simp[IntKind.max,IntKind.signed,IntKind.bits];omega
  simp only[if_neg h63]
 ·simp only[V,Rep,den,d1,d2,Du];exact⟨_,rfl,rfl,by rw[ADx];unfold maxLen;omega⟩
theorem Ws(hF:FactsOK m.R){t:TypeId}{a b r:AV}{x y:Value}(hs:UK P t a b=some r)(hx:V m a x)(hy:V m b y):∃z,(Instr.indexAt t x y).run P w=.ok z w∧V m r z:=by
 unfold UK at hs;split at hs<;>(try (cases hs;done))
 rename_i el id ts e hu;split at hs<;>(try (cases hs;done))
 rename_i size i hz hi;split at hs<;>(try (cases hs;done))
 rename_i hc;cases hs;simp only[ACH,ACY]at hc;obtain⟨⟨h0,h1⟩,h2⟩:=hc;subst h1;split at h2<;>(try (cases h2;done))
 rename_i hl;obtain⟨k,z,d1,rfl⟩:=HT hi hy;simp only[V]at hx;obtain⟨g1,l,a,d2,rfl,g2,g3,g4,g5⟩:=hx;have hz0:0≤z:=Be hF h0 (k:=.i64) (a:=0) rfl d1
 have hlt:=Bv hF hl
 simp only[den,d1,d2,Bm,AZ,DV.bool.injEq,ACN]at hlt;have hzl:z.toNat<l.length:=by omega
 have ha:a=some ⟨(m.mu id).1,0,none⟩:=g5 (by omega)
 subst ha;refine⟨.pointer (some ⟨(m.mu id).1,z.toNat*ts.length,none⟩),?_,?_⟩
 ·obtain⟨n,rfl⟩:=ADM hz0;have hadd:=add_plain (m.mu id).1 0 (n*ts.length)
  rw[ACk]at hadd;have hnl:n<l.length:=by simpa using hzl
  simp[Instr.indexAt,asIntOf,run_underlying hu,B7 hz,hnl,hadd]
 ·simp only[V];exact⟨_,_,rfl,g1,g3,rfl,l,k,z,d2,d1,hz0,hzl,g2,by simp⟩
theorem Wt{t:TypeId}{a r:AV}{x:Value}(hr:HR m h w)(hs:UL P h t a=some r)(hx:V m a x):Good m ((do pure (Next.value (←Instr.loadAt t x)):Sem Next).run P w) r h:=by
 unfold UL at hs;split at hs<;>(try (cases hs;done))
 rename_i id ts e i c;split at hs<;>(try (cases hs;done))
 rename_i el us f k hg hk;split at hs<;>(try (cases hs;done))
 rename_i hc;simp only[ACH,ACn]at hc;obtain⟨⟨⟨h1,h2⟩,h3⟩,h4⟩:=hc;obtain rfl:=BS h1;have hx:=u9 h2 hx
 clear h2;simp only[V]at hx;obtain⟨_,_,rfl,q1,q2,rfl,l,kk,z,d1,d2,z0,z1,z2,rfl⟩:=hx;have hgr:GR m (m.mu id) el ts f w:=(hr.obj id _ hg (by show (m.mu id).2≠0;omega)).2.2
 rcases hgr.own q2 with h0|⟨l',d3,hrow,hl',_,hbr⟩
 ·omega
 rw[d1]at d3;cases d3;have hlen:z.toNat*ts.length+(c+k)≤l.length*ts.length:=by
  have:(z.toNat+1)*ts.length≤l.length*ts.length:=ACx _ z1
  rw[ADH]at this;omega
 obtain⟨cv,b1,b2,b3,_⟩:=hbr;have hn:(BH el ts f l.length).n=l.length*ts.length:=rfl
 rw[hn]at b2 b3;refine UY hr hk ?_ hs rfl ⟨(cv.toList.drop (z.toNat*ts.length+c)).take k,PR ?_ ?_,?_⟩
 ·rw[ACh,ADA,Bw];omega
 ·simp only[ACh,ADA,Bw,ACp];omega
 ·intro j a hj;rw[AC6]at hj;split at hj
  ·rename_i hjk;rw[AC9]at hj;have hcj:c+j<ts.length:=by omega
   rw[FD (ACL hcj),ACk]at hj;cases hj;obtain⟨v,hv1,hv2⟩:=b3 (z.toNat*ts.length+c+j) (by omega)
   refine⟨v,?_,?_⟩
   ·rw[AC6,if_pos hjk,AC9];simpa using hv1
   ·rw[CR h4 (by omega)]at hv2
    have e1:(z.toNat*ts.length+c+j)%ts.length=c+j:=by
     rw[AEZ,ADT,AEK,ADz hcj]
    have e2:(z.toNat*ts.length+c+j) / ts.length=z.toNat:=by
     rw[AEZ,ADT,AEY (by omega),AER hcj,ADf]
    rw[e1,e2,ACI,ACL hcj,ACo]at hv2;simp only[V,den,d1,d2,atD]at hv2⊢;exact hv2
  ·cases hj
 ·intro j v hj;rw[AC6]at hj;split at hj
  ·rw[AC9]at hj;rw[add_plain];simp only[World.cell?,b1];simpa using hj
  ·cases hj
theorem U1{s:TypeId}{a r:AV}{f:Nat}{x:Value}(hs:Qm P s a f=some r)(hx:V m a x):∃z,(Instr.fieldAt s x f).run P w=.ok z w∧V m r z:=by
 unfold Qm at hs;split at hs<;>(try (cases hs;done))
 rename_i id ts e i c fs hu;split at hs<;>(try (cases hs;done))
 rename_i fl hf;split at hs<;>(try (cases hs;done))
 rename_i n hz;cases hs;simp only[V]at hx;obtain⟨_,_,rfl,q1,q2,rfl,l,kk,z,d1,d2,z0,z1,z2,rfl⟩:=hx;refine⟨.pointer (some ⟨(m.mu id).1,z.toNat*ts.length+(c+fl.offset),none⟩),?_,?_⟩
 ·rw[J3 hu hf hz,add_plain,AEZ]
 ·simp only[V];exact⟨_,_,rfl,q1,q2,rfl,l,kk,z,d1,d2,z0,z1,z2,rfl⟩
omit O in
theorem U2{t:TypeId}{a b:AV}{x u:Value}{h':AHeap}(hr:HR m h w)(hs:Ql P h t a b=some h')(hx:V m a x)(hu:V m b u):Good m ((do Instr.storeAt t x u;pure Next.skip:Sem Next).run P w) (.sc undef) h':=by
 unfold Ql at hs;split at hs<;>(try (cases hs;done))
 rename_i id ts e i c;split at hs<;>(try (cases hs;done))
 rename_i el us f k cs hg hk hcs;split at hs<;>(try (cases hs;done))
 rename_i hc;split at hs<;>(try (cases hs;done))
 rename_i es hes;cases hs;simp only[ACH,ACn,ACY]at hc;obtain⟨⟨⟨⟨⟨h1,h2⟩,h3⟩,h4⟩,h5⟩,h6⟩:=hc;obtain rfl:=BS h1;subst h3;have hx:=u9 h2 hx
 clear h2;simp only[V]at hx;obtain⟨_,_,rfl,q1,q2,rfl,l,kk,z,d1,d2,z0,z1,z2,rfl⟩:=hx;have hgr:GR m (m.mu id) el ts f w:=(hr.obj id _ hg (by show (m.mu id).2≠0;omega)).2.2
 rcases hgr.own q2 with h0|⟨l',d3,hrow,hl',_,hbr⟩
 ·omega
 rw[d1]at d3;cases d3;have hlen:z.toNat*ts.length+(c+cs.length)≤l.length*ts.length:=by
  have:(z.toNat+1)*ts.length≤l.length*ts.length:=ACx _ z1
  rw[ADH]at this;omega
 have hl:=PS hcs hu
 have hsz:=Ay hl
 simp at hsz;obtain⟨hel,het,hez⟩:=Q9 hes hl;obtain⟨l',e1,e2,e3,e4⟩:=jx (R:=m.R) (es:=es) (c:=c) (n:=ts.length) d1 d2 z1 hrow (by omega)
 obtain⟨cv,b1,b2,b3,b4⟩:=hbr;have hn:(BH el ts f l.length).n=l.length*ts.length:=rfl
 rw[hn]at b2 b3;have hst:=run_storeCells_at P (m.mu id).1 (z.toNat*ts.length+c) el u.cells.toList 0 cv w b1 (by simp;omega) (YX h6 hl)
 simp only[ADf]at hst;have hx2:Sem.run P (Instr.storeAt t (.pointer (some ⟨(m.mu id).1,z.toNat*ts.length+c,none⟩)) u) w=.ok () (w.setRow (m.mu id).1 (cv.toList.take (z.toNat*ts.length+c)++u.cells.toList++cv.toList.drop (z.toNat*ts.length+c+u.cells.toList.length)).toArray):=by
  simp[Instr.storeAt,Instr.sureAddr,storeVar,B7 hk,hsz]at hst⊢
  first|done|simp[hst]
 refine Good.done (.refl m) (hr.put hg ?_ (fun k hne=>setRow_other w _ k _ hne) rfl (by show (m.mu id).2≠0;omega)) hx2
 refine .inr (.inl ⟨l',e1,e3,by omega,h5,_,setRow_heap w _ cv _ el (0,0) b1,?_,fun k hk=>?_,fun hb=>?_⟩)
 ·show l'.length*ts.length≤_
  rw[e2]
  simp;omega
 ·have hk:k<l'.length*ts.length:=hk
  rw[CR h5 hk];rw[e2]at hk;obtain⟨v0,w1,w2⟩:=b3 k hk;rw[CR h5 hk]at w2;simp only[V,den,e1,d1,atD,AC5,ACZ]at w2⊢;rw[e4];have hkk:k / ts.length*ts.length+k%ts.length=k:=by rw[ADT];exact AEM k _
  have hmod:=AD4 k h5
  have hin:(k / ts.length=z.toNat∧c≤k%ts.length∧k%ts.length<c+es.length)↔(z.toNat*ts.length+c≤k∧k<z.toNat*ts.length+c+es.length):=by
   constructor
   ·rintro⟨q1,q2,q3⟩;rw[q1]at hkk;omega
   ·rintro⟨q1,q2⟩;have:k / ts.length=z.toNat:=by
     apply Nat.div_eq_of_lt_le
     ·omega
     ·rw[ADH];omega
    rw[this]at hkk;exact⟨this,by omega,by omega⟩
  by_cases hh:z.toNat*ts.length+c≤k∧k<z.toNat*ts.length+c+es.length
  ·rw[if_pos (hin.2 hh)];obtain⟨q1,q2,q3⟩:=hin.2 hh;have hlt:k-(z.toNat*ts.length+c)<u.cells.toList.length:=by simp;omega
   have hcell:u.cells.toList[k-(z.toNat*ts.length+c)]? =some u.cells.toList[k-(z.toNat*ts.length+c)]:=ACL hlt
   have hrep:=hez _ _ hcell
   rw[q1]at hkk;have ej:k-(z.toNat*ts.length+c)=k%ts.length-c:=by omega
   have et:(List.take cs.length (List.drop c ts)).getD (k-(z.toNat*ts.length+c)) .bool=ts.getD (k%ts.length) .bool:=by
    simp only[ACI];rw[ADG (by omega),AC9]
    congr 2
    omega
   rw[et]at hrep;refine⟨u.cells.toList[k-(z.toNat*ts.length+c)],?_,by rw[←ej];exact hrep⟩
   simp only[ADV];rw[ACy,ACV (by simp;omega)]
   rw[ACc (by simp;omega)]
   simp only[ACh,ACp];rw[show min (z.toNat*ts.length+c) cv.size=z.toNat*ts.length+c by omega]
   exact hcell
  ·rw[if_neg (fun h=>hh (hin.1 h))]
   refine⟨v0,?_,w2⟩
   simp only[ADV]
   by_cases hlt:k<z.toNat*ts.length+c
   ·rw[ACy,ACc (by simp;omega),AC6,if_pos hlt]
    simpa using w1
   ·have hul:u.cells.toList.length=es.length:=by simp;omega
    rw[ACV (by simp;omega),AC9]
    have e:z.toNat*ts.length+c+u.cells.toList.length+(k-(List.take (z.toNat*ts.length+c) cv.toList++u.cells.toList).length)=k:=by simp;omega
    rw[e];simpa using w1
 ·obtain⟨p1,p2,p3⟩:=b4 rfl;refine⟨?_,p2,?_⟩
  ·show (m.mu id).2*ts.length≤_
   have p1:(m.mu id).2*ts.length≤cv.size:=p1
   simp;omega
  ·show l'.length*ts.length≤(m.mu id).2*ts.length
   rw[e2];exact p3
theorem Qa(hF:FactsOK m.R)(o:Oper){ev:Operand→AV}{ρ:Operand→Value}(hev:∀x,V m (ev x) (ρ x))(hr:HR m h w){av:AV}{h':AHeap}(hop:I6 P ev h o=some (av,h')):
  Good m ((execOp ρ o).run P w) av h':=by
 unfold I6 at hop;split at hop
 ·rename_i r h0;cases hop;exact Yu hF o hev hr h0
 ·rename_i hno;clear hno;obtain⟨dst,op,type,pos,after,guard⟩:=o;dsimp only at hop
  split at hop
  ·rename_i t x ix;split at hop
   ·rename_i r h1;cases hop;obtain⟨z,g1,g2⟩:=Ws (P:=P) (w:=w) hF h1 (hev x) (hev ix);exact Good.run (s:=Instr.indexAt t (ρ x) (ρ ix)) hr g2 g1
   ·exact Kk _ (fun x=>Sz hF (hev x)) hr hop
  ·exact Kk _ (fun x=>Sz hF (hev x)) hr hop
  ·rename_i t a;simp only[ACa,ACP]at hop;obtain⟨r,h1,rfl,rfl⟩:=hop;exact Wt hr h1 (hev a)
  ·rename_i t a x;simp only[ACa,ACP]at hop;obtain⟨r,h1,rfl,rfl⟩:=hop;exact U2 hr h1 (hev a) (hev x)
  ·rename_i s x f;simp only[ACa,ACP]at hop;obtain⟨r,h1,rfl,rfl⟩:=hop;obtain⟨z,g1,g2⟩:=U1 (P:=P) (w:=w) h1 (hev x);exact Good.run (s:=Instr.fieldAt s (ρ x) f) hr g2 g1
  ·rename_i bop t x y _;split at hop
   ·rename_i r h1;cases hop;obtain⟨z,g1,g2⟩:=fV (P:=P) (p:=x) (q:=y) (w:=w) hF h1 (hev x) (hev y);exact Good.run (s:=do eqGuard bop t x y (ρ x) (ρ y);binOp bop t (ρ x) (ρ y)) hr g2 g1
   ·simp only[ACa,ACP]at hop;obtain⟨r,h1,rfl,rfl⟩:=hop;obtain⟨z,g1,g2⟩:=fW (P:=P) (p:=x) (q:=y) (w:=w) hF h1 (hev x) (hev y);exact Good.run (s:=do eqGuard bop t x y (ρ x) (ρ y);binOp bop t (ρ x) (ρ y)) hr g2 g1
  ·rename_i t x;simp only[ACa,ACP]at hop;obtain⟨r,h1,rfl,rfl⟩:=hop;have hx:=hev x
   unfold uc at h1;split at h1<;>(try (cases h1;done))
   rename_i k e hk;cases h1;rw[hk]at hx;simp only[V,Rep]at hx;obtain⟨u,d1,hu,_,_⟩:=hx;refine Good.run (s:=Op.unary .neg (ρ x)) (v:=.int k (k.wrap (0-u))) hr ?_ (by rw[hu];rfl)
   simp only[V,Rep,den,d1,AZ];exact⟨_,rfl,rfl,(Df k _).1,(Df k _).2⟩
  ·cases hop
end
end Go.AM
end
