/-
  A part of the proof of ClientStays (the machine on named data, and the contracts of the functions that the law reaches). Its names and spaces were shortened by a program of ours.
-/
import Derived.Test.YtobajijkmmhdjaaGreatDoorPAe
set_option linter.all false
noncomputable section
namespace Go.AM
open Go
variable [O:Orc]
section
variable {df:List Deferred}{P:Program}{G:Nat→Option (List AV)}{call:Bi}{ops:Array Oper}{b nt:Nat}{f0:Nat→AV}{p:Plan}{j:Nat}{o:Oper}{m0 m m':Env}{R:Nat→Bool}{a:Act}{w w':World}
theorem jQ(hok:DJ (CP ops)=true)(hc:GQ ops R)(ho:ops[j]? =some o)(hR:R j=false)(hanc:∀i,hasBit (DK ops j) i=true→R i=true)(hact:C3 o=true):kR ops R=kU ops j:=by
 have hj:j<ops.size:=(ACQ.1 ho).1
 unfold kR kU;rw[←Kf (g:=actN ops) (Nat.le_of_lt hj)];refine EO fun i hi=>?_
 have hi':=ACq hi
 cases hai:actN ops i with
 |false=>rfl
 |true=>
  have hai':C3 ops[i]=true:=by simpa[actN,hi]using hai
  simp only[AEl];rcases AEF i j with h|h|h
  ·rw[hanc i (Jw hok hi' ho h (.inl ⟨hai',hact⟩))];simp[h]
  ·subst h;simp[hR]
  ·have:=Jw hok ho hi' h (.inl ⟨hact,hai'⟩)
   have hn:¬i<j:=by omega
   simp only[hn,decide_false];cases hri:R i with
   |false=>rfl
   |true=>have:=I9 hc hi' hri this;rw[hR]at this;cases this
theorem yO(hanc:∀i,hasBit (DK ops j) i=true→R i=true):loN ops j≤kR ops R:=
 Ff fun i _ e=>by
  simp only[ACH]at e⊢;exact⟨e.1,hanc i e.2⟩
theorem yP(hc:GQ ops R)(hR:R j=false):kR ops R≤hiN ops j:=
 Ff fun i hi e=>by
  simp only[ACH,ADc]at e⊢;refine⟨e.1,?_⟩
  cases hb:hasBit (DK ops i) j with
  |false=>rfl
  |true=>have:=I9 hc (ACq hi) e.2 hb;rw[hR]at this;cases this
theorem ug:kR ops R≤kU ops ops.size:=
 Ff fun i _ e=>by
  simp only[ACH]at e;exact e.1
def keep(ops:Array Oper)(p:Plan)(b:Nat)(m0:Env)(R:Nat→Bool)(j lim L:Nat)(id:Nat):Prop:=
 m0.res id∨(∃i,i<ops.size∧i≠j∧(R i=false∨(actN ops i=false∧p.nw i=none))∧id=b+i)∨(lim≤id∧id<L)
theorem Inv.view(hi:Inv df G ops b nt f0 p m0 R m a w)(ho:ops[j]? =some o)(hR:R j=false){S:AHeap}(h1:S.next=b+j)(h2:(p.at ops R).1.lim≤S.lim)
  (hsub:∀id ob,S.t.get id=some ob→mixG b p.nw R (p.at ops R) id=some ob):
  HR (m.hide (mixG b p.nw R (p.at ops R)) S.t.get w (keep ops p b m0 R j (p.at ops R).1.lim S.lim)) S w:=by
 have hj:j<ops.size:=(ACQ.1 ho).1
 have hl:=hi.lim.1
 refine hi.hg.into hsub (fun id hd=>⟨?_,?_⟩) (by omega) fun id hd=>?_
 ·rintro rfl;rw[h1]at hd;exact hi.free j hj (.inl hR) hd
 ·have:=hi.dom id hd
  omega
 ·rcases hd with hd|⟨i,k1,k2,k3,rfl⟩|⟨k1,k2⟩
  ·obtain⟨a1,a2⟩:=hi.res id hd;exact⟨a1,by omega,by omega⟩
  ·exact⟨hi.free i k1 k3,by omega,by omega⟩
  ·refine⟨fun hd=>?_,by omega,k2⟩
   have:=hi.dom id hd
   omega
theorem Inv.evs(hi:Inv df G ops b nt f0 p m0 R m a w){g:Nat→Option AObj}{s:Nat→Option AObj}{res:Nat→Prop}:∀x,V (m.hide g s w res) (evF G (tvN f0 ops p.val R ops.size) x) (a.eval x):=
 jo (hi.g.wmono (m.hide_wle _ _ _ _)) fun t=>V.wmono (m.hide_wle _ _ _ _) _ _ (hi.tm t)
omit O in
theorem yQ{i n:Nat}(h:i<n):kU ops (i+1)≤kU ops n:=by
 have:∀n,i+1≤n→cnt (actN ops) (i+1)≤cnt (actN ops) n:=by
  intro n
  induction n with
  |zero=>intro h;omega
  |succ n ih=>
   intro h;rcases Nat.eq_or_lt_of_le h with e|e
   ·rw[e];exact ACv _
   ·have:=ih (by omega)
    simp only[cnt]at this⊢;omega
 exact this n h
theorem Inv.step[Rd:Rnd](hcall:CallRK P G call)(hok:DJ (CP ops)=true)(hi:Inv df G ops b nt f0 p m0 R m a w)(hc:GQ ops R)(hRn:∀i,R i=true→i<ops.size)(ho:ops[j]? =some o)(hR:R j=false)
  (hanc:∀i,hasBit (DK ops j) i=true→R i=true) (hsol:Solid ops b p) (hrow:R7 P G call ops b nt f0 (W6 P G call ops b f0 p j o) p j o) {K:Act→World→Prop} {Q:Exit→Act→World→Prop}
  (hK:∀m' a' w',Inv df G ops b nt f0 p m0 (BU R j) m' a' w'→K a' w'):wpOpIn (fen Rd.ro) 0 P ops Q j K a w:=by
 have hj:j<ops.size:=(ACQ.1 ho).1
 have haj:actN ops j=C3 o:=by simp[actN,ho]
 obtain⟨hlt,bw,hw,hcs⟩:=hrow;have hsees:∀t∈I7 ops o,tvN f0 ops p.val R ops.size t=tvN f0 ops p.val (fun _=>true) j t:=fun t ht=>rv hok hc ho hR hanc ht
 rw[←Wk hsees]at hw;have hwant:=Fo hi.g.f hi.tm hw
 have hst:∀S,DD P call (evF G (tvN f0 ops p.val R ops.size)) S o=DD P call (evF G (tvN f0 ops p.val (fun _=>true) j)) S o:=fun S=>aJ o (jO hsees)
 have hgm:∀{g s:Nat→Option AObj} {res:Nat→Prop},GOK (m.hide g s w res) G:=hi.g.wmono (m.hide_wle _ _ _ _)
 unfold wpOpIn;simp only[ho,hwant];rcases hcs with ⟨rfl,hact,hv,hnw⟩|⟨rfl,hact,hv,hnw,hch⟩|⟨rfl,hact,hnw,⟨S,s1,s2,s3,s4⟩,c2,c3,c4⟩|⟨rfl,hact,h',s4,hnw,c1,c2⟩|⟨rfl,hact,hrd,hnw,hall⟩
 ·simp only[AC3,if_false];refine⟨fun _ _=>trivial,?_⟩
  exact hK _ _ _ (hi.pass hok hc ho hR hlt hv hnw (.inl hact))
 ·simp only[AC3,if_false];refine⟨fun _ _=>trivial,?_⟩
  refine hK _ _ _ (hi.pass hok hc ho hR hlt hv hnw (.inr ⟨hact,?_⟩))
  unfold Plan.at;rw[jQ hok hc ho hR hanc hact];exact hch
 ·
  simp only[if_true];have hk:=jQ hok hc ho hR hanc hact
  have hkU:kU ops j+1≤kU ops ops.size:=by
   have h1:=Hj ho
   rw[if_pos hact]at h1;rw[←h1];exact yQ hj
  have hcR:p.at ops R=p.ch (kU ops j):=by unfold Plan.at;rw[hk]
  have hcR':p.at ops (BU R j)=p.ch (kU ops j+1):=by unfold Plan.at;rw[Jx ho hR,if_pos hact,hk]
  have hsub:∀id ob,S.t.get id=some ob→mixG b p.nw R (p.at ops R) id=some ob:=by
   intro id ob e;rw[s3,←hcR]at e;exact Qu hanc hRn hi.clean id ob e
  have hr:=hi.view ho hR s1 (by rw[s2,hcR];omega) hsub
  refine (JH hcall hi.evs hr hgm (by rw[hst];exact s4) fun m' x w' h1 h2 h3=>hK _ _ _ (hi.did hok hc ho hR hlt h1 h3 h2 ?_ ?_ ?_ ?_ ?_ (fun id h=>.inl h) ?_))
  ·intro id ob e;rw[hcR']at e;unfold mixG at e;split at e
   ·rename_i hcond;obtain⟨k1,k2,k3,k4⟩:=hcond;simp only[c2,Dn,AEk,EM,ACK]at k3;obtain⟨⟨k5,k6⟩,k7⟩:=k3;have hRi:R (id-b)=true:=by simpa[BU,Ne.symm k7]using k2
    refine I8 ?_ ?_
    ·unfold mixG;rw[if_pos ⟨k1,hRi,by rw[hcR];exact k5,k4⟩]
     exact e
    ·rw[s3];unfold mixG;rw[if_neg (by rw[k6];simp)]
     have:=hi.clean (id-b) (hRn _ hRi) (by rw[hcR];exact k5)
     rw[hcR,show b+(id-b)=id by omega]at this
     exact this
   ·rcases G5 (S:=S) (h':=(p.ch (kU ops j+1)).1) (g:=mixG b p.nw R (p.at ops R)) id with ⟨ob',k1,k2,k3⟩|k
    ·have hx:b≤id∧id-b<ops.size∧p.nw (id-b)=some ob':=by
      unfold mixG at k1;split at k1
      ·rename_i hcd;exact⟨hcd.1,hRn _ hcd.2.1,k1⟩
      ·rename_i hcd;rw[s3]at k2;unfold mixG at k2;split at k2
       ·rename_i hcd2;rw[k2]at hcd2;simp at hcd2
       ·rw[hcR]at k1;rw[k1]at k2;cases k2
     have hng:=hsol.ch _ _ _ hkU hx.2.1 hx.2.2
     rw[show b+(id-b)=id by omega]at hng
     rw[hi.hg.apart h1 h3 k1 k2 (ax (hsol.nw _ _ hx.2.1 hx.2.2)) (ay hng)]at e;cases e
    ·rw[k];exact e
  ·intro id hd;rw[hcR'];exact (h3.next id hd).2
  ·intro i k1 k2
   by_cases e:i=j
   ·subst e;rcases k2 with k2|k2
    ·simp[BU]at k2
    ·rw[haj,hact]at k2;cases k2.1
   ·simp only[BU,if_neg e]at k2;exact (h3.res _ (h1.res _ (.inr (.inl ⟨i,k1,e,k2,rfl⟩)))).1
  ·intro i k1 k2;rw[hcR']at k2⊢;simp only[c2,Dn,AEk,EM,ACK]at k2;obtain⟨⟨k5,k6⟩,k7⟩:=k2;have free:(R i=false∨(actN ops i=false∧p.nw i=none))→(p.ch (kU ops j+1)).1.t.get (b+i)=none:=by
    intro hf;have hnd:=(h3.res _ (h1.res _ (.inr (.inl ⟨i,k1,Ne.symm k7,hf,rfl⟩)))).1
    cases hg:(p.ch (kU ops j+1)).1.t.get (b+i) with
    |none=>rfl
    |some y=>exact absurd (h3.objL _ _ hg).1 hnd
   cases hRi:R i with
   |false=>exact free (.inl hRi)
   |true=>
    cases hai:actN ops i with
    |true=>
     have:=hi.acts i k1 hai hRi
     rw[hcR,k5]at this;cases this
    |false=>
     cases hni:p.nw i with
     |none=>exact free (.inr ⟨hai,hni⟩)
     |some ob=>
      refine hi.hg.apart (id:=b+i) (o:=ob) h1 h3 ?_ ?_ (ax (hsol.nw _ _ k1 hni)) (ay (hsol.ch _ _ _ hkU k1 hni))
      ·unfold mixG;rw[show b+i-b=i by omega,if_pos ⟨by omega,hRi,by rw[hcR];exact k5,by rw[hni];rfl⟩,hni]
      ·rw[s3];unfold mixG;rw[show b+i-b=i by omega,if_neg (by rw[k6];simp)]
       have:=hi.clean i k1 (by rw[hcR];exact k5)
       rw[hcR]at this;exact this
  ·intro i k1 k2 k3;rw[hcR'];simp only[c2,Dn,ADW,EM,ACN]
   by_cases e:i=j
   ·exact .inr e.symm
   ·simp only[BU,if_neg e]at k3;have:=hi.acts i k1 k2 k3
    rw[hcR]at this;exact .inl (.inl this)
  ·rw[hcR'];have:=hi.lim.1
   rw[hcR]at this;exact⟨by omega,c4⟩
 ·
  simp only[if_true];have hcR':p.at ops (BU R j)=p.at ops R:=by unfold Plan.at;rw[Jx ho hR];simp[hact]
  have hr:=hi.view (S:={next:=b+j,lim:=farA b,t:=.nil}) ho hR rfl hi.lim.2 (fun id ob e=>by simp at e)
  refine (JH hcall hi.evs hr hgm (by rw[hst];exact s4) fun m' x w' h1 h2 h3=>hK _ _ _ (hi.did hok hc ho hR hlt h1 h3 h2 ?_ ?_ ?_ ?_ ?_ (fun id h=>.inl h) ?_))
  ·intro id ob e;rw[hcR']at e;unfold mixG at e;split at e
   ·rename_i hcond;obtain⟨k1,k2,k3,k4⟩:=hcond
    by_cases hne:id-b=j
    ·rw[hne]at e k3;have hid:b+j=id:=by omega
     rw[hnw,hid]at e;rw[aH,e];unfold mixG;rw[if_neg (by rw[hne,hR];simp)]
     have:=hi.clean j hj k3
     rw[hid]at this;exact this
    ·have hRi:R (id-b)=true:=by simpa[BU,hne]using k2
     refine I8 ?_ (by simp)
     unfold mixG;rw[if_pos ⟨k1,hRi,k3,k4⟩];exact e
   ·rename_i hcond;refine I8 ?_ (by simp)
    unfold mixG;rw[if_neg]
    ·exact e
    ·rintro⟨k1,k2,k3⟩;refine hcond ⟨k1,?_,k3⟩
     unfold BU;split
     ·rfl
     ·exact k2
  ·intro id hd;rw[hcR'];rcases ADd id (p.at ops R).1.lim with h|h
   ·exact h
   ·rcases ADd id (farA b) with h5|h5
    ·exact absurd hd (h3.res _ (h1.res _ (.inr (.inr ⟨h,h5⟩)))).1
    ·have h6:=h3.next id hd
     cases hn:p.nw j with
     |none=>have:=c1 hn;omega
     |some ob=>have:=c2 (by rw[hn];simp);omega
  ·intro i k1 k2
   by_cases e:i=j
   ·subst e;rcases k2 with k2|k2
    ·simp[BU]at k2
    ·intro hd;exact (h3.next _ hd).1 (c1 k2.2).1.symm
   ·simp only[BU,if_neg e]at k2;exact (h3.res _ (h1.res _ (.inr (.inl ⟨i,k1,e,k2,rfl⟩)))).1
  ·rw[hcR'];exact hi.clean
  ·intro i k1 k2 k3
   by_cases e:i=j
   ·subst e;rw[haj,hact]at k2;cases k2
   ·simp only[BU,if_neg e]at k3;rw[hcR'];exact hi.acts i k1 k2 k3
  ·rw[hcR'];exact hi.lim
 ·
  simp only[if_true];have hcR':p.at ops (BU R j)=p.at ops R:=by unfold Plan.at;rw[Jx ho hR];simp[hact]
  obtain⟨S,h',v,s1,s2,s3,s4,s5⟩:=hall (kR ops R) (yO hanc) (yP hc hR) ug;have hS:h'=S:=jL (G:=G) hrd s4
  subst hS;have hsub:∀id ob,h'.t.get id=some ob→mixG b p.nw R (p.at ops R) id=some ob:=by
   intro id ob e;rw[s3]at e;exact Qu hanc hRn hi.clean id ob e
  have hr:=hi.view ho hR s1 (by rw[s2];exact hi.lim.2) hsub
  refine (JH hcall hi.evs hr hgm (by rw[hst];exact s4) fun m' x w' h1 h2 h3=>hK _ _ _ (hi.did hok hc ho hR hlt h1 h3 (s5 _ _ h2) ?_ ?_ ?_ ?_ ?_ (fun id h=>.inl h) ?_))
  ·intro id ob e;rw[hcR']at e;have GL:mixG b p.nw (BU R j) (p.at ops R) id=mixG b p.nw R (p.at ops R) id:=by
    unfold mixG
    by_cases e:id-b=j
    ·rw[e,hnw];simp
    ·simp only[BU,if_neg e]
   rw[GL]at e;cases hg:h'.t.get id with
   |none=>exact I8 e hg
   |some ob'=>
    rw[jK hg,hg,←hsub id ob' hg,e]
  ·intro id hd;rw[hcR'];rcases ADd id (p.at ops R).1.lim with h|h
   ·exact h
   ·rcases ADd id h'.lim with h5|h5
    ·exact absurd hd (h3.res _ (h1.res _ (.inr (.inr ⟨h,h5⟩)))).1
    ·have h6:=h3.next id hd
     omega
  ·intro i k1 k2
   by_cases e:i=j
   ·subst e;rcases k2 with k2|k2
    ·simp[BU]at k2
    ·intro hd;exact (h3.next _ hd).1 s1.symm
   ·simp only[BU,if_neg e]at k2;exact (h3.res _ (h1.res _ (.inr (.inl ⟨i,k1,e,k2,rfl⟩)))).1
  ·rw[hcR'];exact hi.clean
  ·intro i k1 k2 k3
   by_cases e:i=j
   ·subst e;rw[haj,hact]at k2;cases k2
   ·simp only[BU,if_neg e]at k3;rw[hcR'];exact hi.acts i k1 k2 k3
  ·rw[hcR'];exact hi.lim
end
end Go.AM
namespace Go.AM
open Go
variable [O:Orc]
theorem mT{g:Nat→Bool}{n:Nat}(h:∀i,i<n→g i=false):cnt g n=0:=by
 induction n with
 |zero=>rfl
 |succ n ih=>
  simp only[cnt];rw[ih fun i hi=>h i (by omega),h n (by omega)]
  simp
theorem ry{g:Nat→Bool}{n:Nat}(h:cnt g n≠0):∃i,i<n∧g i=true∧∀k,k<i→g k=false:=by
 induction n with
 |zero=>exact absurd rfl h
 |succ n ih=>
  by_cases h0:cnt g n=0
  ·simp only[cnt,h0,ACk]at h;refine⟨n,by omega,by by_cases hg:g n=true<;>simp_all,fun k hk=>?_⟩
   cases hg:g k with
   |false=>rfl
   |true=>
    exfalso
    clear ih h
    induction n with
    |zero=>omega
    |succ n ih2=>
     simp only[cnt]at h0
     by_cases e:k=n
     ·subst e;rw[hg]at h0;simp at h0
     ·exact ih2 (by omega) (by omega)
  ·obtain⟨i,h1,h2,h3⟩:=ih h0;exact⟨i,by omega,h2,h3⟩
section
variable {df:List Deferred}{P:Program}{G:Nat→Option (List AV)}{call:Bi}{ops:Array Oper}{b nt:Nat}{f0:Nat→AV}{p:Plan}{m0:Env}
theorem eQ{listed:Array Bool}{j:Nat}(hj:j<listed.size):(fun i=>(listed.setIfInBounds j true).getD i false)=BU (fun i=>listed.getD i false) j:=by
 funext i
 simp only[BU,ADK]
 by_cases e:i=j
 ·subst e;simp[hj]
 ·rw[if_neg e,ADt (Ne.symm e)]
theorem jR[Rd:Rnd](hcall:CallRK P G call)(hok:DJ (CP ops)=true)(hsol:Solid ops b p)(hrows:∀i o,ops[i]? =some o→R7 P G call ops b nt f0 (W6 P G call ops b f0 p i o) p i o){Q:Exit→Act→World→Prop}
  (hQ:∀R m a w,(∀i,i<ops.size→R i=true)→(∀i,R i=true→i<ops.size)→Inv df G ops b nt f0 p m0 R m a w→Q .normal a w):
  ∀(fuel:Nat) (listed:Array Bool) (m:Env) (a:Act) (w:World),listed.size=ops.size→GQ ops (fun i=>listed.getD i false)→cnt (fun i=>Bool.not (listed.getD i false)) ops.size=fuel→
   Inv df G ops b nt f0 p m0 (fun i=>listed.getD i false) m a w→wpAnyIn (fen Rd.ro) 0 P .any ops Q fuel listed a w:=by
 intro fuel
 induction fuel with
 |zero=>
  intro listed m a w hsz hcl hct hinv;have hall:∀i,i<ops.size→listed.getD i false=true:=by
   intro i hi;cases hg:listed.getD i false with
   |true=>rfl
   |false=>
    have h1:=G6 (g:=fun i=>Bool.not (listed.getD i false)&&Bool.not (decide (i=i))) (g':=fun k=>Bool.not (listed.getD k false)) (j:=i) (n:=ops.size)
    have h2:=G6 (g:=fun k=>Bool.not (listed.getD k false)&&Bool.not (decide (k=i))) (g':=fun k=>Bool.not (listed.getD k false)) (j:=i) (by simp) (by simpa using hg) (fun k hk=>by simp[hk]) hi
    omega
  have hlt:∀i,listed.getD i false=true→i<ops.size:=by
   intro i hi;rcases ADd i ops.size with h|h
   ·exact h
   ·simp[AEf (by omega:listed.size≤i)]at hi
  refine⟨?_,hQ _ m a w hall hlt hinv⟩
  cases hr:Region.ready .any ops listed with
  |nil=>rfl
  |cons j js=>
   have hj:j∈Region.ready .any ops listed:=by rw[hr];simp
   rw[mem_ready]at hj;obtain⟨h1,o,h2,_⟩:=hj;have h3:=hall j (ACQ.1 h2).1
   have hjl:j<listed.size:=by rw[hsz];exact (ACQ.1 h2).1
   simp[hjl]at h1 h3;rw[h1]at h3;cases h3
 |succ fuel ih=>
  intro listed m a w hsz hcl hct hinv;have hlt:∀i,listed.getD i false=true→i<ops.size:=by
   intro i hi;rcases ADd i ops.size with h|h
   ·exact h
   ·simp[AEf (by omega:listed.size≤i)]at hi
  refine⟨fun hnil=>?_,fun j hj=>?_⟩
  ·obtain⟨i,h1,h2,h3⟩:=ry (g:=fun i=>Bool.not (listed.getD i false)) (n:=ops.size) (by omega)
   have:i∈Region.ready .any ops listed:=by
    rw[mem_ready];have hil:i<listed.size:=by omega
    refine⟨?_,ops[i],ACq h1,fun e he hb=>?_⟩
    ·simp[hil]at h2⊢;exact h2
    ·have:=Nv hok h1 (ru (ACq h1) he hb)
     have:=h3 _ this
     simpa using this
   rw[hnil]at this;cases this
  ·rw[mem_ready]at hj;obtain⟨h1,o,h2,h3⟩:=hj;have hjn:=(ACQ.1 h2).1
   have hjl:j<listed.size:=by omega
   have hRj:listed.getD j false=false:=by
    simp[hjl]at h1⊢;exact h1
   refine hinv.step hcall hok hcl hlt h2 hRj (jM hcl j o h2 h3) hsol (hrows j o h2) fun m' a' w' hinv'=>?_
   have hset:=eQ hjl
   refine ih (listed.setIfInBounds j true) m' a' w' (by simpa using hsz) ?_ ?_ ?_
   ·rw[hset];intro i oi hi hRi e he hb;simp only[BU]at hRi⊢;split
    ·rfl
    ·split at hRi
     ·rename_i e1;subst e1;rw[h2]at hi;cases hi;exact h3 e he hb
     ·exact hcl i oi hi hRi e he hb
   ·have:=G6 (g:=fun i=>Bool.not ((listed.setIfInBounds j true).getD i false)) (g':=fun i=>Bool.not (listed.getD i false)) (j:=j) (n:=ops.size) (by
     have:=congrFun hset j
     simp only[BU]at this;rw[this];simp) (by rw[hRj];rfl) (fun i hi=>by
     have:=congrFun hset i
     simp only[BU,if_neg hi]at this;rw[this]) hjn
    omega
   ·rw[hset];exact hinv'
theorem DP[Rd:Rnd](hm:P.follows .mixedOrders=true)(hcall:CallRK P G call):Jm P G call:=by
 intro id ops m0 s s' a w Q hr hs hQ;unfold eP jJ at hs;split at hs
 ·cases hs
 ·rename_i hpre;simp only[ACH,ACn]at hpre;obtain⟨hok,hfar⟩:=hpre;split at hs
  ·cases hs
  ·rename_i d hrun;split at hs
   ·cases hs
   ·rename_i hrd;cases hs;simp only[ACH]at hrd;obtain⟨hrd,hsn,hsc⟩:=hrd;have hfar':s.h.lim+ops.size≤farA s.h.lim:=hfar
    have hlen:(CP ops).length=ops.size:=by
     have h1:=EN ops ops.size
     simp at h1;rcases ADd (CP ops).length ops.size with h|h
     ·have h2:=EN ops (CP ops).length
      simp[h]at h2
     ·omega
    obtain⟨p,g1,g2,g3,g4⟩:=Nw (f0:=tmV s.tm) (p0:={val:=fun _=>.dead,nw:=fun _=>none,ch:=fun _=>({next:=0,lim:=Nat.add s.h.lim ops.size,t:=s.h.t},0)}) hok (CP ops) 0 _ _ (by simp)
     ⟨rfl,by simp,rfl,fun i hi=>by have:i=0:=Nat.le_zero.1 hi;subst this;rfl,rfl⟩ hrun
    rw[ACk,hlen]at g2;have hch0:p.ch 0=({next:=0,lim:=Nat.add s.h.lim ops.size,t:=s.h.t},0):=g1.2 0 (ADO _)
    have hrows:∀i o,ops[i]? =some o→R7 P G call ops s.h.lim s.n (tmV s.tm) (W6 P G call ops s.h.lim (tmV s.tm) p i o) p i o:=by
     intro i o ho;obtain⟨r1,bw,r2,r3⟩:=g4 i o (ADO _) ho;refine⟨r1,bw,r2,?_⟩
     rcases r3 with r3|r3|r3|r3|⟨e1,e2,e3,e4,e5⟩
     ·exact .inl r3
     ·exact .inr (.inl r3)
     ·exact .inr (.inr (.inl r3))
     ·exact .inr (.inr (.inr (.inl r3)))
     ·exact .inr (.inr (.inr (.inr ⟨e1,e2,e3,e4,uf hok g2 ho hrd e5⟩)))
    have hsol:Solid ops s.h.lim p:=⟨fun i ob hi hn=>ACt.1 hsn (i,ob) ((g2.news i ob).2 ⟨hi,hn⟩),fun k i ob hk hi hn=>by
     have h1:=ACt.1 hsc (p.ch k) (ACf.2 ⟨k,g2.past k hk⟩)
     exact ACt.1 h1 (i,ob) ((g2.news i ob).2 ⟨hi,hn⟩)⟩
    refine wpIn_region_any hm ?_
    refine jR (df:=a.defers) (b:=s.h.lim) (nt:=s.n) (f0:=tmV s.tm) (p:=p) (m0:=m0) hcall hok hsol hrows (fun R m a w h1 h2 hi=>?_) ops.size (Array.replicate ops.size false) m0 a {w with drawn:=w.drawn+1} (by simp) ?_ ?_ ?_
    ·
     have hk:kR ops R=kU ops ops.size:=EO fun i hi=>by simp[h1 i hi]
     have hat:p.at ops R=(d.h,d.got):=by unfold Plan.at;rw[hk,←g2.c]
     refine hQ m a w hi.le ⟨hi.size,fun t=>?_,by rw[hi.defers];exact DRo.wmono hi.le.towle _ _ hr.defers,hr.rnd,?_,hi.g⟩
     ·have:=hi.tm t
      have e:tvN (tmV s.tm) ops p.val R ops.size t=tmV d.tm t:=by
       rw[g2.tm];exact Fg (fun i hi _=>by simp[h1 i hi]) fun _ _=>rfl
      rw[e]at this;exact this
     ·have hd:=hi.dom
      have hl:=hi.lim
      rw[hat]at hd hl;simp only at hd hl;refine HG.hr (hi.hg.sub fun id ob e=>?_) (fun id hid=>?_) (ADk _) fun id hid=>?_
      ·simp only at e;rw[K9 (n:=ops.size) g2.news (fun i hb _=>Nr (by
        have:0<bit ops.size:=by rw[R3];exact Nat.two_pow_pos _
        show Nat.sub (bit ops.size) 1<bit ops.size
        exact Nat.sub_lt this (by decide)) hb)]at e
       rw[hat];have hcl:=hi.clean
       rw[hat]at hcl;refine Qu (ops:=ops) (fun i hb=>h1 i (Nr (by
        have:0<bit ops.size:=by rw[R3];exact Nat.two_pow_pos _
        show Nat.sub (bit ops.size) 1<bit ops.size
        exact Nat.sub_lt this (by decide)) hb)) h2 hcl id ob e
      ·have:=hd id hid
       exact⟨by simp only;omega,by simp only;omega⟩
      ·rw[hi.resEq]at hid;obtain⟨k1,k2⟩:=hi.res id hid;exact⟨k1,by simp only;omega,by simp only;omega⟩
    ·intro i o _ hR;simp[ADy]at hR;split at hR<;>simp at hR
    ·have:∀i,i<ops.size→Bool.not ((Array.replicate ops.size false).getD i false)=true:=by
      intro i hi;simp[ADy,hi]
     have h2:cnt (fun i=>Bool.not ((Array.replicate ops.size false).getD i false)) ops.size=cnt (fun _=>true) ops.size:=EO this
     rw[h2];have h3:∀n,cnt (fun _=>true) n=n:=by
      intro n
      induction n with
      |zero=>rfl
      |succ n ih=>simp[cnt,ih]
     exact h3 _
    ·have hR:(fun i=>(Array.replicate ops.size false).getD i false)=fun _=>false:=by
      funext i
      simp only[ADK,ADy];split<;>rfl
     rw[hR];have hk0:kR ops (fun _=>false)=0:=mT fun i _=>by simp
     have hat:p.at ops (fun _=>false)=({next:=0,lim:=Nat.add s.h.lim ops.size,t:=s.h.t},0):=by unfold Plan.at;rw[hk0,hch0]
     have hh:=hr.h
     have hh':HR m0 s.h {w with drawn:=w.drawn+1}:=hh.same rfl
     refine⟨hr.size,fun t=>?_,rfl,?_,fun id hd=>?_,fun i hi _ hd=>?_,fun i hi _=>?_,(fun i hi _ h=>by cases h),fun id hd=>?_,rfl,Env.le.refl _,hr.g,?_⟩
     ·have e:tvN (tmV s.tm) ops p.val (fun _=>false) ops.size t=tmV s.tm t:=by
       rw[MV (j:=0) (ADO _) fun _ _ _ _=>rfl]
       rfl
      rw[e];exact hr.tm t
     ·rw[hat];exact hh'.hg.sub fun id ob e=>by
       unfold mixG at e;rw[if_neg (by simp)]at e
       exact e
     ·rw[hat];have:=hh.next id hd
      show id<s.h.lim+ops.size
      omega
     ·have:=hh.next _ hd
      omega
     ·rw[hat];show s.h.t.get (s.h.lim+i)=none
      cases hg:s.h.t.get (s.h.lim+i) with
      |none=>rfl
      |some y=>
       have:=hh.next _ (hh.objL _ _ hg).1
       omega
     ·obtain⟨k1,k2,k3⟩:=hh.res id hd;exact⟨k1,k3⟩
     ·rw[hat];exact⟨ACv _,hfar⟩
theorem mU(hm:P.follows .mixedOrders=true)(hN:∀(f:FuncId) (fn:Func),P.funcs[f]? =some fn→(fn.name== "runtime.NumGoroutine")=false){spec:FuncId→Option (List AV→AHeap→Out)}(hsp:Br P G spec)(n:Nat):
  BF P G (W5 P G spec n):=aG hN hsp (fun _ _ h=>DP hm h) n
end
end Go.AM
namespace Go.AM
open Go
def frozen(R:Rho)(w:World):Env:={R,mu:=fun _=>(0,0),dom:=fun _=>False,res:=fun _=>False,E:=fun b=>w.heap[b]?,F:=fun _=>none,io:=ioOf w}
def Ef:AHeap:={next:=0,lim:=1,t:=.nil}
theorem HR.frozen(R:Rho)(w:World):HR (Go.AM.frozen R w) Ef w:=
 ⟨fun _ h=>h.elim,by decide,fun _ h=>h.elim,fun _ _ h=>by simp[Go.AM.frozen]at h,fun _ _ h=>h,fun _ _ h=>by simp[Go.AM.frozen]at h,fun id o h=>by simp[Ef]at h,fun i j x y h=>by simp[Ef]at h,rfl⟩
theorem HR.grow{m:Env}{h:AHeap}{w w':World}(hr:HR m h w)(hw:∀b,b<w.heap.size→w'.heap[b]? =w.heap[b]?)(hio:ioOf w'=ioOf w):HR m h w':=
 ⟨hr.next,hr.lim,hr.res,hr.EF,fun b o e=>by have:=hr.E b o e;rw[hw b (ACQ.1 this).1];exact this,
  fun b o e=>by have:=hr.F b o e;rw[hw b (ACQ.1 this).1];exact this,
  fun id o e=>let ⟨a,b,c⟩:=hr.objL id o e;⟨a,b,c.move (Env.le.refl m) fun l=>hw _ (c.lt l)⟩,hr.injL,hio.trans hr.io⟩
def BO(G:Nat→Option (List AV)):Prop:=∀g cs,G g=some cs→∀c∈cs,∃u,c=.sc u
def subst(τ:List SX):SX→SX
 |.v i=>τ.getD i (.kb false)
 |.ki k z=>.ki k z
 |.kb b=>.kb b
 |.ks s=>.ks s
 |.emp=>.emp
 |.len e=>.len (subst τ e)
 |.at e i c=>.at (subst τ e) (subst τ i) c
 |.byte e i=>.byte (subst τ e) (subst τ i)
 |.bin op x y=>.bin op (subst τ x) (subst τ y)
 |.conv k x=>.conv k (subst τ x)
 |.not x=>.not (subst τ x)
 |.cut e a b=>.cut (subst τ e) (subst τ a) (subst τ b)
 |.cat x y=>.cat (subst τ x) (subst τ y)
 |.bytes x=>.bytes (subst τ x)
 |.text x=>.text (subst τ x)
 |.all es=>.all (substs es)
 |.app f es=>.app f (substs es)
 |.row es=>.row (substs es)
 |.upd e i c x=>.upd (subst τ e) (subst τ i) c (subst τ x)
 |.fit e x=>.fit (subst τ e) (subst τ x)
where
 substs:List SX→List SX
  | []=>[]
  |e::es=>subst τ e::substs es
def AA(I:Nat→List DV→DV)(l:List DV):Rho:=⟨fun i=>l.getD i (.bool false),I⟩
def Rho.sub(R:Rho)(τ:List SX):Rho:=AA R.I (τ.map (den R))
mutual
theorem Ah(R:Rho)(τ:List SX):∀e:SX,den R (subst τ e)=den (R.sub τ) e
 |.v i=>by
  simp only[subst,den,Rho.sub,AA,ACI,ACw];cases τ[i]? with
  |none=>rfl
  |some x=>rfl
 |.ki k z=>rfl
 |.kb b=>rfl
 |.ks s=>rfl
 |.emp=>rfl
 |.len e=>by simp only[subst,den,Ah R τ e]
 |.at e i c=>by simp only[subst,den,Ah R τ e,Ah R τ i]
 |.byte e i=>by simp only[subst,den,Ah R τ e,Ah R τ i]
 |.bin op x y=>by simp only[subst,den,Ah R τ x,Ah R τ y]
 |.conv k x=>by simp only[subst,den,Ah R τ x]
 |.not x=>by simp only[subst,den,Ah R τ x]
 |.cut e a b=>by simp only[subst,den,Ah R τ e,Ah R τ a,Ah R τ b]
 |.cat x y=>by simp only[subst,den,Ah R τ x,Ah R τ y]
 |.bytes x=>by simp only[subst,den,Ah R τ x]
 |.text x=>by simp only[subst,den,Ah R τ x]
 |.all es=>by simp only[subst,den,N5 R τ es]
 |.app f es=>by simp only[subst,den,Mi R τ es];rfl
 |.row es=>by simp only[subst,den,Mi R τ es]
 |.upd e i c x=>by simp only[subst,den,Ah R τ e,Ah R τ i,Ah R τ x]
 |.fit e x=>by simp only[subst,den,Ah R τ e,Ah R τ x]
theorem N5(R:Rho)(τ:List SX):∀es:List SX,den.denAll R (subst.substs τ es)=den.denAll (R.sub τ) es
 | []=>rfl
 |e::es=>by simp only[subst.substs,den.denAll,Ah R τ e,N5 R τ es]
theorem Mi(R:Rho)(τ:List SX):∀es:List SX,den.denL R (subst.substs τ es)=den.denL (R.sub τ) es
 | []=>rfl
 |e::es=>by simp only[subst.substs,den.denL,Ah R τ e,Mi R τ es]
end
theorem Rep.emono{m m':Env}(hE:∀b o,m.E b=some o→m'.E b=some o){t:Ty}{d:DV}{v:Value}(h:Rep m t d v):Rep m' t d v:=by
 have h1:m.wle {m with E:=m'.E}:=⟨fun _ h=>h,fun _ _=>rfl,hE,rfl,rfl⟩
 have h2:=Rep.wmono h1 t d v h
 have key:∀(n:Env) (n':Env),n.E=n'.E→∀t d v,Rep n t d v→Rep n' t d v:=by
  intro n n' e t;have he:∀b o,n.ecell b o=n'.ecell b o:=fun b o=>by simp[Env.ecell,e]
  induction t using Ty.rec (motive_2:=fun ts=>∀ds b o,RepL n ts ds b o→RepL n' ts ds b o) with
  |int k=>intro d v h;simpa only[Rep]using h
  |bool=>intro d v h;simpa only[Rep]using h
  |str=>intro d v h;simpa only[Rep]using h
  |slice cs ih=>
   intro d v h;simp only[Rep]at h⊢;obtain⟨es,a,c,h1,h2,h3,h4,h5,h6⟩:=h;refine⟨es,a,c,h1,h2,h3,h4,h5,?_⟩
   rcases h6 with h6|⟨b,o,e,h7⟩
   ·exact .inl h6
   ·exact .inr ⟨b,o,e,fun i row hi=>ih _ _ _ (h7 i row hi)⟩
  |nil=>rename_i ds b o h;simpa only[RepL]using h
  |cons t ts iht ihts=>
   rename_i ds b o h;simp only[RepL]at h⊢;obtain⟨d,rest,v,h1,h2,h3,h4⟩:=h;exact⟨d,rest,v,h1,by rw[←he];exact h2,iht _ _ h3,ihts _ _ _ h4⟩
 exact key {m with E:=m'.E} m' rfl t d v h2
structure Env.sees (nm:Nat→Bool) (ow:Nat→Option Nat) (m m':Env):Prop where
 dom:∀id,nm id=true→m.dom id→m'.dom id∧m'.mu id=m.mu id
 own:∀i j,ow i=some j→m.dom j→m'.dom i∧m'.mu i=m.mu j
 E:∀b o,m.E b=some o→m'.E b=some o
theorem Env.sees.ecell{nm:Nat→Bool}{ow:Nat→Option Nat}{m m':Env}(h:m.sees nm ow m'){b o:Nat}{v:Value}(hv:m.ecell b o=some v):m'.ecell b o=some v:=by
 unfold Env.ecell at *;cases he:m.E b with
 |none=>simp[he]at hv
 |some x=>rw[h.E b x he];simpa[he]using hv
def isName(o:Option Nat)(j:Nat):Bool:=
 match o with
 |some k=>Nat.beq k j
 |none=>false
theorem V5{o:Option Nat}{j:Nat}(h:isName o j=true):o=some j:=by
 cases o with
 |none=>simp[isName]at h
 |some k=>simp only[isName,ACY]at h;rw[h]
def DL(nm:Nat→Bool)(ow:Nat→Option Nat)(τ:List SX):AV→AV→Bool
 |.dead,_=>true
 |.sy t e,a=>match Fb t a with
  |some x=>eqSX (subst τ e) x
  |none=>false
 |.sc u,.sc v=>match u,v with
  |.func (.func f) a b,.func (.func g) c d=>Nat.beq f g&&Nat.beq a.size 0&&Nat.beq b.size 0&&Nat.beq c.size 0&&Nat.beq d.size 0
  |u,v=>eqV u v
 |.ptr i a,.ptr j b=>Nat.beq i j&&Nat.beq a b&&nm i
 |.sl i a l c,.sl j b k d=>Nat.beq i j&&Nat.beq a b&&Nat.beq l k&&nm i&&(match c,d with
  |none,none=>true
  |some c,some d=>Nat.beq c d
  |_,_=>false)
 |.emp a,.emp b=>Nat.beq a b
 |.agg cs,.agg ds=>matchAVs cs ds
 |.fp cs,.fp ds=>matchAVs cs ds
 |.own i ts e,.own j us f=>isName (ow i) j&&CJ.eqTys ts us&&eqSX (subst τ e) f
 |.clo (.func f) as cs,.clo (.func g) bs ds=>Nat.beq f g&&matchAVs as bs&&matchAVs cs ds
 |.hnd k i,.hnd l j=>Nat.beq k l&&(match Nat.beq k 2 with
  |true=>isName (ow i) j
  |false=>Nat.beq i j&&nm i)
 |_,_=>false
where
 matchAVs:List AV→List AV→Bool
  | [],[]=>true
  |c::cs,d::ds=>DL nm ow τ c d&&matchAVs cs ds
  |_,_=>false
mutual
theorem GS{nm:Nat→Bool}{ow:Nat→Option Nat}{τ:List SX}{m m':Env}(hs:m.sees nm ow m')(hR:m'.R=m.R.sub τ):∀(a b:AV) (v:Value),DL nm ow τ a b=true→V m b v→V m' a v:=by
 intro a b v h hv;unfold DL at h;split at h<;>(try (cases h;done))
 ·simp[V]
 ·rename_i t e b;split at h
  ·rename_i x hx;have:=Fq hx hv
   simp only[V];rw[hR,←Ah,Aw h];exact this.emono hs.E
  ·cases h
 ·rename_i u v';split at h
  ·rename_i f a b g c d;simp only[ACH,ACY]at h;obtain⟨⟨⟨⟨rfl,h1⟩,h2⟩,h3⟩,h4⟩:=h;simp only[V]at hv⊢;rw[hv];have e1:a=#[]:=ADB h1
   have e2:b=#[]:=ADB h2
   have e3:c=#[]:=ADB h3
   have e4:d=#[]:=ADB h4
   rw[e1,e2,e3,e4]
  ·rw[Nx (O:=⟨fun _=>none,fun _ _=>.bool false⟩) h];simpa only[V]using hv
 ·simp only[ACH,ACY]at h;obtain⟨⟨rfl,rfl⟩,h3⟩:=h;simp only[V]at hv⊢;obtain⟨h4,h5⟩:=hs.dom _ h3 hv.1;rw[h5];exact⟨h4,hv.2⟩
 ·simp only[ACH,ACY]at h;obtain⟨⟨⟨⟨rfl,rfl⟩,rfl⟩,h3⟩,h6⟩:=h;simp only[V]at hv⊢;obtain⟨h4,h5⟩:=hs.dom _ h3 hv.1;rw[h5];split at h6
  ·exact⟨h4,hv.2⟩
  ·simp only[ACY]at h6;subst h6;exact⟨h4,hv.2⟩
  ·cases h6
 ·rw[ACY]at h;rw[h];simpa only[V]using hv
 ·simp only[V]at hv⊢;obtain⟨vs,e,hl⟩:=hv;exact⟨vs,e,HC hs hR _ _ _ h hl⟩
 ·simp only[V]at hv⊢;obtain⟨b,o,e,hc⟩:=hv;exact⟨b,o,e,N6 hs hR _ _ b o h hc⟩
 ·simp only[ACH]at h;obtain⟨⟨h1,h2⟩,h3⟩:=h;simp only[V]at hv⊢;obtain⟨h4,h5⟩:=hs.own _ _ (V5 h1) hv.1;rw[h5,hR,←Ah,Aw h3];exact⟨h4,hv.2⟩
 ·simp only[ACH,ACY]at h;obtain⟨⟨rfl,h2⟩,h3⟩:=h;simp only[V]at hv⊢;obtain⟨us,ws,e,k1,k2⟩:=hv;exact⟨us,ws,e,HC hs hR _ _ _ h2 k1,HC hs hR _ _ _ h3 k2⟩
 ·simp only[ACH,ACY]at h;obtain⟨rfl,h2⟩:=h;simp only[V]at hv⊢;split at h2
  ·obtain⟨h4,h5⟩:=hs.own _ _ (V5 h2) hv.1.1;rw[h5];exact⟨⟨h4,hv.1.2⟩,hv.2⟩
  ·simp only[ACH,ACY]at h2;obtain⟨rfl,h3⟩:=h2;obtain⟨h4,h5⟩:=hs.dom _ h3 hv.1.1;rw[h5];exact⟨⟨h4,hv.1.2⟩,hv.2⟩
theorem HC{nm:Nat→Bool}{ow:Nat→Option Nat}{τ:List SX}{m m':Env}(hs:m.sees nm ow m')(hR:m'.R=m.R.sub τ):∀(as bs:List AV) (vs:List Value),DL.matchAVs nm ow τ as bs=true→VL m bs vs→VL m' as vs
 | [],[],_,_,hv=>by simpa only[VL]using hv
 |a::as,b::bs,vs,h,hv=>by
  simp only[DL.matchAVs,ACH]at h;simp only[VL]at hv⊢;obtain⟨v,us,e,h1,h2⟩:=hv;exact⟨v,us,e,GS hs hR a b v h.1 h1,HC hs hR as bs us h.2 h2⟩
 | [],_::_,_,h,_=>by simp[DL.matchAVs]at h
 |_::_,[],_,h,_=>by simp[DL.matchAVs]at h
theorem N6{nm:Nat→Bool}{ow:Nat→Option Nat}{τ:List SX}{m m':Env}(hs:m.sees nm ow m')(hR:m'.R=m.R.sub τ):∀(as bs:List AV) (b o:Nat),DL.matchAVs nm ow τ as bs=true→VC m b o bs→VC m' b o as
 | [],[],_,_,_,_=>by simp[VC]
 |x::as,y::bs,b,o,h,hv=>by
  simp only[DL.matchAVs,ACH]at h;simp only[VC]at hv⊢;obtain⟨⟨v,h1,h2⟩,h3⟩:=hv;exact⟨⟨v,hs.ecell h1,GS hs hR x y v h.1 h2⟩,N6 hs hR as bs b (o+1) h.2 h3⟩
 | [],_::_,_,_,h,_=>by simp[DL.matchAVs]at h
 |_::_,[],_,_,h,_=>by simp[DL.matchAVs]at h
end
def Bx(φ:Nat→Nat)(τ:List SX):AV→AV
 |.sy t e=>.sy t (subst τ e)
 |.agg cs=>.agg (substAVs cs)
 |.fp cs=>.fp (substAVs cs)
 |.own i ts e=>.own (φ i) ts (subst τ e)
 |.clo f as cs=>.clo f (substAVs as) (substAVs cs)
 |.hnd k i=>match Nat.beq k 2 with
  |true=>.hnd k (φ i)
  |false=>.hnd k i
 |a=>a
where
 substAVs:List AV→List AV
  | []=>[]
  |c::cs=>Bx φ τ c::substAVs cs
def GH(nm own:Nat→Bool):AV→Bool
 |.sc _=>true
 |.sy _ _=>true
 |.dead=>true
 |.emp _=>true
 |.ptr i _=>nm i
 |.sl i _ _ _=>nm i
 |.agg cs=>okAVs cs
 |.fp cs=>okAVs cs
 |.own i _ _=>own i
 |.clo _ as cs=>okAVs as&&okAVs cs
 |.hnd k i=>match Nat.beq k 2 with
  |true=>own i
  |false=>nm i
 |_=>false
where
 okAVs:List AV→Bool
  | []=>true
  |c::cs=>GH nm own c&&okAVs cs
structure Env.outs (nm own:Nat→Bool) (φ:Nat→Nat) (τ:List SX) (m m':Env):Prop where
 dom:∀id,nm id=true→m.dom id→m'.dom id∧m'.mu id=m.mu id
 own:∀i,own i=true→m.dom i→m'.dom (φ i)∧m'.mu (φ i)=m.mu i
 E:∀b o,m.E b=some o→m'.E b=some o
 R:m.R=m'.R.sub τ
theorem Env.outs.ecell{nm own:Nat→Bool}{φ:Nat→Nat}{τ:List SX}{m m':Env}(h:m.outs nm own φ τ m'){b o:Nat}{v:Value}(hv:m.ecell b o=some v):m'.ecell b o=some v:=by
 unfold Env.ecell at *;cases he:m.E b with
 |none=>simp[he]at hv
 |some x=>rw[h.E b x he];simpa[he]using hv
mutual
theorem IG{nm own:Nat→Bool}{φ:Nat→Nat}{τ:List SX}{m m':Env}(hs:m.outs nm own φ τ m'):∀(a:AV) (v:Value),GH nm own a=true→V m a v→V m' (Bx φ τ a) v:=by
 intro a v h hv;unfold GH at h;split at h<;>(try (cases h;done))
 ·simpa only[Bx,V]using hv
 ·simp only[Bx,V]at hv⊢;rw[Ah,←hs.R];exact hv.emono hs.E
 ·simp[Bx,V]
 ·simpa only[Bx,V]using hv
 ·simp only[Bx,V]at hv⊢;obtain⟨h4,h5⟩:=hs.dom _ h hv.1;rw[h5];exact⟨h4,hv.2⟩
 ·simp only[Bx,V]at hv⊢;obtain⟨h4,h5⟩:=hs.dom _ h hv.1;rw[h5];exact⟨h4,hv.2⟩
 ·simp only[Bx,V]at hv⊢;obtain⟨vs,e,hl⟩:=hv;exact⟨vs,e,HD hs _ _ h hl⟩
 ·simp only[Bx,V]at hv⊢;obtain⟨b,o,e,hc⟩:=hv;exact⟨b,o,e,N7 hs _ b o h hc⟩
 ·simp only[Bx,V]at hv⊢;obtain⟨h4,h5⟩:=hs.own _ h hv.1;rw[h5,Ah,←hs.R];exact⟨h4,hv.2⟩
 ·simp only[ACH]at h;simp only[Bx,V]at hv⊢;obtain⟨us,ws,e,k1,k2⟩:=hv;exact⟨us,ws,e,HD hs _ _ h.1 k1,HD hs _ _ h.2 k2⟩
 ·rename_i k i;simp only[V]at hv;simp only[Bx];split at h
  ·simp only[V];obtain⟨h4,h5⟩:=hs.own _ h hv.1.1;rw[h5];exact⟨⟨h4,hv.1.2⟩,hv.2⟩
  ·simp only[V];obtain⟨h4,h5⟩:=hs.dom _ h hv.1.1;rw[h5];exact⟨⟨h4,hv.1.2⟩,hv.2⟩
theorem HD{nm own:Nat→Bool}{φ:Nat→Nat}{τ:List SX}{m m':Env}(hs:m.outs nm own φ τ m'):∀(as:List AV) (vs:List Value),GH.okAVs nm own as=true→VL m as vs→VL m' (Bx.substAVs φ τ as) vs
 | [],_,_,hv=>by simpa only[Bx.substAVs,VL]using hv
 |a::as,vs,h,hv=>by
  simp only[GH.okAVs,ACH]at h;simp only[Bx.substAVs,VL]at hv⊢;obtain⟨v,us,e,h1,h2⟩:=hv;exact⟨v,us,e,IG hs a v h.1 h1,HD hs as us h.2 h2⟩
theorem N7{nm own:Nat→Bool}{φ:Nat→Nat}{τ:List SX}{m m':Env}(hs:m.outs nm own φ τ m'):∀(as:List AV) (b o:Nat),GH.okAVs nm own as=true→VC m b o as→VC m' b o (Bx.substAVs φ τ as)
 | [],_,_,_,_=>by simp[Bx.substAVs,VC]
 |a::as,b,o,h,hv=>by
  simp only[GH.okAVs,ACH]at h;simp only[Bx.substAVs,VC]at hv⊢;obtain⟨⟨v,h1,h2⟩,h3⟩:=hv;exact⟨⟨v,hs.ecell h1,IG hs a v h.1 h2⟩,N7 hs as b (o+1) h.2 h3⟩
end
def mV:Value→Value→Bool
 |.func (.func f) a b,.func (.func g) c d=>Nat.beq f g&&Nat.beq a.size 0&&Nat.beq b.size 0&&Nat.beq c.size 0&&Nat.beq d.size 0
 |u,v=>eqV u v
theorem rz{u v:Value}(h:mV u v=true):u=v:=by
 unfold mV at h;split at h
 ·rename_i f a b g c d;simp only[ACH,ACY]at h;obtain⟨⟨⟨⟨rfl,h1⟩,h2⟩,h3⟩,h4⟩:=h;rw[ADB h1,ADB h2,ADB h3,ADB h4]
 ·exact Nx (O:=⟨fun _=>none,fun _ _=>.bool false⟩) h
def CB:Operand→Operand→Bool
 |.tmp a,.tmp b=>Nat.beq a b
 |.const u,.const v=>mV u v
 |.global a,.global b=>Nat.beq a b
 |.func a,.func b=>Nat.beq a b
 |_,_=>false
theorem BG{a b:Operand}(h:CB a b=true):a=b:=by
 unfold CB at h;split at h<;>(try (cases h;done))<;>(try rw[ACY]at h)
 ·rw[h]
 ·rw[rz h]
 ·rw[h]
 ·rw[h]
def Lu{α:Type}(f:α→α→Bool):List α→List α→Bool
 | [],[]=>true
 |a::as,b::bs=>f a b&&Lu f as bs
 |_,_=>false
theorem Vy{α:Type}{f:α→α→Bool}(hf:∀a b,f a b=true→a=b):∀{as bs:List α},Lu f as bs=true→as=bs
 | [],[],_=>rfl
 |a::as,b::bs,h=>by
  simp only[Lu,ACH]at h;rw[hf a b h.1,Vy hf h.2]
 | [],_::_,h=>by simp[Lu]at h
 |_::_,[],h=>by simp[Lu]at h
def IC{α:Type}(f:α→α→Bool)(a b:Array α):Bool:=Lu f a.toList b.toList
theorem E6{α:Type}{f:α→α→Bool}(hf:∀a b,f a b=true→a=b){a b:Array α}(h:IC f a b=true):a=b:=ADX (Vy hf h)
def MX{α:Type}(f:α→α→Bool):Option α→Option α→Bool
 |none,none=>true
 |some a,some b=>f a b
 |_,_=>false
theorem Jy{α:Type}{f:α→α→Bool}(hf:∀a b,f a b=true→a=b){a b:Option α}(h:MX f a b=true):a=b:=by
 unfold MX at h;split at h
 ·rfl
 ·rw[hf _ _ h]
 ·cases h
theorem Ny(a b:Nat)(h:Nat.beq a b=true):a=b:=ADI h
def SA(a b:Nat×Operand):Bool:=Nat.beq a.1 b.1&&CB a.2 b.2
theorem Vz(a b:Nat×Operand)(h:SA a b=true):a=b:=by
 simp only[SA,ACH,ACY]at h;exact Prod.ext h.1 (BG h.2)
def Qv:Callee→Callee→Bool
 |.value a,.value b=>CB a b
 |.builtin a,.builtin b=>decide (a=b)
 |_,_=>false
theorem aK{a b:Callee}(h:Qv a b=true):a=b:=by
 unfold Qv at h;split at h
 ·rw[BG h]
 ·rw[of_decide_eq_true h]
 ·cases h
def AAQ(a b:UnOp):Bool:=decide (a=b)
def yR(a b:BinOp):Bool:=decide (a=b)
def uh:Fn→Fn→Bool
 |.func a,.func b=>Nat.beq a b
 |_,_=>false
def mW:Op→Op→Bool
 |.move a,.move b=>CB a b
 |.assign a,.assign b=>CB a b
 |.pick a b c,.pick d e f=>CB a d&&(CB b e&&CB c f)
 |.alloc t,.alloc u=>Nat.beq t u
 |.box t x,.box u y=>Nat.beq t u&&CB x y
 |.build t x,.build u y=>Nat.beq t u&&IC SA x y
 |.buildSlice t n x,.buildSlice u k y=>Nat.beq t u&&(Nat.beq n k&&IC SA x y)
 |.load t x,.load u y=>Nat.beq t u&&CB x y
 |.store t x v,.store u y z=>Nat.beq t u&&(CB x y&&CB v z)
 |.nilCheck x,.nilCheck y=>CB x y
 |.binOp o t x y s,.binOp p u z v r=>yR o p&&(Nat.beq t u&&(CB x z&&(CB y v&&Nat.beq s r)))
 |.unOp o t x,.unOp p u y=>AAQ o p&&(Nat.beq t u&&CB x y)
 |.convert s d x,.convert t e y=>Nat.beq s t&&(Nat.beq d e&&CB x y)
 |.makeInterface t x,.makeInterface u y=>Nat.beq t u&&CB x y
 |.makeFunc f a c,.makeFunc g b d=>uh f g&&(IC CB a b&&IC CB c d)
 |.slice t x l k m,.slice u y n o p=>Nat.beq t u&&(CB x y&&(MX CB l n&&(MX CB k o&&MX CB m p)))
 |.fieldAddr t x f,.fieldAddr u y g=>Nat.beq t u&&(CB x y&&Nat.beq f g)
 |.field t x f,.field u y g=>Nat.beq t u&&(CB x y&&Nat.beq f g)
 |.indexAddr t x i,.indexAddr u y j=>Nat.beq t u&&(CB x y&&CB i j)
 |.index t x i,.index u y j=>Nat.beq t u&&(CB x y&&CB i j)
 |.lookup t x i c,.lookup u y j d=>Nat.beq t u&&(CB x y&&(CB i j&&(c==d)))
 |.mapUpdate t x i v,.mapUpdate u y j z=>Nat.beq t u&&(CB x y&&(CB i j&&CB v z))
 |.extract x i,.extract y j=>CB x y&&Nat.beq i j
 |.call ⟨f,a,t⟩,.call ⟨g,b,u⟩=>Qv f g&&(IC CB a b&&IC Nat.beq t u)
 |_,_=>false
theorem sA{a b:Op}(h:mW a b=true):a=b:=by
 have hN:=fun a b=>Ny a b
 have hO:=fun a b=>@BG a b
 unfold mW at h;split at h<;>(try (cases h;done))<;>(try simp only[ACH,ACY]at h)
 ·rw[BG h]
 ·rw[BG h]
 ·rw[BG h.1,BG h.2.1,BG h.2.2]
 ·rw[h]
 ·rw[h.1,BG h.2]
 ·rw[h.1,E6 Vz h.2]
 ·rw[h.1,h.2.1,E6 Vz h.2.2]
 ·rw[h.1,BG h.2]
 ·rw[h.1,BG h.2.1,BG h.2.2]
 ·rw[BG h]
 ·rw[of_decide_eq_true h.1,h.2.1,BG h.2.2.1,BG h.2.2.2.1,h.2.2.2.2]
 ·rw[of_decide_eq_true h.1,h.2.1,BG h.2.2]
 ·rw[h.1,h.2.1,BG h.2.2]
 ·rw[h.1,BG h.2]
 ·rename_i f a c g b d;obtain⟨h1,h2,h3⟩:=h;rw[E6 hO h2,E6 hO h3];cases f<;>cases g<;>simp only[uh,AC3,ACY]at h1
  rw[h1]
 ·rw[h.1,BG h.2.1,Jy hO h.2.2.1,Jy hO h.2.2.2.1,Jy hO h.2.2.2.2]
 ·rw[h.1,BG h.2.1,h.2.2]
 ·rw[h.1,BG h.2.1,h.2.2]
 ·rw[h.1,BG h.2.1,BG h.2.2]
 ·rw[h.1,BG h.2.1,BG h.2.2]
 ·rw[h.1,BG h.2.1,BG h.2.2.1,eq_of_beq h.2.2.2]
 ·rw[h.1,BG h.2.1,BG h.2.2.1,BG h.2.2.2]
 ·rw[BG h.1,h.2]
 ·rw[aK h.1,E6 hO h.2.1,E6 hN h.2.2]
def X3:Ground→Ground→Bool
 |.data,.data=>true
 |.chain,.chain=>true
 |.guard,.guard=>true
 |.phase,.phase=>true
 |.textOnly a,.textOnly b=>decide (a=b)
 |.gcOnly a,.gcOnly b=>decide (a=b)
 |_,_=>false
def X4(a b:Edge):Bool:=Nat.beq a.on b.on&&X3 a.ground b.ground
theorem jS(a b:Edge)(h:X4 a b=true):a=b:=by
 obtain⟨i,g⟩:=a;obtain⟨j,k⟩:=b;simp only[X4,ACH,ACY]at h;obtain⟨rfl,h⟩:=h;congr 1
 cases g<;>cases k<;>simp_all[X3]
def eqGuard(a b:Nat×Bool):Bool:=Nat.beq a.1 b.1&&(a.2==b.2)
theorem eR(a b:Nat×Bool)(h:eqGuard a b=true):a=b:=by
 simp only[eqGuard,ACH,ACY]at h;exact Prod.ext h.1 (eq_of_beq h.2)
def eqStr(a b:String):Bool:=decide (a=b)
def X5(a b:Oper):Bool:=
 MX Nat.beq a.dst b.dst&&(mW a.op b.op&&(Nat.beq a.type b.type&&(eqStr a.pos b.pos&&(IC X4 a.after b.after&&MX eqGuard a.guard b.guard))))
theorem jT(a b:Oper)(h:X5 a b=true):a=b:=by
 obtain⟨a1,a2,a3,a4,a5,a6⟩:=a;obtain⟨b1,b2,b3,b4,b5,b6⟩:=b;simp only[X5,ACH,ACY]at h;obtain⟨h1,h2,h3,h4,h5,h6⟩:=h;rw[Jy Ny h1,sA h2,h3,of_decide_eq_true h4,E6 jS h5,Jy eR h6]
def CW:Code→Code→Bool
 |.skip,.skip=>true
 |.region i o d,.region j p e=>Nat.beq i j&&(IC X5 o p&&(d==e))
 |.seq a b,.seq c d=>CW a c&&CW b d
 |.cond x a b,.cond y c d=>CB x y&&(CW a c&&CW b d)
 |.block i a,.block j b=>Nat.beq i j&&CW a b
 |.loop a,.loop b=>CW a b
 |.exit i,.exit j=>Nat.beq i j
 |.scope a,.scope b=>CW a b
 |.label i,.label j=>Nat.beq i j
 |.goto i,.goto j=>Nat.beq i j
 |.ret,.ret=>true
 |_,_=>false
theorem V0:∀{a b:Code},CW a b=true→a=b:=by
 intro a
 induction a with
 |seq x y ihx ihy=>intro b h;cases b<;>simp only[CW,AC3,ACH]at h;rw[ihx h.1,ihy h.2]
 |cond c x y ihx ihy=>intro b h;cases b<;>simp only[CW,AC3,ACH]at h;rw[BG h.1,ihx h.2.1,ihy h.2.2]
 |block i x ih=>intro b h;cases b<;>simp only[CW,AC3,ACH,ACY]at h;rw[h.1,ih h.2]
 |loop x ih=>intro b h;cases b<;>simp only[CW,AC3]at h;rw[ih h]
 |scope x ih=>intro b h;cases b<;>simp only[CW,AC3]at h;rw[ih h]
 |region i o d=>intro b h;cases b<;>simp only[CW,AC3,ACH,ACY]at h;rw[h.1,E6 jT h.2.1,eq_of_beq h.2.2]
 |exit i=>intro b h;cases b<;>simp only[CW,AC3,ACY]at h;rw[h]
 |label i=>intro b h;cases b<;>simp only[CW,AC3,ACY]at h;rw[h]
 |goto i=>intro b h;cases b<;>simp only[CW,AC3,ACY]at h;rw[h]
 |skip=>intro b h;cases b<;>simp only[CW,AC3]at h;rfl
 |ret=>intro b h;cases b<;>simp only[CW,AC3]at h;rfl
 |_=>intro b h;cases b<;>simp[CW]at h
def eS:Ex→Ex→Bool
 |.normal,.normal=>true
 |.exit i,.exit j=>Nat.beq i j
 |.ret,.ret=>true
 |.goto i,.goto j=>Nat.beq i j
 |_,_=>false
theorem mY{a b:Ex}(h:eS a b=true):a=b:=by
 cases a<;>cases b<;>simp only[eS,AC3,ACY]at h<;>first|rfl|rw[h]
def Blk.tms(b:Blk):Tr AV:=Blk.putAll .nil 0 (b.cellsFrom 0 b.n)
def Blk.obj(b:Blk):AObj:=
 match b.lp with
 |none=>.blk b
 |some x=>.loop x.st x.pend b.tms b.n x.ps x.asg x.body
theorem Blk.live_obj(b:Blk)(p:Nat×Nat):live b.obj p:=by
 unfold Blk.obj;split<;>exact True.intro
theorem Blk.tms_get(b:Blk)(i:Nat):b.tms.get i=if i<b.n then some (b.cell i) else none:=by
 unfold Blk.tms;rw[CD]
 by_cases h:i<b.n
 ·rw[if_pos ⟨ADO _,by simp[Ao];exact h⟩,if_pos h]
  simp only[ADo];rw[BC b b.n 0 i h,ACk]
 ·rw[if_neg (by simp[Ao];omega),if_neg h]
  simp
theorem OR.obj_map{m m':Env}{p:Nat×Nat}{b c:Blk}{w:World}(h:OR m p b.obj w)(hl:c.lp=b.lp)(ht:c.t=b.t)(hn:c.n=b.n)(hrow:c.row=b.row)(hsz:c.sz=b.sz)
  (hf:∀i v,i<b.n→V m (b.cell i) v→V m' (c.cell i) v):OR m' p c.obj w:=by
 unfold Blk.obj at h⊢;rw[hl];cases hb:b.lp with
 |none=>
  simp only[hb]at h⊢;obtain⟨cs,g1,g2,g3,g4⟩:=(show BR m p b w from h);exact⟨cs,by rw[ht];exact g1,by rw[hn];exact g2,fun i hi=>let ⟨v,k1,k2⟩:=g3 i (by rw[←hn];exact hi);⟨v,k1,hf i v (by rw[←hn];exact hi) k2⟩,by rw[hrow,hsz,hn];exact g4⟩
 |some x=>
  simp only[hb]at h⊢;obtain⟨fn,d,tmps,k1,k2,k3⟩:=h;refine⟨fn,d,tmps,k1,by rw[hn];exact k2,fun t=>?_⟩
  have:=k3 t
  rw[Blk.tms_get]at this⊢;rw[hn]
  by_cases hi:t<b.n
  ·rw[if_pos hi]at this⊢;exact hf t _ hi this
  ·rw[if_neg hi]at this⊢;simpa only[AEA,V]using this
instance plainR:Rnd:=⟨none⟩
abbrev Bf(I:Nat→List DV→DV):Orc:=⟨fun _=>none,I⟩
theorem Dp(R:Rho):@FactsOK (Bf R.I) R:=⟨rfl,fun e b hb=>by cases hb⟩
section
variable {m:Env}{h:AHeap}{w:World}
theorem HR.rename2(hr:HR m h w){id k:Nat}{o o':AObj}(hid:h.t.get id=some o)(ho:OR (m.add h.next ((m.mu id).1,k)) ((m.mu id).1,k) o' w)(hlv:live o (m.mu id)):
  HR (m.add h.next ((m.mu id).1,k)) (AHeap.alloc {h with t:=h.t.cut id} o') w:=by
 obtain⟨g1,g2,g3⟩:=hr.obj id o hid hlv;have get:∀i x,(AHeap.alloc {h with t:=h.t.cut id} o').t.get i=some x→(i=h.next∧x=o')∨(i≠id∧i≠h.next∧h.t.get i=some x):=by
  intro i x hi;simp only[AHeap.alloc,Tr.get_put,Tr.get_cut]at hi
  by_cases e:h.next=i
  ·subst e;simp only[if_true,ACJ]at hi;exact .inl ⟨rfl,hi.symm⟩
  ·simp only[e,if_false]at hi;split at hi
   ·cases hi
   ·rename_i hne;exact .inr ⟨fun e2=>hne e2.symm,fun e2=>e e2.symm,hi⟩
 have hne:∀i x,h.t.get i=some x→live x (m.mu i)→i≠id→(m.mu i).1≠(m.mu id).1:=fun i x hi li hne e=>hne (hr.injL i id x o hi hid li hlv e)
 have hle:=hr.le_add ((m.mu id).1,k)
 have hlim:=hr.lim
 refine⟨fun i hd=>?_,by simp only[AHeap.alloc];omega,fun i hd=>?_,hr.EF,hr.E,hr.F,fun i y hy=>?_,fun i j a b ha hb li lj e=>?_,hr.io⟩
 ·simp only[AHeap.alloc];rcases hd with hd|rfl
  ·have:=hr.next i hd
   omega
  ·omega
 ·simp only[AHeap.alloc];obtain⟨h1,h2,h3⟩:=hr.res i hd;refine⟨?_,by omega,by omega⟩
  rintro (h4|h4)
  ·exact h1 h4
  ·exact h2 h4
 ·rcases get i y hy with ⟨rfl,rfl⟩|⟨h1,h2,h3⟩
  ·exact⟨by simp,fun _=>by simpa using g2,by simpa using ho⟩
  ·obtain⟨k1,k2,k3⟩:=hr.objL i y h3;rw[hle.mu i k1];exact⟨hle.dom i k1,by simpa using k2,k3.move hle fun _=>rfl⟩
 ·rcases get i a ha with ⟨rfl,rfl⟩|⟨h1,h2,h3⟩<;>rcases get j b hb with ⟨rfl,rfl⟩|⟨k1,k2,k3⟩
  ·rfl
  ·rw[hle.mu j (hr.objL j b k3).1]at e lj;rw[Env.add_mu]at e;exact absurd e.symm (hne j b k3 lj k1)
  ·rw[hle.mu i (hr.objL i a h3).1]at e li;rw[Env.add_mu]at e;exact absurd e (hne i a h3 li h1)
  ·rw[hle.mu i (hr.objL i a h3).1]at e li;rw[hle.mu j (hr.objL j b k3).1]at e lj;exact hr.injL i j a b h3 k3 li lj e
def Mj(el:TypeId)(ts:List Ty)(a:AV)(h:AHeap):Option (Nat×SX×AHeap):=
 match noRoom a with
 |true=>some (h.next,.emp,h.alloc (.grow el ts .emp))
 |false=>match a with
  |.own id us e=>match h.t.get id with
   |some (.grow t vs f)=>match Nat.beq t el&&CJ.eqTys us ts&&CJ.eqTys vs ts&&eqU e f with
    |true=>some (id,f,h)
    |false=>none
   |_=>none
  |.sl id 0 len none=>match h.blk? id with
   |some b=>match b.row&&Nat.beq b.sz ts.length&&Nat.beq b.t el&&Nat.beq b.n (len*ts.length)&&Nat.ble 1 ts.length with
    |true=>match Kb ts len (b.cellsFrom 0 (len*ts.length)) with
     |some E=>some (id,E,h.put id (.grow el ts E))
     |none=>none
    |false=>none
   |none=>none
  |.sl id 0 len (some c)=>match h.blk? id with
   |some b=>match Nat.beq b.t el&&Nat.ble (c*ts.length) b.n&&Nat.ble len c&&Nat.ble c 9223372036854775807&&Nat.ble 1 ts.length&&Nat.ble 1 c with
    |true=>match Kb ts len (b.cellsFrom 0 (len*ts.length)) with
     |some E=>some (h.next,E,AHeap.alloc {h with t:=h.t.cut id} (.grow el ts E))
     |none=>none
    |false=>none
   |none=>none
  |_=>none
theorem mj{m:Env}{p:Nat×Nat}{w:World}{t:TypeId}{ts:List Ty}{E:SX}{L:List (List DV)}{c:Array Value}{as:List AV}(hE:den m.R E=.list L)(hts:1≤ts.length)(hnm:Names m.R ts L as)
  (b1:w.heap[p.1]? =some (.cells c t (0,0))) (b2:L.length*ts.length≤c.size) (b3:∀k,k<L.length*ts.length→∃u,c[k]? =some u∧∃a,as[k]? =some a∧V m a u) (b5:p.2*ts.length≤c.size) (b6:p.2≤maxLen) (b7:L.length≤p.2):
  BR m p (BH t ts E L.length) w:=by
 refine⟨c,b1,b2,fun k hk=>?_,fun _=>⟨b5,b6,ACx _ b7⟩⟩
 have hk':k<L.length*ts.length:=hk
 obtain⟨u,u1,a,u3,u2⟩:=b3 k hk';refine⟨u,u1,?_⟩
 have hi:k / ts.length<L.length:=(AEL hts).2 hk'
 have hj:k%ts.length<ts.length:=AD4 _ hts
 have hkk:k / ts.length*ts.length+k%ts.length=k:=by rw[ADT];exact AEM k _
 have e1:L[k / ts.length]? =some L[k / ts.length]:=ACL hi
 have e2:ts[k%ts.length]? =some ts[k%ts.length]:=ACL hj
 have e3:L[k / ts.length][k%ts.length]? =some (L[k / ts.length][k%ts.length]'(by rw[hnm.2.1 _ (AC7 _)];exact hj)):=ACL _
 have hrep:=hnm.2.2 _ _ _ _ _ _ e1 e2 e3 (by rw[hkk];exact u3) m rfl u u2
 rw[CR hts hk'];simp only[V,den,hE,atD,ACZ,AC5,ACI,e1,ACo,e3,e2];exact hrep
theorem GU{el:TypeId}{ts:List Ty}{a:AV}{id:Nat}{E:SX}{h':AHeap}{v:Value}(hr:HR m h w)(hv:V m a v)(ho:Mj el ts a h=some (id,E,h')):
  ∃m',m.le m'∧V m' (.own id ts E) v∧HR m' h' w∧h'.t.get id=some (.grow el ts E)∧∀i b,h'.blk? i=some b→h.blk? i=some b:=by
 unfold Mj at ho;split at ho
 ·rename_i hn;cases ho;obtain⟨q1,q2⟩:=hr.phantom el ts .emp;refine⟨_,q1,?_,q2,by simp[AHeap.alloc,Tr.get_put],fun i b hb=>?_⟩
  ·have hv0:∃a,v=.slice a 0 0:=by
    unfold noRoom at hn;split at hn
    ·simp only[V]at hv;exact⟨_,hv⟩
    ·simp only[V]at hv;obtain⟨_,c,rfl,h2,h3,_⟩:=hv;have:=h3 0 rfl
     subst this;exact⟨_,rfl⟩
    ·simp only[V]at hv;obtain⟨a,c,rfl,h2,h3⟩:=hv;have:=h2 trivial
     subst this;exact⟨_,rfl⟩
    ·cases hn
   obtain⟨a,rfl⟩:=hv0;simp only[V,den];exact⟨by simp,[],a,rfl,by simp,by simp,by simp,by simp,by simp⟩
  ·unfold AHeap.blk? AHeap.alloc at *;simp only[Tr.get_put]at hb
   by_cases e:h.next=i
   ·simp[e]at hb
   ·simpa[e]using hb
 split at ho
 ·rename_i i us e;split at ho<;>(try (cases ho;done))
  rename_i t vs f hg;split at ho<;>(try (cases ho;done))
  rename_i hk;cases ho;simp only[ACH,ACY]at hk;obtain⟨⟨⟨rfl,h2⟩,h3⟩,h4⟩:=hk;obtain rfl:=BS h2;obtain rfl:=BS h3;exact⟨m,.refl m,JK h4 hv,hr,hg,fun _ _ h=>h⟩
 ·rename_i i len;split at ho<;>(try (cases ho;done))
  rename_i b hb;split at ho<;>(try (cases ho;done))
  rename_i hk;split at ho<;>(try (cases ho;done))
  rename_i E' hE;cases ho;simp only[ACH,ACY,ACn]at hk;obtain⟨⟨⟨⟨h1,h2⟩,h3⟩,h4⟩,h5⟩:=hk;obtain⟨l,e1,e2,e3,_⟩:=JL m.R hE (Ao _ _ _);obtain⟨q1,q2⟩:=Sw (H2:=h.put id (.grow el ts E)) hr (BQ hb) hv e1 e2 h5 e3 h1 h2 h3 h4 (fun k hk=>by rw[BC b _ 0 k hk,ACk];rfl) rfl rfl (fun i o ho=>by
   simp only[AHeap.put,Tr.get_put]at ho
   by_cases e:id=i
   ·subst e;simp only[if_true,ACJ]at ho;exact .inl ⟨rfl,ho.symm⟩
   ·simp only[e,if_false]at ho;exact .inr ⟨Ne.symm e,ho⟩)
  refine⟨m,.refl m,q1,q2,by simp[AHeap.put,Tr.get_put],fun i b hb=>?_⟩
  unfold AHeap.blk? AHeap.put at *;simp only[Tr.get_put]at hb
  by_cases e:id=i
  ·simp[e]at hb
  ·simpa[e]using hb
 ·rename_i i len c _;split at ho<;>(try (cases ho;done))
  rename_i b hb;split at ho<;>(try (cases ho;done))
  rename_i hk;split at ho<;>(try (cases ho;done))
  rename_i E' hE;cases ho;simp only[ACH,ACY,ACn]at hk;obtain⟨⟨⟨⟨⟨rfl,h2⟩,h3⟩,h4⟩,h5⟩,h6⟩:=hk;obtain⟨l,e1,e2,e3,_⟩:=JL m.R hE (Ao _ _ _);obtain⟨g1,g2,g3⟩:=hr.obj i _ (BQ hb);obtain⟨cs,b1,b2,b3,b4⟩:=(show BR m (m.mu i) b w from g3);have hle:=hr.le_add ((m.mu i).1,c)
  have hlc:len*ts.length≤c*ts.length:=ACx _ h3
  have hrn:=hr.rename2 (k:=c) (o':=.grow b.t ts E) (BQ hb) (.inr (.inl ⟨l,e1,e3.2.1,by rw[e2];exact h3,h5,mj (as:=b.cellsFrom 0 (len*ts.length)) (by exact e1) h5 e3 b1 (by rw[e2];omega) (fun k hk=>by
   rw[e2]at hk;obtain⟨u,u1,u2⟩:=b3 k (by omega)
   refine⟨u,u1,b.cell k,?_,V.mono hle _ _ u2⟩
   rw[BC b _ 0 k hk,ACk]) (by show c*ts.length≤cs.size;omega) (by show c≤maxLen;unfold maxLen;omega) (by show l.length≤c;rw[e2];exact h3)⟩)) trivial
  refine⟨_,hle,?_,hrn,by simp[AHeap.alloc,Tr.get_put],fun i' b' hb'=>?_⟩
  ·simp only[V]at hv⊢;obtain⟨hd,cap,rfl,c1,c2,_⟩:=hv;have hcap:=c2 c rfl
   subst hcap;refine⟨by simp,l,some ⟨(m.mu i).1,0,none⟩,e1,by rw[e2];simp,by rw[e2];simpa using h3,by simp;unfold maxLen;omega,(fun e=>by cases e),fun _=>by simp⟩
  ·unfold AHeap.blk? AHeap.alloc at *;simp only[Tr.get_put,Tr.get_cut]at hb'
   by_cases e:h.next=i'
   ·simp[e]at hb'
   ·rw[if_neg e]at hb'
    by_cases e2:i=i'
    ·simp[e2]at hb'
    ·simpa[e2]using hb'
 ·cases ho
end
end Go.AM
namespace Go.AM
open Go
inductive Src where
 |tm (t:Nat) (ty:Ty)
 |cell (id k:Nat) (ty:Ty)
 |row (id k:Nat) (ty:Ty)
 |own (k:Nat)
 |part (t k:Nat) (ty:Ty)
inductive OSrc where
 |tm (t:Nat) (el:TypeId) (ts:List Ty)
 |cell (id k:Nat) (el:TypeId) (ts:List Ty)
 |mp (t:Nat)
structure Own where
 id:Nat
 el:TypeId
 ts:List Ty
 e:SX
structure Tmpl where
 tm:List (Nat×AV)
 ob:List (Nat×Blk):=[]
 ow:List Own:=[]
 src:List Src:=[]
 osrc:List OSrc:=[]
 isrc:List OSrc:=[]
def N8:Nat→Tr AV
 |0=>.nil
 |n+1=>(N8 n).put n .dead
def D6(n:Nat):List (Nat×AV)→Tr AV
 | []=>N8 n
 |(t,a)::l=>(D6 n l).put t a
def DW(t:Tr AObj):List (Nat×Blk)→Tr AObj
 | []=>t
 |(i,b)::l=>(DW t l).put i b.obj
def Eg(t:Tr AObj):List Own→Tr AObj
 | []=>t
 |o::l=>(Eg t l).put o.id (.grow o.el o.ts o.e)
def ur:Nat:=1000000
def YG:List (Nat×Blk)→Nat
 | []=>ur
 |(i,_)::l=>Nat.add (Nat.succ i) (YG l)
def YH:List Own→Nat
 | []=>ur
 |o::l=>Nat.add (Nat.succ o.id) (YH l)
theorem bL:∀{l:List (Nat×Blk)} {i:Nat} {b:Blk},(i,b)∈l→i<YG l
 |(j,c)::l,i,b,h=>by
  simp only[ACU,ACP]at h;show i<Nat.succ j+YG l
  rcases h with ⟨rfl,rfl⟩|h
  ·omega
  ·have:=bL h
   omega
theorem bM:∀{l:List Own} {o:Own},o∈l→o.id<YH l
 |p::l,o,h=>by
  simp only[ACU]at h;show o.id<Nat.succ p.id+YH l
  rcases h with rfl|h
  ·omega
  ·have:=bM h
   omega
def Tmpl.top(T:Tmpl):Nat:=Nat.add (YG T.ob) (YH T.ow)
def Tmpl.st(T:Tmpl)(n:Nat):St:={tm:=D6 n T.tm,n,h:={next:=T.top,lim:=Nat.succ T.top,t:=Eg (DW .nil T.ob) T.ow}}
def namesB:List (Nat×Blk)→Nat→Bool
 | [],_=>false
 |(i,_)::l,id=>Nat.beq i id||namesB l id
def CX:List Own→Nat→Bool
 | [],_=>false
 |o::l,id=>Nat.beq o.id id||CX l id
theorem JC:∀(n t:Nat),(N8 n).get t=if t<n then some .dead else none
 |0,t=>by simp[N8]
 |n+1,t=>by
  rw[N8,Tr.get_put,JC n t]
  by_cases h:n=t
  ·subst h;simp
  ·rw[if_neg h]
   by_cases h2:t<n
   ·rw[if_pos h2,if_pos (by omega)]
   ·rw[if_neg h2,if_neg (by omega)]
theorem YI(n:Nat):∀(l:List (Nat×AV)) (t:Nat),(∃a,(t,a)∈l∧(D6 n l).get t=some a)∨((∀a,(t,a)∉l)∧(D6 n l).get t=if t<n then some .dead else none)
 | [],t=>.inr ⟨by simp,by rw[D6,JC]⟩
 |(u,a)::l,t=>by
  rw[D6,Tr.get_put]
  by_cases h:u=t
  ·subst h;exact .inl ⟨a,by simp,by simp⟩
  ·rw[if_neg h];rcases YI n l t with ⟨b,h1,h2⟩|⟨h1,h2⟩
   ·exact .inl ⟨b,by simp[h1],h2⟩
   ·refine .inr ⟨fun b hb=>?_,h2⟩
    simp only[ACU,ACP]at hb;rcases hb with ⟨e,_⟩|hb
    ·exact h e.symm
    ·exact h1 b hb
theorem V6(t:Tr AObj):∀(l:List (Nat×Blk)) (i:Nat),(∃b,(i,b)∈l∧(DW t l).get i=some b.obj)∨(namesB l i=false∧(DW t l).get i=t.get i)
 | [],i=>.inr ⟨rfl,rfl⟩
 |(j,b)::l,i=>by
  rw[DW,Tr.get_put]
  by_cases h:j=i
  ·subst h;exact .inl ⟨b,by simp,by simp⟩
  ·rw[if_neg h];rcases V6 t l i with ⟨c,h1,h2⟩|⟨h1,h2⟩
   ·exact .inl ⟨c,by simp[h1],h2⟩
   ·refine .inr ⟨?_,h2⟩
    rw[namesB,h1,HQ];simp[h]
theorem N9(t:Tr AObj):∀(l:List Own) (i:Nat),(∃o,o∈l∧o.id=i∧(Eg t l).get i=some (.grow o.el o.ts o.e))∨(CX l i=false∧(Eg t l).get i=t.get i)
 | [],i=>.inr ⟨rfl,rfl⟩
 |o::l,i=>by
  rw[Eg,Tr.get_put]
  by_cases h:o.id=i
  ·subst h;exact .inl ⟨o,by simp,rfl,by simp⟩
  ·rw[if_neg h];rcases N9 t l i with ⟨c,h1,h2,h3⟩|⟨h1,h2⟩
   ·exact .inl ⟨c,by simp[h1],h2,h3⟩
   ·refine .inr ⟨?_,h2⟩
    rw[CX,h1,HQ];simp[h]
theorem C4:∀{l:List (Nat×Blk)} {i:Nat},namesB l i=true↔∃b,(i,b)∈l
 | [],i=>by simp[namesB]
 |(j,b)::l,i=>by
  simp only[namesB,ADW,ACY,C4 (l:=l),ACU,ACP];constructor
  ·rintro (rfl|⟨c,hc⟩)
   ·exact⟨b,.inl ⟨rfl,rfl⟩⟩
   ·exact⟨c,.inr hc⟩
  ·rintro⟨c,⟨rfl,_⟩|hc⟩
   ·exact .inl rfl
   ·exact .inr ⟨c,hc⟩
theorem Dq:∀{l:List Own} {i:Nat},CX l i=true↔∃o∈l,o.id=i
 | [],i=>by simp[CX]
 |p::l,i=>by
  simp only[CX,ADW,ACY,Dq (l:=l),ACU];constructor
  ·rintro (h|⟨c,hc,h⟩)
   ·exact⟨p,.inl rfl,h⟩
   ·exact⟨c,.inr hc,h⟩
  ·rintro⟨c,rfl|hc,h⟩
   ·exact .inl h
   ·exact .inr ⟨c,hc,h⟩
theorem Qz(T:Tmpl)(i:Nat):(∃o,o∈T.ow∧o.id=i∧(Eg (DW .nil T.ob) T.ow).get i=some (.grow o.el o.ts o.e))∨
  (CX T.ow i=false∧∃b,(i,b)∈T.ob∧(Eg (DW .nil T.ob) T.ow).get i=some b.obj)∨(CX T.ow i=false∧namesB T.ob i=false∧(Eg (DW .nil T.ob) T.ow).get i=none):=by
 rcases N9 (DW .nil T.ob) T.ow i with h|⟨h1,h2⟩
 ·exact .inl h
 ·rcases V6 .nil T.ob i with ⟨b,h3,h4⟩|⟨h3,h4⟩
  ·exact .inr (.inl ⟨h1,b,h3,h2.trans h4⟩)
  ·exact .inr (.inr ⟨h1,h3,h2.trans (h4.trans (by simp))⟩)
def L0(f:Nat→Bool):Nat→Bool
 |0=>true
 |n+1=>f n&&L0 f n
theorem LB{f:Nat→Bool}:∀{n i:Nat},L0 f n=true→i<n→f i=true
 |n+1,i,h,hi=>by
  simp only[L0,ACH]at h;rcases Nat.lt_succ_iff_lt_or_eq.1 hi with h1|h1
  ·exact LB h.2 h1
  ·rw[h1];exact h.1
def Q0(nm:Nat→Bool)(ow:Nat→Option Nat)(τ:List SX)(a b:Blk):Bool:=
 Nat.beq a.t b.t&&Nat.ble a.n b.n&&(Bool.not a.row||(b.row&&Nat.beq a.sz b.sz))&&L0 (fun i=>DL nm ow τ (a.cell i) (b.cell i)) a.n
theorem UT{nm:Nat→Bool}{ow:Nat→Option Nat}{τ:List SX}{m m':Env}(hs:m.sees nm ow m')(hR:m'.R=m.R.sub τ){a b:Blk}(h:Q0 nm ow τ a b=true){p:Nat×Nat}{w:World}(hb:BR m p b w):BR m' p a w:=by
 simp only[Q0,ACH,ACY,ACn,ADW,ADc]at h;obtain⟨⟨⟨h1,h2⟩,h3⟩,h4⟩:=h;obtain⟨c,g1,g2,g3,g4⟩:=hb;refine⟨c,by rw[h1];exact g1,by omega,fun i hi=>?_,fun hr=>?_⟩
 ·obtain⟨v,k1,k2⟩:=g3 i (by omega)
  exact⟨v,k1,GS hs hR _ _ v (LB h4 hi) k2⟩
 ·rcases h3 with h3|h3
  ·rw[h3]at hr;cases hr
  ·rw[h3.2];have:=g4 h3.1
   exact⟨this.1,this.2.1,AEB h2 this.2.2⟩
def E7(nm:Nat→Bool)(ow:Nat→Option Nat)(τ:List SX)(a:Blk)(o:AObj):Bool:=
 match a.lp,o with
 |none,.blk b=>Q0 nm ow τ a b
 |some x,.loop st pend tm n ps asg body=>Nat.beq x.st st&&(eS x.pend pend&&(Nat.beq a.n n&&(IC Nat.beq x.ps ps&&(CW x.asg asg&&(CW x.body body&&L0 (fun i=>DL nm ow τ (a.cell i) (tmV tm i)) a.n)))))
 |_,_=>false
theorem EH{nm:Nat→Bool}{ow:Nat→Option Nat}{τ:List SX}{a:Blk}{o:AObj}(h:E7 nm ow τ a o=true)(p:Nat×Nat):live o p:=by
 unfold E7 at h;split at h
 ·exact True.intro
 ·exact True.intro
 ·cases h
theorem SL{nm:Nat→Bool}{ow:Nat→Option Nat}{τ:List SX}{a:Blk}{el:TypeId}{ts:List Ty}{e:SX}(h:E7 nm ow τ a (.grow el ts e)=true):False:=by
 unfold E7 at h;split at h
 ·rename_i hx;cases hx
 ·rename_i hx;cases hx
 ·cases h
theorem UU{nm:Nat→Bool}{ow:Nat→Option Nat}{τ:List SX}{m m':Env}(hs:m.sees nm ow m')(hR:m'.R=m.R.sub τ){a:Blk}{o:AObj}(h:E7 nm ow τ a o=true){p:Nat×Nat}{w:World}(hb:OR m p o w):OR m' p a.obj w:=by
 unfold E7 at h;unfold Blk.obj;split at h
 ·rename_i b hl;rw[hl];exact UT hs hR h hb
 ·rename_i x st pend tm n ps asg body hl;rw[hl];simp only[ACH,ACY]at h;obtain⟨rfl,h2,rfl,h4,h5,h6,h7⟩:=h;have e2:=mY h2
  have e4:=E6 Ny h4
  have e5:=V0 h5
  have e6:=V0 h6
  subst e2 e4 e5 e6;obtain⟨fn,d,tmps,k1,k2,k3⟩:=hb;refine⟨fn,d,tmps,k1,k2,fun t=>?_⟩
  rw[Blk.tms_get]
  by_cases ht:t<a.n
  ·rw[if_pos ht,ACo];exact GS hs hR _ _ _ (LB h7 ht) (k3 t)
  ·rw[if_neg ht];simp only[AEA,V];have:tmps.size≤t:=by omega
   simp[Array.getD,Nat.not_lt.2 this]
 ·cases h
def owF:List Own→List Nat→Nat→Option Nat
 |o::l,j::js,i=>match Nat.beq o.id i with
  |true=>some j
  |false=>owF l js i
 |_,_,_=>none
def matchTms(nm:Nat→Bool)(ow:Nat→Option Nat)(τ:List SX)(n:Nat)(tm:Tr AV):List (Nat×AV)→Bool
 | []=>true
 |(t,a)::l=>Nat.blt t n&&DL nm ow τ a (tmV tm t)&&matchTms nm ow τ n tm l
def matchObs(nm:Nat→Bool)(ow:Nat→Option Nat)(τ:List SX)(h:AHeap):List (Nat×Blk)→Bool
 | []=>true
 |(i,b)::l=>(match h.t.get i with
  |some c=>E7 nm ow τ b c
  |none=>false)&&matchObs nm ow τ h l
def YJ(j:Nat):List Nat→Bool
 | []=>false
 |k::ks=>Nat.beq k j||YJ j ks
def matchOws(ob:List (Nat×Blk))(τ:List SX)(h:AHeap):List Own→List Nat→Bool
 | [],[]=>true
 |o::l,j::js=>(match h.t.get j with
  |some (.grow t ts e)=>Nat.beq t o.el&&CJ.eqTys ts o.ts&&eqSX (subst τ o.e) e
  |_=>false)&&Bool.not (YJ j js)&&Bool.not (CX l o.id)&&Bool.not (namesB ob o.id)&&matchOws ob τ h l js
 |_,_=>false
def bareDf(s:St):Bool:=
 match s.df with
 |some []=>true
 |_=>false
theorem RS.plain[O:Orc]{m:Env}{G:Nat→Option (List AV)}{s:St}{a:Act}{w:World}(hr:RS m G s a w)(h:bareDf s=true):a.defers=[]:=by
 have hd:=hr.defers
 unfold bareDf at h;split at h
 ·rename_i e;rw[e]at hd;exact hd
 ·cases h
def Gu(T:Tmpl)(ω:List Nat)(τ:List SX)(s:St):Bool:=
 matchTms (namesB T.ob) (owF T.ow ω) τ s.n s.tm T.tm&&matchObs (namesB T.ob) (owF T.ow ω) τ s.h T.ob&&matchOws T.ob τ s.h T.ow ω&&bareDf s
theorem OA{nm:Nat→Bool}{ow:Nat→Option Nat}{τ:List SX}{n:Nat}{tm:Tr AV}:∀{l:List (Nat×AV)} {t:Nat} {a:AV},matchTms nm ow τ n tm l=true→(t,a)∈l→t<n∧DL nm ow τ a (tmV tm t)=true
 |(u,b)::l,t,a,h,hm=>by
  simp only[matchTms,ACH]at h;simp only[ACU,ACP]at hm;rcases hm with ⟨rfl,rfl⟩|hm
  ·exact⟨Ct h.1.1,h.1.2⟩
  ·exact OA h.2 hm
theorem HE{nm:Nat→Bool}{ow:Nat→Option Nat}{τ:List SX}{h:AHeap}:∀{l:List (Nat×Blk)} {i:Nat} {b:Blk},matchObs nm ow τ h l=true→(i,b)∈l→∃c,h.t.get i=some c∧E7 nm ow τ b c=true
 |(j,c)::l,i,b,hh,hm=>by
  simp only[matchObs,ACH]at hh;simp only[ACU,ACP]at hm;rcases hm with ⟨rfl,rfl⟩|hm
  ·have:=hh.1
   split at this
   ·rename_i c e;exact⟨c,e,this⟩
   ·cases this
  ·exact HE hh.2 hm
theorem YK{j:Nat}:∀{l:List Nat},YJ j l=true↔j∈l
 | []=>by simp[YJ]
 |k::ks=>by
  simp only[YJ,ADW,ACY,YK (l:=ks),ACU];constructor
  ·rintro (h|h)
   ·exact .inl h.symm
   ·exact .inr h
  ·rintro (h|h)
   ·exact .inl h.symm
   ·exact .inr h
theorem Ja:∀{l:List Own} {js:List Nat} {i j:Nat},owF l js i=some j→j∈js∧CX l i=true
 |o::l,k::js,i,j,h=>by
  simp only[owF]at h;split at h
  ·rename_i e;cases h;exact⟨by simp,by rw[CX,e];rfl⟩
  ·obtain⟨h1,h2⟩:=Ja h;exact⟨by simp[h1],by rw[CX,h2];simp⟩
 | [],_,_,_,h=>by simp[owF]at h
 |_::_,[],_,_,h=>by simp[owF]at h
theorem HF{ob:List (Nat×Blk)}{τ:List SX}{h:AHeap}:∀{l:List Own} {js:List Nat} {o:Own},matchOws ob τ h l js=true→o∈l→∃j e,owF l js o.id=some j∧h.t.get j=some (.grow o.el o.ts e)∧subst τ o.e=e∧namesB ob o.id=false
 |p::l,k::js,o,hh,hm=>by
  simp only[matchOws,ACH,ADc]at hh;obtain⟨⟨⟨⟨h1,h2⟩,h3⟩,h4⟩,h5⟩:=hh;rcases ACU.1 hm with rfl|hm
  ·split at h1
   ·rename_i t ts e hg;simp only[ACH,ACY]at h1;obtain⟨⟨rfl,g2⟩,g3⟩:=h1;obtain rfl:=BS g2;exact⟨k,e,by simp[owF],hg,Aw g3,h4⟩
   ·cases h1
  ·obtain⟨j,e,g1,g2,g3,g4⟩:=HF h5 hm;have hne:Nat.beq p.id o.id=false:=by
    rw[HQ,ACK];intro e;rw[e,Bool.eq_false_iff]at h3;exact h3 (Dq.2 ⟨o,hm,rfl⟩)
   exact⟨j,e,by rw[owF,hne];exact g1,g2,g3,g4⟩
 |_::_,[],_,hh,_=>by simp[matchOws]at hh
theorem OB{ob:List (Nat×Blk)}{τ:List SX}{h:AHeap}:∀{l:List Own} {js:List Nat} {i i' j:Nat},matchOws ob τ h l js=true→owF l js i=some j→owF l js i'=some j→i=i'
 |p::l,k::js,i,i',j,hh,h1,h2=>by
  simp only[matchOws,ACH,ADc]at hh;obtain⟨⟨⟨⟨_,g2⟩,g3⟩,g4⟩,g5⟩:=hh;simp only[owF]at h1 h2;have hk:k∉js:=by rw[←YK,g2];simp
  split at h1<;>split at h2
  ·rename_i _ e1 _ e2;rw[ACY]at e1 e2;rw[←e1,←e2]
  ·cases h1;exact absurd (Ja h2).1 hk
  ·cases h2;exact absurd (Ja h1).1 hk
  ·exact OB g5 h1 h2
 | [],_,_,_,_,_,h1,_=>by simp[owF]at h1
 |_::_,[],_,_,_,hh,_,_=>by simp[matchOws]at hh
theorem Hn{ob:List (Nat×Blk)}{τ:List SX}{h:AHeap}:∀{l:List Own} {js:List Nat} {i j:Nat},matchOws ob τ h l js=true→owF l js i=some j→∃o∈l,o.id=i∧∃e,h.t.get j=some (.grow o.el o.ts e)∧subst τ o.e=e∧namesB ob i=false:=by
 intro l js i j hh hj;obtain⟨o,ho,rfl⟩:=Dq.1 (Ja hj).2;obtain⟨j',e,g1,g2,g3,g4⟩:=HF hh ho;rw[hj]at g1;cases g1;exact⟨o,ho,rfl,e,g2,g3,g4⟩
open Classical in
def Env.inner(m:Env)(R:Rho)(T:Tmpl)(ω:List Nat)(w:World):Env:=
 {R,mu:=fun i=>match owF T.ow ω i with
   |some j=>m.mu j
   |none=>m.mu i
  dom:=fun id=>namesB T.ob id=true∨CX T.ow id=true,res:=fun _=>False,E:=m.E,
  F:=fun b=>if m.E b=none∧¬(∃id,namesB T.ob id=true∧(m.mu id).1=b)∧¬(∃i j,owF T.ow ω i=some j∧(m.mu j).2≠0∧(m.mu j).1=b) then w.heap[b]? else none,io:=m.io}
section
variable [O:Orc]{G:Nat→Option (List AV)}{m:Env}{s:St}{a:Act}{w:World}{T:Tmpl}{τ:List SX}{ω:List Nat}
structure Matched (T:Tmpl) (ω:List Nat) (τ:List SX) (s:St):Prop where
 tm:matchTms (namesB T.ob) (owF T.ow ω) τ s.n s.tm T.tm=true
 ob:matchObs (namesB T.ob) (owF T.ow ω) τ s.h T.ob=true
 ow:matchOws T.ob τ s.h T.ow ω=true
 df:bareDf s=true
theorem Dr(h:Gu T ω τ s=true):Matched T ω τ s:=by
 simp only[Gu,ACH]at h;exact⟨h.1.1.1,h.1.1.2,h.1.2,h.2⟩
theorem GV(hm:Matched T ω τ s){id:Nat}(hid:namesB T.ob id=true):∃b c,(id,b)∈T.ob∧s.h.t.get id=some c∧E7 (namesB T.ob) (owF T.ow ω) τ b c=true:=by
 obtain⟨b,hb⟩:=C4.1 hid;obtain⟨c,h2,h3⟩:=HE hm.ob hb;exact⟨b,c,hb,h2,h3⟩
theorem IT(hm:Matched T ω τ s){id:Nat}(hid:namesB T.ob id=true):owF T.ow ω id=none:=by
 cases h:owF T.ow ω id with
 |none=>rfl
 |some j=>
  obtain⟨o,_,rfl,e,_,_,h6⟩:=Hn hm.ow h;rw[hid]at h6;cases h6
theorem eZ(hr:HR m s.h w)(hm:Matched T ω τ s)(R:Rho):m.sees (namesB T.ob) (owF T.ow ω) (m.inner R T ω w):=
 ⟨fun id hid _=>⟨.inl hid,by simp only[Env.inner,IT hm hid]⟩,fun i j e _=>⟨.inr (Ja e).2,by simp only[Env.inner,e]⟩,fun _ _ e=>e⟩
theorem RS.into{l2:SX→Option Bool}{I2:Nat→List DV→DV}(hG:BO G)(hr:@RS O plainR m G s a w)(hm:Matched T ω τ s)(hF:@FactsOK (.mk l2 I2) (m.R.sub τ)):@RS (.mk l2 I2) plainR (m.inner (m.R.sub τ) T ω w) G (T.st s.n) a w:=by
 have hs:=eZ hr.h hm (m.R.sub τ)
 refine @RS.mk (.mk l2 I2) plainR _ _ _ _ _ hr.size (fun t=>?_) (hr.plain hm.df) (fun _=>rfl) ?_ (@GOK.mk (.mk l2 I2) _ _ ?_ hF)
 ·rcases YI s.n T.tm t with ⟨x,h1,h2⟩|⟨h1,h2⟩
  ·show V _ (((D6 s.n T.tm).get t).getD (.sc undef)) _
   rw[h2,ACo];exact GS hs rfl _ _ _ (OA hm.tm h1).2 (hr.tm t)
  ·show V _ (((D6 s.n T.tm).get t).getD (.sc undef)) _
   rw[h2]
   by_cases ht:t<s.n
   ·rw[if_pos ht];simp[V]
   ·rw[if_neg ht];simp only[AEA,V];have:a.tmps.size≤t:=by rw[hr.size];omega
    simp[Array.getD,Nat.not_lt.2 this]
 ·have growM:∀{i j:Nat},owF T.ow ω i=some j→∃o∈T.ow,o.id=i∧∃e,s.h.t.get j=some (.grow o.el o.ts e)∧subst τ o.e=e:=fun h=>by
   obtain⟨o,h1,h2,e,h3,h4,_⟩:=Hn hm.ow h;exact⟨o,h1,h2,e,h3,h4⟩
  refine⟨fun id hd=>?_,ADk _,fun _ hd=>hd.elim,fun b x hb=>?_,fun b o hb=>hr.h.E b o hb,fun b o hb=>?_,fun id o ho=>?_,fun i j x y hi hj li lj e=>?_,hr.h.io⟩
  ·show id≠T.top∧id<T.top+1
   have:id<T.top:=by
    show id<YG T.ob+YH T.ow
    rcases hd with hd|hd
    ·obtain⟨b,hb⟩:=C4.1 hd;have:=bL hb
     omega
    ·obtain⟨o,ho,rfl⟩:=Dq.1 hd;have:=bM ho
     omega
   omega
  ·simp only[Env.inner]at hb⊢;split at hb
   ·rename_i hc;exact hc.1
   ·cases hb
  ·simp only[Env.inner]at hb;split at hb
   ·exact hb
   ·cases hb
  ·have ho':(Eg (DW .nil T.ob) T.ow).get id=some o:=ho
   rcases Qz T id with ⟨p,h1,rfl,h3⟩|⟨h0,b,h1,h3⟩|⟨h0,h1,h3⟩
   ·rw[h3]at ho';cases ho';obtain⟨j,e,g1,g2,rfl,_⟩:=HF hm.ow h1;obtain⟨k1,k2,k3⟩:=hr.h.objL j _ g2;have hmu:(m.inner (m.R.sub τ) T ω w).mu p.id=m.mu j:=by simp only[Env.inner,g1]
    refine⟨.inr (Dq.2 ⟨p,h1,rfl⟩),fun hl=>?_,?_⟩
    ·rw[hmu]at hl⊢;obtain⟨k4,k5⟩:=k2 hl;refine⟨k4,?_⟩
     simp only[Env.inner];rw[if_neg];rintro⟨_,_,h6⟩;exact h6 ⟨p.id,j,g1,hl,rfl⟩
    ·rw[hmu];rcases k3 with k3|⟨l,e1,e2,e3,e4,c,b1,b2,b3,b4⟩|k3
     ·exact .inl k3
     ·refine .inr (.inl ⟨l,by show den (m.R.sub τ) p.e=_;rw[←Ah];exact e1,e2,e3,e4,c,b1,b2,fun k hk=>?_,b4⟩)
      obtain⟨u,u1,u2⟩:=b3 k hk;refine⟨u,u1,?_⟩
      rw[CR e4 (show k<l.length*p.ts.length from hk)]at u2⊢;simp only[V,den]at u2⊢;rw[e1]at u2;rw[show den (m.inner (m.R.sub τ) T ω w).R p.e=.list l by show den (m.R.sub τ) p.e=_;rw[←Ah];exact e1]
      exact Rep.emono (m:=m) (m':=m.inner (m.R.sub τ) T ω w) (fun _ _ h=>h) u2
     ·exact .inr (.inr (k3.move (by show den (m.R.sub τ) p.e=_;rw[←Ah]) rfl))
   ·rw[h3]at ho';cases ho';have hid:namesB T.ob id=true:=C4.2 ⟨b,h1⟩
    have hmu:(m.inner (m.R.sub τ) T ω w).mu id=m.mu id:=by simp only[Env.inner,IT hm hid]
    obtain⟨c,h4,h5⟩:=HE hm.ob h1;obtain⟨k1,k2,k3⟩:=hr.h.obj id _ h4 (EH h5 _);refine⟨.inl hid,fun _=>⟨by rw[hmu];exact k2.1,?_⟩,by rw[hmu];exact UU hs rfl h5 k3⟩
    rw[hmu];simp only[Env.inner];rw[if_neg];rintro⟨_,h6,_⟩;exact h6 ⟨id,hid,rfl⟩
   ·rw[h3]at ho';cases ho'
  ·have out:∀i x,(Eg (DW .nil T.ob) T.ow).get i=some x→live x ((m.inner (m.R.sub τ) T ω w).mu i)→∃k y,s.h.t.get k=some y∧live y (m.mu k)∧(m.inner (m.R.sub τ) T ω w).mu i=m.mu k∧((owF T.ow ω i=some k)∨(k=i∧namesB T.ob i=true∧∀el ts e,y≠.grow el ts e)):=by
    intro i x hx lx;rcases Qz T i with ⟨p,h1,rfl,h3⟩|⟨h0,b,h1,h3⟩|⟨h0,h1,h3⟩
    ·rw[h3]at hx;cases hx;obtain⟨j,e,g1,g2,_,_⟩:=HF hm.ow h1;have hmu:(m.inner (m.R.sub τ) T ω w).mu p.id=m.mu j:=by simp only[Env.inner,g1]
     rw[hmu]at lx;exact⟨j,_,g2,lx,hmu,.inl g1⟩
    ·have hid:namesB T.ob i=true:=C4.2 ⟨b,h1⟩
     obtain⟨c,h4,h5⟩:=HE hm.ob h1;exact⟨i,_,h4,EH h5 _,by simp only[Env.inner,IT hm hid],.inr ⟨rfl,hid,fun el ts e hy=>by subst hy;exact SL h5⟩⟩
    ·rw[h3]at hx;cases hx
   obtain⟨k1,y1,a1,a2,a3,a4⟩:=out i x hi li;obtain⟨k2,y2,b1,b2,b3,b4⟩:=out j y hj lj;rw[a3,b3]at e;have hk:=hr.h.injL k1 k2 y1 y2 a1 b1 a2 b2 e
   subst hk;rw[a1]at b1;cases b1;rcases a4 with a4|⟨rfl,_,hc⟩<;>rcases b4 with b4|⟨rfl,_,hc'⟩
   ·exact OB hm.ow a4 b4
   ·obtain⟨o,_,_,e',h6,_⟩:=growM a4;rw[a1]at h6;exact absurd (ADn h6) (hc' _ _ _)
   ·obtain⟨o,_,_,e',h6,_⟩:=growM b4;rw[a1]at h6;exact absurd (ADn h6) (hc _ _ _)
   ·rfl
 ·intro g cs e;have:=hr.g.g g cs e
  have hp:=hG g cs e
  have key:∀(cs:List AV) (o:Nat),(∀c∈cs,∃u,c=AV.sc u)→VC m g o cs→VC (m.inner (m.R.sub τ) T ω w) g o cs:=by
   intro cs
   induction cs with
   |nil=>intro o _ _;simp[VC]
   |cons c cs ih=>
    intro o hp hv;simp only[VC]at hv⊢;obtain⟨⟨v,h1,h2⟩,h3⟩:=hv;obtain⟨u,rfl⟩:=hp c (by simp)
    exact⟨⟨v,h1,by simpa[V]using h2⟩,ih _ (fun c hc=>hp c (ACu _ hc)) h3⟩
  exact key cs 0 hp this
end
end Go.AM
namespace Go.AM
open Go
def frF:List Own→Nat→Nat→Nat
 |o::l,b,i=>match Nat.beq o.id i with
  |true=>b
  |false=>frF l (Nat.succ b) i
 | [],_,i=>i
def J1(t:Tr AObj):List Nat→Tr AObj
 | []=>t
 |j::js=>(J1 t js).cut j
def Ho(φ:Nat→Nat)(τ:List SX):List (Nat×AV)→List (Nat×AV)
 | []=>[]
 |(t,a)::l=>(t,Bx φ τ a)::Ho φ τ l
def Blk.all(b:Blk)(f:AV→AV):Blk:={b with z:=[],c:=Blk.putAll .nil 0 ((b.cellsFrom 0 b.n).map f)}
def Hp(φ:Nat→Nat)(τ:List SX):List (Nat×Blk)→List (Nat×Blk)
 | []=>[]
 |(i,b)::l=>(i,b.all (Bx φ τ))::Hp φ τ l
def Jb(τ:List SX):List Own→Nat→List Own
 | [],_=>[]
 |o::l,b=>{o with id:=b,e:=subst τ o.e}::Jb τ l (Nat.succ b)
def ed(nm own:Nat→Bool)(n:Nat):List (Nat×AV)→Bool
 | []=>true
 |(t,a)::l=>Nat.blt t n&&GH nm own a&&ed nm own n l
def ee(nm own:Nat→Bool):List (Nat×Blk)→Bool
 | []=>true
 |(i,b)::l=>nm i&&GH.okAVs nm own (b.cellsFrom 0 b.n)&&ee nm own l
def OC(ob:List (Nat×Blk)):List (Nat×Blk)→Bool
 | []=>true
 |(i,_)::l=>namesB ob i&&OC ob l
def Q1(nm:Nat→Bool):List Own→Bool
 | []=>true
 |o::l=>Bool.not (CX l o.id)&&Bool.not (nm o.id)&&Q1 nm l
def Tmpl.ok(Y T:Tmpl)(n:Nat):Bool:=ed (namesB T.ob) (CX Y.ow) n Y.tm&&ee (namesB T.ob) (CX Y.ow) Y.ob&&OC Y.ob T.ob&&Q1 (namesB T.ob) Y.ow
def Tmpl.outer(Y:Tmpl)(ω:List Nat)(σ:List SX)(s:St):St:=
 {tm:=D6 s.n (Ho (frF Y.ow s.h.lim) σ Y.tm),n:=s.n,
  h:={next:=Nat.add s.h.lim Y.ow.length,lim:=Nat.succ (Nat.add s.h.lim Y.ow.length),t:=Eg (DW (J1 s.h.t ω) (Hp (frF Y.ow s.h.lim) σ Y.ob)) (Jb σ Y.ow s.h.lim)}}
theorem ml(b:Blk)(f:AV→AV){i:Nat}(hi:i<b.n):(b.all f).cell i=f (b.cell i):=by
 unfold Blk.all;have:=Eb {b with z:=[],c:=.nil} ((b.cellsFrom 0 b.n).map f) 0 i
 simp only at this;show ({b with z:=[],c:=Blk.putAll .nil 0 ((b.cellsFrom 0 b.n).map f)}:Blk).cell i=_
 rw[this,if_pos ⟨ADO _,by simp[Ao];exact hi⟩]
 simp only[ADo,ACw,BC b b.n 0 i hi,ACk,ADF,ACo]
theorem V7{nm own:Nat→Bool}:∀{as:List AV} {i:Nat} {a:AV},GH.okAVs nm own as=true→as[i]? =some a→GH nm own a=true
 |x::xs,0,a,h,hi=>by
  simp only[GH.okAVs,ACH]at h;simp only[ACl,ACJ]at hi;rw[←hi];exact h.1
 |x::xs,i+1,a,h,hi=>by
  simp only[GH.okAVs,ACH]at h;exact V7 h.2 (by simpa using hi)
theorem YL{nm own:Nat→Bool}{n:Nat}:∀{l:List (Nat×AV)} {t:Nat} {a:AV},ed nm own n l=true→(t,a)∈l→t<n∧GH nm own a=true
 |(u,b)::l,t,a,h,hm=>by
  simp only[ed,ACH]at h;simp only[ACU,ACP]at hm;rcases hm with ⟨rfl,rfl⟩|hm
  ·exact⟨Ct h.1.1,h.1.2⟩
  ·exact YL h.2 hm
theorem YM{nm own:Nat→Bool}:∀{l:List (Nat×Blk)} {i:Nat} {b:Blk},ee nm own l=true→(i,b)∈l→nm i=true∧GH.okAVs nm own (b.cellsFrom 0 b.n)=true
 |(j,c)::l,i,b,h,hm=>by
  simp only[ee,ACH]at h;simp only[ACU,ACP]at hm;rcases hm with ⟨rfl,rfl⟩|hm
  ·exact h.1
  ·exact YM h.2 hm
theorem E8{ob:List (Nat×Blk)}:∀{l:List (Nat×Blk)} {i:Nat} {b:Blk},OC ob l=true→(i,b)∈l→namesB ob i=true
 |(j,c)::l,i,b,h,hm=>by
  simp only[OC,ACH]at h;simp only[ACU,ACP]at hm;rcases hm with ⟨rfl,rfl⟩|hm
  ·exact h.1
  ·exact E8 h.2 hm
theorem Mk{nm:Nat→Bool}:∀{l:List Own} {o:Own},Q1 nm l=true→o∈l→nm o.id=false
 |p::l,o,h,hm=>by
  simp only[Q1,ACH,ADc]at h;rcases ACU.1 hm with rfl|hm
  ·exact h.1.2
  ·exact Mk h.2 hm
theorem PM{nm:Nat→Bool}:∀{l:List Own} {b k:Nat} {o:Own},Q1 nm l=true→l[k]? =some o→frF l b o.id=b+k
 |p::l,b,0,o,h,hk=>by
  simp only[ACl,ACJ]at hk;subst hk;simp[frF]
 |p::l,b,k+1,o,h,hk=>by
  simp only[Q1,ACH,ADc]at h;have hk':l[k]? =some o:=by simpa using hk
  have hne:Nat.beq p.id o.id=false:=by
   rw[HQ,ACK];intro e;have:=h.1.1
   rw[e,Bool.eq_false_iff]at this;exact this (Dq.2 ⟨o,ACf.2 ⟨k,hk'⟩,rfl⟩)
  rw[frF,hne];rw[PM (b:=Nat.succ b) h.2 hk'];show b+1+k=_
  omega
theorem YN{nm:Nat→Bool}:∀{l:List Own} {k k':Nat} {o o':Own},Q1 nm l=true→l[k]? =some o→l[k']? =some o'→o.id=o'.id→k=k':=by
 intro l k k' o o' h h1 h2 e;have e1:=PM (b:=0) h h1
 have e2:=PM (b:=0) h h2
 rw[e,e2]at e1;omega
theorem QH{φ:Nat→Nat}{τ:List SX}{n:Nat}:∀(l:List (Nat×AV)) (t:Nat),(∃a,(t,a)∈l∧(D6 n l).get t=some a∧(D6 n (Ho φ τ l)).get t=some (Bx φ τ a))∨
  ((∀a,(t,a)∉l)∧(D6 n l).get t=(if t<n then some .dead else none)∧(D6 n (Ho φ τ l)).get t=if t<n then some .dead else none)
 | [],t=>.inr ⟨by simp,by rw[D6,JC],by rw[Ho,D6,JC]⟩
 |(u,a)::l,t=>by
  rw[D6,Ho,D6,Tr.get_put,Tr.get_put]
  by_cases h:u=t
  ·subst h;exact .inl ⟨a,by simp,by simp,by simp⟩
  ·rw[if_neg h,if_neg h];rcases QH (φ:=φ) (τ:=τ) (n:=n) l t with ⟨b,h1,h2,h3⟩|⟨h1,h2,h3⟩
   ·exact .inl ⟨b,by simp[h1],h2,h3⟩
   ·refine .inr ⟨fun b hb=>?_,h2,h3⟩
    simp only[ACU,ACP]at hb;rcases hb with ⟨e,_⟩|hb
    ·exact h e.symm
    ·exact h1 b hb
theorem QI{φ:Nat→Nat}{τ:List SX}(t:Tr AObj):∀(l:List (Nat×Blk)) (i:Nat),(∃b,(i,b)∈l∧(DW .nil l).get i=some b.obj∧(DW t (Hp φ τ l)).get i=some (b.all (Bx φ τ)).obj)∨(namesB l i=false∧(DW t (Hp φ τ l)).get i=t.get i)
 | [],i=>.inr ⟨rfl,rfl⟩
 |(j,b)::l,i=>by
  rw[DW,Hp,DW,Tr.get_put,Tr.get_put]
  by_cases h:j=i
  ·subst h;exact .inl ⟨b,by simp,by simp,by simp⟩
  ·rw[if_neg h,if_neg h];rcases QI (φ:=φ) (τ:=τ) t l i with ⟨c,h1,h2,h3⟩|⟨h1,h2⟩
   ·exact .inl ⟨c,by simp[h1],h2,h3⟩
   ·refine .inr ⟨?_,h2⟩
    rw[namesB,h1,HQ];simp[h]
theorem QJ{τ:List SX}(t:Tr AObj):∀(l:List Own) (b i:Nat),(∃k o,l[k]? =some o∧i=b+k∧(Eg t (Jb τ l b)).get i=some (.grow o.el o.ts (subst τ o.e)))∨((i<b∨b+l.length≤i)∧(Eg t (Jb τ l b)).get i=t.get i)
 | [],b,i=>.inr ⟨by simp;omega,rfl⟩
 |o::l,b,i=>by
  rw[Jb,Eg,Tr.get_put]
  by_cases h:b=i
  ·subst h;exact .inl ⟨0,o,rfl,rfl,by simp⟩
  ·rw[if_neg h];rcases QJ (τ:=τ) t l (Nat.succ b) i with ⟨k,p,h1,h2,h3⟩|⟨h1,h2⟩
   ·exact .inl ⟨k+1,p,by simpa using h1,by rw[h2];show b+1+k=_;omega,h3⟩
   ·refine .inr ⟨?_,h2⟩
    simp only[ACe];have:Nat.succ b=b+1:=rfl
    omega
theorem SM(t:Tr AObj):∀(l:List Nat) (i:Nat) (o:AObj),(J1 t l).get i=some o→i∉l∧t.get i=some o
 | [],i,o,h=>⟨by simp,h⟩
 |j::js,i,o,h=>by
  rw[J1,Tr.get_cut]at h
  by_cases e:j=i
  ·simp[e]at h
  ·rw[if_neg e]at h;obtain⟨h1,h2⟩:=SM t js i o h;exact⟨by simp[Ne.symm e,h1],h2⟩
structure Env.lle (nm:Nat→Bool) (m m':Env):Prop where
 dom:∀id,nm id=true→m.dom id→m'.dom id∧m'.mu id=m.mu id
 E:∀b o,m.E b=some o→m'.E b=some o
 F:∀b o,m.F b=some o→m'.F b=some o
 io:m'.io=m.io
theorem Env.lle.trans{nm:Nat→Bool}{a b c:Env}(h:a.lle nm b)(k:b.lle nm c):a.lle nm c:=
 ⟨fun id hn hd=>let ⟨x,y⟩:=h.dom id hn hd;let ⟨z,u⟩:=k.dom id hn x;⟨z,u.trans y⟩,fun x o hx=>k.E x o (h.E x o hx),fun x o hx=>k.F x o (h.F x o hx),k.io.trans h.io⟩
section
variable [O:Orc]{G:Nat→Option (List AV)}{m:Env}{s:St}{a:Act}{w:World}{T Y:Tmpl}{τ σ:List SX}{ω:List Nat}
def Env.outerE(m m':Env)(Y:Tmpl)(lim:Nat):Env:=
 {m with
  E:=m'.E
  mu:=fun i=>(match (if lim≤i then Y.ow[i-lim]? else none) with
   |some o=>m'.mu o.id
   |none=>m.mu i)
  dom:=fun i=>m.dom i∨(lim≤i∧i<lim+Y.ow.length)}
theorem HH{m m':Env}{lim i:Nat}(h:i<lim):(m.outerE m' Y lim).mu i=m.mu i:=by
 simp only[Env.outerE];rw[if_neg (by omega)]
theorem HI{m m':Env}{lim k:Nat}{o:Own}(h:Y.ow[k]? =some o):(m.outerE m' Y lim).mu (lim+k)=m'.mu o.id:=by
 simp only[Env.outerE];rw[if_pos (by omega),AD2,h]
theorem RS.outof{l2:SX→Option Bool}{I2:Nat→List DV→DV}{m':Env}{a':Act}{w':World}(hr:@RS O plainR m G s a w)(hm:Matched T ω τ s)(hok:Y.ok T s.n=true)
  (hle:(m.inner (m.R.sub τ) T ω w).lle (namesB T.ob) m') (hr':@RS (.mk l2 I2) plainR m' G (Y.st s.n) a' w') (hR:m'.R=m.R.sub σ):
  m.le (m.outerE m' Y s.h.lim)∧@RS O plainR (m.outerE m' Y s.h.lim) G (Y.outer ω σ s) a' w':=by
 simp only[Tmpl.ok,ACH]at hok;obtain⟨⟨⟨ok1,ok2⟩,ok3⟩,ok4⟩:=hok;obtain⟨z1,z2,z3,_,z4,_⟩:=hr';have hdlt:∀i,m.dom i→i<s.h.lim:=fun i hd=>(hr.h.next i hd).2
 have hml:m.le (m.outerE m' Y s.h.lim):=⟨⟨fun _ h=>.inl h,fun i hd=>HH (hdlt i hd),fun b o e=>hle.E b o e,rfl,rfl⟩,fun _ _ h=>h,fun _ h=>h⟩
 refine⟨hml,?_⟩
 have nameT:∀id,namesB T.ob id=true→m.dom id∧m'.dom id∧m'.mu id=m.mu id∧(m.outerE m' Y s.h.lim).mu id=m.mu id:=by
  intro id hid;obtain⟨_,c,_,k1,_⟩:=GV hm hid;have hd:=(hr.h.objL id _ k1).1
  obtain⟨h1,h2⟩:=hle.dom id hid (.inl hid);refine⟨hd,h1,?_,HH (hdlt id hd)⟩
  rw[h2];simp only[Env.inner,IT hm hid]
 have hout:m'.outs (namesB T.ob) (CX Y.ow) (frF Y.ow s.h.lim) σ (m.outerE m' Y s.h.lim):=by
  refine⟨fun id hid _=>?_,fun i hi hd=>?_,fun _ _ h=>h,hR⟩
  ·obtain⟨h1,_,h3,h4⟩:=nameT id hid;exact⟨.inl h1,h4.trans h3.symm⟩
  ·obtain⟨o,ho,rfl⟩:=Dq.1 hi;obtain⟨k,hk⟩:=ACf.1 ho;rw[PM ok4 hk];have:=(ACW.1 hk).1
   exact⟨.inr ⟨by omega,by omega⟩,HI hk⟩
 have hF:∀b x,m.F b=some x→m'.F b=some x:=by
  intro b x hb;refine hle.F b x ?_
  simp only[Env.inner];rw[if_pos,hr.h.F b x hb];refine⟨hr.h.EF b x hb,?_,?_⟩
  ·rintro⟨id,hid,rfl⟩;obtain⟨_,c,_,k1,hmo⟩:=GV hm hid;have:=(hr.h.obj id _ k1 (EH hmo _)).2.1.2
   rw[this]at hb;cases hb
  ·rintro⟨i,j,hj,hc,rfl⟩;obtain⟨o,_,_,e,h3,_⟩:=Hn hm.ow hj;have:=((hr.h.objL j _ h3).2.1 hc).2
   rw[this]at hb;cases hb
 have other:∀id o,s.h.t.get id=some o→namesB T.ob id=false→id∉ω→live o (m.mu id)→∃x,m'.F (m.mu id).1=some x∧w.heap[(m.mu id).1]? =some x:=by
  intro id o ho h1 h2 hl;obtain⟨g1,g2,g3⟩:=hr.h.objL id o ho;have hlt:=g3.lt hl
  refine⟨w.heap[(m.mu id).1],hle.F _ _ ?_,by simp[hlt]⟩
  simp only[Env.inner];rw[if_pos]
  ·simp[hlt]
  refine⟨(g2 hl).1,?_,?_⟩
  ·rintro⟨i,hi,e⟩;obtain⟨_,c,_,k1,hmo⟩:=GV hm hi;have:=hr.h.injL i id _ _ k1 ho (EH hmo _) hl e
   subst this;rw[hi]at h1;cases h1
  ·rintro⟨i,j,hj,hc,e⟩;obtain⟨p,_,_,e',h3,_⟩:=Hn hm.ow hj;have:=hr.h.injL j id _ _ h3 ho hc hl e
   subst this;exact h2 (Ja hj).1
 have cases3:∀id o,(Y.outer ω σ s).h.t.get id=some o→
   (∃k p,Y.ow[k]? =some p∧id=s.h.lim+k∧o=.grow p.el p.ts (subst σ p.e)∧(Y.st s.n).h.t.get p.id=some (.grow p.el p.ts p.e))∨
   (∃b:Blk,namesB T.ob id=true∧o=(b.all (Bx (frF Y.ow s.h.lim) σ)).obj∧(Y.st s.n).h.t.get id=some b.obj∧GH.okAVs (namesB T.ob) (CX Y.ow) (b.cellsFrom 0 b.n)=true)∨
   (s.h.t.get id=some o∧namesB T.ob id=false∧id∉ω):=by
  intro id o ho;have ho':(Eg (DW (J1 s.h.t ω) (Hp (frF Y.ow s.h.lim) σ Y.ob)) (Jb σ Y.ow s.h.lim)).get id=some o:=ho
  rcases QJ (τ:=σ) (DW (J1 s.h.t ω) (Hp (frF Y.ow s.h.lim) σ Y.ob)) Y.ow s.h.lim id with ⟨k,p,h1,h2,h3⟩|⟨h1,h2⟩
  ·rw[h3]at ho';cases ho';refine .inl ⟨k,p,h1,h2,rfl,?_⟩
   have hp:p∈Y.ow:=ACf.2 ⟨k,h1⟩
   rcases Qz Y p.id with ⟨q,q1,q2,q3⟩|⟨q0,_⟩|⟨q0,_⟩
   ·obtain⟨k',hk'⟩:=ACf.1 q1;have:=YN ok4 hk' h1 q2
    subst this;rw[h1]at hk';cases hk';exact q3
   ·rw[Dq.2 ⟨p,hp,rfl⟩]at q0;cases q0
   ·rw[Dq.2 ⟨p,hp,rfl⟩]at q0;cases q0
  ·rw[h2]at ho';rcases QI (φ:=frF Y.ow s.h.lim) (τ:=σ) (J1 s.h.t ω) Y.ob id with ⟨b,h3,h4,h5⟩|⟨h3,h4⟩
   ·rw[h5]at ho';cases ho';obtain⟨k1,k2⟩:=YM ok2 h3;refine .inr (.inl ⟨b,k1,rfl,?_,k2⟩)
    show (Eg (DW .nil Y.ob) Y.ow).get id=_
    rcases N9 (DW .nil Y.ob) Y.ow id with ⟨p,q1,q2,_⟩|⟨_,q2⟩
    ·have:=Mk ok4 q1
     rw[q2,k1]at this;cases this
    ·rw[q2,h4]
   ·rw[h4]at ho';obtain⟨k1,k2⟩:=SM _ _ _ _ ho';refine .inr (.inr ⟨k2,?_,k1⟩)
    cases hn:namesB T.ob id with
    |false=>rfl
    |true=>
     obtain⟨b,hb⟩:=C4.1 hn;rw[E8 ok3 hb]at h3;cases h3
 have oldlt:∀id o,s.h.t.get id=some o→id<s.h.lim:=fun id o ho=>hdlt id (hr.h.objL id o ho).1
 have nodomF:∀b x,m.F b=some x→m'.F b≠none:=fun b x hb e=>by rw[hF b x hb]at e;cases e
 refine⟨z1,fun t=>?_,z3,fun _=>rfl,?_,hr.g.mono hml⟩
 ·have:=z2 t
  show V _ (((D6 s.n (Ho (frF Y.ow s.h.lim) σ Y.tm)).get t).getD (.sc undef)) _
  have h0:V m' (((D6 s.n Y.tm).get t).getD (.sc undef)) (a'.tmps.getD t undef):=this
  rcases QH (φ:=frF Y.ow s.h.lim) (τ:=σ) (n:=s.n) Y.tm t with ⟨x,h1,h2,h3⟩|⟨_,h2,h3⟩
  ·rw[h2,ACo]at h0;rw[h3,ACo];exact IG hout x _ (YL ok1 h1).2 h0
  ·rw[h2]at h0;rw[h3];split
   ·simp[V]
   ·rename_i hlt;rw[if_neg hlt]at h0;simpa[V]using h0
 ·have hlim:=hr.h.lim
  refine⟨fun id hd=>?_,ADk _,fun id hd=>?_,fun b x hb=>z4.EF b x (hF b x hb),fun b o hb=>z4.E b o hb,fun b o hb=>z4.F b o (hF b o hb),fun id o ho=>?_,fun i j x y hi hj li lj e=>?_,z4.io.trans hle.io⟩
  ·show id≠s.h.lim+Y.ow.length∧id<s.h.lim+Y.ow.length+1
   rcases hd with hd|⟨h1,h2⟩
   ·have:=hdlt id hd
    omega
   ·omega
  ·obtain⟨h1,h2,h3⟩:=hr.h.res id hd;refine⟨?_,?_⟩
   ·rintro (h4|⟨h4,h5⟩)
    ·exact h1 h4
    ·omega
   ·show id≠s.h.lim+Y.ow.length∧id<s.h.lim+Y.ow.length+1
    omega
  ·rcases cases3 id o ho with ⟨k,p,h1,rfl,rfl,h4⟩|⟨b,h1,rfl,h3,h4⟩|⟨h1,h2,h3⟩
   ·obtain⟨g3,g4,g5⟩:=z4.objL p.id _ h4;have hlt:=(ACW.1 h1).1
    rw[HI h1];refine⟨.inr ⟨by omega,by omega⟩,fun hl=>⟨(g4 hl).1,?_⟩,?_⟩
    ·cases hx:m.F (m'.mu p.id).1 with
     |none=>exact hx
     |some x=>exact absurd (g4 hl).2 (nodomF _ _ hx)
    ·rcases g5 with g5|⟨l,e1,e2,e3,e4,c,b1,b2,b3,b4⟩|g5
     ·exact .inl g5
     ·have hden:den m.R (subst σ p.e)=.list l:=by rw[Ah,←hR];exact e1
      refine .inr (.inl ⟨l,hden,e2,e3,e4,c,b1,b2,fun k' hk=>?_,b4⟩)
      obtain⟨u,u1,u2⟩:=b3 k' hk;refine⟨u,u1,?_⟩
      rw[CR e4 (show k'<l.length*p.ts.length from hk)]at u2⊢;simp only[V,den]at u2⊢;rw[e1]at u2;rw[show den (m.outerE m' Y s.h.lim).R (subst σ p.e)=.list l from hden];exact Rep.emono (m:=m') (m':=m.outerE m' Y s.h.lim) (fun _ _ h=>h) u2
     ·exact .inr (.inr (g5.move (by show den m.R (subst σ p.e)=_;rw[Ah,←hR]) rfl))
   ·obtain⟨n1,n2,n3,n4⟩:=nameT id h1;obtain⟨g3,g4,g5⟩:=z4.obj id _ h3 (b.live_obj _);rw[n3]at g4 g5;rw[n4];refine⟨.inl n1,fun _=>⟨g4.1,?_⟩,OR.obj_map g5 rfl rfl rfl rfl rfl fun i v hi hv=>?_⟩
    ·cases hx:m.F (m.mu id).1 with
     |none=>exact hx
     |some x=>exact absurd g4.2 (nodomF _ _ hx)
    ·have hget:(b.cellsFrom 0 b.n)[i]? =some (b.cell i):=by rw[BC b b.n 0 i hi,ACk]
     rw[ml b _ hi];exact IG hout _ v (V7 h4 hget) hv
   ·obtain⟨g1,g2,g3⟩:=hr.h.objL id o h1;rw[HH (oldlt id o h1)];refine⟨.inl g1,fun hl=>?_,g3.wmove hml.towle fun hl=>?_⟩
    ·obtain⟨x,e1,e2⟩:=other id o h1 h2 h3 hl;exact⟨z4.EF _ _ e1,(g2 hl).2⟩
    ·obtain⟨x,e1,e2⟩:=other id o h1 h2 h3 hl;rw[z4.F _ _ e1,e2]
  ·
   have cls:∀i x,(Y.outer ω σ s).h.t.get i=some x→live x ((m.outerE m' Y s.h.lim).mu i)→
     (∃i' x',(Y.st s.n).h.t.get i'=some x'∧live x' (m'.mu i')∧(m.outerE m' Y s.h.lim).mu i=m'.mu i'∧((∃k p,Y.ow[k]? =some p∧i=s.h.lim+k∧i'=p.id)∨(i=i'∧namesB T.ob i=true)))∨
     (s.h.t.get i=some x∧live x (m.mu i)∧(m.outerE m' Y s.h.lim).mu i=m.mu i∧∃y,m'.F (m.mu i).1=some y):=by
    intro i x hx lx;rcases cases3 i x hx with ⟨k,p,h1,rfl,rfl,h4⟩|⟨b,h1,rfl,h3,h4⟩|⟨h1,h2,h3⟩
    ·rw[HI h1]at lx;exact .inl ⟨p.id,_,h4,lx,HI h1,.inl ⟨k,p,h1,rfl,rfl⟩⟩
    ·obtain⟨n1,n2,n3,n4⟩:=nameT i h1;exact .inl ⟨i,_,h3,b.live_obj _,n4.trans n3.symm,.inr ⟨rfl,h1⟩⟩
    ·have hmu:=HH (Y:=Y) (m:=m) (m':=m') (oldlt i x h1)
     rw[hmu]at lx;obtain⟨y,e1,_⟩:=other i x h1 h2 h3 lx;exact .inr ⟨h1,lx,hmu,y,e1⟩
   rcases cls i x hi li with ⟨i',x',a1,a2,a3,a4⟩|⟨a1,a2,a3,y1,a4⟩<;>rcases cls j y hj lj with ⟨j',y',b1,b2,b3,b4⟩|⟨b1,b2,b3,y2,b4⟩
   ·rw[a3,b3]at e;have hij:=z4.injL i' j' x' y' a1 b1 a2 b2 e
    rcases a4 with ⟨k,p,h1,rfl,rfl⟩|⟨rfl,h1⟩<;>rcases b4 with ⟨k',p',h2,rfl,rfl⟩|⟨rfl,h2⟩
    ·have:=YN ok4 h1 h2 hij
     rw[this]
    ·have:=Mk ok4 (ACf.2 ⟨k,h1⟩)
     rw[hij,h2]at this;cases this
    ·have:=Mk ok4 (ACf.2 ⟨k',h2⟩)
     rw[←hij,h1]at this;cases this
    ·exact hij
   ·rw[a3,b3]at e;have:=((z4.objL i' x' a1).2.1 a2).2
    rw[e,b4]at this;cases this
   ·rw[a3,b3]at e;have:=((z4.objL j' y' b1).2.1 b2).2
    rw[←e,a4]at this;cases this
   ·rw[a3,b3]at e;exact hr.h.injL i j x y a1 b1 a2 b2 e
end
def W8(s:St):OSrc→Option (Nat×SX×St)
 |.tm t el ts=>match Mj el ts (tmV s.tm t) s.h with
  |some (j,E,h)=>some (j,E,{s with tm:=s.tm.put t (.own j ts E),h})
  |none=>none
 |.cell id k el ts=>match s.h.blk? id with
  |some b=>match Nat.blt k b.n with
   |true=>match Mj el ts (b.cell k) s.h with
    |some (j,E,h)=>match h.blk? id with
     |some c=>some (j,E,{s with h:=h.put id (.blk {c with c:=c.c.put k (.own j ts E)})})
     |none=>none
    |none=>none
   |false=>none
  |none=>match s.h.t.get id with
   |some (.loop _ _ tm _ _ _ _)=>match tmV tm k with
    |.own j us e=>match s.h.t.get j with
     |some (.grow t vs f)=>match Nat.beq t el&&CJ.eqTys us ts&&CJ.eqTys vs ts&&eqSX e f with
      |true=>some (j,f,s)
      |false=>none
     |_=>none
    |_=>none
   |_=>none
 |.mp t=>match tmV s.tm t with
  |.hnd 2 j=>match s.h.t.get j with
   |some (.grow _ _ E)=>some (j,E,s)
   |_=>none
  |_=>none
def OD(s:St):List OSrc→Option (List Nat×List SX×St)
 | []=>some ([],[],s)
 |o::l=>match W8 s o with
  |some (j,E,s1)=>match OD s1 l with
   |some (js,Es,s2)=>some (j::js,E::Es,s2)
   |none=>none
  |none=>none
def Ml(Es:List SX)(s:St):List Src→Option (List SX)
 | []=>some []
 |.tm t ty::l=>match Fb ty (tmV s.tm t),Ml Es s l with
  |some e,some es=>some (e::es)
  |_,_=>none
 |.cell id k ty::l=>match s.h.t.get id with
  |some (.blk b)=>match Fb ty (b.cell k),Ml Es s l with
   |some e,some es=>some (e::es)
   |_,_=>none
  |some (.loop _ _ tm _ _ _ _)=>match Fb ty (tmV tm k),Ml Es s l with
   |some e,some es=>some (e::es)
   |_,_=>none
  |_=>none
 |.row id k ty::l=>match s.h.blk? id with
  |some b=>match Fb ty (b.cell k),Ml Es s l with
   |some (.at e _ _),some es=>some (e::es)
   |_,_=>none
  |none=>none
 |.own k::l=>match Es[k]?,Ml Es s l with
  |some e,some es=>some (e::es)
  |_,_=>none
 |.part t k ty::l=>match G1 (tmV s.tm t) with
  |some cs=>match cs[k]? with
   |some a=>match Fb ty a,Ml Es s l with
    |some e,some es=>some (e::es)
    |_,_=>none
   |none=>none
  |none=>none
def ep(s:St)(o:OSrc):Option St:=
 match W8 s o with
 |none=>some s
 |some (_,_,s1)=>match o with
  |.tm t _ _=>match UN s1.h (tmV s1.tm t) with
   |some (x,h)=>some {s1 with tm:=s1.tm.put t x,h}
   |none=>none
  |.cell id k _ _=>match eO s1.h id k with
   |some h=>some {s1 with h}
   |none=>none
  |.mp _=>some s1
def SN(s:St):List OSrc→Option St
 | []=>some s
 |o::l=>match ep s o with
  |some s1=>SN s1 l
  |none=>none
def HJ(T:Tmpl)(s:St):Option (List Nat×List SX×St):=
 match SN s T.isrc with
 |some s0=>match OD s0 T.osrc with
  |some (ω,Es,s1)=>match Ml Es s1 T.src with
   |some τ=>some (ω,τ,s1)
   |none=>none
  |none=>none
 |none=>none
structure LoopSp where
 n:Nat
 T:Tmpl
 pre:List (SX×Bool):=[]
 cnd:SX:=.kb true
 yes:Ex×Tmpl×List SX
 no:Ex×Tmpl×List SX:=yes
def LoopSp.pick(L:LoopSp):Bool→Ex×Tmpl×List SX
 |true=>L.yes
 |false=>L.no
def allKnown[O:Orc](τ:List SX):List (SX×Bool)→Bool
 | []=>true
 |(e,b)::l=>(match look (subst τ e) with
  |some c=>b==c
  |none=>false)&&allKnown τ l
def Jc[O:Orc](L:LoopSp)(s:St):Run:=
 match HJ L.T s with
 |none=>none
 |some (ω,τ,s1)=>match Nat.beq s1.n L.n&&Gu L.T ω τ s1&&allKnown τ L.pre with
  |false=>none
  |true=>match look (subst τ L.cnd) with
   |none=>none
   |some b=>match Tmpl.ok (L.pick b).2.1 L.T s1.n with
    |false=>none
    |true=>some ((L.pick b).1,(L.pick b).2.1.outer ω ((L.pick b).2.2.map (subst τ)) s1)
def BJ(P:Program)(G:Nat→Option (List AV))(I:Nat→List DV→DV)(body:Code)(L:LoopSp):Prop:=
 ∀(m:Env) (a:Act) (w:World) (Q:Exit→Act→World→Prop),(∀id,m.dom id→namesB L.T.ob id=true∨CX L.T.ow id=true)→(∀id,¬m.res id)→@RS (Bf I) plainR m G (L.T.st L.n) a w→
  (∀p∈L.pre,den m.R p.1=.bool p.2)→∀b,den m.R L.cnd=.bool b→
  (∀m' a' w',m.lle (namesB L.T.ob) m'→m'.R=m.R.sub (L.pick b).2.2→@RS (Bf I) plainR m' G ((L.pick b).2.1.st L.n) a' w'→Q (C6 (L.pick b).1) a' w')→(Code.loop body).wp P Q a w
theorem sub_sub(R:Rho)(τ l:List SX):(R.sub τ).sub l=R.sub (l.map (subst τ)):=by
 unfold Rho.sub;rw[ADQ];congr 1
 refine ADN fun e _=>?_
 exact (Ah R τ e).symm
theorem Cs[O:Orc]{R:Rho}(hF:FactsOK R){τ:List SX}:∀{l:List (SX×Bool)},allKnown τ l=true→∀p∈l,den (R.sub τ) p.1=.bool p.2
 |(e,b)::l,h,p,hp=>by
  simp only[allKnown,ACH]at h;simp only[ACU]at hp;rcases hp with rfl|hp
  ·have h1:=h.1
   split at h1
   ·rename_i c hc;rw[←Ah,Bv hF hc];rw[eq_of_beq h1]
   ·cases h1
  ·exact Cs hF h.2 p hp
 | [],_,p,hp=>by simp at hp
section
variable [O:Orc]{G:Nat→Option (List AV)}
theorem mn(b:Blk)(k:Nat)(v:AV)(i:Nat):({b with c:=b.c.put k v}:Blk).cell i=if k=i then v else b.cell i:=by
 unfold Blk.cell;simp only[Tr.get_put]
 by_cases h:k=i
 ·simp[h]
 ·simp[h]
theorem QK{m:Env}{s s':St}{a:Act}{w:World}{o:OSrc}{j:Nat}{E:SX}(hr:@RS O plainR m G s a w)(h:W8 s o=some (j,E,s')):
  ∃m',m.le m'∧@RS O plainR m' G s' a w:=by
 unfold W8 at h;split at h
 ·rename_i t el ts;split at h<;>(try (cases h;done))
  rename_i j' E' h' ho;cases h;obtain⟨m',h1,h2,h3,_,_⟩:=GU hr.h (hr.tm t) ho;refine⟨m',h1,@RS.mk O plainR _ _ _ _ _ hr.size (fun u=>?_) (DRo.wmono h1.towle _ _ hr.defers) hr.rnd h3 (hr.g.mono h1)⟩
  show V m' (((s.tm.put t (.own j ts E)).get u).getD (.sc undef)) _
  rw[Tr.get_put]
  by_cases e:t=u
  ·subst e;rw[if_pos rfl];exact h2
  ·rw[if_neg e];exact V.mono h1 _ _ (hr.tm u)
 ·rename_i id k el ts;split at h
  rotate_left
  ·split at h<;>(try (cases h;done))
   split at h<;>(try (cases h;done))
   split at h<;>(try (cases h;done))
   split at h<;>(try (cases h;done))
   cases h;exact⟨m,.refl m,hr⟩
  rename_i b hb;split at h<;>(try (cases h;done))
  rename_i hk;split at h<;>(try (cases h;done))
  rename_i j' E' h' ho;split at h<;>(try (cases h;done))
  rename_i c hc;cases h;have hk:=Ct hk
  obtain⟨_,_,g3⟩:=hr.h.obj id _ (BQ hb);obtain⟨cs0,c1,c2,c3,c4⟩:=(show BR m (m.mu id) b w from g3);obtain⟨v,v1,v2⟩:=c3 k hk;obtain⟨m',h1,h2,h3,_,h5⟩:=GU hr.h v2 ho;have:=h5 id c hc
  rw[hb]at this;cases this;obtain⟨g1,g2,g4⟩:=h3.obj id _ (BQ hc);obtain⟨cs,b1,b2,b3,b4⟩:=(show BR m' (m'.mu id) b w from g4);have hmu:m'.mu id=m.mu id:=h1.mu id (hr.h.objL id _ (BQ hb)).1
  have hcs:cs=cs0:=by
   rw[hmu]at b1;rw[b1]at c1;simpa using c1
  subst hcs;refine⟨m',h1,@RS.mk O plainR _ _ _ _ _ hr.size (fun u=>V.mono h1 _ _ (hr.tm u)) (DRo.wmono h1.towle _ _ hr.defers) hr.rnd ?_ (hr.g.mono h1)⟩
  refine h3.put (BQ hc) (o':=.blk {b with c:=b.c.put k (.own j ts E)}) ⟨cs,b1,b2,fun i hi=>?_,b4⟩ (fun _ _=>rfl)
  rw[mn]
  by_cases e:k=i
  ·subst e;exact⟨v,v1,by rw[if_pos rfl];exact h2⟩
  ·rw[if_neg e];exact b3 i hi
 ·split at h<;>(try (cases h;done))
  split at h<;>(try (cases h;done))
  cases h;exact⟨m,.refl m,hr⟩
theorem OE{a:Act}{w:World}:∀{l:List OSrc} {m:Env} {s s':St} {ω:List Nat} {Es:List SX},@RS O plainR m G s a w→OD s l=some (ω,Es,s')→∃m',m.le m'∧@RS O plainR m' G s' a w
 | [],m,s,s',ω,Es,hr,h=>by
  simp only[OD,ACJ,ACP]at h;obtain⟨_,_,rfl⟩:=h;exact⟨m,.refl m,hr⟩
 |o::l,m,s,s',ω,Es,hr,h=>by
  simp only[OD]at h;split at h<;>(try (cases h;done))
  rename_i j E s1 h1;split at h<;>(try (cases h;done))
  rename_i js Es' s2 h2;cases h;obtain⟨m1,l1,r1⟩:=QK hr h1;obtain⟨m2,l2,r2⟩:=OE r1 h2;exact⟨m2,l1.trans l2,r2⟩
theorem aM{m:Env}{s s':St}{a:Act}{w:World}{o:OSrc}(hr:@RS O plainR m G s a w)(h:ep s o=some s'):∃m',m.le m'∧@RS O plainR m' G s' a w:=by
 unfold ep at h;split at h
 ·cases h;exact⟨m,.refl m,hr⟩
 ·rename_i j E s1 ho;obtain⟨m1,l1,r1⟩:=QK hr ho;split at h
  ·rename_i t el ts;split at h<;>(try (cases h;done))
   rename_i x h2 hx;cases h;obtain⟨m2,l2,v2,r2⟩:=JM r1.h (r1.tm t) hx;refine⟨m2,l1.trans l2,@RS.mk O plainR _ _ _ _ _ r1.size (fun u=>?_) (DRo.wmono l2.towle _ _ r1.defers) r1.rnd r2 (r1.g.mono l2)⟩
   show V m2 (((s1.tm.put t x).get u).getD (.sc undef)) _
   rw[Tr.get_put]
   by_cases e:t=u
   ·subst e;rw[if_pos rfl];exact v2
   ·rw[if_neg e];exact V.mono l2 _ _ (r1.tm u)
  ·rename_i id k el ts;split at h<;>(try (cases h;done))
   rename_i h2 hx;cases h;obtain⟨m2,l2,r2⟩:=Sx r1.h hx;exact⟨m2,l1.trans l2,@RS.mk O plainR _ _ _ _ _ r1.size (fun u=>V.mono l2 _ _ (r1.tm u)) (DRo.wmono l2.towle _ _ r1.defers) r1.rnd r2 (r1.g.mono l2)⟩
  ·cases h;exact⟨m1,l1,r1⟩
theorem OF{a:Act}{w:World}:∀{l:List OSrc} {m:Env} {s s':St},@RS O plainR m G s a w→SN s l=some s'→∃m',m.le m'∧@RS O plainR m' G s' a w
 | [],m,s,s',hr,h=>by
  cases h;exact⟨m,.refl m,hr⟩
 |o::l,m,s,s',hr,h=>by
  simp only[SN]at h;split at h<;>(try (cases h;done))
  rename_i s1 h1;obtain⟨m1,l1,r1⟩:=aM hr h1;obtain⟨m2,l2,r2⟩:=OF r1 h;exact⟨m2,l1.trans l2,r2⟩
theorem C5{m:Env}{a:Act}{w:World}{T:Tmpl}{s s':St}{ω:List Nat}{τ:List SX}(hr:@RS O plainR m G s a w)(h:HJ T s=some (ω,τ,s')):∃m',m.le m'∧@RS O plainR m' G s' a w:=by
 unfold HJ at h;split at h<;>(try (cases h;done))
 rename_i s0 h0;split at h<;>(try (cases h;done))
 rename_i ω' Es s1 h1;split at h<;>(try (cases h;done))
 cases h;obtain⟨m1,l1,r1⟩:=OF hr h0;obtain⟨m2,l2,r2⟩:=OE r1 h1;exact⟨m2,l1.trans l2,r2⟩
theorem Im{P:Program}{body:Code}{L:LoopSp}(hG:BO G)(hL:BJ P G O.I body L){m:Env}{s s':St}{e:Ex}{a:Act}{w:World}{Q:Exit→Act→World→Prop}
  (hr:@RS O plainR m G s a w) (h:Jc L s=some (e,s')) (hQ:∀m' a' w',m.le m'→@RS O plainR m' G s' a' w'→Q (C6 e) a' w'):(Code.loop body).wp P Q a w:=by
 unfold Jc at h;split at h<;>(try (cases h;done))
 rename_i ω τ s1 hh;split at h<;>(try (cases h;done))
 rename_i hm;simp only[ACH,ACY]at hm;obtain⟨⟨hn,hm1⟩,hm2⟩:=hm;split at h<;>(try (cases h;done))
 rename_i b hb;split at h<;>(try (cases h;done))
 rename_i hok;simp only[ACJ,ACP]at h;obtain⟨rfl,rfl⟩:=h;obtain⟨m1,hle1,hr1⟩:=C5 hr hh;have hmt:=Dr hm1
 have hin:=RS.into (O:=O) (l2:=fun _=>none) (I2:=O.I) hG hr1 hmt (by rw[←hr1.g.f.1];exact Dp (m1.R.sub τ))
 rw[hn]at hin;refine hL (m1.inner (m1.R.sub τ) L.T ω w) a w Q (fun _ h=>h) (fun _ h=>h) hin (Cs hr1.g.f hm2) b ?_ ?_
 ·show den (m1.R.sub τ) L.cnd=_
  rw[←Ah];exact Bv hr1.g.f hb
 ·intro m' a' w' hle hR hr';have hR':m'.R=m1.R.sub ((L.pick b).2.2.map (subst τ)):=by rw[hR,←sub_sub];rfl
  obtain⟨g1,g2⟩:=RS.outof (O:=O) (l2:=fun _=>none) (I2:=O.I) hr1 hmt hok hle (by rw[hn];exact hr') hR'
  exact hQ _ a' w' (hle1.trans g1) g2
end
end Go.AM
namespace Go.AM
open Go
variable [O:Orc]
def A9:Code→List Code
 |.seq a b=>A9 a++A9 b
 |.cond _ a b=>A9 a++A9 b
 |.block _ a=>A9 a
 |.scope a=>A9 a
 |.loop a=>[a]
 |_=>[]
def key:Code→Nat
 |.region id _ _=>Nat.succ id
 |.seq a b=>match key a with
  |0=>key b
  |k=>k
 |.cond _ a b=>match key a with
  |0=>key b
  |k=>k
 |.block _ a=>key a
 |.scope a=>key a
 |.loop a=>key a
 |_=>0
section
variable {P:Program}{G:Nat→Option (List AV)}{call:Bi}
def jZ(P:Program)(G:Nat→Option (List AV))(iter:Code→St→Run)(body:Code):Prop:=
 ∀(m:Env) (s s':St) (e:Ex) (a:Act) (w:World) (Q:Exit→Act→World→Prop),RS m G s a w→iter body s=some (e,s')→(∀m' a' w',m.le m'→RS m' G s' a' w'→Q (C6 e) a' w')→(Code.loop body).wp P Q a w
theorem LC(hc:CallRK P G call)(hreg:Jm P G call){iter jump:Code→St→Run}(hj:∀(c:Code) (m:Env) (s s':St) (e:Ex) (a:Act) (w:World) (Q:Exit→Act→World→Prop),RS m G s a w→jump c s=some (e,s')→(∀m' a' w',m.le m'→RS m' G s' a' w'→Q (C6 e) a' w')→c.wp P Q a w):∀(c:Code) (hit:∀body∈A9 c,jZ P G iter body) (m:Env) (s s':St) (e:Ex) (a:Act) (w:World) (Q:Exit→Act→World→Prop),
  RS m G s a w→BA P G call iter jump c s=some (e,s')→(∀m' a' w',m.le m'→RS m' G s' a' w'→Q (C6 e) a' w')→c.wp P Q a w:=by
 intro c
 induction c with
 |skip=>
  intro hit m s s' e a w Q hr h hQ;simp only[BA,ACJ,ACP]at h;obtain⟨rfl,rfl⟩:=h;exact wp_skip (hQ m a w (.refl m) hr)
 |label l=>
  intro hit m s s' e a w Q hr h hQ;simp only[BA,ACJ,ACP]at h;obtain⟨rfl,rfl⟩:=h;exact wp_label (hQ m a w (.refl m) hr)
 |exit id=>
  intro hit m s s' e a w Q hr h hQ;simp only[BA,ACJ,ACP]at h;obtain⟨rfl,rfl⟩:=h;exact wp_exit (hQ m a w (.refl m) hr)
 |ret=>
  intro hit m s s' e a w Q hr h hQ;simp only[BA,ACJ,ACP]at h;obtain⟨rfl,rfl⟩:=h;exact wp_ret (hQ m a w (.refl m) hr)
 |region id ops draw=>
  intro hit m s s' e a w Q hr h hQ;cases draw with
  |false=>
   simp only[BA]at h;split at h
   ·rename_i s1 hs;simp only[ACJ,ACP]at h;obtain⟨rfl,rfl⟩:=h;exact wpIn_wide.1 (wpIn_region_list (Ia hc ops.toList m s s1 a w hr hs hQ))
   ·cases h
  |true=>
   simp only[BA]at h;split at h
   ·rename_i s1 hs;simp only[ACJ,ACP]at h;obtain⟨rfl,rfl⟩:=h;exact wpIn_wide.1 (hreg id ops m s s1 a w Q hr hs hQ)
   ·cases h
 |seq x y ihx ihy=>
  intro hit m s s' e a w Q hr h hQ;simp only[BA]at h;split at h
  ·rename_i s1 h1;have hx:=ihx fun B hB=>hit B (by simp[A9,hB])
   have hy:=ihy fun B hB=>hit B (by simp[A9,hB])
   refine wp_seq (hx m s s1 .normal a w _ hr h1 fun m1 a1 w1 g1 r1=>?_)
   exact hy m1 s1 s' e a1 w1 Q r1 h fun m2 a2 w2 g2 r2=>hQ m2 a2 w2 (g1.trans g2) r2
  ·rename_i r hn;have hx:=ihx fun B hB=>hit B (by simp[A9,hB])
   refine wp_seq (hx m s s' e a w _ hr h fun m1 a1 w1 g1 r1=>?_)
   have hq:=hQ m1 a1 w1 g1 r1
   cases e with
   |normal=>exact absurd h (fun e=>hn s' e)
   |exit id=>exact hq
   |ret=>exact hq
   |goto l=>exact hq
 |cond c x y ihx ihy=>
  intro hit m s s' e a w Q hr h hQ;simp only[BA]at h;have hv:=HS hr.g.f (hr.ev c)
  split at h
  ·rename_i ec;rw[ec]at hv;simp only[V]at hv;exact wp_cond_true hv (ihx (fun B hB=>hit B (by simp[A9,hB])) m s s' e a w Q hr h hQ)
  ·rename_i ec;rw[ec]at hv;simp only[V]at hv;exact wp_cond_false hv (ihy (fun B hB=>hit B (by simp[A9,hB])) m s s' e a w Q hr h hQ)
  ·cases h
 |block id x ih=>
  intro hit m s s' e a w Q hr h hQ;simp only[BA]at h;split at h
  ·rename_i i s1 h1;refine wp_block (ih (fun B hB=>hit B (by simpa[A9]using hB)) m s s1 (.exit i) a w _ hr h1 fun m1 a1 w1 g1 r1=>?_)
   split at h
   ·rename_i hb;rw[ACY]at hb;simp only[ACJ,ACP]at h;obtain⟨rfl,rfl⟩:=h;have hq:=hQ m1 a1 w1 g1 r1
    simp only[C6,Exit.inBlock,hb,if_true]at hq⊢;exact hq
   ·rename_i hb;have hne:i≠id:=fun e=>by rw[←ACY,hb]at e;cases e
    simp only[ACJ,ACP]at h;obtain⟨rfl,rfl⟩:=h;have hq:=hQ m1 a1 w1 g1 r1
    simp only[C6,Exit.inBlock,hne,if_false]at hq⊢;exact hq
  ·rename_i r hn;refine wp_block (ih (fun B hB=>hit B (by simpa[A9]using hB)) m s s' e a w _ hr h fun m1 a1 w1 g1 r1=>?_)
   have hq:=hQ m1 a1 w1 g1 r1
   cases e with
   |normal=>exact hq
   |exit id=>exact absurd h (fun e=>hn _ s' e)
   |ret=>exact hq
   |goto l=>exact hq
 |loop x ih=>
  intro hit m s s' e a w Q hr h hQ;simp only[BA]at h;exact hit x (by simp[A9]) m s s' e a w Q hr h hQ
 |scope x ih=>
  intro hit m s s' e a w Q hr h hQ;have ih:=ih fun B hB=>hit B (by simpa[A9]using hB)
  simp only[BA]at h;split at h
  ·rename_i l s1 h1;refine wpIn_wide.1 (JG (n:=0) (wpIn_wide.2 (ih m s s1 (.goto l) a w _ hr h1 fun m1 a1 w1 g1 r1=>?_)))
   split at h
   ·rename_i rest hf;refine⟨fun rest' hf'=>?_,fun hf'=>by rw[hf]at hf';cases hf'⟩
    rw[hf]at hf';cases hf';split at h
    ·cases h
    ·rename_i r hn;refine wpIn_wide.2 (hj rest m1 s1 s' e a1 w1 _ r1 h fun m2 a2 w2 g2 r2=>?_)
     have hq:=hQ m2 a2 w2 (g1.trans g2) r2
     cases e with
     |goto l'=>exact absurd h (fun e=>hn _ _ e)
     |normal=>exact hq
     |exit id=>exact hq
     |ret=>exact hq
   ·rename_i hf;simp only[ACJ,ACP]at h;obtain⟨rfl,rfl⟩:=h;exact⟨fun rest' hf'=>(by rw[hf]at hf';cases hf'),fun _=>hQ m1 a1 w1 g1 r1⟩
  ·rename_i r hn;refine wpIn_wide.1 (JG (n:=0) (wpIn_wide.2 (ih m s s' e a w _ hr h fun m1 a1 w1 g1 r1=>?_)))
   have hq:=hQ m1 a1 w1 g1 r1
   cases e with
   |goto l'=>exact absurd h (fun e=>hn _ _ e)
   |normal=>exact hq
   |exit id=>exact hq
   |ret=>exact hq
 |goto l=>
  intro hit m s s' e a w Q hr h hQ;simp only[BA,ACJ,ACP]at h;obtain⟨rfl,rfl⟩:=h;exact wpIn_wide.1 (wpIn_goto (n:=0) (hQ m a w (.refl m) hr))
 |rangeFunc g ps asg body _ _=>
  intro hit m s s' e a w Q hr h hQ;simp only[BA]at h;exact wpIn_wide.1 (QQ hc hr (hr.ev g) h hQ)
 |_=>intro hit m s s' e a w Q hr h hQ;simp[BA]at h
end
def IU{α β:Type}:List α→(α→Option β)→Option β
 | [],_=>none
 |a::l,f=>match f a with
  |some r=>some r
  |none=>IU l f
theorem FH{α β:Type}{f:α→Option β}{r:β}:∀{l:List α},IU l f=some r→∃a∈l,f a=some r
 | [],h=>by simp[IU]at h
 |a::l,h=>by
  unfold IU at h;split at h
  ·rename_i r' e;cases h;exact⟨a,AED ..,e⟩
  ·obtain⟨b,h1,h2⟩:=FH h;exact⟨b,ACu _ h1,h2⟩
section
variable (P:Program)(G:Nat→Option (List AV))(spec:FuncId→Option (List AV→AHeap→Out))(n:Nat)
def SO:Bi:=fun f args h=>match spec f with
 |some sp=>sp args h
 |none=>Np P (Cn P G spec n) (FT P G (Cn P G spec n)) f args h
def IH(lps:Nat→List LoopSp)(a:Code)(s:St):Run:=match lps (key a) with
 | []=>Cn P G spec n (.loop a) s
 |l=>IU l fun L=>Jc L s
variable (sub:FuncId→List (Nat→List LoopSp))
def IV:Nat→Bi
 |0=>SO P G spec n
 |k+1=>fun f args h=>match spec f with
  |some sp=>sp args h
  |none=>match sub f with
   | []=>SO P G spec n f args h
   |l=>IU l fun lps=>GP P (BA P G (IV k) (IH P G spec n lps) (Cn P G spec n)) Rn f args h
def CC(lps:Nat→List LoopSp)(c:Code)(s:St):Run:=BA P G (IV P G spec n sub 9) (IH P G spec n lps) (Cn P G spec n) c s
def Mm(lps:Nat→List LoopSp)(f:FuncId)(args:List AV)(h:AHeap):Out:=GP P (CC P G spec n sub lps) Rn f args h
end
section
variable {P:Program}{G:Nat→Option (List AV)}{spec:FuncId→Option (List AV→AHeap→Out)}{lps:Nat→List LoopSp}
def Cm(P:Program)(G:Nat→Option (List AV))(I:Nat→List DV→DV)(lps:Nat→List LoopSp)(c:Code):Prop:=∀B∈A9 c,∀L,L∈lps (key B)→BJ P G I B L
theorem V8(hm:P.follows .mixedOrders=true)(hN:∀(f:FuncId) (fn:Func),P.funcs[f]? =some fn→(fn.name== "runtime.NumGoroutine")=false)(hsp:Br P G spec)(n:Nat):CallRK P G (SO P G spec n):=by
 intro f args h av h' hcall;have hrun:RunOK P G (Cn P G spec n):=fun R c m s s' e a w Q hr h hQ=>(FY hN hsp (fun _ _ h=>DP hm h) n R c m s s' e a w Q hr h hQ).1
 unfold SO at hcall;cases hf:spec f with
 |none=>
  simp only[hf]at hcall;unfold Np at hcall;split at hcall
  ·rename_i hy;exact .inr ⟨ADI hy,QR hrun h hcall⟩
  ·exact .inl (GO hN hrun.zero (K5 hrun.zero) f args h av h' hcall)
 |some sp=>
  simp only[hf]at hcall;exact .inl (hsp f sp hf f args h av h' (by simp only[if_true];exact hcall))
theorem QL{call:Bi}(hm:P.follows .mixedOrders=true)(hN:∀(f:FuncId) (fn:Func),P.funcs[f]? =some fn→(fn.name== "runtime.NumGoroutine")=false)(hsp:Br P G spec)(hG:BO G)(n:Nat)(hc:CallRK P G call){c:Code}(hl:Cm P G O.I lps c)
  (m:Env) (s s':St) (e:Ex) (a:Act) (w:World) (Q:Exit→Act→World→Prop) (hr:RS m G s a w) (h:BA P G call (IH P G spec n lps) (Cn P G spec n) c s=some (e,s')) (hQ:∀m' a' w',m.le m'→RS m' G s' a' w'→Q (C6 e) a' w'):c.wp P Q a w:=by
 refine LC hc (DP hm hc) (fun c m s s' e a w Q hr h hQ=>wpIn_wide.1 (FY hN hsp (fun _ _ h=>DP hm h) n plainR c m s s' e a w Q hr h hQ).1) c (fun B hB=>?_) m s s' e a w Q hr h hQ
 intro m s s' e a w Q hr h hQ;unfold IH at h;cases hL:lps (key B) with
 |cons x l=>
  simp only[hL]at h;obtain⟨L,hm,h⟩:=FH h;exact Im hG (hl B hB L (by rw[hL];exact hm)) hr h hQ
 |nil=>
  simp only[hL]at h;exact wpIn_wide.1 (FY hN hsp (fun _ _ h=>DP hm h) n plainR (.loop B) m s s' e a w Q hr h hQ).1
open Classical in
theorem V9{call:Bi}(hm:P.follows .mixedOrders=true)(hN:∀(f:FuncId) (fn:Func),P.funcs[f]? =some fn→(fn.name== "runtime.NumGoroutine")=false)(hsp:Br P G spec)(hG:BO G)(n:Nat)(hc:CallRK P G call)(f:FuncId)
  (hl:∀fn c,P.funcs[f]? =some fn→fn.body=some c→Cm P G O.I lps c):BF P G (fun g args h=>if g=f then GP P (BA P G call (IH P G spec n lps) (Cn P G spec n)) Rn f args h else none):=by
 intro g args h av h' hcall;simp only at hcall;split at hcall
 ·rename_i e;subst e
  let run:Code→St→Run:=fun c s=>if ∃fn,P.funcs[g]? =some fn∧fn.body=some c then BA P G call (IH P G spec n lps) (Cn P G spec n) c s else none
  refine GO (run:=run) hN ?_ Xh g args h av h' ?_
  ·intro c m s s' e a w Q hr h hQ
   by_cases hx:∃fn,P.funcs[g]? =some fn∧fn.body=some c
   ·have h':BA P G call (IH P G spec n lps) (Cn P G spec n) c s=some (e,s'):=by simpa only[run,if_pos hx]using h
    obtain⟨fn,h1,h2⟩:=hx;exact QL hm hN hsp hG n hc (hl fn c h1 h2) m s s' e a w Q hr h' hQ
   ·simp only[run,if_neg hx]at h;cases h
  ·simp only[GP]at hcall⊢;split at hcall
   ·cases hcall
   ·split at hcall
    ·cases hcall
    ·rename_i fn hf;unfold Rz at hcall⊢;split at hcall
     ·cases hcall
     ·rename_i c hb;have:run c=BA P G call (IH P G spec n lps) (Cn P G spec n) c:=by
       funext s
       simp only[run];rw[if_pos ⟨fn,hf,hb⟩]
      simp only[hb,this];exact hcall
 ·cases hcall
def HK(P:Program)(G:Nat→Option (List AV))(I:Nat→List DV→DV)(sub:FuncId→List (Nat→List LoopSp)):Prop:=
 ∀f lps,lps∈sub f→∀fn c,P.funcs[f]? =some fn→fn.body=some c→Cm P G I lps c
theorem Ki(hm:P.follows .mixedOrders=true)(hN:∀(f:FuncId) (fn:Func),P.funcs[f]? =some fn→(fn.name== "runtime.NumGoroutine")=false)(hsp:Br P G spec)(hG:BO G)(n:Nat){sub:FuncId→List (Nat→List LoopSp)}(hs:HK P G O.I sub):∀k,CallRK P G (IV P G spec n sub k)
 |0=>V8 hm hN hsp n
 |k+1=>by
  have ih:=Ki hm hN hsp hG n hs k
  intro f args h av h' hcall;unfold IV at hcall;cases hf:spec f with
  |some sp=>
   simp only[hf]at hcall;exact .inl (hsp f sp hf f args h av h' (by simp only[if_true];exact hcall))
  |none=>
   simp only[hf]at hcall;cases hq:sub f with
   |nil=>
    simp only[hq]at hcall;exact V8 hm hN hsp n f args h av h' hcall
   |cons x l=>
    simp only[hq]at hcall;obtain⟨lps,hmem,hcall⟩:=FH hcall;exact .inl (V9 hm hN hsp hG n ih f (hs f lps (by rw[hq];exact hmem)) f args h av h' (by simp only[if_true];exact hcall))
theorem DX(hm:P.follows .mixedOrders=true)(hN:∀(f:FuncId) (fn:Func),P.funcs[f]? =some fn→(fn.name== "runtime.NumGoroutine")=false)(hsp:Br P G spec)(hG:BO G)(n:Nat){sub:FuncId→List (Nat→List LoopSp)}(hs:HK P G O.I sub){c:Code}(hl:Cm P G O.I lps c)
  (m:Env) (s s':St) (e:Ex) (a:Act) (w:World) (Q:Exit→Act→World→Prop) (hr:RS m G s a w) (h:CC P G spec n sub lps c s=some (e,s')) (hQ:∀m' a' w',m.le m'→RS m' G s' a' w'→Q (C6 e) a' w'):c.wp P Q a w:=
 QL hm hN hsp hG n (Ki hm hN hsp hG n hs 9) hl m s s' e a w Q hr h hQ
theorem mq(hm:P.follows .mixedOrders=true)(hN:∀(f:FuncId) (fn:Func),P.funcs[f]? =some fn→(fn.name== "runtime.NumGoroutine")=false)(hsp:Br P G spec)(hG:BO G)(n:Nat){sub:FuncId→List (Nat→List LoopSp)}(hs:HK P G O.I sub)(f:FuncId)
  (hl:∀fn c,P.funcs[f]? =some fn→fn.body=some c→Cm P G O.I lps c):BF P G (fun g args h=>if g=f then Mm P G spec n sub lps f args h else none):=
 V9 hm hN hsp hG n (Ki hm hN hsp hG n hs 9) f hl
end
end Go.AM
end
