/-
  A part of the proof of ClientStays (the machine on named data, and the contracts of the functions that the law reaches). Its names and spaces were shortened by a program of ours.
-/
import Derived.Test.YtobajijkmmhdjaaGreatDoorPAj
import Derived.Test.YtobajijkmmhdjaaGreatDoorPAh
set_option linter.all false
noncomputable section
namespace Go.Proofs.YtobajijkmmhdjaaGreatDoor.Se
open Go Go.AM
theorem RL(a b c d x y:Nat):(KG a b c d x y).length=4:=rfl
theorem cL{a b c d x y:Nat}(hb:b<4294967296)(hd:d<4294967296):∀z∈KG a b c d x y,z<4294967296:=by
 have l2:=Jf (DH hd (C9 a (Ec b x))) 16
 have l4:=Jf (DH hb (C9 c (Iv (d^^^Ec a (Ec b x)) 16))) 12
 intro z hz;simp only[KG,ACU,ACm,or_false]at hz;rcases hz with rfl|rfl|rfl|rfl
 ·exact C9 _ _
 ·exact Jf (DH l4 (C9 _ _)) 7
 ·exact C9 _ _
 ·exact Jf (DH l2 (C9 _ _)) 8
theorem Ij{l:List Nat}{i:Nat}(h:i<l.length):l.getD i 0∈l:=by
 rw[ACI,ACL h];exact AC7 _
theorem RM{α:Type}(z:α)(v:List α)(f:Nat×Nat×Nat×Nat)(o:List α):(Ol z v f o).length=v.length:=by simp[Ol]
theorem ZK{v o:List Nat}{f:Nat×Nat×Nat×Nat}(ho:o.length=4){z:Nat}(h:z∈Ol 0 v f o):z∈v∨z∈o:=by
 have g:∀k,k<4→o.getD k 0∈o:=fun k hk=>Ij (by omega)
 unfold Ol at h;rcases ADj h with h|rfl
 ·rcases ADj h with h|rfl
  ·rcases ADj h with h|rfl
   ·rcases ADj h with h|rfl
    ·exact .inl h
    ·exact .inr (g 0 (by omega))
   ·exact .inr (g 1 (by omega))
  ·exact .inr (g 2 (by omega))
 ·exact .inr (g 3 (by omega))
def Nm(R:Rho)(x:List SX)(v:List Nat):Prop:=x.map (den R)=v.map U32∧v.length=16∧∀a∈v,a<4294967296
theorem Nm.len{R:Rho}{x:List SX}{v:List Nat}(h:Nm R x v):x.length=16:=by
 have:=congrArg List.length h.1
 rw[ACX,ACX]at this;have h2:=h.2.1
 omega
theorem Nm.get{R:Rho}{x:List SX}{v:List Nat}(h:Nm R x v){i:Nat}(hi:i<16):den R (x.getD i .emp)=U32 (v.getD i 0):=by
 have h1:=congrArg (fun l=>l[i]?) h.1
 have hx:=h.len
 have hv:=h.2.1
 simp only[ACw,ACL (show i<x.length by omega),ACL (show i<v.length by omega),ADF,ACJ]at h1
 simp only[ACI,ACL (show i<x.length by omega),ACL (show i<v.length by omega),ACo]
 exact h1
theorem wF{R:Rho}(hI:R.I=blI){a b c d x y:SX}{a' b' c' d' x' y':Nat}(ha:den R a=U32 a')(hb:den R b=U32 b')(hc:den R c=U32 c')(hd:den R d=U32 d')(hx:den R x=U32 x')(hy:den R y=U32 y'):
  (oG a b c d x y).map (den R)=(KG a' b' c' d' x' y').map U32:=by
 have he:([a,b,c,d,x,y]:List SX).map (den R)=[U32 a',U32 b',U32 c',U32 d',U32 x',U32 y']:=by simp only[ACO,ACS,ha,hb,hc,hd,hx,hy]
 have hF:ZI [U32 a',U32 b',U32 c',U32 d',U32 x',U32 y']=[(KG a' b' c' d' x' y').map U32]:=rfl
 have g:∀k:Nat,den R (.at (.app 40 [a,b,c,d,x,y]) (k64 0) k)=((KG a' b' c' d' x' y').map U32).getD k (.bool false):=fun k=>Mh (F:=ZI) (by rw[hI];rfl) (by rw[he,hF];rfl)
 unfold oG;simp only[ACO,ACS,g];rfl
theorem su{R:Rho}(hI:R.I=blI){x y:List SX}{v m:List Nat}(hx:Nm R x v)(hy:Nm R y m){f:Nat×Nat×Nat×Nat}{i j:Nat}(f1:f.1<16)(f2:f.2.1<16)(f3:f.2.2.1<16)(f4:f.2.2.2<16)(hi:i<16)(hj:j<16):Nm R (fu x y f i j) (Pl v m f i j):=by
 have hm:=wF hI (hx.get f1) (hx.get f2) (hx.get f3) (hx.get f4) (hy.get hi) (hy.get hj)
 have hmem:∀k,k<16→v.getD k 0<4294967296:=fun k hk=>hx.2.2 _ (Ij (by have:=hx.2.1;omega))
 have hl:=cL (a:=v.getD f.1 0) (b:=v.getD f.2.1 0) (c:=v.getD f.2.2.1 0) (d:=v.getD f.2.2.2 0) (x:=m.getD i 0) (y:=m.getD j 0) (hmem _ f2) (hmem _ f4)
 have g:∀(A:List SX) (B:List Nat),A.map (den R)=B.map U32→B.length=4→∀k,k<4→den R (A.getD k .emp)=U32 (B.getD k 0):=by
  intro A B h1 h2 k hk;have h3:=congrArg List.length h1
  rw[ACX,ACX]at h3;have h4:=congrArg (fun l=>l[k]?) h1
  simp only[ACw,ACL (show k<A.length by omega),ACL (show k<B.length by omega),ADF,ACJ]at h4
  rw[ACI,ACI,ACL (show k<A.length by omega),ACL (show k<B.length by omega)]
  exact h4
 have g:=g _ _ hm (RL _ _ _ _ _ _)
 refine⟨?_,by unfold Pl;rw[RM];exact hx.2.1,fun a ha=>?_⟩
 ·unfold fu Pl Ol;simp only[List.map_set,hx.1];rw[g 0 (by omega),g 1 (by omega),g 2 (by omega),g 3 (by omega)]
 ·rcases ZK (RL _ _ _ _ _ _) ha with h|h
  ·exact hx.2.2 _ h
  ·exact hl _ h
theorem qt{R:Rho}(hI:R.I=blI){y:List SX}{m:List Nat}(hy:Nm R y m):∀(fs:List (Nat×Nat×Nat×Nat)) (s:List Nat) (x:List SX) (v:List Nat),Nm R x v→(∀f∈fs,f.1<16∧f.2.1<16∧f.2.2.1<16∧f.2.2.2<16)→(∀i∈s,i<16)→Nm R (goX y fs s x) (goN m fs s v)
 | [],s,x,v,hx,_,_=>by
  unfold goX goN;exact hx
 |f::fs,[],x,v,hx,_,_=>by
  unfold goX goN;exact hx
 |f::fs,[i],x,v,hx,_,_=>by
  unfold goX goN;exact hx
 |f::fs,i::j::s,x,v,hx,hf,hs=>by
  unfold goX goN;obtain⟨f1,f2,f3,f4⟩:=hf f (by simp)
  exact qt hI hy fs s _ _ (su hI hx hy f1 f2 f3 f4 (hs i (by simp)) (hs j (by simp))) (fun f h=>hf f (ACu _ h)) (fun i h=>hs i (by simp[h]))
theorem M4(R:Rho)(τ:List SX):∀(n b:Nat),b+n≤τ.length→(Di b n).map (den (R.sub τ))=((τ.map (den R)).drop b).take n
 |0,b,_=>by simp[Di]
 |n+1,b,h=>by
  have hb:b<(τ.map (den R)).length:=by rw[ACX];omega
  unfold Di;rw[ACO,M4 R τ n (b+1) (by omega),ACj hb,ADS]
  congr 1
  show (R.sub τ).ρ b=_
  rw[qJ,ACI,ACL hb];rfl
theorem WT:∀f∈KH,f.1<16∧f.2.1<16∧f.2.2.1<16∧f.2.2.2<16:=by decide
theorem fw:∀s∈F8,∀i∈s,i<16:=by decide
def StR(R:Rho)(v m:List Nat)(h:List DV):Prop:=R.I=blI∧Nm R vsX v∧Nm R msX m∧hsX.map (den R)=h
theorem oI{R:Rho}{v m:List Nat}{h:List DV}{s:List Nat}(hs:∀i∈s,i<16)(st:StR R v m h):StR (R.sub (ZJ s)) (GX m v s) m h:=by
 obtain⟨hI,hv,hm,hh⟩:=st;have hg:=qt hI hm KH s vsX v hv WT hs
 have hgl:=hg.len
 have hml:(msX.map (den R)).length=16:=rfl
 have hhl:h.length=8:=by rw[←hh];rfl
 have hτ:(ZJ s).map (den R)=(GX m v s).map U32++(m.map U32++h):=by
  unfold ZJ;rw[ACd,ACd,hg.1,hm.1,hh];rfl
 have hrl:((GX m v s).map U32).length=16:=by rw[ACX];exact hg.2.1
 have hmu:(m.map U32).length=16:=by rw[ACX];exact hm.2.1
 have hlen:(ZJ s).length=40:=by
  have:=congrArg List.length hτ
  rw[ACX,ACT,ACT,hrl,hmu,hhl]at this;omega
 refine⟨hI,⟨?_,hg.2⟩,⟨?_,hm.2⟩,?_⟩
 ·show (Di 0 16).map _=_
  rw[M4 R _ 16 0 (by omega),hτ,AC1,ACz (by omega),ACg (by omega)]
 ·show (Di 16 16).map _=_
  rw[M4 R _ 16 16 (by omega),hτ,ADL (by omega),AC2 (by omega),ADD,ACz (by omega),ACg (by omega)]
 ·show (Di 32 8).map _=_
  rw[M4 R _ 8 32 (by omega),hτ,←ACy,ADL (by rw[ACT];omega),AC2 (by rw[ACT];omega),ADD,ACg (by omega)]
theorem WU:∀(k:Nat) (ss:List (List Nat)) (R:Rho) (v m:List Nat) (h:List DV),(∀s∈ss,∀i∈s,i<16)→StR R v m h→Gm (vsX++hsX) (chR k ss) R=(ss.foldl (GX m) v).map U32++h
 |k,[],R,v,m,h,_,st=>by
  unfold chR Gm;rw[ACd,st.2.1.1,st.2.2.2];rfl
 |k,s::ss,R,v,m,h,hs,st=>by
  unfold chR Gm;exact WU (k+1) ss _ _ m h (fun s hs'=>hs s (ACu _ hs')) (oI (hs s (by simp)) st)
theorem Ft(l:List Nat):Dv (l.map U32)=l:=by
 unfold Dv;rw[ADQ]
 conv=>rhs;rw[←AEV l]
 exact ADN fun a _=>AC5 a
theorem fz{m v s:List Nat}:(goN m KH s v).length=v.length:=by
 have key:∀(fs:List (Nat×Nat×Nat×Nat)) (s v:List Nat),(goN m fs s v).length=v.length:=by
  intro fs
  induction fs with
  |nil=>intro s v;unfold goN;rfl
  |cons f fs ih=>
   intro s v
   match s with
   | []=>unfold goN;rfl
   | [_]=>unfold goN;rfl
   |i::j::s=>
    unfold goN;rw[ih];unfold Pl;rw[RM]
 exact key _ _ _
theorem TH:∀(ss:List (List Nat)) (v m:List Nat),(ss.foldl (GX m) v).length=v.length
 | [],v,m=>rfl
 |s::ss,v,m=>by
  rw[AEo,TH ss];exact fz
theorem ZL{R:Rho}{l:List DV}(h:∀k:Nat,den R (.at (.app 41 (vsX++msX)) (k64 0) k)=l.getD k (.bool false)):∀(n k:Nat),k+n≤l.length→(VK k n).map (den R)=(l.drop k).take n
 |0,k,_=>by simp[VK]
 |n+1,k,hk=>by
  have hb:k<l.length:=by omega
  unfold VK;rw[ACO,ZL h n (k+1) (by omega),ACj hb,ADS,h k,ACI,ACL hb]
  rfl
theorem sw{R:Rho}{v m:List Nat}{h:List DV}(st:StR R v m h):(VK 0 16++hsX).map (den R)=(Dh v m).map U32++h:=by
 obtain⟨hI,hv,hm,hh⟩:=st;have he:(vsX++msX).map (den R)=v.map U32++m.map U32:=by rw[ACd,hv.1,hm.1]
 have hvl:(v.map U32).length=16:=by rw[ACX];exact hv.2.1
 have hF:M3 (v.map U32++m.map U32)=[(Dh v m).map U32]:=by
  unfold M3;rw[ACz (by omega),ACg (by omega),ADL (by omega),AC2 (by omega),ADD,Ft,Ft]
 have hl:((Dh v m).map U32).length=16:=by
  rw[ACX];unfold Dh;rw[TH];exact hv.2.1
 generalize (Dh v m).map U32=X at hF hl⊢;have g:∀k:Nat,den R (.at (.app 41 (vsX++msX)) (k64 0) k)=X.getD k (.bool false):=fun k=>Mh (F:=M3) (by rw[hI];rfl) (by rw[he,hF];rfl)
 rw[ACd,ZL g 16 0 (by omega),hh,AC1,ACg (by omega)]
theorem ZM(b:Nat):∀(n k:Nat),k<n→(fv b n).get k=some (.sy Cz (.v (b+k)))
 |n+1,k,h=>by
  unfold fv;rw[Tr.get_put]
  by_cases e:n=k
  ·subst e;rw[if_pos rfl];rfl
  ·rw[if_neg e];exact ZM b n k (by omega)
theorem ZN(t:TypeId)(b:Nat):∀k,k<16→(bU t b 16).cell k=.sy Cz (.v (b+k)):=fun k hk=>by
 unfold Blk.cell bU;simp only;rw[ZM b 16 k hk]
theorem sx{m:Env}{a:Act}{w:World}(hr:@RS (Bf blI) plainR m G ((TR 0).st 125) a w):∃v ms h,StR m.R v ms h:=by
 have hI:m.R.I=blI:=by obtain⟨_,_,_,_,_,_,y,_⟩:=hr;exact y
 have key:∀(id b:Nat) (t:TypeId) (hb:((TR 0).st 125).h.t.get id=some (.blk (bU t b 16))) (hc:∀k,k<16→(bU t b 16).cell k=.sy Cz (.v (b+k))),∃v,Nm m.R (Di b 16) v:=by
  intro id b t hb hc;have h1:∀k,k<16→∃z:Nat,m.R.ρ (b+k)=U32 z∧z<4294967296:=fun k hk=>HW (Kj hr (id:=id) (k:=k) (i:=b+k) (ty:=Cz) hb hk (hc k hk))
  have h2:∀(n c:Nat),c+n≤16→∃v:List Nat,(Di (b+c) n).map (den m.R)=v.map U32∧v.length=n∧∀a∈v,a<4294967296:=by
   intro n
   induction n with
   |zero=>intro c _;exact⟨[],rfl,rfl,by simp⟩
   |succ n ih=>
    intro c hc;obtain⟨z,z1,z2⟩:=h1 c (by omega)
    obtain⟨v,v1,v2,v3⟩:=ih (c+1) (by omega)
    refine⟨z::v,?_,by simp[v2],fun a ha=>?_⟩
    ·unfold Di;rw[ACO,ACO,show b+c+1=b+(c+1) by omega,v1]
     congr 1
    ·rcases ACU.1 ha with rfl|ha
     ·exact z2
     ·exact v3 a ha
  obtain⟨v,v1,v2,v3⟩:=h2 16 0 (by omega)
  exact⟨v,v1,v2,v3⟩
 obtain⟨v,hv⟩:=key 3 0 259 (by kernel_rfl) (ZN _ _)
 obtain⟨ms,hm⟩:=key 4 16 259 (by kernel_rfl) (ZN _ _)
 exact⟨v,ms,_,hI,hv,hm,rfl⟩
theorem yr:BJ Tryz.prog G blI qs LR:=
 ew GL PB (AG cJ) AI 100 (Gz (l:=[]) trivial) AL (chR 0 F8) (vsX++hsX) rfl okR (fun R=>∃v ms h,StR R v ms h) (fun m a w hr _=>sx hr) (fun R _ hinv=>by
  obtain⟨v,ms,h,st⟩:=hinv;rw[WU 0 F8 R v ms h fw st];exact (sw st).symm)
abbrev tH:List Ty:=[Cz,Cz,Cz,Cz,Cz,Cz,Cz,Cz]
abbrev tK:List Ty:=List.replicate 64 tU8
def leN(a b c d:Nat):Nat:=(((0|||(a<<<0)%4294967296)|||(b<<<8)%4294967296)|||(c<<<16)%4294967296)|||(d<<<24)%4294967296
def CY:List Nat→List Nat
 |a::b::c::d::l=>leN a b c d::CY l
 |_=>[]
def Cw(h:List Nat)(t:Nat)(last:Bool):List Nat:=h++[1779033703,3144134277,1013904242,2773480762,1359893119^^^(t%4294967296),2600822924^^^((t>>>32)%4294967296),(if last then 3766232660 else 528734635),1541459225]
def Hw:List Nat→List Nat→List Nat→List Nat
 |a::l,b::m,c::n=>(a^^^(b^^^c))::Hw l m n
 |_,_,_=>[]
def EV(h b:List Nat)(t:Nat)(last:Bool):List Nat:=Hw h ((Dh (Cw h t last) (CY b)).take 8) ((Dh (Cw h t last) (CY b)).drop 8)
abbrev shX(b n:Nat):SX:=.bin .shl (.conv .u32 (.v b)) (.ki .i64 (.ofNat n))
def leX(b:Nat):SX:=.bin .or (.bin .or (.bin .or (.bin .or (.ki .u32 (.ofNat 0)) (shX b 0)) (shX (b+1) 8)) (shX (b+2) 16)) (shX (b+3) 24)
def On:Nat→Nat→List SX
 |_,0=>[]
 |b,n+1=>leX b::On (b+4) n
abbrev k32(n:Nat):SX:=.ki .u32 (.ofNat n)
def XF(last:Bool):List SX:=Di 0 8++[k32 1779033703,k32 3144134277,k32 1013904242,k32 2773480762,LO (k32 1359893119) (.conv .u32 (.v 72)),LO (k32 2600822924) (.conv .u32 (.bin .shr (.v 72) (.ki .u64 (.ofNat 32)))),k32 (match last with|true=>3766232660|false=>528734635),k32 1541459225]
def ZO(last:Bool)(k:Nat):SX:=.at (.app 41 (XF last++On 8 16)) (k64 0) k
def VM(last:Bool):Nat→Nat→List SX
 |_,0=>[]
 |k,n+1=>LO (.v k) (LO (ZO last k) (ZO last (k+8)))::VM last (k+1) n
def oJ:Pln:=.ask (.v 73) (.done [VM true 0 8]) (.done [VM false 0 8])
set_option maxRecDepth 100000 in
theorem lR:Cm Tryz.prog G blI (CG [(14,LR)]) (B4 136):=by
 intro B hB M hM;have h1:=DB hM
 simp only[ACU,ACm,or_false,ACP]at h1;obtain⟨hk,rfl⟩:=h1;have hc:A9 (B4 136)=[B0 136 0,B0 136 1,B0 136 2]:=by kernel_rfl
 rw[hc]at hB;simp only[ACU,ACm,or_false]at hB;rcases hB with rfl|rfl|rfl
 ·exact absurd (show key (B0 136 0)=4 by kernel_rfl) (by rw[hk];decide)
 ·exact yr
 ·exact absurd (show key (B0 136 2)=28 by kernel_rfl) (by rw[hk];decide)
set_option maxRecDepth 100000 in
theorem AAv:(hasB 136&&AJ [.agg tH] (Bc blI (AR [oH]) [(14,LR)] [] 136 [.agg tH,.agg tK,.one UR,.one .bool]) [] oJ)=true:=by kernel_rfl
def U8(n:Nat):DV:=.int .u8 n
def M5(ds:List DV):List (List DV):=[(EV (Dv (ds.take 8)) (Dv ((ds.drop 8).take 64)) (nD ds 72) (bD ds 73)).map U32]
theorem Pm{t:Ty}{c:Nat→DV}{m:Nat}(ht:∀d,Is t d→∃a:Nat,d=c a∧a<m):∀(n:Nat) (ds:List DV),IsL (List.replicate n t) ds→∃l:List Nat,ds=l.map c∧l.length=n∧∀a∈l,a<m
 |0,ds,h=>by
  simp only[List.replicate_zero,IsL]at h;exact⟨[],by simp[h],rfl,by simp⟩
 |n+1,ds,h=>by
  simp only[AD7,IsL]at h;obtain⟨d,rest,rfl,h1,h2⟩:=h;obtain⟨a,rfl,ha⟩:=ht d h1;obtain⟨l,rfl,e1,e2⟩:=Pm ht n rest h2;refine⟨a::l,rfl,by simp[e1],fun z hz=>?_⟩
  rcases ACU.1 hz with rfl|hz
  ·exact ha
  ·exact e2 z hz
section
variable {R:Rho}{x y:SX}{a b:Nat}
theorem M6(hx:den R x=U32 a)(k:IntKind)(n:Nat)(hn:n≤32):den R (.bin .shl x (.ki k (.ofNat n)))=U32 ((a<<<n)%4294967296):=by
 simp only[den,hx,AZ,U32,wrap_u32];congr 1
 show ((a:Int)*2^min n 32)%_=_
 rw[ADZ hn,Nat.shiftLeft_eq];simp
theorem XG(hx:den R x=U8 a)(ha:a<256):den R (.conv .u32 x)=U32 a:=by
 simp only[den,hx,C7,U8,U32,wrap_u32];congr 1
 omega
theorem m32(a:Nat):a%4294967296<4294967296:=AD4 _ (by decide)
theorem wG(a b c d:Nat):leN a b c d<4294967296:=Gh (Gh (Gh (Gh (by decide) (m32 _)) (m32 _)) (m32 _)) (m32 _)
theorem yt{k a b c d:Nat}(ha:R.ρ k=U8 a)(hb:R.ρ (k+1)=U8 b)(hc:R.ρ (k+2)=U8 c)(hd:R.ρ (k+3)=U8 d)(la:a<256)(lb:b<256)(lc:c<256)(ld:d<256):den R (leX k)=U32 (leN a b c d):=
 Ok (Ok (Ok (Ok (b:=(a<<<0)%4294967296) (show den R (.ki .u32 (.ofNat 0))=U32 0 from rfl) (M6 (XG (d_v ha) la) .i64 0 (by omega)) (by decide) (m32 _)) (M6 (XG (d_v hb) lb) .i64 8 (by omega)) (Gh (by decide) (m32 _)) (m32 _))
  (M6 (XG (d_v hc) lc) .i64 16 (by omega)) (Gh (Gh (by decide) (m32 _)) (m32 _)) (m32 _)) (M6 (XG (d_v hd) ld) .i64 24 (by omega)) (Gh (Gh (Gh (by decide) (m32 _)) (m32 _)) (m32 _)) (m32 _)
end
theorem ZP{R:Rho}:∀(n k:Nat) (l:List Nat),l.length=4*n→(∀i,i<l.length→R.ρ (k+i)=U8 (l.getD i 0))→(∀a∈l,a<256)→(On k n).map (den R)=(CY l).map U32∧(CY l).length=n∧∀a∈CY l,a<4294967296
 |0,k,l,hl,_,_=>by
  have:l=[]:=ACi.1 (by omega)
  subst this;exact⟨rfl,rfl,by simp[CY]⟩
 |n+1,k,l,hl,h,hb=>by
  match l,hl,h,hb with
  |a::b::c::d::l,hl,h,hb=>
   simp only[ACe]at hl h;obtain⟨e1,e2,e3⟩:=ZP (R:=R) n (k+4) l (by omega) (fun i hi=>by
    have:=h (i+4) (by omega)
    rw[show k+(i+4)=k+4+i by omega]at this
    simpa using this) (fun z hz=>hb z (by simp[hz]))
   have h0:=h 0 (by omega)
   have h1:=h 1 (by omega)
   have h2:=h 2 (by omega)
   have h3:=h 3 (by omega)
   refine⟨?_,by simp[CY,e2],fun z hz=>?_⟩
   ·unfold On CY;rw[ACO,ACO,e1,yt (k:=k) (a:=a) (b:=b) (c:=c) (d:=d) h0 h1 h2 h3 (hb a (by simp)) (hb b (by simp)) (hb c (by simp)) (hb d (by simp))]
   ·unfold CY at hz;rcases ACU.1 hz with rfl|hz
    ·exact wG _ _ _ _
    ·exact e3 z hz
  | [],hl,_,_=>simp at hl
  | [_],hl,_,_=>simp at hl;omega
  | [_,_],hl,_,_=>simp at hl;omega
  | [_,_,_],hl,_,_=>simp at hl;omega
theorem kK(m:List Nat):∀(fs:List (Nat×Nat×Nat×Nat)) (s v:List Nat),v.length=16→(∀a∈v,a<4294967296)→(∀f∈fs,f.1<16∧f.2.1<16∧f.2.2.1<16∧f.2.2.2<16)→(goN m fs s v).length=16∧∀a∈goN m fs s v,a<4294967296
 | [],s,v,hl,hv,_=>by unfold goN;exact⟨hl,hv⟩
 |f::fs,[],v,hl,hv,_=>by unfold goN;exact⟨hl,hv⟩
 |f::fs,[_],v,hl,hv,_=>by unfold goN;exact⟨hl,hv⟩
 |f::fs,i::j::s,v,hl,hv,hf=>by
  unfold goN;obtain⟨f1,f2,f3,f4⟩:=hf f (by simp)
  refine kK m fs s _ (by unfold Pl;rw[RM];exact hl) (fun a ha=>?_) (fun f h=>hf f (ACu _ h))
  rcases ZK (RL _ _ _ _ _ _) ha with h|h
  ·exact hv _ h
  ·exact cL (hv _ (Ij (by omega))) (hv _ (Ij (by omega))) _ h
theorem Oo(m:List Nat):∀(ss:List (List Nat)) (v:List Nat),v.length=16→(∀a∈v,a<4294967296)→(ss.foldl (GX m) v).length=16∧∀a∈ss.foldl (GX m) v,a<4294967296
 | [],v,hl,hv=>⟨hl,hv⟩
 |s::ss,v,hl,hv=>by
  rw[AEo];obtain⟨h1,h2⟩:=kK m KH s v hl hv WT;exact Oo m ss _ h1 h2
theorem RN{R:Rho}{c:Nat→DV}:∀(n b:Nat) (l:List Nat),l.length=n→(∀i,i<n→R.ρ (b+i)=c (l.getD i 0))→(Di b n).map (den R)=l.map c
 |0,b,l,hl,_=>by
  have:l=[]:=ACi.1 hl
  subst this;rfl
 |n+1,b,l,hl,h=>by
  match l,hl,h with
  |a::l,hl,h=>
   unfold Di;rw[ACO,ACO,RN n (b+1) l (by simpa using hl) (fun i hi=>by
    have:=h (i+1) (by omega)
    rw[show b+(i+1)=b+1+i by omega]at this
    simpa using this)]
   congr 1
   exact h 0 (by omega)
  | [],hl,_=>simp at hl
theorem kL{R:Rho}{last:Bool}{v:List Nat}(hv:v.length=16)(hvb:∀a∈v,a<4294967296)(hr:∀k,k<16→den R (ZO last k)=U32 (v.getD k 0)):∀(n k:Nat) (h:List Nat),h.length=n→k+n=8→(∀i,i<n→R.ρ (k+i)=U32 (h.getD i 0))→(∀a∈h,a<4294967296)→(VM last k n).map (den R)=(Hw h ((v.take 8).drop k) ((v.drop 8).drop k)).map U32
 |0,k,h,hl,hk,_,_=>by
  have:h=[]:=ACi.1 hl
  subst this;rw[ADP (by rw[ACh];omega)]
  rfl
 |n+1,k,h,hl,hk,hρ,hb=>by
  match h,hl,hρ,hb with
  |a::h,hl,hρ,hb=>
   have k1:k<(v.take 8).length:=by rw[ACh];omega
   have k2:k<(v.drop 8).length:=by rw[ADA];omega
   have e1:(v.take 8)[k]=v.getD k 0:=by
    rw[List.getElem_take,ACI,ACL (by omega)]
    rfl
   have e2:(v.drop 8)[k]=v.getD (k+8) 0:=by
    rw[List.getElem_drop,ACI,ACL (by omega)]
    simp only[ACo];congr 1
    omega
   have ih:=kL hv hvb hr n (k+1) h (by simpa using hl) (by omega) (fun i hi=>by
    have:=hρ (i+1) (by omega)
    rw[show k+(i+1)=k+1+i by omega]at this
    simpa using this) (fun z hz=>hb z (by simp[hz]))
   have g:=fun j hj=>hvb _ (Ij (l:=v) (i:=j) (by omega))
   rw[ACj k1,ACj k2,e1,e2];unfold VM Hw;rw[ACO,ACO,ih];congr 1
   exact Gw (d_v (hρ 0 (by omega))) (Gw (hr k (by omega)) (hr (k+8) (by omega)) (g k (by omega)) (g (k+8) (by omega))) (hb a (by simp)) (DH (g k (by omega)) (g (k+8) (by omega)))
  | [],hl,_,_=>simp at hl
theorem Gx{c:Nat→DV}{l:List Nat}{r:List DV}{i:Nat}(h:i<l.length):(l.map c++r).getD i (.bool false)=c (l.getD i 0):=by
 rw[ACI,ACc (by rw[ACX];exact h),ACw,ACI,ACL h]
 rfl
theorem F9{c:Nat→DV}{l:List Nat}{r:List DV}{i n:Nat}(hn:l.length=n):(l.map c++r).getD (n+i) (.bool false)=r.getD i (.bool false):=by
 rw[ACI,ACV (by rw[ACX];omega),ACI]
 congr 2
 rw[ACX];omega
theorem yu{d:DV}(h:Is tU8 d):∃a:Nat,d=U8 a∧a<256:=by
 obtain⟨b,rfl⟩:=h.u8;exact⟨b.toNat,rfl,b.toNat_lt⟩
theorem s9{d:DV}(h:Is Cz d):∃a:Nat,d=U32 a∧a<4294967296:=HW h
theorem tA{R:Rho}{hl:List Nat}{t:Nat}{last:Bool}(h8:hl.length=8)(hb:∀a∈hl,a<4294967296)(hρ:∀i,i<8→R.ρ (0+i)=U32 (hl.getD i 0))(ht:R.ρ 72=.int .u64 t):
  (XF last).map (den R)=(Cw hl t last).map U32∧(Cw hl t last).length=16∧∀a∈Cw hl t last,a<4294967296:=by
 have c0:den R (.conv .u32 (.v 72))=U32 (t%4294967296):=by
  simp only[den,ht,C7,U32,wrap_u32];congr 1
 have c1:den R (.conv .u32 (.bin .shr (.v 72) (.ki .u64 (.ofNat 32))))=U32 ((t>>>32)%4294967296):=by
  simp only[den,ht,AZ,C7,U32,wrap_u32];congr 1
  show Int.fdiv (t:Int) (2^min 32 64)%_=_
  rw[AEE,ADb _ (Int.le_of_lt (Int.pow_pos (by decide)))]
  simp
 have x0:den R (LO (k32 1359893119) (.conv .u32 (.v 72)))=U32 (1359893119^^^(t%4294967296)):=Gw rfl c0 (by decide) (m32 _)
 have x1:den R (LO (k32 2600822924) (.conv .u32 (.bin .shr (.v 72) (.ki .u64 (.ofNat 32)))))=U32 (2600822924^^^((t>>>32)%4294967296)):=Gw rfl c1 (by decide) (m32 _)
 refine⟨?_,?_,?_⟩
 ·unfold XF Cw;rw[ACd,ACd,RN (c:=U32) 8 0 hl h8 hρ];congr 1
  simp only[ACO,ACS,x0,x1];cases last<;>rfl
 ·simp[Cw,h8]
 ·intro a ha;unfold Cw at ha;rcases ADR.1 ha with h|h
  ·exact hb a h
  ·simp only[ACU,ACm,or_false]at h;rcases h with rfl|rfl|rfl|rfl|rfl|rfl|rfl|rfl
   ·decide
   ·decide
   ·decide
   ·decide
   ·exact DH (by decide) (m32 _)
   ·exact DH (by decide) (m32 _)
   ·cases last<;>decide
   ·decide
theorem qu:Am Tryz.prog G 136 [.agg tH,.agg tK,.one UR,.one .bool] [.agg tH] (fun _=>True) M5:=by
 have hk:=AAv
 rw[ACH]at hk;refine Av (AG cJ) [(14,LR)] _ lR hk.1 oJ hk.2 ?_
 intro ds h _;simp only[An,Ba]at h;obtain⟨_,_,rfl,h1,_,_,rfl,h2,_,_,rfl,⟨d3,rfl,h3⟩,_,_,rfl,⟨d4,rfl,h4⟩,rfl⟩:=h;obtain⟨hl,rfl,h8,hhb⟩:=Pm (c:=U32) (fun d=>s9) 8 _ (show IsL (List.replicate 8 Cz) _ from h1)
 obtain⟨bl,rfl,h64,hbb⟩:=Pm (c:=U8) (fun d=>yu) 64 _ h2
 obtain⟨tz,rfl,t0,_⟩:=h3.u64;obtain⟨last,rfl⟩:=h4.bool;obtain⟨t,rfl⟩:∃t:Nat,tz=t:=⟨tz.toNat,by omega⟩
 have hfl:[hl.map U32,bl.map U8,[DV.int .u64 t],[DV.bool last]].flatten=hl.map U32++(bl.map U8++[DV.int .u64 t,DV.bool last]):=by simp
 rw[hfl];generalize hR:AA blI (hl.map U32++(bl.map U8++[DV.int .u64 t,DV.bool last]))=R;have hI:R.I=blI:=by rw[←hR];rfl
 have hρ:∀i,R.ρ i=(hl.map U32++(bl.map U8++[DV.int .u64 t,DV.bool last])).getD i (.bool false):=fun i=>by rw[←hR];rfl
 have r0:∀i,i<8→R.ρ (0+i)=U32 (hl.getD i 0):=fun i hi=>by rw[hρ,ACk,Gx (by omega)]
 have r8:∀i,i<bl.length→R.ρ (8+i)=U8 (bl.getD i 0):=fun i hi=>by rw[hρ,F9 h8,Gx hi]
 have r72:R.ρ 72=.int .u64 t:=by rw[hρ,show (72:Nat)=8+(64+0) by rfl,F9 h8,F9 h64];rfl
 have r73:R.ρ 73=.bool last:=by rw[hρ,show (73:Nat)=8+(64+1) by rfl,F9 h8,F9 h64];rfl
 have hF:M5 (hl.map U32++(bl.map U8++[DV.int .u64 t,DV.bool last]))=[(EV hl bl t last).map U32]:=by
  have n1:Dv ((hl.map U32++(bl.map U8++[DV.int .u64 t,DV.bool last])).take 8)=hl:=by
   rw[ACz (by rw[ACX];omega),ACg (by rw[ACX];omega),Ft]
  have n2:Dv (((hl.map U32++(bl.map U8++[DV.int .u64 t,DV.bool last])).drop 8).take 64)=bl:=by
   rw[ADL (by rw[ACX];omega),AC2 (by rw[ACX];omega),ADD,ACz (by rw[ACX];omega),ACg (by rw[ACX];omega)]
   unfold Dv;rw[ADQ]
   conv=>rhs;rw[←AEV bl]
   exact ADN fun a _=>AC5 a
  have n3:nD (hl.map U32++(bl.map U8++[DV.int .u64 t,DV.bool last])) 72=t:=by
   unfold nD;rw[←hρ,r72];exact AC5 t
  have n4:bD (hl.map U32++(bl.map U8++[DV.int .u64 t,DV.bool last])) 73=last:=by
   unfold bD;rw[←hρ,r73]
  unfold M5;rw[n1,n2,n3,n4]
 rw[hF];have leaf:AK R [(EV hl bl t last).map U32] (.done [VM last 0 8]):=by
  obtain⟨i1,i2,i3⟩:=tA (last:=last) h8 hhb r0 r72;obtain⟨w1,w2,w3⟩:=ZP (R:=R) 16 8 bl (by omega) r8 hbb
  obtain⟨v1,v2⟩:=Oo (CY bl) F8 (Cw hl t last) i2 i3;have he:(XF last++On 8 16).map (den R)=(Cw hl t last).map U32++(CY bl).map U32:=by rw[ACd,i1,w1]
  have hlen:((Cw hl t last).map U32).length=16:=by rw[ACX];exact i2
  have hFr:M3 ((Cw hl t last).map U32++(CY bl).map U32)=[(Dh (Cw hl t last) (CY bl)).map U32]:=by
   unfold M3;rw[ACz (by omega),ACg (by omega),ADL (by omega),AC2 (by omega),ADD,Ft,Ft]
  have hv:Dh (Cw hl t last) (CY bl)=F8.foldl (GX (CY bl)) (Cw hl t last):=rfl
  rw[←hv]at v1 v2;show _=_
  simp only[ACO,ACS];unfold EV;generalize hV:Dh (Cw hl t last) (CY bl)=V at hFr v1 v2⊢;have g:∀k,k<16→den R (ZO last k)=U32 (V.getD k 0):=by
   intro k hk;have h1:den R (ZO last k)=(V.map U32).getD k (.bool false):=Mh (F:=M3) (by rw[hI];rfl) (by rw[he,hFr];rfl)
   rw[h1];have:=Gx (c:=U32) (l:=V) (r:=[]) (i:=k) (by omega)
   rw[ADg]at this;exact this
  rw[kL v1 v2 g 8 0 hl h8 rfl r0 hhb,AC1,AC1]
 unfold oJ;refine AD (d_v r73) (fun h=>?_) (fun h=>?_)
 ·subst h;exact leaf
 ·subst h;exact leaf
def oK{α:Type}(a b c d x y:Nat)(k:List Nat→α):α:=
 fN a fun a=>fN b fun b=>fN c fun c=>fN d fun d=>fN x fun x=>fN y fun y=>
 fN (Ec a (Ec b x)) fun a1=>fN (Iv (d^^^a1) 16) fun d1=>fN (Ec c d1) fun c1=>fN (Iv (b^^^c1) 12) fun b1=>
 fN (Ec a1 (Ec b1 y)) fun a2=>fN (Iv (d1^^^a2) 8) fun d2=>fN (Ec c1 d2) fun c2=>fN (Iv (b1^^^c2) 7) fun b2=>k [a2,b2,c2,d2]
theorem tD{α:Type}(a b c d x y:Nat)(k:List Nat→α):oK a b c d x y k=k (KG a b c d x y):=by
 unfold oK;simp only[SB];rfl
def goF{α:Type}(m:List Nat):List (Nat×Nat×Nat×Nat)→List Nat→List Nat→(List Nat→α)→α
 |f::fs,i::j::s,v,k=>oK (v.getD f.1 0) (v.getD f.2.1 0) (v.getD f.2.2.1 0) (v.getD f.2.2.2 0) (m.getD i 0) (m.getD j 0) fun o=>fL (Ol 0 v f o) fun v=>goF m fs s v k
 |_,_,v,k=>k v
theorem kM{α:Type}(m:List Nat):∀(fs:List (Nat×Nat×Nat×Nat)) (s v:List Nat) (k:List Nat→α),goF m fs s v k=k (goN m fs s v)
 | [],s,v,k=>by unfold goF goN;rfl
 |f::fs,[],v,k=>by unfold goF goN;rfl
 |f::fs,[_],v,k=>by unfold goF goN;rfl
 |f::fs,i::j::s,v,k=>by
  unfold goF goN;rw[tD,MY,kM m fs s];rfl
def Pn{α:Type}(m:List Nat):List (List Nat)→List Nat→(List Nat→α)→α
 | [],v,k=>k v
 |s::ss,v,k=>goF m KH s v fun v=>Pn m ss v k
theorem TI{α:Type}(m:List Nat):∀(ss:List (List Nat)) (v:List Nat) (k:List Nat→α),Pn m ss v k=k (ss.foldl (GX m) v)
 | [],v,k=>rfl
 |s::ss,v,k=>by
  unfold Pn;rw[kM,TI m ss];rfl
def ZQ{α:Type}(h b:List Nat)(t:Nat)(last:Bool)(k:List Nat→α):α:=
 fL (Cw h t last) fun v=>fL (CY b) fun m=>Pn m F8 v fun v=>fL (Hw h (v.take 8) (v.drop 8)) k
theorem kN{α:Type}(h b:List Nat)(t:Nat)(last:Bool)(k:List Nat→α):ZQ h b t last k=k (EV h b t last):=by
 unfold ZQ;rw[MY,MY,TI,MY];rfl
def gA(ds:List DV):List (List DV):=fL (Dv (ds.take 8)) fun h=>fL (Dv ((ds.drop 8).take 64)) fun b=>fN (nD ds 72) fun t=>ZQ h b t (bD ds 73) fun l=>[l.map U32]
theorem oL:gA=M5:=by
 funext ds
 unfold gA;rw[MY,MY,SB,kN];rfl
def qv:List AV→AHeap→Out:=ma [.agg tH,.agg tK,.one UR,.one .bool] [.agg tH] (fun _=>true) gA
theorem oM(O:Orc):@BF O Tryz.prog G (fun g args h=>if g=136 then qv args h else none):=
 @sB O _ _ _ _ _ (fun _=>True) _ _ AI (by rw[oL];exact qu) (fun _ _=>trivial)
end Go.Proofs.YtobajijkmmhdjaaGreatDoor.Se
end
