/-
  A part of the proof of ClientStays (the machine on named data, and the contracts of the functions that the law reaches). Its names and spaces were shortened by a program of ours.
-/
import Derived.OpenShut
import Derived.ChangeArms
import Derived.DataReads
import Derived.Test.YtobajijkmmhdjaaGreatDoorPAg
set_option linter.all false
noncomputable section
namespace Go.AM
open Go
def evP(R:Rho):Pln→List (List DV)
 |.ask e t f=>match den R e with
  |.bool true=>evP R t
  |_=>evP R f
 |.know _ _ p=>evP R p
 |.done r=>r.map (·.map (den R))
 |.never=>[]
def C2(R:Rho):Pln→Prop
 |.ask e t f=>∃b,den R e=.bool b∧(b=true→C2 R t)∧(b=false→C2 R f)
 |.know e b p=>den R e=.bool b∧C2 R p
 |.done _=>True
 |.never=>False
theorem Bq{R:Rho}:∀{p:Pln},C2 R p→AK R (evP R p) p
 |.ask e t f,h=>by
  obtain⟨b,h1,h2,h3⟩:=h;unfold evP;rw[h1];cases b with
  |true=>exact AD h1 (fun _=>Bq (h2 rfl)) (fun g=>by cases g)
  |false=>exact AD h1 (fun g=>by cases g) (fun _=>Bq (h3 rfl))
 |.know e b p,h=>As h.1 (Bq h.2)
 |.done r,_=>rfl
 |.never,h=>h.elim
theorem Ai{R:Rho}{e:SX}{b:Bool}{t f:Pln}(h:den R e=.bool b)(ht:b=true→C2 R t)(hf:b=false→C2 R f):C2 R (.ask e t f):=⟨b,h,ht,hf⟩
theorem AU{R:Rho}{e:SX}{b:Bool}{p:Pln}(h:den R e=.bool b)(hp:C2 R p):C2 R (.know e b p):=⟨h,hp⟩
def evR(kn:Nat)(R:Rho):RPln→Option (List DV ⊕ (Bool×List DV))
 |.ask e t f=>match den R e with
  |.bool true=>evR kn R t
  |_=>evR kn R f
 |.know _ _ p=>evR kn R p
 |.next τ=>some (.inl (τ.map (den R)))
 |.exit b τ=>some (.inr (b,(τ.drop kn).map (den R)))
 |.never=>none
def evL(I:Nat→List DV→DV)(kn:Nat)(p:RPln):Nat→List DV→Bool×List DV
 |0,_=>(false,[])
 |n+1,ds=>match evR kn (AA I ds) p with
  |some (.inl ds')=>evL I kn p n ds'
  |some (.inr r)=>r
  |none=>(false,[])
def E4(I:Nat→List DV→DV)(kn:Nat)(p:RPln)(μ:List DV→Nat)(ds:List DV):Bool×List DV:=evL I kn p (μ ds+1) ds
def CA(Inv:List DV→Prop)(μ:List DV→Nat)(R:Rho)(ds:List DV):RPln→Prop
 |.ask e t f=>∃b,den R e=.bool b∧(b=true→CA Inv μ R ds t)∧(b=false→CA Inv μ R ds f)
 |.know e b p=>den R e=.bool b∧CA Inv μ R ds p
 |.next τ=>Inv (τ.map (den R))∧μ (τ.map (den R))<μ ds
 |.exit _ _=>True
 |.never=>False
theorem D4{Inv:List DV→Prop}{μ:List DV→Nat}{R:Rho}{ds:List DV}{e:SX}{b:Bool}{t f:RPln}(h:den R e=.bool b)(ht:b=true→CA Inv μ R ds t)(hf:b=false→CA Inv μ R ds f):CA Inv μ R ds (.ask e t f):=⟨b,h,ht,hf⟩
theorem CO{Inv:List DV→Prop}{μ:List DV→Nat}{R:Rho}{ds:List DV}{e:SX}{b:Bool}{p:RPln}(h:den R e=.bool b)(hp:CA Inv μ R ds p):CA Inv μ R ds (.know e b p):=⟨h,hp⟩
section
variable {Inv:List DV→Prop}{μ:List DV→Nat}{kn:Nat}
theorem MH{R:Rho}{ds:List DV}:∀{p:RPln},CA Inv μ R ds p→(∃d,evR kn R p=some (.inl d)∧Inv d∧μ d<μ ds)∨∃r,evR kn R p=some (.inr r)
 |.ask e t f,h=>by
  obtain⟨b,h1,h2,h3⟩:=h;unfold evR;rw[h1];cases b with
  |true=>exact MH (h2 rfl)
  |false=>exact MH (h3 rfl)
 |.know e b p,h=>by
  unfold evR;exact MH h.2
 |.next τ,h=>.inl ⟨_,rfl,h.1,h.2⟩
 |.exit b τ,_=>.inr ⟨_,rfl⟩
 |.never,h=>h.elim
theorem XZ{I:Nat→List DV→DV}{p:RPln}(hs:∀ds,Inv ds→CA Inv μ (AA I ds) ds p):∀(n m:Nat) (ds:List DV),Inv ds→μ ds<n→μ ds<m→evL I kn p n ds=evL I kn p m ds
 |0,_,_,_,h,_=>by omega
 |_+1,0,_,_,_,h=>by omega
 |n+1,m+1,ds,hi,h1,h2=>by
  rcases MH (kn:=kn) (hs ds hi) with ⟨d,e,k1,k2⟩|⟨r,e⟩
  ·simp only[evL,e];exact XZ hs n m d k1 (by omega) (by omega)
  ·simp only[evL,e]
theorem dj{I:Nat→List DV→DV}{p:RPln}(hs:∀ds,Inv ds→CA Inv μ (AA I ds) ds p){ds:List DV}(hi:Inv ds):Af kn (E4 I kn p μ) Inv μ (AA I ds) ds p:=by
 have key:∀q:RPln,CA Inv μ (AA I ds) ds q→evR kn (AA I ds) p=evR kn (AA I ds) q→Af kn (E4 I kn p μ) Inv μ (AA I ds) ds q:=by
  intro q
  induction q with
  |ask e t f iht ihf=>
   rintro⟨b,h1,h2,h3⟩ he;refine⟨b,h1,fun hb=>iht (h2 hb) ?_,fun hb=>ihf (h3 hb) ?_⟩
   ·rw[he];conv=>lhs;unfold evR
    rw[h1,hb]
   ·rw[he];conv=>lhs;unfold evR
    rw[h1,hb]
  |know e b q ih=>exact fun h he=>⟨h.1,ih h.2 he⟩
  |next τ=>
   intro h he;refine⟨h.1,h.2,?_⟩
   have e1:E4 I kn p μ ds=evL I kn p (μ ds) (τ.map (den (AA I ds))):=by
    simp only[E4,evL,he,evR]
   rw[e1];exact XZ hs _ _ _ h.1 (ADk _) h.2
  |exit b τ=>
   intro h he;show E4 I kn p μ ds=_
   simp only[E4,evL,he,evR]
  |never=>exact fun h=>h.elim
 exact key p (hs ds hi) rfl
end
def inN:List Nat→Nat→Bool
 | [],_=>false
 |a::l,n=>Nat.beq a n||inN l n
def A8(f:List Nat):SX→Bool
 |.len e=>A8 f e
 |.at e i _=>A8 f e&&A8 f i
 |.byte e i=>A8 f e&&A8 f i
 |.bin _ x y=>A8 f x&&A8 f y
 |.conv _ x=>A8 f x
 |.not x=>A8 f x
 |.cut e a b=>A8 f e&&A8 f a&&A8 f b
 |.cat x y=>A8 f x&&A8 f y
 |.bytes x=>A8 f x
 |.text x=>A8 f x
 |.all es=>noApps es
 |.app g es=>inN f g&&noApps es
 |.row es=>noApps es
 |.upd e i _ x=>A8 f e&&A8 f i&&A8 f x
 |.fit e x=>A8 f e&&A8 f x
 |_=>true
where
 noApps:List SX→Bool
  | []=>true
  |e::es=>A8 f e&&noApps es
section
variable {f:List Nat}{ρ:Nat→DV}{I J:Nat→List DV→DV}
mutual
theorem BB(hI:∀n,inN f n=true→I n=J n):∀e:SX,A8 f e=true→den ⟨ρ,I⟩ e=den ⟨ρ,J⟩ e
 |.v i,_=>rfl
 |.ki k z,_=>rfl
 |.kb b,_=>rfl
 |.ks s,_=>rfl
 |.emp,_=>rfl
 |.len e,h=>by simp only[A8]at h;simp only[den,BB hI e h]
 |.at e i c,h=>by simp only[A8,ACH]at h;simp only[den,BB hI e h.1,BB hI i h.2]
 |.byte e i,h=>by simp only[A8,ACH]at h;simp only[den,BB hI e h.1,BB hI i h.2]
 |.bin op x y,h=>by simp only[A8,ACH]at h;simp only[den,BB hI x h.1,BB hI y h.2]
 |.conv k x,h=>by simp only[A8]at h;simp only[den,BB hI x h]
 |.not x,h=>by simp only[A8]at h;simp only[den,BB hI x h]
 |.cut e a b,h=>by simp only[A8,ACH]at h;simp only[den,BB hI e h.1.1,BB hI a h.1.2,BB hI b h.2]
 |.cat x y,h=>by simp only[A8,ACH]at h;simp only[den,BB hI x h.1,BB hI y h.2]
 |.bytes x,h=>by simp only[A8]at h;simp only[den,BB hI x h]
 |.text x,h=>by simp only[A8]at h;simp only[den,BB hI x h]
 |.all es,h=>by simp only[A8]at h;simp only[den,NW hI es h]
 |.app g es,h=>by
  simp only[A8,ACH]at h;simp only[den,MI hI es h.2];rw[hI g h.1]
 |.row es,h=>by simp only[A8]at h;simp only[den,MI hI es h]
 |.upd e i c x,h=>by simp only[A8,ACH]at h;simp only[den,BB hI e h.1.1,BB hI i h.1.2,BB hI x h.2]
 |.fit e x,h=>by simp only[A8,ACH]at h;simp only[den,BB hI e h.1,BB hI x h.2]
theorem NW(hI:∀n,inN f n=true→I n=J n):∀es:List SX,A8.noApps f es=true→den.denAll ⟨ρ,I⟩ es=den.denAll ⟨ρ,J⟩ es
 | [],_=>rfl
 |e::es,h=>by simp only[A8.noApps,ACH]at h;simp only[den.denAll,BB hI e h.1,NW hI es h.2]
theorem MI(hI:∀n,inN f n=true→I n=J n):∀es:List SX,A8.noApps f es=true→den.denL ⟨ρ,I⟩ es=den.denL ⟨ρ,J⟩ es
 | [],_=>rfl
 |e::es,h=>by simp only[A8.noApps,ACH]at h;simp only[den.denL,BB hI e h.1,MI hI es h.2]
end
end
def EI(f:List Nat):RPln→Bool
 |.ask e t g=>A8 f e&&(EI f t&&EI f g)
 |.know e _ p=>A8 f e&&EI f p
 |.next τ=>A8.noApps f τ
 |.exit _ τ=>A8.noApps f τ
 |.never=>true
theorem Iz{f:List Nat}{ρ:Nat→DV}{I J:Nat→List DV→DV}(hI:∀n,inN f n=true→I n=J n):∀{τ:List SX},A8.noApps f τ=true→τ.map (den ⟨ρ,I⟩)=τ.map (den ⟨ρ,J⟩)
 | [],_=>rfl
 |e::τ,h=>by
  simp only[A8.noApps,ACH]at h;simp only[ACO,BB hI e h.1,Iz hI h.2]
theorem P9{f:List Nat}:∀{τ:List SX} {k:Nat},A8.noApps f τ=true→A8.noApps f (τ.drop k)=true
 |τ,0,h=>h
 | [],_+1,h=>h
 |e::τ,k+1,h=>by
  simp only[A8.noApps,ACH]at h;exact P9 (τ:=τ) (k:=k) h.2
theorem KV{f:List Nat}{kn:Nat}{ρ:Nat→DV}{I J:Nat→List DV→DV}(hI:∀n,inN f n=true→I n=J n):∀{p:RPln},EI f p=true→evR kn ⟨ρ,I⟩ p=evR kn ⟨ρ,J⟩ p
 |.ask e t g,h=>by
  simp only[EI,ACH]at h;simp only[evR,BB hI e h.1,KV hI h.2.1,KV hI h.2.2]
 |.know e b p,h=>by
  simp only[EI,ACH]at h;simp only[evR,KV hI h.2]
 |.next τ,h=>by
  simp only[EI]at h;simp only[evR,Iz hI h]
 |.exit b τ,h=>by
  simp only[EI]at h;simp only[evR,Iz hI (P9 h)]
 |.never,_=>rfl
theorem Vv{f:List Nat}{kn:Nat}{I J:Nat→List DV→DV}(hI:∀n,inN f n=true→I n=J n){p:RPln}(h:EI f p=true):∀(n:Nat) (ds:List DV),evL I kn p n ds=evL J kn p n ds
 |0,_=>rfl
 |n+1,ds=>by
  have:evR kn (AA I ds) p=evR kn (AA J ds) p:=KV hI h
  simp only[evL,this];split
  ·exact Vv hI h n _
  ·rfl
  ·rfl
theorem H5{f:List Nat}{ρ:Nat→DV}{I J:Nat→List DV→DV}{Inv:List DV→Prop}{μ:List DV→Nat}{ds:List DV}(hI:∀n,inN f n=true→I n=J n):∀{p:RPln},EI f p=true→CA Inv μ ⟨ρ,J⟩ ds p→CA Inv μ ⟨ρ,I⟩ ds p
 |.ask e t g,h,hs=>by
  simp only[EI,ACH]at h;obtain⟨b,h1,h2,h3⟩:=hs;exact⟨b,(BB hI e h.1).trans h1,fun hb=>H5 hI h.2.1 (h2 hb),fun hb=>H5 hI h.2.2 (h3 hb)⟩
 |.know e b p,h,hs=>by
  simp only[EI,ACH]at h;exact⟨(BB hI e h.1).trans hs.1,H5 hI h.2 hs.2⟩
 |.next τ,h,hs=>by
  simp only[EI]at h;unfold CA at hs⊢;rw[Iz hI h];exact hs
 |.exit b τ,_,_=>trivial
 |.never,_,hs=>hs.elim
theorem Fx{J:Nat→List DV→DV}{f:List Nat}{kn:Nat}{p:RPln}{Inv:List DV→Prop}{μ:List DV→Nat}{I:Nat→List DV→DV}(hI:∀n,inN f n=true→I n=J n)(hn:EI f p=true)(hs:∀ds,Inv ds→CA Inv μ (AA J ds) ds p){ds:List DV}(hi:Inv ds):
  Af kn (E4 J kn p μ) Inv μ (AA I ds) ds p:=by
 have h1:∀ds,Inv ds→CA Inv μ (AA I ds) ds p:=fun ds hd=>H5 hI hn (hs ds hd)
 have h2:E4 J kn p μ=E4 I kn p μ:=by
  funext ds
  exact (Vv hI hn _ _).symm
 rw[h2];exact dj h1 hi
end Go.AM
namespace Go.AM
open Go
theorem JX{I J:Nat→List DV→DV}:∀n,inN [] n=true→I n=J n:=fun n h=>by cases h
theorem Jl{I J:Nat→List DV→DV}{a:Nat}{l:List Nat}(h1:I a=J a)(h2:∀n,inN l n=true→I n=J n):∀n,inN (a::l) n=true→I n=J n:=fun n h=>by
 simp only[inN,ADW]at h;rcases h with h|h
 ·rw[←ADI h];exact h1
 ·exact h2 n h
def Fy(Inv:List DV→Prop)(μ:List DV→Nat)(Out:List DV→Bool×List DV→Prop)(kn:Nat)(R:Rho)(ds:List DV):RPln→Prop
 |.ask e t f=>∃b,den R e=.bool b∧(b=true→Fy Inv μ Out kn R ds t)∧(b=false→Fy Inv μ Out kn R ds f)
 |.know e b p=>den R e=.bool b∧Fy Inv μ Out kn R ds p
 |.next τ=>Inv (τ.map (den R))∧μ (τ.map (den R))<μ ds∧∀r,Out (τ.map (den R)) r→Out ds r
 |.exit b τ=>Out ds (b,(τ.drop kn).map (den R))
 |.never=>False
theorem Ri{Inv:List DV→Prop}{μ:List DV→Nat}{Out:List DV→Bool×List DV→Prop}{kn:Nat}{R:Rho}{ds:List DV}{e:SX}{b:Bool}{t f:RPln}(h:den R e=.bool b)(ht:b=true→Fy Inv μ Out kn R ds t)(hf:b=false→Fy Inv μ Out kn R ds f):Fy Inv μ Out kn R ds (.ask e t f):=⟨b,h,ht,hf⟩
theorem PE{Inv:List DV→Prop}{μ:List DV→Nat}{Out:List DV→Bool×List DV→Prop}{kn:Nat}{R:Rho}{ds:List DV}{e:SX}{b:Bool}{p:RPln}(h:den R e=.bool b)(hp:Fy Inv μ Out kn R ds p):Fy Inv μ Out kn R ds (.know e b p):=⟨h,hp⟩
theorem Xa{I:Nat→List DV→DV}{Inv:List DV→Prop}{μ:List DV→Nat}{Out:List DV→Bool×List DV→Prop}{kn:Nat}{p:RPln}(hs:∀ds,Inv ds→Fy Inv μ Out kn (AA I ds) ds p):∀(n:Nat) (ds:List DV),Inv ds→μ ds<n→Out ds (evL I kn p n ds)
 |0,_,_,h=>by omega
 |n+1,ds,hi,h=>by
  have key:∀q:RPln,Fy Inv μ Out kn (AA I ds) ds q→evR kn (AA I ds) p=evR kn (AA I ds) q→Out ds (evL I kn p (n+1) ds):=by
   intro q
   induction q with
   |ask e t f iht ihf=>
    rintro⟨b,h1,h2,h3⟩ he;cases b with
    |true=>exact iht (h2 rfl) (by rw[he];(conv=>lhs;unfold evR);rw[h1])
    |false=>exact ihf (h3 rfl) (by rw[he];(conv=>lhs;unfold evR);rw[h1])
   |know e b q ih=>exact fun h he=>ih h.2 he
   |next τ=>
    intro h2 he;have e1:evL I kn p (n+1) ds=evL I kn p n (τ.map (den (AA I ds))):=by
     simp only[evL,he,evR]
    rw[e1];have h4:μ (τ.map (den (AA I ds)))<μ ds:=h2.2.1
    exact h2.2.2 _ (Xa hs n _ h2.1 (by omega))
   |exit b τ=>
    intro h2 he;have e1:evL I kn p (n+1) ds=(b,(τ.drop kn).map (den (AA I ds))):=by
     simp only[evL,he,evR]
    rw[e1];exact h2
   |never=>exact fun h=>h.elim
  exact key p (hs ds hi) rfl
theorem EJ(R:Rho)(x y:SX):∃b,den R (.bin .lss x y)=.bool b:=by
 simp only[den,AZ];split<;>exact⟨_,rfl⟩
theorem Bn(R:Rho)(x y:SX):∃b,den R (.bin .eql x y)=.bool b:=by
 simp only[den,AZ];split<;>exact⟨_,rfl⟩
theorem KW(R:Rho)(es:List SX):∃b,den R (.all es)=.bool b:=⟨_,rfl⟩
theorem yN{R:Rho}{e i x:SX}{c:Nat}{l:List (List DV)}{k:IntKind}{z:Int}(he:den R e=.list l)(hi:den R i=.int k z):den R (.upd e i c x)=.list (l.set z.toNat ((l.getD z.toNat []).set c (den R x))):=by
 simp only[den,he,hi,fK]
end Go.AM
namespace Go.AM
open Go
section
variable {P:Program}{G:Nat→Option (List AV)}{I:Nat→List DV→DV}
theorem RS.swap{O:Orc}{m:Env}{s:St}{a:Act}{w:World}(hr:@RS O plainR m G s a w){df:Option (List DefA)}{ds:List Deferred}(hd:DRo m df ds):@RS O plainR m G {s with df:=df} {a with defers:=ds} w:=
 @RS.mk O plainR _ _ _ _ _ hr.size hr.tm hd (fun _=>rfl) hr.h hr.g
def Wx(s:St):St:={s with df:=some []}
def stB(T:Tmpl)(n:Nat)(l:List Deferred):St:={T.st n with df:=some [.rest l]}
def G0:Run→Run
 |some (e,s)=>some (e,Wx s)
 |none=>none
def dfR:Run→Option (List DefA)
 |some (_,s)=>s.df
 |none=>none
def uU(Y:Tmpl)(k:Nat):Run→Bool
 |some (_,s)=>match HJ Y (Wx s) with
  |some (_,_,s2)=>match s2.h.t.get k with
   |some (.box true)=>true
   |_=>false
  |none=>false
 |none=>false
def Rk(Y:Tmpl)(l:List Deferred)(o:Run):Prop:=dfR o=some [.rest l]∨∃k,dfR o=some [.box k,.rest l]∧uU Y k o=true∧namesB Y.ob k=false
def GN(L:LoopSp)(run:List (SX×Bool)→St→Run)(l:List Deferred):List (SX×Bool)→RPln→Prop
 |facts,.ask e t f=>GN L run l ((e,true)::facts) t∧GN L run l ((e,false)::facts) f
 |facts,.know e b p=>GN L run l ((e,b)::facts) p
 |facts,.next τ=>Ea L τ (G0 (run facts (stB L.T L.n l)))=true∧Rk L.T l (run facts (stB L.T L.n l))
 |facts,.exit b τ=>Gl L b τ (G0 (run facts (stB L.T L.n l)))=true∧Rk (L.pick b).2.1 l (run facts (stB L.T L.n l))
 |_,.never=>True
def eG(run:List (SX×Bool)→St→Run)(L:LoopSp)(inv:Rho→Prop)(μ:Rho→Nat)(R:Rho):Prop:=
 ∃facts:List (SX×Bool),(∀p∈facts,den R p.1=.bool p.2)∧
  ((∃b τ,den R L.cnd=.bool b∧τ.map (den R)=(L.pick b).2.2.map (den R)∧∀l,Gl L b τ (G0 (run facts (stB L.T L.n l)))=true∧Rk (L.pick b).2.1 l (run facts (stB L.T L.n l)))∨
   (∃τ,inv (R.sub τ)∧μ (R.sub τ)<μ R∧den (R.sub τ) L.cnd=den R L.cnd∧(∀b,den R L.cnd=.bool b→(L.pick b).2.2.map (den (R.sub τ))=(L.pick b).2.2.map (den R))∧
    ∀l,Ea L τ (G0 (run facts (stB L.T L.n l)))=true∧Rk L.T l (run facts (stB L.T L.n l))))
theorem KX{L:LoopSp}{run:List (SX×Bool)→St→Run}{inv:Rho→Prop}{μ:Rho→Nat}{R:Rho}:∀{p:RPln} {facts:List (SX×Bool)},(∀q∈facts,den R q.1=.bool q.2)→(∀l,GN L run l facts p)→BE L inv μ R p→eG run L inv μ R
 |.ask e t f,facts,hf,hc,hg=>by
  obtain⟨⟨b,hb⟩,h1,h2⟩:=hg;cases b with
  |true=>exact KX (facts:=(e,true)::facts) (fun q hq=>by rcases ACU.1 hq with rfl|hq;exact hb;exact hf q hq) (fun l=>(hc l).1) (h1 hb)
  |false=>exact KX (facts:=(e,false)::facts) (fun q hq=>by rcases ACU.1 hq with rfl|hq;exact hb;exact hf q hq) (fun l=>(hc l).2) (h2 hb)
 |.know e b p,facts,hf,hc,hg=>KX (facts:=(e,b)::facts) (fun q hq=>by rcases ACU.1 hq with rfl|hq;exact hg.1;exact hf q hq) hc hg.2
 |.next τ,facts,hf,hc,hg=>⟨facts,hf,.inr ⟨τ,hg.1,hg.2.1,hg.2.2.1,hg.2.2.2,hc⟩⟩
 |.exit b τ,facts,hf,hc,hg=>⟨facts,hf,.inl ⟨b,τ,hg.1,hg.2,hc⟩⟩
 |.never,_,_,_,hg=>hg.elim
structure Boxes (m:Env) (n0:Nat) (Ds:List Nat):Prop where
 nd:Ds.Nodup
 lo:∀D∈Ds,n0≤D
 fx:∀D∈Ds,m.F D=some (.deferred (some []))
def marks(Ds:List Nat):List Deferred:=Ds.map fun D=>{target:=.collected D,args:=#[]}
def Held(m:Env)(n0:Nat):Prop:=∀b,b<n0→m.E b≠none∨m.F b≠none
theorem Held.mono{m m':Env}{n0:Nat}(h:Held m n0)(hE:∀b o,m.E b=some o→m'.E b=some o)(hF:∀b o,m.F b=some o→m'.F b=some o):Held m' n0:=by
 intro b hb;rcases h b hb with h1|h1
 ·obtain⟨o,ho⟩:=Option.ne_none_iff_exists'.1 h1;exact .inl (by rw[hE b o ho];simp)
 ·obtain⟨o,ho⟩:=Option.ne_none_iff_exists'.1 h1;exact .inr (by rw[hF b o ho];simp)
theorem Vw{O:Orc}{m m1:Env}{s1 s2:St}{a1:Act}{w1:World}{T Y:Tmpl}{ω:List Nat}{τ:List SX}{n0:Nat}{Ds:List Nat}{e:Ex}(hG:BO G)(hI:m.R.I=I)(hr1:@RS O plainR m1 G s1 a1 w1)(hle:m.le m1)
  (hcov:∀id,namesB T.ob id=true→namesB Y.ob id=true) (hh:HJ Y (Wx s1)=some (ω,τ,s2)) (hmt:Gu Y ω τ s2=true) (ht:Rk Y (marks Ds) (some (e,s1))) (hB:Boxes m n0 Ds) (hH:Held m n0):
  ∃m' Ds',m.lle (namesB T.ob) m'∧m'.R=m.R.sub τ∧(∀id,m'.dom id→namesB Y.ob id=true∨CX Y.ow id=true)∧(∀id,¬m'.res id)∧@RS (Bf I) plainR m' G (stB Y s2.n (marks Ds')) a1 w1∧Boxes m' n0 Ds'∧Held m' n0:=by
 have hr1':@RS O plainR m1 G (Wx s1) {a1 with defers:=[]} w1:=hr1.swap (df:=some []) (ds:=[]) rfl
 obtain⟨m2,hle2,hr2⟩:=C5 hr1' hh;have hm:=Dr hmt
 have hRe:m2.R=m.R:=hle2.R.trans hle.R
 have fok:@FactsOK (Bf I) (m2.R.sub τ):=by
  have:=Dp (m2.R.sub τ)
  rw[show (m2.R.sub τ).I=I from by rw[hRe];exact hI]at this
  exact this
 have hin:=@RS.into O G m2 s2 _ w1 _ τ ω (fun _=>none) I hG hr2 hm fok
 have hl2:=Fi (R':=m2.R.sub τ) hr2 hm (hle.trans hle2) hcov
 have hH':Held (m2.inner (m2.R.sub τ) Y ω w1) n0:=hH.mono hl2.E hl2.F
 have hB0:∀D∈Ds,(m2.inner (m2.R.sub τ) Y ω w1).F D=some (.deferred (some [])):=fun D hD=>hl2.F D _ (hB.fx D hD)
 have hlm:=hle.trans hle2
 have hd:=hr1.defers
 rcases ht with ht|⟨k,ht,hk,hnk⟩
 ·rw[show s1.df=some [.rest (marks Ds)] from ht]at hd;refine⟨_,Ds,hl2,by show m2.R.sub τ=_;rw[hRe],fun _ h=>h,fun _ h=>h,?_,⟨hB.nd,hB.lo,hB0⟩,hH'⟩
  have:=hin.swap (df:=some [.rest (marks Ds)]) (ds:=a1.defers) hd
  exact this
 ·rw[show s1.df=some [.box k,.rest (marks Ds)] from ht]at hd;simp only[DRo,DRs,DR]at hd;obtain⟨y,ys,hd1,⟨hdom,rfl⟩,zs,rfl,rfl⟩:=hd;simp only[uU,hh]at hk;have hobj:s2.h.t.get k=some (.box true):=by
   split at hk
   ·assumption
   ·cases hk
  have hmu:m2.mu k=m1.mu k:=hle2.mu k hdom
  obtain⟨q1,q2,q3⟩:=hr2.h.obj k _ hobj;have q3:w1.heap[(m2.mu k).1]? =some (.deferred (some [])):=q3
  have qF:(m2.inner (m2.R.sub τ) Y ω w1).F (m2.mu k).1=some (.deferred (some [])):=by
   simp only[Env.inner];rw[if_pos,q3];refine⟨q2.1,?_,?_⟩
   ·rintro⟨id,hid,he⟩;obtain⟨_,c,_,k1,hmo⟩:=GV hm hid;have hlv:=EH hmo (m2.mu id)
    have:=hr2.h.injL id k c _ k1 hobj hlv trivial he
    rw[this,hnk]at hid;cases hid
   ·rintro⟨i,j,hj,hc,he⟩;obtain⟨o,_,_,e',h3,_⟩:=Hn hm.ow hj;have:=hr2.h.injL j k _ _ h3 hobj hc trivial he
    rw[this,hobj]at h3;cases h3
  refine⟨_,(m2.mu k).1::Ds,hl2,by show m2.R.sub τ=_;rw[hRe],fun _ h=>h,fun _ h=>h,?_,⟨?_,?_,?_⟩,hH'⟩
  ·have:=hin.swap (df:=some [.rest (marks ((m2.mu k).1::Ds))]) (ds:=a1.defers) (by
    rw[hd1,←hmu];exact⟨[],rfl,rfl⟩)
   exact this
  ·refine List.nodup_cons.2 ⟨fun hD=>?_,hB.nd⟩
   have:=hlm.F _ _ (hB.fx _ hD)
   rw[q2.2]at this;cases this
  ·intro D hD;rcases ACU.1 hD with rfl|hD
   ·refine Nat.le_of_not_lt fun hlt=>?_
    rcases hH.mono hlm.E hlm.F _ hlt with h|h
    ·exact h q2.1
    ·exact h q2.2
   ·exact hB.lo D hD
  ·intro D hD;rcases ACU.1 hD with rfl|hD
   ·exact qF
   ·exact hB0 D hD
variable {spec:Orc→FuncId→Option (List AV→AHeap→Out)}{lps:Nat→List LoopSp}
theorem eH(hm:P.follows .mixedOrders=true)(hN:∀(f:FuncId) (fn:Func),P.funcs[f]? =some fn→(fn.name== "runtime.NumGoroutine")=false)(hsp:∀O:Orc,O.I=I→@Br O P G (spec O))(hG:BO G)(n:Nat){B:Code}{L:LoopSp}
  {sub:FuncId→List (Nat→List LoopSp)} (hs:HK P G I sub) (hl:Cm P G I lps B) (hok:(L.yes.2.1.ok L.T L.n&&L.no.2.1.ok L.T L.n)=true) (inv:Rho→Prop) (μ:Rho→Nat)
  (step:∀R,R.I=I→inv R→eG (fun facts s=>@CC (mkO facts I) P G (spec (mkO facts I)) n sub lps B s) L inv μ R) (n0:Nat):
  ∀(N:Nat) (m:Env) (Ds:List Nat) (a:Act) (w:World) (Q:Exit→Act→World→Prop),inv m.R→μ m.R<N→@RS (Bf I) plainR m G (stB L.T L.n (marks Ds)) a w→Boxes m n0 Ds→Held m n0→∀b,den m.R L.cnd=.bool b→
   (∀m' Ds' a' w',m.lle (namesB L.T.ob) m'→m'.R=m.R.sub (L.pick b).2.2→@RS (Bf I) plainR m' G (stB (L.pick b).2.1 L.n (marks Ds')) a' w'→Boxes m' n0 Ds'→Held m' n0→Q (C6 (L.pick b).1) a' w')→Code.rounds P B Q N a w:=by
 have hok':∀b,(L.pick b).2.1.ok L.T L.n=true:=by
  simp only[ACH]at hok;intro b;cases b
  ·exact hok.2
  ·exact hok.1
 intro N
 induction N with
 |zero=>intro m Ds a w Q _ h;omega
 |succ N ih=>
  intro m Ds a w Q hinv hμ hr hB hH b hb hQ;rw[rounds_succ];have hRI:m.R.I=I:=by obtain⟨_,_,_,_,_,_,y,_⟩:=hr;exact y
  obtain⟨facts,hf,hcase⟩:=step m.R hRI hinv;obtain⟨z1,z2,z3,zr,z4,z5,_⟩:=hr;have hr2:@RS (mkO facts I) plainR m G (stB L.T L.n (marks Ds)) a w:=@RS.mk (mkO facts I) plainR _ _ _ _ _ z1 z2 z3 zr z4 (@GOK.mk (mkO facts I) _ _ z5 (HP hRI hf))
  rcases hcase with ⟨b',τ,hb',hden,hleaf⟩|⟨τ,hinv',hμ',hc,hxs,hleaf⟩
  ·rw[hb]at hb';cases hb';obtain⟨h1,h2⟩:=hleaf (marks Ds);cases hrun:@CC (mkO facts I) P G (spec (mkO facts I)) n sub lps B (stB L.T L.n (marks Ds)) with
   |none=>
    simp only[hrun,G0,Gl]at h1;cases h1
   |some p=>
    obtain⟨e,s1⟩:=p;simp only[hrun,G0,Gl,ACH]at h1;simp only[hrun]at h2;obtain⟨he,hne⟩:=UW h1.1;obtain⟨ω,s2,hh,hx⟩:=Dx h1.2;simp only[ACH,ACY]at hx;refine @DX (mkO facts I) P G (spec (mkO facts I)) lps hm hN (hsp _ rfl) hG n sub hs B hl m _ s1 e a w _ hr2 hrun ?_
    intro m1 a1 w1 hle hr1;have hcov:∀id,namesB L.T.ob id=true→namesB (L.pick b).2.1.ob id=true:=fun id hid=>by
     obtain⟨b0,h0⟩:=C4.1 hid;have:=hok' b
     simp only[Tmpl.ok,ACH]at this;exact E8 this.1.2 h0
    obtain⟨m',Ds',g1,g2,_,_,g3,g4,g5⟩:=Vw (e:=e) (T:=L.T) hG hRI hr1 hle hcov hh hx.2 h2 hB hH;rw[hx.1]at g3;have hgo:Q (C6 e) a1 w1:=by
     rw[←he];refine hQ m' Ds' a1 w1 g1 ?_ g3 g4 g5
     rw[g2];unfold Rho.sub;rw[hden]
    cases e with
    |normal=>exact absurd he hne
    |exit id=>exact hgo
    |ret=>exact hgo
    |goto l=>exact hgo
  ·obtain⟨h1,h2⟩:=hleaf (marks Ds);cases hrun:@CC (mkO facts I) P G (spec (mkO facts I)) n sub lps B (stB L.T L.n (marks Ds)) with
   |none=>
    simp only[hrun,G0,Ea]at h1;cases h1
   |some p=>
    obtain⟨e,s1⟩:=p;simp only[hrun]at h2;cases e with
    |normal=>
     simp only[hrun,G0,Ea]at h1;obtain⟨ω,s2,hh,hx⟩:=Dx h1;simp only[ACH,ACY]at hx;refine @DX (mkO facts I) P G (spec (mkO facts I)) lps hm hN (hsp _ rfl) hG n sub hs B hl m _ s1 .normal a w _ hr2 hrun ?_
     intro m1 a1 w1 hle hr1;show Code.rounds P B Q N a1 w1
     obtain⟨m',Ds',g1,g2,_,_,g3,g4,g5⟩:=Vw (e:=.normal) (T:=L.T) hG hRI hr1 hle (fun _ h=>h) hh hx.2 h2 hB hH
     rw[hx.1]at g3;refine ih m' Ds' a1 w1 Q (by rw[g2];exact hinv') (by rw[g2];omega) g3 g4 g5 b (by rw[g2,hc,hb]) ?_
     intro m2 Ds2 a2 w2 k1 k2 k3 k4 k5;refine hQ m2 Ds2 a2 w2 (g1.trans k1) ?_ k3 k4 k5
     rw[k2,g2];have:=hxs b hb
     unfold Rho.sub at this⊢;rw[this];rfl
    |exit id=>simp only[hrun,G0,Ea]at h1;cases h1
    |ret=>simp only[hrun,G0,Ea]at h1;cases h1
    |goto l=>simp only[hrun,G0,Ea]at h1;cases h1
theorem QA{fn:Func}{tmps:Array Value}{R:Ending→World→Prop}:∀(Ds:List Nat) (w:World),Ds.Nodup→(∀D∈Ds,w.heap[D]? =some (.deferred (some [])))→
  (∀w',(∀b,b∉Ds→w'.heap[b]? =w.heap[b]?)→ioOf w'=ioOf w→∃v,(results fn tmps).run P w'=.ok v w'∧R (.returned v) w')→LeavesInM Fence.wide 0 P fn tmps R (marks Ds) .returning w
 | [],w,_,_,fin=>fin w (fun _ _=>rfl) rfl
 |D::Ds,w,hn,hD,fin=>by
  obtain⟨hn1,hn2⟩:=List.nodup_cons.1 hn;refine⟨by simp,.inl ⟨D,_,rfl,run_takeDeferred (hD D (by simp)),?_⟩⟩
  refine QA Ds _ hn2 (fun D' h'=>?_) fun w' h1 h2=>fin w' (fun b hb=>?_) (h2.trans rfl)
  ·rw[World.putObj_heap_other (show D'≠D from fun e=>hn1 (by rw[←e];exact h'))]
   exact hD D' (ACu _ h')
  ·simp only[ACU,not_or]at hb;rw[h1 b hb.2,World.putObj_heap_other hb.1]
theorem HR.unheld{m:Env}{h:AHeap}{w w':World}(hr:HR m h w){Ds:List Nat}(hD:∀D∈Ds,∃x,m.F D=some x)(hw:∀b,b∉Ds→w'.heap[b]? =w.heap[b]?)(hio:ioOf w'=ioOf w):
  HR {m with F:=fun b=>if b∈Ds then none else m.F b} h w':=by
 have hE:∀b o,m.E b=some o→b∉Ds:=fun b o hb hd=>by
  obtain⟨x,hx⟩:=hD b hd;rw[hr.EF b x hx]at hb;cases hb
 refine⟨hr.next,hr.lim,hr.res,fun b x hb=>?_,fun b o hb=>?_,fun b o hb=>?_,fun id o ho=>?_,hr.injL,hio.trans hr.io⟩
 ·simp only at hb;split at hb
  ·cases hb
  ·exact hr.EF b x hb
 ·rw[hw b (hE b o hb)];exact hr.E b o hb
 ·simp only at hb;split at hb
  ·cases hb
  ·rename_i hn;rw[hw b hn];exact hr.F b o hb
 ·obtain⟨g1,g2,g3⟩:=hr.objL id o ho;refine⟨g1,fun hl=>⟨(g2 hl).1,?_⟩,OR.wmove (m:=m) ⟨fun _ h=>h,fun _ _=>rfl,fun _ _ h=>h,rfl,rfl⟩ (fun hl=>hw _ fun hd=>?_) g3⟩
  ·simp only;split
   ·rfl
   ·exact (g2 hl).2
  ·obtain⟨x,hx⟩:=hD _ hd;rw[(g2 hl).2]at hx;cases hx
def KY(o:Run)(k:St→Run):Run:=match o with
 |some (.normal,s)=>k s
 |_=>none
theorem Rl{o:Run}{k:St→Run}{r:Ex×St}(h:KY o k=some r):∃s,o=some (.normal,s)∧k s=some r:=by
 unfold KY at h;split at h
 ·rename_i s;exact⟨s,rfl,h⟩
 ·cases h
def Wy(L:LoopSp)(τ:List SX):Run→Bool
 |some (.normal,s)=>HL L.T L.n τ s
 |_=>false
def T9(P:Program)(rs:Sig)(ress:List ResultVar)(r:List (List SX))(o:Run):Bool:=
 match o with
 |some (.normal,s)|some (.ret,s)=>match Cq P s.tm s.h ress with
  |some [x,y]=>match JA rs (.tup [x,y]) with
   |some q=>G7 q r
   |none=>false
  |_=>false
 |_=>false
def Hg(kb:Nat)(L:LoopSp)(runZ:St→Run)(b:Bool)(l:List Deferred):Run:=
 match (L.pick b).1 with
 |.exit i=>match Nat.beq i kb with
  |true=>runZ (stB (L.pick b).2.1 L.n l)
  |false=>none
 |.ret=>some (.ret,stB (L.pick b).2.1 L.n l)
 |_=>none
def Xe(sg:Sig)(fn:Func):St:={tm:=Ju 0 (D5 0 sg) .nil,n:=Nat.max (D5 0 sg).length fn.ntmps,h:=Ef}
theorem uV(hm:P.follows .mixedOrders=true)(hN:∀(f:FuncId) (fn:Func),P.funcs[f]? =some fn→(fn.name== "runtime.NumGoroutine")=false)(hsp:∀O:Orc,O.I=I→@Br O P G (spec O))(hG:BO G)(n:Nat)
  {sub:FuncId→List (Nat→List LoopSp)} (hs:HK P G I sub) {f:FuncId} {fn:Func} {A1 A2 A3 B Z:Code} {kb:Nat} {L:LoopSp} {sg rs:Sig} {pre:List DV→Prop} {F:List DV→List (List DV)} (hb:CQ P f) (hf:P.funcs[f]? =some fn)
  (hbody:fn.body=some (.seq A1 (.seq A2 (.seq (.seq A3 (.block kb (.loop B))) Z)))) (hok:(L.yes.2.1.ok L.T L.n&&L.no.2.1.ok L.T L.n)=true) (inv:Rho→Prop) (μ:Rho→Nat)
  (step:∀R,R.I=I→inv R→eG (fun facts s=>@CC (mkO facts I) P G (spec (mkO facts I)) n sub (fun _=>[]) B s) L inv μ R) (τ0:List SX)
  (hA:Wy L τ0 (KY (KY (@CC (mkO [] I) P G (spec (mkO [] I)) n sub (fun _=>[]) A1 (Xe sg fn)) (@CC (mkO [] I) P G (spec (mkO [] I)) n sub (fun _=>[]) A2)) (@CC (mkO [] I) P G (spec (mkO [] I)) n sub (fun _=>[]) A3))=true)
  (rr:Bool→List (List SX)) (hZ:∀b l,T9 P rs fn.results.toList (rr b) (Hg kb L (@CC (mkO [] I) P G (spec (mkO [] I)) n sub (fun _=>[]) Z) b l)=true∧dfR (Hg kb L (@CC (mkO [] I) P G (spec (mkO [] I)) n sub (fun _=>[]) Z) b l)=some [.rest l])
  (hgoal:∀(E:Nat→Option Obj) (ds:List (List DV)) (vs:List Value),RepArgs (Al E) sg ds vs→pre ds.flatten→inv ((AA I ds.flatten).sub τ0)∧∃b,den ((AA I ds.flatten).sub τ0) L.cnd=.bool b∧F ds.flatten=(rr b).map (·.map (den (((AA I ds.flatten).sub τ0).sub (L.pick b).2.2)))):Am P G f sg rs pre F:=by
 refine⟨hb,fun E ds vs w hE hargs hpre hglob=>?_⟩
 letI:Orc:=mkO [] I
 obtain⟨hinv,b,hcnd,hF⟩:=hgoal E ds vs.toList hargs hpre;have nol:∀c,Cm P G I (fun _=>[]) c:=fun c B _ L h=>by simp at h
 have hlen:∀i d,ds.flatten[i]? =some d→(AA I ds.flatten).ρ i=d:=fun i d hi=>by simp[AA,ACI,hi]
 have hV:VL (baseE (AA I ds.flatten) E w) (D5 0 sg) vs.toList:=MZ (l:=ds.flatten) (m:=baseE (AA I ds.flatten) E w) hlen (RepArgs.emono (m:=Al E) (m':=baseE (AA I ds.flatten) E w) (fun _ _ e=>e) hargs) (fun j d hj=>by rw[ACk];exact hj)
 have key:∀(cs:List AV) (g o:Nat),(∀c∈cs,∃u,c=AV.sc u)→VC (Al E) g o cs→VC (baseE (AA I ds.flatten) E w) g o cs:=by
  intro cs
  induction cs with
  |nil=>intro g o _ _;simp[VC]
  |cons c cs ih=>
   intro g o hp hv;simp only[VC]at hv⊢;obtain⟨⟨v,h1,h2⟩,h3⟩:=hv;obtain⟨u,rfl⟩:=hp c (by simp)
   exact⟨⟨v,h1,by simpa[V]using h2⟩,ih _ _ (fun c hc=>hp c (ACu _ hc)) h3⟩
 have hg0:@GOK (mkO [] I) (baseE (AA I ds.flatten) E w) G:=@GOK.mk (mkO [] I) _ _ (fun g cs e=>key cs g 0 (hG g cs e) (hglob g cs e)) (HP rfl (by simp))
 have hrs:=@Qf (mkO [] I) G plainR _ fn _ vs Ef w rfl hV (HR.baseE hE) hg0
 have hheld:Held (baseE (AA I ds.flatten) E w) w.heap.size:=by
  intro b hb;cases hEb:E b with
  |some o=>exact .inl (by show E b≠none;rw[hEb];simp)
  |none=>exact .inr (by simp only[baseE,hEb,ACq hb];simp)
 have fin:∀(mf:Env) (sf:St) (af:Act) (wf:World) (Ds:List Nat),(∀b o,E b=some o→mf.E b=some o)→(∀b o,(baseE (AA I ds.flatten) E w).F b=some o→mf.F b=some o)→mf.io=ioOf w→
   mf.R=((AA I ds.flatten).sub τ0).sub (L.pick b).2.2→@RS (mkO [] I) plainR mf G sf af wf→sf.df=some [.rest (marks Ds)]→Boxes mf w.heap.size Ds→
   (∃x y,Cq P sf.tm sf.h fn.results.toList=some [x,y]∧JA rs (.tup [x,y])=some (rr b))→
   LeavesInM Fence.wide 0 P fn af.tmps (fun e w'=>∃v E',e=.returned v∧Grows E E' w w'∧RepRes (Al E') rs (F ds.flatten) v) af.defers .returning wf:=by
  intro mf sf af wf Ds kE kF kio kR hr hdf hB hres;obtain⟨x,y,hx,hy⟩:=hres;have hd:=hr.defers
  rw[hdf]at hd;obtain⟨ys,hd,rfl⟩:=hd;rw[ADg]at hd;rw[hd];refine QA Ds wf hB.nd (fun D hD=>hr.h.F D _ (hB.fx D hD)) fun w' hw hio=>?_
  have hh:=hr.h.unheld (Ds:=Ds) (fun D hD=>⟨_,hB.fx D hD⟩) hw hio
  let mg:Env:={mf with F:=fun b=>if b∈Ds then none else mf.F b}
  have hwle:mf.wle mg:=⟨fun _ h=>h,fun _ _=>rfl,fun _ _ h=>h,rfl,rfl⟩
  obtain⟨us,g1,g2⟩:=EG (P:=P) (m:=mg) (tmps:=af.tmps) (tm:=sf.tm) (fun t=>V.wmono hwle _ _ (hr.tm t)) hh _ _ hx
  have g1':=g1
  simp only[VL]at g1;obtain⟨u1,us1,rfl,_,u2,us2,rfl,_,rfl⟩:=g1;refine⟨.tuple #[u1,u2],by rw[H6 g2];rfl,.tuple #[u1,u2],mf.E,rfl,⟨kE,fun b o e=>⟨hh.E b o e,?_⟩,fun b hb=>?_,hio.trans (hr.h.io.trans kio)⟩,?_⟩
  ·by_cases hb:b<w.heap.size
   ·left
    cases hEb:E b with
    |some o'=>rw[←kE b o' hEb,e]
    |none=>
     have:(baseE (AA I ds.flatten) E w).F b=some w.heap[b]:=by simp only[baseE,hEb,ACq hb]
     have:=hr.h.EF b _ (kF b _ this)
     rw[this]at e;cases e
   ·exact .inr (by omega)
  ·have e1:w.heap[b]? =some w.heap[b]:=ACq hb
   cases hEb:E b with
   |some o=>rw[hh.E b o (kE b o hEb),hE b o hEb]
   |none=>
    have:(baseE (AA I ds.flatten) E w).F b=some w.heap[b]:=by simp only[baseE,hEb,e1]
    rw[hw b (fun hD=>by have:=hB.lo b hD;omega),hr.h.F b _ (kF b _ this),e1]
  ·have h1:=SE hy (v:=.tuple #[u1,u2]) (m:=mg) (by simp only[V];exact⟨_,rfl,g1'⟩)
   have h2:RepRes mg rs (F ds.flatten) (.tuple #[u1,u2]):=by rw[hF,←kR];exact h1
   unfold RepRes at h2⊢;split at h2
   ·obtain⟨d,e1,h3⟩:=h2;exact⟨d,e1,RepOne.emono (m:=mg) (m':=Al mf.E) (fun _ _ e=>e) h3⟩
   ·obtain⟨xs,e1,h3⟩:=h2;exact⟨xs,e1,RepArgs.emono (m:=mg) (m':=Al mf.E) (fun _ _ e=>e) h3⟩
 refine callsIn_wide.1 (callsIn_of_wp_marks (n:=0) hf hbody trivial (wpIn_wide.2 ?_))
 cases hA3:KY (KY (@CC (mkO [] I) P G (spec (mkO [] I)) n sub (fun _=>[]) A1 (Xe sg fn)) (@CC (mkO [] I) P G (spec (mkO [] I)) n sub (fun _=>[]) A2)) (@CC (mkO [] I) P G (spec (mkO [] I)) n sub (fun _=>[]) A3) with
 |none=>rw[hA3]at hA;cases hA
 |some r=>
 rw[hA3]at hA;obtain⟨e,s3⟩:=r;have he:e=.normal:=by
  cases e<;>first|rfl|(simp only[Wy]at hA;cases hA)
 subst he;simp only[Wy]at hA;obtain⟨s2,hA2,hA3⟩:=Rl hA3;obtain⟨s1,hA1,hA2⟩:=Rl hA2;refine wp_seq (@DX (mkO [] I) P G (spec (mkO [] I)) (fun _=>[]) hm hN (hsp _ rfl) hG n sub hs A1 (nol _) _ _ s1 .normal _ w _ hrs hA1 fun m1 a1 w1 hle1 hr1=>?_)
 refine wp_seq (@DX (mkO [] I) P G (spec (mkO [] I)) (fun _=>[]) hm hN (hsp _ rfl) hG n sub hs A2 (nol _) _ _ s2 .normal _ w1 _ hr1 hA2 fun m2 a2 w2 hle2 hr2=>?_)
 refine wp_seq (wp_seq (@DX (mkO [] I) P G (spec (mkO [] I)) (fun _=>[]) hm hN (hsp _ rfl) hG n sub hs A3 (nol _) _ _ s3 .normal _ w2 _ hr2 hA3 fun m3 a3 w3 hle3 hr3=>?_))
 refine wp_block ?_
 obtain⟨ω,s4,hh,hx⟩:=Dx hA;simp only[ACH,ACY]at hx;obtain⟨m4,hle4,hr4⟩:=C5 hr3 hh;have hmt:=Dr (O:=mkO [] I) hx.2
 have hle:=((hle1.trans hle2).trans hle3).trans hle4
 have hRe:m4.R=AA I ds.flatten:=hle.R
 have fok:@FactsOK (Bf I) (m4.R.sub τ0):=by
  have:=Dp (m4.R.sub τ0)
  rw[show (m4.R.sub τ0).I=I from by rw[hRe];rfl]at this
  exact this
 have hin:=@RS.into (mkO [] I) G m4 s4 _ w3 _ τ0 ω (fun _=>none) I hG hr4 hmt fok
 have hl2:=Fi (T:=L.T) (R':=m4.R.sub τ0) hr4 hmt hle (fun _ h=>h)
 rw[hx.1]at hin;have hRs:(m4.inner (m4.R.sub τ0) L.T ω w3).R=(AA I ds.flatten).sub τ0:=by show m4.R.sub τ0=_;rw[hRe]
 have hd0:a3.defers=[]:=hin.defers
 have hin':@RS (Bf I) plainR (m4.inner (m4.R.sub τ0) L.T ω w3) G (stB L.T L.n (marks [])) a3 w3:=by
  have:=hin.swap (df:=some [.rest (marks [])]) (ds:=a3.defers) (by rw[hd0];exact⟨[],rfl,rfl⟩)
  exact this
 refine wp_loop_rounds _ (eH hm hN hsp hG n hs (nol _) hok inv μ step w.heap.size (μ ((AA I ds.flatten).sub τ0)+1) _ [] a3 w3 _ (by rw[hRs];exact hinv) (by rw[hRs];exact ADk _) hin' ⟨List.nodup_nil,by simp,by simp⟩ (hheld.mono hl2.E hl2.F) b (by rw[hRs];exact hcnd) ?_)
 intro m' Ds' a' w' k1 k2 k3 k4 k5;have kE:∀b o,E b=some o→m'.E b=some o:=fun b o e=>k1.E b o (hl2.E b o e)
 have kF:∀b o,(baseE (AA I ds.flatten) E w).F b=some o→m'.F b=some o:=fun b o e=>k1.F b o (hl2.F b o e)
 have kio:m'.io=ioOf w:=k1.io.trans hl2.io
 have kR:m'.R=((AA I ds.flatten).sub τ0).sub (L.pick b).2.2:=by rw[k2,hRs]
 have k3':@RS (mkO [] I) plainR m' G (stB (L.pick b).2.1 L.n (marks Ds')) a' w':=by
  obtain⟨z1,z2,z3,zr,z4,z5,z6,_⟩:=k3;exact @RS.mk (mkO [] I) plainR _ _ _ _ _ z1 z2 z3 zr z4 (@GOK.mk (mkO [] I) _ _ z5 (HP z6 (by simp)))
 obtain⟨q1,q2⟩:=hZ b (marks Ds');have hend:∀(e:Ex) (s:St),Hg kb L (@CC (mkO [] I) P G (spec (mkO [] I)) n sub (fun _=>[]) Z) b (marks Ds')=some (e,s)→(e=.normal∨e=.ret)∧s.df=some [.rest (marks Ds')]∧∃x y,Cq P s.tm s.h fn.results.toList=some [x,y]∧JA rs (.tup [x,y])=some (rr b):=by
  intro e s he;rw[he]at q1 q2;have go:∀s:St,(match Cq P s.tm s.h fn.results.toList with
    |some [x,y]=>match JA rs (.tup [x,y]) with
     |some q=>G7 q (rr b)
     |none=>false
    |_=>false)=true→∃x y,Cq P s.tm s.h fn.results.toList=some [x,y]∧JA rs (.tup [x,y])=some (rr b):=by
   intro s h;split at h
   ·rename_i x y hx;split at h
    ·rename_i q hq;exact⟨x,y,hx,by rw[hq,Kg h]⟩
    ·cases h
   ·cases h
  cases e with
  |normal=>exact⟨.inl rfl,q2,go s q1⟩
  |ret=>exact⟨.inr rfl,q2,go s q1⟩
  |exit i=>cases q1
  |goto l=>cases q1
 cases hp:(L.pick b).1 with
 |normal=>simp only[Hg,hp,T9]at q1;cases q1
 |goto l=>simp only[Hg,hp,T9]at q1;cases q1
 |ret=>
  have hfe:Hg kb L (@CC (mkO [] I) P G (spec (mkO [] I)) n sub (fun _=>[]) Z) b (marks Ds')=some (.ret,stB (L.pick b).2.1 L.n (marks Ds')):=by simp only[Hg,hp]
  obtain⟨_,d1,d2⟩:=hend _ _ hfe;exact fin m' _ a' w' Ds' kE kF kio kR k3' d1 k4 d2
 |exit i=>
  cases hi:Nat.beq i kb with
  |false=>simp only[Hg,hp,hi,T9]at q1;cases q1
  |true=>
   obtain rfl:i=kb:=ADI hi;cases hz:@CC (mkO [] I) P G (spec (mkO [] I)) n sub (fun _=>[]) Z (stB (L.pick b).2.1 L.n (marks Ds')) with
   |none=>simp only[Hg,hp,hi,hz,T9]at q1;cases q1
   |some r=>
    obtain⟨e,s5⟩:=r;have hfe:Hg i L (@CC (mkO [] I) P G (spec (mkO [] I)) n sub (fun _=>[]) Z) b (marks Ds')=some (e,s5):=by simp only[Hg,hp,hi,hz]
    obtain⟨d0,d1,d2⟩:=hend _ _ hfe;have hgo:Z.wp P (bodyPostM Fence.wide 0 P fn (fun e w'=>∃v E',e=.returned v∧Grows E E' w w'∧RepRes (Al E') rs (F ds.flatten) v)) a' w':=by
     refine @DX (mkO [] I) P G (spec (mkO [] I)) (fun _=>[]) hm hN (hsp _ rfl) hG n sub hs Z (nol _) _ _ s5 e _ w' _ k3' hz fun m5 a5 w5 hle5 hr5=>?_
     have:=fin m5 s5 a5 w5 Ds' (fun b o e=>hle5.E b o (kE b o e)) (fun b o e=>hle5.F b o (kF b o e)) (hle5.io.trans kio) (hle5.R.trans kR) hr5 d1 ⟨k4.nd,k4.lo,fun D hD=>hle5.F _ _ (k4.fx D hD)⟩ d2
     rcases d0 with rfl|rfl
     ·exact this
     ·exact this
    simp only[C6,Exit.inBlock,if_true];exact hgo
end
end Go.AM
namespace Go.AM
open Go
def OwnAt(E:Nat→Option Obj)(w:World)(el:TypeId)(ts:List Ty)(l:List (List DV))(b cap:Nat)(v:Value):Prop:=
 ∃a,v=.slice a l.length cap∧l.length≤cap∧cap≤maxLen∧(a=none→cap=0)∧
  (cap≠0→a=some ⟨b,0,none⟩∧E b=none∧(∀row∈l,row.length=ts.length)∧1≤ts.length∧∃c:Array Value,w.heap[b]? =some (.cells c el (0,0))∧cap*ts.length≤c.size∧
   ∀k,k<l.length*ts.length→∃u,c[k]? =some u∧Rep (Al E) (ts.getD (k%ts.length) .bool) (atD (.list l) (.int .i64 (k / ts.length:Nat)) (k%ts.length)) u)
theorem Rj{m:Env}{h:AHeap}{w:World}{id:Nat}{el:TypeId}{ts:List Ty}{f:SX}{v:Value}(hr:HR m h w)(hv:V m (.own id ts f) v)(hg:h.t.get id=some (.grow el ts f)):∃l,den m.R f=.list l∧OwnAt m.E w el ts l (m.mu id).1 (m.mu id).2 v:=by
 simp only[V]at hv;obtain⟨hd,l,a,d1,rfl,d2,d3,d4,d5⟩:=hv;obtain⟨_,hEF,hG⟩:=hr.objL id _ hg;refine⟨l,d1,a,rfl,d2,d3,d4,fun hp=>?_⟩
 obtain⟨hE,hF⟩:=hEF hp;rcases GR.own (show GR m (m.mu id) el ts f w from hG) (by assumption) with h0|⟨l',e1,e2,e3,e4,hB⟩
 ·exact absurd h0 hp
 rw[d1]at e1;cases e1;obtain⟨c,b1,b2,b3,b4⟩:=hB;refine⟨d5 hp,hE,e2,e4,c,b1,(b4 rfl).1,fun k hk=>?_⟩
 obtain⟨u,u1,u2⟩:=b3 k hk;refine⟨u,u1,?_⟩
 rw[CR e4 hk]at u2;simp only[V,den,d1]at u2;exact Rep.emono (m:=m) (m':=Al m.E) (fun _ _ h=>h) u2
theorem OwnAt.gr{m:Env}{w:World}{el:TypeId}{ts:List Ty}{l:List (List DV)}{b cap:Nat}{v:Value}{N:SX}{p:Nat×Nat}(h:OwnAt m.E w el ts l b cap v)(hN:den m.R N=.list l)(hp:p.2=cap)(hb:cap≠0→p.1=b):GR m p el ts N w:=by
 obtain⟨a,rfl,h1,h2,h3,h4⟩:=h
 by_cases h0:cap=0
 ·exact .inl (hp.trans h0)
 obtain⟨rfl,k1,k2,k3,c,k4,k5,k6⟩:=h4 h0;refine .inr (.inl ⟨l,hN,k2,by omega,k3,c,by rw[hb h0];exact k4,(AEB (ACx _ h1) k5),fun k hk=>?_,fun _=>⟨by rw[hp];exact k5,by omega,by rw[hp];exact ACx _ h1⟩⟩)
 have hk':k<l.length*ts.length:=hk
 obtain⟨u,u1,u2⟩:=k6 k hk';refine⟨u,u1,?_⟩
 rw[CR k3 hk'];simp only[V,den,hN];exact Rep.emono (m:=Al m.E) (m':=m) (fun _ _ e=>e) u2
theorem NX[O:Orc]{G:Nat→Option (List AV)}{m:Env}(hG:BO G)(hg:@GOK O m G):Lw G m.E:=by
 intro g cs e;have key:∀(cs:List AV) (o:Nat),(∀c∈cs,∃u,c=AV.sc u)→VC m g o cs→VC (Al m.E) g o cs:=by
  intro cs
  induction cs with
  |nil=>intro o _ _;simp[VC]
  |cons c cs ih=>
   intro o hp hv;simp only[VC]at hv⊢;obtain⟨⟨v,h1,h2⟩,h3⟩:=hv;obtain⟨u,rfl⟩:=hp c (by simp)
   exact⟨⟨v,h1,by simpa[V]using h2⟩,ih _ (fun c hc=>hp c (ACu _ hc)) h3⟩
 exact key cs 0 (hG g cs e) (hg.g g cs e)
structure OnlyB (b cap:Nat) (w w':World):Prop where
 old:∀k,k<w.heap.size→(cap≠0→k≠b)→w'.heap[k]? =w.heap[k]?
 io:ioOf w'=ioOf w
theorem HR.only{m:Env}{h:AHeap}{w w':World}(hr:HR m h w){id:Nat}{el:TypeId}{ts:List Ty}{f:SX}(hg:h.t.get id=some (.grow el ts f))(ho:OnlyB (m.mu id).1 (m.mu id).2 w w'){h2:AHeap}(hn:h2.next=h.next)(hl:h2.lim=h.lim){o2:Option AObj}
  (hs:∀i o,h2.t.get i=some o→(i=id∧o2=some o)∨(i≠id∧h.t.get i=some o)) (hlive:∀o,o2=some o→∃N,o=.grow el ts N) (h3:∀o,o2=some o→OR m (m.mu id) o w'):HR m h2 w':=by
 have hid:=hr.objL id _ hg
 have hne:∀k o,m.E k=some o→(m.mu id).2≠0→k≠(m.mu id).1:=fun k o hk hp e=>by
  have:=(hid.2.1 hp).1
  rw[←e,hk]at this;cases this
 have hnf:∀k o,m.F k=some o→(m.mu id).2≠0→k≠(m.mu id).1:=fun k o hk hp e=>by
  have:=(hid.2.1 hp).2
  rw[←e,hk]at this;cases this
 refine⟨fun i hd=>by rw[hn,hl];exact hr.next i hd,by rw[hn,hl];exact hr.lim,fun i hd=>by rw[hn,hl];exact hr.res i hd,hr.EF,fun k o hk=>?_,fun k o hk=>?_,fun i o hi=>?_,fun i j x y hx hy li lj e=>?_,ho.io.trans hr.io⟩
 ·rw[ho.old k (ACQ.1 (hr.E k o hk)).1 (hne k o hk)];exact hr.E k o hk
 ·rw[ho.old k (ACQ.1 (hr.F k o hk)).1 (hnf k o hk)];exact hr.F k o hk
 ·rcases hs i o hi with ⟨rfl,h5⟩|⟨h5,h6⟩
  ·obtain⟨N,rfl⟩:=hlive o h5;exact⟨hid.1,fun hl=>hid.2.1 hl,h3 _ h5⟩
  ·obtain⟨g1,g2,g3⟩:=hr.objL i o h6;exact⟨g1,g2,g3.wmove (Env.le.refl m).towle fun lo=>ho.old _ (g3.lt lo) fun hp e=>h5 (hr.injL i id _ _ h6 hg lo hp e)⟩
 ·have fx:∃x',h.t.get i=some x'∧live x' (m.mu i):=by
   rcases hs i x hx with ⟨rfl,h5⟩|⟨h5,h6⟩
   ·obtain⟨N,rfl⟩:=hlive x h5;exact⟨_,hg,li⟩
   ·exact⟨x,h6,li⟩
  have fy:∃y',h.t.get j=some y'∧live y' (m.mu j):=by
   rcases hs j y hy with ⟨rfl,h5⟩|⟨h5,h6⟩
   ·obtain⟨N,rfl⟩:=hlive y h5;exact⟨_,hg,lj⟩
   ·exact⟨y,h6,lj⟩
  obtain⟨x',a1,a2⟩:=fx;obtain⟨y',b1,b2⟩:=fy;exact hr.injL i j x' y' a1 b1 a2 b2 e
def dw(P:Program)(G:Nat→Option (List AV))(f:FuncId)(el:TypeId)(ts:List Ty)(sg:Sig)(pre:List DV→Prop)(F:List DV→List (List DV)):Prop:=
 CQ P f∧∀(E:Nat→Option Obj) (l:List (List DV)) (b cap:Nat) (v:Value) (ds:List (List DV)) (vs:Array Value) (w:World),(∀k o,E k=some o→w.heap[k]? =some o)→OwnAt E w el ts l b cap v→RepArgs (Al E) sg ds (vs.toList.drop 1)→vs[0]? =some v→pre (.list l::ds.flatten)→Lw G E→
  Calls P f vs w fun e w'=>∃r l',e=.returned r∧F (.list l::ds.flatten)=[[.list l']]∧l'.length=l.length∧OnlyB b cap w w'∧OwnAt E w' el ts l' b cap v
def Xb[O:Orc](el:TypeId)(ts:List Ty)(sg:Sig)(preS:List (SX×Bool))(fid:Nat)(args:List AV)(h:AHeap):Out:=
 match args with
 |.own id us e::rest=>match h.t.get id,DG sg rest with
  |some (.grow t vs f),some es=>match Nat.beq t el&&CJ.eqTys us ts&&CJ.eqTys vs ts&&eqU e f&&allKnown (f::es.flatten) preS with
   |true=>some (.dead,h.put id (.grow el ts (.fit f (.at (.app fid (f::es.flatten)) (.ki .i64 (.ofNat 0)) 0))))
   |false=>none
  |_,_=>none
 |_=>none
theorem iz[O:Orc]{P:Program}{G:Nat→Option (List AV)}{f:FuncId}{sg:Sig}{el:TypeId}{ts:List Ty}{preS:List (SX×Bool)}{F:List DV→List (List DV)}{fid:Nat}(hG:BO G)
  (hf:dw P G f el ts sg (fun ds=>∀p∈preS,den (AA O.I ds) p.1=.bool p.2) F) (hI:∀ds,O.I fid ds=.list (F ds))
  (hpre:preS.all (fun p=>AX (Nat.succ (Sig.len sg)) p.1)=true):
  BF P G (fun g args h=>if g=f then Xb el ts sg preS fid args h else none):=by
 intro g args h av h' hs;simp only at hs;split at hs<;>(try (cases hs;done))
 rename_i e;subst e;unfold Xb at hs;split at hs<;>(try (cases hs;done))
 rename_i id us e rest;split at hs<;>(try (cases hs;done))
 rename_i t vs f es hg he;split at hs<;>(try (cases hs;done))
 rename_i hk;simp only[ACJ,ACP]at hs;obtain⟨rfl,rfl⟩:=hs;simp only[ACH,ACY]at hk;obtain⟨⟨⟨⟨rfl,h2⟩,h3⟩,h4⟩,h5⟩:=hk;obtain rfl:=BS h2;obtain rfl:=BS h3;refine⟨hf.1,fun m xs w hv hr hgk=>?_⟩
 simp only[VL]at hv;obtain⟨v,us',hxs,hv0,hvr⟩:=hv;have hv1:=JK h4 hv0
 obtain⟨l,hl,hown⟩:=Rj hr hv1 hg;have hargs:=DQ he hvr
 have hfl:(es.map (·.map (den m.R))).flatten=es.flatten.map (den m.R):=by rw[AEI]
 have hlen:(es.map (·.map (den m.R))).flatten.length=Sig.len sg:=by
  rw[hfl,ACX];exact NO he
 refine (hf.2 m.E l _ _ v _ xs w hr.E hown (RepArgs.emono (m:=m) (m':=Al m.E) (fun _ _ e=>e) (by rw[hxs];exact hargs)) (by rw[←AEi,hxs];rfl) ?_ (NX hG hgk)).mono ?_
 ·intro p hp;rw[hfl,←hl];have:=Cs hgk.f h5 p hp
  rw[←this];refine Ar (n:=Nat.succ (Sig.len sg)) (fun i hi=>?_) hgk.f.1.symm p.1 (ACt.1 hpre p hp)
  rfl
 ·rintro e w' ⟨r,l',rfl,hF,hll,hon,hown'⟩;have hN:den m.R (.fit f (.at (.app fid (f::es.flatten)) (.ki .i64 (.ofNat 0)) 0))=.list l':=by
   have:den m.R (.app fid (f::es.flatten))=.list [[.list l']]:=by
    simp only[den,hgk.f.1];rw[hI,D8,ACO,hl,←hfl,hF]
   simp only[den]at this⊢;rw[this,hl];simp only[atD,fM,AC4,AC5,hll,ACZ];simp[hll]
  have hdead:V m .dead r:=by simp[V]
  refine⟨r,m,rfl,.refl m,hdead,hr.only (h2:=h.put id _) (o2:=some (.grow t vs (.fit f (.at (.app fid (f::es.flatten)) (.ki .i64 (.ofNat 0)) 0)))) hg hon rfl rfl (fun i o hi=>?_) (fun o ho=>⟨_,(ADn ho).symm⟩) (fun o ho=>?_)⟩
  ·simp only[AHeap.put,Tr.get_put]at hi
   by_cases e:id=i
   ·subst e;simp only[if_true]at hi;exact .inl ⟨rfl,hi⟩
   ·simp only[e,if_false]at hi;exact .inr ⟨Ne.symm e,hi⟩
  ·cases ho;exact hown'.gr hN rfl (fun _=>rfl)
def Xc(P:Program)(G:Nat→Option (List AV))(f:FuncId)(el:TypeId)(ts:List Ty)(sg:Sig)(pre:List DV→Prop)(F:List DV→List (List DV)):Prop:=
 CQ P f∧∀(E:Nat→Option Obj) (l:List (List DV)) (b cap:Nat) (v:Value) (ds:List (List DV)) (vs:Array Value) (w:World),(∀k o,E k=some o→w.heap[k]? =some o)→OwnAt E w el ts l b cap v→RepArgs (Al E) sg ds (vs.toList.drop 1)→vs[0]? =some v→pre (.list l::ds.flatten)→Lw G E→
  Calls P f vs w fun e w'=>∃v' l' b' cap',e=.returned v'∧F (.list l::ds.flatten)=[[.list l']]∧OnlyB b cap w w'∧OwnAt E w' el ts l' b' cap' v'∧((cap≠0∧b'=b)∨w.heap.size≤b')
def T8[O:Orc](el:TypeId)(ts:List Ty)(sg:Sig)(preS:List (SX×Bool))(fid:Nat)(args:List AV)(h:AHeap):Out:=
 match args with
 |.own id us e::rest=>match h.t.get id,DG sg rest with
  |some (.grow t vs f),some es=>match Nat.beq t el&&CJ.eqTys us ts&&CJ.eqTys vs ts&&eqU e f&&allKnown (f::es.flatten) preS with
   |true=>some (.own h.next ts (.at (.app fid (f::es.flatten)) (.ki .i64 (.ofNat 0)) 0),AHeap.alloc {h with t:=h.t.cut id} (.grow el ts (.at (.app fid (f::es.flatten)) (.ki .i64 (.ofNat 0)) 0)))
   |false=>none
  |_,_=>none
 |_=>none
theorem dx[O:Orc]{P:Program}{G:Nat→Option (List AV)}{f:FuncId}{sg:Sig}{el:TypeId}{ts:List Ty}{preS:List (SX×Bool)}{F:List DV→List (List DV)}{fid:Nat}(hG:BO G)
  (hf:Xc P G f el ts sg (fun ds=>∀p∈preS,den (AA O.I ds) p.1=.bool p.2) F) (hI:∀ds,O.I fid ds=.list (F ds))
  (hpre:preS.all (fun p=>AX (Nat.succ (Sig.len sg)) p.1)=true):
  BF P G (fun g args h=>if g=f then T8 el ts sg preS fid args h else none):=by
 intro g args h av h' hs;simp only at hs;split at hs<;>(try (cases hs;done))
 rename_i e;subst e;unfold T8 at hs;split at hs<;>(try (cases hs;done))
 rename_i id us e rest;split at hs<;>(try (cases hs;done))
 rename_i t vs f es hg he;split at hs<;>(try (cases hs;done))
 rename_i hk;simp only[ACJ,ACP]at hs;obtain⟨rfl,rfl⟩:=hs;simp only[ACH,ACY]at hk;obtain⟨⟨⟨⟨rfl,h2⟩,h3⟩,h4⟩,h5⟩:=hk;obtain rfl:=BS h2;obtain rfl:=BS h3;refine⟨hf.1,fun m xs w hv hr hgk=>?_⟩
 simp only[VL]at hv;obtain⟨v,us',hxs,hv0,hvr⟩:=hv;have hv1:=JK h4 hv0
 obtain⟨l,hl,hown⟩:=Rj hr hv1 hg;have hargs:=DQ he hvr
 have hfl:(es.map (·.map (den m.R))).flatten=es.flatten.map (den m.R):=by rw[AEI]
 refine (hf.2 m.E l _ _ v _ xs w hr.E hown (RepArgs.emono (m:=m) (m':=Al m.E) (fun _ _ e=>e) (by rw[hxs];exact hargs)) (by rw[←AEi,hxs];rfl) ?_ (NX hG hgk)).mono ?_
 ·intro p hp;rw[hfl,←hl];have:=Cs hgk.f h5 p hp
  rw[←this];refine Ar (n:=Nat.succ (Sig.len sg)) (fun i hi=>?_) hgk.f.1.symm p.1 (ACt.1 hpre p hp)
  rfl
 ·rintro e w' ⟨v',l',b',cap',rfl,hF,hon,hown',hfr⟩;have hN:den m.R (.at (.app fid (f::es.flatten)) (.ki .i64 (.ofNat 0)) 0)=.list l':=by
   have:den m.R (.app fid (f::es.flatten))=.list [[.list l']]:=by
    simp only[den,hgk.f.1];rw[hI,D8,ACO,hl,←hfl,hF]
   simp only[den]at this⊢;rw[this];simp[atD]
  have hr1:HR m {h with t:=h.t.cut id} w':=hr.only (h2:={h with t:=h.t.cut id}) (o2:=none) hg hon rfl rfl (fun i o hi=>by
   simp only[Tr.get_cut]at hi
   by_cases e:id=i
   ·subst e;simp at hi
   ·simp only[e,if_false]at hi;exact .inr ⟨Ne.symm e,hi⟩) (fun o ho=>by cases ho) (fun o ho=>by cases ho)
  have hown2:=hown'
  obtain⟨a,hv',c1,c2,c3,c4⟩:=hown';have vown:∀m2:Env,m2.R=m.R→m2.dom h.next→m2.mu h.next=(b',cap')→V m2 (.own h.next vs (.at (.app fid (f::es.flatten)) (.ki .i64 (.ofNat 0)) 0)) v':=by
   intro m2 hR hd hmu;simp only[V,hmu];exact⟨hd,l',a,by rw[hR];exact hN,hv',c1,c2,c3,fun hp=>(c4 hp).1⟩
  by_cases h0:cap'=0
  ·subst h0;obtain⟨p1,p2⟩:=hr1.phantom t vs (.at (.app fid (f::es.flatten)) (.ki .i64 (.ofNat 0)) 0);refine⟨v',_,rfl,p1,?_,p2⟩
   simp only[V];have hmu:((m.add h.next (0,0)).mu h.next)=(0,0):=by simp
   exact⟨by simp,l',a,by exact hN,by simpa using hv',by simpa using c1,by simp,by simpa using c3,by simp⟩
  ·obtain⟨k0,k1,k2,k3,c,k4,k5,k6⟩:=c4 h0;have hF':m.F b'=none:=by
    cases hx:m.F b' with
    |none=>rfl
    |some x=>
     have hlt:=(ACQ.1 (hr.F b' x hx)).1
     rcases hfr with ⟨q1,rfl⟩|q2
     ·have:=((hr.objL id _ hg).2.1 q1).2
      rw[hx]at this;cases this
     ·omega
   obtain⟨p1,p2⟩:=hr1.adopt (b:=b') (cap:=cap') (t:=t) (ts:=vs) (e:=.at (.app fid (f::es.flatten)) (.ki .i64 (.ofNat 0)) 0) k1 hF' (fun i o ho hl e=>by
    simp only[Tr.get_cut]at ho
    by_cases e2:id=i
    ·subst e2;simp at ho
    simp only[e2,if_false]at ho;have e':(m.mu i).1=b':=e
    rcases hfr with ⟨q1,rfl⟩|q2
    ·exact e2 (hr.injL id i _ _ hg ho q1 hl e'.symm)
    ·have:=(hr.objL i o ho).2.2.lt hl
     omega) (OwnAt.gr (m:=m.add h.next (b',cap')) hown2 hN rfl (fun _=>rfl))
   exact⟨v',_,rfl,p1,vown _ rfl (by simp) (by simp),p2⟩
def I0:Sig→Bool
 | []=>true
 |.one t::sg=>Em t&&I0 sg
 |.agg ts::sg=>scalTs ts&&I0 sg
 |_::_=>false
theorem Rep.flat{m m':Env}{t:Ty}{d:DV}{v:Value}(ht:Em t=true)(h:Rep m t d v):Rep m' t d v:=by
 cases t with
 |slice cs=>simp[Em]at ht
 |_=>simpa only[Rep]using h
theorem RepV.flat{m m':Env}:∀{ts:List Ty} {ds:List DV} {vs:List Value},scalTs ts=true→RepV m ts ds vs→RepV m' ts ds vs
 | [],ds,vs,_,h=>h
 |t::ts,ds,vs,hs,h=>by
  simp only[scalTs,ACH]at hs;obtain⟨d,ds',v,vs',e1,e2,h1,h2⟩:=h;exact⟨d,ds',v,vs',e1,e2,h1.flat hs.1,h2.flat hs.2⟩
theorem RepArgs.flat{m m':Env}:∀{sg:Sig} {ds:List (List DV)} {vs:List Value},I0 sg=true→RepArgs m sg ds vs→RepArgs m' sg ds vs
 | [],ds,vs,_,h=>h
 |.one t::sg,ds,vs,hs,h=>by
  simp only[I0,ACH]at hs;obtain⟨d,ds',v,vs',e1,e2,h1,h2⟩:=h;obtain⟨x,q1,q2⟩:=h1;exact⟨d,ds',v,vs',e1,e2,⟨x,q1,q2.flat hs.1⟩,h2.flat hs.2⟩
 |.agg us::sg,ds,vs,hs,h=>by
  simp only[I0,ACH]at hs;obtain⟨d,ds',v,vs',e1,e2,h1,h2⟩:=h;obtain⟨x,q1,q2⟩:=h1;exact⟨d,ds',v,vs',e1,e2,⟨x,q1,q2.flat hs.1⟩,h2.flat hs.2⟩
 |.con _::sg,ds,vs,hs,h=>by simp[I0]at hs
 |.nil::sg,ds,vs,hs,h=>by simp[I0]at hs
theorem RepRes.flat{m m':Env}{sg:Sig}{ds:List (List DV)}{v:Value}(hs:I0 sg=true)(h:RepRes m sg ds v):RepRes m' sg ds v:=by
 unfold RepRes at h⊢;split
 ·rename_i g;obtain⟨d,e,h1⟩:=h;have h2:RepArgs m [g] [d] [v]:=⟨d,[],v,[],rfl,rfl,h1,rfl,rfl⟩
  obtain⟨d',ds',v',vs',e1,e2,h3,_⟩:=RepArgs.flat (m':=m') hs h2;cases e1;cases e2;exact⟨d,e,h3⟩
 ·rename_i hn;split at h
  ·exact absurd rfl (hn _)
  ·obtain⟨xs,e,h1⟩:=h;exact⟨xs,e,h1.flat hs⟩
def dy(h:AHeap)(a:AV):AV:=match a with
 |.own id us e=>match h.t.get id with
  |some (.grow _ vs f)=>match CJ.eqTys us vs&&eqU e f with
   |true=>.sy (.slice us) f
   |false=>a
  |_=>a
 |a=>a
def Xd[O:Orc](sg rs:Sig)(preS:List (SX×Bool))(fid:Nat)(args:List AV)(h:AHeap):Out:=match I0 rs with
 |true=>SF sg rs preS fid (args.map (dy h)) h
 |false=>none
open Classical in
def Gi(m:Env)(h:AHeap)(w:World):Nat→Option Obj:=fun k=>match m.E k with
 |some o=>some o
 |none=>if ∃id el ts f,h.t.get id=some (.grow el ts f)∧(m.mu id).2≠0∧(m.mu id).1=k then w.heap[k]? else none
theorem uT{m:Env}{h:AHeap}{w:World}(hr:HR m h w){a:AV}{v:Value}(hv:V m a v):V {m with E:=Gi m h w} (dy h a) v:=by
 have hle:m.wle {m with E:=Gi m h w}:=⟨fun _ h=>h,fun _ _=>rfl,fun b o e=>by simp only[Gi,e],rfl,rfl⟩
 unfold dy;split
 ·rename_i id us e;split
  ·rename_i el vs f hg;split
   ·rename_i hk;simp only[ACH]at hk;obtain rfl:=BS hk.1;have hv1:=JK hk.2 hv
    obtain⟨l,hl,a,rfl,h1,h2,h3,h4⟩:=Rj hr hv1 hg;simp only[V,Rep];refine⟨l,a,_,hl,rfl,h1,by omega,h3,?_⟩
    by_cases h0:(m.mu id).2=0
    ·exact .inl h0
    ·obtain⟨rfl,k1,k2,k3,c,k4,k5,k6⟩:=h4 h0;refine .inr ⟨_,0,rfl,fun i row hi=>?_⟩
     have hE:Gi m h w (m.mu id).1=some (.cells c el (0,0)):=by
      unfold Gi;rw[k1];dsimp only
      rw[if_pos ⟨id,el,us,f,hg,h0,rfl⟩,k4]
     have hlt:=(ACW.1 hi).1
     have hrow:=k2 row (ACf.2 ⟨i,hi⟩)
     have key:∀(n j:Nat),j+n=us.length→RepL {m with E:=Gi m h w} (us.drop j) (row.drop j) (m.mu id).1 (0+i*us.length+j):=by
      intro n
      induction n with
      |zero=>
       intro j hj;rw[AC2 (by omega),AC2 (by omega)]
       simp[RepL]
      |succ n ih=>
       intro j hj;have hju:j<us.length:=by omega
       have hjr:j<row.length:=by omega
       rw[ACj hju,ACj hjr];simp only[RepL];have hkk:i*us.length+j<l.length*us.length:=by
        have:(i+1)*us.length≤l.length*us.length:=ACx _ hlt
        rw[ADH]at this;omega
       obtain⟨u,u1,u2⟩:=k6 _ hkk;have e1:(i*us.length+j)%us.length=j:=by rw[ADT,AEK,ADz hju]
       have e2:(i*us.length+j) / us.length=i:=by rw[ADT,AEY (by omega),AER hju,ADf]
       rw[e1,e2]at u2;refine⟨_,_,u,rfl,?_,?_,by have:=ih (j+1) (by omega);rwa [←AEZ]at this⟩
       ·unfold Env.ecell;simp only[hE];rw[ACk];exact u1
       ·have e3:us.getD j .bool=us[j]:=by simp[ACI,ACL hju]
        have e4:atD (.list l) (.int .i64 (i:Nat)) j=row[j]:=by
         simp only[atD,AC5,ACI,hi,ACo,ACL hjr]
        rw[e3,e4]at u2;exact Rep.emono (m:=Al m.E) (fun b o e=>by simp only[Al]at e;simp only[Gi,e]) u2
     have:=key us.length 0 (by omega)
     simpa using this
   ·exact V.wmono hle _ _ hv
  ·exact V.wmono hle _ _ hv
 ·exact V.wmono hle _ _ hv
theorem aj{m:Env}{h:AHeap}{w:World}(hr:HR m h w):∀{as:List AV} {vs:List Value},VL m as vs→VL {m with E:=Gi m h w} (as.map (dy h)) vs
 | [],vs,hv=>by simpa only[VL,ACS]using hv
 |a::as,vs,hv=>by
  simp only[VL,ACO]at hv⊢;obtain⟨v,us,e,h1,h2⟩:=hv;exact⟨v,us,e,uT hr h1,aj hr h2⟩
theorem HR.same'{m:Env}{h:AHeap}{w w':World}(hr:HR m h w)(ho:∀k,k<w.heap.size→w'.heap[k]? =w.heap[k]?)(hio:ioOf w'=ioOf w):HR m h w':=
 ⟨hr.next,hr.lim,hr.res,hr.EF,fun k o hk=>by
  rw[ho k (ACQ.1 (hr.E k o hk)).1];exact hr.E k o hk,fun k o hk=>by
  rw[ho k (ACQ.1 (hr.F k o hk)).1];exact hr.F k o hk,fun i o hi=>by
  obtain⟨g1,g2,g3⟩:=hr.objL i o hi;exact⟨g1,g2,g3.wmove (Env.le.refl m).towle fun lo=>ho _ (g3.lt lo)⟩,hr.injL,hio.trans hr.io⟩
theorem jA[O:Orc]{P:Program}{G:Nat→Option (List AV)}{f:FuncId}{sg rs:Sig}{preS:List (SX×Bool)}{F:List DV→List (List DV)}{fid:Nat}(hG:BO G)
  (hf:Am P G f sg rs (fun ds=>∀p∈preS,den (AA O.I ds) p.1=.bool p.2) F) (hI:∀ds,O.I fid ds=.list (F ds))
  (hpre:preS.all (fun p=>AX (Sig.len sg) p.1)=true):
  BF P G (fun g args h=>if g=f then Xd sg rs preS fid args h else none):=by
 intro g args h av h' hs;simp only at hs;split at hs<;>(try (cases hs;done))
 rename_i e;subst e;unfold Xd at hs;split at hs<;>(try (cases hs;done))
 rename_i hfl0;unfold SF at hs;split at hs<;>(try (cases hs;done))
 rename_i es he;split at hs<;>(try (cases hs;done))
 rename_i hk;cases hs;refine⟨hf.1,fun m vs w hv hr hg=>?_⟩
 have hvb:=aj hr hv
 have hargs:=DQ (m:={m with E:=Gi m h w}) he hvb
 have hfl:(es.map (·.map (den m.R))).flatten=es.flatten.map (den m.R):=by rw[AEI]
 refine (hf.2 (Gi m h w) _ vs w (fun b o e=>?_) (RepArgs.emono (m:={m with E:=Gi m h w}) (m':=Al (Gi m h w)) (fun _ _ e=>e) hargs) ?_ ?_).mono ?_
 ·unfold Gi at e;split at e
  ·rename_i o' ho;cases e;exact hr.E b _ ho
  ·split at e
   ·exact e
   ·cases e
 ·show ∀p∈preS,den (AA O.I (es.map (·.map (den m.R))).flatten) p.1=_
  rw[hfl];intro p hp;rw[←Cs hg.f hk p hp];refine Ar (n:=Sig.len sg) (fun i hi=>?_) hg.f.1.symm p.1 (ACt.1 hpre p hp)
  rfl
 ·intro g cs e;have h1:=NX hG hg g cs e
  exact VC.wmono (m:=Al m.E) (m':=Al (Gi m h w)) ⟨fun _ h=>h,fun _ _=>rfl,fun b o e=>by simp only[Al]at e⊢;simp only[Gi,e],rfl,rfl⟩ _ _ _ h1
 ·rintro e w' ⟨v,E',rfl,hgr,hres⟩;refine⟨v,m,rfl,.refl m,?_,hr.same' hgr.old hgr.io⟩
  refine bG (es:=F (es.flatten.map (den m.R))) ?_ (RepRes.flat (m:=Al E') (m':=m) hfl0 ?_)
  ·simp only[den,hg.f.1];rw[hI,D8]
  ·rw[←hfl];exact hres
section
variable {P:Program}{G:Nat→Option (List AV)}{I:Nat→List DV→DV}{f:FuncId}{sg rs:Sig}{preS:List (SX×Bool)}{F:List DV→List (List DV)}{fid:Nat}{el:TypeId}{ts:List Ty}
def eE(f:FuncId)(sg rs:Sig)(preS:List (SX×Bool))(fid:Nat):Ent:=⟨f,fun O=>@Xd O sg rs preS fid⟩
def mJ(f:FuncId)(el:TypeId)(ts:List Ty)(sg:Sig)(preS:List (SX×Bool))(fid:Nat):Ent:=⟨f,fun O=>@Xb O el ts sg preS fid⟩
def eF(f:FuncId)(el:TypeId)(ts:List Ty)(sg:Sig)(preS:List (SX×Bool))(fid:Nat)(fr:List (Option (TypeId×List Ty)):=[]):Ent:=⟨f,fun O=>SH fr (@T8 O el ts sg preS fid)⟩
theorem aq(hG:BO G)(hf:Am P G f sg rs (fun ds=>∀p∈preS,den (AA I ds) p.1=.bool p.2) F)(hI:∀ds,I fid ds=.list (F ds))
  (hpre:preS.all (fun p=>AX (Sig.len sg) p.1)=true):∀O:Orc,O.I=I→@BF O P G (fun g args h=>if g=(eE f sg rs preS fid).f then (eE f sg rs preS fid).sp O args h else none):=by
 rintro O rfl;exact @jA O P G f sg rs preS F fid hG hf hI hpre
theorem rq(hG:BO G)(hf:dw P G f el ts sg (fun ds=>∀p∈preS,den (AA I ds) p.1=.bool p.2) F)(hI:∀ds,I fid ds=.list (F ds))
  (hpre:preS.all (fun p=>AX (Nat.succ (Sig.len sg)) p.1)=true):∀O:Orc,O.I=I→@BF O P G (fun g args h=>if g=(mJ f el ts sg preS fid).f then (mJ f el ts sg preS fid).sp O args h else none):=by
 rintro O rfl;exact @iz O P G f sg el ts preS F fid hG hf hI hpre
theorem mK{fr:List (Option (TypeId×List Ty))}(hG:BO G)(hf:Xc P G f el ts sg (fun ds=>∀p∈preS,den (AA I ds) p.1=.bool p.2) F)(hI:∀ds,I fid ds=.list (F ds))
  (hpre:preS.all (fun p=>AX (Nat.succ (Sig.len sg)) p.1)=true):∀O:Orc,O.I=I→@BF O P G (fun g args h=>if g=(eF f el ts sg preS fid fr).f then (eF f el ts sg preS fid fr).sp O args h else none):=by
 rintro O rfl;exact @Qx O P G f fr _ (@dx O P G f sg el ts preS F fid hG hf hI hpre) hf.1
end
end Go.AM
namespace Go.AM
open Go
def eW(P:Program)(G:Nat→Option (List AV))(f:FuncId)(el:TypeId)(ts:List Ty):Prop:=
 CQ P f∧∀(E:Nat→Option Obj) (l:List (List DV)) (b cap:Nat) (v:Value) (i:Nat) (row:List DV) (vb vc:Nat) (vcur:Array Value) (w:World),(∀k o,E k=some o→w.heap[k]? =some o)→OwnAt E w el ts l b cap v→i≤l.length→l.length≤1000000→
  w.heap[vb]? =some (.cells vcur el (0,0))→E vb=none→(cap≠0→vb≠b)→ts.length≤vcur.size→row.length=ts.length→(∀k,k<ts.length→∃u,vcur[k]? =some u∧Rep (Al E) (ts.getD k .bool) (row.getD k (.bool false)) u)→
  Calls P f #[v,.int .i64 i,.slice (some ⟨vb,0,none⟩) 1 vc] w fun e w'=>∃v' b' cap',e=.returned v'∧OnlyB b cap w w'∧OwnAt E w' el ts (l.take i++[row]++l.drop i) b' cap' v'∧((cap≠0∧b'=b)∨w.heap.size≤b')
def Qy(f x:SX)(es:List SX):SX:=.cat (.cat (.cut f (.ki .i64 (.ofNat 0)) x) (.row es)) (.cut f x (.len f))
def YE[O:Orc](el:TypeId)(ts:List Ty)(args:List AV)(h:AHeap):Out:=
 match args with
 | [.own id us e,a,.sl id2 0 1 (some c)]=>match h.t.get id,Fb (.int .i64) a,h.blk? id2 with
  |some (.grow t vs f),some x,some b=>match Fz ts (b.cellsFrom 0 ts.length) with
   |some es=>match Nat.beq t el&&CJ.eqTys us ts&&CJ.eqTys vs ts&&eqU e f&&Nat.beq b.t el&&Nat.ble ts.length b.n&&leS (.ki .i64 (.ofNat 0)) x&&leS x (.len f)&&Nn f with
    |true=>some (.own h.next ts (Qy f x es),AHeap.alloc {h with t:=h.t.cut id} (.grow el ts (Qy f x es)))
    |false=>none
   |none=>none
  |_,_,_=>none
 |_=>none
theorem me[O:Orc]{R:Rho}(hF:FactsOK R){e:SX}{l:List (List DV)}(h:Nn e=true)(hl:den R e=.list l):l.length≤1000000:=by
 unfold Nn at h;split at h
 ·cases hl;simp
 ·simp only[den]at hl;cases hl;simp
 ·split at h<;>(try (cases h;done))
  rename_i hk;have:=Bv hF hk
  simp only[den,hl,Bm,AZ,DV.bool.injEq,ACK,ACZ]at this;omega
theorem jX[O:Orc]{P:Program}{G:Nat→Option (List AV)}{f:FuncId}{el:TypeId}{ts:List Ty}(hf:eW P G f el ts):
  BF P G (fun g args h=>if g=f then YE el ts args h else none):=by
 intro g args h av h' hs;simp only at hs;split at hs<;>(try (cases hs;done))
 rename_i e;subst e;unfold YE at hs;split at hs<;>(try (cases hs;done))
 rename_i id us e a id2 c;split at hs<;>(try (cases hs;done))
 rename_i t vs f x b hg hx hb;split at hs<;>(try (cases hs;done))
 rename_i es hes;split at hs<;>(try (cases hs;done))
 rename_i hk;simp only[ACJ,ACP]at hs;obtain⟨rfl,rfl⟩:=hs;simp only[ACH,ACY,ACn]at hk;obtain⟨⟨⟨⟨⟨⟨⟨⟨rfl,h2⟩,h3⟩,h4⟩,h5⟩,h6⟩,h7⟩,h8⟩,h9⟩:=hk;obtain rfl:=BS h2;obtain rfl:=BS h3;refine⟨hf.1,fun m xs w hv hr hgk=>?_⟩
 simp only[VL]at hv;obtain⟨v,_,hxs,hv0,v1,_,rfl,hv1,v2,_,rfl,hv2,rfl⟩:=hv;have hvo:=JK h4 hv0
 obtain⟨l,hl,hown⟩:=Rj hr hvo hg;have hint:=Fq hx hv1
 simp only[Rep]at hint;obtain⟨z,dz,rfl,_,_⟩:=hint;simp only[V]at hv2;obtain⟨_,c',rfl,_,hc',_⟩:=hv2;have hlen:=me hgk.f h9 hl
 have z0:0≤z:=Be hgk.f h7 (k:=.i64) (a:=0) rfl dz
 have z1:z≤l.length:=Be hgk.f h8 (k:=.i64) (l:=.i64) dz (by simp only[den,hl,Bm])
 obtain⟨g1,⟨gE,gF⟩,gB⟩:=hr.obj id2 _ (BQ hb);obtain⟨vcur,b1,b2,b3,_⟩:=(show BR m (m.mu id2) b w from gB);rw[h5]at b1;have hne:(m.mu id).2≠0→(m.mu id2).1≠(m.mu id).1:=fun hp e=>by
  have:=hr.injL id2 id _ _ (BQ hb) hg trivial hp e
  subst this;rw[BQ hb]at hg;cases hg
 have hcl:(b.cellsFrom 0 vs.length).length=vs.length:=Ao _ _ _
 have hcv:VL m (b.cellsFrom 0 vs.length) (vcur.toList.take vs.length):=PR (by rw[hcl,ACh,ADZ (show vs.length≤vcur.toList.length by have:=AEB h6 b2;simpa using this)]) (fun j a hj=>by
  have hjl:=(ACW.1 hj).1
  rw[hcl]at hjl;rw[BC b _ 0 j hjl,ACk]at hj;cases hj;obtain⟨u,u1,u2⟩:=b3 j (by omega)
  refine⟨u,?_,u2⟩
  rw[ADG hjl];simpa using u1)
 obtain⟨q1,q2,q3⟩:=Q9 hes hcv;have hel:es.length=vs.length:=by rw[q1,hcl]
 obtain⟨i,rfl⟩:=ADM z0;have hxs':xs=#[v,.int .i64 i,.slice (some ⟨(m.mu id2).1,0,none⟩) 1 c']:=AD0.1 hxs
 subst hxs';refine (hf.2 m.E l _ _ v i (es.map (den m.R)) (m.mu id2).1 c' vcur w hr.E hown (by omega) hlen b1 gE hne (by omega) (by rw[ACX,hel]) (fun k hk=>?_)).mono ?_
 ·obtain⟨u,u1,u2⟩:=b3 k (by omega)
  refine⟨u,u1,?_⟩
  have:=q3 k u (by rw[ADG hk];simpa using u1)
  exact Rep.emono (m:=m) (m':=Al m.E) (fun _ _ e=>e) this
 ·rintro e w' ⟨v',b',cap',rfl,hon,hown',hfr⟩;have hN:den m.R (Qy f x es)=.list (l.take i++[es.map (den m.R)]++l.drop i):=by
   have e1:den m.R (.cut f (.ki .i64 (.ofNat 0)) x)=.list (l.take i):=by
    simp only[den]at hl dz⊢;rw[hl,dz];simp[FQ]
   have e2:den m.R (.cut f x (.len f))=.list (l.drop i):=by
    simp only[den]at hl dz⊢;rw[hl,dz];simp[FQ,Bm]
   have e3:den m.R (.row es)=.list [es.map (den m.R)]:=by simp only[den,D8]
   unfold Qy;simp only[den]at e1 e2 e3⊢;rw[e1,e2,e3];simp[Du]
  have hr1:HR m {h with t:=h.t.cut id} w':=hr.only (h2:={h with t:=h.t.cut id}) (o2:=none) hg hon rfl rfl (fun i o hi=>by
   simp only[Tr.get_cut]at hi
   by_cases e:id=i
   ·subst e;simp at hi
   ·simp only[e,if_false]at hi;exact .inr ⟨Ne.symm e,hi⟩) (fun o ho=>by cases ho) (fun o ho=>by cases ho)
  have hown2:=hown'
  obtain⟨a,hv',c1,c2,c3,c4⟩:=hown'
  by_cases h0:cap'=0
  ·subst h0;obtain⟨p1,p2⟩:=hr1.phantom t vs (Qy f x es);refine⟨v',_,rfl,p1,?_,p2⟩
   simp only[V];exact⟨by simp,_,a,by exact hN,by simpa using hv',by simpa using c1,by simp,by simpa using c3,by simp⟩
  ·obtain⟨k0,k1,k2,k3,c,k4,k5,k6⟩:=c4 h0;have hF':m.F b'=none:=by
    cases hx:m.F b' with
    |none=>rfl
    |some x=>
     have hlt:=(ACQ.1 (hr.F b' x hx)).1
     rcases hfr with ⟨q1,rfl⟩|q2
     ·have:=((hr.objL id _ hg).2.1 q1).2
      rw[hx]at this;cases this
     ·omega
   obtain⟨p1,p2⟩:=hr1.adopt (b:=b') (cap:=cap') (t:=t) (ts:=vs) (e:=Qy f x es) k1 hF' (fun i o ho hl e=>by
    simp only[Tr.get_cut]at ho
    by_cases e2:id=i
    ·subst e2;simp at ho
    simp only[e2,if_false]at ho;have e':(m.mu i).1=b':=e
    rcases hfr with ⟨q1,rfl⟩|q2
    ·exact e2 (hr.injL id i _ _ hg ho q1 hl e'.symm)
    ·have:=(hr.objL i o ho).2.2.lt hl
     omega) (OwnAt.gr (m:=m.add h.next (b',cap')) hown2 hN rfl (fun _=>rfl))
   refine⟨v',_,rfl,p1,?_,p2⟩
   have hmu:(m.add h.next (b',cap')).mu h.next=(b',cap'):=by simp
   simp only[V];rw[show (m.add ({h with t:=h.t.cut id}:AHeap).next (b',cap')).mu h.next=(b',cap') from hmu]
   exact⟨by simp,_,a,hN,hv',c1,c2,c3,fun hp=>(c4 hp).1⟩
def mh(f:FuncId)(el:TypeId)(ts:List Ty):Ent:=⟨f,fun O=>@YE O el ts⟩
theorem sC{P:Program}{G:Nat→Option (List AV)}{I:Nat→List DV→DV}{f:FuncId}{el:TypeId}{ts:List Ty}(hf:eW P G f el ts):∀O:Orc,O.I=I→@BF O P G (fun g args h=>if g=(mh f el ts).f then (mh f el ts).sp O args h else none):=by
 rintro O rfl;exact @jX O P G f el ts hf
theorem Fresh.data{E E':Nat→Option Obj}{w w':World}{el:TypeId}{ts:List Ty}{d:DV}{v:Value}(hg:Grows E E' w w')(h:Fresh E' w w' el ts d v):∃E2,Grows E E2 w w'∧Rep (Al E2) (.slice ts) d v:=by
 obtain⟨l,a,cap,rfl,rfl,h1,h2,h3,h4⟩:=h;rcases h4 with h0|⟨b,c,rfl,q1,q2,q3,q4,q5,q6,q7⟩
 ·refine⟨E',hg,?_⟩
  simp only[Rep];exact⟨l,a,cap,rfl,rfl,h1,by omega,h3,.inl h0⟩
 ·refine⟨fun k=>if k=b then some (.cells c el (0,0)) else E' k,⟨fun k o h=>?_,fun k o h=>?_,hg.old,hg.io⟩,?_⟩
  ·have hk:=hg.le k o h
   have:k≠b:=fun e=>by rw[e,q2]at hk;cases hk
   simp only[if_neg this];exact hk
  ·by_cases e:k=b
   ·subst e;simp only[if_true,ACJ]at h;subst h;exact⟨q3,.inr q1⟩
   ·simp only[if_neg e]at h;exact hg.ok k o h
  ·have hE2:∀k o,E' k=some o→(fun k=>if k=b then some (.cells c el (0,0)) else E' k) k=some o:=fun k o h=>by
    have:k≠b:=fun e=>by rw[e,q2]at h;cases h
    simp only[if_neg this];exact h
   simp only[Rep];refine⟨l,some ⟨b,0,none⟩,cap,rfl,rfl,h1,by omega,(fun e=>by cases e),.inr ⟨b,0,rfl,fun i row hi=>?_⟩⟩
   have hlt:=(ACW.1 hi).1
   have hrow:=q4 row (ACf.2 ⟨i,hi⟩)
   have key:∀(n j:Nat),j+n=ts.length→RepL (Al fun k=>if k=b then some (.cells c el (0,0)) else E' k) (ts.drop j) (row.drop j) b (0+i*ts.length+j):=by
    intro n
    induction n with
    |zero=>
     intro j hj;rw[AC2 (by omega),AC2 (by omega)]
     simp[RepL]
    |succ n ih=>
     intro j hj;have hju:j<ts.length:=by omega
     have hjr:j<row.length:=by omega
     rw[ACj hju,ACj hjr];simp only[RepL];have hkk:i*ts.length+j<l.length*ts.length:=by
      have:(i+1)*ts.length≤l.length*ts.length:=ACx _ hlt
      rw[ADH]at this;omega
     obtain⟨u,u1,u2⟩:=q7 _ hkk;have e1:(i*ts.length+j)%ts.length=j:=by rw[ADT,AEK,ADz hju]
     have e2:(i*ts.length+j) / ts.length=i:=by rw[ADT,AEY (by omega),AER hju,ADf]
     rw[e1,e2]at u2;refine⟨_,_,u,rfl,?_,?_,by have:=ih (j+1) (by omega);rwa [←AEZ]at this⟩
     ·unfold Env.ecell;simp only[Al,if_true];rw[ACk];exact u1
     ·have e3:ts.getD j .bool=ts[j]:=by simp[ACI,ACL hju]
      have e4:atD (.list l) (.int .i64 (i:Nat)) j=row[j]:=by
       simp only[atD,AC5,ACI,hi,ACo,ACL hjr]
      rw[e3,e4]at u2;exact Rep.emono (m:=Al E') (m':=Al fun k=>if k=b then some (.cells c el (0,0)) else E' k) hE2 u2
   have:=key ts.length 0 (by omega)
   simpa using this
theorem FnOwn.data{P:Program}{G:Nat→Option (List AV)}{f:FuncId}{sg:Sig}{el:TypeId}{ts:List Ty}{pre:List DV→Prop}{F:List DV→List (List DV)}(h:FnOwn P G f sg el ts [] pre F):Am P G f sg [.one (.slice ts)] pre F:=by
 refine⟨h.1,fun E ds vs w hE hr hp hg=>(h.2 E ds vs w hE hr hp hg).mono ?_⟩
 rintro e w' ⟨v,v0,us,d0,dr,E',rfl,htup,hF,hgr,hf,hrest⟩;obtain⟨rfl,rfl⟩:=htup;obtain⟨E2,g1,g2⟩:=Fresh.data hgr hf;have hdr:dr=[]:=hrest.1
 subst hdr;refine⟨v,E2,rfl,g1,?_⟩
 rw[hF];simp only[RepRes,RepOne];exact⟨_,rfl,d0,rfl,g2⟩
structure ChStep where
 T:Tmpl
 τ:List SX
def F4(n:Nat)(run:St→Run)(ex:Ex)(Y:Tmpl)(τl:List SX)(ob:List (Nat×Blk)):Tmpl→List ChStep→Bool
 |T,[]=>match run (T.st n) with
  |some (e,s1)=>eu ex e&&HL Y n τl s1
  |none=>false
 |T,c::cs=>(match run (T.st n) with
  |some (.normal,s1)=>HL c.T n c.τ s1
  |_=>false)&&OC c.T.ob ob&&F4 n run ex Y τl ob c.T cs
def Gm(τl:List SX):List ChStep→Rho→List DV
 | [],R=>τl.map (den R)
 |c::cs,R=>Gm τl cs (R.sub c.τ)
section
variable {P:Program}{G:Nat→Option (List AV)}{I:Nat→List DV→DV}
variable {spec:Orc→FuncId→Option (List AV→AHeap→Out)}{lps:Nat→List LoopSp}
theorem ew(hm:P.follows .mixedOrders=true)(hN:∀(f:FuncId) (fn:Func),P.funcs[f]? =some fn→(fn.name== "runtime.NumGoroutine")=false)(hsp:∀O:Orc,O.I=I→@Br O P G (spec O))(hG:BO G)(n:Nat){B:Code}{L:LoopSp}
  {sub:FuncId→List (Nat→List LoopSp)} (hs:HK P G I sub) (hl:Cm P G I lps B) (cs:List ChStep) (τl:List SX) (hcnd:L.cnd=.kb true)
  (hok:(L.yes.2.1.ok L.T L.n&&F4 L.n (fun s=>@CC (mkO [] I) P G (spec (mkO [] I)) n sub lps B s) L.yes.1 L.yes.2.1 τl L.T.ob L.T cs)=true) (inv:Rho→Prop)
  (init:∀m a w,@RS (Bf I) plainR m G (L.T.st L.n) a w→(∀p∈L.pre,den m.R p.1=.bool p.2)→inv m.R)
  (out:∀R,R.I=I→inv R→Gm τl cs R=L.yes.2.2.map (den R)):BJ P G I B L:=by
 rw[ACH]at hok;obtain⟨hyes,hchk⟩:=hok;have main:∀(cs:List ChStep) (T:Tmpl) (N:Nat) (m:Env) (a:Act) (w:World) (Q:Exit→Act→World→Prop),F4 L.n (fun s=>@CC (mkO [] I) P G (spec (mkO [] I)) n sub lps B s) L.yes.1 L.yes.2.1 τl L.T.ob T cs=true→cs.length<N→
   m.R.I=I→@RS (Bf I) plainR m G (T.st L.n) a w→
   (∀m' a' w',m.lle (namesB L.T.ob) m'→m'.R=AA I (Gm τl cs m.R)→@RS (Bf I) plainR m' G (L.yes.2.1.st L.n) a' w'→Q (C6 L.yes.1) a' w')→Code.rounds P B Q N a w:=by
  intro cs
  induction cs with
  |nil=>
   intro T N m a w Q hc hlen hRI hr hQ;cases N with
   |zero=>omega
   |succ N=>
    rw[rounds_succ];unfold F4 at hc;split at hc
    ·rename_i e s1 hrun;rw[ACH]at hc;obtain⟨he,hne⟩:=UW hc.1;obtain⟨ω,s2,hhd,hex⟩:=Dx hc.2;obtain⟨z1,z2,z3,zr,z4,z5,_⟩:=hr;have hr2:@RS (mkO [] I) plainR m G (T.st L.n) a w:=@RS.mk (mkO [] I) plainR _ _ _ _ _ z1 z2 z3 zr z4 (@GOK.mk (mkO [] I) _ _ z5 (HP hRI (fun p hp=>by cases hp)))
     refine @DX (mkO [] I) P G (spec (mkO [] I)) lps hm hN (hsp _ rfl) hG n sub hs B hl m _ s1 e a w _ hr2 hrun ?_
     intro m1 a1 w1 hle hr1;have fok:∀τ,@FactsOK (Bf I) (m.R.sub τ):=fun τ=>by
      have:=Dp (m.R.sub τ)
      rw[show (m.R.sub τ).I=I from hRI]at this;exact this
     simp only[ACH,ACY]at hex;obtain⟨h1,h2⟩:=hex;obtain⟨m2,hle2,hr2⟩:=C5 (O:=mkO [] I) hr1 hhd;have hmt:=Dr (O:=mkO [] I) h2
     have hRe:m2.R=m.R:=hle2.R.trans hle.R
     have hgo:Q (C6 e) a1 w1:=by
      have hin:=@RS.into (mkO [] I) G m2 s2 a1 w1 _ τl ω (fun _=>none) I hG hr2 hmt (by rw[hRe];exact fok τl)
      rw[h1]at hin;have hcov:∀id,namesB L.T.ob id=true→namesB L.yes.2.1.ob id=true:=fun id hid=>by
       obtain⟨b0,h0⟩:=C4.1 hid;simp only[Tmpl.ok,ACH]at hyes;exact E8 hyes.1.2 h0
      have hl2:=Fi (O:=mkO [] I) (T:=L.T) (R':=m2.R.sub τl) hr2 hmt (hle.trans hle2) hcov
      rw[←he];refine hQ _ a1 w1 hl2 ?_ hin
      show m2.R.sub τl=_
      rw[hRe];unfold Rho.sub Gm;rw[hRI]
     cases e with
     |normal=>exact absurd he hne
     |exit id=>exact hgo
     |ret=>exact hgo
     |goto l=>exact hgo
    ·cases hc
  |cons c cs ih=>
   intro T N m a w Q hc hlen hRI hr hQ;cases N with
   |zero=>omega
   |succ N=>
    rw[rounds_succ];unfold F4 at hc;simp only[ACH]at hc;obtain⟨⟨hc1,hcv⟩,hc2⟩:=hc;split at hc1
    ·rename_i s1 hrun;obtain⟨ω,s2,hhd,hex⟩:=Dx hc1;obtain⟨z1,z2,z3,zr,z4,z5,_⟩:=hr;have hr2:@RS (mkO [] I) plainR m G (T.st L.n) a w:=@RS.mk (mkO [] I) plainR _ _ _ _ _ z1 z2 z3 zr z4 (@GOK.mk (mkO [] I) _ _ z5 (HP hRI (fun p hp=>by cases hp)))
     refine @DX (mkO [] I) P G (spec (mkO [] I)) lps hm hN (hsp _ rfl) hG n sub hs B hl m _ s1 .normal a w _ hr2 hrun ?_
     intro m1 a1 w1 hle hr1;show Code.rounds P B Q N a1 w1
     have fok:∀τ,@FactsOK (Bf I) (m.R.sub τ):=fun τ=>by
      have:=Dp (m.R.sub τ)
      rw[show (m.R.sub τ).I=I from hRI]at this;exact this
     simp only[ACH,ACY]at hex;obtain⟨h1,h2⟩:=hex;obtain⟨m2,hle2,hr2⟩:=C5 (O:=mkO [] I) hr1 hhd;have hmt:=Dr (O:=mkO [] I) h2
     have hRe:m2.R=m.R:=hle2.R.trans hle.R
     have hin:=@RS.into (mkO [] I) G m2 s2 a1 w1 c.T c.τ ω (fun _=>none) I hG hr2 hmt (by rw[hRe];exact fok c.τ)
     rw[h1]at hin;have hcov:∀id,namesB L.T.ob id=true→namesB c.T.ob id=true:=fun id hid=>by
      obtain⟨b0,h0⟩:=C4.1 hid;exact E8 hcv h0
     have hlin:=Fi (O:=mkO [] I) (T:=L.T) (R':=m2.R.sub c.τ) hr2 hmt (hle.trans hle2) hcov
     have hRs:(m2.inner (m2.R.sub c.τ) c.T ω w1).R=m.R.sub c.τ:=by show m2.R.sub c.τ=_;rw[hRe]
     refine ih c.T N (m2.inner (m2.R.sub c.τ) c.T ω w1) a1 w1 Q hc2 (by simp at hlen;omega) (by rw[hRs];exact hRI) hin ?_
     intro m' a' w' hle' hR' hr';refine hQ m' a' w' (hlin.trans hle') ?_ hr'
     rw[hR',hRs];rfl
    ·cases hc1
 intro m a w Q hdom hres hr hpre b hb hQ;have hRI:m.R.I=I:=by obtain⟨_,_,_,_,_,_,y,_⟩:=hr;exact y
 rw[hcnd]at hb;have hbt:b=true:=by
  simp only[den]at hb;injection hb with hb
  exact hb.symm
 subst hbt;refine wp_loop_rounds _ (main cs L.T (cs.length+1) m a w Q hchk (ADk _) hRI hr ?_)
 intro m' a' w' h1 h2 h3;refine hQ m' a' w' h1 ?_ h3
 rw[h2,out m.R hRI (init m a w hr hpre)];show AA I (L.yes.2.2.map (den m.R))=AA m.R.I (L.yes.2.2.map (den m.R))
 rw[hRI]
end
end Go.AM
namespace Go.AM
open Go
variable [O:Orc]
def Cp:Code→List Code
 |.seq a b=>Cp a++Cp b
 |.cond _ a b=>Cp a++Cp b
 |.block _ a=>Cp a
 |.scope a=>Cp a
 |.loop a=>a::Cp a
 |_=>[]
omit O in
theorem H7{B:Code}:∀{c:Code},B∈A9 c→B∈Cp c∧∀C∈Cp B,C∈Cp c:=by
 intro c
 induction c with
 |seq a b iha ihb=>
  intro h;simp only[A9,Cp,ADR]at h⊢;rcases h with h|h
  ·exact⟨.inl (iha h).1,fun C hC=>.inl ((iha h).2 C hC)⟩
  ·exact⟨.inr (ihb h).1,fun C hC=>.inr ((ihb h).2 C hC)⟩
 |cond x a b iha ihb=>
  intro h;simp only[A9,Cp,ADR]at h⊢;rcases h with h|h
  ·exact⟨.inl (iha h).1,fun C hC=>.inl ((iha h).2 C hC)⟩
  ·exact⟨.inr (ihb h).1,fun C hC=>.inr ((ihb h).2 C hC)⟩
 |block i a ih=>exact fun h=>ih h
 |scope a ih=>exact fun h=>ih h
 |loop a ih=>
  intro h;simp only[A9,ACs]at h;subst h;simp only[Cp];exact⟨AED ..,fun C hC=>ACu _ hC⟩
 |_=>intro h;simp[A9]at h
def Ln(run:St→Run):Nat→St→Run
 |0,_=>none
 |n+1,s=>match run s with
  |some (.normal,s1)=>Ln run n s1
  |r=>r
section
variable (P:Program)(G:Nat→Option (List AV))(spec:FuncId→Option (List AV→AHeap→Out))(n:Nat)(call:Bi)(lps:Nat→List LoopSp)
def KZ:Nat→Code→St→Run
 |0,a,s=>IH P G spec n lps a s
 |k+1,a,s=>match lps (key a) with
  | []=>Ln (BA P G call (KZ k) (Cn P G spec n) a) n s
  |l=>IU l fun L=>Jc L s
variable (sub:FuncId→List (Nat→List LoopSp))
def Wz(f:FuncId)(args:List AV)(h:AHeap):Out:=GP P (fun c s=>BA P G (IV P G spec n sub 9) (KZ P G spec n (IV P G spec n sub 9) lps 3) (Cn P G spec n) c s) Rn f args h
end
section
variable {P:Program}{G:Nat→Option (List AV)}{spec:FuncId→Option (List AV→AHeap→Out)}{lps:Nat→List LoopSp}
def MJ(P:Program)(G:Nat→Option (List AV))(I:Nat→List DV→DV)(lps:Nat→List LoopSp)(c:Code):Prop:=∀B∈Cp c,∀L,L∈lps (key B)→BJ P G I B L
theorem QB{call:Bi}(hm:P.follows .mixedOrders=true)(hN:∀(f:FuncId) (fn:Func),P.funcs[f]? =some fn→(fn.name== "runtime.NumGoroutine")=false)(hsp:Br P G spec)(hG:BO G)(n:Nat)(hc:CallRK P G call):∀(k:Nat) (B:Code),(∀L∈lps (key B),BJ P G O.I B L)→MJ P G O.I lps B→jZ P G (KZ P G spec n call lps k) B
 |0,B,hB,hl=>by
  intro m s s' e a w Q hr h hQ;unfold KZ IH at h;cases hL:lps (key B) with
  |cons x l=>
   simp only[hL]at h;obtain⟨L,hm,h⟩:=FH h;exact Im hG (hB L (by rw[hL];exact hm)) hr h hQ
  |nil=>
   simp only[hL]at h;exact wpIn_wide.1 (FY hN hsp (fun _ _ h=>DP hm h) n plainR (.loop B) m s s' e a w Q hr h hQ).1
 |k+1,B,hB,hl=>by
  intro m s s' e a w Q hr h hQ;unfold KZ at h;cases hL:lps (key B) with
  |cons x l=>
   simp only[hL]at h;obtain⟨L,hm,h⟩:=FH h;exact Im hG (hB L (by rw[hL];exact hm)) hr h hQ
  |nil=>
   simp only[hL]at h;have one:∀(m:Env) (s s':St) (e:Ex) (a:Act) (w:World) (Q:Exit→Act→World→Prop),RS m G s a w→BA P G call (KZ P G spec n call lps k) (Cn P G spec n) B s=some (e,s')→(∀m' a' w',m.le m'→RS m' G s' a' w'→Q (C6 e) a' w')→B.wp P Q a w:=
    LC hc (DP hm hc) (fun c m s s' e a w Q hr h hQ=>wpIn_wide.1 (FY hN hsp (fun _ _ h=>DP hm h) n plainR c m s s' e a w Q hr h hQ).1) B (fun C hC=>QB hm hN hsp hG n hc k C (hl C (H7 hC).1) (fun D hD=>hl D ((H7 hC).2 D hD)))
   have main:∀(N:Nat) (m:Env) (s s':St) (e:Ex) (a:Act) (w:World) (Q:Exit→Act→World→Prop),RS m G s a w→Ln (BA P G call (KZ P G spec n call lps k) (Cn P G spec n) B) N s=some (e,s')→(∀m' a' w',m.le m'→RS m' G s' a' w'→Q (C6 e) a' w')→Code.rounds P B Q N a w:=by
    intro N
    induction N with
    |zero=>intro m s s' e a w Q hr h hQ;simp[Ln]at h
    |succ N ih=>
     intro m s s' e a w Q hr h hQ;rw[rounds_succ];unfold Ln at h;split at h
     ·rename_i s1 h1;refine one m s s1 .normal a w _ hr h1 fun m1 a1 w1 g1 r1=>?_
      exact ih m1 s1 s' e a1 w1 Q r1 h fun m2 a2 w2 g2 r2=>hQ m2 a2 w2 (g1.trans g2) r2
     ·rename_i r hn;refine one m s s' e a w _ hr h fun m1 a1 w1 g1 r1=>?_
      have hq:=hQ m1 a1 w1 g1 r1
      cases e with
      |normal=>exact absurd h (fun e=>hn s' e)
      |exit id=>exact hq
      |ret=>exact hq
      |goto l=>exact hq
   exact wp_loop_rounds _ (main n m s s' e a w Q hr h hQ)
open Classical in
theorem mM(hm:P.follows .mixedOrders=true)(hN:∀(f:FuncId) (fn:Func),P.funcs[f]? =some fn→(fn.name== "runtime.NumGoroutine")=false)(hsp:Br P G spec)(hG:BO G)(n:Nat){sub:FuncId→List (Nat→List LoopSp)}(hs:HK P G O.I sub)(f:FuncId)
  (hl:∀fn c,P.funcs[f]? =some fn→fn.body=some c→MJ P G O.I lps c):BF P G (fun g args h=>if g=f then Wz P G spec n lps sub f args h else none):=by
 have hc:=Ki hm hN hsp hG n hs 9
 intro g args h av h' hcall;simp only at hcall;split at hcall
 ·rename_i e;subst e
  let run0:Code→St→Run:=fun c s=>BA P G (IV P G spec n sub 9) (KZ P G spec n (IV P G spec n sub 9) lps 3) (Cn P G spec n) c s
  let run:Code→St→Run:=fun c s=>if ∃fn,P.funcs[g]? =some fn∧fn.body=some c then run0 c s else none
  refine GO (run:=run) hN ?_ Xh g args h av h' ?_
  ·intro c m s s' e a w Q hr h hQ
   by_cases hx:∃fn,P.funcs[g]? =some fn∧fn.body=some c
   ·have h':run0 c s=some (e,s'):=by simpa only[run,if_pos hx]using h
    obtain⟨fn,h1,h2⟩:=hx;have hlc:=hl fn c h1 h2
    exact LC hc (DP hm hc) (fun c m s s' e a w Q hr h hQ=>wpIn_wide.1 (FY hN hsp (fun _ _ h=>DP hm h) n plainR c m s s' e a w Q hr h hQ).1) c (fun B hB=>QB hm hN hsp hG n hc 3 B (hlc B (H7 hB).1) (fun D hD=>hlc D ((H7 hB).2 D hD))) m s s' e a w Q hr h' hQ
   ·simp only[run,if_neg hx]at h;cases h
  ·simp only[Wz,GP]at hcall⊢;split at hcall
   ·cases hcall
   ·split at hcall
    ·cases hcall
    ·rename_i fn hf;unfold Rz at hcall⊢;split at hcall
     ·cases hcall
     ·rename_i c hb;have:run c=run0 c:=by
       funext s
       simp only[run];rw[if_pos ⟨fn,hf,hb⟩]
      simp only[hb,this];exact hcall
 ·cases hcall
end
end Go.AM
namespace Go.AM
open Go
def OL(P:Program)(g:TypeId→Option (List Ty)):Nat→List Field→Option (List Ty)
 |_,[]=>some []
 |o,f::fs=>match g f.type with
  |some cs=>match Nat.beq f.offset o&&Nat.beq cs.length (P.cellsOf f.type) with
   |true=>match OL P g (o+cs.length) fs with
    |some r=>some (cs++r)
    |none=>none
   |false=>none
  |none=>none
def flat(P:Program):Nat→TypeId→Option (List Ty)
 |0,_=>none
 |n+1,t=>match P.underlying t with
  |some .bool=>some [.bool]
  |some (.int k)=>some [.int k]
  |some .string=>some [.str]
  |some (.slice e)=>match flat P n e with
   |some cs=>match Nat.beq cs.length (P.cellsOf e)&&Nat.blt 0 cs.length with
    |true=>some [.slice cs]
    |false=>none
   |none=>none
  |some (.struct fs)=>match OL P (flat P n) 0 fs.toList with
   |some cs=>match Nat.beq cs.length (P.cellsOf t) with
    |true=>some cs
    |false=>none
   |none=>none
  |some (.array k e)=>match flat P n e with
   |some cs=>match Nat.beq cs.length (P.cellsOf e)&&Nat.beq (k*cs.length) (P.cellsOf t) with
    |true=>some (List.replicate k cs).flatten
    |false=>none
   |none=>none
  |_=>none
theorem RepV.append{m:Env}:∀{ts1:List Ty} {ds1:List DV} {vs1:List Value} {ts2:List Ty} {ds2:List DV} {vs2:List Value},RepV m ts1 ds1 vs1→RepV m ts2 ds2 vs2→RepV m (ts1++ts2) (ds1++ds2) (vs1++vs2)
 | [],ds1,vs1,ts2,ds2,vs2,h1,h2=>by
  simp only[RepV]at h1;obtain⟨rfl,rfl⟩:=h1;simpa using h2
 |t::ts,ds1,vs1,ts2,ds2,vs2,h1,h2=>by
  simp only[RepV]at h1;obtain⟨d,ds',v,vs',rfl,rfl,h3,h4⟩:=h1;exact⟨d,ds'++ds2,v,vs'++vs2,rfl,rfl,h3,h4.append h2⟩
theorem RepV.repL{m:Env}{b:Nat}:∀{ts:List Ty} {ds:List DV} {vs:List Value} {o:Nat},RepV m ts ds vs→(∀j,j<vs.length→m.ecell b (o+j)=vs[j]?)→RepL m ts ds b o
 | [],ds,vs,o,h,_=>by simp only[RepV]at h;simp only[RepL];exact h.1
 |t::ts,ds,vs,o,h,hc=>by
  simp only[RepV]at h;obtain⟨d,ds',v,vs',rfl,rfl,h3,h4⟩:=h;simp only[RepL];refine⟨d,ds',v,rfl,by simpa using hc 0 (by simp),h3,h4.repL fun j hj=>?_⟩
  have:=hc (j+1) (by simpa using hj)
  rw[show o+1+j=o+(j+1) by omega]
  simpa using this
theorem LI{α:Type}(cs:List α)(o a b:Nat):(cs.drop o).take (a+b)=(cs.drop o).take a++(cs.drop (o+a)).take b:=by
 rw[List.take_add,AEQ]
abbrev Ip(W:World):Env:=Al fun b=>W.heap[b]?
theorem WH{W:World}{b o:Nat}{v:Value}(h:W.cell? ⟨b,o,none⟩=some v):(Ip W).ecell b o=some v:=by
 unfold World.cell? at h;unfold Env.ecell Ip Al;simp only at h⊢;split at h
 ·rename_i c t p e;rw[e];simpa using h
 ·cases h
theorem jm{W:World}{a:Addr}{v:Value}(h:W.cell? a=some v):a.spot=none:=by
 unfold World.cell? at h;split at h
 ·split at h
  ·cases h
  ·rename_i hs;simpa using hs
 ·cases h
theorem QS{P:Program}{m:Env}{g:TypeId→Option (List Ty)}{cs:List Value}:∀{fs:List Field} {o:Nat} {ts:List Ty},OL P g o fs=some ts→
  (∀f∈fs,∀us,g f.type=some us→∃ds,RepV m us ds ((cs.drop f.offset).take (P.cellsOf f.type)))→∃ds,RepV m ts ds ((cs.drop o).take ts.length)
 | [],o,ts,h,_=>by
  simp only[OL,ACJ]at h;subst h;exact⟨[],by simp[RepV]⟩
 |f::fs,o,ts,h,hf=>by
  simp only[OL]at h;split at h
  ·rename_i us hus;split at h
   ·rename_i hc;simp only[ACH,ACY]at hc;split at h
    ·rename_i r hr;cases h;obtain⟨d1,h1⟩:=hf f (by simp) us hus
     obtain⟨d2,h2⟩:=QS hr fun f' hf'=>hf f' (by simp[hf'])
     refine⟨d1++d2,?_⟩
     rw[ACT,LI];rw[hc.1,←hc.2]at h1;exact h1.append h2
    ·cases h
   ·cases h
  ·cases h
theorem OM{m:Env}{us:List Ty}{cs:List Value}:∀(k o:Nat),(∀i,i<k→∃ds,RepV m us ds ((cs.drop (o+i*us.length)).take us.length))→∃ds,RepV m (List.replicate k us).flatten ds ((cs.drop o).take (k*us.length))
 |0,o,_=>⟨[],by simp[RepV]⟩
 |k+1,o,h=>by
  obtain⟨d1,h1⟩:=h 0 (by omega)
  obtain⟨d2,h2⟩:=OM k (o+us.length) fun i hi=>by
   obtain⟨ds,hd⟩:=h (i+1) (by omega)
   refine⟨ds,?_⟩
   rw[show o+us.length+i*us.length=o+(i+1)*us.length by rw[ADH];omega]
   exact hd
  refine⟨d1++d2,?_⟩
  rw[show (k+1)*us.length=us.length+k*us.length by rw[ADH];omega,LI,AD7,ADE]
  rw[AD3,ADf]at h1;exact h1.append h2
theorem SR{Q:Nat→List DV→Prop}:∀(n:Nat),(∀i,i<n→∃d,Q i d)→∃es:List (List DV),es.length=n∧∀i row,es[i]? =some row→Q i row
 |0,_=>⟨[],rfl,by simp⟩
 |n+1,h=>by
  obtain⟨es,h1,h2⟩:=SR n fun i hi=>h i (by omega)
  obtain⟨d,hd⟩:=h n (by omega)
  refine⟨es++[d],by simp[h1],fun i row hi=>?_⟩
  by_cases hlt:i<n
  ·rw[ACc (by omega)]at hi
   exact h2 i row hi
  ·rw[ACV (by omega)]at hi
   have:i-es.length=0:=by
    have:=(ACW.1 hi).1
    simp at this;omega
   rw[this]at hi;simp at hi;subst hi;have:i=n:=by omega
   rw[this];exact hd
theorem HO{H:Type}{enc:TypeId×Value→H}{P:Program}{W:World}{base:Nat}{held:Bool}:∀(n:Nat) (t:TypeId) (ts:List Ty),flat P n t=some ts→
  ∀(fuel:Nat) (cs:List Value) (x:DataW H×List MemPlace),DataW.trod enc P W base (fun _=>true) held fuel t cs=some x→∃ds,RepV (Ip W) ts ds cs
 |0,t,ts,h,_,_,_,_=>by simp[flat]at h
 |n+1,t,ts,h,fuel,cs,x,hx=>by
  simp only[flat]at h;split at h
  ·rename_i ht;cases h;obtain⟨b,rfl,_⟩:=DataW.trod_bool ht hx;exact⟨[.bool b],.bool b,[],.bool b,[],rfl,rfl,by simp only[Rep];exact⟨b,rfl,rfl⟩,rfl,rfl⟩
  ·rename_i k ht;cases h;obtain⟨z,rfl,_,hw⟩:=DataW.trod_int ht hx;simp only[Lit.wf,ACH,ACN]at hw;exact⟨[.int k z],.int k z,[],.int k z,[],rfl,rfl,by simp only[Rep];exact⟨z,rfl,rfl,hw.1,hw.2⟩,rfl,rfl⟩
  ·rename_i ht;cases h;obtain⟨s,rfl,_,hs⟩:=DataW.trod_string ht hx;exact⟨[.str s],.str s,[],.string s,[],rfl,rfl,by simp only[Rep];exact⟨s,rfl,rfl,hs⟩,rfl,rfl⟩
  ·rename_i e ht;split at h
   ·rename_i us hus;split at h
    ·rename_i hc;cases h;simp only[ACH,ACY,Nat.blt,ACn]at hc;have hone:∀{d:DV} {v:Value},Rep (Ip W) (.slice us) d v→∃ds,RepV (Ip W) [.slice us] ds [v]:=fun {d v} hr=>⟨[d],d,[],v,[],rfl,rfl,hr,rfl,rfl⟩
     rcases DataW.trod_slice ht hx with ⟨rfl,_⟩|⟨a,len,cap,elems,rest,fuel',_,rfl,_,hb,hl,hm,hlen,hel,hsp,_⟩
     ·refine hone (d:=.list []) ?_
      simp only[Rep];exact⟨[],none,0,rfl,rfl,ACv _,by simp,fun _=>rfl,.inl rfl⟩
     ·have hall:∀i,i<cap→∃cs',W.cells? base (a.add (i*P.cellsOf e)) (P.cellsOf e)=some cs'∧∃y,DataW.trod enc P W base (fun _=>true) held fuel' e cs'=some y:=by
       intro i hi
       by_cases hil:i<len
       ·have h1:=hel i hil
        rw[ACL (by omega)]at h1
        obtain⟨cs',h2,h3⟩:=AEX.1 h1;exact⟨cs',h2,_,h3⟩
       ·obtain⟨hr1,hr2⟩:=hsp rfl;have h1:=hr2 (i-len) (by omega)
        rw[ACL (by omega),show len+(i-len)=i by omega]at h1
        obtain⟨cs',h2,h3⟩:=AEX.1 h1;exact⟨cs',h2,_,h3⟩
      have hml:maxLen=maxLen:=rfl
      by_cases hcap:cap=0
      ·have:len=0:=by omega
       subst this;refine hone (d:=.list []) ?_
       simp only[Rep];exact⟨[],some a,cap,rfl,rfl,by simp,by simp,(fun e=>by cases e),.inl hcap⟩
      ·have hspot:a.spot=none:=by
        obtain⟨cs',h1,_⟩:=hall 0 (by omega)
        obtain⟨_,h2,h3⟩:=World.cells?_some h1;have h4:=h3 0 (by omega)
        rw[ACL (by omega),AD3]at h4
        exact jm (a:=a) h4
       obtain⟨b,off,spot⟩:=a;simp only at hspot;subst hspot;have hadd:∀off k,Addr.add ⟨b,off,none⟩ k=⟨b,off+k,none⟩:=fun off k=>by
        cases k with
        |zero=>rfl
        |succ k=>simp[Addr.add]
       obtain⟨es,he1,he2⟩:=SR (Q:=fun i row=>RepL (Ip W) us row b (off+i*us.length)) len fun i hi=>by
        obtain⟨cs',h1,y,h2⟩:=hall i (by omega)
        obtain⟨ds,hd⟩:=HO n e us hus fuel' cs' y h2;obtain⟨_,h3,h4⟩:=World.cells?_some h1;refine⟨ds,hd.repL fun j hj=>?_⟩
        have h5:=h4 j (by omega)
        rw[hadd,hadd,ACL hj]at h5;rw[ACL hj,hc.1];exact WH h5
       refine hone (d:=.list es) ?_
       simp only[Rep];refine⟨es,some ⟨b,off,none⟩,cap,rfl,by rw[he1],by omega,by omega,(fun e=>by cases e),.inr ⟨b,off,rfl,he2⟩⟩
    ·cases h
   ·cases h
  ·rename_i fs ht;split at h
   ·rename_i us hus;split at h
    ·rename_i hc;cases h;rw[ACY]at hc;obtain⟨xs,fuel',_,_,hcl,hxl,hfs⟩:=DataW.trod_struct ht hx;obtain⟨ds,hd⟩:=QS (m:=Ip W) (cs:=cs) hus fun f hf vs hg=>by
      obtain⟨i,hi⟩:=ACf.1 hf;have hi':fs[i]? =some f:=by simpa using hi
      have h1:=hfs i f hi'
      have hlt:i<xs.length:=by
       rw[hxl];exact (ACQ.1 hi').1
      rw[ACL hlt]at h1;exact HO n f.type vs hg fuel' _ _ h1
     refine⟨ds,?_⟩
     rw[AC1,hc,←hcl,AES]at hd;exact hd
    ·cases h
   ·cases h
  ·rename_i k e ht;split at h
   ·rename_i us hus;split at h
    ·rename_i hc;cases h;simp only[ACH,ACY]at hc;obtain⟨xs,fuel',_,_,hcl,hxl,hel⟩:=DataW.trod_array ht hx;obtain⟨ds,hd⟩:=OM (m:=Ip W) (us:=us) (cs:=cs) k 0 fun i hi=>by
      have h1:=hel i hi
      rw[ACL (by omega),←hc.1]at h1
      rw[ACk];exact HO n e us hus fuel' _ _ h1
     refine⟨ds,?_⟩
     rw[AC1,hc.2,←hcl,AES]at hd;exact hd
    ·cases h
   ·cases h
  ·cases h
mutual
def Fm{H:Type}:DataW H→Option (List Value)
 |.lit (.int k z)=>some [.int k z]
 |.agg ps=>ON ps
 |_=>none
def ON{H:Type}:List (DataW H)→Option (List Value)
 | []=>some []
 |d::ds=>match Fm d,ON ds with
  |some a,some b=>some (a++b)
  |_,_=>none
end
def LJ(P:Program):Nat→TypeId→Bool
 |0,_=>false
 |n+1,t=>match P.underlying t with
  |some (.int _)=>true
  |some (.array k e)=>LJ P n e&&Nat.beq (k*P.cellsOf e) (P.cellsOf t)
  |_=>false
theorem Yl{H:Type}{enc:TypeId×Value→H}{P:Program}{W:World}{base:Nat}{sp:Nat→Bool}{held:Bool}:∀(n:Nat) (t:TypeId),LJ P n t=true→
  ∀(fuel:Nat) (cs:List Value) (x:DataW H×List MemPlace) (vs:List Value),DataW.trod enc P W base sp held fuel t cs=some x→Fm x.1=some vs→cs=vs
 |0,t,h,_,_,_,_,_,_=>by simp[LJ]at h
 |n+1,t,h,fuel,cs,x,vs,hx,hl=>by
  simp only[LJ]at h;split at h
  ·rename_i k ht;obtain⟨z,rfl,rfl,_⟩:=DataW.trod_int ht hx;simp only[Fm,ACJ]at hl;exact hl
  ·rename_i k e ht;simp only[ACH,ACY]at h;obtain⟨xs,fuel',_,rfl,hcl,hxl,hel⟩:=DataW.trod_array ht hx;simp only[Fm]at hl;have key:∀(ys:List (DataW H×List MemPlace)) (o:Nat) (us:List Value),ON (ys.map (·.1))=some us→(∀i y,ys[i]? =some y→DataW.trod enc P W base sp held fuel' e ((cs.drop ((o+i)*P.cellsOf e)).take (P.cellsOf e))=some y)→(cs.drop (o*P.cellsOf e)).take (ys.length*P.cellsOf e)=us:=by
    intro ys
    induction ys with
    |nil=>
     intro o us hu _;simp only[ACS,ON,ACJ]at hu;simp[hu]
    |cons y ys ih=>
     intro o us hu hy;simp only[ACO,ON]at hu;split at hu
     ·rename_i a b ha hb;cases hu;have h1:=Yl n e h.1 fuel' _ y a (by have:=hy 0 y rfl;simpa using this) ha
      have h2:=ih (o+1) b hb fun i z hz=>by
       have:=hy (i+1) z (by simpa using hz)
       rw[show o+1+i=o+(i+1) by omega]
       exact this
      rw[ACe,show (ys.length+1)*P.cellsOf e=P.cellsOf e+ys.length*P.cellsOf e by rw[ADH];omega,LI,h1,show o*P.cellsOf e+P.cellsOf e=(o+1)*P.cellsOf e by rw[ADH];omega,h2]
     ·cases hu
   have:=key xs 0 vs hl fun i y hy=>by
    have hlt:=(ACW.1 hy).1
    rw[ACk,hel i (by omega),hy]
   rw[AD3,AC1,hxl,h.2,←hcl,AES]at this;exact this
  ·cases h
theorem jn{m:Env}{b:Nat}:∀(vs:List Value) (o:Nat),(∀j,j<vs.length→m.ecell b (o+j)=vs[j]?)→VC m b o (vs.map .sc)
 | [],_,_=>by simp[VC]
 |v::vs,o,h=>by
  simp only[ACO,VC,V];refine⟨⟨v,by simpa using h 0 (by simp),rfl⟩,jn vs (o+1) fun j hj=>?_⟩
  have:=h (j+1) (by simpa using hj)
  rw[show o+1+j=o+(j+1) by omega]
  simpa using this
theorem OO{P:Program}{W:World}{name:String}{g:Nat}{t:TypeId}{cs:Array Value}{fuel:Nat}{d:DataW Unit}{p:List MemPlace}{sp:Nat→Bool}{held:Bool}{l:List AV}{vs:List Value}(n:Nat)(hg:P.globalNamed name=some g)(hv:W.var? P name=some cs)
  (hd:DataW.trod (fun _=>()) P W 0 sp held fuel t cs.toList=some (d,p)) (ha:LJ P n t=true) (hl:Fm d=some vs) (he:l=vs.map .sc):VC (Ip W) g 0 l:=by
 have hcs:=Yl n t ha fuel _ _ vs hd hl
 rw[he];refine jn vs 0 fun j hj=>?_
 rw[ACk,←hcs];have h1:=World.var?_cell hg hv j
 have hj':j<cs.size:=by rw[←hcs]at hj;simpa using hj
 rw[ACq hj']at h1;rw[WH h1];simp[hj']
def fN{α:Type}(n:Nat)(k:Nat→α):α:=@Nat.rec (fun _=>α) (k 0) (fun m _=>k (Nat.succ m)) n
theorem SB{α:Type}(n:Nat)(k:Nat→α):fN n k=k n:=by cases n<;>rfl
def fL{α:Type}:List Nat→(List Nat→α)→α
 | [],k=>k []
 |a::l,k=>fN a fun a=>fL l fun l=>k (a::l)
theorem MY{α:Type}:∀(l:List Nat) (k:List Nat→α),fL l k=k l
 | [],_=>rfl
 |a::l,k=>by
  unfold fL;rw[SB,MY l]
def X6:SX→Option DV
 |.ki k z=>some (.int k z)
 |.kb b=>some (.bool b)
 |.ks s=>some (.str s)
 |_=>none
def Lv:List SX→Option (List DV)
 | []=>some []
 |e::es=>match X6 e,Lv es with
  |some d,some ds=>some (d::ds)
  |_,_=>none
theorem aL{R:Rho}{e:SX}{d:DV}(h:X6 e=some d):den R e=d:=by
 cases e<;>simp only[X6,ACJ,reduceCtorEq]at h<;>subst h<;>rfl
theorem Nz{R:Rho}:∀{es:List SX} {ds:List DV},Lv es=some ds→es.map (den R)=ds
 | [],ds,h=>by
  simp only[Lv,ACJ]at h;subst h;rfl
 |e::es,ds,h=>by
  simp only[Lv]at h;split at h
  ·rename_i d ds' h1 h2;cases h;rw[ACO,aL h1,Nz h2]
  ·cases h
def exV:Ty→DV→Option AV
 |.int _,.int k z=>match z with
  |.ofNat n=>fN n fun n=>some (.sc (.int k (.ofNat n)))
  |.negSucc n=>fN n fun n=>some (.sc (.int k (.negSucc n)))
 |.bool,.bool b=>match b with
  |true=>some (.sc (.bool true))
  |false=>some (.sc (.bool false))
 |.str,.str s=>some (.sc (.string s))
 |_,_=>none
def X7:List Ty→List DV→Option (List AV)
 | [],_=>some []
 |t::ts,d::ds=>match exV t d,X7 ts ds with
  |some a,some as=>some (a::as)
  |_,_=>none
 |_::_,[]=>none
def PJ:SK→List DV→Option AV
 |.agg ts,ds=>match X7 ts ds with
  |some as=>some (.agg as)
  |none=>none
 |.one t,d::_=>exV t d
 |.one _,[]=>none
 |.con f,_=>some (.sc (.func (.func f) #[] #[]))
 |.nil,_=>some (.sc (.slice none 0 0))
def N0:Sig→List (List DV)→Option (List AV)
 | [],_=>some []
 |g::sg,d::ds=>match PJ g d,N0 sg ds with
  |some a,some as=>some (a::as)
  |_,_=>none
 |_::_,[]=>none
def mZ:Sig→List (List DV)→Option AV
 | [g],d::_=>PJ g d
 |sg,ds=>match N0 sg ds with
  |some as=>some (.tup as)
  |none=>none
theorem qI{m m':Env}{t:Ty}{d:DV}{v:Value}{a:AV}(h:exV t d=some a)(hv:Rep m t d v):V m' a v:=by
 cases t with
 |int k=>
  simp only[Rep]at hv;obtain⟨z,rfl,rfl,_,_⟩:=hv;cases z with
  |ofNat n=>
   simp only[exV,SB,ACJ]at h;subst h;simp only[V]
  |negSucc n=>
   simp only[exV,SB,ACJ]at h;subst h;simp only[V]
 |bool=>
  simp only[Rep]at hv;obtain⟨b,rfl,rfl⟩:=hv;cases b<;>simp only[exV,ACJ]at h<;>subst h<;>simp only[V]
 |str=>
  simp only[Rep]at hv;obtain⟨s,rfl,rfl,_⟩:=hv;simp only[exV,ACJ]at h;subst h;simp only[V]
 |slice cs=>simp only[exV,reduceCtorEq]at h
theorem jU{m m':Env}:∀{ts:List Ty} {ds:List DV} {vs:List Value} {as:List AV},X7 ts ds=some as→RepV m ts ds vs→VL m' as vs
 | [],ds,vs,as,h,hv=>by
  simp only[X7,ACJ]at h;subst h;simp only[VL];exact hv.2
 |t::ts,ds,vs,as,h,hv=>by
  obtain⟨d,ds',v,vs',rfl,rfl,h1,h2⟩:=hv;simp only[X7]at h;split at h
  ·rename_i a as' e1 e2;cases h;simp only[VL];exact⟨v,vs',rfl,qI e1 h1,jU e2 h2⟩
  ·cases h
theorem bC{m m':Env}{g:SK}{ds:List DV}{v:Value}{a:AV}(h:PJ g ds=some a)(hv:RepOne m g ds v):V m' a v:=by
 cases g with
 |agg ts=>
  obtain⟨xs,rfl,h1⟩:=hv;simp only[PJ]at h;split at h
  ·rename_i as e;cases h;simp only[V];exact⟨xs,rfl,jU e h1⟩
  ·cases h
 |one t=>
  obtain⟨d,rfl,h1⟩:=hv;exact qI h h1
 |con f=>
  simp only[PJ,ACJ]at h;subst h;simp only[V];exact hv.2
 |nil=>
  simp only[PJ,ACJ]at h;subst h;simp only[V];exact hv.2
theorem X8{m m':Env}:∀{sg:Sig} {ds:List (List DV)} {vs:List Value} {as:List AV},N0 sg ds=some as→RepArgs m sg ds vs→VL m' as vs
 | [],ds,vs,as,h,hv=>by
  simp only[N0,ACJ]at h;subst h;simp only[VL];exact hv.2
 |g::sg,ds,vs,as,h,hv=>by
  obtain⟨d,ds',v,vs',rfl,rfl,h1,h2⟩:=hv;simp only[N0]at h;split at h
  ·rename_i a as' e1 e2;cases h;simp only[VL];exact⟨v,vs',rfl,bC e1 h1,X8 e2 h2⟩
  ·cases h
theorem ui{m m':Env}{rs:Sig}{ds:List (List DV)}{v:Value}{a:AV}(h:mZ rs ds=some a)(hv:RepRes m rs ds v):V m' a v:=by
 unfold RepRes at hv;split at hv
 ·obtain⟨d,rfl,h1⟩:=hv;exact bC h h1
 ·rename_i hn;obtain⟨xs,rfl,h1⟩:=hv;unfold mZ at h;split at h
  ·exact absurd rfl (hn _)
  ·split at h
   ·rename_i as e;cases h;simp only[V];exact⟨xs,rfl,X8 e h1⟩
   ·cases h
def ma(sg rs:Sig)(preB:List DV→Bool)(F:List DV→List (List DV))(args:List AV)(h:AHeap):Out:=
 match DG sg args with
 |some es=>match Lv es.flatten with
  |some ds=>match preB ds with
   |true=>match mZ rs (F ds) with
    |some a=>some (a,h)
    |none=>none
   |false=>none
  |none=>none
 |none=>none
theorem sB[O:Orc]{P:Program}{G:Nat→Option (List AV)}{f:FuncId}{sg rs:Sig}{pre:List DV→Prop}{preB:List DV→Bool}{F:List DV→List (List DV)}(hG:BO G)
  (hf:Am P G f sg rs pre F) (hpre:∀ds,preB ds=true→pre ds):
  BF P G (fun g args h=>if g=f then ma sg rs preB F args h else none):=by
 intro g args h av h' hs;simp only at hs;split at hs
 ·rename_i e;subst e;unfold ma at hs;split at hs
  ·rename_i es he;split at hs
   ·rename_i ds hds;split at hs
    ·rename_i hp;split at hs
     ·rename_i a ha;cases hs;refine⟨hf.1,fun m vs w hv hr hg=>?_⟩
      have hargs:=DQ he hv
      have hfl:(es.map (·.map (den m.R))).flatten=ds:=by rw[←Nz (R:=m.R) hds,AEI]
      refine (hf.2 m.E _ vs w hr.E (RepArgs.emono (m:=m) (m':=Al m.E) (fun _ _ e=>e) hargs) ?_ ?_).mono ?_
      ·rw[hfl];exact hpre ds hp
      ·intro g cs e;have key:∀(cs:List AV) (o:Nat),(∀c∈cs,∃u,c=AV.sc u)→VC m g o cs→VC (Al m.E) g o cs:=by
        intro cs
        induction cs with
        |nil=>intro o _ _;simp[VC]
        |cons c cs ih=>
         intro o hp hv;simp only[VC]at hv⊢;obtain⟨⟨v,h1,h2⟩,h3⟩:=hv;obtain⟨u,rfl⟩:=hp c (by simp)
         exact⟨⟨v,h1,by simpa[V]using h2⟩,ih _ (fun c hc=>hp c (ACu _ hc)) h3⟩
       exact key cs 0 (hG g cs e) (hg.g g cs e)
      ·rintro e w' ⟨v,E',rfl,hgr,hres⟩;have hle:m.le {m with E:=E'}:=⟨⟨fun _ h=>h,fun _ _=>rfl,fun b o e=>hgr.le b o e,rfl,rfl⟩,fun _ _ h=>h,fun _ h=>h⟩
       have none_of:∀b,b<w.heap.size→m.E b=none→E' b=none:=by
        intro b hb he;cases hE:E' b with
        |none=>rfl
        |some o=>
         rcases (hgr.ok b o hE).2 with h1|h1
         ·rw[he]at h1;cases h1
         ·omega
       refine⟨v,{m with E:=E'},rfl,hle,?_,⟨hr.next,hr.lim,hr.res,fun b x hb=>?_,fun b o e=>(hgr.ok b o e).1,fun b o e=>?_,fun id o ho=>?_,hr.injL,hgr.io.trans hr.io⟩⟩
       ·rw[hfl]at hres;exact ui ha hres
       ·have h1:=hr.EF b x hb
        have h2:=(ACQ.1 (hr.F b x hb)).1
        exact none_of b h2 h1
       ·have h2:=(ACQ.1 (hr.F b o e)).1
        rw[hgr.old b h2];exact hr.F b o e
       ·obtain⟨g1,g2,g3⟩:=hr.objL id o ho;exact⟨g1,fun hl=>⟨none_of _ (g3.lt hl) (g2 hl).1,(g2 hl).2⟩,g3.wmove hle.towle fun hl=>hgr.old _ (g3.lt hl)⟩
     ·cases hs
    ·cases hs
   ·cases hs
  ·cases hs
 ·cases hs
end Go.AM
end
