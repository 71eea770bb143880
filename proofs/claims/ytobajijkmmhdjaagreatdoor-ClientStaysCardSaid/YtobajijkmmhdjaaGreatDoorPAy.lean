/-
  A part of the proof of ClientStays (the machine on named data, and the contracts of the functions that the law reaches). Its names and spaces were shortened by a program of ours.
-/
import Derived.Test.YtobajijkmmhdjaaGreatDoorPAw
set_option linter.all false
noncomputable section
namespace Go.Proofs.YtobajijkmmhdjaaGreatDoor.Se
open Go Go.AM
abbrev fSw:Nat:=9
def KF:Nat→Nat→Nat→List SX
 |_,_,0=>[]
 |a,b,n+1=>.bin .eql (.v a) (.v b)::KF (Nat.succ a) (Nat.succ b) n
abbrev oD:Pln:=.done [[.kb false]]
def pSw:Pln:=.ask (eql (.v 0) (.v 81)) (.ask (eql (.v 1) (.v 82)) (.ask (.all (KF 2 83 3)) (.done [[.all (KF 5 86 76)]]) oD) oD) oD
set_option maxRecDepth 100000
theorem kSw(I:Nat→List DV→DV):(hasB fSw&&AJ [.one .bool] (Bc I (AR []) [] [] fSw [.agg Ks,.agg Ks]) [] pSw)=true:=by kernel_rfl
def Fsw(ds:List DV):List (List DV):=evP (AA Ax ds) pSw
theorem AAm:Am Tryz.prog G fSw [.agg Ks,.agg Ks] [.one .bool] (fun _=>True) Fsw:=by
 have hk:=kSw Ax
 rw[ACH]at hk;refine Av (AG (l:=[]) trivial) [] [] AL hk.1 pSw hk.2 ?_
 intro ds _ _;refine Bq ?_
 generalize AA Ax ds.flatten=R;obtain⟨b1,k1⟩:=Bn R (.v 0) (.v 81);obtain⟨b2,k2⟩:=Bn R (.v 1) (.v 82);obtain⟨b3,k3⟩:=KW R (KF 2 83 3);exact Ai k1 (fun _=>Ai k2 (fun _=>Ai k3 (fun _=>trivial) (fun _=>trivial)) (fun _=>trivial)) (fun _=>trivial)
def Et(d:DV):Prop:=AZ .eql d d=.bool true
theorem RI(k:IntKind)(z:Int):Et (.int k z):=by
 unfold Et;simp[AZ]
theorem ZH(s:ByteArray):Et (.str s):=by
 unfold Et;simp[AZ]
theorem VI{ts:List Ty}{ds:List DV}(h:KL ts ds)(hs:∀t∈ts,(∃k,t=.int k)∨t=.str):∀j,j<ts.length→Et (ds.getD j (.bool false)):=by
 intro j hj;have h1:=IK h j ts[j] (ACL hj)
 rcases hs _ (AC7 hj) with ⟨k,hk⟩|hk
 ·rw[hk]at h1;obtain⟨z,hz⟩:=h1;rw[hz];exact RI k z
 ·rw[hk]at h1;obtain⟨z,hz⟩:=h1;rw[hz];exact ZH z
theorem Oi{R:Rho}:∀(n a b:Nat),(∀j,j<n→R.ρ (a+j)=R.ρ (b+j)∧Et (R.ρ (a+j)))→den.denAll R (KF a b n)=true
 |0,_,_,_=>rfl
 |n+1,a,b,h=>by
  have ih:=Oi (R:=R) n (a+1) (b+1) (fun j hj=>by
   have:=h (j+1) (by omega)
   rw[show a+1+j=a+(j+1) by omega,show b+1+j=b+(j+1) by omega]
   exact this)
  obtain⟨h1,h2⟩:=h 0 (by omega)
  have h3:den R (.bin .eql (.v a) (.v b))=.bool true:=by
   show AZ .eql (R.ρ a) (R.ρ b)=_
   rw[show R.ρ b=R.ρ a from h1.symm];exact h2
  show (isT (den R (.bin .eql (.v a) (.v b)))&&den.denAll R (KF (a+1) (b+1) n))=true
  rw[h3,ih];rfl
theorem cI{W:List DV}(hl:W.length=81)(hs:∀j,j<81→Et (W.getD j (.bool false))):Fsw (W++W)=[[.bool true]]:=by
 have hρ:∀k,k<81→(AA Ax (W++W)).ρ k=W.getD k (.bool false):=fun k hk=>by
  show (W++W).getD k (.bool false)=_
  rw[ACI,ACc (by omega),←ACI]
 have hρ2:∀k,(AA Ax (W++W)).ρ (81+k)=W.getD k (.bool false):=fun k=>by
  show (W++W).getD (81+k) (.bool false)=_
  rw[ACI,ACV (by omega),hl,show 81+k-81=k by omega,←ACI]
 unfold Fsw;generalize AA Ax (W++W)=R at *;have one:∀k,k<81→R.ρ k=R.ρ (81+k)∧Et (R.ρ k):=fun k hk=>by
  rw[hρ k hk,hρ2 k];exact⟨rfl,hs k hk⟩
 have q:∀k,k<81→den R (eql (.v k) (.v (81+k)))=.bool true:=fun k hk=>by
  obtain⟨h1,h2⟩:=one k hk;show AZ .eql (R.ρ k) (R.ρ (81+k))=_
  rw[←h1];exact h2
 have a1:den R (.all (KF 2 83 3))=.bool true:=by
  show DV.bool (den.denAll R (KF 2 83 3))=_
  rw[Oi 3 2 83 (fun j hj=>by rw[show 83+j=81+(2+j) by omega];exact one _ (by omega))]
 have a2:den R (.all (KF 5 86 76))=.bool true:=by
  show DV.bool (den.denAll R (KF 5 86 76))=_
  rw[Oi 76 5 86 (fun j hj=>by rw[show 86+j=81+(5+j) by omega];exact one _ (by omega))]
 refine GY (Q:=fun Z=>Z=[[DV.bool true]]) ?_
 unfold pSw;refine Bu (q 0 (by omega)) (fun _=>Bu (q 1 (by omega)) (fun _=>Bu a1 (fun _=>?_) (fun g=>by cases g)) (fun g=>by cases g)) (fun g=>by cases g)
 show[[den R (.all (KF 5 86 76))]]=_
 rw[a2]
end Go.Proofs.YtobajijkmmhdjaaGreatDoor.Se
end
