/-
  A part of the proof of ClientStays (the machine on named data, and the contracts of the functions that the law reaches). Its names and spaces were shortened by a program of ours.
-/
import Derived.Test.YtobajijkmmhdjaaGreatDoorPAw
set_option linter.all false
namespace Go.Proofs.YtobajijkmmhdjaaGreatDoor.Se
open Go Go.AM
set_option maxRecDepth 100000
theorem AAk(I:Nat→List DV→DV):((SLi 2000005).ok&&(Au (SLi 2000005) pLi&&AW (SLi 2000005).L (B1 I (AR [eKn]) [] [] Oh) [] pLi))=true:=by kernel_rfl
theorem AAl(I:Nat→List DV→DV):((SLi 2000015).ok&&(Au (SLi 2000015) pLi&&AW (SLi 2000015).L (B1 I (AR [eKn]) [] [] Oh) [] pLi))=true:=by kernel_rfl
theorem kH{I:Nat→List DV→DV}(i1:I 132=fun ds=>.list (Fs ds))(i2:I 193=fun ds=>.bool (TF ds))(i3:I 194=fun ds=>.list (FL GJ ds)){id:Nat}(hk:((SLi id).ok&&(Au (SLi id) pLi&&AW (SLi id).L (B1 I (AR [eKn]) [] [] Oh) [] pLi))=true):BJ Tryz.prog G I Oh (SLi id).L:=by
 refine B5 (F:=GJ) (Inv:=TG) (μ:=fj) (AG (l:=[eKn]) ⟨AP AI (sX I) (fun ds=>congrFun i1 ds) _ (by kernel_rfl),trivial⟩) (sub:=[]) trivial (lps:=[]) AL (fun ds=>congrFun i3 ds) pLi hk ?_ (AAj i1)
 intro ds h hp;obtain⟨d7,g7,t7⟩:=BL (k:=7) (t:=.str) h rfl;obtain⟨d84,g84,t84⟩:=BL (k:=84) (t:=tDs) h rfl;obtain⟨d167,g167,t167⟩:=BL (k:=167) (t:=tDs) h rfl;obtain⟨d168,g168,t168⟩:=BL (k:=168) (t:=tI) h rfl;obtain⟨s,rfl,_⟩:=t7.str;obtain⟨l,rfl,_⟩:=t84.list;obtain⟨l',rfl,hml,_⟩:=t167.list;obtain⟨k,rfl,_⟩:=t168.i64;have gd:∀{j:Nat} {d:DV},ds[j]? =some d→ds.getD j (.bool false)=d:=by
  intro j d hj;rw[ACI,hj];rfl
 have p1:=hp (eql (.v 168) (k64 0),true) (by simp[SLi])
 have p2:=hp (.app 193 (AH 2 83++[.v 167]),true) (by simp[SLi])
 have p3:=hp (lss (k64 1000) (.len (.v 7)),false) (by simp[SLi])
 have p4:=hp (lss (k64 1000000) (.len (.v 84)),false) (by simp[SLi])
 have e7:den (AA I ds) (.v 7)=.str s:=gd g7
 have e84:den (AA I ds) (.v 84)=.list l:=gd g84
 have e167:den (AA I ds) (.v 167)=.list l':=gd g167
 have e168:den (AA I ds) (.v 168)=.int .i64 k:=gd g168
 rw[AN e168 (d_k .i64 0)]at p1;rw[AB (d_k .i64 1000) (Az e7)]at p3;rw[AB (d_k .i64 1000000) (AF e84)]at p4;simp only[DV.bool.injEq,ACN,ACK,ACZ]at p1 p3 p4;generalize hA:(AH 2 83++[SX.v 167]).map (den (AA I ds))=A;have p2:I 193 A=.bool true:=by
  rw[←hA];have h1:den (AA I ds) (.app 193 (AH 2 83++[.v 167]))=.bool true:=p2
  rw[AO]at h1;exact h1
 rw[i2]at p2;have p2:TF A=true:=DV.bool.inj p2
 have p2:qp A:=by
  unfold TF at p2;exact @of_decide_eq_true _ (Classical.propDecidable _) p2
 obtain⟨m,m',q1,q2,q3,q4⟩:=p2;have a82:A.getD 82 (.bool false)=.list l:=by rw[←hA];exact e84
 have a83:A.getD 83 (.bool false)=.list l':=by rw[←hA];exact e167
 rw[a82]at q1;rw[a83]at q2;cases q1;cases q2;exact⟨s,l,l',k,gd g7,by omega,gd g84,by omega,gd g167,gd g168,by omega,by omega,hml,q3,q4⟩
end Go.Proofs.YtobajijkmmhdjaaGreatDoor.Se
