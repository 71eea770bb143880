/-
  A part of the proof of QueryValues (the machine on named data, and the contracts of the functions that the law reaches): Q13 Q14 Q15.
-/
import Derived.Test.YtholilpmihngaaaGreatDoorKa
import Derived.Test.YtholilpmihngaaaGreatDoorKd
set_option linter.all false
set_option linter.unusedVariables false
set_option linter.unusedSimpArgs false
set_option linter.unusedSectionVars false
namespace Go.Proofs.YtholilpmihngaaaGreatDoor
open Go Go.AM
/-! ### the document's Expr -/
noncomputable def TRx : Tmpl := { tm := [(1, .ptr 0 0), (3, .sy tI (.v 1)), (8, .sy tE (.v 0))], ob := [(0, blkE 28)], src := [.tm 8 tE, .tm 3 tI] }
noncomputable def YRx : Tmpl := { tm := [(8, .sy tE (.v 0))], ob := [(0, blkE 28)], src := [.tm 8 tE] }
noncomputable def NRx : Tmpl := { tm := [(2, .sc (.bool false)), (8, .sy tE (.v 0))], ob := [(0, blkE 28)], src := [.tm 8 tE] }
noncomputable def SRx : StdL := { n := 133, T := TRx, tys := [tE, tI], pre := [(eql (.v 1) (k64 0), true), (lss (k64 300) (.len (.v 0)), false)], f := 111, two := true, keep := [0], yes := (.exit 0, YRx, 0), no := (.ret, NRx, 0) }
noncomputable def eRr : Ent := eFn 20 [.agg tV] [.one .bool] [] 12
theorem eRr_ok : EntsOK Tryz.prog G theI [eRr] := ⟨eFn_ok plainG (pre_true fnRight) (fun _ => rfl) [] (by kernel_rfl), trivial⟩
noncomputable abbrev codeRx : Code := loopAt 19 0
noncomputable abbrev nC (c : Nat) : SX := .at (.v 0) (.v 1) c
noncomputable abbrev nxR : RPln := .next [.v 0, add (.v 1) (k64 1)]
noncomputable abbrev exR : RPln := .exit false [.v 0]
noncomputable abbrev inR (c : Nat) (p : RPln) : RPln := .ask (lss (nC c) (k64 0)) exR (.ask (lss (nC c) (.v 1)) p exR)
noncomputable abbrev opR (n : Nat) : RPln := .ask (lss (nC 1) (k64 1)) exR (.ask (lss (k64 n) (nC 1)) exR nxR)
noncomputable def byK (x : SX) (n : Nat) (t f : RPln) : RPln := .ask (eql x (k64 n)) (knowR (kindK x n 12) t) f
noncomputable abbrev rx1 : SX := .at (.app 12 [nC 6, nC 7, nC 8]) (k64 0) 0
noncomputable abbrev noneR : RPln := .ask (lss (nC 0) (k64 1)) exR (.ask (lss (k64 10) (nC 0)) exR .never)
noncomputable abbrev bodyRx : RPln :=
  byK (nC 0) 1 (.ask rx1 nxR exR) (byK (nC 0) 2 nxR (byK (nC 0) 3 (inR 2 nxR) (byK (nC 0) 4 (inR 2 nxR) (byK (nC 0) 5 (inR 2 (inR 3 nxR)) (byK (nC 0) 6 (inR 2 (inR 3 nxR)) (byK (nC 0) 7 (inR 2 (inR 3 (opR 6))) (byK (nC 0) 8 (inR 2 (inR 3 (opR 5)))
    (byK (nC 0) 9 (inR 2 nxR) (byK (nC 0) 10 (inR 2 nxR) (.ask (lss (nC 0) (k64 5)) noneR noneR))))))))))
noncomputable def pRx : RPln :=
  .ask (lss (.v 1) (.len (.v 0)))
    (.know (lss (.v 1) (k64 0)) false (.ask (lss (k64 0) (.v 1)) bodyRx bodyRx))
    (.exit true [.v 0])
theorem okRx : (SRx.ok && (planOK SRx pRx && checkRound SRx.L (roundS theI (entS [eRr]) [] [] codeRx) [] pRx)) = true := by kernel_rfl
def InvRx (ds : List DV) : Prop := ∃ l i, ds = [.list l, .int .i64 i] ∧ 0 ≤ i ∧ i ≤ l.length ∧ l.length ≤ 300 ∧ ∀ r ∈ l, IsL tN r
theorem nodeC_of {r : List DV} (h : IsL tN r) : NodeC r := by
  obtain ⟨k, o, a, b, t, nm, vk, vn, vs, rfl⟩ := is_n h
  exact ⟨k, o, a, b, t, nm, vk, vn, vs, rfl⟩
theorem kids_no {k : Int} (h : k < 1 ∨ 10 < k) : kidsZ k = -1 := by
  unfold kidsZ
  rw [if_neg (by omega), if_neg (by omega), if_neg (by omega)]
theorem loopRx : LoopOK Tryz.prog G theI codeRx SRx.L := by
  refine loop_std (F := FexL) (Inv := InvRx) (μ := muEx) (entS_ok eRr_ok) (sub := []) trivial (lps := []) noLoops (fun _ => rfl) pRx okRx ?_ ?_
  · intro ds h hp
    simp only [SRx, IsL] at h
    obtain ⟨d0, _, rfl, h0, d1, _, rfl, h1, rfl⟩ := h
    obtain ⟨l, rfl, hl, hr⟩ := Is.lst h0
    obtain ⟨i, rfl, _⟩ := h1.i64
    have p1 := hp (eql (.v 1) (k64 0), true) (by simp [SRx])
    have p2 := hp (lss (k64 300) (.len (.v 0)), false) (by simp [SRx])
    have e0 : den (rhoOf theI [DV.list l, .int .i64 i]) (.v 0) = .list l := rfl
    have e1 : den (rhoOf theI [DV.list l, .int .i64 i]) (.v 1) = .int .i64 i := rfl
    rw [d_eql e1 (d_k .i64 0)] at p1
    rw [d_lss (d_k .i64 300) (d_lenL e0)] at p2
    simp only [DV.bool.injEq, decide_eq_true_eq, decide_eq_false_iff_not] at p1 p2
    exact ⟨l, i, rfl, by omega, by omega, by omega, hr⟩
  · rintro ds ⟨l, i, rfl, hi0, hi1, hl, hr⟩
    generalize hR : rhoOf theI [DV.list l, .int .i64 i] = R
    have hI : R.I = theI := by rw [← hR]; rfl
    have e0 : den R (.v 0) = .list l := by rw [← hR]; rfl
    have e1 : den R (.v 1) = .int .i64 i := by rw [← hR]; rfl
    show goalR 1 FexL _ _ R _ pRx
    unfold pRx
    have hF : FexL [.list l, .int .i64 i] = (okFrom l i.toNat, []) := rfl
    refine r_ask (d_lss e1 (d_lenL e0)) (fun h => ?_) (fun h => ?_)
    · simp only [decide_eq_true_eq] at h
      have hil : i.toNat < l.length := by omega
      have hs := okFrom_step hil
      rw [decide_eq_true (show i.toNat ≠ 300 by omega), Bool.true_and] at hs
      have hadd := d_add (R := R) e1 (d_k .i64 1) (by omega) (by omega)
      obtain ⟨k, o, a, b, t, nm, vk, vn, vs, hrow⟩ := nodeC_of (hr _ (List.getElem_mem hil))
      have hget : l.getD i.toNat [] = [.int .i64 k, .int .i64 o, .int .i64 a, .int .i64 b, .str t, .str nm, .int .i64 vk, .int .i64 vn, .str vs] := by rw [getD_lt hil]; exact hrow
      have dc : ∀ c, den R (nC c) = ([.int .i64 k, .int .i64 o, .int .i64 a, .int .i64 b, .str t, .str nm, .int .i64 vk, .int .i64 vn, .str vs] : List DV).getD c (.bool false) := by
        intro c
        rw [d_at c e0 e1, hget]
      have c0 : den R (nC 0) = .int .i64 k := dc 0
      have c1 : den R (nC 1) = .int .i64 o := dc 1
      have c2 : den R (nC 2) = .int .i64 a := dc 2
      have c3 : den R (nC 3) = .int .i64 b := dc 3
      have hn : nodeR (l.getD i.toNat []) i.toNat = nodeOK k o a b vk vn vs.size i := by
        rw [hget]
        show nodeOK k o a b vk vn vs.size ((i.toNat : Nat) : Int) = _
        rw [show ((i.toNat : Nat) : Int) = i by omega]
      rw [hn] at hs
      have ex : nodeOK k o a b vk vn vs.size i = false → goalR 1 FexL InvRx muEx R [.list l, .int .i64 i] exR := by
        intro hf
        show FexL _ = (false, _)
        rw [hF, hs, hf]
        rfl
      have nx : nodeOK k o a b vk vn vs.size i = true → goalR 1 FexL InvRx muEx R [.list l, .int .i64 i] nxR := by
        intro hf
        have hτ : ([.v 0, add (.v 1) (k64 1)] : List SX).map (den R) = [.list l, .int .i64 (i + 1)] := by
          simp only [List.map_cons, List.map_nil, e0, hadd]
          rfl
        show InvRx _ ∧ muEx _ < muEx _ ∧ FexL _ = FexL _
        rw [hτ]
        refine ⟨⟨l, i + 1, rfl, by omega, by omega, hl, hr⟩, ?_, ?_⟩
        · show l.length - (i + 1).toNat < l.length - i.toNat
          omega
        · show (okFrom l (i + 1).toNat, _) = (okFrom l i.toNat, _)
          rw [hs, hf, show (i + 1).toNat = i.toNat + 1 by omega]
          rfl
      have inr : ∀ {c : Nat} {z : Int} {p : RPln}, den R (nC c) = .int .i64 z → (¬ (0 ≤ z ∧ z < i) → nodeOK k o a b vk vn vs.size i = false) → ((0 ≤ z ∧ z < i) → goalR 1 FexL InvRx muEx R [.list l, .int .i64 i] p) → goalR 1 FexL InvRx muEx R [.list l, .int .i64 i] (inR c p) := by
        intro c z p hz hbad hp
        refine r_ask (d_lss hz (d_k .i64 0)) (fun q => ex (hbad ?_)) (fun q => r_ask (d_lss hz e1) (fun q2 => hp ?_) fun q2 => ex (hbad ?_))
        all_goals simp only [decide_eq_true_eq, decide_eq_false_iff_not] at *
        all_goals omega
      have opr : ∀ n : Nat, (¬ (1 ≤ o ∧ o ≤ n) → nodeOK k o a b vk vn vs.size i = false) → ((1 ≤ o ∧ o ≤ n) → nodeOK k o a b vk vn vs.size i = true) → goalR 1 FexL InvRx muEx R [.list l, .int .i64 i] (opR n) := by
        intro n hbad hp
        refine r_ask (d_lss c1 (d_k .i64 1)) (fun q => ex (hbad ?_)) (fun q => r_ask (d_lss (d_k .i64 n) c1) (fun q2 => ex (hbad ?_)) fun q2 => nx (hp ?_))
        all_goals simp only [decide_eq_true_eq, decide_eq_false_iff_not] at *
        all_goals omega
      have byk : ∀ {n : Nat} {t f : RPln}, (k = n → goalR 1 FexL InvRx muEx R [.list l, .int .i64 i] t) → (k ≠ n → goalR 1 FexL InvRx muEx R [.list l, .int .i64 i] f) → goalR 1 FexL InvRx muEx R [.list l, .int .i64 i] (byK (nC 0) n t f) := by
        intro n t f ht hf
        refine r_ask (d_eql c0 (d_k .i64 n)) (fun q => ?_) (fun q => hf (by simpa using q))
        simp only [decide_eq_true_eq] at q
        exact r_knows (kindK_ok (by rw [c0, q]) 12) (ht q)
      refine r_know (by rw [d_lss e1 (d_k .i64 0)]; simp; omega) ?_
      have body : goalR 1 FexL InvRx muEx R [.list l, .int .i64 i] bodyRx := by
        have k0 : ∀ m : Int, k = m → nodeOK k o a b vk vn vs.size i = nodeOK m o a b vk vn vs.size i := fun m h => by rw [h]
        refine byk (fun q => ?_) fun q1 => byk (fun q => ?_) fun q2 => byk (fun q => ?_) fun q3 => byk (fun q => ?_) fun q4 => byk (fun q => ?_) fun q5 => byk (fun q => ?_) fun q6 => byk (fun q => ?_) fun q7 => byk (fun q => ?_) fun q8 => byk (fun q => ?_) fun q9 => byk (fun q => ?_) fun q10 => ?_
        · have hr1 : den R rx1 = .bool (valOK vk vn vs.size) := by
            refine d_res (F := Fright) (by rw [hI]; rfl) ?_
            simp only [List.map_cons, List.map_nil, dc]
            rfl
          have hv : nodeOK k o a b vk vn vs.size i = valOK vk vn vs.size := by
            rw [k0 1 q]
            simp [nodeOK, kidsZ]
          exact r_ask hr1 (fun h => nx (by rw [hv, h])) fun h => ex (by rw [hv, h])
        · exact nx (by rw [k0 2 q]; simp [nodeOK, kidsZ])
        · exact inr c2 (fun h => by rw [k0 3 q]; simp [nodeOK, kidsZ]; omega) fun h => nx (by rw [k0 3 q]; simp [nodeOK, kidsZ]; omega)
        · exact inr c2 (fun h => by rw [k0 4 q]; simp [nodeOK, kidsZ]; omega) fun h => nx (by rw [k0 4 q]; simp [nodeOK, kidsZ]; omega)
        · exact inr c2 (fun h => by rw [k0 5 q]; simp [nodeOK, kidsZ]; omega) fun h => inr c3 (fun h2 => by rw [k0 5 q]; simp [nodeOK, kidsZ]; omega) fun h2 => nx (by rw [k0 5 q]; simp [nodeOK, kidsZ]; omega)
        · exact inr c2 (fun h => by rw [k0 6 q]; simp [nodeOK, kidsZ]; omega) fun h => inr c3 (fun h2 => by rw [k0 6 q]; simp [nodeOK, kidsZ]; omega) fun h2 => nx (by rw [k0 6 q]; simp [nodeOK, kidsZ]; omega)
        · exact inr c2 (fun h => by rw [k0 7 q]; simp [nodeOK, kidsZ]; omega) fun h => inr c3 (fun h2 => by rw [k0 7 q]; simp [nodeOK, kidsZ]; omega) fun h2 => opr 6 (fun h3 => by rw [k0 7 q]; simp [nodeOK, kidsZ]; omega) fun h3 => by rw [k0 7 q]; simp [nodeOK, kidsZ]; omega
        · exact inr c2 (fun h => by rw [k0 8 q]; simp [nodeOK, kidsZ]; omega) fun h => inr c3 (fun h2 => by rw [k0 8 q]; simp [nodeOK, kidsZ]; omega) fun h2 => opr 5 (fun h3 => by rw [k0 8 q]; simp [nodeOK, kidsZ]; omega) fun h3 => by rw [k0 8 q]; simp [nodeOK, kidsZ]; omega
        · exact inr c2 (fun h => by rw [k0 9 q]; simp [nodeOK, kidsZ]; omega) fun h => nx (by rw [k0 9 q]; simp [nodeOK, kidsZ]; omega)
        · exact inr c2 (fun h => by rw [k0 10 q]; simp [nodeOK, kidsZ]; omega) fun h => nx (by rw [k0 10 q]; simp [nodeOK, kidsZ]; omega)
        · have no : (k < 1 ∨ 10 < k) → nodeOK k o a b vk vn vs.size i = false := by
            intro h
            simp only [nodeOK, kids_no h]
            simp
          have none : goalR 1 FexL InvRx muEx R [.list l, .int .i64 i] noneR := by
            refine r_ask (d_lss c0 (d_k .i64 1)) (fun h => ex (no (.inl (by simpa using h)))) (fun h => r_ask (d_lss (d_k .i64 10) c0) (fun h2 => ex (no (.inr (by simpa using h2)))) fun h2 => ?_)
            simp only [decide_eq_false_iff_not] at h h2
            show False
            simp only [Int.ofNat_eq_natCast] at *
            omega
          exact r_ask (d_lss c0 (d_k .i64 5)) (fun _ => none) (fun _ => none)
      exact r_ask (d_lss (d_k .i64 0) e1) (fun _ => body) (fun _ => body)
    · simp only [decide_eq_false_iff_not] at h
      show FexL _ = (true, _)
      rw [hF, okFrom_end (by omega)]
      rfl
noncomputable def pExr : Pln :=
  .ask (lss (.len (.v 0)) (k64 1)) (.done [[.kb false]])
    (.ask (lss (k64 300) (.len (.v 0))) (.done [[.kb false]])
      (.ask (.at (.app 111 [.v 0, k64 0]) (k64 0) 0) (.done [[.kb true]]) (.done [[.kb false]])))
theorem kExr : (hasB 19 && checkPlan [.one .bool] (runI theI (entS [eRr]) [(5, SRx.L)] [] 19 [.agg [tE]]) [] pExr) = true := by kernel_rfl
theorem fnExr : FnOK Tryz.prog G 19 [.agg [tE]] [.one .bool] (fun _ => True) FexOK := by
  have hk := kExr
  rw [Bool.and_eq_true] at hk
  refine fn_run (entS_ok eRr_ok) [(5, SRx.L)] [] (loops1 (by kernel_rfl) loopRx) hk.1 pExr hk.2 ?_
  intro ds h _
  obtain ⟨l, rfl, hl, _⟩ := e_of h
  have hI : (rhoOf theI ([[DV.list l]] : List (List DV)).flatten).I = theI := rfl
  have e0 : den (rhoOf theI ([[DV.list l]] : List (List DV)).flatten) (.v 0) = .list l := rfl
  generalize rhoOf theI ([[DV.list l]] : List (List DV)).flatten = R at *
  have hd := d_std (R := R) (f := 111) (F := FexL) (k := 0) (es := [.v 0, k64 0]) hI (fun _ => rfl)
  have hF : FexL ([.v 0, k64 0].map (den R)) = (okFrom l 0, []) := by
    simp only [List.map_cons, List.map_nil, e0]
    rfl
  rw [hF] at hd
  have hX : FexOK ([[DV.list l]] : List (List DV)).flatten = [[.bool (okFrom l 0 && decide (0 < l.length))]] := rfl
  rw [hX]
  unfold pExr
  refine goal_ask (d_lss (d_lenL e0) (d_k .i64 1)) (fun h1 => ?_) (fun h1 => goal_ask (d_lss (d_k .i64 300) (d_lenL e0)) (fun h2 => ?_) fun h2 => goal_ask hd (fun h3 => ?_) fun h3 => ?_)
  all_goals simp only [decide_eq_true_eq, decide_eq_false_iff_not] at *
  · show _ = [[DV.bool false]]
    rw [decide_eq_false (show ¬ 0 < l.length by omega), Bool.and_false]
  · show _ = [[DV.bool false]]
    cases hok : okFrom l 0 with
    | false => rfl
    | true => have := ok_len hok; omega
  · show _ = [[DV.bool true]]
    have h3 : okFrom l 0 = true := h3
    rw [h3, decide_eq_true (show 0 < l.length by omega)]
    rfl
  · show _ = [[DV.bool false]]
    have h3 : okFrom l 0 = false := h3
    rw [h3]
    rfl
end Go.Proofs.YtholilpmihngaaaGreatDoor
namespace Go.Proofs.YtholilpmihngaaaGreatDoor
open Go Go.AM
/-! ### the law's cuts: expressions -/
noncomputable abbrev bExp (a : AV) : Blk := newBlk 28 [a]
noncomputable def TXp : Tmpl := { tm := [(2, .ptr 1 0), (3, .ptr 2 0), (7, .sy tE (.v 0)), (8, .sy tI (.len (.v 0))), (9, .sy tI (.v 2))], ob := [(1, bExp .dead), (2, bExp (.own 7 tN (.v 1)))], ow := [⟨7, 62, tN, .v 1⟩], src := [.tm 7 tE, .own 0, .tm 9 tI], osrc := [.cell 2 0 62 tN] }
noncomputable def YXp : Tmpl := { tm := [(2, .ptr 1 0), (3, .ptr 2 0)], ob := [(1, bExp .dead), (2, bExp (.sy tE (.v 0)))], src := [.cell 2 0 tE], isrc := [.cell 2 0 62 tN] }
noncomputable def SXp : StdL := { n := 44, T := TXp, tys := [tE, tE, tI], pre := [(eql (.v 2) (k64 0), true), (lss (k64 0) (.len (.v 1)), false)], f := 114, yes := (.exit 0, YXp, 1) }
noncomputable abbrev codeXp : Code := loopAt 6 0
noncomputable abbrev xC (c : Nat) : SX := .at (.v 0) (.v 2) c
noncomputable abbrev xCut (c : Nat) (e : SX) : SX := .cut (xC c) (k64 0) e
noncomputable abbrev xV (j : Nat) : SX := .at (.app 1 [xC 6, xC 7, xC 8]) (k64 0) j
noncomputable abbrev xRow (a b : SX) : List SX := [xC 0, xC 1, xC 2, xC 3, xCut 4 a, xCut 5 b, xV 0, xV 1, xV 2]
noncomputable abbrev xNext (a b : SX) : RPln := .next [.v 0, .cat (.v 1) (.row (xRow a b)), add (.v 2) (k64 1)]
noncomputable abbrev minR (c : Nat) (p : SX → RPln) : RPln := .ask (lss (.len (xC c)) (k64 30)) (p (.len (xC c))) (.ask (lss (k64 30) (.len (xC c))) (p (k64 30)) (p (.len (xC c))))
noncomputable def rXp : RPln :=
  .ask (lss (.v 2) (.len (.v 0)))
    (knowR [(lss (.v 2) (k64 0), false), (lss (k64 1000000) (.len (.v 1)), false)]
      (.ask (lss (.v 2) (k64 40)) (minR 4 fun a => minR 5 fun b => xNext a b) (.next [.v 0, .v 1, add (.v 2) (k64 1)])))
    (.exit true [.v 1])
theorem okXp : (SXp.ok && (planOK SXp rXp && checkRound SXp.L (roundS theI (entS [eVal]) [] [] codeXp) [] rXp)) = true := by kernel_rfl
def InvXp (ds : List DV) : Prop := ∃ l out i, ds = [.list l, .list out, .int .i64 i] ∧ 0 ≤ i ∧ i ≤ l.length ∧ l.length ≤ maxLen ∧ out.length ≤ i ∧ out.length ≤ 40 ∧ ∀ r ∈ l, IsL tN r
def muXp (ds : List DV) : Nat := (lD ds 0).length - (iD ds 2).toNat
theorem FexprL_eq (l out : List (List DV)) (i : Int) : FexprL [.list l, .list out, .int .i64 i] = (true, [.list (out ++ ((l.take 40).drop i.toNat).map cutN)]) := rfl
theorem take_drop_cons {α : Type} {l : List α} {n i : Nat} (h : i < l.length) (hn : i < n) : (l.take n).drop i = l[i] :: (l.take n).drop (i + 1) := by
  have : i < (l.take n).length := by rw [List.length_take]; omega
  rw [List.drop_eq_getElem_cons this, List.getElem_take]
theorem cutS_of {R : Rho} {x e : SX} {s : ByteArray} {z : Int} (hx : den R x = .str s) (he : den R e = .int .i64 z) (hz : z.toNat = min s.size 30) : den R (.cut x (k64 0) e) = .str (cutS 30 s) := by
  rw [d_cuts hx (d_k .i64 0) he, hz]
  rfl
theorem loopXp : LoopOK Tryz.prog G theI codeXp SXp.L := by
  refine loop_std (F := FexprL) (Inv := InvXp) (μ := muXp) (entS_ok eVal_ok) (sub := []) trivial (lps := []) noLoops (fun _ => rfl) rXp okXp ?_ ?_
  · intro ds h hp
    simp only [SXp, IsL] at h
    obtain ⟨d0, _, rfl, h0, d1, _, rfl, h1, d2, _, rfl, h2, rfl⟩ := h
    obtain ⟨l, rfl, hl, hr⟩ := Is.lst h0
    obtain ⟨out, rfl, _⟩ := Is.lst h1
    obtain ⟨i, rfl, _⟩ := h2.i64
    have p1 := hp (eql (.v 2) (k64 0), true) (by simp [SXp])
    have p2 := hp (lss (k64 0) (.len (.v 1)), false) (by simp [SXp])
    have e1 : den (rhoOf theI [DV.list l, .list out, .int .i64 i]) (.v 1) = .list out := rfl
    have e2 : den (rhoOf theI [DV.list l, .list out, .int .i64 i]) (.v 2) = .int .i64 i := rfl
    rw [d_eql e2 (d_k .i64 0)] at p1
    rw [d_lss (d_k .i64 0) (d_lenL e1)] at p2
    simp only [DV.bool.injEq, decide_eq_true_eq, decide_eq_false_iff_not] at p1 p2
    exact ⟨l, out, i, rfl, by omega, by omega, hl, by omega, by omega, hr⟩
  · rintro ds ⟨l, out, i, rfl, hi0, hi1, hl, ho1, ho2, hr⟩
    have hmx := maxLen_lt
    generalize hR : rhoOf theI [DV.list l, .list out, .int .i64 i] = R
    have hI : R.I = theI := by rw [← hR]; rfl
    have e0 : den R (.v 0) = .list l := by rw [← hR]; rfl
    have e1 : den R (.v 1) = .list out := by rw [← hR]; rfl
    have e2 : den R (.v 2) = .int .i64 i := by rw [← hR]; rfl
    show goalR 0 FexprL _ _ R _ rXp
    unfold rXp
    refine r_ask (d_lss e2 (d_lenL e0)) (fun h => ?_) (fun h => ?_)
    · simp only [decide_eq_true_eq] at h
      have hil : i.toNat < l.length := by omega
      obtain ⟨k, o, a, b, t, nm, vk, vn, vs, hrow⟩ := nodeC_of (hr _ (List.getElem_mem hil))
      have dc : ∀ c, den R (xC c) = (l[i.toNat]).getD c (.bool false) := by
        intro c
        rw [d_at c e0 e2, getD_lt hil]
      have hadd := d_add (R := R) e2 (d_k .i64 1) (by omega) (by omega)
      have c4 : den R (xC 4) = .str t := by rw [dc, hrow]; rfl
      have c5 : den R (xC 5) = .str nm := by rw [dc, hrow]; rfl
      refine r_knows (l := [_, _]) (fun q hq => ?_) ?_
      · simp only [List.mem_cons, List.not_mem_nil, or_false] at hq
        rcases hq with rfl | rfl
        · rw [d_lss e2 (d_k .i64 0)]; simp; omega
        · exact len_leL e1 (by omega)
      · refine r_ask (d_lss e2 (d_k .i64 40)) (fun h1 => ?_) (fun h1 => ?_)
        · simp only [decide_eq_true_eq] at h1
          have next : ∀ (ea eb : SX) (za zb : Int), den R ea = .int .i64 za → den R eb = .int .i64 zb → za.toNat = min t.size 30 → zb.toNat = min nm.size 30 → goalR 0 FexprL InvXp muXp R [.list l, .list out, .int .i64 i] (xNext ea eb) := by
            intro ea eb za zb ha hb hza hzb
            have hv : ∀ j, den R (xV j) = ([.int .i64 vk, .int .i64 vn, .str (cutT vs)] : List DV).getD j (.bool false) := by
              intro j
              refine d_res (F := Fval) (by rw [hI]; rfl) ?_
              simp only [List.map_cons, List.map_nil, dc, hrow]
              rfl
            have hmap : (xRow ea eb).map (den R) = cutN l[i.toNat] := by
              simp only [xRow, List.map_cons, List.map_nil, dc, hv, cutS_of c4 ha hza, cutS_of c5 hb hzb]
              rw [hrow]
              rfl
            have hcat : den R (.cat (.v 1) (.row (xRow ea eb))) = .list (out ++ [cutN l[i.toNat]]) := by
              show catD (den R (.v 1)) (den R (.row (xRow ea eb))) = _
              rw [e1, show den R (.row (xRow ea eb)) = .list [(xRow ea eb).map (den R)] by simp only [den, denL_map], hmap]
              rfl
            have hτ : ([.v 0, .cat (.v 1) (.row (xRow ea eb)), add (.v 2) (k64 1)] : List SX).map (den R) = [.list l, .list (out ++ [cutN l[i.toNat]]), .int .i64 (i + 1)] := by
              rw [List.map_cons, List.map_cons, List.map_cons, List.map_nil, e0, hadd, hcat]
              rfl
            show InvXp _ ∧ muXp _ < muXp _ ∧ FexprL _ = FexprL _
            rw [hτ]
            refine ⟨⟨l, _, i + 1, rfl, by omega, by omega, hl, by simp; omega, by simp only [List.length_append, List.length_cons, List.length_nil]; have : i < 40 := h1; omega, hr⟩, ?_, ?_⟩
            · show l.length - (i + 1).toNat < l.length - i.toNat
              omega
            · have : i < 40 := h1
              rw [FexprL_eq, FexprL_eq, toNat_succ hi0, take_drop_cons hil (n := 40) (by omega), List.map_cons, List.append_assoc]
              rfl
          have mn : ∀ {c : Nat} {s : ByteArray} {p : SX → RPln}, den R (xC c) = .str s → (∀ (e : SX) (z : Int), den R e = .int .i64 z → z.toNat = min s.size 30 → goalR 0 FexprL InvXp muXp R [.list l, .list out, .int .i64 i] (p e)) → goalR 0 FexprL InvXp muXp R [.list l, .list out, .int .i64 i] (minR c p) := by
            intro c s p hc hp
            have hlen := d_lens hc
            refine r_ask (d_lss hlen (d_k .i64 30)) (fun q => hp _ _ hlen ?_) (fun q => r_ask (d_lss (d_k .i64 30) hlen) (fun q2 => hp _ _ (d_k .i64 30) ?_) fun q2 => hp _ _ hlen ?_)
            all_goals simp only [decide_eq_true_eq, decide_eq_false_iff_not, Int.ofNat_eq_natCast] at *
            all_goals omega
          exact mn c4 fun ea za ha hza => mn c5 fun eb zb hb hzb => next ea eb za zb ha hb hza hzb
        · simp only [decide_eq_false_iff_not] at h1
          have h1 : ¬ i < 40 := h1
          have hτ : ([.v 0, .v 1, add (.v 2) (k64 1)] : List SX).map (den R) = [.list l, .list out, .int .i64 (i + 1)] := by
            simp only [List.map_cons, List.map_nil, e0, e1, hadd]
            rfl
          show InvXp _ ∧ muXp _ < muXp _ ∧ FexprL _ = FexprL _
          rw [hτ]
          refine ⟨⟨l, _, i + 1, rfl, by omega, by omega, hl, by omega, ho2, hr⟩, ?_, ?_⟩
          · show l.length - (i + 1).toNat < l.length - i.toNat
            omega
          · rw [FexprL_eq, FexprL_eq, List.drop_eq_nil_of_le (by rw [List.length_take]; omega), List.drop_eq_nil_of_le (by rw [List.length_take]; omega)]
    · simp only [decide_eq_false_iff_not] at h
      show FexprL _ = _
      rw [FexprL_eq, List.drop_eq_nil_of_le (by rw [List.length_take]; omega)]
      simp only [List.map_nil, List.append_nil, List.drop_zero, List.map_cons, e1]
noncomputable def pXp : Pln := .know (lss (k64 0) (.len .emp)) false (.done [[.at (.app 114 [.v 0, .emp, k64 0]) (k64 0) 1]])
theorem kXp : (hasB 6 && checkPlan [.agg [tE]] (runI theI (entS [eVal]) [(4, SXp.L)] [] 6 [.agg [tE]]) [] pXp) = true := by kernel_rfl
theorem fnXp : FnOK Tryz.prog G 6 [.agg [tE]] [.agg [tE]] (fun _ => True) Fexpr := by
  have hk := kXp
  rw [Bool.and_eq_true] at hk
  refine fn_run (entS_ok eVal_ok) [(4, SXp.L)] [] (loops1 (by kernel_rfl) loopXp) hk.1 pXp hk.2 fun ds h _ => ?_
  obtain ⟨l, rfl, hl, _⟩ := e_of h
  have hI : (rhoOf theI ([[DV.list l]] : List (List DV)).flatten).I = theI := rfl
  have e0 : den (rhoOf theI ([[DV.list l]] : List (List DV)).flatten) (.v 0) = .list l := rfl
  generalize rhoOf theI ([[DV.list l]] : List (List DV)).flatten = R at *
  have hd := d_std (R := R) (f := 114) (F := FexprL) (k := 1) (es := [.v 0, .emp, k64 0]) hI (fun _ => rfl)
  have hm : ([.v 0, .emp, k64 0] : List SX).map (den R) = [.list l, .list [], .int .i64 0] := by
    simp only [List.map_cons, List.map_nil, e0]
    rfl
  rw [hm, FexprL_eq] at hd
  refine goal_know rfl ?_
  show [[DV.list ((l.take 40).map cutN)]] = [[den R (.at (.app 114 [.v 0, .emp, k64 0]) (k64 0) 1)]]
  rw [hd]
  rfl
end Go.Proofs.YtholilpmihngaaaGreatDoor
namespace Go.Proofs.YtholilpmihngaaaGreatDoor
open Go Go.AM
/-! ### which places are there -/
noncomputable abbrev nD (c : Nat) : SX := .at (.v 0) (.v 2) c
noncomputable abbrev rowA : SX := .at (.v 1) (nD 2) 0
noncomputable abbrev cel (j : Nat) : SX := .at rowA (nD 3) j
noncomputable abbrev plR (ck : SX) (nx ex : RPln) : RPln :=
  .ask (eql (nD 0) (k64 2))
    (.ask (lss (nD 2) (k64 0)) ex (.ask (lss (nD 2) (.len (.v 1))) (.ask (lss (nD 3) (k64 0)) ex (.ask (lss (nD 3) (.len rowA)) (.ask ck nx ex) ex)) ex))
    nx
noncomputable abbrev ckQ : SX := eql (.at (.app 11 [cel 0, cel 1, cel 2]) (k64 0) 0) (k64 0)
noncomputable abbrev ckR : SX := .at (.app 12 [cel 0, cel 1, cel 2]) (k64 0) 0
section
variable {kn : Nat} {F : List DV → Bool × List DV} {Inv : List DV → Prop} {μ : List DV → Nat} {R : Rho} {ds : List DV} {l rows : List (List DV)} {i : Int}
theorem plR_goal {ck : SX} {nx ex : RPln} (e0 : den R (.v 0) = .list l) (e1 : den R (.v 1) = .list rows) (e2 : den R (.v 2) = .int .i64 i) (hil : i.toNat < l.length) (hc : NodeC l[i.toNat]) (hrw : ∀ q ∈ rows, IsR q)
    (hck : ∀ x y s, den R (cel 0) = .int .i64 x → den R (cel 1) = .int .i64 y → den R (cel 2) = .str s → den R ck = .bool (valOK x y s.size))
    (nx' : placedR (l.getD i.toNat []) rows = true → goalR kn F Inv μ R ds nx) (ex' : placedR (l.getD i.toNat []) rows = false → goalR kn F Inv μ R ds ex) : goalR kn F Inv μ R ds (plR ck nx ex) := by
  obtain ⟨k, o, a, b, t, nm, vk, vn, vs, hrow⟩ := hc
  have hget : l.getD i.toNat [] = [.int .i64 k, .int .i64 o, .int .i64 a, .int .i64 b, .str t, .str nm, .int .i64 vk, .int .i64 vn, .str vs] := by rw [getD_lt hil]; exact hrow
  have dc : ∀ c, den R (nD c) = ([.int .i64 k, .int .i64 o, .int .i64 a, .int .i64 b, .str t, .str nm, .int .i64 vk, .int .i64 vn, .str vs] : List DV).getD c (.bool false) := by
    intro c
    rw [d_at c e0 e2, hget]
  have c0 : den R (nD 0) = .int .i64 k := dc 0
  have c2 : den R (nD 2) = .int .i64 a := dc 2
  have c3 : den R (nD 3) = .int .i64 b := dc 3
  have hp : placedR (l.getD i.toNat []) rows = (decide (k ≠ 2) || (decide (0 ≤ a ∧ a < rows.length) && (decide (0 ≤ b ∧ b < (lD (rows.getD a.toNat []) 0).length) && valOK (iD ((lD (rows.getD a.toNat []) 0).getD b.toNat []) 0) (iD ((lD (rows.getD a.toNat []) 0).getD b.toNat []) 1) (sD ((lD (rows.getD a.toNat []) 0).getD b.toNat []) 2).size))) := by
    rw [hget]
    rfl
  rw [hp] at nx' ex'
  refine r_ask (d_eql c0 (d_k .i64 2)) (fun q => ?_) (fun q => nx' ?_)
  · simp only [decide_eq_true_eq] at q
    have q : k = 2 := q
    rw [decide_eq_false (show ¬ k ≠ 2 by omega), Bool.false_or] at nx' ex'
    refine r_ask (d_lss c2 (d_k .i64 0)) (fun q1 => ex' ?_) (fun q1 => r_ask (d_lss c2 (d_lenL e1)) (fun q2 => ?_) (fun q2 => ex' ?_))
    · simp only [decide_eq_true_eq] at q1
      have q1 : a < 0 := q1
      rw [decide_eq_false (show ¬ (0 ≤ a ∧ a < rows.length) by omega), Bool.false_and]
    · simp only [decide_eq_true_eq, decide_eq_false_iff_not] at q1 q2
      have q1 : ¬ a < 0 := q1
      rw [decide_eq_true (show 0 ≤ a ∧ a < rows.length by omega), Bool.true_and] at nx' ex'
      have ha : a.toNat < rows.length := by omega
      obtain ⟨lv, hq, _, hlv⟩ := hrw _ (List.getElem_mem ha)
      have hq' : rows.getD a.toNat [] = [.list lv] := by rw [getD_lt ha]; exact hq
      have dr : den R rowA = .list lv := by
        rw [d_at 0 e1 c2, hq']
        rfl
      have hlD : lD (rows.getD a.toNat []) 0 = lv := by rw [hq']; rfl
      rw [hlD] at nx' ex'
      refine r_ask (d_lss c3 (d_k .i64 0)) (fun q3 => ex' ?_) (fun q3 => r_ask (d_lss c3 (d_lenL dr)) (fun q4 => ?_) (fun q4 => ex' ?_))
      · simp only [decide_eq_true_eq] at q3
        have q3 : b < 0 := q3
        rw [decide_eq_false (show ¬ (0 ≤ b ∧ b < lv.length) by omega), Bool.false_and]
      · simp only [decide_eq_true_eq, decide_eq_false_iff_not] at q3 q4
        have q3 : ¬ b < 0 := q3
        rw [decide_eq_true (show 0 ≤ b ∧ b < lv.length by omega), Bool.true_and] at nx' ex'
        have hb : b.toNat < lv.length := by omega
        obtain ⟨x, y, z, hz, _⟩ := hlv _ (List.getElem_mem hb)
        have hz' : lv.getD b.toNat [] = [.int .i64 x, .int .i64 y, .str z] := by rw [getD_lt hb]; exact hz
        rw [hz'] at nx' ex'
        have dcel : ∀ j, den R (cel j) = ([.int .i64 x, .int .i64 y, .str z] : List DV).getD j (.bool false) := by
          intro j
          rw [d_at j dr c3, hz']
        refine r_ask (hck x y z (dcel 0) (dcel 1) (dcel 2)) (fun q => nx' q) (fun q => ex' q)
      · simp only [decide_eq_false_iff_not] at q3 q4
        rw [decide_eq_false (show ¬ (0 ≤ b ∧ b < lv.length) by omega), Bool.false_and]
    · simp only [decide_eq_false_iff_not] at q2
      rw [decide_eq_false (show ¬ (0 ≤ a ∧ a < rows.length) by omega), Bool.false_and]
  · simp only [decide_eq_false_iff_not] at q
    have q : k ≠ 2 := q
    rw [decide_eq_true q, Bool.true_or]
theorem ckQ_den (hI : R.I = theI) : ∀ x y s, den R (cel 0) = .int .i64 x → den R (cel 1) = .int .i64 y → den R (cel 2) = .str s → den R ckQ = .bool (valOK x y s.size) := by
  intro x y s h0 h1 h2
  have : den R (.at (.app 11 [cel 0, cel 1, cel 2]) (k64 0) 0) = .int .i64 (if valOK x y s.size then 0 else 150) := by
    refine d_res (F := FvCheck) (by rw [hI]; rfl) ?_
    simp only [List.map_cons, List.map_nil, h0, h1, h2]
    rfl
  rw [d_eql this (d_k .i64 0)]
  cases valOK x y s.size <;> rfl
theorem ckR_den (hI : R.I = theI) : ∀ x y s, den R (cel 0) = .int .i64 x → den R (cel 1) = .int .i64 y → den R (cel 2) = .str s → den R ckR = .bool (valOK x y s.size) := by
  intro x y s h0 h1 h2
  refine d_res (F := Fright) (by rw [hI]; rfl) ?_
  simp only [List.map_cons, List.map_nil, h0, h1, h2]
  rfl
end
def InvPl (ds : List DV) : Prop := ∃ l rows i, ds = [.list l, .list rows, .int .i64 i] ∧ 0 ≤ i ∧ i ≤ l.length ∧ l.length ≤ maxLen ∧ (∀ r ∈ l, IsL tN r) ∧ ∀ r ∈ rows, IsR r
theorem InvPl_init {ds : List DV} (h : IsL [tE, tRows, tI] ds) (hp : den (rhoOf theI ds) (eql (.v 2) (k64 0)) = .bool true) : InvPl ds := by
  simp only [IsL] at h
  obtain ⟨d0, _, rfl, h0, d1, _, rfl, h1, d2, _, rfl, h2, rfl⟩ := h
  obtain ⟨l, rfl, hl, hr⟩ := Is.lst h0
  obtain ⟨rows, rfl, _, hrw⟩ := h1.rows
  obtain ⟨i, rfl, _⟩ := h2.i64
  have e2 : den (rhoOf theI [DV.list l, .list rows, .int .i64 i]) (.v 2) = .int .i64 i := rfl
  rw [d_eql e2 (d_k .i64 0)] at hp
  simp only [DV.bool.injEq, decide_eq_true_eq] at hp
  have hp : i = 0 := hp
  exact ⟨l, rows, i, rfl, by omega, by omega, hl, hr, hrw⟩
/-! #### the program's -/
noncomputable abbrev bRws (a : AV) : Blk := newBlk 23 [a]
noncomputable def TIx : Tmpl := { tm := [(0, .sy tE (.v 0)), (1, .clo (.func 39) [] [.ptr 1 0]), (7, .sy tI (.len (.v 0))), (8, .sy tI (.v 2))], ob := [(1, bRws (.sy tRows (.v 1)))], src := [.tm 0 tE, .cell 1 0 tRows, .tm 8 tI] }
noncomputable def YIx : Tmpl := { tm := [], ob := [(1, bRws (.sy tRows (.v 0)))], src := [.cell 1 0 tRows] }
noncomputable def NIx : Tmpl := { tm := [(4, .sy tI (.v 1))], ob := [(1, bRws (.sy tRows (.v 0)))], src := [.cell 1 0 tRows, .tm 4 tI] }
noncomputable def SIx : StdL := { n := 19, T := TIx, tys := [tE, tRows, tI], pre := [(eql (.v 2) (k64 0), true)], f := 119, two := true, keep := [1], yes := (.exit 0, YIx, 0), no := (.ret, NIx, 1) }
noncomputable abbrev codeIx : Code := loopAt 80 0
noncomputable def rIx : RPln :=
  .ask (lss (.v 2) (.len (.v 0))) (.know (lss (.v 2) (k64 0)) false (plR ckQ (.next [.v 0, .v 1, add (.v 2) (k64 1)]) (.exit false [.v 1, .v 2]))) (.exit true [.v 1])
theorem okIx : (SIx.ok && (planOK SIx rIx && checkRound SIx.L (roundS theI (entS [eCk]) [] [] codeIx) [] rIx)) = true := by kernel_rfl
theorem loopIx : LoopOK Tryz.prog G theI codeIx SIx.L := by
  refine loop_std (F := FidxL) (Inv := InvPl) (μ := muXp) (entS_ok eCk_ok) (sub := []) trivial (lps := []) noLoops (fun _ => rfl) rIx okIx ?_ ?_
  · intro ds h hp
    exact InvPl_init h (hp (eql (.v 2) (k64 0), true) (by simp [SIx]))
  · rintro ds ⟨l, rows, i, rfl, hi0, hi1, hl, hr, hrw⟩
    have hmx := maxLen_lt
    generalize hR : rhoOf theI [DV.list l, .list rows, .int .i64 i] = R
    have hI : R.I = theI := by rw [← hR]; rfl
    have e0 : den R (.v 0) = .list l := by rw [← hR]; rfl
    have e1 : den R (.v 1) = .list rows := by rw [← hR]; rfl
    have e2 : den R (.v 2) = .int .i64 i := by rw [← hR]; rfl
    have hF : FidxL [.list l, .list rows, .int .i64 i] = (placedFrom l rows i.toNat, if placedFrom l rows i.toNat then [] else [.int .i64 (badAt l rows i.toNat)]) := rfl
    show goalR 1 FidxL _ _ R _ rIx
    unfold rIx
    refine r_ask (d_lss e2 (d_lenL e0)) (fun h => ?_) (fun h => ?_)
    · simp only [decide_eq_true_eq] at h
      have hil : i.toNat < l.length := by omega
      have hadd := d_add (R := R) e2 (d_k .i64 1) (by omega) (by omega)
      have hs := placed_step (rows := rows) hil
      refine r_know (by rw [d_lss e2 (d_k .i64 0)]; simp; omega) (plR_goal e0 e1 e2 hil (nodeC_of (hr _ (List.getElem_mem hil))) hrw (ckQ_den hI) (fun hp => ?_) fun hp => ?_)
      · have hτ : ([.v 0, .v 1, add (.v 2) (k64 1)] : List SX).map (den R) = [.list l, .list rows, .int .i64 (i + 1)] := by
          simp only [List.map_cons, List.map_nil, e0, e1, hadd]
          rfl
        show InvPl _ ∧ muXp _ < muXp _ ∧ FidxL _ = FidxL _
        rw [hτ]
        refine ⟨⟨l, rows, i + 1, rfl, by omega, by omega, hl, hr, hrw⟩, ?_, ?_⟩
        · show l.length - (i + 1).toNat < l.length - i.toNat
          omega
        · show (placedFrom l rows (i + 1).toNat, if placedFrom l rows (i + 1).toNat then [] else [DV.int .i64 (badAt l rows (i + 1).toNat)]) = _
          rw [hF, toNat_succ hi0, hs, hp, Bool.true_and, bad_skip hil hp]
      · show FidxL _ = (false, [den R (.v 2)])
        rw [hF, hs, hp, Bool.false_and, bad_here hil hp, e2, show ((i.toNat : Nat) : Int) = i by omega]
        rfl
    · simp only [decide_eq_false_iff_not] at h
      show FidxL _ = (true, _)
      rw [hF, placed_end (by omega)]
      rfl
noncomputable abbrev plX (j : Nat) : SX := .at (.app 119 [.v 0, .v 1, k64 0]) (k64 0) j
noncomputable def pPl : Pln := .ask (plX 0) (.done [[.kb true]]) (.done [[.not (.not (lss (plX 1) (k64 0)))]])
noncomputable abbrev subPl : SubL := [(38, []), (80, [(3, SIx.L)])]
theorem subPl_ok : SubsOK theI subPl := ⟨noLoops, loops1 (by kernel_rfl) loopIx, trivial⟩
theorem kPl : (hasB 15 && checkPlan [.one .bool] (runS theI (entS [eCk]) subPl [] [] 15 [.agg [tE], .one tRows]) [] pPl) = true := by kernel_rfl
theorem er_of {ds : List (List DV)} (h : IsArgs [.agg [tE], .one tRows] ds) : ∃ l rows, ds = [[.list l], [.list rows]] ∧ l.length ≤ maxLen ∧ (∀ r ∈ l, IsL tN r) ∧ rows.length ≤ maxLen ∧ ∀ r ∈ rows, IsR r := by
  simp only [IsArgs, IsOne, IsL] at h
  obtain ⟨_, _, rfl, ⟨d, _, rfl, h1, rfl⟩, _, _, rfl, ⟨d2, rfl, h2⟩, rfl⟩ := h
  obtain ⟨l, rfl, a, b⟩ := Is.lst h1
  obtain ⟨rows, rfl, c, e⟩ := h2.rows
  exact ⟨l, rows, rfl, a, b, c, e⟩
theorem fnPl : FnOK Tryz.prog G 15 [.agg [tE], .one tRows] [.one .bool] (fun _ => True) Fplaced := by
  have hk := kPl
  rw [Bool.and_eq_true] at hk
  refine fn_runS (entS_ok eCk_ok) subPl_ok [] [] noLoops hk.1 pPl hk.2 fun ds h _ => ?_
  obtain ⟨l, rows, rfl, _⟩ := er_of h
  have hI : (rhoOf theI ([[DV.list l], [.list rows]] : List (List DV)).flatten).I = theI := rfl
  have e0 : den (rhoOf theI ([[DV.list l], [.list rows]] : List (List DV)).flatten) (.v 0) = .list l := rfl
  have e1 : den (rhoOf theI ([[DV.list l], [.list rows]] : List (List DV)).flatten) (.v 1) = .list rows := rfl
  show goalPlan _ [[.bool (placedFrom l rows 0)]] _
  generalize rhoOf theI ([[DV.list l], [.list rows]] : List (List DV)).flatten = R at *
  have hd := fun k => d_std (R := R) (f := 119) (F := FidxL) (k := k) (es := [.v 0, .v 1, k64 0]) hI (fun _ => rfl)
  have hm : ([.v 0, .v 1, k64 0] : List SX).map (den R) = [.list l, .list rows, .int .i64 0] := by
    simp only [List.map_cons, List.map_nil, e0, e1]
    rfl
  simp only [hm] at hd
  have hF : FidxL [.list l, .list rows, .int .i64 0] = (placedFrom l rows 0, if placedFrom l rows 0 then [] else [.int .i64 (badAt l rows 0)]) := rfl
  simp only [hF] at hd
  refine goal_ask (hd 0) (fun h => ?_) (fun h => ?_)
  · have h : placedFrom l rows 0 = true := h
    rw [h]
    rfl
  · have h : placedFrom l rows 0 = false := h
    have h1 := hd 1
    rw [h] at h1 ⊢
    show _ = [[notD (notD (den R (lss (plX 1) (k64 0))))]]
    rw [d_lss (a := badAt l rows 0) h1 (d_k .i64 0), decide_eq_false (show ¬ ((badAt l rows 0 : Nat) : Int) < ((0 : Nat) : Int) by omega)]
    rfl
/-! #### the document's -/
noncomputable abbrev bVal (l : List AV) : Blk := newBlk 31 l
noncomputable abbrev zero3 : List AV := [.sc (.int .i64 0), .sc (.int .i64 0), .sc (.string (bstr #[]))]
noncomputable def TV1 : Tmpl := { tm := [(1, .sy tRows (.v 1)), (2, .ptr 0 0), (4, .ptr 1 0), (18, .sy tE (.v 0)), (19, .sy tI (.len (.v 0))), (20, .sy tI (.v 2))], ob := [(0, blkE 28), (1, bVal [.dead, .dead, .dead])], src := [.tm 18 tE, .tm 1 tRows, .tm 20 tI] }
noncomputable def YV1 : Tmpl := { tm := [(1, .sy tRows (.v 1)), (2, .ptr 0 0), (4, .ptr 1 0)], ob := [(0, blkE 28), (1, bVal [.dead, .dead, .dead])], src := [.cell 0 0 tE, .tm 1 tRows] }
noncomputable def NV1 : Tmpl := { tm := [(1, .sy tRows (.v 1)), (4, .ptr 1 0), (5, .sc (.int .i64 240))], ob := [(0, blkE 28), (1, bVal zero3)], src := [.cell 0 0 tE, .tm 1 tRows] }
noncomputable def SV1 : StdL := { n := 99, T := TV1, tys := [tE, tRows, tI], pre := [(eql (.v 2) (k64 0), true)], f := 117, two := true, keep := [0, 1], yes := (.exit 0, YV1, 0), no := (.ret, NV1, 0) }
noncomputable abbrev codeV1 : Code := loopAt 8 0
noncomputable def rV1 : RPln :=
  .ask (lss (.v 2) (.len (.v 0))) (.know (lss (.v 2) (k64 0)) false (plR ckR (.next [.v 0, .v 1, add (.v 2) (k64 1)]) (.exit false [.v 0, .v 1]))) (.exit true [.v 0, .v 1])
theorem okV1 : (SV1.ok && (planOK SV1 rV1 && checkRound SV1.L (roundS theI (entS [eRr]) [] [] codeV1) [] rV1)) = true := by kernel_rfl
theorem loopV1 : LoopOK Tryz.prog G theI codeV1 SV1.L := by
  refine loop_std (F := FplL) (Inv := InvPl) (μ := muXp) (entS_ok eRr_ok) (sub := []) trivial (lps := []) noLoops (fun _ => rfl) rV1 okV1 ?_ ?_
  · intro ds h hp
    exact InvPl_init h (hp (eql (.v 2) (k64 0), true) (by simp [SV1]))
  · rintro ds ⟨l, rows, i, rfl, hi0, hi1, hl, hr, hrw⟩
    have hmx := maxLen_lt
    generalize hR : rhoOf theI [DV.list l, .list rows, .int .i64 i] = R
    have hI : R.I = theI := by rw [← hR]; rfl
    have e0 : den R (.v 0) = .list l := by rw [← hR]; rfl
    have e1 : den R (.v 1) = .list rows := by rw [← hR]; rfl
    have e2 : den R (.v 2) = .int .i64 i := by rw [← hR]; rfl
    have hF : FplL [.list l, .list rows, .int .i64 i] = (placedFrom l rows i.toNat, []) := rfl
    show goalR 2 FplL _ _ R _ rV1
    unfold rV1
    refine r_ask (d_lss e2 (d_lenL e0)) (fun h => ?_) (fun h => ?_)
    · simp only [decide_eq_true_eq] at h
      have hil : i.toNat < l.length := by omega
      have hadd := d_add (R := R) e2 (d_k .i64 1) (by omega) (by omega)
      have hs := placed_step (rows := rows) hil
      refine r_know (by rw [d_lss e2 (d_k .i64 0)]; simp; omega) (plR_goal e0 e1 e2 hil (nodeC_of (hr _ (List.getElem_mem hil))) hrw (ckR_den hI) (fun hp => ?_) fun hp => ?_)
      · have hτ : ([.v 0, .v 1, add (.v 2) (k64 1)] : List SX).map (den R) = [.list l, .list rows, .int .i64 (i + 1)] := by
          simp only [List.map_cons, List.map_nil, e0, e1, hadd]
          rfl
        show InvPl _ ∧ muXp _ < muXp _ ∧ FplL _ = FplL _
        rw [hτ]
        refine ⟨⟨l, rows, i + 1, rfl, by omega, by omega, hl, hr, hrw⟩, ?_, ?_⟩
        · show l.length - (i + 1).toNat < l.length - i.toNat
          omega
        · show (placedFrom l rows (i + 1).toNat, []) = _
          rw [hF, toNat_succ hi0, hs, hp, Bool.true_and]
      · show FplL _ = (false, [])
        rw [hF, hs, hp, Bool.false_and]
    · simp only [decide_eq_false_iff_not] at h
      show FplL _ = (true, _)
      rw [hF, placed_end (by omega)]
      rfl
end Go.Proofs.YtholilpmihngaaaGreatDoor
