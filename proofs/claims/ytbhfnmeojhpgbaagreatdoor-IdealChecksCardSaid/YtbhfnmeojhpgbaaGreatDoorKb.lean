/-
  A part of the proof of IdealChecks (the machine on named data, and the contracts of the functions that the law reaches): I2 I3 I4 I5.
-/
import Derived.Test.YtbhfnmeojhpgbaaGreatDoorKa
set_option linter.all false
set_option linter.unusedVariables false
set_option linter.unusedSimpArgs false
set_option linter.unusedSectionVars false
namespace Go.Proofs.YtbhfnmeojhpgbaaGreatDoor
open Go Go.AM
/-! ### CheckTx, RightTx, SameOutcome, wrong -/
noncomputable def pCtx : Pln :=
  (.ask (lss (.v 0) (k64 1))
    (.done [[k64 270]])
    (.ask (lss (k64 3) (.v 0))
      (.done [[k64 270]])
      (.ask (eql (.v 1) (.ki .u32 (.ofNat 0)))
        (.done [[k64 270]])
        (.ask (lss (k64 1019) (.len (.v 2)))
          (.done [[k64 270]])
          (.done [[k64 0]])))))
noncomputable def pRtx : Pln :=
  (.ask (lss (.v 0) (k64 1))
    (.done [[.kb false]])
    (.ask (lss (k64 3) (.v 0))
      (.done [[.kb false]])
      (.ask (lss (.v 1) (.ki .u32 (.ofNat 1)))
        (.done [[.kb false]])
        (.done [[.not (lss (k64 1019) (.len (.v 2)))]]))))
noncomputable def pSm : Pln :=
  (.ask (eql (.v 0) (.v 4))
    (.ask (eql (.v 1) (.v 5))
      (.ask (eql (.v 3) (.v 7))
        (.done [[.at (.app 4 [.v 2, .v 6]) (k64 0) 0]])
        (.done [[.kb false]]))
      (.done [[.kb false]]))
    (.done [[.kb false]]))
theorem kCtx : (hasB 27 && checkPlan [.one tI] (runI theI (entS []) [] [] 27 [.agg tTx]) [] pCtx) = true := by kernel_rfl
theorem kRtx : (hasB 17 && checkPlan [.one .bool] (runI theI (entS []) [] [] 17 [.agg tTx]) [] pRtx) = true := by kernel_rfl
theorem kSmL : (hasB 24 && checkPlan [.one .bool] (runI theI (entS [eEf]) [] [] 24 [.agg tO, .agg tO]) [] pSm) = true := by kernel_rfl
theorem kSmR : (hasB 18 && checkPlan [.one .bool] (runI theI (entS [eSr]) [] [] 18 [.agg tO, .agg tO]) [] pSm) = true := by kernel_rfl
theorem agg_tx {ds : List (List DV)} (h : IsArgs [.agg tTx] ds) : ∃ c s t, ds = [[.int .i64 c, .int .u32 s, .str t]] ∧ 0 ≤ s := by
  simp only [IsArgs, IsOne, IsL] at h
  obtain ⟨_, _, rfl, ⟨_, _, rfl, h1, _, _, rfl, h2, _, _, rfl, h3, rfl⟩, rfl⟩ := h
  obtain ⟨c, rfl, _⟩ := h1.i64
  obtain ⟨s, rfl, hs, _⟩ := h2.u32
  obtain ⟨t, rfl, _⟩ := Is.s h3
  exact ⟨c, s, t, rfl, hs⟩
theorem fnCtx : FnOK Tryz.prog G 27 [.agg tTx] [.one tI] (fun _ => True) Fctx := by
  have hk := kCtx
  rw [Bool.and_eq_true] at hk
  refine fn_run (entS_ok (l := []) trivial) [] [] noLoops hk.1 pCtx hk.2 fun ds h _ => ?_
  obtain ⟨c, s, t, rfl, hs⟩ := agg_tx h
  simp [pCtx, goalPlan, den, binD, lenD, rhoOf, Fctx, txB, iD, sD]
  omega
theorem fnRtx : FnOK Tryz.prog G 17 [.agg tTx] [.one .bool] (fun _ => True) Frtx := by
  have hk := kRtx
  rw [Bool.and_eq_true] at hk
  refine fn_run (entS_ok (l := []) trivial) [] [] noLoops hk.1 pRtx hk.2 fun ds h _ => ?_
  obtain ⟨c, s, t, rfl, hs⟩ := agg_tx h
  simp [pRtx, goalPlan, den, binD, lenD, notD, rhoOf, Frtx, txB, iD, sD]
  grind
theorem agg_oo {ds : List (List DV)} (h : IsArgs [.agg tO, .agg tO] ds) : ∃ e a la c e' a' lb c', ds = [[.int .i64 e, .int .i64 a, .list la, .int .i64 c], [.int .i64 e', .int .i64 a', .list lb, .int .i64 c']] := by
  simp only [IsArgs, IsOne, IsL, tO] at h
  obtain ⟨_, _, rfl, ⟨d1, _, rfl, h1, d2, _, rfl, h2, d3, _, rfl, h3, d4, _, rfl, h4, rfl⟩, _, _, rfl, ⟨e1, _, rfl, k1, e2, _, rfl, k2, e3, _, rfl, k3, e4, _, rfl, k4, rfl⟩, rfl⟩ := h
  obtain ⟨a, rfl, _⟩ := h1.i64
  obtain ⟨b, rfl, _⟩ := h2.i64
  obtain ⟨c, rfl, _⟩ := h3.rows
  obtain ⟨d, rfl, _⟩ := h4.i64
  obtain ⟨a', rfl, _⟩ := k1.i64
  obtain ⟨b', rfl, _⟩ := k2.i64
  obtain ⟨c', rfl, _⟩ := k3.rows
  obtain ⟨d', rfl, _⟩ := k4.i64
  exact ⟨a, b, c, d, a', b', c', d', rfl⟩
theorem goalSm {ds : List (List DV)} (h : IsArgs [.agg tO, .agg tO] ds) : goalPlan (rhoOf theI ds.flatten) (FsameO ds.flatten) pSm := by
  obtain ⟨e, a, la, c, e', a', lb, c', rfl⟩ := agg_oo h
  have hF : FsameO [[.int .i64 e, .int .i64 a, .list la, .int .i64 c], [.int .i64 e', .int .i64 a', .list lb, .int .i64 c']].flatten = [[.bool (decide (e = e') && decide (a = a') && decide (c = c') && eqLs la lb)]] := rfl
  rw [hF]
  generalize hR : rhoOf theI [[.int .i64 e, .int .i64 a, .list la, .int .i64 c], [.int .i64 e', .int .i64 a', .list lb, .int .i64 c']].flatten = R
  have hI : R.I = theI := by rw [← hR]; rfl
  have q0 : R.ρ 0 = .int .i64 e := by rw [← hR]; rfl
  have q1 : R.ρ 1 = .int .i64 a := by rw [← hR]; rfl
  have q2 : R.ρ 2 = .list la := by rw [← hR]; rfl
  have q3 : R.ρ 3 = .int .i64 c := by rw [← hR]; rfl
  have q4 : R.ρ 4 = .int .i64 e' := by rw [← hR]; rfl
  have q5 : R.ρ 5 = .int .i64 a' := by rw [← hR]; rfl
  have q6 : R.ρ 6 = .list lb := by rw [← hR]; rfl
  have q7 : R.ρ 7 = .int .i64 c' := by rw [← hR]; rfl
  have dEqL : den R (.at (.app 4 [.v 2, .v 6]) (k64 0) 0) = .bool (eqLs la lb) := by
    refine d_res (F := Feq) (by rw [hI]; rfl) ?_
    simp only [List.map_cons, List.map_nil, d_v q2, d_v q6]
    rfl
  unfold pSm
  refine goal_ask (d_eql (d_v q0) (d_v q4)) (fun h1 => goal_ask (d_eql (d_v q1) (d_v q5)) (fun h2 => goal_ask (d_eql (d_v q3) (d_v q7)) (fun h3 => ?_) (fun h3 => ?_)) (fun h2 => ?_)) (fun h1 => ?_)
  · show _ = _
    rw [h1, h2, h3]
    simp only [List.map_cons, List.map_nil, dEqL, Bool.true_and]
  · show _ = _
    rw [h1, h2, h3]
    rfl
  · show _ = _
    rw [h1, h2]
    rfl
  · show _ = _
    rw [h1]
    rfl
theorem fnSmL : FnOK Tryz.prog G 24 [.agg tO, .agg tO] [.one .bool] (fun _ => True) FsameO := by
  have hk := kSmL
  rw [Bool.and_eq_true] at hk
  exact fn_run (entS_ok eEf_ok) [] [] noLoops hk.1 pSm hk.2 fun ds h _ => goalSm h
theorem fnSmR : FnOK Tryz.prog G 18 [.agg tO, .agg tO] [.one .bool] (fun _ => True) FsameO := by
  have hk := kSmR
  rw [Bool.and_eq_true] at hk
  exact fn_run (entS_ok eSr_ok) [] [] noLoops hk.1 pSm hk.2 fun ds h _ => goalSm h
noncomputable def eCtx : Ent := eFn 27 [.agg tTx] [.one tI] [] 1
noncomputable def eRtx : Ent := eFn 17 [.agg tTx] [.one .bool] [] 2
noncomputable def eSmL : Ent := eFn 24 [.agg tO, .agg tO] [.one .bool] [] 16
noncomputable def eSmR : Ent := eFn 18 [.agg tO, .agg tO] [.one .bool] [] 16
theorem entWr : EntsOK Tryz.prog G theI [eCtx, eSmL] := ⟨eFn_ok plainG (pre_true fnCtx) (fun _ => rfl) [] (by kernel_rfl), eFn_ok plainG (pre_true fnSmL) (fun _ => rfl) [] (by kernel_rfl), trivial⟩
theorem entWrR : EntsOK Tryz.prog G theI [eRtx, eSmR] := ⟨eFn_ok plainG (pre_true fnRtx) (fun _ => rfl) [] (by kernel_rfl), eFn_ok plainG (pre_true fnSmR) (fun _ => rfl) [] (by kernel_rfl), trivial⟩
end Go.Proofs.YtbhfnmeojhpgbaaGreatDoor
namespace Go.Proofs.YtbhfnmeojhpgbaaGreatDoor
open Go Go.AM
/-! ### ideal.wrong -/
noncomputable abbrev smX (f : Nat → SX) : SX := .at (.app 16 [f 5, f 6, f 7, f 8, k64 0, k64 0, .emp, k64 0]) (k64 0) 0
noncomputable abbrev ctX (f : Nat → SX) : SX := eql (.at (.app 1 [f 0, f 1, f 2]) (k64 0) 0) (k64 0)
noncomputable def pWr : Pln :=
  (.ask (eql (.v 4) (k64 0))
    (.ask (smX .v)
      (.ask (ctX .v)
        (.ask (lss (.v 3) (k64 1)) (.done [[.kb true]]) (.done [[.kb false]]))
        (.done [[.kb true]]))
      (.ask (ctX .v)
        (.ask (lss (.v 3) (k64 1)) (.done [[.kb true]]) (.done [[.kb true]]))
        (.done [[.kb true]])))
    (.ask (ctX .v)
      (.ask (lss (.v 3) (k64 1)) (.done [[.kb true]]) (.done [[.not (.not (lss (.v 4) (.v 3)))]]))
      (.done [[.kb true]])))
theorem kWr : (hasB 16 && checkPlan [.one .bool] (runI theI (entS [eCtx, eSmL]) [] [] 16 [.agg tDid]) [] pWr) = true := by kernel_rfl
theorem d_sm {R : Rho} (hI : R.I = theI) {f : Nat → SX} {r : List DV} (hr : IsL tDid r) (hf : ∀ k, k < 9 → den R (f k) = r.getD k (.bool false)) : den R (smX f) = .bool (noneO r) := by
  obtain ⟨c, s, t, a, b, e, g, rs, n, rfl, _⟩ := did_is hr
  refine d_res (F := FsameO) (by rw [hI]; rfl) ?_
  simp only [List.map_cons, List.map_nil, hf 5 (by omega), hf 6 (by omega), hf 7 (by omega), hf 8 (by omega), d_k]
  rfl
theorem d_ct {R : Rho} (hI : R.I = theI) {f : Nat → SX} {r : List DV} (hr : IsL tDid r) (hf : ∀ k, k < 9 → den R (f k) = r.getD k (.bool false)) : den R (ctX f) = .bool (txB (iD r 0) (iD r 1) (sD r 2)) := by
  obtain ⟨c, s, t, a, b, e, g, rs, n, rfl, _⟩ := did_is hr
  have : den R (.at (.app 1 [f 0, f 1, f 2]) (k64 0) 0) = .int .i64 (if txB c s t then 0 else 270) := by
    refine d_res (F := Fctx) (by rw [hI]; rfl) ?_
    simp only [List.map_cons, List.map_nil, hf 0 (by omega), hf 1 (by omega), hf 2 (by omega)]
    rfl
  rw [d_eql this (d_k .i64 0)]
  show _ = DV.bool (txB c s t)
  cases txB c s t <;> simp
theorem agg_did {ds : List (List DV)} (h : IsArgs [.agg tDid] ds) : ∃ r, ds = [r] ∧ IsL tDid r := by
  simp only [IsArgs, IsOne] at h
  obtain ⟨r, _, rfl, h1, rfl⟩ := h
  exact ⟨r, rfl, h1⟩
theorem wr8 {R : Rho} {a b : Int} {y z : Bool} (q3 : R.ρ 3 = .int .i64 a) (q4 : R.ρ 4 = .int .i64 b) (h1 : decide (b = 0) = false) (h3 : y = true) (h4 : decide (a < 1) = false) :
    goalPlan R [[.bool (!y || decide (a < 1) || (if b = 0 then !z else decide (b < a)))]] (.done [[.not (.not (lss (.v 4) (.v 3)))]]) := by
  show _ = [[notD (notD (binD .lss (R.ρ 4) (R.ρ 3)))]]
  rw [q3, q4, h3, h4, if_neg (by simpa using h1)]
  simp [binD, notD]
theorem fnWr : FnOK Tryz.prog G 16 [.agg tDid] [.one .bool] (fun _ => True) Fwrong := by
  have hk := kWr
  rw [Bool.and_eq_true] at hk
  refine fn_run (entS_ok entWr) [] [] noLoops hk.1 pWr hk.2 fun ds h _ => ?_
  obtain ⟨r, rfl, hr⟩ := agg_did h
  have hR : ([r] : List (List DV)).flatten = r := by simp
  rw [hR]
  have hsm := d_sm (R := rhoOf theI r) rfl (f := .v) hr (fun k _ => rfl)
  have hct := d_ct (R := rhoOf theI r) rfl (f := .v) hr (fun k _ => rfl)
  obtain ⟨c, s, t, a, b, e, g, rs, n, rfl, _⟩ := did_is hr
  generalize hR : rhoOf theI [DV.int .i64 c, .int .u32 s, .str t, .int .i64 a, .int .i64 b, .int .i64 e, .int .i64 g, .list rs, .int .i64 n] = R at *
  have q3 : R.ρ 3 = .int .i64 a := by rw [← hR]; rfl
  have q4 : R.ρ 4 = .int .i64 b := by rw [← hR]; rfl
  have hF : Fwrong [DV.int .i64 c, .int .u32 s, .str t, .int .i64 a, .int .i64 b, .int .i64 e, .int .i64 g, .list rs, .int .i64 n] = [[.bool (!(txB c s t) || decide (a < 1) || (if b = 0 then !(noneO [DV.int .i64 c, .int .u32 s, .str t, .int .i64 a, .int .i64 b, .int .i64 e, .int .i64 g, .list rs, .int .i64 n]) else decide (b < a)))]] := rfl
  rw [hF]
  generalize noneO _ = z at *
  have hct : den R (ctX .v) = .bool (txB c s t) := hct
  generalize txB c s t = y at *
  have l1 := d_lss (R := R) (d_v q3) (d_k .i64 1)
  have l2 := d_lss (R := R) (d_v q4) (d_v q3)
  unfold pWr
  refine goal_ask (d_eql (d_v q4) (d_k .i64 0)) (fun h1 => goal_ask hsm (fun h2 => goal_ask hct (fun h3 => goal_ask l1 (fun h4 => ?_) (fun h4 => ?_)) (fun h3 => ?_)) (fun h2 => goal_ask hct (fun h3 => goal_ask l1 (fun h4 => ?_) (fun h4 => ?_)) (fun h3 => ?_)))
    (fun h1 => goal_ask hct (fun h3 => goal_ask l1 (fun h4 => ?_) (fun h4 => wr8 q3 q4 h1 h3 h4)) (fun h3 => ?_)) <;> show _ = _ <;> simp only [decide_eq_true_eq, decide_eq_false_iff_not] at * <;> simp_all [den, notD]
noncomputable def eWr : Ent := eFn 16 [.agg tDid] [.one .bool] [] 22
theorem eWr_ok : EntsOK Tryz.prog G theI [eWr] := ⟨eFn_ok plainG (pre_true fnWr) (fun _ => rfl) [] (by kernel_rfl), trivial⟩
/-! ### ideal.Check -/
noncomputable abbrev rowX' (e i : SX) (k : Nat) : SX := .at e i k
noncomputable abbrev wrX (e i : SX) : SX := .at (.app 22 [.at e i 0, .at e i 1, .at e i 2, .at e i 3, .at e i 4, .at e i 5, .at e i 6, .at e i 7, .at e i 8]) (k64 0) 0
noncomputable abbrev kyX (e i : SX) : List SX := [.at e i 0, .at e i 1]
noncomputable def TCk : Tmpl := { tm := [(4, .hnd 2 7), (12, .sy tDids (.v 0)), (13, .sy tI (.len (.v 0))), (14, .sy tI (.v 1))], ow := [⟨7, 1, [tI, tU32], .v 2⟩], src := [.tm 12 tDids, .tm 14 tI, .own 0], osrc := [.mp 4] }
noncomputable def NCk : Tmpl := { tm := [(2, .sy tI (.v 0)), (3, .sc (.int .i64 340))], src := [.tm 2 tI] }
noncomputable def SCk : StdL := { n := 37, T := TCk, tys := [tDids, tI, tMet], pre := [(eql (.v 1) (k64 0), true), (lss (k64 64) (.len (.v 0)), false), (lss (k64 0) (.len (.v 2)), false)], f := 120, two := true, yes := (.exit 0, Y0, 0), no := (.ret, NCk, 1) }
noncomputable abbrev codeCk : Code := loopAt 6 0
noncomputable def rCk : RPln :=
  .ask (lss (.v 1) (.len (.v 0)))
    (.know (lss (.v 1) (k64 0)) false
      (.ask (wrX (.v 0) (.v 1)) (.exit false [.v 1])
        (.ask (.bin .lss (.row (kyX (.v 0) (.v 1))) (.v 2)) (.exit false [.v 1])
          (.know (lss (k64 1000000) (.len (.v 2))) false
            (.next [.v 0, add (.v 1) (k64 1), .cat (.v 2) (.row (kyX (.v 0) (.v 1)))])))))
    (.exit true [])
theorem okCk : (SCk.ok && (planOK SCk rCk && checkRound SCk.L (roundS theI (entS [eWr]) [] [] codeCk) [] rCk)) = true := by kernel_rfl
/-! the loop -/
def InvCk (ds : List DV) : Prop := ∃ l i met, ds = [.list l, .int .i64 i, .list met] ∧ l.length ≤ 64 ∧ 0 ≤ i ∧ i ≤ l.length ∧ met.length ≤ i ∧ ∀ r ∈ l, IsL tDid r
def muCk (ds : List DV) : Nat := (lD ds 0).length - (iD ds 1).toNat
theorem d_row {R : Rho} {e i : SX} {l : List (List DV)} {z : Int} (he : den R e = .list l) (hi : den R i = .int .i64 z) (h0 : 0 ≤ z) (h1 : z.toNat < l.length) (k : Nat) : den R (.at e i k) = (l[z.toNat]).getD k (.bool false) := by
  rw [d_at k he hi, getD_lt h1]
theorem d_wr {R : Rho} (hI : R.I = theI) {e i : SX} {l : List (List DV)} {z : Int} (he : den R e = .list l) (hi : den R i = .int .i64 z) (h0 : 0 ≤ z) (h1 : z.toNat < l.length) (hr : IsL tDid l[z.toNat]) : den R (wrX e i) = .bool (didBad l[z.toNat]) := by
  have hd := fun k => d_row he hi h0 h1 k
  refine d_res (F := Fwrong) (by rw [hI]; rfl) ?_
  simp only [List.map_cons, List.map_nil, hd]
  obtain ⟨c, s, t, a, b, e, g, rs, n, hq, _⟩ := did_is hr
  rw [hq]
  rfl
theorem d_ky {R : Rho} {e i : SX} {l : List (List DV)} {z : Int} (he : den R e = .list l) (hi : den R i = .int .i64 z) (h0 : 0 ≤ z) (h1 : z.toNat < l.length) : (kyX e i).map (den R) = keyD l[z.toNat] := by
  have hd := fun k => d_row he hi h0 h1 k
  simp only [List.map_cons, List.map_nil, hd]
  rfl
theorem FckL_eq (l met : List (List DV)) (i : Int) : FckL [.list l, .int .i64 i, .list met] = match chk (l.drop i.toNat) met i.toNat with
  | some k => (false, [.int .i64 k])
  | none => (true, []) := rfl
theorem loopCk : LoopOK Tryz.prog G theI codeCk SCk.L := by
  refine loop_std (F := FckL) (Inv := InvCk) (μ := muCk) (entS_ok eWr_ok) (sub := []) trivial (lps := []) noLoops (fun _ => rfl) rCk okCk ?_ ?_
  · intro ds h hp
    simp only [SCk, IsL] at h
    obtain ⟨d0, _, rfl, h0, d1, _, rfl, h1, d2, _, rfl, h2, rfl⟩ := h
    obtain ⟨l, rfl, hl, hr⟩ := Is.lst h0
    obtain ⟨i, rfl, _⟩ := h1.i64
    obtain ⟨met, rfl, _⟩ := Is.lst h2
    have p1 := hp (eql (.v 1) (k64 0), true) (by simp [SCk])
    have p2 := hp (lss (k64 64) (.len (.v 0)), false) (by simp [SCk])
    have p3 := hp (lss (k64 0) (.len (.v 2)), false) (by simp [SCk])
    have e0 : den (rhoOf theI [DV.list l, .int .i64 i, .list met]) (.v 0) = .list l := rfl
    have e1 : den (rhoOf theI [DV.list l, .int .i64 i, .list met]) (.v 1) = .int .i64 i := rfl
    have e2 : den (rhoOf theI [DV.list l, .int .i64 i, .list met]) (.v 2) = .list met := rfl
    rw [d_eql e1 (d_k .i64 0)] at p1
    rw [d_lss (d_k .i64 64) (d_lenL e0)] at p2
    rw [d_lss (d_k .i64 0) (d_lenL e2)] at p3
    simp only [DV.bool.injEq, decide_eq_true_eq, decide_eq_false_iff_not] at p1 p2 p3
    exact ⟨l, i, met, rfl, by omega, by omega, by omega, by omega, hr⟩
  · rintro ds ⟨l, i, met, rfl, hl, hi0, hi1, hm, hr⟩
    generalize hR : rhoOf theI [DV.list l, .int .i64 i, .list met] = R
    have hI : R.I = theI := by rw [← hR]; rfl
    have e0 : den R (.v 0) = .list l := by rw [← hR]; rfl
    have e1 : den R (.v 1) = .int .i64 i := by rw [← hR]; rfl
    have e2 : den R (.v 2) = .list met := by rw [← hR]; rfl
    show goalR 0 FckL _ _ R _ rCk
    unfold rCk
    refine r_ask (d_lss e1 (d_lenL e0)) (fun h => ?_) (fun h => ?_)
    · simp only [decide_eq_true_eq] at h
      have hlt : i.toNat < l.length := by omega
      have hrow := hr _ (List.getElem_mem hlt)
      have hdrop : l.drop i.toNat = l[i.toNat] :: l.drop (i.toNat + 1) := List.drop_eq_getElem_cons hlt
      refine r_know (by rw [d_lss e1 (d_k .i64 0)]; simp; omega) ?_
      refine r_ask (d_wr hI e0 e1 hi0 hlt hrow) (fun hb => ?_) (fun hb => ?_)
      · show FckL _ = _
        rw [FckL_eq, hdrop]
        simp only [chk, hb, Bool.true_or, if_true, List.map_cons, List.map_nil, e1, List.drop_zero]
        rw [show ((i.toNat : Nat) : Int) = i by omega]
      · refine r_ask (d_has (ks := kyX (.v 0) (.v 1)) e2) (fun hm' => ?_) (fun hm' => ?_)
        · rw [d_ky e0 e1 hi0 hlt] at hm'
          show FckL _ = _
          rw [FckL_eq, hdrop]
          simp only [chk, hm', Bool.or_true, if_true, List.map_cons, List.map_nil, e1, List.drop_zero]
          rw [show ((i.toNat : Nat) : Int) = i by omega]
        · rw [d_ky e0 e1 hi0 hlt] at hm'
          refine r_know (len_leL e2 (by omega)) ?_
          have hadd := d_add (R := R) e1 (d_k .i64 1) (by omega) (by omega)
          have hcat : den R (.cat (.v 2) (.row (kyX (.v 0) (.v 1)))) = .list (met ++ [keyD l[i.toNat]]) := by
            show catD (den R (.v 2)) (den R (.row (kyX (.v 0) (.v 1)))) = _
            rw [e2, show den R (.row (kyX (.v 0) (.v 1))) = .list [(kyX (.v 0) (.v 1)).map (den R)] by simp only [den, denL_map], d_ky e0 e1 hi0 hlt]
            rfl
          have hτ : ([.v 0, add (.v 1) (k64 1), .cat (.v 2) (.row (kyX (.v 0) (.v 1)))] : List SX).map (den R) = [.list l, .int .i64 (i + 1), .list (met ++ [keyD l[i.toNat]])] := by
            simp only [List.map_cons, List.map_nil, e0, hadd, hcat]
            rfl
          show InvCk _ ∧ muCk _ < muCk _ ∧ FckL _ = FckL _
          rw [hτ]
          refine ⟨⟨l, i + 1, _, rfl, hl, by omega, by omega, by simp; omega, hr⟩, ?_, ?_⟩
          · show l.length - (i + 1).toNat < l.length - i.toNat
            omega
          · rw [FckL_eq, FckL_eq, hdrop, toNat_succ hi0]
            simp only [chk, hb, hm', Bool.or_self, Bool.false_eq_true, if_false]
    · simp only [decide_eq_false_iff_not] at h
      show FckL _ = _
      rw [FckL_eq, List.drop_eq_nil_of_le (by omega)]
      rfl
end Go.Proofs.YtbhfnmeojhpgbaaGreatDoor
namespace Go.Proofs.YtbhfnmeojhpgbaaGreatDoor
open Go Go.AM
/-! ### what a loop's function gives -/
theorem d_fl0 {R : Rho} {f : Nat} {es : List SX} {ds : List DV} {F : List DV → Bool × List DV} (hI : R.I f (es.map (den R)) = .list (FL F (es.map (den R)))) (hm : es.map (den R) = ds) : den R (.at (.app f es) (k64 0) 0) = .bool (F ds).1 := by
  rw [d_at 0 (by rw [d_app]; exact hI) (d_k .i64 0), hm]
  rfl
theorem d_fl {R : Rho} {f : Nat} {es : List SX} {ds : List DV} {F : List DV → Bool × List DV} (hI : R.I f (es.map (den R)) = .list (FL F (es.map (den R)))) (hm : es.map (den R) = ds) (k : Nat) : den R (.at (.app f es) (k64 0) (k + 1)) = (F ds).2.getD k (.bool false) := by
  rw [d_at (k + 1) (by rw [d_app]; exact hI) (d_k .i64 0), hm]
  rfl
/-! ### ideal.Check -/
noncomputable abbrev ckX (k : Nat) : SX := .at (.app 120 [.v 0, k64 0, .emp]) (k64 0) k
noncomputable def pCk : Pln :=
  (.ask (lss (k64 64) (.len (.v 0)))
    (.done [[k64 0], [k64 3]])
    (.know (lss (k64 0) (.len .emp)) false
      (.ask (ckX 0) (.done [[k64 0], [k64 0]]) (.done [[ckX 1], [k64 340]]))))
theorem kCk : (hasB 6 && checkPlan [.one tI, .one tI] (runI theI (entS [eWr]) [(6, SCk.L)] [] 6 [.one tDids]) [] pCk) = true := by kernel_rfl
theorem arg_dids {ds : List (List DV)} (h : IsArgs [.one tDids] ds) : ∃ l, ds = [[.list l]] ∧ l.length ≤ maxLen ∧ ∀ r ∈ l, IsL tDid r := by
  simp only [IsArgs, IsOne] at h
  obtain ⟨_, _, rfl, ⟨d, rfl, hd⟩, rfl⟩ := h
  obtain ⟨l, rfl, h1, h2⟩ := Is.lst hd
  exact ⟨l, rfl, h1, h2⟩
theorem fnCk : FnOK Tryz.prog G 6 [.one tDids] [.one tI, .one tI] (fun _ => True) Fchk := by
  have hk := kCk
  rw [Bool.and_eq_true] at hk
  refine fn_run (entS_ok eWr_ok) [(6, SCk.L)] [] (loops1 (by kernel_rfl) loopCk) hk.1 pCk hk.2 fun ds h _ => ?_
  obtain ⟨l, rfl, hl, hr⟩ := arg_dids h
  have hF : Fchk [[DV.list l]].flatten = [[.int .i64 (chkA l).1], [.int .i64 (chkA l).2]] := rfl
  rw [hF]
  generalize hR : rhoOf theI [[DV.list l]].flatten = R
  have hI : R.I = theI := by rw [← hR]; rfl
  have e0 : den R (.v 0) = .list l := by rw [← hR]; rfl
  have hm : ([.v 0, k64 0, .emp] : List SX).map (den R) = [.list l, .int .i64 0, .list []] := by
    simp only [List.map_cons, List.map_nil, e0]
    rfl
  have f0 := d_fl0 (R := R) (f := 120) (F := FckL) (by rw [hI]; rfl) hm
  have f1 := d_fl (R := R) (f := 120) (F := FckL) (by rw [hI]; rfl) hm 0
  rw [FckL_eq] at f0 f1
  simp only [Int.toNat_zero, List.drop_zero] at f0 f1
  unfold pCk chkA
  refine goal_ask (d_lss (d_k .i64 64) (d_lenL e0)) (fun h => ?_) (fun h => goal_know rfl (goal_ask f0 (fun hb => ?_) (fun hb => ?_)))
  · have : 64 < l.length := by simp only [decide_eq_true_eq] at h; omega
    rw [if_pos this]
    rfl
  · have : ¬ 64 < l.length := by simp only [decide_eq_false_iff_not] at h; omega
    rw [if_neg this]
    cases hc : chk l [] 0 with
    | none => rfl
    | some k => simp [hc] at hb
  · have : ¬ 64 < l.length := by simp only [decide_eq_false_iff_not] at h; omega
    rw [if_neg this]
    cases hc : chk l [] 0 with
    | none => simp [hc] at hb
    | some k =>
      show _ = _
      rw [hc] at f1
      simp only [List.map_cons, List.map_nil, f1]
      rfl
noncomputable def eCk : Ent := eFn 6 [.one tDids] [.one tI, .one tI] [] 20
theorem eCk_ok : EntsOK Tryz.prog G theI [eCk] := ⟨eFn_ok plainG (pre_true fnCk) (fun _ => rfl) [] (by kernel_rfl), trivial⟩
/-! ### the document's Wrong: its loops -/
noncomputable def blk0 (t : TypeId) : Blk := { t, row := false, sz := 1, n := 0, z := [.dead], c := .nil }
noncomputable abbrev didC (e i : SX) : List AV := [.sy tI (.at e i 0), .sy tU32 (.at e i 1), .sy .str (.at e i 2), .sy tI (.at e i 3), .sy tI (.at e i 4), .sy tI (.at e i 5), .sy tI (.at e i 6), .sy tRows (.at e i 7), .sy tI (.at e i 8)]
noncomputable abbrev cutW : SX := .cut (.v 0) (k64 0) (.v 1)
noncomputable def TWi : Tmpl := { tm := [(0, .sy tDids (.v 0)), (4, .sy tI (.v 1)), (5, .ptr 2000000 0), (11, .sy tDids (.v 0)), (12, .sy tI (.len (.v 0))), (13, .sy tI (.v 1)), (54, .sy tDids cutW), (55, .sy tI (.len cutW)), (56, .sy tI (.v 2))], ob := [(2000000, newBlk 46 (didC (.v 0) (.v 1)))], src := [.tm 0 tDids, .tm 4 tI, .tm 56 tI] }
noncomputable def YWi : Tmpl := { tm := [(0, .sy tDids (.v 0)), (11, .sy tDids (.v 0)), (12, .sy tI (.len (.v 0))), (13, .sy tI (.v 1))], ob := [(2000000, blk0 46)], src := [.tm 0 tDids, .tm 13 tI] }
noncomputable def NWi : Tmpl := { tm := [(0, .sy tDids (.v 0)), (2, .sy tI (.v 1)), (3, .sc (.int .i64 340))], ob := [(2000000, blk0 46)], src := [.tm 0 tDids, .tm 2 tI] }
noncomputable def SWi : StdL := { n := 79, T := TWi, tys := [tDids, tI, tI], pre := [(lss (.v 1) (k64 0), false), (lss (.v 1) (.len (.v 0)), true), (eql (.v 2) (k64 0), true)], f := 121, two := true, keep := [0, 1], yes := (.exit 2, YWi, 0), no := (.ret, NWi, 0) }
noncomputable abbrev codeWo : Code := loopAt 7 0
noncomputable def codeWi : Code := (loopsIn codeWo).getD 0 .skip
noncomputable def rWi : RPln :=
  .ask (lss (.v 2) (.len cutW))
    (knowR [(lss (.v 2) (k64 0), false)]
      (.ask (eql (.at cutW (.v 2) 0) (.at (.v 0) (.v 1) 0))
        (.ask (eql (.at cutW (.v 2) 1) (.at (.v 0) (.v 1) 1))
          (.exit false [.v 0, .v 1])
          (.next [.v 0, .v 1, add (.v 2) (k64 1)]))
        (.next [.v 0, .v 1, add (.v 2) (k64 1)])))
    (.exit true [.v 0, .v 1])
theorem okWi : (SWi.ok && (planOK SWi rWi && checkRound SWi.L (roundS theI (entS []) [] [] codeWi) [] rWi)) = true := by kernel_rfl
noncomputable def TWo : Tmpl := { tm := [(0, .sy tDids (.v 0)), (11, .sy tDids (.v 0)), (12, .sy tI (.len (.v 0))), (13, .sy tI (.v 1))], src := [.tm 0 tDids, .tm 13 tI] }
noncomputable def SWo : StdL := { n := 79, T := TWo, tys := [tDids, tI], pre := [(eql (.v 1) (k64 0), true)], f := 122, two := true, yes := (.exit 0, Y0, 0), no := (.ret, NCk, 1) }
end Go.Proofs.YtbhfnmeojhpgbaaGreatDoor
namespace Go.Proofs.YtbhfnmeojhpgbaaGreatDoor
open Go Go.AM
/-! ### the document's Wrong -/
open Classical in
theorem memD_cons {x y : List DV} {l : List (List DV)} : memD [x] (y :: l) = (decide (x = y) || memD [x] l) := by
  simp only [memD, List.mem_cons]
  by_cases h : x = y
  · simp [h]
  · simp [h]
theorem memD_nil {x : List DV} : memD [x] [] = false := by simp [memD]
theorem d_cut {R : Rho} {e i : SX} {l : List (List DV)} {z : Int} (he : den R e = .list l) (hi : den R i = .int .i64 z) : den R (.cut e (k64 0) i) = .list (l.take z.toNat) := by
  simp only [den, he, hi, cutD]
  simp
def InvWi (ds : List DV) : Prop := ∃ l i k, ds = [.list l, .int .i64 i, .int .i64 k] ∧ 0 ≤ i ∧ i < l.length ∧ 0 ≤ k ∧ k ≤ i ∧ l.length ≤ maxLen ∧ ∀ r ∈ l, IsL tDid r
def muWi (ds : List DV) : Nat := (iD ds 1).toNat - (iD ds 2).toNat
theorem FwrI_eq (l : List (List DV)) (i k : Int) : FwrI [.list l, .int .i64 i, .int .i64 k] = if memD [keyD (l.getD i.toNat [])] (((l.take i.toNat).drop k.toNat).map keyD) then (false, []) else (true, []) := rfl
open Classical in
theorem loopWi : LoopOK Tryz.prog G theI codeWi SWi.L := by
  refine loop_std (F := FwrI) (Inv := InvWi) (μ := muWi) (entS_ok (l := []) trivial) (sub := []) trivial (lps := []) noLoops (fun _ => rfl) rWi okWi ?_ ?_
  · intro ds h hp
    simp only [SWi, IsL] at h
    obtain ⟨d0, _, rfl, h0, d1, _, rfl, h1, d2, _, rfl, h2, rfl⟩ := h
    obtain ⟨l, rfl, hl, hr⟩ := Is.lst h0
    obtain ⟨i, rfl, _⟩ := h1.i64
    obtain ⟨k, rfl, _⟩ := h2.i64
    have p1 := hp (lss (.v 1) (k64 0), false) (by simp [SWi])
    have p2 := hp (lss (.v 1) (.len (.v 0)), true) (by simp [SWi])
    have p3 := hp (eql (.v 2) (k64 0), true) (by simp [SWi])
    have e0 : den (rhoOf theI [DV.list l, .int .i64 i, .int .i64 k]) (.v 0) = .list l := rfl
    have e1 : den (rhoOf theI [DV.list l, .int .i64 i, .int .i64 k]) (.v 1) = .int .i64 i := rfl
    have e2 : den (rhoOf theI [DV.list l, .int .i64 i, .int .i64 k]) (.v 2) = .int .i64 k := rfl
    rw [d_lss e1 (d_k .i64 0)] at p1
    rw [d_lss e1 (d_lenL e0)] at p2
    rw [d_eql e2 (d_k .i64 0)] at p3
    simp only [DV.bool.injEq, decide_eq_true_eq, decide_eq_false_iff_not] at p1 p2 p3
    exact ⟨l, i, k, rfl, by omega, by omega, by omega, by omega, hl, hr⟩
  · rintro ds ⟨l, i, k, rfl, hi0, hi1, hk0, hk1, hl, hr⟩
    have hmx := maxLen_lt
    generalize hR : rhoOf theI [DV.list l, .int .i64 i, .int .i64 k] = R
    have hI : R.I = theI := by rw [← hR]; rfl
    have e0 : den R (.v 0) = .list l := by rw [← hR]; rfl
    have e1 : den R (.v 1) = .int .i64 i := by rw [← hR]; rfl
    have e2 : den R (.v 2) = .int .i64 k := by rw [← hR]; rfl
    have ec := d_cut e0 e1
    have hil : i.toNat < l.length := by omega
    have hlen : (l.take i.toNat).length = i.toNat := by rw [List.length_take]; omega
    show goalR 2 FwrI _ _ R _ rWi
    unfold rWi
    refine r_ask (d_lss e2 (d_lenL ec)) (fun h => ?_) (fun h => ?_)
    · simp only [decide_eq_true_eq, hlen] at h
      have hkl : k.toNat < (l.take i.toNat).length := by rw [hlen]; omega
      have hkl' : k.toNat < l.length := by omega
      have hget : (l.take i.toNat)[k.toNat] = l[k.toNat] := List.getElem_take
      have hq := hr _ (List.getElem_mem hkl')
      have hrow := hr _ (List.getElem_mem hil)
      have hdrop : (l.take i.toNat).drop k.toNat = l[k.toNat] :: (l.take i.toNat).drop (k.toNat + 1) := by rw [List.drop_eq_getElem_cons hkl, hget]
      have dq := fun c => d_row ec e2 hk0 hkl c
      have dr := fun c => d_row e0 e1 hi0 hil c
      rw [hget] at dq
      have hnext : ∀ (hne : keyD l[i.toNat] ≠ keyD l[k.toNat]), InvWi (([.v 0, .v 1, add (.v 2) (k64 1)] : List SX).map (den R)) ∧ muWi (([.v 0, .v 1, add (.v 2) (k64 1)] : List SX).map (den R)) < muWi [.list l, .int .i64 i, .int .i64 k] ∧ FwrI (([.v 0, .v 1, add (.v 2) (k64 1)] : List SX).map (den R)) = FwrI [.list l, .int .i64 i, .int .i64 k] := by
        intro hne
        have hadd := d_add (R := R) e2 (d_k .i64 1) (by omega) (by omega)
        have hτ : ([.v 0, .v 1, add (.v 2) (k64 1)] : List SX).map (den R) = [.list l, .int .i64 i, .int .i64 (k + 1)] := by
          simp only [List.map_cons, List.map_nil, e0, e1, hadd]
          rfl
        rw [hτ]
        refine ⟨⟨l, i, k + 1, rfl, hi0, hi1, by omega, by omega, hl, hr⟩, ?_, ?_⟩
        · show i.toNat - (k + 1).toNat < i.toNat - k.toNat
          omega
        · rw [FwrI_eq, FwrI_eq, hdrop, toNat_succ hk0, List.map_cons, memD_cons, getD_lt hil, decide_eq_false hne, Bool.false_or]
      obtain ⟨c, s, t, a, b, e, g, rs, n, hrow', _⟩ := did_is hrow
      obtain ⟨c', s', t', a', b', e', g', rs', n', hq', _⟩ := did_is hq
      have q0 := dq 0
      have q1 := dq 1
      have r0 := dr 0
      have r1 := dr 1
      rw [hq'] at q0 q1
      rw [hrow'] at r0 r1
      refine r_know (by rw [d_lss e2 (d_k .i64 0)]; simp; omega) ?_
      refine r_ask (d_eql (k := .i64) q0 r0) (fun h1 => ?_) (fun h1 => hnext fun e => ?_)
      · refine r_ask (d_eql (k := .u32) q1 r1) (fun h2 => ?_) (fun h2 => hnext fun e => ?_)
        · simp only [decide_eq_true_eq] at h1 h2
          have : keyD l[i.toNat] = keyD l[k.toNat] := by rw [hrow', hq', ← h1, ← h2]; rfl
          show FwrI _ = _
          rw [FwrI_eq, hdrop, List.map_cons, memD_cons, getD_lt hil, this]
          simp
        · rw [hrow', hq'] at e
          simp only [decide_eq_false_iff_not] at h2
          simp [keyD] at e
          exact h2 e.2.symm
      · rw [hrow', hq'] at e
        simp only [decide_eq_false_iff_not] at h1
        simp [keyD] at e
        exact h1 e.1.symm
    · simp only [decide_eq_false_iff_not, hlen] at h
      show FwrI _ = _
      rw [FwrI_eq, List.drop_eq_nil_of_le (by rw [hlen]; omega)]
      simp [memD_nil]
/-! the outer loop -/
noncomputable abbrev rtX (e i : SX) : SX := .at (.app 2 [.at e i 0, .at e i 1, .at e i 2]) (k64 0) 0
noncomputable abbrev sameW : RPln := .ask (.at (.app 121 [.v 0, .v 1, k64 0]) (k64 0) 0) (.next [.v 0, add (.v 1) (k64 1)]) (.exit false [.v 1])
noncomputable def rWo : RPln :=
  .ask (lss (.v 1) (.len (.v 0)))
    (.know (lss (.v 1) (k64 0)) false
      (.ask (rtX (.v 0) (.v 1))
        (.ask (lss (.at (.v 0) (.v 1) 3) (k64 1))
          (.exit false [.v 1])
          (.ask (eql (.at (.v 0) (.v 1) 4) (k64 0))
            (.ask (smX fun k => .at (.v 0) (.v 1) k) sameW (.exit false [.v 1]))
            (.ask (lss (.at (.v 0) (.v 1) 4) (.at (.v 0) (.v 1) 3)) (.exit false [.v 1]) sameW)))
        (.exit false [.v 1])))
    (.exit true [])
theorem okWo : (SWo.ok && (planOK SWo rWo && checkRound SWo.L (roundS theI (entS [eRtx, eSmR]) [] [(10, SWi.L)] codeWo) [] rWo)) = true := by kernel_rfl
def InvWo (ds : List DV) : Prop := ∃ l i, ds = [.list l, .int .i64 i] ∧ 0 ≤ i ∧ i ≤ l.length ∧ l.length ≤ maxLen ∧ ∀ r ∈ l, IsL tDid r
def muWo (ds : List DV) : Nat := (lD ds 0).length - (iD ds 1).toNat
theorem FwrO_eq (l : List (List DV)) (i : Int) : FwrO [.list l, .int .i64 i] = match chk (l.drop i.toNat) ((l.take i.toNat).map keyD) i.toNat with
  | some k => (false, [.int .i64 k])
  | none => (true, []) := rfl
theorem loopWo : LoopOK Tryz.prog G theI codeWo SWo.L := by
  refine loop_std (F := FwrO) (Inv := InvWo) (μ := muWo) (entS_ok entWrR) (sub := []) trivial (lps := [(10, SWi.L)]) ?_ (fun _ => rfl) rWo okWo ?_ ?_
  · intro B hB L hL
    have h1 := lpsOf_mem hL
    simp only [List.mem_cons, List.not_mem_nil, or_false, Prod.mk.injEq] at h1
    obtain ⟨_, rfl⟩ := h1
    have : loopsIn codeWo = [codeWi] := by kernel_rfl
    rw [this] at hB
    simp only [List.mem_cons, List.not_mem_nil, or_false] at hB
    rw [hB]
    exact loopWi
  · intro ds h hp
    simp only [SWo, IsL] at h
    obtain ⟨d0, _, rfl, h0, d1, _, rfl, h1, rfl⟩ := h
    obtain ⟨l, rfl, hl, hr⟩ := Is.lst h0
    obtain ⟨i, rfl, _⟩ := h1.i64
    have p1 := hp (eql (.v 1) (k64 0), true) (by simp [SWo])
    have e1 : den (rhoOf theI [DV.list l, .int .i64 i]) (.v 1) = .int .i64 i := rfl
    rw [d_eql e1 (d_k .i64 0)] at p1
    simp only [DV.bool.injEq, decide_eq_true_eq] at p1
    exact ⟨l, i, rfl, by omega, by omega, hl, hr⟩
  · rintro ds ⟨l, i, rfl, hi0, hi1, hl, hr⟩
    have hmx := maxLen_lt
    generalize hR : rhoOf theI [DV.list l, .int .i64 i] = R
    have hI : R.I = theI := by rw [← hR]; rfl
    have e0 : den R (.v 0) = .list l := by rw [← hR]; rfl
    have e1 : den R (.v 1) = .int .i64 i := by rw [← hR]; rfl
    show goalR 0 FwrO _ _ R _ rWo
    unfold rWo
    refine r_ask (d_lss e1 (d_lenL e0)) (fun h => ?_) (fun h => ?_)
    · simp only [decide_eq_true_eq] at h
      have hil : i.toNat < l.length := by omega
      have hrow := hr _ (List.getElem_mem hil)
      have hdrop : l.drop i.toNat = l[i.toNat] :: l.drop (i.toNat + 1) := List.drop_eq_getElem_cons hil
      have dr := fun c => d_row e0 e1 hi0 hil c
      have bad : ∀ (hb : (didBad l[i.toNat] || memD [keyD l[i.toNat]] ((l.take i.toNat).map keyD)) = true), FwrO [.list l, .int .i64 i] = (false, (([.v 1] : List SX).drop 0).map (den R)) := by
        intro hb
        rw [FwrO_eq, hdrop]
        simp only [chk, hb, if_true, List.map_cons, List.map_nil, e1, List.drop_zero]
        rw [show ((i.toNat : Nat) : Int) = i by omega]
      have hmI : ([.v 0, .v 1, k64 0] : List SX).map (den R) = [.list l, .int .i64 i, .int .i64 0] := by
        simp only [List.map_cons, List.map_nil, e0, e1]
        rfl
      have f0 := d_fl0 (R := R) (f := 121) (F := FwrI) (by rw [hI]; rfl) hmI
      have hFI : (FwrI [.list l, .int .i64 i, .int .i64 0]).1 = !(memD [keyD l[i.toNat]] ((l.take i.toNat).map keyD)) := by
        rw [FwrI_eq, getD_lt hil]
        simp only [Int.toNat_zero, List.drop_zero]
        cases memD [keyD l[i.toNat]] ((l.take i.toNat).map keyD) <;> rfl
      rw [hFI] at f0
      have same : didBad l[i.toNat] = false → goalR 0 FwrO InvWo muWo R [.list l, .int .i64 i] sameW := by
        intro hgood
        refine r_ask f0 (fun hb => ?_) (fun hb => ?_)
        · have hb : memD [keyD l[i.toNat]] ((l.take i.toNat).map keyD) = false := by simpa using hb
          have hadd := d_add (R := R) e1 (d_k .i64 1) (by omega) (by omega)
          have hτ : ([.v 0, add (.v 1) (k64 1)] : List SX).map (den R) = [.list l, .int .i64 (i + 1)] := by
            simp only [List.map_cons, List.map_nil, e0, hadd]
            rfl
          show InvWo _ ∧ muWo _ < muWo _ ∧ FwrO _ = FwrO _
          rw [hτ]
          refine ⟨⟨l, i + 1, rfl, by omega, by omega, hl, hr⟩, ?_, ?_⟩
          · show l.length - (i + 1).toNat < l.length - i.toNat
            omega
          · rw [FwrO_eq, FwrO_eq, hdrop, toNat_succ hi0, take_succ_get hil, List.map_append]
            simp only [chk, hgood, hb, Bool.or_self, Bool.false_eq_true, if_false, List.map_cons, List.map_nil]
        · have hb : memD [keyD l[i.toNat]] ((l.take i.toNat).map keyD) = true := by simpa using hb
          exact bad (by rw [hb, Bool.or_true])
      have hsm := d_sm hI (f := fun k => .at (.v 0) (.v 1) k) hrow (fun k _ => dr k)
      have hrt : den R (rtX (.v 0) (.v 1)) = .bool (txB (iD l[i.toNat] 0) (iD l[i.toNat] 1) (sD l[i.toNat] 2)) := by
        refine d_res (F := Frtx) (by rw [hI]; rfl) ?_
        simp only [List.map_cons, List.map_nil, dr]
        obtain ⟨c, s, t, a, b, e, g, rs, n, hq, _⟩ := did_is hrow
        rw [hq]
        rfl
      have dr3 := dr 3
      have dr4 := dr 4
      have hbad : didBad l[i.toNat] = (!(txB (iD l[i.toNat] 0) (iD l[i.toNat] 1) (sD l[i.toNat] 2)) || decide (iD l[i.toNat] 3 < 1) || (if iD l[i.toNat] 4 = 0 then !(noneO l[i.toNat]) else decide (iD l[i.toNat] 4 < iD l[i.toNat] 3))) := rfl
      have i3 : l[i.toNat].getD 3 (.bool false) = .int .i64 (iD l[i.toNat] 3) := by
        obtain ⟨c, s, t, a, b, e, g, rs, n, hq, _⟩ := did_is hrow
        rw [hq]; rfl
      have i4 : l[i.toNat].getD 4 (.bool false) = .int .i64 (iD l[i.toNat] 4) := by
        obtain ⟨c, s, t, a, b, e, g, rs, n, hq, _⟩ := did_is hrow
        rw [hq]; rfl
      rw [i3] at dr3
      rw [i4] at dr4
      refine r_know (by rw [d_lss e1 (d_k .i64 0)]; simp; omega) ?_
      refine r_ask hrt (fun h1 => ?_) (fun h1 => bad (by rw [hbad, h1]; simp))
      refine r_ask (d_lss dr3 (d_k .i64 1)) (fun h2 => bad (by rw [hbad, show decide (iD l[i.toNat] 3 < 1) = true from h2]; simp)) (fun h2 => ?_)
      have h2 : decide (iD l[i.toNat] 3 < 1) = false := h2
      refine r_ask (d_eql dr4 (d_k .i64 0)) (fun h3 => ?_) (fun h3 => ?_)
      · have h3 : iD l[i.toNat] 4 = 0 := by simpa using h3
        refine r_ask hsm (fun h4 => same ?_) (fun h4 => bad ?_)
        · rw [hbad, h1, h2, if_pos h3, h4]; rfl
        · rw [hbad, if_pos h3, h4]; simp
      · have h3 : ¬ iD l[i.toNat] 4 = 0 := by simpa using h3
        refine r_ask (d_lss dr4 dr3) (fun h4 => bad ?_) (fun h4 => same ?_)
        · rw [hbad, if_neg h3, h4]; simp
        · rw [hbad, h1, h2, if_neg h3, h4]; rfl
    · simp only [decide_eq_false_iff_not] at h
      show FwrO _ = _
      rw [FwrO_eq, List.drop_eq_nil_of_le (by omega)]
      rfl
end Go.Proofs.YtbhfnmeojhpgbaaGreatDoor
