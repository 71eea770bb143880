/-
  A part of the proof of IdealChecks (the machine on named data, and the contracts of the functions that the law reaches): I6 I7 I8 I9.
-/
import Derived.Test.YtbhfnmeojhpgbaaGreatDoorKb
set_option linter.all false
set_option linter.unusedVariables false
set_option linter.unusedSimpArgs false
set_option linter.unusedSectionVars false
namespace Go.Proofs.YtbhfnmeojhpgbaaGreatDoor
open Go Go.AM
noncomputable abbrev woX (k : Nat) : SX := .at (.app 122 [.v 0, k64 0]) (k64 0) k
noncomputable def pWo : Pln :=
  (.ask (lss (k64 64) (.len (.v 0)))
    (.done [[k64 0], [k64 3]])
    (.ask (woX 0) (.done [[k64 0], [k64 0]]) (.done [[woX 1], [k64 340]])))
theorem kWo : (hasB 7 && checkPlan [.one tI, .one tI] (runI theI (entS [eRtx, eSmR]) [(5, SWo.L)] [] 7 [.one tDids]) [] pWo) = true := by kernel_rfl
theorem fnWo : FnOK Tryz.prog G 7 [.one tDids] [.one tI, .one tI] (fun _ => True) Fchk := by
  have hk := kWo
  rw [Bool.and_eq_true] at hk
  refine fn_run (entS_ok entWrR) [(5, SWo.L)] [] (loops1 (by kernel_rfl) loopWo) hk.1 pWo hk.2 fun ds h _ => ?_
  obtain ⟨l, rfl, hl, hr⟩ := arg_dids h
  have hF : Fchk [[DV.list l]].flatten = [[.int .i64 (chkA l).1], [.int .i64 (chkA l).2]] := rfl
  rw [hF]
  generalize hR : rhoOf theI [[DV.list l]].flatten = R
  have hI : R.I = theI := by rw [← hR]; rfl
  have e0 : den R (.v 0) = .list l := by rw [← hR]; rfl
  have hm : ([.v 0, k64 0] : List SX).map (den R) = [.list l, .int .i64 0] := by
    simp only [List.map_cons, List.map_nil, e0]
    rfl
  have f0 := d_fl0 (R := R) (f := 122) (F := FwrO) (by rw [hI]; rfl) hm
  have f1 := d_fl (R := R) (f := 122) (F := FwrO) (by rw [hI]; rfl) hm 0
  rw [FwrO_eq] at f0 f1
  simp only [Int.toNat_zero, List.drop_zero, List.take_zero, List.map_nil] at f0 f1
  unfold pWo chkA
  refine goal_ask (d_lss (d_k .i64 64) (d_lenL e0)) (fun h => ?_) (fun h => goal_ask f0 (fun hb => ?_) (fun hb => ?_))
  · have : 64 < l.length := by simp only [decide_eq_true_eq] at h; omega
    rw [if_pos this]
    rfl
  · have : ¬ 64 < l.length := by simp only [decide_eq_false_iff_not] at h; omega
    rw [if_neg this]
    cases hc : chk l [] 0 with
    | none => rfl
    | some k => simp [hc] at hb
  · have : ¬ 64 < l.length := by simp only [decide_eq_false_iff_not] at h; omega
    rw [if_neg this]
    cases hc : chk l [] 0 with
    | none => simp [hc] at hb
    | some k =>
      show _ = _
      rw [hc] at f1
      simp only [List.map_cons, List.map_nil, f1]
      rfl
noncomputable def eWo : Ent := eFn 7 [.one tDids] [.one tI, .one tI] [] 20
theorem eWo_ok : EntsOK Tryz.prog G theI [eWo] := ⟨eFn_ok plainG (pre_true fnWo) (fun _ => rfl) [] (by kernel_rfl), trivial⟩
/-! ### in -/
noncomputable def TIn : Tmpl := { tm := [(1, .sy tI (.v 1)), (7, .sy tInts (.v 0)), (8, .sy tI (.len (.v 0))), (9, .sy tI (.v 2))], src := [.tm 7 tInts, .tm 1 tI, .tm 9 tI] }
noncomputable def SIn : StdL := { n := 17, T := TIn, tys := [tInts, tI, tI], pre := [(eql (.v 2) (k64 0), true)], f := 126, two := true, yes := (.exit 0, Y0, 0), no := (.ret, { tm := [(4, .sc (.bool true))] }, 0) }
noncomputable abbrev codeIn : Code := loopAt 20 0
noncomputable def rIn : RPln :=
  .ask (lss (.v 2) (.len (.v 0)))
    (.know (lss (.v 2) (k64 0)) false
      (.ask (eql (.at (.v 0) (.v 2) 0) (.v 1)) (.exit false []) (.next [.v 0, .v 1, add (.v 2) (k64 1)])))
    (.exit true [])
theorem okIn : (SIn.ok && (planOK SIn rIn && checkRound SIn.L (roundS theI (entS []) [] [] codeIn) [] rIn)) = true := by kernel_rfl
def InvIn (ds : List DV) : Prop := ∃ l x i, ds = [.list l, .int .i64 x, .int .i64 i] ∧ 0 ≤ i ∧ i ≤ l.length ∧ l.length ≤ maxLen ∧ ∀ r ∈ l, IsL [tI] r
def muIn (ds : List DV) : Nat := (lD ds 0).length - (iD ds 2).toNat
theorem FinL_eq (l : List (List DV)) (x i : Int) : FinL [.list l, .int .i64 x, .int .i64 i] = (!(memD [[.int .i64 x]] (l.drop i.toNat)), []) := rfl
open Classical in
theorem loopIn : LoopOK Tryz.prog G theI codeIn SIn.L := by
  refine loop_std (F := FinL) (Inv := InvIn) (μ := muIn) (entS_ok (l := []) trivial) (sub := []) trivial (lps := []) noLoops (fun _ => rfl) rIn okIn ?_ ?_
  · intro ds h hp
    simp only [SIn, IsL] at h
    obtain ⟨d0, _, rfl, h0, d1, _, rfl, h1, d2, _, rfl, h2, rfl⟩ := h
    obtain ⟨l, rfl, hl, hr⟩ := Is.lst h0
    obtain ⟨x, rfl, _⟩ := h1.i64
    obtain ⟨i, rfl, _⟩ := h2.i64
    have p1 := hp (eql (.v 2) (k64 0), true) (by simp [SIn])
    have e2 : den (rhoOf theI [DV.list l, .int .i64 x, .int .i64 i]) (.v 2) = .int .i64 i := rfl
    rw [d_eql e2 (d_k .i64 0)] at p1
    simp only [DV.bool.injEq, decide_eq_true_eq] at p1
    exact ⟨l, x, i, rfl, by omega, by omega, hl, fun r hq => by simpa only [IsL] using hr r hq⟩
  · rintro ds ⟨l, x, i, rfl, hi0, hi1, hl, hr⟩
    have hmx := maxLen_lt
    generalize hR : rhoOf theI [DV.list l, .int .i64 x, .int .i64 i] = R
    have e0 : den R (.v 0) = .list l := by rw [← hR]; rfl
    have e1 : den R (.v 1) = .int .i64 x := by rw [← hR]; rfl
    have e2 : den R (.v 2) = .int .i64 i := by rw [← hR]; rfl
    show goalR 0 FinL _ _ R _ rIn
    unfold rIn
    refine r_ask (d_lss e2 (d_lenL e0)) (fun h => ?_) (fun h => ?_)
    · simp only [decide_eq_true_eq] at h
      have hil : i.toNat < l.length := by omega
      obtain ⟨z, hz, _⟩ := int_is (hr _ (List.getElem_mem hil))
      have hdrop : l.drop i.toNat = l[i.toNat] :: l.drop (i.toNat + 1) := List.drop_eq_getElem_cons hil
      have dz := d_row e0 e2 hi0 hil 0
      rw [hz] at dz
      refine r_know (by rw [d_lss e2 (d_k .i64 0)]; simp; omega) ?_
      refine r_ask (d_eql (k := .i64) dz e1) (fun h1 => ?_) (fun h1 => ?_)
      · show FinL _ = _
        simp only [decide_eq_true_eq] at h1
        rw [FinL_eq, hdrop, hz, memD_cons, ← h1]
        simp
      · simp only [decide_eq_false_iff_not] at h1
        have hadd := d_add (R := R) e2 (d_k .i64 1) (by omega) (by omega)
        have hτ : ([.v 0, .v 1, add (.v 2) (k64 1)] : List SX).map (den R) = [.list l, .int .i64 x, .int .i64 (i + 1)] := by
          simp only [List.map_cons, List.map_nil, e0, e1, hadd]
          rfl
        show InvIn _ ∧ muIn _ < muIn _ ∧ FinL _ = FinL _
        rw [hτ]
        refine ⟨⟨l, x, i + 1, rfl, by omega, by omega, hl, hr⟩, ?_, ?_⟩
        · show l.length - (i + 1).toNat < l.length - i.toNat
          omega
        · rw [FinL_eq, FinL_eq, hdrop, hz, toNat_succ hi0, memD_cons]
          have : ¬ ([DV.int .i64 x] = [DV.int .i64 z]) := by
            intro e
            simp at e
            exact h1 e.symm
          rw [decide_eq_false this, Bool.false_or]
    · simp only [decide_eq_false_iff_not] at h
      show FinL _ = _
      rw [FinL_eq, List.drop_eq_nil_of_le (by omega), memD_nil]
      rfl
noncomputable def pIn : Pln := .ask (.at (.app 126 [.v 0, .v 1, k64 0]) (k64 0) 0) (.done [[.kb false]]) (.done [[.kb true]])
theorem kIn : (hasB 20 && checkPlan [.one .bool] (runI theI (entS []) [(3, SIn.L)] [] 20 [.one tInts, .one tI]) [] pIn) = true := by kernel_rfl
theorem fnIn : FnOK Tryz.prog G 20 [.one tInts, .one tI] [.one .bool] (fun _ => True) Fin1 := by
  have hk := kIn
  rw [Bool.and_eq_true] at hk
  refine fn_run (entS_ok (l := []) trivial) [(3, SIn.L)] [] (loops1 (by kernel_rfl) loopIn) hk.1 pIn hk.2 fun ds h _ => ?_
  simp only [IsArgs, IsOne] at h
  obtain ⟨_, _, rfl, ⟨d, rfl, hd⟩, _, _, rfl, ⟨e, rfl, he⟩, rfl⟩ := h
  obtain ⟨l, rfl, hl, hr⟩ := Is.lst hd
  obtain ⟨x, rfl, _⟩ := he.i64
  have hF : Fin1 [[DV.list l], [.int .i64 x]].flatten = [[.bool (memD [[.int .i64 x]] l)]] := rfl
  rw [hF]
  generalize hR : rhoOf theI [[DV.list l], [.int .i64 x]].flatten = R
  have hI : R.I = theI := by rw [← hR]; rfl
  have e0 : den R (.v 0) = .list l := by rw [← hR]; rfl
  have e1 : den R (.v 1) = .int .i64 x := by rw [← hR]; rfl
  have hm : ([.v 0, .v 1, k64 0] : List SX).map (den R) = [.list l, .int .i64 x, .int .i64 0] := by
    simp only [List.map_cons, List.map_nil, e0, e1]
    rfl
  have f0 := d_fl0 (R := R) (f := 126) (F := FinL) (by rw [hI]; rfl) hm
  rw [FinL_eq] at f0
  simp only [Int.toNat_zero, List.drop_zero] at f0
  unfold pIn
  refine goal_ask f0 (fun hb => ?_) (fun hb => ?_)
  · have hb : memD [[.int .i64 x]] l = false := by simpa using hb
    rw [hb]; rfl
  · have hb : memD [[.int .i64 x]] l = true := by simpa using hb
    rw [hb]; rfl
noncomputable def eIn : Ent := eFn 20 [.one tInts, .one tI] [.one .bool] [] 23
theorem eIn_ok : EntsOK Tryz.prog G theI [eIn] := ⟨eFn_ok plainG (pre_true fnIn) (fun _ => rfl) [] (by kernel_rfl), trivial⟩
end Go.Proofs.YtbhfnmeojhpgbaaGreatDoor
namespace Go.Proofs.YtbhfnmeojhpgbaaGreatDoor
open Go Go.AM
/-! ### ideal.Order: its first two loops -/
noncomputable abbrev bInt (a : AV) : Blk := newBlk 3 [a]
noncomputable abbrev bErr (a : AV) : Blk := newBlk 27 [a]
noncomputable abbrev zI : AV := .sc (.int .i64 0)
noncomputable abbrev obZ : List (Nat × Blk) := [(0, bInt zI), (1, bErr zI)]
noncomputable abbrev obR (x : SX) (n : Int) : List (Nat × Blk) := [(0, bInt (.sy tI x)), (1, bErr (.sc (.int .i64 n)))]
noncomputable def ToA : Tmpl := { tm := [(0, .sy tDids (.v 1)), (1, .sy tInts (.v 0)), (4, .ptr 0 0), (5, .ptr 1 0), (8, .hnd 2 7), (26, .sy tInts (.v 0)), (27, .sy tI (.len (.v 0))), (28, .sy tI (.v 2))], ob := obZ, ow := [⟨7, 0, [tI], .v 3⟩], src := [.tm 26 tInts, .tm 0 tDids, .tm 28 tI, .own 0], osrc := [.mp 8] }
noncomputable def YoA : Tmpl := { tm := [(0, .sy tDids (.v 1)), (1, .sy tInts (.v 0)), (4, .ptr 0 0), (5, .ptr 1 0), (8, .hnd 2 7)], ob := obZ, ow := [⟨7, 0, [tI], .v 2⟩], src := [.tm 1 tInts, .tm 0 tDids, .own 0], osrc := [.mp 8] }
noncomputable def NoA : Tmpl := { tm := [(0, .sy tDids (.v 1)), (1, .sy tInts (.v 0)), (4, .ptr 0 0), (5, .ptr 1 0)], ob := obR (.v 2) 2, src := [.tm 1 tInts, .tm 0 tDids, .cell 0 0 tI] }
noncomputable def SoA : StdL := { n := 87, T := ToA, tys := [tInts, tDids, tI, tInts], pre := [(eql (.v 2) (k64 0), true), (lss (k64 1000) (.len (.v 0)), false), (lss (k64 0) (.len (.v 3)), false)], f := 123, two := true, keep := [0, 1], yes := (.exit 0, YoA, 1), no := (.ret, NoA, 1) }
noncomputable abbrev codeOA : Code := loopAt 8 0
noncomputable abbrev kOA : SX := .at (.v 0) (.v 2) 0
noncomputable def roA : RPln :=
  .ask (lss (.v 2) (.len (.v 0)))
    (.know (lss (.v 2) (k64 0)) false
      (.ask (lss kOA (k64 0)) (.exit false [.v 0, .v 1, .v 2])
        (.ask (lss kOA (.len (.v 1)))
          (.ask (.bin .lss (.row [kOA]) (.v 3)) (.exit false [.v 0, .v 1, .v 2])
            (.know (lss (k64 1000000) (.len (.v 3))) false
              (.next [.v 0, .v 1, add (.v 2) (k64 1), .cat (.v 3) (.row [kOA])])))
          (.exit false [.v 0, .v 1, .v 2]))))
    (.exit true [.v 0, .v 1, .v 3])
theorem okOA : (SoA.ok && (planOK SoA roA && checkRound SoA.L (roundS theI (entS []) [] [] codeOA) [] roA)) = true := by kernel_rfl
noncomputable def ToB : Tmpl := { tm := [(0, .sy tDids (.v 0)), (1, .sy tInts (.v 1)), (4, .ptr 0 0), (5, .ptr 1 0), (8, .hnd 2 7), (50, .sy tDids (.v 0)), (51, .sy tI (.len (.v 0))), (52, .sy tI (.v 2))], ob := obZ, ow := [⟨7, 0, [tI], .v 3⟩], src := [.tm 0 tDids, .tm 1 tInts, .tm 52 tI, .own 0], osrc := [.mp 8] }
noncomputable def YoB : Tmpl := { tm := [(0, .sy tDids (.v 0)), (1, .sy tInts (.v 1)), (4, .ptr 0 0), (5, .ptr 1 0)], ob := obZ, src := [.tm 0 tDids, .tm 1 tInts] }
noncomputable def NoB : Tmpl := { tm := [(0, .sy tDids (.v 0)), (1, .sy tInts (.v 1)), (4, .ptr 0 0), (5, .ptr 1 0)], ob := obR (.v 2) 341, src := [.tm 0 tDids, .tm 1 tInts, .cell 0 0 tI] }
noncomputable def SoB : StdL := { n := 87, T := ToB, tys := [tDids, tInts, tI, tInts], pre := [(eql (.v 2) (k64 0), true)], f := 124, two := true, keep := [0, 1], yes := (.exit 2, YoB, 0), no := (.ret, NoB, 1) }
noncomputable abbrev codeOB : Code := loopAt 8 1
noncomputable def nxB : RPln := .next [.v 0, .v 1, add (.v 2) (k64 1), .v 3]
noncomputable def roB : RPln :=
  .ask (lss (.v 2) (.len (.v 0)))
    (.know (lss (.v 2) (k64 0)) false
      (.ask (lss (k64 0) (.at (.v 0) (.v 2) 4))
        (.ask (.bin .lss (.row [.v 2]) (.v 3)) nxB (.exit false [.v 0, .v 1, .v 2]))
        nxB))
    (.exit true [.v 0, .v 1])
theorem okOB : (SoB.ok && (planOK SoB roB && checkRound SoB.L (roundS theI (entS []) [] [] codeOB) [] roB)) = true := by kernel_rfl
/-! the first -/
def InvOA (ds : List DV) : Prop := ∃ o l i met, ds = [.list o, .list l, .int .i64 i, .list met] ∧ o.length ≤ 1000 ∧ 0 ≤ i ∧ i ≤ o.length ∧ met.length ≤ i ∧ (∀ r ∈ o, IsL [tI] r)
def muOA (ds : List DV) : Nat := (lD ds 0).length - (iD ds 2).toNat
theorem FoA_eq (o l met : List (List DV)) (i : Int) : FoA [.list o, .list l, .int .i64 i, .list met] = match ordA (o.drop i.toNat) l.length met i.toNat with
  | some k => (false, [.int .i64 k])
  | none => (true, [.list (met ++ o.drop i.toNat)]) := rfl
theorem loopOA : LoopOK Tryz.prog G theI codeOA SoA.L := by
  refine loop_std (F := FoA) (Inv := InvOA) (μ := muOA) (entS_ok (l := []) trivial) (sub := []) trivial (lps := []) noLoops (fun _ => rfl) roA okOA ?_ ?_
  · intro ds h hp
    simp only [SoA, IsL] at h
    obtain ⟨d0, _, rfl, h0, d1, _, rfl, h1, d2, _, rfl, h2, d3, _, rfl, h3, rfl⟩ := h
    obtain ⟨o, rfl, ho, hr⟩ := Is.lst h0
    obtain ⟨l, rfl, _⟩ := Is.lst h1
    obtain ⟨i, rfl, _⟩ := h2.i64
    obtain ⟨met, rfl, _⟩ := Is.lst h3
    have p1 := hp (eql (.v 2) (k64 0), true) (by simp [SoA])
    have p2 := hp (lss (k64 1000) (.len (.v 0)), false) (by simp [SoA])
    have p3 := hp (lss (k64 0) (.len (.v 3)), false) (by simp [SoA])
    have e0 : den (rhoOf theI [DV.list o, .list l, .int .i64 i, .list met]) (.v 0) = .list o := rfl
    have e2 : den (rhoOf theI [DV.list o, .list l, .int .i64 i, .list met]) (.v 2) = .int .i64 i := rfl
    have e3 : den (rhoOf theI [DV.list o, .list l, .int .i64 i, .list met]) (.v 3) = .list met := rfl
    rw [d_eql e2 (d_k .i64 0)] at p1
    rw [d_lss (d_k .i64 1000) (d_lenL e0)] at p2
    rw [d_lss (d_k .i64 0) (d_lenL e3)] at p3
    simp only [DV.bool.injEq, decide_eq_true_eq, decide_eq_false_iff_not] at p1 p2 p3
    exact ⟨o, l, i, met, rfl, by omega, by omega, by omega, by omega, fun r hq => by simpa only [IsL] using hr r hq⟩
  · rintro ds ⟨o, l, i, met, rfl, ho, hi0, hi1, hm, hr⟩
    generalize hR : rhoOf theI [DV.list o, .list l, .int .i64 i, .list met] = R
    have e0 : den R (.v 0) = .list o := by rw [← hR]; rfl
    have e1 : den R (.v 1) = .list l := by rw [← hR]; rfl
    have e2 : den R (.v 2) = .int .i64 i := by rw [← hR]; rfl
    have e3 : den R (.v 3) = .list met := by rw [← hR]; rfl
    show goalR 2 FoA _ _ R _ roA
    unfold roA
    refine r_ask (d_lss e2 (d_lenL e0)) (fun h => ?_) (fun h => ?_)
    · simp only [decide_eq_true_eq] at h
      have hil : i.toNat < o.length := by omega
      obtain ⟨z, hz, _⟩ := int_is (hr _ (List.getElem_mem hil))
      have hdrop : o.drop i.toNat = [.int .i64 z] :: o.drop (i.toNat + 1) := by rw [List.drop_eq_getElem_cons hil, hz]
      have dz : den R kOA = .int .i64 z := by
        have := d_row e0 e2 hi0 hil 0
        rw [hz] at this
        exact this
      have bad : (decide (z < 0) || decide ((l.length : Int) ≤ z) || memD [[.int .i64 z]] met) = true → FoA [.list o, .list l, .int .i64 i, .list met] = (false, (([.v 0, .v 1, .v 2] : List SX).drop 2).map (den R)) := by
        intro hb
        rw [FoA_eq, hdrop]
        have hb' : (decide (iD [DV.int .i64 z] 0 < 0) || decide ((l.length : Int) ≤ iD [DV.int .i64 z] 0) || memD [[DV.int .i64 z]] met) = true := hb
        simp only [ordA, hb', if_true, List.drop_succ_cons, List.drop_zero, List.map_cons, List.map_nil, e2]
        rw [show ((i.toNat : Nat) : Int) = i by omega]
      refine r_know (by rw [d_lss e2 (d_k .i64 0)]; simp; omega) ?_
      refine r_ask (d_lss dz (d_k .i64 0)) (fun h1 => bad (by rw [show decide (z < 0) = true from h1]; rfl)) (fun h1 => ?_)
      have h1 : decide (z < 0) = false := h1
      refine r_ask (d_lss dz (d_lenL e1)) (fun h2 => ?_) (fun h2 => bad ?_)
      · have h2' : decide ((l.length : Int) ≤ z) = false := by
          simp only [decide_eq_true_eq] at h2
          simp only [decide_eq_false_iff_not]
          omega
        refine r_ask (d_has (ks := [kOA]) e3) (fun h3 => bad ?_) (fun h3 => ?_)
        · rw [show ([kOA] : List SX).map (den R) = [.int .i64 z] by simp only [List.map_cons, List.map_nil, dz]] at h3
          rw [h3, Bool.or_true]
        · rw [show ([kOA] : List SX).map (den R) = [.int .i64 z] by simp only [List.map_cons, List.map_nil, dz]] at h3
          refine r_know (len_leL e3 (by omega)) ?_
          have hadd := d_add (R := R) e2 (d_k .i64 1) (by omega) (by omega)
          have hcat : den R (.cat (.v 3) (.row [kOA])) = .list (met ++ [[.int .i64 z]]) := by
            show catD (den R (.v 3)) (den R (.row [kOA])) = _
            rw [e3, show den R (.row [kOA]) = .list [[den R kOA]] from rfl, dz]
            rfl
          have hτ : ([.v 0, .v 1, add (.v 2) (k64 1), .cat (.v 3) (.row [kOA])] : List SX).map (den R) = [.list o, .list l, .int .i64 (i + 1), .list (met ++ [[.int .i64 z]])] := by
            simp only [List.map_cons, List.map_nil, e0, e1, hadd, hcat]
            rfl
          show InvOA _ ∧ muOA _ < muOA _ ∧ FoA _ = FoA _
          rw [hτ]
          refine ⟨⟨o, l, i + 1, _, rfl, ho, by omega, by omega, by simp; omega, hr⟩, ?_, ?_⟩
          · show o.length - (i + 1).toNat < o.length - i.toNat
            omega
          · rw [FoA_eq, FoA_eq, hdrop, toNat_succ hi0]
            have hb' : (decide (iD [DV.int .i64 z] 0 < 0) || decide ((l.length : Int) ≤ iD [DV.int .i64 z] 0) || memD [[DV.int .i64 z]] met) = false := by
              show (decide (z < 0) || decide ((l.length : Int) ≤ z) || _) = false
              rw [h1, h2', h3]
              rfl
            simp only [ordA, hb', Bool.false_eq_true, if_false, List.append_assoc, List.cons_append, List.nil_append]
      · have : decide ((l.length : Int) ≤ z) = true := by
          simp only [decide_eq_false_iff_not] at h2
          simp only [decide_eq_true_eq]
          omega
        rw [this]
        simp
    · simp only [decide_eq_false_iff_not] at h
      show FoA _ = _
      rw [FoA_eq, List.drop_eq_nil_of_le (by omega)]
      simp only [ordA, List.append_nil, List.drop_succ_cons, List.drop_zero, List.map_cons, List.map_nil, e3]
/-! the second -/
def InvOB (ds : List DV) : Prop := ∃ l o i met, ds = [.list l, .list o, .int .i64 i, .list met] ∧ 0 ≤ i ∧ i ≤ l.length ∧ l.length ≤ maxLen ∧ ∀ r ∈ l, IsL tDid r
theorem FoB_eq (l o met : List (List DV)) (i : Int) : FoB [.list l, .list o, .int .i64 i, .list met] = match tolB (l.drop i.toNat) met i.toNat with
  | some k => (false, [.int .i64 k])
  | none => (true, []) := rfl
theorem loopOB : LoopOK Tryz.prog G theI codeOB SoB.L := by
  refine loop_std (F := FoB) (Inv := InvOB) (μ := muOA) (entS_ok (l := []) trivial) (sub := []) trivial (lps := []) noLoops (fun _ => rfl) roB okOB ?_ ?_
  · intro ds h hp
    simp only [SoB, IsL] at h
    obtain ⟨d0, _, rfl, h0, d1, _, rfl, h1, d2, _, rfl, h2, d3, _, rfl, h3, rfl⟩ := h
    obtain ⟨l, rfl, hl, hr⟩ := Is.lst h0
    obtain ⟨o, rfl, _⟩ := Is.lst h1
    obtain ⟨i, rfl, _⟩ := h2.i64
    obtain ⟨met, rfl, _⟩ := Is.lst h3
    have p1 := hp (eql (.v 2) (k64 0), true) (by simp [SoB])
    have e2 : den (rhoOf theI [DV.list l, .list o, .int .i64 i, .list met]) (.v 2) = .int .i64 i := rfl
    rw [d_eql e2 (d_k .i64 0)] at p1
    simp only [DV.bool.injEq, decide_eq_true_eq] at p1
    exact ⟨l, o, i, met, rfl, by omega, by omega, hl, hr⟩
  · rintro ds ⟨l, o, i, met, rfl, hi0, hi1, hl, hr⟩
    have hmx := maxLen_lt
    generalize hR : rhoOf theI [DV.list l, .list o, .int .i64 i, .list met] = R
    have e0 : den R (.v 0) = .list l := by rw [← hR]; rfl
    have e1 : den R (.v 1) = .list o := by rw [← hR]; rfl
    have e2 : den R (.v 2) = .int .i64 i := by rw [← hR]; rfl
    have e3 : den R (.v 3) = .list met := by rw [← hR]; rfl
    show goalR 2 FoB _ _ R _ roB
    unfold roB
    refine r_ask (d_lss e2 (d_lenL e0)) (fun h => ?_) (fun h => ?_)
    · simp only [decide_eq_true_eq] at h
      have hil : i.toNat < l.length := by omega
      have hrow := hr _ (List.getElem_mem hil)
      have hdrop : l.drop i.toNat = l[i.toNat] :: l.drop (i.toNat + 1) := List.drop_eq_getElem_cons hil
      have d4 : den R (.at (.v 0) (.v 2) 4) = .int .i64 (iD l[i.toNat] 4) := by
        rw [d_row e0 e2 hi0 hil 4]
        obtain ⟨c, s, t, a, b, e, g, rs, n, hq, _⟩ := did_is hrow
        rw [hq]; rfl
      have nx : (decide (0 < iD l[i.toNat] 4) && !(memD [[.int .i64 i]] met)) = false → goalR 2 FoB InvOB muOA R [.list l, .list o, .int .i64 i, .list met] nxB := by
        intro hb
        have hadd := d_add (R := R) e2 (d_k .i64 1) (by omega) (by omega)
        have hτ : ([.v 0, .v 1, add (.v 2) (k64 1), .v 3] : List SX).map (den R) = [.list l, .list o, .int .i64 (i + 1), .list met] := by
          simp only [List.map_cons, List.map_nil, e0, e1, e3, hadd]
          rfl
        show InvOB _ ∧ muOA _ < muOA _ ∧ FoB _ = FoB _
        rw [hτ]
        refine ⟨⟨l, o, i + 1, met, rfl, by omega, by omega, hl, hr⟩, ?_, ?_⟩
        · show l.length - (i + 1).toNat < l.length - i.toNat
          omega
        · rw [FoB_eq, FoB_eq, hdrop, toNat_succ hi0]
          simp only [tolB]
          rw [show ((i.toNat : Nat) : Int) = i by omega, hb]
          rfl
      refine r_know (by rw [d_lss e2 (d_k .i64 0)]; simp; omega) ?_
      refine r_ask (d_lss (d_k .i64 0) d4) (fun h1 => ?_) (fun h1 => nx (by rw [show decide (0 < iD l[i.toNat] 4) = false from h1]; rfl))
      have h1 : decide (0 < iD l[i.toNat] 4) = true := h1
      refine r_ask (d_has (ks := [.v 2]) e3) (fun h2 => nx ?_) (fun h2 => ?_)
      · rw [show ([.v 2] : List SX).map (den R) = [.int .i64 i] by simp only [List.map_cons, List.map_nil, e2]] at h2
        rw [h2]
        simp
      · rw [show ([.v 2] : List SX).map (den R) = [.int .i64 i] by simp only [List.map_cons, List.map_nil, e2]] at h2
        show FoB _ = _
        rw [FoB_eq, hdrop]
        simp only [tolB]
        rw [show ((i.toNat : Nat) : Int) = i by omega, h1, h2]
        simp only [Bool.not_false, Bool.and_self, if_true, List.drop_succ_cons, List.drop_zero, List.map_cons, List.map_nil, e2]
        rw [show ((i.toNat : Nat) : Int) = i by omega]
    · simp only [decide_eq_false_iff_not] at h
      show FoB _ = _
      rw [FoB_eq, List.drop_eq_nil_of_le (by omega)]
      rfl
end Go.Proofs.YtbhfnmeojhpgbaaGreatDoor
namespace Go.Proofs.YtbhfnmeojhpgbaaGreatDoor
open Go Go.AM
/-! ### ideal.Order: its range over a function -/
/-- The ranges over functions in a text. -/
noncomputable def rfsIn : Code → List (Array Tmp × Code × Code)
  | .seq a b => rfsIn a ++ rfsIn b
  | .cond _ a b => rfsIn a ++ rfsIn b
  | .block _ a => rfsIn a
  | .scope a => rfsIn a
  | .rangeFunc _ ps asg body => [(ps, asg, body)]
  | _ => []
noncomputable def rfAt (f k : Nat) : Array Tmp × Code × Code := (rfsIn (bodyOf f)).getD k (#[], .skip, .skip)
noncomputable def lpX (f k st : Nat) (e : Ex) : LpX := { st, pend := e, ps := (rfAt f k).1, asg := (rfAt f k).2.1, body := (rfAt f k).2.2 }
noncomputable def putL : List (Nat × AV) → Tr AV
  | [] => .nil
  | (i, a) :: l => (putL l).put i a
/-- What a range over a function keeps. -/
noncomputable def lpB (f k st : Nat) (e : Ex) (n : Nat) (l : List (Nat × AV)) : Blk := { t := 0, row := false, sz := 1, n, z := [.dead], c := putL l, lp := some (lpX f k st e) }
noncomputable abbrev fOrd : Nat := 8
noncomputable abbrev bDids (a : AV) : Blk := newBlk 25 [a]
noncomputable def ToC : Tmpl := { tm := [(0, .hnd 1 10), (2, .ptr 7 0), (6, .sy tInts (.v 0)), (7, .sy tI (.len (.v 0))), (8, .sy tI (.v 2))], ob := [(0, bInt zI), (1, bErr zI), (6, bInt (.sy tI (.v 3))), (7, bDids (.sy tDids (.v 1))), (10, lpB fOrd 0 0 .normal 87 [(4, .ptr 0 0), (5, .ptr 1 0), (13, .ptr 6 0)])], src := [.tm 6 tInts, .cell 7 0 tDids, .tm 8 tI, .cell 6 0 tI] }
noncomputable def YoC : Tmpl := { tm := [], ob := [(0, bInt zI), (1, bErr zI), (6, blk0 3), (7, blk0 25), (10, lpB fOrd 0 0 .normal 87 [])] }
noncomputable def NoC : Tmpl := { tm := [], ob := [(0, bInt (.sy tI (.v 0))), (1, bErr (.sc (.int .i64 341))), (6, blk0 3), (7, blk0 25), (10, lpB fOrd 0 2 .ret 87 [])], src := [.cell 0 0 tI] }
noncomputable def SoC : StdL := { n := 21, T := ToC, tys := [tInts, tDids, tI, tI], pre := [(eql (.v 2) (k64 0), true), (.app 140 [.v 0, .v 1], true)], f := 125, two := true, yes := (.exit 0, YoC, 0), no := (.ret, NoC, 1) }
noncomputable abbrev codeOC : Code := loopAt 29 0
noncomputable abbrev kOC : SX := .at (.v 0) (.v 2) 0
noncomputable abbrev toldC : SX := .at (.v 1) kOC 4
noncomputable abbrev askC : SX := .at (.v 1) kOC 3
noncomputable abbrev nxC (x : SX) : RPln := .next [.v 0, .v 1, add (.v 2) (k64 1), x]
noncomputable def mxC : RPln := .ask (lss (.v 3) askC) (nxC askC) (.ask (lss askC (.v 3)) (nxC (.v 3)) (nxC askC))
noncomputable def roC : RPln :=
  .ask (lss (.v 2) (.len (.v 0)))
    (knowR [(lss (.v 2) (k64 0), false), (lss kOC (k64 0), false), (lss kOC (.len (.v 1)), true)]
      (.ask (lss (k64 0) toldC) (.ask (lss toldC (.v 3)) (.exit false [kOC]) mxC) mxC))
    (.exit true [])
theorem okOC : (SoC.ok && (planOK SoC roC && checkRound SoC.L (roundS theI (entS []) [] [] codeOC) [] roC)) = true := by kernel_rfl
def InvOC (ds : List DV) : Prop := ∃ o l i m, ds = [.list o, .list l, .int .i64 i, .int .i64 m] ∧ 0 ≤ i ∧ i ≤ o.length ∧ o.length ≤ maxLen ∧ allIn o l.length = true ∧ (∀ r ∈ o, IsL [tI] r) ∧ ∀ r ∈ l, IsL tDid r
theorem FoC_eq (o l : List (List DV)) (i m : Int) : FoC [.list o, .list l, .int .i64 i, .int .i64 m] = match seqC l (o.drop i.toNat) m with
  | some k => (false, [.int .i64 k])
  | none => (true, []) := rfl
theorem loopOC : LoopOK Tryz.prog G theI codeOC SoC.L := by
  refine loop_std (F := FoC) (Inv := InvOC) (μ := muOA) (entS_ok (l := []) trivial) (sub := []) trivial (lps := []) noLoops (fun _ => rfl) roC okOC ?_ ?_
  · intro ds h hp
    simp only [SoC, IsL] at h
    obtain ⟨d0, _, rfl, h0, d1, _, rfl, h1, d2, _, rfl, h2, d3, _, rfl, h3, rfl⟩ := h
    obtain ⟨o, rfl, ho, hr⟩ := Is.lst h0
    obtain ⟨l, rfl, _, hl⟩ := Is.lst h1
    obtain ⟨i, rfl, _⟩ := h2.i64
    obtain ⟨m, rfl, _⟩ := h3.i64
    have p1 := hp (eql (.v 2) (k64 0), true) (by simp [SoC])
    have p2 := hp (.app 140 [.v 0, .v 1], true) (by simp [SoC])
    have e2 : den (rhoOf theI [DV.list o, .list l, .int .i64 i, .int .i64 m]) (.v 2) = .int .i64 i := rfl
    rw [d_eql e2 (d_k .i64 0)] at p1
    rw [d_app] at p2
    have p2 : DV.bool (allIn o l.length) = .bool true := p2
    simp only [DV.bool.injEq, decide_eq_true_eq] at p1 p2
    exact ⟨o, l, i, m, rfl, by omega, by omega, ho, p2, fun r hq => by simpa only [IsL] using hr r hq, hl⟩
  · rintro ds ⟨o, l, i, m, rfl, hi0, hi1, ho, hall, hr, hl⟩
    have hmx := maxLen_lt
    generalize hR : rhoOf theI [DV.list o, .list l, .int .i64 i, .int .i64 m] = R
    have e0 : den R (.v 0) = .list o := by rw [← hR]; rfl
    have e1 : den R (.v 1) = .list l := by rw [← hR]; rfl
    have e2 : den R (.v 2) = .int .i64 i := by rw [← hR]; rfl
    have e3 : den R (.v 3) = .int .i64 m := by rw [← hR]; rfl
    show goalR 0 FoC _ _ R _ roC
    unfold roC
    refine r_ask (d_lss e2 (d_lenL e0)) (fun h => ?_) (fun h => ?_)
    · simp only [decide_eq_true_eq] at h
      have hil : i.toNat < o.length := by omega
      obtain ⟨z, hz, _⟩ := int_is (hr _ (List.getElem_mem hil))
      have hzin : 0 ≤ z ∧ z < l.length := by
        have := List.all_eq_true.1 hall _ (List.getElem_mem hil)
        rw [hz] at this
        simpa [iD] using this
      have hzl : z.toNat < l.length := by omega
      have hrow := hl _ (List.getElem_mem hzl)
      have hdrop : o.drop i.toNat = [.int .i64 z] :: o.drop (i.toNat + 1) := by rw [List.drop_eq_getElem_cons hil, hz]
      have dz : den R kOC = .int .i64 z := by
        have := d_row e0 e2 hi0 hil 0
        rw [hz] at this
        exact this
      have hget : l.getD z.toNat [] = l[z.toNat] := getD_lt hzl
      have d4 : den R toldC = .int .i64 (iD l[z.toNat] 4) := by
        rw [show toldC = .at (.v 1) kOC 4 from rfl, d_row e1 dz hzin.1 hzl 4]
        obtain ⟨c, s, t, a, b, e, g, rs, n, hq, _⟩ := did_is hrow
        rw [hq]; rfl
      have d3 : den R askC = .int .i64 (iD l[z.toNat] 3) := by
        rw [show askC = .at (.v 1) kOC 3 from rfl, d_row e1 dz hzin.1 hzl 3]
        obtain ⟨c, s, t, a, b, e, g, rs, n, hq, _⟩ := did_is hrow
        rw [hq]; rfl
      have nx : (decide (0 < iD l[z.toNat] 4) && decide (iD l[z.toNat] 4 < m)) = false → goalR 0 FoC InvOC muOA R [.list o, .list l, .int .i64 i, .int .i64 m] mxC := by
        intro hb
        have step : ∀ (x : SX), den R x = .int .i64 (max m (iD l[z.toNat] 3)) → goalR 0 FoC InvOC muOA R [.list o, .list l, .int .i64 i, .int .i64 m] (nxC x) := by
          intro x hx
          have hadd := d_add (R := R) e2 (d_k .i64 1) (by omega) (by omega)
          have hτ : ([.v 0, .v 1, add (.v 2) (k64 1), x] : List SX).map (den R) = [.list o, .list l, .int .i64 (i + 1), .int .i64 (max m (iD l[z.toNat] 3))] := by
            simp only [List.map_cons, List.map_nil, e0, e1, hadd, hx]
            rfl
          show InvOC _ ∧ muOA _ < muOA _ ∧ FoC _ = FoC _
          rw [hτ]
          refine ⟨⟨o, l, i + 1, _, rfl, by omega, by omega, ho, hall, hr, hl⟩, ?_, ?_⟩
          · show o.length - (i + 1).toNat < o.length - i.toNat
            omega
          · rw [FoC_eq, FoC_eq, hdrop, toNat_succ hi0]
            simp only [seqC]
            rw [show iD [DV.int .i64 z] 0 = z from rfl, hget, hb]
            rfl
        unfold mxC
        refine r_ask (d_lss e3 d3) (fun h1 => step _ ?_) (fun h1 => r_ask (d_lss d3 e3) (fun h2 => step _ ?_) (fun h2 => step _ ?_))
        · simp only [decide_eq_true_eq] at h1
          rw [d3]; congr 1; omega
        · simp only [decide_eq_true_eq, decide_eq_false_iff_not] at h1 h2
          rw [e3]; congr 1; omega
        · simp only [decide_eq_false_iff_not] at h1 h2
          rw [d3]; congr 1; omega
      refine r_knows (l := [_, _, _]) (fun q hq => ?_) ?_
      · simp only [List.mem_cons, List.not_mem_nil, or_false] at hq
        rcases hq with rfl | rfl | rfl
        · rw [d_lss e2 (d_k .i64 0)]; simp; omega
        · rw [d_lss dz (d_k .i64 0)]; simp; omega
        · rw [d_lss dz (d_lenL e1)]; simp; omega
      · refine r_ask (d_lss (d_k .i64 0) d4) (fun h1 => ?_) (fun h1 => nx (by rw [show decide (0 < iD l[z.toNat] 4) = false from h1]; rfl))
        have h1 : decide (0 < iD l[z.toNat] 4) = true := h1
        refine r_ask (d_lss d4 e3) (fun h2 => ?_) (fun h2 => nx (by rw [h2, Bool.and_false]))
        show FoC _ = _
        rw [FoC_eq, hdrop]
        simp only [seqC]
        rw [show iD [DV.int .i64 z] 0 = z from rfl, hget, h1, h2]
        simp only [Bool.and_self, if_true, List.drop_zero, List.map_cons, List.map_nil, dz]
    · simp only [decide_eq_false_iff_not] at h
      show FoC _ = _
      rw [FoC_eq, List.drop_eq_nil_of_le (by omega)]
      rfl
end Go.Proofs.YtbhfnmeojhpgbaaGreatDoor
namespace Go.Proofs.YtbhfnmeojhpgbaaGreatDoor
open Go Go.AM
/-! ### ideal.Order -/
noncomputable abbrev ckR (j : Nat) : SX := .at (.app 20 [.v 0]) (k64 j) 0
noncomputable abbrev oaX (k : Nat) : SX := .at (.app 123 [.v 1, .v 0, k64 0, .emp]) (k64 0) k
noncomputable abbrev obX (k : Nat) : SX := .at (.app 124 [.v 0, .v 1, k64 0, oaX 1]) (k64 0) k
noncomputable abbrev ocX (k : Nat) : SX := .at (.app 125 [.v 1, .v 0, k64 0, k64 0]) (k64 0) k
noncomputable abbrev preO : List (SX × Bool) := [(lss (k64 1000) (.len (.v 1)), false)]
noncomputable def pOrd : Pln :=
  (.ask (eql (ckR 1) (k64 0))
    (knows [(lss (k64 1000) (.len (.v 1)), false), (lss (k64 0) (.len .emp), false)]
      (.ask (oaX 0)
        (.know (.app 140 [.v 1, .v 0]) true
          (.ask (obX 0)
            (.ask (ocX 0) (.done [[k64 0], [k64 0]]) (.done [[ocX 1], [k64 341]]))
            (.done [[obX 1], [k64 341]])))
        (.done [[oaX 1], [k64 2]])))
    (.done [[ckR 0], [ckR 1]]))
noncomputable abbrev subO : SubL := [(29, [(2, SoC.L)])]
noncomputable abbrev lpsO : List (Nat × LoopSp) := [(7, SoA.L), (14, SoB.L)]
theorem kOrd : (hasB 8 && checkPlan [.one tI, .one tI] (runS theI (entS [eCk]) subO lpsO [] 8 [.one tDids, .one tInts]) [] pOrd) = true := by kernel_rfl
theorem ordA_in : ∀ {o met : List (List DV)} {n : Int} {i : Nat}, ordA o n met i = none → allIn o n = true
  | [], _, _, _, _ => rfl
  | r :: o, met, n, i, h => by
    simp only [ordA] at h
    split at h <;> (try (cases h; done))
    rename_i hb
    have ih := ordA_in h
    simp only [Bool.or_eq_true, decide_eq_true_eq, not_or] at hb
    simp only [allIn, List.all_cons, Bool.and_eq_true, decide_eq_true_eq] at ih ⊢
    exact ⟨by omega, ih⟩
theorem args_do {ds : List (List DV)} (h : IsArgs [.one tDids, .one tInts] ds) : ∃ l o, ds = [[.list l], [.list o]] ∧ l.length ≤ maxLen ∧ (∀ r ∈ l, IsL tDid r) ∧ o.length ≤ maxLen ∧ ∀ r ∈ o, IsL [tI] r := by
  simp only [IsArgs, IsOne] at h
  obtain ⟨_, _, rfl, ⟨d, rfl, hd⟩, _, _, rfl, ⟨e, rfl, he⟩, rfl⟩ := h
  obtain ⟨l, rfl, h1, h2⟩ := Is.lst hd
  obtain ⟨o, rfl, h3, h4⟩ := Is.lst he
  exact ⟨l, o, rfl, h1, h2, h3, fun r hr => by simpa only [IsL] using h4 r hr⟩
set_option maxRecDepth 100000 in
theorem keyO : loopsIn (bodyOf 8) = [codeOA, codeOB] ∧ key codeOA = 7 ∧ key codeOB = 14 := ⟨by kernel_rfl, by kernel_rfl, by kernel_rfl⟩
set_option maxRecDepth 100000 in
theorem lpsO_ok : LoopsAre theI 8 lpsO := by
  obtain ⟨h1, h2, h3⟩ := keyO
  have hk : ∀ D ∈ loopsIn (bodyOf 8), (key D = 7 → D = codeOA) ∧ (key D = 14 → D = codeOB) := by
    intro D hD
    rw [h1] at hD
    simp only [List.mem_cons, List.not_mem_nil, or_false] at hD
    rcases hD with hD | hD
    · exact ⟨fun _ => hD, fun h => absurd (h2.symm.trans (hD ▸ h)) (by decide)⟩
    · exact ⟨fun h => absurd (h3.symm.trans (hD ▸ h)) (by decide), fun _ => hD⟩
  refine loopsCons (C := codeOA) h2 (fun D hD e => ?_) (loopsCons (C := codeOB) h3 (fun D hD e => ?_) noLoops)
  · rw [(hk D hD).1 e]; exact loopOA
  · rw [(hk D hD).2 e]; exact loopOB
theorem fnOrd : FnOK Tryz.prog G 8 [.one tDids, .one tInts] [.one tI, .one tI] (fun ds => ∀ p ∈ preO, den (rhoOf theI ds) p.1 = .bool p.2) Ford := by
  have hk := kOrd
  rw [Bool.and_eq_true] at hk
  refine fn_runS (entS_ok eCk_ok) (sub := subO) ⟨loops1 (by kernel_rfl) loopOC, trivial⟩ lpsO [] lpsO_ok hk.1 pOrd hk.2 fun ds h hp => ?_
  obtain ⟨l, o, rfl, hl, hr, ho, hs⟩ := args_do h
  have hF : Ford [[DV.list l], [.list o]].flatten = [[.int .i64 (ordR l o).1], [.int .i64 (ordR l o).2]] := rfl
  rw [hF]
  have p1 := hp (lss (k64 1000) (.len (.v 1)), false) (by simp)
  clear hp h
  generalize hR : rhoOf theI [[DV.list l], [.list o]].flatten = R at *
  have hI : R.I = theI := by rw [← hR]; rfl
  have e0 : den R (.v 0) = .list l := by rw [← hR]; rfl
  have e1 : den R (.v 1) = .list o := by rw [← hR]; rfl
  have c0 : den R (ckR 0) = .int .i64 (chkA l).1 := by
    refine d_res (F := Fchk) (by rw [hI]; rfl) ?_
    simp only [List.map_cons, List.map_nil, e0]
    rfl
  have c1 : den R (ckR 1) = .int .i64 (chkA l).2 := by
    refine d_res (F := Fchk) (by rw [hI]; rfl) ?_
    simp only [List.map_cons, List.map_nil, e0]
    rfl
  have hma : ([.v 1, .v 0, k64 0, .emp] : List SX).map (den R) = [.list o, .list l, .int .i64 0, .list []] := by
    simp only [List.map_cons, List.map_nil, e0, e1]
    rfl
  have a0 := d_fl0 (R := R) (f := 123) (F := FoA) (by rw [hI]; rfl) hma
  have a1 := d_fl (R := R) (f := 123) (F := FoA) (by rw [hI]; rfl) hma 0
  rw [FoA_eq] at a0 a1
  simp only [Int.toNat_zero, List.drop_zero, List.nil_append] at a0 a1
  have hmc : ([.v 1, .v 0, k64 0, k64 0] : List SX).map (den R) = [.list o, .list l, .int .i64 0, .int .i64 0] := by
    simp only [List.map_cons, List.map_nil, e0, e1]
    rfl
  have g0 := d_fl0 (R := R) (f := 125) (F := FoC) (by rw [hI]; rfl) hmc
  have g1 := d_fl (R := R) (f := 125) (F := FoC) (by rw [hI]; rfl) hmc 0
  rw [FoC_eq] at g0 g1
  simp only [Int.toNat_zero, List.drop_zero] at g0 g1
  unfold pOrd
  refine goal_ask (d_eql c1 (d_k .i64 0)) (fun hc => ?_) (fun hc => ?_)
  · have hc : (chkA l).2 = 0 := by simpa using hc
    have hord : ordR l o = match ordA o l.length [] 0 with
      | some i => ((i : Int), 2)
      | none => match tolB l o 0 with
        | some i => ((i : Int), 341)
        | none => match seqC l o 0 with
          | some k => (k, 341)
          | none => (0, 0) := by
      unfold ordR
      rw [if_neg (by rw [hc]; simp)]
      rfl
    refine goal_knows (l := [_, _]) (fun q hq => ?_) ?_
    · simp only [List.mem_cons, List.not_mem_nil, or_false] at hq
      rcases hq with rfl | rfl
      · exact p1
      · rfl
    · refine goal_ask a0 (fun ha => ?_) (fun ha => ?_)
      · cases hA : ordA o l.length [] 0 with
        | some i => simp [hA] at ha
        | none =>
          simp only [hA] at a1 hord
          have hmb : ([.v 0, .v 1, k64 0, oaX 1] : List SX).map (den R) = [.list l, .list o, .int .i64 0, .list o] := by
            simp only [List.map_cons, List.map_nil, e0, e1]
            rw [show den R (oaX 1) = _ from a1]
            rfl
          have b0 := d_fl0 (R := R) (f := 124) (F := FoB) (by rw [hI]; rfl) hmb
          have b1 := d_fl (R := R) (f := 124) (F := FoB) (by rw [hI]; rfl) hmb 0
          rw [FoB_eq] at b0 b1
          simp only [Int.toNat_zero, List.drop_zero] at b0 b1
          refine goal_know ?_ (goal_ask b0 (fun hb => goal_ask g0 (fun hg => ?_) (fun hg => ?_)) (fun hb => ?_))
          · rw [d_app]
            simp only [List.map_cons, List.map_nil, e0, e1, hI]
            show DV.bool (allIn o l.length) = _
            rw [ordA_in hA]
          · cases hB : tolB l o 0 with
            | some i => simp [hB] at hb
            | none =>
              cases hC : seqC l o 0 with
              | some i => simp [hC] at hg
              | none =>
                simp only [hB, hC] at hord
                show _ = _
                rw [hord]
                rfl
          · cases hB : tolB l o 0 with
            | some i => simp [hB] at hb
            | none =>
              cases hC : seqC l o 0 with
              | none => simp [hC] at hg
              | some i =>
                simp only [hB, hC] at hord g1
                show _ = _
                rw [hord]
                simp only [List.map_cons, List.map_nil]
                rw [show den R (ocX 1) = _ from g1]
                rfl
          · cases hB : tolB l o 0 with
            | none => simp [hB] at hb
            | some i =>
              simp only [hB] at hord b1
              show _ = _
              rw [hord]
              simp only [List.map_cons, List.map_nil]
              rw [show den R (obX 1) = _ from b1]
              rfl
      · cases hA : ordA o l.length [] 0 with
        | none => simp [hA] at ha
        | some i =>
          simp only [hA] at a1 hord
          show _ = _
          rw [hord]
          simp only [List.map_cons, List.map_nil]
          rw [show den R (oaX 1) = _ from a1]
          rfl
  · have hc : ¬ (chkA l).2 = 0 := by simpa using hc
    have hord : ordR l o = chkA l := by
      unfold ordR
      rw [if_pos hc]
    show _ = _
    rw [hord]
    simp only [List.map_cons, List.map_nil, c0, c1]
noncomputable def eOrd : Ent := eFn 8 [.one tDids, .one tInts] [.one tI, .one tI] preO 21
theorem eOrd_ok : EntsOK Tryz.prog G theI [eOrd] := ⟨eFn_ok plainG fnOrd (fun _ => rfl) [] (by kernel_rfl), trivial⟩
end Go.Proofs.YtbhfnmeojhpgbaaGreatDoor
