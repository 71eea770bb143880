/-
  A part of the proof of IdealChecks (the machine on named data, and the contracts of the functions that the law reaches): I10 I11 I12.
-/
import Derived.Test.YtbhfnmeojhpgbaaGreatDoorKc
set_option linter.all false
set_option linter.unusedVariables false
set_option linter.unusedSimpArgs false
set_option linter.unusedSectionVars false
namespace Go.Proofs.YtbhfnmeojhpgbaaGreatDoor
open Go Go.AM
/-! ### the document's Order: its loops -/
noncomputable abbrev fRo : Nat := 10
noncomputable abbrev tmO (l : List (Nat × AV)) : List (Nat × AV) := (0, .sy tDids (.v 1)) :: (1, .sy tInts (.v 0)) :: l
noncomputable def TrA : Tmpl := { tm := tmO [(25, .sy tInts (.v 0)), (26, .sy tI (.len (.v 0))), (27, .sy tI (.v 2))], src := [.tm 1 tInts, .tm 0 tDids, .tm 27 tI] }
noncomputable def YrA : Tmpl := { tm := tmO [], src := [.tm 1 tInts, .tm 0 tDids] }
noncomputable def NrA (n : Int) : Tmpl := { tm := tmO [(4, .sy tI (.v 2)), (5, .sc (.int .i64 n))], src := [.tm 1 tInts, .tm 0 tDids, .tm 4 tI] }
noncomputable def SrA : StdL := { n := 104, T := TrA, tys := [tInts, tDids, tI], pre := [(eql (.v 2) (k64 0), true)], f := 127, two := true, keep := [0, 1], yes := (.exit 0, YrA, 0), no := (.ret, NrA 2, 1) }
noncomputable abbrev codeRA : Code := loopAt 10 0
noncomputable abbrev nxR : RPln := .next [.v 0, .v 1, add (.v 2) (k64 1)]
noncomputable abbrev exR : RPln := .exit false [.v 0, .v 1, .v 2]
noncomputable abbrev cutR : SX := .cut (.v 0) (k64 0) (.v 2)
noncomputable def rrA : RPln :=
  .ask (lss (.v 2) (.len (.v 0)))
    (.know (lss (.v 2) (k64 0)) false
      (.ask (lss kOA (k64 0)) exR
        (.ask (lss kOA (.len (.v 1)))
          (.ask (.at (.app 23 [cutR, kOA]) (k64 0) 0) exR nxR)
          exR)))
    (.exit true [.v 0, .v 1])
theorem okRA : (SrA.ok && (planOK SrA rrA && checkRound SrA.L (roundS theI (entS [eIn]) [] [] codeRA) [] rrA)) = true := by kernel_rfl
noncomputable def TrB : Tmpl := { tm := tmO [(49, .sy tDids (.v 1)), (50, .sy tI (.len (.v 1))), (51, .sy tI (.v 2))], src := [.tm 1 tInts, .tm 0 tDids, .tm 51 tI] }
noncomputable def SrB : StdL := { n := 104, T := TrB, tys := [tInts, tDids, tI], pre := [(eql (.v 2) (k64 0), true)], f := 128, two := true, keep := [0, 1], yes := (.exit 2, YrA, 0), no := (.ret, NrA 341, 1) }
noncomputable abbrev codeRB : Code := loopAt 10 1
noncomputable def rrB : RPln :=
  .ask (lss (.v 2) (.len (.v 1)))
    (.know (lss (.v 2) (k64 0)) false
      (.ask (lss (k64 0) (.at (.v 1) (.v 2) 4))
        (.ask (.at (.app 23 [.v 0, .v 2]) (k64 0) 0) nxR exR)
        nxR))
    (.exit true [.v 0, .v 1])
theorem okRB : (SrB.ok && (planOK SrB rrB && checkRound SrB.L (roundS theI (entS [eIn]) [] [] codeRB) [] rrB)) = true := by kernel_rfl
noncomputable def TrI : Tmpl := { tm := tmO [(12, .sy tI (.v 2)), (13, .sy tI kOA), (67, .sy tInts (.v 0)), (68, .sy tI (.len (.v 0))), (69, .sy tI (.v 2)), (76, .sy tInts cutR), (77, .sy tI (.len cutR)), (78, .sy tI (.v 3))], src := [.tm 1 tInts, .tm 0 tDids, .tm 12 tI, .tm 78 tI] }
noncomputable def YrI : Tmpl := { tm := tmO [(67, .sy tInts (.v 0)), (68, .sy tI (.len (.v 0))), (69, .sy tI (.v 2))], src := [.tm 1 tInts, .tm 0 tDids, .tm 69 tI] }
noncomputable def NrI : Tmpl := { tm := tmO [(12, .sy tI (.v 2)), (4, .sy tI (.v 3)), (5, .sc (.int .i64 341))], src := [.tm 1 tInts, .tm 0 tDids, .tm 12 tI, .tm 4 tI] }
noncomputable def SrI : StdL := { n := 104, T := TrI, tys := [tInts, tDids, tI, tI], pre := [(lss (.v 2) (k64 0), false), (lss (.v 2) (.len (.v 0)), true), (eql (.v 3) (k64 0), true), (.app 140 [.v 0, .v 1], true)], f := 130, two := true, keep := [0, 1, 2], yes := (.exit 6, YrI, 0), no := (.ret, NrI, 1) }
noncomputable abbrev codeRC : Code := loopAt 10 2
noncomputable def codeRI : Code := (loopsIn codeRC).getD 0 .skip
noncomputable def TrC : Tmpl := { tm := tmO [(67, .sy tInts (.v 0)), (68, .sy tI (.len (.v 0))), (69, .sy tI (.v 2))], src := [.tm 1 tInts, .tm 0 tDids, .tm 69 tI] }
noncomputable def SrC : StdL := { n := 104, T := TrC, tys := [tInts, tDids, tI], pre := [(eql (.v 2) (k64 0), true), (.app 140 [.v 0, .v 1], true)], f := 129, two := true, yes := (.exit 4, Y0, 0), no := (.ret, { tm := [(4, .sy tI (.v 0)), (5, .sc (.int .i64 341))], src := [.tm 4 tI] }, 1) }
end Go.Proofs.YtbhfnmeojhpgbaaGreatDoor
namespace Go.Proofs.YtbhfnmeojhpgbaaGreatDoor
open Go Go.AM
/-! ### the document's Order: the first two loops -/
theorem d_in {R : Rho} (hI : R.I = theI) {x y : SX} {l : List (List DV)} {z : Int} (hx : den R x = .list l) (hy : den R y = .int .i64 z) : den R (.at (.app 23 [x, y]) (k64 0) 0) = .bool (memD [[.int .i64 z]] l) := by
  refine d_res (F := Fin1) (by rw [hI]; rfl) ?_
  simp only [List.map_cons, List.map_nil, hx, hy]
  rfl
def InvRA (ds : List DV) : Prop := ∃ o l i, ds = [.list o, .list l, .int .i64 i] ∧ 0 ≤ i ∧ i ≤ o.length ∧ o.length ≤ maxLen ∧ (∀ r ∈ o, IsL [tI] r)
theorem FrA_eq (o l : List (List DV)) (i : Int) : FrA [.list o, .list l, .int .i64 i] = match ordA (o.drop i.toNat) l.length (o.take i.toNat) i.toNat with
  | some k => (false, [.int .i64 k])
  | none => (true, []) := rfl
theorem loopRA : LoopOK Tryz.prog G theI codeRA SrA.L := by
  refine loop_std (F := FrA) (Inv := InvRA) (μ := muOA) (entS_ok eIn_ok) (sub := []) trivial (lps := []) noLoops (fun _ => rfl) rrA okRA ?_ ?_
  · intro ds h hp
    simp only [SrA, IsL] at h
    obtain ⟨d0, _, rfl, h0, d1, _, rfl, h1, d2, _, rfl, h2, rfl⟩ := h
    obtain ⟨o, rfl, ho, hr⟩ := Is.lst h0
    obtain ⟨l, rfl, _⟩ := Is.lst h1
    obtain ⟨i, rfl, _⟩ := h2.i64
    have p1 := hp (eql (.v 2) (k64 0), true) (by simp [SrA])
    have e2 : den (rhoOf theI [DV.list o, .list l, .int .i64 i]) (.v 2) = .int .i64 i := rfl
    rw [d_eql e2 (d_k .i64 0)] at p1
    simp only [DV.bool.injEq, decide_eq_true_eq] at p1
    exact ⟨o, l, i, rfl, by omega, by omega, ho, fun r hq => by simpa only [IsL] using hr r hq⟩
  · rintro ds ⟨o, l, i, rfl, hi0, hi1, ho, hr⟩
    have hmx := maxLen_lt
    generalize hR : rhoOf theI [DV.list o, .list l, .int .i64 i] = R
    have hI : R.I = theI := by rw [← hR]; rfl
    have e0 : den R (.v 0) = .list o := by rw [← hR]; rfl
    have e1 : den R (.v 1) = .list l := by rw [← hR]; rfl
    have e2 : den R (.v 2) = .int .i64 i := by rw [← hR]; rfl
    have ec := d_cut e0 e2
    show goalR 2 FrA _ _ R _ rrA
    unfold rrA
    refine r_ask (d_lss e2 (d_lenL e0)) (fun h => ?_) (fun h => ?_)
    · simp only [decide_eq_true_eq] at h
      have hil : i.toNat < o.length := by omega
      obtain ⟨z, hz, _⟩ := int_is (hr _ (List.getElem_mem hil))
      have hdrop : o.drop i.toNat = [.int .i64 z] :: o.drop (i.toNat + 1) := by rw [List.drop_eq_getElem_cons hil, hz]
      have dz : den R kOA = .int .i64 z := by
        have := d_row e0 e2 hi0 hil 0
        rw [hz] at this
        exact this
      have bad : (decide (z < 0) || decide ((l.length : Int) ≤ z) || memD [[.int .i64 z]] (o.take i.toNat)) = true → FrA [.list o, .list l, .int .i64 i] = (false, (([.v 0, .v 1, .v 2] : List SX).drop 2).map (den R)) := by
        intro hb
        rw [FrA_eq, hdrop]
        have hb' : (decide (iD [DV.int .i64 z] 0 < 0) || decide ((l.length : Int) ≤ iD [DV.int .i64 z] 0) || memD [[DV.int .i64 z]] (o.take i.toNat)) = true := hb
        simp only [ordA, hb', if_true, List.drop_succ_cons, List.drop_zero, List.map_cons, List.map_nil, e2]
        rw [show ((i.toNat : Nat) : Int) = i by omega]
      refine r_know (by rw [d_lss e2 (d_k .i64 0)]; simp; omega) ?_
      refine r_ask (d_lss dz (d_k .i64 0)) (fun h1 => bad (by rw [show decide (z < 0) = true from h1]; rfl)) (fun h1 => ?_)
      have h1 : decide (z < 0) = false := h1
      refine r_ask (d_lss dz (d_lenL e1)) (fun h2 => ?_) (fun h2 => bad ?_)
      · have h2' : decide ((l.length : Int) ≤ z) = false := by
          simp only [decide_eq_true_eq] at h2
          simp only [decide_eq_false_iff_not]
          omega
        refine r_ask (d_in hI ec dz) (fun h3 => bad (by rw [h3, Bool.or_true])) (fun h3 => ?_)
        have hadd := d_add (R := R) e2 (d_k .i64 1) (by omega) (by omega)
        have hτ : ([.v 0, .v 1, add (.v 2) (k64 1)] : List SX).map (den R) = [.list o, .list l, .int .i64 (i + 1)] := by
          simp only [List.map_cons, List.map_nil, e0, e1, hadd]
          rfl
        show InvRA _ ∧ muOA _ < muOA _ ∧ FrA _ = FrA _
        rw [hτ]
        refine ⟨⟨o, l, i + 1, rfl, by omega, by omega, ho, hr⟩, ?_, ?_⟩
        · show o.length - (i + 1).toNat < o.length - i.toNat
          omega
        · rw [FrA_eq, FrA_eq, hdrop, toNat_succ hi0, take_succ_get hil, hz]
          have hb' : (decide (iD [DV.int .i64 z] 0 < 0) || decide ((l.length : Int) ≤ iD [DV.int .i64 z] 0) || memD [[DV.int .i64 z]] (o.take i.toNat)) = false := by
            show (decide (z < 0) || decide ((l.length : Int) ≤ z) || _) = false
            rw [h1, h2', h3]
            rfl
          simp only [ordA, hb', Bool.false_eq_true, if_false]
      · have : decide ((l.length : Int) ≤ z) = true := by
          simp only [decide_eq_false_iff_not] at h2
          simp only [decide_eq_true_eq]
          omega
        rw [this]
        simp
    · simp only [decide_eq_false_iff_not] at h
      show FrA _ = _
      rw [FrA_eq, List.drop_eq_nil_of_le (by omega)]
      rfl
def InvRB (ds : List DV) : Prop := ∃ o l i, ds = [.list o, .list l, .int .i64 i] ∧ 0 ≤ i ∧ i ≤ l.length ∧ l.length ≤ maxLen ∧ (∀ r ∈ l, IsL tDid r)
def muRB (ds : List DV) : Nat := (lD ds 1).length - (iD ds 2).toNat
theorem FrB_eq (o l : List (List DV)) (i : Int) : FrB [.list o, .list l, .int .i64 i] = match tolB (l.drop i.toNat) o i.toNat with
  | some k => (false, [.int .i64 k])
  | none => (true, []) := rfl
theorem loopRB : LoopOK Tryz.prog G theI codeRB SrB.L := by
  refine loop_std (F := FrB) (Inv := InvRB) (μ := muRB) (entS_ok eIn_ok) (sub := []) trivial (lps := []) noLoops (fun _ => rfl) rrB okRB ?_ ?_
  · intro ds h hp
    simp only [SrB, IsL] at h
    obtain ⟨d0, _, rfl, h0, d1, _, rfl, h1, d2, _, rfl, h2, rfl⟩ := h
    obtain ⟨o, rfl, ho, hr⟩ := Is.lst h0
    obtain ⟨l, rfl, hl, hlr⟩ := Is.lst h1
    obtain ⟨i, rfl, _⟩ := h2.i64
    have p1 := hp (eql (.v 2) (k64 0), true) (by simp [SrB])
    have e2 : den (rhoOf theI [DV.list o, .list l, .int .i64 i]) (.v 2) = .int .i64 i := rfl
    rw [d_eql e2 (d_k .i64 0)] at p1
    simp only [DV.bool.injEq, decide_eq_true_eq] at p1
    exact ⟨o, l, i, rfl, by omega, by omega, hl, hlr⟩
  · rintro ds ⟨o, l, i, rfl, hi0, hi1, hl, hr⟩
    have hmx := maxLen_lt
    generalize hR : rhoOf theI [DV.list o, .list l, .int .i64 i] = R
    have hI : R.I = theI := by rw [← hR]; rfl
    have e0 : den R (.v 0) = .list o := by rw [← hR]; rfl
    have e1 : den R (.v 1) = .list l := by rw [← hR]; rfl
    have e2 : den R (.v 2) = .int .i64 i := by rw [← hR]; rfl
    show goalR 2 FrB _ _ R _ rrB
    unfold rrB
    refine r_ask (d_lss e2 (d_lenL e1)) (fun h => ?_) (fun h => ?_)
    · simp only [decide_eq_true_eq] at h
      have hil : i.toNat < l.length := by omega
      have hrow := hr _ (List.getElem_mem hil)
      have hdrop : l.drop i.toNat = l[i.toNat] :: l.drop (i.toNat + 1) := List.drop_eq_getElem_cons hil
      have d4 : den R (.at (.v 1) (.v 2) 4) = .int .i64 (iD l[i.toNat] 4) := by
        rw [d_row e1 e2 hi0 hil 4]
        obtain ⟨c, s, t, a, b, e, g, rs, n, hq, _⟩ := did_is hrow
        rw [hq]; rfl
      have nx : (decide (0 < iD l[i.toNat] 4) && !(memD [[.int .i64 i]] o)) = false → goalR 2 FrB InvRB muRB R [.list o, .list l, .int .i64 i] nxR := by
        intro hb
        have hadd := d_add (R := R) e2 (d_k .i64 1) (by omega) (by omega)
        have hτ : ([.v 0, .v 1, add (.v 2) (k64 1)] : List SX).map (den R) = [.list o, .list l, .int .i64 (i + 1)] := by
          simp only [List.map_cons, List.map_nil, e0, e1, hadd]
          rfl
        show InvRB _ ∧ muRB _ < muRB _ ∧ FrB _ = FrB _
        rw [hτ]
        refine ⟨⟨o, l, i + 1, rfl, by omega, by omega, hl, hr⟩, ?_, ?_⟩
        · show l.length - (i + 1).toNat < l.length - i.toNat
          omega
        · rw [FrB_eq, FrB_eq, hdrop, toNat_succ hi0]
          simp only [tolB]
          rw [show ((i.toNat : Nat) : Int) = i by omega, hb]
          rfl
      refine r_know (by rw [d_lss e2 (d_k .i64 0)]; simp; omega) ?_
      refine r_ask (d_lss (d_k .i64 0) d4) (fun h1 => ?_) (fun h1 => nx (by rw [show decide (0 < iD l[i.toNat] 4) = false from h1]; rfl))
      have h1 : decide (0 < iD l[i.toNat] 4) = true := h1
      refine r_ask (d_in hI e0 e2) (fun h2 => nx (by rw [h2]; simp)) (fun h2 => ?_)
      show FrB _ = _
      rw [FrB_eq, hdrop]
      simp only [tolB]
      rw [show ((i.toNat : Nat) : Int) = i by omega, h1, h2]
      simp only [Bool.not_false, Bool.and_self, if_true, List.drop_succ_cons, List.drop_zero, List.map_cons, List.map_nil, e2]
      rw [show ((i.toNat : Nat) : Int) = i by omega]
    · simp only [decide_eq_false_iff_not] at h
      show FrB _ = _
      rw [FrB_eq, List.drop_eq_nil_of_le (by omega)]
      rfl
end Go.Proofs.YtbhfnmeojhpgbaaGreatDoor
namespace Go.Proofs.YtbhfnmeojhpgbaaGreatDoor
open Go Go.AM
/-! ### the document's Order: its third loop -/
noncomputable abbrev askA : SX := .at (.v 1) (.at cutR (.v 3) 0) 3
noncomputable abbrev nxI : RPln := .next [.v 0, .v 1, .v 2, add (.v 3) (k64 1)]
noncomputable def rrI : RPln :=
  .ask (lss (.v 3) (.len cutR))
    (knowR [(lss (.v 3) (k64 0), false), (lss kOA (k64 0), false), (lss kOA (.len (.v 1)), true), (lss (.at cutR (.v 3) 0) (k64 0), false), (lss (.at cutR (.v 3) 0) (.len (.v 1)), true)]
      (.ask (lss (k64 0) toldC) (.ask (lss toldC askA) (.exit false [.v 0, .v 1, .v 2, kOA]) nxI) nxI))
    (.exit true [.v 0, .v 1, .v 2])
theorem okRI : (SrI.ok && (planOK SrI rrI && checkRound SrI.L (roundS theI (entS []) [] [] codeRI) [] rrI)) = true := by kernel_rfl
noncomputable abbrev riX (k : Nat) : SX := .at (.app 130 [.v 0, .v 1, .v 2, k64 0]) (k64 0) k
noncomputable def rrC : RPln :=
  .ask (lss (.v 2) (.len (.v 0)))
    (knowR [(lss (.v 2) (k64 0), false), (.app 140 [.v 0, .v 1], true)]
      (.ask (riX 0) (.next [.v 0, .v 1, add (.v 2) (k64 1)]) (.exit false [riX 1])))
    (.exit true [])
theorem okRC : (SrC.ok && (planOK SrC rrC && checkRound SrC.L (roundS theI (entS []) [] [(21, SrI.L)] codeRC) [] rrC)) = true := by kernel_rfl
def InvRI (ds : List DV) : Prop := ∃ o l i k, ds = [.list o, .list l, .int .i64 i, .int .i64 k] ∧ 0 ≤ i ∧ i < o.length ∧ 0 ≤ k ∧ k ≤ i ∧ o.length ≤ maxLen ∧ allIn o l.length = true ∧ (∀ r ∈ o, IsL [tI] r) ∧ ∀ r ∈ l, IsL tDid r
def muRI (ds : List DV) : Nat := (iD ds 2).toNat - (iD ds 3).toNat
theorem FrCi_eq (o l : List (List DV)) (i k : Int) : FrCi [.list o, .list l, .int .i64 i, .int .i64 k] = if hitC l (iD (l.getD (iD (o.getD i.toNat []) 0).toNat []) 4) ((o.take i.toNat).drop k.toNat) then (false, [.int .i64 (iD (o.getD i.toNat []) 0)]) else (true, []) := rfl
theorem d140 {R : Rho} (hI : R.I = theI) {x y : SX} {o l : List (List DV)} (hx : den R x = .list o) (hy : den R y = .list l) : den R (.app 140 [x, y]) = .bool (allIn o l.length) := by
  rw [d_app, hI]
  simp only [List.map_cons, List.map_nil, hx, hy]
  rfl
theorem allIn_at {o : List (List DV)} {n : Int} {i : Nat} {z : Int} (h : allIn o n = true) (hi : i < o.length) (hz : o[i] = [.int .i64 z]) : 0 ≤ z ∧ z < n := by
  have := List.all_eq_true.1 h _ (List.getElem_mem hi)
  rw [hz] at this
  simpa [iD] using this
theorem did4 {r : List DV} (h : IsL tDid r) (k : Nat) (hk : k = 3 ∨ k = 4) : r.getD k (.bool false) = .int .i64 (iD r k) := by
  obtain ⟨c, s, t, a, b, e, g, rs, n, rfl, _⟩ := did_is h
  rcases hk with rfl | rfl <;> rfl
theorem loopRI : LoopOK Tryz.prog G theI codeRI SrI.L := by
  refine loop_std (F := FrCi) (Inv := InvRI) (μ := muRI) (entS_ok (l := []) trivial) (sub := []) trivial (lps := []) noLoops (fun _ => rfl) rrI okRI ?_ ?_
  · intro ds h hp
    simp only [SrI, IsL] at h
    obtain ⟨d0, _, rfl, h0, d1, _, rfl, h1, d2, _, rfl, h2, d3, _, rfl, h3, rfl⟩ := h
    obtain ⟨o, rfl, ho, hr⟩ := Is.lst h0
    obtain ⟨l, rfl, _, hl⟩ := Is.lst h1
    obtain ⟨i, rfl, _⟩ := h2.i64
    obtain ⟨k, rfl, _⟩ := h3.i64
    have p1 := hp (lss (.v 2) (k64 0), false) (by simp [SrI])
    have p2 := hp (lss (.v 2) (.len (.v 0)), true) (by simp [SrI])
    have p3 := hp (eql (.v 3) (k64 0), true) (by simp [SrI])
    have p4 := hp (.app 140 [.v 0, .v 1], true) (by simp [SrI])
    have e0 : den (rhoOf theI [DV.list o, .list l, .int .i64 i, .int .i64 k]) (.v 0) = .list o := rfl
    have e1 : den (rhoOf theI [DV.list o, .list l, .int .i64 i, .int .i64 k]) (.v 1) = .list l := rfl
    have e2 : den (rhoOf theI [DV.list o, .list l, .int .i64 i, .int .i64 k]) (.v 2) = .int .i64 i := rfl
    have e3 : den (rhoOf theI [DV.list o, .list l, .int .i64 i, .int .i64 k]) (.v 3) = .int .i64 k := rfl
    rw [d_lss e2 (d_k .i64 0)] at p1
    rw [d_lss e2 (d_lenL e0)] at p2
    rw [d_eql e3 (d_k .i64 0)] at p3
    rw [d140 rfl e0 e1] at p4
    simp only [DV.bool.injEq, decide_eq_true_eq, decide_eq_false_iff_not] at p1 p2 p3 p4
    exact ⟨o, l, i, k, rfl, by omega, by omega, by omega, by omega, ho, p4, fun r hq => by simpa only [IsL] using hr r hq, hl⟩
  · rintro ds ⟨o, l, i, k, rfl, hi0, hi1, hk0, hk1, ho, hall, hr, hl⟩
    have hmx := maxLen_lt
    generalize hR : rhoOf theI [DV.list o, .list l, .int .i64 i, .int .i64 k] = R
    have e0 : den R (.v 0) = .list o := by rw [← hR]; rfl
    have e1 : den R (.v 1) = .list l := by rw [← hR]; rfl
    have e2 : den R (.v 2) = .int .i64 i := by rw [← hR]; rfl
    have e3 : den R (.v 3) = .int .i64 k := by rw [← hR]; rfl
    have ec := d_cut e0 e2
    have hil : i.toNat < o.length := by omega
    have hlen : (o.take i.toNat).length = i.toNat := by rw [List.length_take]; omega
    obtain ⟨z, hz, _⟩ := int_is (hr _ (List.getElem_mem hil))
    have hzin := allIn_at hall hil hz
    have hzl : z.toNat < l.length := by omega
    have hF : ∀ k : Int, FrCi [.list o, .list l, .int .i64 i, .int .i64 k] = if hitC l (iD l[z.toNat] 4) ((o.take i.toNat).drop k.toNat) then (false, [.int .i64 z]) else (true, []) := by
      intro k
      rw [FrCi_eq, getD_lt hil, hz, show iD [DV.int .i64 z] 0 = z from rfl, getD_lt hzl]
    have dz : den R kOA = .int .i64 z := by
      have := d_row e0 e2 hi0 hil 0
      rw [hz] at this
      exact this
    have d4 : den R toldC = .int .i64 (iD l[z.toNat] 4) := by
      rw [show toldC = .at (.v 1) kOA 4 from rfl, d_row e1 dz hzin.1 hzl 4, did4 (hl _ (List.getElem_mem hzl)) 4 (.inr rfl)]
    show goalR 3 FrCi _ _ R _ rrI
    unfold rrI
    refine r_ask (d_lss e3 (d_lenL ec)) (fun h => ?_) (fun h => ?_)
    · simp only [decide_eq_true_eq, hlen] at h
      have hkl : k.toNat < (o.take i.toNat).length := by rw [hlen]; omega
      have hkl' : k.toNat < o.length := by omega
      have hget : (o.take i.toNat)[k.toNat] = o[k.toNat] := List.getElem_take
      obtain ⟨y, hy, _⟩ := int_is (hr _ (List.getElem_mem hkl'))
      have hyin := allIn_at hall hkl' hy
      have hyl : y.toNat < l.length := by omega
      have hdrop : (o.take i.toNat).drop k.toNat = [.int .i64 y] :: (o.take i.toNat).drop (k.toNat + 1) := by rw [List.drop_eq_getElem_cons hkl, hget, hy]
      have dy : den R (.at cutR (.v 3) 0) = .int .i64 y := by
        have := d_row ec e3 hk0 hkl 0
        rw [hget, hy] at this
        exact this
      have d3 : den R askA = .int .i64 (iD l[y.toNat] 3) := by
        rw [show askA = .at (.v 1) (.at cutR (.v 3) 0) 3 from rfl, d_row e1 dy hyin.1 hyl 3, did4 (hl _ (List.getElem_mem hyl)) 3 (.inl rfl)]
      have hhit : hitC l (iD l[z.toNat] 4) ((o.take i.toNat).drop k.toNat) = (decide (0 < iD l[z.toNat] 4) && (decide (iD l[z.toNat] 4 < iD l[y.toNat] 3) || ((o.take i.toNat).drop (k.toNat + 1)).any fun r => decide (iD l[z.toNat] 4 < iD (l.getD (iD r 0).toNat []) 3))) := by
        rw [hdrop]
        simp only [hitC, List.any_cons]
        rw [show iD [DV.int .i64 y] 0 = y from rfl, getD_lt hyl]
      have nx : (decide (0 < iD l[z.toNat] 4) && decide (iD l[z.toNat] 4 < iD l[y.toNat] 3)) = false → goalR 3 FrCi InvRI muRI R [.list o, .list l, .int .i64 i, .int .i64 k] nxI := by
        intro hb
        have hadd := d_add (R := R) e3 (d_k .i64 1) (by omega) (by omega)
        have hτ : ([.v 0, .v 1, .v 2, add (.v 3) (k64 1)] : List SX).map (den R) = [.list o, .list l, .int .i64 i, .int .i64 (k + 1)] := by
          simp only [List.map_cons, List.map_nil, e0, e1, e2, hadd]
          rfl
        show InvRI _ ∧ muRI _ < muRI _ ∧ FrCi _ = FrCi _
        rw [hτ]
        refine ⟨⟨o, l, i, k + 1, rfl, hi0, hi1, by omega, by omega, ho, hall, hr, hl⟩, ?_, ?_⟩
        · show i.toNat - (k + 1).toNat < i.toNat - k.toNat
          omega
        · rw [hF, hF, hhit, toNat_succ hk0]
          have : hitC l (iD l[z.toNat] 4) ((o.take i.toNat).drop (k.toNat + 1)) = (decide (0 < iD l[z.toNat] 4) && (decide (iD l[z.toNat] 4 < iD l[y.toNat] 3) || ((o.take i.toNat).drop (k.toNat + 1)).any fun r => decide (iD l[z.toNat] 4 < iD (l.getD (iD r 0).toNat []) 3))) := by
            unfold hitC
            rw [Bool.and_or_distrib_left, hb, Bool.false_or]
          rw [this]
      refine r_knows (l := [_, _, _, _, _]) (fun q hq => ?_) ?_
      · simp only [List.mem_cons, List.not_mem_nil, or_false] at hq
        rcases hq with rfl | rfl | rfl | rfl | rfl
        · rw [d_lss e3 (d_k .i64 0)]; simp; omega
        · rw [d_lss dz (d_k .i64 0)]; simp; omega
        · rw [d_lss dz (d_lenL e1)]; simp; omega
        · rw [d_lss dy (d_k .i64 0)]; simp; omega
        · rw [d_lss dy (d_lenL e1)]; simp; omega
      · refine r_ask (d_lss (d_k .i64 0) d4) (fun h1 => ?_) (fun h1 => nx (by rw [show decide (0 < iD l[z.toNat] 4) = false from h1]; rfl))
        have h1 : decide (0 < iD l[z.toNat] 4) = true := h1
        refine r_ask (d_lss d4 d3) (fun h2 => ?_) (fun h2 => nx (by rw [h2, Bool.and_false]))
        show FrCi _ = _
        rw [hF, hhit, h1, h2]
        simp only [Bool.true_or, Bool.and_self, if_true, List.drop_succ_cons, List.drop_zero, List.map_cons, List.map_nil, dz]
    · simp only [decide_eq_false_iff_not, hlen] at h
      show FrCi _ = _
      rw [hF, List.drop_eq_nil_of_le (by rw [hlen]; omega)]
      simp [hitC]
/-! the loop around it -/
theorem lastA_max (l : List (List DV)) : ∀ (o : List (List DV)) (m : Int) (t : Int), (t < lastA l o m ↔ t < m ∨ (o.any fun r => decide (t < iD (l.getD (iD r 0).toNat []) 3)) = true)
  | [], m, t => by simp [lastA]
  | r :: o, m, t => by
    rw [lastA, lastA_max l o, List.any_cons, Bool.or_eq_true, decide_eq_true_eq]
    constructor
    · rintro (h | h)
      · by_cases h2 : t < m
        · exact .inl h2
        · exact .inr (.inl (by omega))
      · exact .inr (.inr h)
    · rintro (h | h | h)
      · exact .inl (by omega)
      · exact .inl (by omega)
      · exact .inr h
theorem hit_last (l o : List (List DV)) (t : Int) : hitC l t o = (decide (0 < t) && decide (t < lastA l o 0)) := by
  unfold hitC
  rw [Bool.eq_iff_iff]
  simp only [Bool.and_eq_true, decide_eq_true_eq, lastA_max]
  constructor
  · rintro ⟨h1, h2⟩; exact ⟨h1, .inr h2⟩
  · rintro ⟨h1, h2 | h2⟩
    · omega
    · exact ⟨h1, h2⟩
theorem lastA_snoc (l : List (List DV)) (r : List DV) : ∀ (o : List (List DV)) (m : Int), lastA l (o ++ [r]) m = max (lastA l o m) (iD (l.getD (iD r 0).toNat []) 3)
  | [], m => rfl
  | q :: o, m => by rw [List.cons_append, lastA, lastA, lastA_snoc l r o]
def InvRC (ds : List DV) : Prop := ∃ o l i, ds = [.list o, .list l, .int .i64 i] ∧ 0 ≤ i ∧ i ≤ o.length ∧ o.length ≤ maxLen ∧ allIn o l.length = true ∧ (∀ r ∈ o, IsL [tI] r) ∧ ∀ r ∈ l, IsL tDid r
theorem FrC_eq (o l : List (List DV)) (i : Int) : FrC [.list o, .list l, .int .i64 i] = match seqC l (o.drop i.toNat) (lastA l (o.take i.toNat) 0) with
  | some k => (false, [.int .i64 k])
  | none => (true, []) := rfl
set_option maxRecDepth 100000 in
theorem keyRC : loopsIn codeRC = [codeRI] := by kernel_rfl
theorem loopRC : LoopOK Tryz.prog G theI codeRC SrC.L := by
  refine loop_std (F := FrC) (Inv := InvRC) (μ := muOA) (entS_ok (l := []) trivial) (sub := []) trivial (lps := [(21, SrI.L)]) ?_ (fun _ => rfl) rrC okRC ?_ ?_
  · intro B hB L hL
    have h1 := lpsOf_mem hL
    simp only [List.mem_cons, List.not_mem_nil, or_false, Prod.mk.injEq] at h1
    rw [keyRC] at hB
    simp only [List.mem_cons, List.not_mem_nil, or_false] at hB
    rw [hB, h1.2]
    exact loopRI
  · intro ds h hp
    simp only [SrC, IsL] at h
    obtain ⟨d0, _, rfl, h0, d1, _, rfl, h1, d2, _, rfl, h2, rfl⟩ := h
    obtain ⟨o, rfl, ho, hr⟩ := Is.lst h0
    obtain ⟨l, rfl, _, hl⟩ := Is.lst h1
    obtain ⟨i, rfl, _⟩ := h2.i64
    have p1 := hp (eql (.v 2) (k64 0), true) (by simp [SrC])
    have p4 := hp (.app 140 [.v 0, .v 1], true) (by simp [SrC])
    have e0 : den (rhoOf theI [DV.list o, .list l, .int .i64 i]) (.v 0) = .list o := rfl
    have e1 : den (rhoOf theI [DV.list o, .list l, .int .i64 i]) (.v 1) = .list l := rfl
    have e2 : den (rhoOf theI [DV.list o, .list l, .int .i64 i]) (.v 2) = .int .i64 i := rfl
    rw [d_eql e2 (d_k .i64 0)] at p1
    rw [d140 rfl e0 e1] at p4
    simp only [DV.bool.injEq, decide_eq_true_eq] at p1 p4
    exact ⟨o, l, i, rfl, by omega, by omega, ho, p4, fun r hq => by simpa only [IsL] using hr r hq, hl⟩
  · rintro ds ⟨o, l, i, rfl, hi0, hi1, ho, hall, hr, hl⟩
    have hmx := maxLen_lt
    generalize hR : rhoOf theI [DV.list o, .list l, .int .i64 i] = R
    have hI : R.I = theI := by rw [← hR]; rfl
    have e0 : den R (.v 0) = .list o := by rw [← hR]; rfl
    have e1 : den R (.v 1) = .list l := by rw [← hR]; rfl
    have e2 : den R (.v 2) = .int .i64 i := by rw [← hR]; rfl
    show goalR 0 FrC _ _ R _ rrC
    unfold rrC
    refine r_ask (d_lss e2 (d_lenL e0)) (fun h => ?_) (fun h => ?_)
    · simp only [decide_eq_true_eq] at h
      have hil : i.toNat < o.length := by omega
      obtain ⟨z, hz, _⟩ := int_is (hr _ (List.getElem_mem hil))
      have hzin := allIn_at hall hil hz
      have hzl : z.toNat < l.length := by omega
      have hdrop : o.drop i.toNat = [.int .i64 z] :: o.drop (i.toNat + 1) := by rw [List.drop_eq_getElem_cons hil, hz]
      have hm : ([.v 0, .v 1, .v 2, k64 0] : List SX).map (den R) = [.list o, .list l, .int .i64 i, .int .i64 0] := by
        simp only [List.map_cons, List.map_nil, e0, e1, e2]
        rfl
      have f0 := d_fl0 (R := R) (f := 130) (F := FrCi) (by rw [hI]; rfl) hm
      have f1 := d_fl (R := R) (f := 130) (F := FrCi) (by rw [hI]; rfl) hm 0
      have hF : FrCi [.list o, .list l, .int .i64 i, .int .i64 0] = if (decide (0 < iD l[z.toNat] 4) && decide (iD l[z.toNat] 4 < lastA l (o.take i.toNat) 0)) = true then (false, [.int .i64 z]) else (true, []) := by
        rw [FrCi_eq, getD_lt hil, hz, show iD [DV.int .i64 z] 0 = z from rfl, getD_lt hzl, hit_last]
        simp only [Int.toNat_zero, List.drop_zero]
      rw [hF] at f0 f1
      have hseq : FrC [.list o, .list l, .int .i64 i] = match (if (decide (0 < iD l[z.toNat] 4) && decide (iD l[z.toNat] 4 < lastA l (o.take i.toNat) 0)) = true then some z else seqC l (o.drop (i.toNat + 1)) (max (lastA l (o.take i.toNat) 0) (iD l[z.toNat] 3))) with
          | some k => (false, [.int .i64 k])
          | none => (true, []) := by
        rw [FrC_eq, hdrop]
        simp only [seqC]
        rw [show iD [DV.int .i64 z] 0 = z from rfl, getD_lt hzl]
      refine r_knows (l := [_, _]) (fun q hq => ?_) ?_
      · simp only [List.mem_cons, List.not_mem_nil, or_false] at hq
        rcases hq with rfl | rfl
        · rw [d_lss e2 (d_k .i64 0)]; simp; omega
        · rw [d140 hI e0 e1, hall]
      · refine r_ask f0 (fun hb => ?_) (fun hb => ?_)
        · have hb : (decide (0 < iD l[z.toNat] 4) && decide (iD l[z.toNat] 4 < lastA l (o.take i.toNat) 0)) = false := by
            cases hx : (decide (0 < iD l[z.toNat] 4) && decide (iD l[z.toNat] 4 < lastA l (o.take i.toNat) 0)) with
            | false => rfl
            | true => rw [hx] at hb; cases hb
          have hadd := d_add (R := R) e2 (d_k .i64 1) (by omega) (by omega)
          have hτ : ([.v 0, .v 1, add (.v 2) (k64 1)] : List SX).map (den R) = [.list o, .list l, .int .i64 (i + 1)] := by
            simp only [List.map_cons, List.map_nil, e0, e1, hadd]
            rfl
          show InvRC _ ∧ muOA _ < muOA _ ∧ FrC _ = FrC _
          rw [hτ]
          refine ⟨⟨o, l, i + 1, rfl, by omega, by omega, ho, hall, hr, hl⟩, ?_, ?_⟩
          · show o.length - (i + 1).toNat < o.length - i.toNat
            omega
          · rw [hseq, hb, FrC_eq, toNat_succ hi0, take_succ_get hil, lastA_snoc, hz, show iD [DV.int .i64 z] 0 = z from rfl, getD_lt hzl]
            rfl
        · have hb : (decide (0 < iD l[z.toNat] 4) && decide (iD l[z.toNat] 4 < lastA l (o.take i.toNat) 0)) = true := by
            cases hx : (decide (0 < iD l[z.toNat] 4) && decide (iD l[z.toNat] 4 < lastA l (o.take i.toNat) 0)) with
            | true => rfl
            | false => rw [hx] at hb; cases hb
          rw [hb, if_pos rfl] at f1
          show FrC _ = _
          rw [hseq, hb, if_pos rfl]
          simp only [List.drop_zero, List.map_cons, List.map_nil]
          rw [show den R (riX 1) = _ from f1]
          rfl
    · simp only [decide_eq_false_iff_not] at h
      show FrC _ = _
      rw [FrC_eq, List.drop_eq_nil_of_le (by omega)]
      rfl
end Go.Proofs.YtbhfnmeojhpgbaaGreatDoor
