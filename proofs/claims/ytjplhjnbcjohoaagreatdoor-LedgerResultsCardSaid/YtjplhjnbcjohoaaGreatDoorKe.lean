/-
  A part of the proof of LedgerResults (the machine on named data, and the contracts of the functions that the law reaches): Ri Rk Rl.
-/
import Derived.Test.YtjplhjnbcjohoaaGreatDoorKd
set_option linter.all false
set_option linter.unusedVariables false
set_option linter.unusedSimpArgs false
set_option linter.unusedSectionVars false
namespace Go.Proofs.YtjplhjnbcjohoaaGreatDoor
open Go Go.AM
/-! ### equality of lists -/
noncomputable def NEq (t : Nat) : Tmpl := { tm := [(t, .sc (.bool false))] }
noncomputable def Y0 : Tmpl := { tm := [] }
noncomputable abbrev cEq : SX := .app 104 [.v 0, .v 1, .v 2]
noncomputable def preEq : List (SX × Bool) := [(eql (.len (.v 0)) (.len (.v 1)), true), (eql (.v 2) (k64 0), true)]
noncomputable def rEq (c : SX) (τ : List SX) : RPln :=
  .ask (lss (.v 2) (.len (.v 0)))
    (knowR [(lss (.v 2) (k64 0), false), (lss (.v 2) (.len (.v 1)), true)]
      (.ask c (.next τ) (.exit false [])))
    (.exit true [])
noncomputable abbrev nxEq : List SX := [.v 0, .v 1, add (.v 2) (k64 1)]
noncomputable abbrev eqF : SX := .at (.app 4 [.at (.v 0) (.v 2) 0, .at (.v 1) (.v 2) 0]) (k64 0) 0
noncomputable def muRow (R : Rho) : Nat := match R.ρ 0, R.ρ 2 with
  | .list la, .int _ i => la.length - i.toNat
  | _, _ => 0
open Classical in
noncomputable def eqRw (x y : List DV) : Bool := decide (x = y)
def invEq (Q : List DV → Prop) (R : Rho) : Prop := ∃ la lb i, R.ρ 0 = .list la ∧ R.ρ 1 = .list lb ∧ R.ρ 2 = .int .i64 i ∧ (∀ r ∈ la, Q r) ∧ (∀ r ∈ lb, Q r) ∧ la.length ≤ maxLen ∧ la.length = lb.length ∧ 0 ≤ i ∧ i ≤ la.length
theorem dEq {R : Rho} (hI : R.I = theI) {la lb : List (List DV)} {i : Int} (e0 : R.ρ 0 = .list la) (e1 : R.ρ 1 = .list lb) (e2 : R.ρ 2 = .int .i64 i) : den R cEq = .bool (eqLs (la.drop i.toNat) (lb.drop i.toNat)) := by
  rw [d_app, hI]
  simp only [List.map_cons, List.map_nil, den, e0, e1, e2]
  rfl
theorem goalEq {L : LoopSp} {Q : List DV → Prop} {c : SX} (hc : L.cnd = cEq) (hy : L.yes.2.2 = []) (hn : L.no.2.2 = [])
    (hd : ∀ (R : Rho) (la lb : List (List DV)) (i : Int), R.I = theI → R.ρ 0 = .list la → R.ρ 1 = .list lb → R.ρ 2 = .int .i64 i → 0 ≤ i → ∀ (h1 : i.toNat < la.length) (h2 : i.toNat < lb.length), Q la[i.toNat] → Q lb[i.toNat] → den R c = .bool (eqRw la[i.toNat] lb[i.toNat])) :
    ∀ R : Rho, R.I = theI → invEq Q R → goalRound L (invEq Q) muRow R (rEq c nxEq) := by
  rintro R hI ⟨la, lb, i, e0, e1, e2, q1, q2, hm, hl, h1, h2⟩
  have hmx := maxLen_lt
  have hcnd := dEq hI e0 e1 e2
  unfold rEq
  refine round_ask (d_lss (d_v e2) (d_lenL (d_v e0))) (fun hlt => ?_) (fun hge => ?_)
  · simp only [decide_eq_true_eq] at hlt
    have l1 : i.toNat < la.length := by omega
    have l2 : i.toNat < lb.length := by omega
    have hi1 := d_add (R := R) (d_v e2) (d_k .i64 1) (by omega) (by omega)
    have hs := drop_step l1 l2
    refine round_knows (l := [_, _]) ?_ ?_
    · intro q hq
      simp only [List.mem_cons, List.not_mem_nil, or_false] at hq
      rcases hq with rfl | rfl
      · rw [d_lss (d_v e2) (d_k .i64 0)]; simp; omega
      · rw [d_lss (d_v e2) (d_lenL (d_v e1))]; simp; omega
    refine round_ask (hd R la lb i hI e0 e1 e2 h1 l1 l2 (q1 _ (List.getElem_mem l1)) (q2 _ (List.getElem_mem l2))) (fun hz => ?_) (fun hz => ?_)
    · have hz : la[i.toNat] = lb[i.toNat] := by simpa [eqRw] using hz
      have s0 := sub_get R nxEq 0 rfl (d_v e0)
      have s1 := sub_get R nxEq 1 rfl (d_v e1)
      have s2 := sub_get R nxEq 2 rfl hi1
      refine ⟨⟨la, lb, i + 1, s0, s1, s2, q1, q2, hm, hl, by omega, by omega⟩, ?_, ?_, fun b _ => ?_⟩
      · simp only [muRow, s0, s2, e0, e2]
        omega
      · rw [hc, hcnd, dEq (R := R.sub nxEq) hI s0 s1 s2]
        congr 1
        have e : eqLs (la.drop i.toNat) (lb.drop i.toNat) = eqLs (la.drop (i.toNat + 1)) (lb.drop (i.toNat + 1)) := by
          unfold eqLs
          rw [decide_eq_decide, hs]
          exact ⟨fun h => h.2, fun h => ⟨hz, h⟩⟩
        rw [e, ← toNat_succ h1]
        rfl
      · cases b
        · show L.no.2.2.map _ = L.no.2.2.map _
          rw [hn]; rfl
        · show L.yes.2.2.map _ = L.yes.2.2.map _
          rw [hy]; rfl
    · have hz : ¬ la[i.toNat] = lb[i.toNat] := by simpa [eqRw] using hz
      refine ⟨?_, ?_⟩
      · rw [hc, hcnd]
        congr 1
        unfold eqLs
        rw [decide_eq_false_iff_not, hs]
        exact fun h => hz h.1
      · show _ = L.no.2.2.map _
        rw [hn]
  · simp only [decide_eq_false_iff_not] at hge
    refine ⟨?_, ?_⟩
    · rw [hc, hcnd, List.drop_eq_nil_of_le (by omega), List.drop_eq_nil_of_le (by omega)]
      simp [eqLs]
    · show _ = L.yes.2.2.map _
      rw [hy]
noncomputable def pEq : Pln :=
  .ask (eql (.len (.v 0)) (.len (.v 1)))
    (.ask (.app 104 [.v 0, .v 1, k64 0]) (.done [[.kb true]]) (.done [[.kb false]]))
    (.done [[.kb false]])
/-- The goal of an equality of lists. -/
theorem goal_eq {la lb : List (List DV)} {R : Rho} (hI : R.I = theI) (e0 : R.ρ 0 = .list la) (e1 : R.ρ 1 = .list lb) : goalPlan R [[.bool (eqLs la lb)]] pEq := by
  unfold pEq
  refine goal_ask (d_eql (d_lenL (d_v e0)) (d_lenL (d_v e1))) (fun h => ?_) (fun h => ?_)
  · have hd : den R (.app 104 [.v 0, .v 1, k64 0]) = .bool (eqLs la lb) := by
      rw [d_app, hI]
      simp only [List.map_cons, List.map_nil, den, e0, e1]
      rfl
    refine goal_ask hd (fun hb => ?_) (fun hb => ?_)
    · show _ = _
      rw [hb]; rfl
    · show _ = _
      rw [hb]; rfl
  · show _ = _
    have : eqLs la lb = false := by
      unfold eqLs
      rw [decide_eq_false_iff_not]
      rintro rfl
      simp at h
    rw [this]; rfl
theorem isR_eq {x y : List DV} (hx : IsR x) (hy : IsR y) : ∃ lx ly, x = [.list lx] ∧ y = [.list ly] ∧ eqLs lx ly = eqRw x y := by
  obtain ⟨lx, rfl, _⟩ := hx
  obtain ⟨ly, rfl, _⟩ := hy
  refine ⟨lx, ly, rfl, rfl, ?_⟩
  unfold eqLs eqRw
  rw [decide_eq_decide]
  simp
theorem eqF_den (R : Rho) (la lb : List (List DV)) (i : Int) (hI : R.I = theI) (e0 : R.ρ 0 = .list la) (e1 : R.ρ 1 = .list lb) (e2 : R.ρ 2 = .int .i64 i) (h0 : 0 ≤ i) (h1 : i.toNat < la.length) (h2 : i.toNat < lb.length) (q1 : IsR la[i.toNat]) (q2 : IsR lb[i.toNat]) : den R eqF = .bool (eqRw la[i.toNat] lb[i.toNat]) := by
  obtain ⟨lx, ly, hx, hy, he⟩ := isR_eq q1 q2
  have a : den R (.at (.v 0) (.v 2) 0) = .list lx := by rw [d_at 0 (d_v e0) (d_v e2), getD_lt h1, hx]; rfl
  have b : den R (.at (.v 1) (.v 2) 0) = .list ly := by rw [d_at 0 (d_v e1) (d_v e2), getD_lt h2, hy]; rfl
  refine d_res (F := Feq) (by rw [hI]; rfl) ?_
  simp only [List.map_cons, List.map_nil, a, b, ← he]
  rfl
/-! bytes -/
noncomputable def TEb : Tmpl := { tm := [(0, .sy tB (.v 0)), (1, .sy tB (.v 1)), (12, .sy tI (.len (.v 0))), (13, .sy tI (.v 2))], src := [.tm 0 tB, .tm 1 tB, .tm 13 tI] }
noncomputable def LEb : LoopSp := { n := 26, T := TEb, pre := preEq, cnd := cEq, yes := (.exit 0, Y0, []), no := (.ret, NEq 4, []) }
noncomputable abbrev eq1 : SX := eql (.at (.v 0) (.v 2) 0) (.at (.v 1) (.v 2) 0)
def IsU (r : List DV) : Prop := ∃ z, r = [.int .u8 z]
theorem eq1_den (R : Rho) (la lb : List (List DV)) (i : Int) (_ : R.I = theI) (e0 : R.ρ 0 = .list la) (e1 : R.ρ 1 = .list lb) (e2 : R.ρ 2 = .int .i64 i) (_ : 0 ≤ i) (h1 : i.toNat < la.length) (h2 : i.toNat < lb.length) (q1 : IsU la[i.toNat]) (q2 : IsU lb[i.toNat]) : den R eq1 = .bool (eqRw la[i.toNat] lb[i.toNat]) := by
  obtain ⟨x, hx⟩ := q1
  obtain ⟨y, hy⟩ := q2
  have a : den R (.at (.v 0) (.v 2) 0) = .int .u8 x := by rw [d_at 0 (d_v e0) (d_v e2), getD_lt h1, hx]; rfl
  have b : den R (.at (.v 1) (.v 2) 0) = .int .u8 y := by rw [d_at 0 (d_v e1) (d_v e2), getD_lt h2, hy]; rfl
  rw [d_eql a b, hx, hy]
  unfold eqRw
  congr 1
  rw [decide_eq_decide]
  simp
theorem isU_bytes (l : List Int) : ∀ r ∈ bytesI l, IsU r := fun r hr => by
  obtain ⟨z, _, rfl⟩ := List.mem_map.1 hr
  exact ⟨z, rfl⟩
theorem loopEb {B : Code} (h : (LEb.yes.2.1.ok LEb.T LEb.n && LEb.no.2.1.ok LEb.T LEb.n && checkRound LEb (roundI theI (entS []) [] B) [] (rEq eq1 nxEq)) = true) : LoopOK Tryz.prog G theI B LEb := by
  refine loop_run (lps := []) (entS_ok (l := []) trivial) noLoops (rEq eq1 nxEq) h (invEq IsU) muRow ?_ (goalEq rfl rfl rfl eq1_den)
  intro m a w hr hp
  obtain ⟨la, e0, _, a1⟩ := (head_sy hr (t := 0) (i := 0) (ty := tB) (by kernel_rfl)).ints
  obtain ⟨lb, e1, _, b1⟩ := (head_sy hr (t := 1) (i := 1) (ty := tB) (by kernel_rfl)).ints
  obtain ⟨i, e2, _⟩ := (head_sy hr (t := 13) (i := 2) (ty := tI) (by kernel_rfl)).i64
  have p1 := hp (eql (.len (.v 0)) (.len (.v 1)), true) (by simp [LEb, preEq])
  have p2 := hp (eql (.v 2) (k64 0), true) (by simp [LEb, preEq])
  rw [d_eql (d_lenL (d_v e0)) (d_lenL (d_v e1))] at p1
  rw [d_eql (d_v e2) (d_k .i64 0)] at p2
  simp only [DV.bool.injEq, decide_eq_true_eq] at p1 p2
  exact ⟨_, _, i, e0, e1, e2, isU_bytes la, isU_bytes lb, by rw [len_bytesI]; exact a1, by omega, by omega, by omega⟩
theorem kEb1 : (LEb.yes.2.1.ok LEb.T LEb.n && LEb.no.2.1.ok LEb.T LEb.n && checkRound LEb (roundI theI (entS []) [] (loopAt 86 0)) [] (rEq eq1 nxEq)) = true := by kernel_rfl
theorem kEb2 : (LEb.yes.2.1.ok LEb.T LEb.n && LEb.no.2.1.ok LEb.T LEb.n && checkRound LEb (roundI theI (entS []) [] (loopAt 11 0)) [] (rEq eq1 nxEq)) = true := by kernel_rfl
theorem fnEb {f : FuncId} (hl : LoopsAre theI f [(5, LEb)]) (hk : (hasB f && checkPlan [.one .bool] (runI theI (entS []) [(5, LEb)] [] f [.one tB, .one tB]) [] pEq) = true) : FnOK Tryz.prog G f [.one tB, .one tB] [.one .bool] (fun _ => True) Feq := by
  rw [Bool.and_eq_true] at hk
  refine fn_run (entS_ok (l := []) trivial) [(5, LEb)] _ hl hk.1 pEq hk.2 ?_
  intro ds h _
  simp only [IsArgs, IsOne] at h
  obtain ⟨_, _, rfl, ⟨d, rfl, hd⟩, _, _, rfl, ⟨e, rfl, he⟩, rfl⟩ := h
  obtain ⟨la, rfl, _⟩ := hd.ints
  obtain ⟨lb, rfl, _⟩ := he.ints
  exact goal_eq rfl rfl rfl
theorem fnEqB : FnOK Tryz.prog G 86 [.one tB, .one tB] [.one .bool] (fun _ => True) Feq := fnEb (loops1 (by kernel_rfl) (loopEb kEb1)) (by kernel_rfl)
theorem fnSameB : FnOK Tryz.prog G 11 [.one tB, .one tB] [.one .bool] (fun _ => True) Feq := fnEb (loops1 (by kernel_rfl) (loopEb kEb2)) (by kernel_rfl)
noncomputable def eEqB : Ent := eFn 86 [.one tB, .one tB] [.one .bool] [] 4
theorem eEqB_ok : EntsOK Tryz.prog G theI [eEqB] := ⟨eFn_ok plainG (pre_true fnEqB) (fun _ => rfl) [] (by kernel_rfl), trivial⟩
noncomputable def eSameB : Ent := eFn 11 [.one tB, .one tB] [.one .bool] [] 4
theorem eSameB_ok : EntsOK Tryz.prog G theI [eSameB] := ⟨eFn_ok plainG (pre_true fnSameB) (fun _ => rfl) [] (by kernel_rfl), trivial⟩
/-! ### the reference's SameRows -/
noncomputable abbrev aR : SX := .at (.v 0) (.v 2) 0
noncomputable abbrev bR : SX := .at (.v 1) (.v 2) 0
noncomputable abbrev codeSr : Code := loopAt 20 0
noncomputable def codeSi : Code := (loopsIn codeSr).getD 0 .skip
noncomputable def TSi : Tmpl := { tm := [(0, .sy tRows (.v 0)), (1, .sy tRows (.v 1)), (5, .sy tI (.v 2)), (13, .sy tI (.len (.v 0))), (14, .sy tI (.v 2)), (32, .sy tI (.len aR)), (33, .sy tI (.v 3))], src := [.tm 0 tRows, .tm 1 tRows, .tm 14 tI, .tm 33 tI] }
noncomputable def YSi : Tmpl := { tm := [(0, .sy tRows (.v 0)), (1, .sy tRows (.v 1)), (13, .sy tI (.len (.v 0))), (14, .sy tI (.v 2))], src := [.tm 0 tRows, .tm 1 tRows, .tm 14 tI] }
noncomputable def preSi : List (SX × Bool) := [(lss (.v 2) (k64 0), false), (lss (.v 2) (.len (.v 0)), true), (lss (.v 2) (.len (.v 1)), true), (eql (.len aR) (.len bR), true), (eql (.v 3) (k64 0), true)]
noncomputable abbrev cSi : SX := .app 105 [.v 0, .v 1, .v 2, .v 3]
noncomputable def LSi : LoopSp := { n := 53, T := TSi, pre := preSi, cnd := cSi, yes := (.exit 2, YSi, [.v 0, .v 1, .v 2]), no := (.ret, NEq 4, []) }
noncomputable abbrev eqS : SX := .all [eql (.at aR (.v 3) 0) (.at bR (.v 3) 0), eql (.at aR (.v 3) 1) (.at bR (.v 3) 1), eql (.at aR (.v 3) 2) (.at bR (.v 3) 2)]
noncomputable abbrev nxSi : List SX := [.v 0, .v 1, .v 2, add (.v 3) (k64 1)]
noncomputable def rSi : RPln :=
  .ask (lss (.v 3) (.len aR))
    (knowR [(lss (.v 3) (k64 0), false), (lss (.v 2) (.len (.v 0)), true), (lss (.v 2) (k64 0), false), (lss (.v 2) (.len (.v 1)), true), (lss (.v 3) (.len bR), true)]
      (.ask eqS (.next nxSi) (.exit false [])))
    (.exit true [.v 0, .v 1, .v 2])
theorem okSi : (LSi.yes.2.1.ok LSi.T LSi.n && LSi.no.2.1.ok LSi.T LSi.n && checkRound LSi (roundI theI (entS []) [] codeSi) [] rSi) = true := by kernel_rfl
noncomputable def TSr : Tmpl := { tm := [(0, .sy tRows (.v 0)), (1, .sy tRows (.v 1)), (13, .sy tI (.len (.v 0))), (14, .sy tI (.v 2))], src := [.tm 0 tRows, .tm 1 tRows, .tm 14 tI] }
noncomputable def LSr : LoopSp := { n := 53, T := TSr, pre := preEq, cnd := cEq, yes := (.exit 0, Y0, []), no := (.ret, NEq 4, []) }
noncomputable abbrev eqT : SX := .app 105 [.v 0, .v 1, .v 2, k64 0]
noncomputable def rSr : RPln :=
  .ask (lss (.v 2) (.len (.v 0)))
    (knowR [(lss (.v 2) (k64 0), false), (lss (.v 2) (.len (.v 1)), true)]
      (.ask (eql (.len aR) (.len bR)) (.ask eqT (.next nxEq) (.exit false [])) (.exit false [])))
    (.exit true [])
theorem okSr : (LSr.yes.2.1.ok LSr.T LSr.n && LSr.no.2.1.ok LSr.T LSr.n && checkRound LSr (roundI theI (entS []) [(10, LSi)] codeSr) [] rSr) = true := by kernel_rfl
def invSi (R : Rho) : Prop := ∃ la lb i k lx ly, R.ρ 0 = .list la ∧ R.ρ 1 = .list lb ∧ R.ρ 2 = .int .i64 i ∧ R.ρ 3 = .int .i64 k ∧ 0 ≤ i ∧ i < la.length ∧ i < lb.length ∧ la.getD i.toNat [] = [.list lx] ∧ lb.getD i.toNat [] = [.list ly] ∧
  (∀ r ∈ lx, IsV r) ∧ (∀ r ∈ ly, IsV r) ∧ lx.length ≤ maxLen ∧ lx.length = ly.length ∧ 0 ≤ k ∧ k ≤ lx.length
noncomputable def muSi (R : Rho) : Nat := match R.ρ 0, R.ρ 2, R.ρ 3 with
  | .list la, .int _ i, .int _ k => (lD (la.getD i.toNat []) 0).length - k.toNat
  | _, _, _ => 0
theorem dSi {R : Rho} (hI : R.I = theI) {la lb : List (List DV)} {i k : Int} {lx ly : List (List DV)} {e : SX} (e0 : R.ρ 0 = .list la) (e1 : R.ρ 1 = .list lb) (e2 : R.ρ 2 = .int .i64 i) (e3 : den R e = .int .i64 k) (hx : la.getD i.toNat [] = [.list lx]) (hy : lb.getD i.toNat [] = [.list ly]) :
    den R (.app 105 [.v 0, .v 1, .v 2, e]) = .bool (eqLs (lx.drop k.toNat) (ly.drop k.toNat)) := by
  rw [d_app, hI]
  simp only [List.map_cons, List.map_nil, den, e0, e1, e2, e3]
  show FeqL2 _ = _
  simp only [FeqL2, lD, iD, List.getD_cons_zero, List.getD_cons_succ, hx, hy]
theorem loopSi : LoopOK Tryz.prog G theI codeSi LSi := by
  refine loop_run (lps := []) (entS_ok (l := []) trivial) noLoops rSi okSi invSi muSi ?_ ?_
  · intro m a w hr hp
    obtain ⟨la, e0, a1, a2⟩ := (head_sy hr (t := 0) (i := 0) (ty := tRows) (by kernel_rfl)).rows
    obtain ⟨lb, e1, b1, b2⟩ := (head_sy hr (t := 1) (i := 1) (ty := tRows) (by kernel_rfl)).rows
    obtain ⟨i, e2, _⟩ := (head_sy hr (t := 14) (i := 2) (ty := tI) (by kernel_rfl)).i64
    obtain ⟨k, e3, _⟩ := (head_sy hr (t := 33) (i := 3) (ty := tI) (by kernel_rfl)).i64
    have p1 := hp (lss (.v 2) (k64 0), false) (by simp [LSi, preSi])
    have p2 := hp (lss (.v 2) (.len (.v 0)), true) (by simp [LSi, preSi])
    have p3 := hp (lss (.v 2) (.len (.v 1)), true) (by simp [LSi, preSi])
    have p4 := hp (eql (.len aR) (.len bR), true) (by simp [LSi, preSi])
    have p5 := hp (eql (.v 3) (k64 0), true) (by simp [LSi, preSi])
    rw [d_lss (d_v e2) (d_k .i64 0)] at p1
    rw [d_lss (d_v e2) (d_lenL (d_v e0))] at p2
    rw [d_lss (d_v e2) (d_lenL (d_v e1))] at p3
    rw [d_eql (d_v e3) (d_k .i64 0)] at p5
    simp only [DV.bool.injEq, decide_eq_true_eq, decide_eq_false_iff_not] at p1 p2 p3 p5
    have h1 : i.toNat < la.length := by omega
    have h2 : i.toNat < lb.length := by omega
    obtain ⟨lx, hx, c1, c2⟩ := a2 _ (List.getElem_mem h1)
    obtain ⟨ly, hy, d1, d2⟩ := b2 _ (List.getElem_mem h2)
    have ga : la.getD i.toNat [] = [.list lx] := by rw [getD_lt h1, hx]
    have gb : lb.getD i.toNat [] = [.list ly] := by rw [getD_lt h2, hy]
    have da : den m.R aR = .list lx := by rw [d_at 0 (d_v e0) (d_v e2), ga]; rfl
    have db : den m.R bR = .list ly := by rw [d_at 0 (d_v e1) (d_v e2), gb]; rfl
    rw [d_eql (d_lenL da) (d_lenL db)] at p4
    simp only [DV.bool.injEq, decide_eq_true_eq] at p4
    exact ⟨la, lb, i, k, lx, ly, e0, e1, e2, e3, by omega, p2, p3, ga, gb, c2, d2, c1, by omega, by omega, by omega⟩
  · rintro R hI ⟨la, lb, i, k, lx, ly, e0, e1, e2, e3, i0, i1, i2, ga, gb, q1, q2, hm, hl, h1, h2⟩
    have hmx := maxLen_lt
    have hcnd : den R LSi.cnd = _ := dSi hI e0 e1 e2 (d_v e3) ga gb
    have da : den R aR = .list lx := by rw [d_at 0 (d_v e0) (d_v e2), ga]; rfl
    have db : den R bR = .list ly := by rw [d_at 0 (d_v e1) (d_v e2), gb]; rfl
    unfold rSi
    refine round_ask (d_lss (d_v e3) (d_lenL da)) (fun hlt => ?_) (fun hge => ?_)
    · simp only [decide_eq_true_eq] at hlt
      have l1 : k.toNat < lx.length := by omega
      have l2 : k.toNat < ly.length := by omega
      have hi1 := d_add (R := R) (d_v e3) (d_k .i64 1) (by omega) (by omega)
      have hs := drop_step l1 l2
      refine round_knows (l := [_, _, _, _, _]) ?_ ?_
      · intro q hq
        simp only [List.mem_cons, List.not_mem_nil, or_false] at hq
        rcases hq with rfl | rfl | rfl | rfl | rfl
        · rw [d_lss (d_v e3) (d_k .i64 0)]; simp; omega
        · rw [d_lss (d_v e2) (d_lenL (d_v e0))]; simp; omega
        · rw [d_lss (d_v e2) (d_k .i64 0)]; simp; omega
        · rw [d_lss (d_v e2) (d_lenL (d_v e1))]; simp; omega
        · rw [d_lss (d_v e3) (d_lenL db)]; simp; omega
      have a : ∀ c, den R (.at aR (.v 3) c) = lx[k.toNat].getD c (.bool false) := fun c => by rw [d_at c da (d_v e3), getD_lt l1]
      have b : ∀ c, den R (.at bR (.v 3) c) = ly[k.toNat].getD c (.bool false) := fun c => by rw [d_at c db (d_v e3), getD_lt l2]
      refine round_ask (d_allV (q1 _ (List.getElem_mem l1)) (q2 _ (List.getElem_mem l2)) (a 0) (a 1) (a 2) (b 0) (b 1) (b 2)) (fun hz => ?_) (fun hz => ?_)
      · have hz : lx[k.toNat] = ly[k.toNat] := by simpa using hz
        have s0 := sub_get R nxSi 0 rfl (d_v e0)
        have s1 := sub_get R nxSi 1 rfl (d_v e1)
        have s2 := sub_get R nxSi 2 rfl (d_v e2)
        have s3 := sub_get R nxSi 3 rfl hi1
        refine ⟨⟨la, lb, i, k + 1, lx, ly, s0, s1, s2, s3, i0, i1, i2, ga, gb, q1, q2, hm, hl, by omega, by omega⟩, ?_, ?_, fun b _ => ?_⟩
        · simp only [muSi, s0, s2, s3, e0, e2, e3, ga, lD, List.getD_cons_zero]
          omega
        · have := dSi (R := R.sub nxSi) hI s0 s1 s2 (d_v s3) ga gb
          rw [hcnd]
          show den (R.sub nxSi) (.app 105 [.v 0, .v 1, .v 2, .v 3]) = _
          rw [this]
          congr 1
          have e : eqLs (lx.drop k.toNat) (ly.drop k.toNat) = eqLs (lx.drop (k.toNat + 1)) (ly.drop (k.toNat + 1)) := by
            unfold eqLs
            rw [decide_eq_decide, hs]
            exact ⟨fun h => h.2, fun h => ⟨hz, h⟩⟩
          rw [e, ← toNat_succ h1]
          rfl
        · cases b
          · rfl
          · show [den (R.sub nxSi) (.v 0), den (R.sub nxSi) (.v 1), den (R.sub nxSi) (.v 2)] = [den R (.v 0), den R (.v 1), den R (.v 2)]
            rw [d_v s0, d_v s1, d_v s2, d_v e0, d_v e1, d_v e2]
      · have hz : ¬ lx[k.toNat] = ly[k.toNat] := by simpa using hz
        refine ⟨?_, rfl⟩
        rw [hcnd]
        congr 1
        unfold eqLs
        rw [decide_eq_false_iff_not, hs]
        exact fun h => hz h.1
    · simp only [decide_eq_false_iff_not] at hge
      refine ⟨?_, rfl⟩
      rw [hcnd, List.drop_eq_nil_of_le (by omega), List.drop_eq_nil_of_le (by omega)]
      simp [eqLs]
theorem lSr : LoopsOK Tryz.prog G theI (lpsOf [(10, LSi)]) codeSr := by
  intro B hB M hM
  have h1 := lpsOf_mem hM
  simp only [List.mem_cons, List.not_mem_nil, or_false, Prod.mk.injEq] at h1
  obtain ⟨_, rfl⟩ := h1
  have hc : loopsIn codeSr = [codeSi] := by kernel_rfl
  rw [hc] at hB
  simp only [List.mem_cons, List.not_mem_nil, or_false] at hB
  rw [hB]
  exact loopSi
theorem loopSr : LoopOK Tryz.prog G theI codeSr LSr := by
  refine loop_run (lps := [(10, LSi)]) (entS_ok (l := []) trivial) lSr rSr okSr (invEq IsR) muRow ?_ ?_
  · intro m a w hr hp
    obtain ⟨la, e0, a1, a2⟩ := (head_sy hr (t := 0) (i := 0) (ty := tRows) (by kernel_rfl)).rows
    obtain ⟨lb, e1, b1, b2⟩ := (head_sy hr (t := 1) (i := 1) (ty := tRows) (by kernel_rfl)).rows
    obtain ⟨i, e2, _⟩ := (head_sy hr (t := 14) (i := 2) (ty := tI) (by kernel_rfl)).i64
    have p1 := hp (eql (.len (.v 0)) (.len (.v 1)), true) (by simp [LSr, preEq])
    have p2 := hp (eql (.v 2) (k64 0), true) (by simp [LSr, preEq])
    rw [d_eql (d_lenL (d_v e0)) (d_lenL (d_v e1))] at p1
    rw [d_eql (d_v e2) (d_k .i64 0)] at p2
    simp only [DV.bool.injEq, decide_eq_true_eq] at p1 p2
    exact ⟨la, lb, i, e0, e1, e2, a2, b2, a1, by omega, by omega, by omega⟩
  · intro R hI hinv
    obtain ⟨la, lb, i, e0, e1, e2, q1, q2, hm, hl, h1, h2⟩ := hinv
    by_cases hlt : i < la.length
    · have l1 : i.toNat < la.length := by omega
      have l2 : i.toNat < lb.length := by omega
      obtain ⟨lx, ly, hx, hy, he⟩ := isR_eq (q1 _ (List.getElem_mem l1)) (q2 _ (List.getElem_mem l2))
      have ga : la.getD i.toNat [] = [.list lx] := by rw [getD_lt l1, hx]
      have gb : lb.getD i.toNat [] = [.list ly] := by rw [getD_lt l2, hy]
      have da : den R aR = .list lx := by rw [d_at 0 (d_v e0) (d_v e2), ga]; rfl
      have db : den R bR = .list ly := by rw [d_at 0 (d_v e1) (d_v e2), gb]; rfl
      have ht := dSi (e := k64 0) hI e0 e1 e2 (d_k .i64 0) ga gb
      -- the whole round by that of one condition
      have key : ∀ R : Rho, R.I = theI → invEq IsR R → goalRound LSr (invEq IsR) muRow R (rEq eqF nxEq) := goalEq rfl rfl rfl eqF_den
      have hk := key R hI ⟨la, lb, i, e0, e1, e2, q1, q2, hm, hl, h1, h2⟩
      have hF := eqF_den R la lb i hI e0 e1 e2 h1 l1 l2 (q1 _ (List.getElem_mem l1)) (q2 _ (List.getElem_mem l2))
      have hask : den R (lss (.v 2) (.len (.v 0))) = .bool true := by rw [d_lss (d_v e2) (d_lenL (d_v e0))]; simp; omega
      obtain ⟨_, hT, _⟩ := hk
      obtain ⟨f1, f2, _, hT2, hT3⟩ := hT hask
      refine round_ask hask (fun _ => ⟨f1, f2, ?_⟩) (fun h => by cases h)
      refine round_ask (d_eql (d_lenL da) (d_lenL db)) (fun hz => ?_) (fun hz => ?_)
      · refine round_ask ht (fun hz => hT2 ?_) (fun hz => hT3 ?_)
        · rw [hF, ← he]; exact congrArg DV.bool hz
        · rw [hF, ← he]; exact congrArg DV.bool hz
      · refine hT3 ?_
        rw [hF, ← he]
        congr 1
        unfold eqLs
        rw [decide_eq_false_iff_not]
        rintro rfl
        simp at hz
    · refine round_ask (b := false) (by rw [d_lss (d_v e2) (d_lenL (d_v e0))]; simp; omega) (fun h => by cases h) (fun _ => ?_)
      refine ⟨?_, rfl⟩
      have hcnd := dEq hI e0 e1 e2
      show den R cEq = _
      rw [hcnd, List.drop_eq_nil_of_le (by omega), List.drop_eq_nil_of_le (by omega)]
      simp [eqLs]
theorem kSr : (hasB 20 && checkPlan [.one .bool] (runI theI (entS []) [(5, LSr)] [] 20 [.one tRows, .one tRows]) [] pEq) = true := by kernel_rfl
theorem fnSr : FnOK Tryz.prog G 20 [.one tRows, .one tRows] [.one .bool] (fun _ => True) Feq := by
  have hk := kSr
  rw [Bool.and_eq_true] at hk
  refine fn_run (entS_ok (l := []) trivial) [(5, LSr)] _ (loops1 (by kernel_rfl) loopSr) hk.1 pEq hk.2 ?_
  intro ds h _
  simp only [IsArgs, IsOne] at h
  obtain ⟨_, _, rfl, ⟨d, rfl, hd⟩, _, _, rfl, ⟨e, rfl, he⟩, rfl⟩ := h
  obtain ⟨la, rfl, _⟩ := hd.rows
  obtain ⟨lb, rfl, _⟩ := he.rows
  exact goal_eq rfl rfl rfl
noncomputable def eSr : Ent := eFn 20 [.one tRows, .one tRows] [.one .bool] [] 4
theorem eSr_ok : EntsOK Tryz.prog G theI [eSr] := ⟨eFn_ok plainG (pre_true fnSr) (fun _ => rfl) [] (by kernel_rfl), trivial⟩
/-! ### the document's SameOutcome -/
noncomputable def pSameO : Pln :=
  .ask (eql (.v 0) (.v 4))
    (.ask (eql (.v 1) (.v 5))
      (.ask (eql (.v 3) (.v 7)) (.done [[.at (.app 4 [.v 2, .v 6]) (k64 0) 0]]) (.done [[.kb false]]))
      (.done [[.kb false]]))
    (.done [[.kb false]])
theorem kSameO : (hasB 9 && checkPlan [.one .bool] (runI theI (entS [eSr]) [] [] 9 [.agg tO, .agg tO]) [] pSameO) = true := by kernel_rfl
theorem agg_oo {ds : List (List DV)} (h : IsArgs [.agg tO, .agg tO] ds) : ∃ e a la c e' a' lb c', ds = [[.int .i64 e, .int .i64 a, .list la, .int .i64 c], [.int .i64 e', .int .i64 a', .list lb, .int .i64 c']] := by
  simp only [IsArgs, IsOne, IsL, tO] at h
  obtain ⟨_, _, rfl, ⟨d1, _, rfl, h1, d2, _, rfl, h2, d3, _, rfl, h3, d4, _, rfl, h4, rfl⟩, _, _, rfl, ⟨e1, _, rfl, k1, e2, _, rfl, k2, e3, _, rfl, k3, e4, _, rfl, k4, rfl⟩, rfl⟩ := h
  obtain ⟨a, rfl, _⟩ := h1.i64
  obtain ⟨b, rfl, _⟩ := h2.i64
  obtain ⟨c, rfl, _⟩ := h3.rows
  obtain ⟨d, rfl, _⟩ := h4.i64
  obtain ⟨a', rfl, _⟩ := k1.i64
  obtain ⟨b', rfl, _⟩ := k2.i64
  obtain ⟨c', rfl, _⟩ := k3.rows
  obtain ⟨d', rfl, _⟩ := k4.i64
  exact ⟨a, b, c, d, a', b', c', d', rfl⟩
theorem fnSameO : FnOK Tryz.prog G 9 [.agg tO, .agg tO] [.one .bool] (fun _ => True) FsameO := by
  have hk := kSameO
  rw [Bool.and_eq_true] at hk
  refine fn_run (entS_ok eSr_ok) [] [] noLoops hk.1 pSameO hk.2 fun ds h _ => ?_
  obtain ⟨e, a, la, c, e', a', lb, c', rfl⟩ := agg_oo h
  have hF : FsameO [[.int .i64 e, .int .i64 a, .list la, .int .i64 c], [.int .i64 e', .int .i64 a', .list lb, .int .i64 c']].flatten = [[.bool (decide (e = e') && decide (a = a') && decide (c = c') && eqLs la lb)]] := rfl
  rw [hF]
  generalize hR : rhoOf theI [[.int .i64 e, .int .i64 a, .list la, .int .i64 c], [.int .i64 e', .int .i64 a', .list lb, .int .i64 c']].flatten = R
  have hI : R.I = theI := by rw [← hR]; rfl
  have q0 : R.ρ 0 = .int .i64 e := by rw [← hR]; rfl
  have q1 : R.ρ 1 = .int .i64 a := by rw [← hR]; rfl
  have q2 : R.ρ 2 = .list la := by rw [← hR]; rfl
  have q3 : R.ρ 3 = .int .i64 c := by rw [← hR]; rfl
  have q4 : R.ρ 4 = .int .i64 e' := by rw [← hR]; rfl
  have q5 : R.ρ 5 = .int .i64 a' := by rw [← hR]; rfl
  have q6 : R.ρ 6 = .list lb := by rw [← hR]; rfl
  have q7 : R.ρ 7 = .int .i64 c' := by rw [← hR]; rfl
  have dEqL : den R (.at (.app 4 [.v 2, .v 6]) (k64 0) 0) = .bool (eqLs la lb) := by
    refine d_res (F := Feq) (by rw [hI]; rfl) ?_
    simp only [List.map_cons, List.map_nil, d_v q2, d_v q6]
    rfl
  unfold pSameO
  refine goal_ask (d_eql (d_v q0) (d_v q4)) (fun h1 => goal_ask (d_eql (d_v q1) (d_v q5)) (fun h2 => goal_ask (d_eql (d_v q3) (d_v q7)) (fun h3 => ?_) (fun h3 => ?_)) (fun h2 => ?_)) (fun h1 => ?_)
  · show _ = _
    rw [h1, h2, h3]
    simp only [List.map_cons, List.map_nil, dEqL, Bool.true_and]
  · show _ = _
    rw [h1, h2, h3]
    rfl
  · show _ = _
    rw [h1, h2]
    rfl
  · show _ = _
    rw [h1]
    rfl
noncomputable def eSameO : Ent := eFn 9 [.agg tO, .agg tO] [.one .bool] [] 16
theorem eSameO_ok : EntsOK Tryz.prog G theI [eSameO] := ⟨eFn_ok plainG (pre_true fnSameO) (fun _ => rfl) [] (by kernel_rfl), trivial⟩
end Go.Proofs.YtjplhjnbcjohoaaGreatDoor
namespace Go.Proofs.YtjplhjnbcjohoaaGreatDoor
open Go Go.AM
/-! ### the document's Result -/
noncomputable abbrev fc (a b : Nat) : List (SX × Bool) := [(lss (.len (.v 0)) (k64 b), false), (lss (k64 0) (.len (cR a b)), true), (lss (k64 1) (.len (cR a b)), true), (lss (k64 2) (.len (cR a b)), false)]
noncomputable abbrev aC (a b j : Nat) : SX := .at (cR a b) (k64 j) 0
noncomputable abbrev nR (a b : Nat) : SX := .conv .i64 (m8 (.bin .add (.ki .u64 (.ofNat 0)) (.conv .u64 (aC a b 0))) (aC a b 1))
noncomputable abbrev nU (a b : Nat) : SX := .conv .i64 (.conv .u16 (o8 (.bin .or (.ki .u64 (.ofNat 0)) (.conv .u64 (aC a b 0))) (aC a b 1)))
noncomputable abbrev qf (f : Nat) : SX := .app f [.v 0, k64 7, .emp, sub lim6 (k64 0)]
noncomputable abbrev noR : Pln := .done [[k64 0, k64 0, .emp, k64 0], [.kb false]]
noncomputable def pRr : Pln :=
  knows [((lenOK 0).1, false), (lss (k64 0) (.len .emp), false)] (.ask (lss (.len (.v 0)) (k64 7)) noR (.ask (lss (k64 3000) (.len (.v 0))) noR
    (.know (lss (k64 6) (.len (.v 0))) true (knows (fc 0 2) (knows (fc 2 4) (knows (fc 4 6)
      (.ask (qf 131)
        (.ask (.at (.app 11 [nR 0 2, nR 2 4, qf 132, nR 4 6]) (k64 1) 0)
          (.done [[nR 0 2, nR 2 4, qf 132, nR 4 6], [eql (qf 133) (.len (.v 0))]])
          (.done [[nR 0 2, nR 2 4, qf 132, nR 4 6], [.kb false]]))
        noR)))))))
theorem kRr : (hasB 8 && checkPlan [.agg tO, .one .bool] (runI theI (entS entQ) [(7, LQ2)] [] 8 [.one tB]) [] pRr) = true := by kernel_rfl
theorem dRefB {R : Rho} (hI : R.I = theI) {x0 x1 x2 x3 : SX} {e a c : Int} {l : List (List DV)} (h0 : den R x0 = .int .i64 e) (h1 : den R x1 = .int .i64 a) (h2 : den R x2 = .list l) (h3 : den R x3 = .int .i64 c) :
    den R (.at (.app 11 [x0, x1, x2, x3]) (k64 1) 0) = .bool (saidOK e a c l) ∧ (saidOK e a c l = true → den R (.at (.app 11 [x0, x1, x2, x3]) (k64 0) 0) = .list (bytesI (saidB e a c l))) := by
  have he : ([x0, x1, x2, x3] : List SX).map (den R) = [.int .i64 e, .int .i64 a, .list l, .int .i64 c] := by simp only [List.map_cons, List.map_nil, h0, h1, h2, h3]
  have hF : FrefB [.int .i64 e, .int .i64 a, .list l, .int .i64 c] = if headOK e a c l && rowsOK l then [[.list (bytesI (saidB e a c l))], [.bool (saidOK e a c l)]] else [[.list []], [.bool false]] := rfl
  constructor
  · refine d_res (F := FrefB) (by rw [hI]; rfl) ?_
    rw [he, hF]
    cases hh : headOK e a c l with
    | true =>
      cases hr : rowsOK l with
      | true => rfl
      | false => unfold saidOK; rw [hh, hr]; rfl
    | false => unfold saidOK; rw [hh]; rfl
  · intro hs
    have h1 := saidOK_head hs
    have h2 := (saidOK_rows hs).1
    refine d_res (F := FrefB) (by rw [hI]; rfl) ?_
    rw [he, hF, h1, h2]
    rfl
/-- Two bytes of a cut. -/
theorem cut2_I {R : Rho} {l : List Int} {a : Nat} (q0 : R.ρ 0 = .list (bytesI l)) (h : a + 2 ≤ l.length) (hB : AreB l) :
    (∀ q ∈ fc a (a + 2), den R q.1 = .bool q.2) ∧ den R (nR a (a + 2)) = .int .i64 (num2 l a) ∧ den R (nU a (a + 2)) = .int .i64 (num2 l a) := by
  have hC : den R (cR a (a + 2)) = .list (bytesI [l.getD a 0, l.getD (a + 1) 0]) := by
    rw [d_cutI (d_v q0) (d_k .i64 a) (d_k .i64 (a + 2))]
    congr 1
    rw [show (((a + 2 : Nat) : Int)).toNat = a + 1 + 1 by omega, show ((a : Int)).toNat = a by omega]
    have h1 : (l.take (a + 1 + 1)).drop a = (l.take (a + 1)).drop a ++ (l.take (a + 1 + 1)).drop (a + 1) := take_drop_cat (by omega) (by omega)
    rw [h1, one_cut (by omega), one_cut (by omega)]
    rfl
  have hm : ∀ j, j < l.length → 0 ≤ l.getD j 0 ∧ l.getD j 0 ≤ 255 := fun j hj => areB_mem hB (by
    rw [List.getD_eq_getElem?_getD, List.getElem?_eq_getElem hj]
    exact List.getElem_mem _)
  have m0 := hm a (by omega)
  have m1 := hm (a + 1) (by omega)
  have a0 : den R (aC a (a + 2) 0) = .int .u8 (l.getD a 0) := d_atI (l := [l.getD a 0, l.getD (a + 1) 0]) (z := ((0 : Nat) : Int)) hC (d_k .i64 0) (by omega) (by simp)
  have a1 : den R (aC a (a + 2) 1) = .int .u8 (l.getD (a + 1) 0) := d_atI (l := [l.getD a 0, l.getD (a + 1) 0]) (z := ((1 : Nat) : Int)) hC (d_k .i64 1) (by omega) (by simp)
  have dC := d_lenI hC
  have hnum : num2 l a = l.getD a 0 * 256 + l.getD (a + 1) 0 := rfl
  refine ⟨fun q hq => ?_, ?_, ?_⟩
  · simp only [fc, List.mem_cons, List.not_mem_nil, or_false] at hq
    rcases hq with rfl | rfl | rfl | rfl
    · rw [d_lss (d_lenI (d_v q0)) (d_k .i64 (a + 2))]; simp; omega
    · rw [d_lss (d_k .i64 0) dC]; rfl
    · rw [d_lss (d_k .i64 1) dC]; rfl
    · rw [d_lss (d_k .i64 2) dC]; rfl
  · exact d_ci (d_mul8 (d_mul0 a0 m0) a1 m0.1 (by omega) m1) ⟨by omega, by omega, by omega⟩
  · exact d_ci (d_c16 (d_or8 (d_or0 a0 m0) a1 m0.1 (by omega) m1) ⟨by omega, by omega⟩) ⟨by omega, by omega, by omega⟩
theorem FrefR_I (l : List Int) : FrefR [[DV.list (bytesI l)]].flatten = match outQ l with
    | some (e, a, c, rows, ok) => [outDV (e, a, c, rows), [.bool ok]]
    | none => [noOut, [.bool false]] := by
  have e : intsD [[DV.list (bytesI l)]].flatten 0 = l := ints_bytes l
  unfold FrefR
  rw [e]
  rcases outQ l with _ | ⟨_, _, _, _, _⟩ <;> rfl
theorem fnRr : FnOK Tryz.prog G 8 [.one tB] [.agg tO, .one .bool] (fun ds => ∀ p ∈ [lenOK 0], den (rhoOf theI ds) p.1 = .bool p.2) FrefR := by
  have hk := kRr
  rw [Bool.and_eq_true] at hk
  refine fn_run (entS_ok entQ_ok) [(7, LQ2)] _ lQ hk.1 pRr hk.2 ?_
  intro ds h hp
  obtain ⟨l, rfl, hB, hlm⟩ := one_l h
  rw [FrefR_I]
  have hp := hp (lenOK 0) (by simp)
  generalize hR : rhoOf theI [[DV.list (bytesI l)]].flatten = R at hp ⊢
  have hI : R.I = theI := by rw [← hR]; rfl
  have q0 : R.ρ 0 = .list (bytesI l) := by rw [← hR]; rfl
  have hlen := pre_len hp q0
  have dl := d_lenI (d_v q0)
  have no : outQ l = none → goalPlan R (match outQ l with
    | some (e, a, c, rows, ok) => [outDV (e, a, c, rows), [.bool ok]]
    | none => [noOut, [.bool false]]) noR := fun h => by rw [h]; rfl
  unfold pRr
  refine goal_knows (l := [_, _]) (fun q hq => ?_) ?_
  · simp only [List.mem_cons, List.not_mem_nil, or_false] at hq
    rcases hq with rfl | rfl
    · exact hp
    · rfl
  refine goal_ask (d_lss dl (d_k .i64 7)) (fun h7 => no ?_) (fun h7 => ?_)
  · simp only [decide_eq_true_eq] at h7
    have h7' : l.length < 7 := by omega
    unfold outQ
    simp [h7']
  simp only [decide_eq_false_iff_not] at h7
  have h7' : ¬ l.length < 7 := by omega
  refine goal_ask (d_lss (d_k .i64 3000) dl) (fun h3 => no ?_) (fun h3 => ?_)
  · simp only [decide_eq_true_eq] at h3
    have h3' : 3000 < l.length := by omega
    unfold outQ
    simp [h3']
  simp only [decide_eq_false_iff_not] at h3
  have h3' : ¬ 3000 < l.length := by omega
  have hout : outQ l = match qRows l (l.getD 6 0).toNat 7 [] with
      | some (rows, at2) => some (num2 l 0, num2 l 2, num2 l 4, rows, saidOK (num2 l 0) (num2 l 2) (num2 l 4) rows && decide (at2 = l.length))
      | none => none := by
    unfold outQ
    rw [if_neg (by simp [h7', h3'])]
    rcases qRows l (l.getD 6 0).toNat 7 [] with _ | ⟨_, _⟩ <;> rfl
  obtain ⟨f0, e0, _⟩ := cut2_I (a := 0) q0 (by omega) hB
  obtain ⟨f2, e2, _⟩ := cut2_I (a := 2) q0 (by omega) hB
  obtain ⟨f4, e4, _⟩ := cut2_I (a := 4) q0 (by omega) hB
  have h6 := areB_mem hB (z := l.getD 6 0) (by
    rw [List.getD_eq_getElem?_getD, List.getElem?_eq_getElem (by omega)]
    exact List.getElem_mem _)
  have d6 : den R lim6 = .int .i64 (l.getD 6 0) := d_ci (d_atI (d_v q0) (d_k .i64 6) (by omega) (by omega)) ⟨h6.1, by have := h6.2; show l.getD 6 0 ≤ _; omega, by have := h6.2; show l.getD 6 0 ≤ _; omega⟩
  have ds0 : den R (sub lim6 (k64 0)) = .int .i64 (l.getD 6 0 - ((0 : Nat) : Int)) := d_sub d6 (d_k .i64 0) (by omega) (by omega)
  have dem : den R .emp = .list ([] : List (List DV)) := rfl
  have g1 := d131 hI (d_v q0) (d_k .i64 7) dem ds0
  have g2 := d132 hI (d_v q0) (d_k .i64 7) dem ds0
  have g3 := d133 hI (d_v q0) (d_k .i64 7) dem ds0
  have hQ : qRows l (l.getD 6 0 - ((0 : Nat) : Int)).toNat ((7 : Nat) : Int).toNat [] = qRows l (l.getD 6 0).toNat 7 [] := by
    congr 1
    omega
  rw [hQ] at g1 g2 g3
  refine goal_know (by rw [d_lss (d_k .i64 6) dl]; simp; omega) (goal_knows f0 (goal_knows f2 (goal_knows f4 ?_)))
  cases hq : qRows l (l.getD 6 0).toNat 7 [] with
  | none =>
    rw [hq] at g1 hout
    exact goal_ask g1 (fun h => by cases h) (fun _ => no hout)
  | some p =>
    obtain ⟨rows, at2⟩ := p
    rw [hq] at g1 g2 g3 hout
    simp only [Option.getD_some] at g2 g3
    simp only at hout
    rw [hout]
    obtain ⟨b1, _⟩ := dRefB hI e0 e2 g2 e4
    have d3 : den R (eql (qf 133) (.len (.v 0))) = .bool (decide (at2 = l.length)) := by
      rw [d_eql g3 dl]
      congr 1
      rw [decide_eq_decide]
      omega
    refine goal_ask g1 (fun _ => goal_ask b1 (fun h => ?_) (fun h => ?_)) (fun h => by cases h)
    · show _ = _
      rw [h]
      simp only [List.map_cons, List.map_nil, e0, e2, e4, g2, d3, outDV, Bool.true_and]
    · show _ = _
      rw [h]
      simp only [List.map_cons, List.map_nil, e0, e2, e4, g2, outDV, Bool.false_and]
      rfl
noncomputable def eRr : Ent := eFn 8 [.one tB] [.agg tO, .one .bool] [lenOK 0] 15
theorem eRr_ok : EntsOK Tryz.prog G theI [eRr] := ⟨eFn_ok plainG fnRr (fun _ => rfl) [] (by kernel_rfl), trivial⟩
end Go.Proofs.YtjplhjnbcjohoaaGreatDoor
namespace Go.Proofs.YtjplhjnbcjohoaaGreatDoor
open Go Go.AM
/-! ### ledger.DecodeResult -/
noncomputable abbrev entD : List Ent := [eDv, eSaid, eClone, eEqB]
theorem entD_ok : EntsOK Tryz.prog G theI entD := ⟨eDv_ok.1, eSaid_ok.1, eClone_ok.1, eEqB_ok.1, trivial⟩
noncomputable abbrev bad : Pln := .done [[k64 0, k64 0, .emp, k64 0], [k64 271]]
noncomputable abbrev zf (a f : Nat) : SX := .app f [.v 0, k64 a, k64 7, .emp, sub (k64 0) (k64 0)]
noncomputable abbrev sd (E A r C : SX) (j : Nat) : SX := .at (.app 9 [E, A, r, C]) (k64 j) 0
noncomputable abbrev pSh (a : Nat) (E A C : SX) : Pln :=
  .know (zf a 127) true (.ask (sd E A (zf a 128) C 1) (.know (eql (zf a 130) (k64 0)) false bad) bad)
noncomputable abbrev limP : SX := .conv .i64 (rB 6 7)
noncomputable abbrev wf (f : Nat) : SX := .app f [.v 0, k64 7, k64 0, .emp, sub limP (k64 0)]
noncomputable abbrev sdW (j : Nat) : SX := sd (nU 0 2) (nU 2 4) (wf 128) (nU 4 6) j
noncomputable def pDc : Pln :=
  knows [((lenOK 0).1, false), (lss (k64 0) (.len .emp), false), (lss (.len (.v 0)) (k64 0), false), (.app 136 [k64 7], true), (.app 136 [k64 0], true)]
    (.ask (lss (sub (.len (.v 0)) (k64 0)) (k64 2)) (pSh 0 (k64 0) (k64 0) (k64 0))
      (knows (fc 0 2) (.ask (lss (sub (.len (.v 0)) (k64 2)) (k64 2)) (pSh 2 (nU 0 2) (k64 0) (k64 0))
        (knows (fc 2 4) (.ask (lss (sub (.len (.v 0)) (k64 4)) (k64 2)) (pSh 4 (nU 0 2) (nU 2 4) (k64 0))
          (knows (fc 4 6) (.ask (lss (sub (.len (.v 0)) (k64 6)) (k64 1)) (pSh 6 (nU 0 2) (nU 2 4) (nU 4 6))
            (knows (fC 6 7) (knows [(lss limP (k64 0), false), (lss (k64 255) limP, false)]
              (.ask (wf 127)
                (.ask (sdW 1)
                  (.ask (eql (wf 130) (k64 0))
                    (.ask (.at (.app 4 [.v 0, sdW 0]) (k64 0) 0)
                      (.done [[nU 0 2, nU 2 4, wf 128, nU 4 6], [k64 0]])
                      bad)
                    bad)
                  bad)
                bad))))))))))
theorem kDc : (hasB 7 && checkPlan [.agg tO, .one tI] (runS theI (entS entD) subP [] [] 7 [.one tB]) [] pDc) = true := by kernel_rfl
theorem bytesI_inj {a b : List Int} : bytesI a = bytesI b ↔ a = b := by
  constructor
  · intro h
    have := congrArg (List.map intOfRow) h
    rwa [ints_bytes, ints_bytes] at this
  · rintro rfl
    rfl
theorem eqLs_bytes (a b : List Int) : eqLs (bytesI a) (bytesI b) = decide (a = b) := by
  unfold eqLs
  rw [decide_eq_decide]
  exact bytesI_inj
theorem dEqL {R : Rho} (hI : R.I = theI) {x y : SX} {a b : List Int} (hx : den R x = .list (bytesI a)) (hy : den R y = .list (bytesI b)) : den R (.at (.app 4 [x, y]) (k64 0) 0) = .bool (decide (a = b)) := by
  refine d_res (F := Feq) (by rw [hI]; rfl) ?_
  simp only [List.map_cons, List.map_nil, hx, hy]
  show DV.bool (eqLs (bytesI a) (bytesI b)) = _
  rw [eqLs_bytes]
def resP (o : Option (Int × Int × Int × List (List DV))) : List (List DV) := match o with
  | some o => [outDV o, [.int .i64 0]]
  | none => [noOut, [.int .i64 271]]
theorem FdecR_I (l : List Int) : FdecR [[DV.list (bytesI l)]].flatten = resP (outP l) := by
  have e : intsD [[DV.list (bytesI l)]].flatten 0 = l := ints_bytes l
  unfold FdecR
  rw [e]
  rcases outP l with _ | ⟨_, _, _, _⟩ <;> rfl
theorem fnDc : FnOK Tryz.prog G 7 [.one tB] [.agg tO, .one tI] (fun ds => ∀ p ∈ [lenOK 0], den (rhoOf theI ds) p.1 = .bool p.2) FdecR := by
  have hk := kDc
  rw [Bool.and_eq_true] at hk
  refine fn_runS (entS_ok entD_ok) subP_ok [] _ noLoops hk.1 pDc hk.2 ?_
  intro ds h hp
  obtain ⟨l, rfl, hB, hlm⟩ := one_l h
  rw [FdecR_I]
  have hp := hp (lenOK 0) (by simp)
  generalize hR : rhoOf theI [[DV.list (bytesI l)]].flatten = R at hp ⊢
  have hI : R.I = theI := by rw [← hR]; rfl
  have q0 : R.ρ 0 = .list (bytesI l) := by rw [← hR]; rfl
  have hlen := pre_len hp q0
  have dl := d_lenI (d_v q0)
  have dem : den R .emp = .list ([] : List (List DV)) := rfl
  have no : outP l = none → goalPlan R (resP (outP l)) bad := fun h => by rw [h]; rfl
  have short : l.length < 7 → outP l = none := fun h => by
    unfold outP
    rw [if_pos h]
  have dz0 : den R (sub (k64 0) (k64 0)) = .int .i64 (((0 : Nat) : Int) - ((0 : Nat) : Int)) := d_sub (d_k .i64 0) (d_k .i64 0) (by omega) (by omega)
  have leaf : ∀ (a : Nat) (E A C : SX) (e b c : Int), l.length < 7 → den R E = .int .i64 e → den R A = .int .i64 b → den R C = .int .i64 c → goalPlan R (resP (outP l)) (pSh a E A C) := by
    intro a E A C e b c h7 hE hA hC
    have hP : pRows l (((0 : Nat) : Int) - ((0 : Nat) : Int)).toNat ((a : Nat) : Int).toNat (decide (((7 : Nat) : Int) ≠ 0)) [] = some ([], a, true) := rfl
    have g1 := d127 hI (d_v q0) (d_k .i64 a) (d_k .i64 7) dem dz0
    have g2 := d128 hI (d_v q0) (d_k .i64 a) (d_k .i64 7) dem dz0
    have g4 := d130 hI (d_v q0) (d_k .i64 a) (d_k .i64 7) dem dz0
    rw [hP] at g1 g2 g4
    obtain ⟨s1, _⟩ := dSaid hI hE hA g2 hC
    have bd := no (short h7)
    exact goal_know g1 (goal_ask s1 (fun _ => goal_know (by rw [d_eql g4 (d_k .i64 0)]; rfl) bd) (fun _ => bd))
  have dL : ∀ n : Nat, n ≤ 1000000 → den R (sub (.len (.v 0)) (k64 n)) = .int .i64 (l.length - n) := fun n hn => d_sub dl (d_k .i64 n) (by omega) (by omega)
  unfold pDc
  refine goal_knows (l := [_, _, _, _, _]) (fun q hq => ?_) ?_
  · simp only [List.mem_cons, List.not_mem_nil, or_false] at hq
    rcases hq with rfl | rfl | rfl | rfl | rfl
    · exact hp
    · rfl
    · rw [d_lss dl (d_k .i64 0)]; simp
    · rw [d136 hI (d_k .i64 7)]; rfl
    · rw [d136 hI (d_k .i64 0)]; rfl
  refine goal_ask (d_lss (dL 0 (by omega)) (d_k .i64 2)) (fun h => ?_) (fun h => ?_)
  · simp only [decide_eq_true_eq] at h
    exact leaf 0 _ _ _ 0 0 0 (by omega) (d_k .i64 0) (d_k .i64 0) (d_k .i64 0)
  simp only [decide_eq_false_iff_not] at h
  obtain ⟨f0, _, e0⟩ := cut2_I (a := 0) q0 (by omega) hB
  refine goal_knows f0 (goal_ask (d_lss (dL 2 (by omega)) (d_k .i64 2)) (fun h => ?_) (fun h => ?_))
  · simp only [decide_eq_true_eq] at h
    exact leaf 2 _ _ _ _ 0 0 (by omega) e0 (d_k .i64 0) (d_k .i64 0)
  simp only [decide_eq_false_iff_not] at h
  obtain ⟨f2, _, e2⟩ := cut2_I (a := 2) q0 (by omega) hB
  refine goal_knows f2 (goal_ask (d_lss (dL 4 (by omega)) (d_k .i64 2)) (fun h => ?_) (fun h => ?_))
  · simp only [decide_eq_true_eq] at h
    exact leaf 4 _ _ _ _ _ 0 (by omega) e0 e2 (d_k .i64 0)
  simp only [decide_eq_false_iff_not] at h
  obtain ⟨f4, _, e4⟩ := cut2_I (a := 4) q0 (by omega) hB
  refine goal_knows f4 (goal_ask (d_lss (dL 6 (by omega)) (d_k .i64 1)) (fun h => ?_) (fun h => ?_))
  · simp only [decide_eq_true_eq] at h
    exact leaf 6 _ _ _ _ _ _ (by omega) e0 e2 e4
  simp only [decide_eq_false_iff_not] at h
  have h7 : ¬ l.length < 7 := by omega
  obtain ⟨r6, f6⟩ := rB_I (a := 6) q0 (by omega) hB
  have h6 := areB_mem hB (z := l.getD 6 0) (by
    rw [List.getD_eq_getElem?_getD, List.getElem?_eq_getElem (by omega)]
    exact List.getElem_mem _)
  have d6 : den R limP = .int .i64 (l.getD 6 0) := d_ci r6 ⟨h6.1, by have := h6.2; show l.getD 6 0 ≤ _; omega, by have := h6.2; show l.getD 6 0 ≤ _; omega⟩
  have ds0 : den R (sub limP (k64 0)) = .int .i64 (l.getD 6 0 - ((0 : Nat) : Int)) := d_sub d6 (d_k .i64 0) (by omega) (by omega)
  have g1 := d127 hI (d_v q0) (d_k .i64 7) (d_k .i64 0) dem ds0
  have g2 := d128 hI (d_v q0) (d_k .i64 7) (d_k .i64 0) dem ds0
  have g4 := d130 hI (d_v q0) (d_k .i64 7) (d_k .i64 0) dem ds0
  have hQ : pRows l (l.getD 6 0 - ((0 : Nat) : Int)).toNat ((7 : Nat) : Int).toNat (decide (((0 : Nat) : Int) ≠ 0)) [] = pRows l (l.getD 6 0).toNat 7 false [] := by
    rw [show l.getD 6 0 - ((0 : Nat) : Int) = l.getD 6 0 by omega]
    rfl
  rw [hQ] at g1 g2 g4
  have hout : outP l = match pRows l (l.getD 6 0).toNat 7 false [] with
      | some (rows, _, false) => if saidOK (num2 l 0) (num2 l 2) (num2 l 4) rows && decide (l = saidB (num2 l 0) (num2 l 2) (num2 l 4) rows) then some (num2 l 0, num2 l 2, num2 l 4, rows) else none
      | _ => none := by
    unfold outP
    rw [if_neg h7]
    rcases pRows l (l.getD 6 0).toNat 7 false [] with _ | ⟨_, _, _ | _⟩ <;> rfl
  refine goal_knows f6 (goal_knows (l := [_, _]) (fun q hq => ?_) ?_)
  · simp only [List.mem_cons, List.not_mem_nil, or_false] at hq
    rcases hq with rfl | rfl
    · rw [d_lss d6 (d_k .i64 0)]; simp only [DV.bool.injEq, decide_eq_false_iff_not]; omega
    · rw [d_lss (d_k .i64 255) d6]; simp only [DV.bool.injEq, decide_eq_false_iff_not]; omega
  cases hq : pRows l (l.getD 6 0).toNat 7 false [] with
  | none =>
    rw [hq] at g1 hout
    exact goal_ask g1 (fun h => by cases h) (fun _ => no hout)
  | some p =>
    obtain ⟨rows, at2, sh⟩ := p
    rw [hq] at g1 g2 g4 hout
    simp only [Option.getD_some] at g2 g4
    obtain ⟨s1, s2⟩ := dSaid hI e0 e2 g2 e4
    refine goal_ask g1 (fun _ => goal_ask s1 (fun hs => ?_) (fun hs => ?_)) (fun h => by cases h)
    · have d0 := s2 (saidOK_head hs)
      cases sh with
      | true => exact goal_ask (b := false) (by rw [d_eql g4 (d_k .i64 0)]; rfl) (fun h => by cases h) (fun _ => no hout)
      | false =>
        simp only at hout
        rw [hs, Bool.true_and] at hout
        refine goal_ask (b := true) (by rw [d_eql g4 (d_k .i64 0)]; rfl) (fun _ => ?_) (fun h => by cases h)
        refine goal_ask (dEqL hI (d_v q0) d0) (fun he => ?_) (fun he => ?_)
        · rw [he, if_pos rfl] at hout
          show _ = _
          rw [hout]
          simp only [List.map_cons, List.map_nil, e0, e2, e4, g2, resP, outDV]
          rfl
        · rw [he, if_neg (by simp)] at hout
          exact no hout
    · cases sh with
      | true => exact no hout
      | false =>
        simp only at hout
        rw [hs, Bool.false_and, if_neg (by simp)] at hout
        exact no hout
noncomputable def eDc : Ent := eFn 7 [.one tB] [.agg tO, .one tI] [lenOK 0] 14
theorem eDc_ok : EntsOK Tryz.prog G theI [eDc] := ⟨eFn_ok plainG fnDc (fun _ => rfl) [] (by kernel_rfl), trivial⟩
end Go.Proofs.YtjplhjnbcjohoaaGreatDoor
