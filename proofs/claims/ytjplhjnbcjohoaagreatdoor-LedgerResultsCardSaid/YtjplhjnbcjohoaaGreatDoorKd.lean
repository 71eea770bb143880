/-
  A part of the proof of LedgerResults (the machine on named data, and the contracts of the functions that the law reaches): Rg1 Rg2 Rh1 Rh2.
-/
import Derived.Test.YtjplhjnbcjohoaaGreatDoorKc
import Derived.Test.YtjplhjnbcjohoaaGreatDoorKb
set_option linter.all false
set_option linter.unusedVariables false
set_option linter.unusedSimpArgs false
set_option linter.unusedSectionVars false
namespace Go.Proofs.YtjplhjnbcjohoaaGreatDoor
open Go Go.AM
/-! ### the document's reading of an outcome: its loops -/
theorem eRefB_ok : EntsOK Tryz.prog G theI [eRefB] := ⟨eFn_ok plainG (pre_true fnRefB) (fun _ => rfl) [] (by kernel_rfl), trivial⟩
noncomputable abbrev entQ : List Ent := [eDr, eRefB]
theorem entQ_ok : EntsOK Tryz.prog G theI entQ := ⟨eDr_ok.1, eRefB_ok.1, trivial⟩
noncomputable def bQd : Blk := { t := 25, row := false, sz := 1, n := 4, z := [.dead], c := .nil }
noncomputable def bQz : Blk := { t := 25, row := false, sz := 1, n := 4, z := [.dead], c := ((((Tr.nil : Tr AV).put 0 (.sc (.int .i64 0))).put 1 (.sc (.int .i64 0))).put 2 (.sc (.slice none 0 0))).put 3 (.sc (.int .i64 0)) }
/-- The outcome's block: its error, place, rows (a slice of the run's own), number. -/
noncomputable def bQo (e a r c : Nat) : Blk := { t := 25, row := false, sz := 1, n := 4, z := [.dead], c := ((((Tr.nil : Tr AV).put 0 (.sy tI (.v e))).put 1 (.sy tI (.v a))).put 2 (.own 8 [tRow] (.v r))).put 3 (.sy tI (.v c)) }
noncomputable def bQs (e a r c : Nat) : Blk := { t := 25, row := false, sz := 1, n := 4, z := [.dead], c := ((((Tr.nil : Tr AV).put 0 (.sy tI (.v e))).put 1 (.sy tI (.v a))).put 2 (.sy tRows (.v r))).put 3 (.sy tI (.v c)) }
noncomputable abbrev oRow (t : Nat) : OSrc := .tm t 64 tV
noncomputable abbrev oRows (id : Nat) : OSrc := .cell id 2 62 [tRow]
noncomputable def TQ1 : Tmpl := { tm := [(0, .sy tB (.v 0)), (2, .ptr 0 0), (4, .ptr 15 0), (5, .sy tI (.v 1)), (6, .sy tI (.v 9)), (7, .sy tI (.v 4)), (8, .own 9 tV (.v 2)), (9, .sy tI (.v 3))], ob := [(0, bQd), (15, bQo 5 6 7 8)], ow := [⟨9, 64, tV, .v 2⟩, ⟨8, 62, [tRow], .v 7⟩], src := [.tm 0 tB, .tm 5 tI, .own 0, .tm 9 tI, .tm 7 tI, .cell 15 0 tI, .cell 15 1 tI, .own 1, .cell 15 3 tI, .tm 6 tI], osrc := [oRow 8, oRows 15] }
noncomputable def YQ1 : Tmpl := { tm := [(0, .sy tB (.v 0)), (2, .ptr 0 0), (4, .ptr 15 0), (5, .sy tI (.v 1)), (6, .sy tI (.v 7)), (8, .sy tRow (.v 2))], ob := [(0, bQd), (15, bQo 3 4 5 6)], ow := [⟨8, 62, [tRow], .v 5⟩], src := [.tm 0 tB, .tm 5 tI, .tm 8 tRow, .cell 15 0 tI, .cell 15 1 tI, .own 0, .cell 15 3 tI, .tm 6 tI], osrc := [oRows 15], isrc := [oRow 8] }
noncomputable def NQ : Tmpl := { tm := [(2, .ptr 0 0), (3, .sc (.bool false))], ob := [(0, bQz), (15, bO0)] }
noncomputable def TQ2 : Tmpl := { tm := [(0, .sy tB (.v 0)), (2, .ptr 0 0), (4, .ptr 15 0), (5, .sy tI (.v 1)), (6, .sy tI (.v 2))], ob := [(0, bQd), (15, bQo 3 4 5 6)], ow := [⟨8, 62, [tRow], .v 5⟩], src := [.tm 0 tB, .tm 5 tI, .tm 6 tI, .cell 15 0 tI, .cell 15 1 tI, .own 0, .cell 15 3 tI], osrc := [oRows 15] }
noncomputable def YQ2 : Tmpl := { tm := [(0, .sy tB (.v 0)), (2, .ptr 0 0), (4, .ptr 15 0), (5, .sy tI (.v 1))], ob := [(0, bQd), (15, bQs 2 3 4 5)], src := [.tm 0 tB, .tm 5 tI, .cell 15 0 tI, .cell 15 1 tI, .cell 15 2 tRows, .cell 15 3 tI], isrc := [oRows 15] }
noncomputable abbrev pv (f : Nat) : SX := .app f [.v 0, .v 1, .v 2, sub (.v 4) (.v 3)]
noncomputable abbrev preQ1 : List (SX × Bool) := [(lss (k64 1000000) (.len (.v 0)), false), (lss (.v 1) (k64 0), false), (lss (.len (.v 0)) (.v 1), false), (lss (k64 0) (.len (.v 2)), false), (eql (.v 3) (k64 0), true), (lss (.v 4) (k64 0), false), (lss (k64 255) (.v 4), false)]
noncomputable def LQ1 : LoopSp := { n := 99, T := TQ1, pre := preQ1, cnd := pv 124, yes := (.exit 2, YQ1, [.v 0, pv 126, pv 125, .v 5, .v 6, .v 7, .v 8, .v 9]), no := (.ret, NQ, []) }
noncomputable abbrev lim6 : SX := .conv .i64 (aB (k64 6))
noncomputable abbrev pq (f : Nat) : SX := .app f [.v 0, .v 1, .v 5, sub lim6 (.v 2)]
noncomputable abbrev preQ2 : List (SX × Bool) := [(lss (k64 1000000) (.len (.v 0)), false), (lss (.v 1) (k64 0), false), (lss (.len (.v 0)) (.v 1), false), (eql (.v 2) (k64 0), true), (lss (.len (.v 0)) (k64 7), false), (lss (k64 0) (.len (.v 5)), false)]
noncomputable def LQ2 : LoopSp := { n := 99, T := TQ2, pre := preQ2, cnd := pq 131, yes := (.exit 0, YQ2, [.v 0, pq 133, .v 3, .v 4, pq 132, .v 6]), no := (.ret, NQ, []) }
noncomputable abbrev codeQ2 : Code := loopAt 8 0
noncomputable def codeQ1 : Code := (loopsIn codeQ2).getD 0 .skip
noncomputable abbrev dcx : List SX := [.cut (.v 0) (.v 1) (.len (.v 0))]
noncomputable abbrev dE : SX := .at (.app 12 dcx) (k64 2) 0
noncomputable abbrev dS : SX := .at (.app 12 dcx) (k64 1) 0
noncomputable abbrev dVs : List SX := [.at (.app 12 dcx) (k64 0) 0, .at (.app 12 dcx) (k64 0) 1, .at (.app 12 dcx) (k64 0) 2]
noncomputable abbrev nxQ1 : List SX := [.v 0, add (.v 1) dS, .cat (.v 2) (.row dVs), add (.v 3) (k64 1), .v 4, .v 5, .v 6, .v 7, .v 8, .v 9]
noncomputable def rQ1 : RPln :=
  .ask (lss (.v 3) (.v 4))
    (knowR [(lss (.v 1) (k64 0), false), (lss (.len (.v 0)) (.v 1), false), (lss (k64 1000000) (.len (.cut (.v 0) (.v 1) (.len (.v 0)))), false)]
      (.ask (eql dE (k64 0))
        (.know (lss (k64 1000000) (.len (.v 2))) false (.next nxQ1))
        (.exit false [])))
    (.exit true [.v 0, .v 1, .v 2, .v 5, .v 6, .v 7, .v 8, .v 9])
theorem okQ1 : (LQ1.yes.2.1.ok LQ1.T LQ1.n && LQ1.no.2.1.ok LQ1.T LQ1.n && checkRound LQ1 (roundI theI (entS entQ) [] codeQ1) [] rQ1) = true := by kernel_rfl
noncomputable abbrev nQ : SX := .conv .i64 (aB (.v 1))
noncomputable abbrev pr (f : Nat) : SX := .app f [.v 0, nx1, .emp, sub nQ (k64 0)]
noncomputable abbrev nxQ2 : List SX := [.v 0, pr 126, add (.v 2) (k64 1), .v 3, .v 4, .cat (.v 5) (.row [pr 125]), .v 6]
noncomputable def rQ2 : RPln :=
  .know (lss (k64 6) (.len (.v 0))) true (.ask (lss (.v 2) lim6)
    (.ask (lss (.v 1) (.len (.v 0)))
      (knowR [(lss (.v 1) (k64 0), false), (lss (k64 1000000) (.len (.v 0)), false), (lss nx1 (k64 0), false), (lss (.len (.v 0)) nx1, false), (lss nQ (k64 0), false), (lss (k64 255) nQ, false), (lss (k64 0) (.len .emp), false)]
        (.ask (pr 124)
          (.know (lss (k64 1000000) (.len (.v 5))) false (.next nxQ2))
          (.exit false [])))
      (.exit false []))
    (.exit true [.v 0, .v 1, .v 3, .v 4, .v 5, .v 6]))
theorem okQ2 : (LQ2.yes.2.1.ok LQ2.T LQ2.n && LQ2.no.2.1.ok LQ2.T LQ2.n && checkRound LQ2 (roundI theI (entS entQ) [(15, LQ1)] codeQ2) [] rQ2) = true := by kernel_rfl
end Go.Proofs.YtjplhjnbcjohoaaGreatDoor
namespace Go.Proofs.YtjplhjnbcjohoaaGreatDoor
open Go Go.AM
/-! ### rows, plainly, under their names -/
section
variable {R : Rho} {x y z u : SX} {l : List Int} {i n : Int} {r : List (List DV)}
theorem vals_I (hx : den R x = .list (bytesI l)) (hy : den R y = .int .i64 i) (hz : den R z = .list r) (hu : den R u = .int .i64 n) : valsD (([x, y, z, u] : List SX).map (den R)) = pVals l n.toNat i.toNat r := by
  simp only [List.map_cons, List.map_nil, hx, hy, hz, hu]
  simp only [valsD, intsD, lD, iD, List.getD_cons_zero, List.getD_cons_succ, ints_bytes]
theorem d124 (hI : R.I = theI) (hx : den R x = .list (bytesI l)) (hy : den R y = .int .i64 i) (hz : den R z = .list r) (hu : den R u = .int .i64 n) : den R (.app 124 [x, y, z, u]) = .bool (pVals l n.toNat i.toNat r).isSome := by
  rw [d_app, hI]
  show DV.bool (valsD _).isSome = _
  rw [vals_I hx hy hz hu]
theorem d125 (hI : R.I = theI) (hx : den R x = .list (bytesI l)) (hy : den R y = .int .i64 i) (hz : den R z = .list r) (hu : den R u = .int .i64 n) : den R (.app 125 [x, y, z, u]) = .list ((pVals l n.toNat i.toNat r).getD ([], 0)).1 := by
  rw [d_app, hI]
  show DV.list ((valsD _).getD ([], 0)).1 = _
  rw [vals_I hx hy hz hu]
theorem d126 (hI : R.I = theI) (hx : den R x = .list (bytesI l)) (hy : den R y = .int .i64 i) (hz : den R z = .list r) (hu : den R u = .int .i64 n) : den R (.app 126 [x, y, z, u]) = .int .i64 ((pVals l n.toNat i.toNat r).getD ([], 0)).2 := by
  rw [d_app, hI]
  show DV.int .i64 ((valsD _).getD ([], 0)).2 = _
  rw [vals_I hx hy hz hu]
theorem qrows_I (hx : den R x = .list (bytesI l)) (hy : den R y = .int .i64 i) (hz : den R z = .list r) (hu : den R u = .int .i64 n) : qrowsD (([x, y, z, u] : List SX).map (den R)) = qRows l n.toNat i.toNat r := by
  simp only [List.map_cons, List.map_nil, hx, hy, hz, hu]
  simp only [qrowsD, intsD, lD, iD, List.getD_cons_zero, List.getD_cons_succ, ints_bytes]
theorem d131 (hI : R.I = theI) (hx : den R x = .list (bytesI l)) (hy : den R y = .int .i64 i) (hz : den R z = .list r) (hu : den R u = .int .i64 n) : den R (.app 131 [x, y, z, u]) = .bool (qRows l n.toNat i.toNat r).isSome := by
  rw [d_app, hI]
  show DV.bool (qrowsD _).isSome = _
  rw [qrows_I hx hy hz hu]
theorem d132 (hI : R.I = theI) (hx : den R x = .list (bytesI l)) (hy : den R y = .int .i64 i) (hz : den R z = .list r) (hu : den R u = .int .i64 n) : den R (.app 132 [x, y, z, u]) = .list ((qRows l n.toNat i.toNat r).getD ([], 0)).1 := by
  rw [d_app, hI]
  show DV.list ((qrowsD _).getD ([], 0)).1 = _
  rw [qrows_I hx hy hz hu]
theorem d133 (hI : R.I = theI) (hx : den R x = .list (bytesI l)) (hy : den R y = .int .i64 i) (hz : den R z = .list r) (hu : den R u = .int .i64 n) : den R (.app 133 [x, y, z, u]) = .int .i64 ((qRows l n.toNat i.toNat r).getD ([], 0)).2 := by
  rw [d_app, hI]
  show DV.int .i64 ((qrowsD _).getD ([], 0)).2 = _
  rw [qrows_I hx hy hz hu]
end
theorem decV_shape (l : List Int) : ∃ k n s, (decV l).2.1 = [.int .i64 k, .int .i64 n, .str s] := by
  unfold decV
  split
  · exact ⟨_, _, _, rfl⟩
  split
  · exact ⟨_, _, _, rfl⟩
  split
  · split
    · exact ⟨_, _, _, rfl⟩
    · split <;> exact ⟨_, _, _, rfl⟩
  split
  · split <;> exact ⟨_, _, _, rfl⟩
  split
  · split
    split <;> exact ⟨_, _, _, rfl⟩
  · exact ⟨_, _, _, rfl⟩
/-- What the contract of a reading says, by its names. -/
theorem dDec {R : Rho} (hI : R.I = theI) {x : SX} {l : List Int} (hx : den R x = .list (bytesI l)) : den R (.at (.app 12 [x]) (k64 2) 0) = .int .i64 (decV l).1 ∧ den R (.at (.app 12 [x]) (k64 1) 0) = .int .i64 (decV l).2.2 ∧
    den R (.row [.at (.app 12 [x]) (k64 0) 0, .at (.app 12 [x]) (k64 0) 1, .at (.app 12 [x]) (k64 0) 2]) = .list [(decV l).2.1] := by
  have hF : FdecV (([x] : List SX).map (den R)) = decRes (decV l) := by
    have e : intsD (([x] : List SX).map (den R)) 0 = l := by
      simp only [List.map_cons, List.map_nil, hx]
      exact ints_bytes l
    unfold FdecV
    rw [e]
    rfl
  have g : ∀ j k : Nat, den R (.at (.app 12 [x]) (k64 j) k) = ((decRes (decV l)).getD j []).getD k (.bool false) := fun j k => d_res (F := FdecV) (by rw [hI]; rfl) (by rw [hF])
  refine ⟨g 2 0, g 1 0, ?_⟩
  obtain ⟨a, b, c, h⟩ := decV_shape l
  have e : den R (.row [.at (.app 12 [x]) (k64 0) 0, .at (.app 12 [x]) (k64 0) 1, .at (.app 12 [x]) (k64 0) 2]) = .list [[den R (.at (.app 12 [x]) (k64 0) 0), den R (.at (.app 12 [x]) (k64 0) 1), den R (.at (.app 12 [x]) (k64 0) 2)]] := rfl
  rw [e, g 0 0, g 0 1, g 0 2]
  show DV.list [[(decV l).2.1.getD 0 _, (decV l).2.1.getD 1 _, (decV l).2.1.getD 2 _]] = _
  rw [h]
  rfl
theorem cat_L (R : Rho) {x y : SX} {a b : List (List DV)} (hx : den R x = .list a) (hy : den R y = .list b) : den R (.cat x y) = .list (a ++ b) := by
  simp only [den, hx, hy, catD]
theorem pVals_one {l : List Int} {n k i : Int} {r : List (List DV)} (hk : k < n) : pVals l (n - k).toNat i.toNat r = if (decV (l.drop i.toNat)).1 = 0 then pVals l (n - (k + 1)).toNat (i.toNat + (decV (l.drop i.toNat)).2.2) (r ++ [(decV (l.drop i.toNat)).2.1]) else none := by
  rw [show (n - k).toNat = (n - (k + 1)).toNat + 1 by omega]
  rfl
def invQ1 (R : Rho) : Prop := ∃ l i r k n e a rows c ii, R.ρ 0 = .list (bytesI l) ∧ R.ρ 1 = .int .i64 i ∧ R.ρ 2 = .list r ∧ R.ρ 3 = .int .i64 k ∧ R.ρ 4 = .int .i64 n ∧ R.ρ 5 = .int .i64 e ∧ R.ρ 6 = .int .i64 a ∧ R.ρ 7 = .list rows ∧ R.ρ 8 = .int .i64 c ∧ R.ρ 9 = .int .i64 ii ∧
  AreB l ∧ l.length ≤ 1000000 ∧ 0 ≤ i ∧ i ≤ l.length ∧ (r.length : Int) ≤ k ∧ 0 ≤ k ∧ k ≤ n ∧ n ≤ 255
noncomputable def muQ1 (R : Rho) : Nat := match R.ρ 3, R.ρ 4 with
  | .int _ k, .int _ n => (n - k).toNat
  | _, _ => 0
theorem loopQ1 : LoopOK Tryz.prog G theI codeQ1 LQ1 := by
  refine loop_run (lps := []) (entS_ok entQ_ok) noLoops rQ1 okQ1 invQ1 muQ1 ?_ ?_
  · intro m a w hr hp
    obtain ⟨l, e0, hl, _⟩ := (head_sy hr (t := 0) (i := 0) (ty := tB) (by kernel_rfl)).ints
    obtain ⟨i, e1, _⟩ := (head_sy hr (t := 5) (i := 1) (ty := tI) (by kernel_rfl)).i64
    obtain ⟨r, e2, _, _⟩ := (head_own hr (t := 8) (id := 9) (i := 2) (el := 64) (ts := tV) (by kernel_rfl) (by kernel_rfl)).vals
    obtain ⟨k, e3, _⟩ := (head_sy hr (t := 9) (i := 3) (ty := tI) (by kernel_rfl)).i64
    obtain ⟨n, e4, _⟩ := (head_sy hr (t := 7) (i := 4) (ty := tI) (by kernel_rfl)).i64
    obtain ⟨e, e5, _⟩ := (head_cell hr (id := 15) (k := 0) (i := 5) (ty := tI) (b := bQo 5 6 7 8) (by kernel_rfl) (by decide) (by kernel_rfl)).i64
    obtain ⟨aa, e6, _⟩ := (head_cell hr (id := 15) (k := 1) (i := 6) (ty := tI) (b := bQo 5 6 7 8) (by kernel_rfl) (by decide) (by kernel_rfl)).i64
    obtain ⟨rows, e7, _⟩ := (head_ownC hr (id := 15) (k := 2) (j := 8) (i := 7) (el := 62) (ts := [tRow]) (b := bQo 5 6 7 8) (by kernel_rfl) (by decide) (by kernel_rfl) (by kernel_rfl)).rows
    obtain ⟨c, e8, _⟩ := (head_cell hr (id := 15) (k := 3) (i := 8) (ty := tI) (b := bQo 5 6 7 8) (by kernel_rfl) (by decide) (by kernel_rfl)).i64
    obtain ⟨ii, e9, _⟩ := (head_sy hr (t := 6) (i := 9) (ty := tI) (by kernel_rfl)).i64
    have p1 := hp (lss (k64 1000000) (.len (.v 0)), false) (by simp [LQ1, preQ1])
    have p2 := hp (lss (.v 1) (k64 0), false) (by simp [LQ1, preQ1])
    have p3 := hp (lss (.len (.v 0)) (.v 1), false) (by simp [LQ1, preQ1])
    have p4 := hp (lss (k64 0) (.len (.v 2)), false) (by simp [LQ1, preQ1])
    have p5 := hp (eql (.v 3) (k64 0), true) (by simp [LQ1, preQ1])
    have p6 := hp (lss (.v 4) (k64 0), false) (by simp [LQ1, preQ1])
    have p7 := hp (lss (k64 255) (.v 4), false) (by simp [LQ1, preQ1])
    rw [d_lss (d_k .i64 1000000) (d_lenI (d_v e0))] at p1
    rw [d_lss (d_v e1) (d_k .i64 0)] at p2
    rw [d_lss (d_lenI (d_v e0)) (d_v e1)] at p3
    rw [d_lss (d_k .i64 0) (d_lenL (d_v e2))] at p4
    rw [d_eql (d_v e3) (d_k .i64 0)] at p5
    rw [d_lss (d_v e4) (d_k .i64 0)] at p6
    rw [d_lss (d_k .i64 255) (d_v e4)] at p7
    simp only [DV.bool.injEq, decide_eq_false_iff_not, decide_eq_true_eq] at p1 p2 p3 p4 p5 p6 p7
    exact ⟨l, i, r, k, n, e, aa, rows, c, ii, e0, e1, e2, e3, e4, e5, e6, e7, e8, e9, hl, by omega, by omega, by omega, by omega, by omega, by omega, by omega⟩
  · rintro R hI ⟨l, i, r, k, n, e, a, rows, c, ii, e0, e1, e2, e3, e4, e5, e6, e7, e8, e9, hB, hlen, h0, h1, hr, k0, k1, n1⟩
    have hsub : den R (sub (.v 4) (.v 3)) = .int .i64 (n - k) := d_sub (d_v e4) (d_v e3) (by omega) (by omega)
    have hcn : den R LQ1.cnd = _ := d124 hI (d_v e0) (d_v e1) (d_v e2) hsub
    unfold rQ1
    refine round_ask (d_lss (d_v e3) (d_v e4)) (fun hlt => ?_) (fun hge => ?_)
    · simp only [decide_eq_true_eq] at hlt
      have hst := pVals_one (l := l) (i := i) (r := r) hlt
      have dl := d_lenI (d_v e0)
      have hx : den R (.cut (.v 0) (.v 1) (.len (.v 0))) = .list (bytesI (l.drop i.toNat)) := by
        rw [d_cutI (d_v e0) (d_v e1) dl]
        congr 2
        rw [show ((l.length : Int)).toNat = l.length by omega, List.take_length]
      obtain ⟨g1, g2, g3⟩ := dDec hI hx
      refine round_knows (l := [_, _, _]) ?_ ?_
      · intro q hq
        simp only [List.mem_cons, List.not_mem_nil, or_false] at hq
        rcases hq with rfl | rfl | rfl
        · rw [d_lss (d_v e1) (d_k .i64 0)]; simp; omega
        · rw [d_lss dl (d_v e1)]; simp; omega
        · exact len_le R hx (by rw [List.length_drop]; omega)
      refine round_ask (d_eql g1 (d_k .i64 0)) (fun hz => ?_) (fun hz => ?_)
      · simp only [decide_eq_true_eq] at hz
        replace hz : (decV (l.drop i.toNat)).1 = 0 := hz
        rw [if_pos hz] at hst
        obtain ⟨_, u1, u2, _⟩ := decV_spec (v := (decV (l.drop i.toNat)).2.1) (n := (decV (l.drop i.toNat)).2.2) (fun z hz => hB z (List.mem_of_mem_drop hz)) (by rw [← hz])
        rw [List.length_drop] at u1
        have hat : den R (add (.v 1) dS) = .int .i64 (i + (decV (l.drop i.toNat)).2.2) := d_add (d_v e1) g2 (by omega) (by omega)
        have hrow := cat_L R (d_v e2) g3
        have hk1 : den R (add (.v 3) (k64 1)) = .int .i64 (k + 1) := d_add (R := R) (d_v e3) (d_k .i64 1) (by omega) (by omega)
        have s0 := sub_get R nxQ1 0 rfl (d_v e0)
        have s1 := sub_get R nxQ1 1 rfl hat
        have s2 := sub_get R nxQ1 2 rfl hrow
        have s3 := sub_get R nxQ1 3 rfl hk1
        have s4 := sub_get R nxQ1 4 rfl (d_v e4)
        have s5 := sub_get R nxQ1 5 rfl (d_v e5)
        have s6 := sub_get R nxQ1 6 rfl (d_v e6)
        have s7 := sub_get R nxQ1 7 rfl (d_v e7)
        have s8 := sub_get R nxQ1 8 rfl (d_v e8)
        have s9 := sub_get R nxQ1 9 rfl (d_v e9)
        have hsub' : den (R.sub nxQ1) (sub (.v 4) (.v 3)) = .int .i64 (n - (k + 1)) := d_sub (d_v s4) (d_v s3) (by omega) (by omega)
        have heq : pVals l (n - (k + 1)).toNat (i + (decV (l.drop i.toNat)).2.2).toNat (r ++ [(decV (l.drop i.toNat)).2.1]) = pVals l (n - k).toNat i.toNat r := by
          rw [hst]
          congr 1
          omega
        refine round_know (by rw [d_lss (d_k .i64 1000000) (d_lenL (d_v e2))]; simp; omega) ?_
        refine ⟨⟨l, _, _, k + 1, n, e, a, rows, c, ii, s0, s1, s2, s3, s4, s5, s6, s7, s8, s9, hB, hlen, by omega, by omega, by rw [List.length_append]; simp; omega, by omega, by omega, n1⟩, ?_, ?_, fun b _ => ?_⟩
        · simp only [muQ1, s3, s4, e3, e4]
          omega
        · rw [hcn]
          show den (R.sub nxQ1) (pv 124) = _
          rw [d124 (R := R.sub nxQ1) hI (d_v s0) (d_v s1) (d_v s2) hsub', heq]
        · cases b
          · rfl
          · show [den (R.sub nxQ1) (.v 0), den (R.sub nxQ1) (pv 126), den (R.sub nxQ1) (pv 125), den (R.sub nxQ1) (.v 5), den (R.sub nxQ1) (.v 6), den (R.sub nxQ1) (.v 7), den (R.sub nxQ1) (.v 8), den (R.sub nxQ1) (.v 9)] = [den R (.v 0), den R (pv 126), den R (pv 125), den R (.v 5), den R (.v 6), den R (.v 7), den R (.v 8), den R (.v 9)]
            rw [d126 (R := R.sub nxQ1) hI (d_v s0) (d_v s1) (d_v s2) hsub', d125 (R := R.sub nxQ1) hI (d_v s0) (d_v s1) (d_v s2) hsub', heq, d126 hI (d_v e0) (d_v e1) (d_v e2) hsub, d125 hI (d_v e0) (d_v e1) (d_v e2) hsub, d_v s0, d_v s5, d_v s6, d_v s7, d_v s8, d_v s9, d_v e0, d_v e5, d_v e6, d_v e7, d_v e8, d_v e9]
      · simp only [decide_eq_false_iff_not] at hz
        replace hz : ¬ (decV (l.drop i.toNat)).1 = 0 := hz
        rw [if_neg hz] at hst
        refine ⟨?_, rfl⟩
        rw [hcn, hst]
        rfl
    · simp only [decide_eq_false_iff_not] at hge
      have hn : pVals l (n - k).toNat i.toNat r = some (r, i.toNat) := by
        rw [show (n - k).toNat = 0 by omega]
        rfl
      refine ⟨by rw [hcn, hn]; rfl, ?_⟩
      show [den R (.v 0), den R (.v 1), den R (.v 2), den R (.v 5), den R (.v 6), den R (.v 7), den R (.v 8), den R (.v 9)] = [den R (.v 0), den R (pv 126), den R (pv 125), den R (.v 5), den R (.v 6), den R (.v 7), den R (.v 8), den R (.v 9)]
      rw [d126 hI (d_v e0) (d_v e1) (d_v e2) hsub, d125 hI (d_v e0) (d_v e1) (d_v e2) hsub, hn, d_v e1, d_v e2]
      simp only [Option.getD_some]
      rw [show ((i.toNat : Nat) : Int) = i by omega]
theorem lQ2 : LoopsOK Tryz.prog G theI (lpsOf [(15, LQ1)]) codeQ2 := by
  intro B hB M hM
  have h1 := lpsOf_mem hM
  simp only [List.mem_cons, List.not_mem_nil, or_false, Prod.mk.injEq] at h1
  obtain ⟨_, rfl⟩ := h1
  have hc : loopsIn codeQ2 = [codeQ1] := by kernel_rfl
  rw [hc] at hB
  simp only [List.mem_cons, List.not_mem_nil, or_false] at hB
  rw [hB]
  exact loopQ1
theorem qRows_one {l : List Int} {n k i : Int} {r : List (List DV)} (hk : k < n) : qRows l (n - k).toNat i.toNat r = if l.length ≤ i.toNat then none else
    (match pVals l (l.getD i.toNat 0).toNat (i.toNat + 1) [] with
    | none => none
    | some (row, at2) => qRows l (n - (k + 1)).toNat at2 (r ++ [[.list row]])) := by
  rw [show (n - k).toNat = (n - (k + 1)).toNat + 1 by omega]
  rfl
def invQ2 (R : Rho) : Prop := ∃ l i ii e a rows c, R.ρ 0 = .list (bytesI l) ∧ R.ρ 1 = .int .i64 i ∧ R.ρ 2 = .int .i64 ii ∧ R.ρ 3 = .int .i64 e ∧ R.ρ 4 = .int .i64 a ∧ R.ρ 5 = .list rows ∧ R.ρ 6 = .int .i64 c ∧
  AreB l ∧ l.length ≤ 1000000 ∧ 7 ≤ l.length ∧ 0 ≤ i ∧ i ≤ l.length ∧ (rows.length : Int) ≤ ii ∧ 0 ≤ ii ∧ ii ≤ l.getD 6 0
noncomputable def muQ2 (R : Rho) : Nat := match R.ρ 0, R.ρ 2 with
  | .list l, .int _ k => ((l.map intOfRow).getD 6 0 - k).toNat
  | _, _ => 0
theorem loopQ2 : LoopOK Tryz.prog G theI codeQ2 LQ2 := by
  refine loop_run (lps := [(15, LQ1)]) (entS_ok entQ_ok) lQ2 rQ2 okQ2 invQ2 muQ2 ?_ ?_
  · intro m a w hr hp
    obtain ⟨l, e0, hl, _⟩ := (head_sy hr (t := 0) (i := 0) (ty := tB) (by kernel_rfl)).ints
    obtain ⟨i, e1, _⟩ := (head_sy hr (t := 5) (i := 1) (ty := tI) (by kernel_rfl)).i64
    obtain ⟨ii, e2, _⟩ := (head_sy hr (t := 6) (i := 2) (ty := tI) (by kernel_rfl)).i64
    obtain ⟨e, e3, _⟩ := (head_cell hr (id := 15) (k := 0) (i := 3) (ty := tI) (b := bQo 3 4 5 6) (by kernel_rfl) (by decide) (by kernel_rfl)).i64
    obtain ⟨aa, e4, _⟩ := (head_cell hr (id := 15) (k := 1) (i := 4) (ty := tI) (b := bQo 3 4 5 6) (by kernel_rfl) (by decide) (by kernel_rfl)).i64
    obtain ⟨rows, e5, _⟩ := (head_ownC hr (id := 15) (k := 2) (j := 8) (i := 5) (el := 62) (ts := [tRow]) (b := bQo 3 4 5 6) (by kernel_rfl) (by decide) (by kernel_rfl) (by kernel_rfl)).rows
    obtain ⟨c, e6, _⟩ := (head_cell hr (id := 15) (k := 3) (i := 6) (ty := tI) (b := bQo 3 4 5 6) (by kernel_rfl) (by decide) (by kernel_rfl)).i64
    have p1 := hp (lss (k64 1000000) (.len (.v 0)), false) (by simp [LQ2, preQ2])
    have p2 := hp (lss (.v 1) (k64 0), false) (by simp [LQ2, preQ2])
    have p3 := hp (lss (.len (.v 0)) (.v 1), false) (by simp [LQ2, preQ2])
    have p4 := hp (eql (.v 2) (k64 0), true) (by simp [LQ2, preQ2])
    have p5 := hp (lss (.len (.v 0)) (k64 7), false) (by simp [LQ2, preQ2])
    have p6 := hp (lss (k64 0) (.len (.v 5)), false) (by simp [LQ2, preQ2])
    rw [d_lss (d_k .i64 1000000) (d_lenI (d_v e0))] at p1
    rw [d_lss (d_v e1) (d_k .i64 0)] at p2
    rw [d_lss (d_lenI (d_v e0)) (d_v e1)] at p3
    rw [d_eql (d_v e2) (d_k .i64 0)] at p4
    rw [d_lss (d_lenI (d_v e0)) (d_k .i64 7)] at p5
    rw [d_lss (d_k .i64 0) (d_lenL (d_v e5))] at p6
    simp only [DV.bool.injEq, decide_eq_false_iff_not, decide_eq_true_eq] at p1 p2 p3 p4 p5 p6
    have h6 := areB_mem hl (z := l.getD 6 0) (by
      rw [List.getD_eq_getElem?_getD, List.getElem?_eq_getElem (by omega)]
      exact List.getElem_mem _)
    exact ⟨l, i, ii, e, aa, rows, c, e0, e1, e2, e3, e4, e5, e6, hl, by omega, by omega, by omega, by omega, by omega, by omega, by omega⟩
  · rintro R hI ⟨l, i, ii, e, a, rows, c, e0, e1, e2, e3, e4, e5, e6, hB, hlen, h7, h0, h1, hr, k0, k1⟩
    have h6 := areB_mem hB (z := l.getD 6 0) (by
      rw [List.getD_eq_getElem?_getD, List.getElem?_eq_getElem (by omega)]
      exact List.getElem_mem _)
    have dl := d_lenI (d_v e0)
    have d6 : den R lim6 = .int .i64 (l.getD 6 0) := d_ci (d_atI (d_v e0) (d_k .i64 6) (by omega) (by omega)) ⟨h6.1, by have := h6.2; show l.getD 6 0 ≤ _; omega, by have := h6.2; show l.getD 6 0 ≤ _; omega⟩
    have hsub : den R (sub lim6 (.v 2)) = .int .i64 (l.getD 6 0 - ii) := d_sub d6 (d_v e2) (by omega) (by omega)
    have hcn : den R LQ2.cnd = _ := d131 hI (d_v e0) (d_v e1) (d_v e5) hsub
    unfold rQ2
    refine round_know (by rw [d_lss (d_k .i64 6) dl]; simp; omega) (round_ask (d_lss (d_v e2) d6) (fun hlt => ?_) (fun hge => ?_))
    · simp only [decide_eq_true_eq] at hlt
      have hst := qRows_one (l := l) (i := i) (r := rows) hlt
      refine round_ask (d_lss (d_v e1) dl) (fun hin => ?_) (fun hin => ?_)
      · simp only [decide_eq_true_eq] at hin
        rw [if_neg (by omega)] at hst
        have hn := areB_mem hB (z := l.getD i.toNat 0) (by
          rw [List.getD_eq_getElem?_getD, List.getElem?_eq_getElem (by omega)]
          exact List.getElem_mem _)
        have dn : den R nQ = .int .i64 (l.getD i.toNat 0) := d_ci (d_atI (d_v e0) (d_v e1) h0 hin) ⟨hn.1, by omega, by omega⟩
        have dn0 : den R (sub nQ (k64 0)) = .int .i64 (l.getD i.toNat 0 - (0 : Nat)) := d_sub dn (d_k .i64 0) (by omega) (by omega)
        have di1 : den R nx1 = .int .i64 (i + 1) := d_add (R := R) (d_v e1) (d_k .i64 1) (by omega) (by omega)
        have dem : den R .emp = .list ([] : List (List DV)) := rfl
        have hP : pVals l (l.getD i.toNat 0 - ((0 : Nat) : Int)).toNat (i + 1).toNat [] = pVals l (l.getD i.toNat 0).toNat (i.toNat + 1) [] := by
          congr 1 <;> omega
        have g1 := d124 hI (d_v e0) di1 dem dn0
        have g2 := d126 hI (d_v e0) di1 dem dn0
        have g3 := d125 hI (d_v e0) di1 dem dn0
        rw [hP] at g1 g2 g3
        refine round_knows (l := [_, _, _, _, _, _, _]) ?_ ?_
        · intro q hq
          simp only [List.mem_cons, List.not_mem_nil, or_false] at hq
          rcases hq with rfl | rfl | rfl | rfl | rfl | rfl | rfl
          · rw [d_lss (d_v e1) (d_k .i64 0)]; simp; omega
          · exact len_le R (d_v e0) hlen
          · rw [d_lss di1 (d_k .i64 0)]; simp; omega
          · rw [d_lss dl di1]; simp; omega
          · rw [d_lss dn (d_k .i64 0)]; simp only [DV.bool.injEq, decide_eq_false_iff_not]; omega
          · rw [d_lss (d_k .i64 255) dn]; simp only [DV.bool.injEq, decide_eq_false_iff_not]; omega
          · rfl
        cases hp : pVals l (l.getD i.toNat 0).toNat (i.toNat + 1) [] with
        | none =>
          rw [hp] at g1 hst
          refine round_ask g1 (fun h => by cases h) (fun _ => ⟨?_, rfl⟩)
          rw [hcn, hst]
          rfl
        | some p =>
          obtain ⟨row, at2⟩ := p
          rw [hp] at g1 g2 g3 hst
          simp only [Option.getD_some] at g2 g3
          simp only at hst
          obtain ⟨_, _, _, _, u1, u2, _⟩ := pVals_spec hB _ _ _ _ _ (by omega) hp
          refine round_ask g1 (fun _ => ?_) (fun h => by cases h)
          have hrow : den R (.cat (.v 5) (.row [pr 125])) = .list (rows ++ [[.list row]]) := cat_L R (d_v e5) (by rw [den_row, g3])
          have hk1 : den R (add (.v 2) (k64 1)) = .int .i64 (ii + 1) := d_add (R := R) (d_v e2) (d_k .i64 1) (by omega) (by omega)
          have s0 := sub_get R nxQ2 0 rfl (d_v e0)
          have s1 := sub_get R nxQ2 1 rfl g2
          have s2 := sub_get R nxQ2 2 rfl hk1
          have s3 := sub_get R nxQ2 3 rfl (d_v e3)
          have s4 := sub_get R nxQ2 4 rfl (d_v e4)
          have s5 := sub_get R nxQ2 5 rfl hrow
          have s6 := sub_get R nxQ2 6 rfl (d_v e6)
          have d6' : den (R.sub nxQ2) lim6 = .int .i64 (l.getD 6 0) := d_ci (d_atI (d_v s0) (d_k .i64 6) (by omega) (by omega)) ⟨h6.1, by have := h6.2; show l.getD 6 0 ≤ _; omega, by have := h6.2; show l.getD 6 0 ≤ _; omega⟩
          have hsub' : den (R.sub nxQ2) (sub lim6 (.v 2)) = .int .i64 (l.getD 6 0 - (ii + 1)) := d_sub d6' (d_v s2) (by omega) (by omega)
          have heq : qRows l (l.getD 6 0 - (ii + 1)).toNat ((at2 : Int)).toNat (rows ++ [[.list row]]) = qRows l (l.getD 6 0 - ii).toNat i.toNat rows := by
            rw [hst]
            rfl
          refine round_know (by rw [d_lss (d_k .i64 1000000) (d_lenL (d_v e5))]; simp; omega) ?_
          refine ⟨⟨l, at2, ii + 1, e, a, _, c, s0, s1, s2, s3, s4, s5, s6, hB, hlen, h7, by omega, by omega, by rw [List.length_append]; simp; omega, by omega, by omega⟩, ?_, ?_, fun b _ => ?_⟩
          · simp only [muQ2, s0, s2, e0, e2, ints_bytes]
            omega
          · rw [hcn]
            show den (R.sub nxQ2) (pq 131) = _
            rw [d131 (R := R.sub nxQ2) hI (d_v s0) (d_v s1) (d_v s5) hsub', heq]
          · cases b
            · rfl
            · show [den (R.sub nxQ2) (.v 0), den (R.sub nxQ2) (pq 133), den (R.sub nxQ2) (.v 3), den (R.sub nxQ2) (.v 4), den (R.sub nxQ2) (pq 132), den (R.sub nxQ2) (.v 6)] = [den R (.v 0), den R (pq 133), den R (.v 3), den R (.v 4), den R (pq 132), den R (.v 6)]
              rw [d133 (R := R.sub nxQ2) hI (d_v s0) (d_v s1) (d_v s5) hsub', d132 (R := R.sub nxQ2) hI (d_v s0) (d_v s1) (d_v s5) hsub', heq, d133 hI (d_v e0) (d_v e1) (d_v e5) hsub, d132 hI (d_v e0) (d_v e1) (d_v e5) hsub, d_v s0, d_v s3, d_v s4, d_v s6, d_v e0, d_v e3, d_v e4, d_v e6]
      · simp only [decide_eq_false_iff_not] at hin
        rw [if_pos (by omega)] at hst
        refine ⟨?_, rfl⟩
        rw [hcn, hst]
        rfl
    · simp only [decide_eq_false_iff_not] at hge
      have hn : qRows l (l.getD 6 0 - ii).toNat i.toNat rows = some (rows, i.toNat) := by
        rw [show (l.getD 6 0 - ii).toNat = 0 by omega]
        rfl
      refine ⟨by rw [hcn, hn]; rfl, ?_⟩
      show [den R (.v 0), den R (.v 1), den R (.v 3), den R (.v 4), den R (.v 5), den R (.v 6)] = [den R (.v 0), den R (pq 133), den R (.v 3), den R (.v 4), den R (pq 132), den R (.v 6)]
      rw [d133 hI (d_v e0) (d_v e1) (d_v e5) hsub, d132 hI (d_v e0) (d_v e1) (d_v e5) hsub, hn, d_v e1, d_v e5]
      simp only [Option.getD_some]
      rw [show ((i.toNat : Nat) : Int) = i by omega]
theorem lQ : LoopsAre theI 8 [(7, LQ2)] := loops1 (by kernel_rfl) loopQ2
end Go.Proofs.YtjplhjnbcjohoaaGreatDoor
namespace Go.Proofs.YtjplhjnbcjohoaaGreatDoor
open Go Go.AM
/-! ### ledger.outcome: its loops -/
noncomputable def eClone : Ent := eFn 84 [.one tB] [.one tB] [lenOK 0] 5
theorem eClone_ok : EntsOK Tryz.prog G theI [eClone] := ⟨eFn_ok plainG (fnClone theI) (fun _ => rfl) [] (by kernel_rfl), trivial⟩
noncomputable abbrev entP : List Ent := [eDv, eClone]
theorem entP_ok : EntsOK Tryz.prog G theI entP := ⟨eDv_ok.1, eClone_ok.1, trivial⟩
noncomputable def bHo : Blk := { t := 105, row := false, sz := 1, n := 1, z := [.dead], c := (Tr.nil : Tr AV).put 0 (.ptr 2 0) }
noncomputable def bHo0 : Blk := { t := 105, row := false, sz := 1, n := 0, z := [.dead], c := .nil }
noncomputable def bRe (b i e : Nat) : Blk := { t := 159, row := false, sz := 1, n := 3, z := [.dead], c := (((Tr.nil : Tr AV).put 0 (.sy tB (.v b))).put 1 (.sy tI (.v i))).put 2 (.sy tI (.v e)) }
noncomputable def TP1 : Tmpl := { tm := [(0, .sy tB (.v 0)), (2, .ptr 1 0), (4, .ptr 3 0), (5, .ptr 18 0), (6, .own 9 tV (.v 2)), (31, .sy tI (.v 11)), (32, .sy tI (.v 10)), (37, .sy tI (.v 4)), (38, .sy tI (.v 3))], ob := [(1, bQd), (2, bRe 0 1 5), (3, bHo), (18, bQo 6 7 8 9)], ow := [⟨9, 64, tV, .v 2⟩, ⟨8, 62, [tRow], .v 8⟩], src := [.tm 0 tB, .cell 2 1 tI, .own 0, .tm 38 tI, .tm 37 tI, .cell 2 2 tI, .cell 18 0 tI, .cell 18 1 tI, .own 1, .cell 18 3 tI, .tm 32 tI, .tm 31 tI], osrc := [oRow 6, oRows 18] }
noncomputable def YP1 : Tmpl := { tm := [(0, .sy tB (.v 0)), (2, .ptr 1 0), (4, .ptr 3 0), (5, .ptr 18 0), (6, .sy tRow (.v 2)), (31, .sy tI (.v 9)), (32, .sy tI (.v 8))], ob := [(1, bQd), (2, bRe 0 1 3), (3, bHo), (18, bQo 4 5 6 7)], ow := [⟨8, 62, [tRow], .v 6⟩], src := [.tm 0 tB, .cell 2 1 tI, .tm 6 tRow, .cell 2 2 tI, .cell 18 0 tI, .cell 18 1 tI, .own 0, .cell 18 3 tI, .tm 32 tI, .tm 31 tI], osrc := [oRows 18], isrc := [oRow 6] }
noncomputable def NP : Tmpl := { tm := [(2, .ptr 1 0), (3, .sc (.bool false))], ob := [(1, bQz), (2, bRd0), (3, bHo0), (18, bO0)] }
noncomputable def TP2 : Tmpl := { tm := [(0, .sy tB (.v 0)), (2, .ptr 1 0), (4, .ptr 3 0), (5, .ptr 18 0), (31, .sy tI (.v 5)), (32, .sy tI (.v 4))], ob := [(1, bQd), (2, bRe 0 1 2), (3, bHo), (18, bQo 6 7 3 8)], ow := [⟨8, 62, [tRow], .v 3⟩], src := [.tm 0 tB, .cell 2 1 tI, .cell 2 2 tI, .own 0, .tm 32 tI, .tm 31 tI, .cell 18 0 tI, .cell 18 1 tI, .cell 18 3 tI], osrc := [oRows 18] }
noncomputable def YP2 : Tmpl := { tm := [(0, .sy tB (.v 0)), (2, .ptr 1 0), (4, .ptr 3 0), (5, .ptr 18 0)], ob := [(1, bQd), (2, bRe 0 1 2), (3, bHo), (18, bQs 4 5 3 6)], src := [.tm 0 tB, .cell 2 1 tI, .cell 2 2 tI, .cell 18 2 tRows, .cell 18 0 tI, .cell 18 1 tI, .cell 18 3 tI], isrc := [oRows 18] }
noncomputable abbrev preP1 : List (SX × Bool) := [(lss (k64 1000000) (.len (.v 0)), false), (lss (.v 1) (k64 0), false), (lss (.len (.v 0)) (.v 1), false), (lss (k64 0) (.len (.v 2)), false), (eql (.v 3) (k64 0), true), (lss (.v 4) (k64 0), false), (lss (k64 255) (.v 4), false), (.app 135 [.v 5, .v 4], true)]
noncomputable def LP1 : LoopSp := { n := 90, T := TP1, pre := preP1, cnd := pv 124, yes := (.exit 2, YP1, [.v 0, pv 126, pv 125, .v 5, .v 6, .v 7, .v 8, .v 9, .v 10, .v 11]), no := (.ret, NP, []) }
noncomputable abbrev pp (f : Nat) : SX := .app f [.v 0, .v 1, .v 2, .v 3, sub (.v 5) (.v 4)]
noncomputable abbrev preP2 : List (SX × Bool) := [(lss (k64 1000000) (.len (.v 0)), false), (lss (.v 1) (k64 0), false), (lss (.len (.v 0)) (.v 1), false), (eql (.v 4) (k64 0), true), (lss (.v 5) (k64 0), false), (lss (k64 255) (.v 5), false), (lss (k64 0) (.len (.v 3)), false), (.app 136 [.v 2], true)]
noncomputable def LP2 : LoopSp := { n := 90, T := TP2, pre := preP2, cnd := pp 127, yes := (.exit 0, YP2, [.v 0, pp 129, pp 130, pp 128, .v 6, .v 7, .v 8]), no := (.ret, NP, []) }
noncomputable abbrev codeP2 : Code := loopAt 17 0
noncomputable def codeP1 : Code := (loopsIn codeP2).getD 0 .skip
noncomputable abbrev xsP : SX := sub (.len (.v 0)) (sub (.len (.v 0)) (.v 1))
noncomputable abbrev cxP : SX := .cut (.v 0) xsP (.len (.v 0))
noncomputable abbrev eP : SX := .at (.app 12 [cxP]) (k64 2) 0
noncomputable abbrev sP : SX := .at (.app 12 [cxP]) (k64 1) 0
noncomputable abbrev vPs : List SX := [.at (.app 12 [cxP]) (k64 0) 0, .at (.app 12 [cxP]) (k64 0) 1, .at (.app 12 [cxP]) (k64 0) 2]
noncomputable abbrev atP : SX := add (.v 1) sP
noncomputable abbrev bkP : SX := sub atP sP
noncomputable abbrev nxP1 : List SX := [.v 0, atP, .cat (.v 2) (.row vPs), add (.v 3) (k64 1), .v 4, .v 5, .v 6, .v 7, .v 8, .v 9, .v 10, .v 11]
noncomputable def rP1 : RPln :=
  .ask (lss (.v 3) (.v 4))
    (knowR [(lss xsP (k64 0), false), (lss (.len (.v 0)) xsP, false), (lss (k64 1000000) (.len cxP), false)]
      (.ask (eql eP (k64 0))
        (knowR [(eql (.v 5) (k64 0), true), (lss sP (k64 0), false), (lss (sub (.len (.v 0)) (.v 1)) sP, false), (lss bkP (k64 0), false), (lss atP bkP, false), (lss (.len (.v 0)) atP, false), (lss (k64 1000000) (.len (.cut (.v 0) bkP atP)), false), (lss (k64 1000000) (.len (.v 2)), false)]
          (.next nxP1))
        (.exit false [])))
    (.exit true [.v 0, .v 1, .v 2, .v 5, .v 6, .v 7, .v 8, .v 9, .v 10, .v 11])
theorem okP1 : (LP1.yes.2.1.ok LP1.T LP1.n && LP1.no.2.1.ok LP1.T LP1.n && checkRound LP1 (roundI theI (entS entP) [] codeP1) [] rP1) = true := by kernel_rfl
noncomputable abbrev nP : SX := .conv .i64 (rdB nx1)
noncomputable abbrev pN (f : Nat) : SX := .app f [.v 0, nx1, .emp, sub nP (k64 0)]
noncomputable abbrev pS (f : Nat) : SX := .app f [.v 0, .v 1, .emp, sub (k64 0) (k64 0)]
noncomputable abbrev nxPn : List SX := [.v 0, pN 126, .v 2, .cat (.v 3) (.row [pN 125]), add (.v 4) (k64 1), .v 5, .v 6, .v 7, .v 8]
noncomputable abbrev nxPs (e : SX) : List SX := [.v 0, pS 126, e, .cat (.v 3) (.row [pS 125]), add (.v 4) (k64 1), .v 5, .v 6, .v 7, .v 8]
noncomputable abbrev fP0 : List (SX × Bool) := [(lss (k64 1000000) (.len (.v 0)), false), (lss (.v 1) (k64 0), false), (lss (.len (.v 0)) (.v 1), false), (lss (k64 0) (.len .emp), false), (lss (k64 1000000) (.len (.v 3)), false), (pS 124, true)]
noncomputable def rP2 : RPln :=
  .ask (lss (.v 4) (.v 5))
    (.ask (eql (.v 2) (k64 0))
      (.ask (lss (sub (.len (.v 0)) (.v 1)) (k64 1))
        (knowR ((.app 135 [k64 7, k64 0], true) :: fP0) (.next (nxPs (k64 7))))
        (knowR (fR nx1 ++ [(lss (k64 1000000) (.len (.v 0)), false), (lss nx1 (k64 0), false), (lss nP (k64 0), false), (lss (k64 255) nP, false), (lss (k64 0) (.len .emp), false), (lss (k64 1000000) (.len (.v 3)), false), (.app 135 [.v 2, nP], true)])
          (.ask (pN 124) (.next nxPn) (.exit false []))))
      (knowR ((.app 135 [.v 2, k64 0], true) :: fP0) (.next (nxPs (.v 2)))))
    (.exit true [.v 0, .v 1, .v 2, .v 3, .v 6, .v 7, .v 8])
theorem okP2 : (LP2.yes.2.1.ok LP2.T LP2.n && LP2.no.2.1.ok LP2.T LP2.n && checkRound LP2 (roundI theI (entS entP) [(8, LP1)] codeP2) [] rP2) = true := by kernel_rfl
end Go.Proofs.YtjplhjnbcjohoaaGreatDoor
namespace Go.Proofs.YtjplhjnbcjohoaaGreatDoor
open Go Go.AM
section
variable {R : Rho} {x y z u v : SX} {l : List Int} {i n er : Int} {r : List (List DV)}
theorem rows_I (hx : den R x = .list (bytesI l)) (hy : den R y = .int .i64 i) (hz : den R z = .int .i64 er) (hu : den R u = .list r) (hv : den R v = .int .i64 n) : rowsD (([x, y, z, u, v] : List SX).map (den R)) = pRows l n.toNat i.toNat (decide (er ≠ 0)) r := by
  simp only [List.map_cons, List.map_nil, hx, hy, hz, hu, hv]
  simp only [rowsD, intsD, lD, iD, List.getD_cons_zero, List.getD_cons_succ, ints_bytes]
theorem d127 (hI : R.I = theI) (hx : den R x = .list (bytesI l)) (hy : den R y = .int .i64 i) (hz : den R z = .int .i64 er) (hu : den R u = .list r) (hv : den R v = .int .i64 n) : den R (.app 127 [x, y, z, u, v]) = .bool (pRows l n.toNat i.toNat (decide (er ≠ 0)) r).isSome := by
  rw [d_app, hI]
  show DV.bool (rowsD _).isSome = _
  rw [rows_I hx hy hz hu hv]
theorem d128 (hI : R.I = theI) (hx : den R x = .list (bytesI l)) (hy : den R y = .int .i64 i) (hz : den R z = .int .i64 er) (hu : den R u = .list r) (hv : den R v = .int .i64 n) : den R (.app 128 [x, y, z, u, v]) = .list ((pRows l n.toNat i.toNat (decide (er ≠ 0)) r).getD ([], 0, false)).1 := by
  rw [d_app, hI]
  show DV.list ((rowsD _).getD ([], 0, false)).1 = _
  rw [rows_I hx hy hz hu hv]
theorem d129 (hI : R.I = theI) (hx : den R x = .list (bytesI l)) (hy : den R y = .int .i64 i) (hz : den R z = .int .i64 er) (hu : den R u = .list r) (hv : den R v = .int .i64 n) : den R (.app 129 [x, y, z, u, v]) = .int .i64 ((pRows l n.toNat i.toNat (decide (er ≠ 0)) r).getD ([], 0, false)).2.1 := by
  rw [d_app, hI]
  show DV.int .i64 ((rowsD _).getD ([], 0, false)).2.1 = _
  rw [rows_I hx hy hz hu hv]
theorem d130 (hI : R.I = theI) (hx : den R x = .list (bytesI l)) (hy : den R y = .int .i64 i) (hz : den R z = .int .i64 er) (hu : den R u = .list r) (hv : den R v = .int .i64 n) : den R (.app 130 [x, y, z, u, v]) = .int .i64 (if ((pRows l n.toNat i.toNat (decide (er ≠ 0)) r).getD ([], 0, false)).2.2 then 7 else 0) := by
  rw [d_app, hI]
  show DV.int .i64 (if ((rowsD _).getD ([], 0, false)).2.2 then 7 else 0) = _
  rw [rows_I hx hy hz hu hv]
theorem d135 (hI : R.I = theI) (hx : den R x = .int .i64 er) (hy : den R y = .int .i64 n) : den R (.app 135 [x, y]) = .bool (decide (er = 0) || decide (n = 0)) := by
  rw [d_app, hI]
  simp only [List.map_cons, List.map_nil, hx, hy]
  show FerrOK _ = _
  simp only [FerrOK, iD, List.getD_cons_zero, List.getD_cons_succ]
theorem d136 (hI : R.I = theI) (hx : den R x = .int .i64 er) : den R (.app 136 [x]) = .bool (decide (er = 0) || decide (er = 7)) := by
  rw [d_app, hI]
  simp only [List.map_cons, List.map_nil, hx]
  show Ferr7 _ = _
  simp only [Ferr7, iD, List.getD_cons_zero]
end
def invP1 (R : Rho) : Prop := ∃ l i r k n er e a rows c ii lim, R.ρ 0 = .list (bytesI l) ∧ R.ρ 1 = .int .i64 i ∧ R.ρ 2 = .list r ∧ R.ρ 3 = .int .i64 k ∧ R.ρ 4 = .int .i64 n ∧ R.ρ 5 = .int .i64 er ∧ R.ρ 6 = .int .i64 e ∧ R.ρ 7 = .int .i64 a ∧ R.ρ 8 = .list rows ∧ R.ρ 9 = .int .i64 c ∧ R.ρ 10 = .int .i64 ii ∧ R.ρ 11 = .int .i64 lim ∧
  AreB l ∧ l.length ≤ 1000000 ∧ 0 ≤ i ∧ i ≤ l.length ∧ (r.length : Int) ≤ k ∧ 0 ≤ k ∧ k ≤ n ∧ n ≤ 255 ∧ (er = 0 ∨ n = 0)
theorem loopP1 : LoopOK Tryz.prog G theI codeP1 LP1 := by
  refine loop_run (lps := []) (entS_ok entP_ok) noLoops rP1 okP1 invP1 muQ1 ?_ ?_
  · intro m a w hr hp
    have hI : m.R.I = theI := by obtain ⟨_, _, _, _, _, _, y, _⟩ := hr; exact y
    obtain ⟨l, e0, hl, _⟩ := (head_sy hr (t := 0) (i := 0) (ty := tB) (by kernel_rfl)).ints
    obtain ⟨i, e1, _⟩ := (head_cell hr (id := 2) (k := 1) (i := 1) (ty := tI) (b := bRe 0 1 5) (by kernel_rfl) (by decide) (by kernel_rfl)).i64
    obtain ⟨r, e2, _, _⟩ := (head_own hr (t := 6) (id := 9) (i := 2) (el := 64) (ts := tV) (by kernel_rfl) (by kernel_rfl)).vals
    obtain ⟨k, e3, _⟩ := (head_sy hr (t := 38) (i := 3) (ty := tI) (by kernel_rfl)).i64
    obtain ⟨n, e4, _⟩ := (head_sy hr (t := 37) (i := 4) (ty := tI) (by kernel_rfl)).i64
    obtain ⟨er, e5, _⟩ := (head_cell hr (id := 2) (k := 2) (i := 5) (ty := tI) (b := bRe 0 1 5) (by kernel_rfl) (by decide) (by kernel_rfl)).i64
    obtain ⟨e, e6, _⟩ := (head_cell hr (id := 18) (k := 0) (i := 6) (ty := tI) (b := bQo 6 7 8 9) (by kernel_rfl) (by decide) (by kernel_rfl)).i64
    obtain ⟨aa, e7, _⟩ := (head_cell hr (id := 18) (k := 1) (i := 7) (ty := tI) (b := bQo 6 7 8 9) (by kernel_rfl) (by decide) (by kernel_rfl)).i64
    obtain ⟨rows, e8, _⟩ := (head_ownC hr (id := 18) (k := 2) (j := 8) (i := 8) (el := 62) (ts := [tRow]) (b := bQo 6 7 8 9) (by kernel_rfl) (by decide) (by kernel_rfl) (by kernel_rfl)).rows
    obtain ⟨c, e9, _⟩ := (head_cell hr (id := 18) (k := 3) (i := 9) (ty := tI) (b := bQo 6 7 8 9) (by kernel_rfl) (by decide) (by kernel_rfl)).i64
    obtain ⟨ii, e10, _⟩ := (head_sy hr (t := 32) (i := 10) (ty := tI) (by kernel_rfl)).i64
    obtain ⟨lim, e11, _⟩ := (head_sy hr (t := 31) (i := 11) (ty := tI) (by kernel_rfl)).i64
    have p1 := hp (lss (k64 1000000) (.len (.v 0)), false) (by simp [LP1, preP1])
    have p2 := hp (lss (.v 1) (k64 0), false) (by simp [LP1, preP1])
    have p3 := hp (lss (.len (.v 0)) (.v 1), false) (by simp [LP1, preP1])
    have p4 := hp (lss (k64 0) (.len (.v 2)), false) (by simp [LP1, preP1])
    have p5 := hp (eql (.v 3) (k64 0), true) (by simp [LP1, preP1])
    have p6 := hp (lss (.v 4) (k64 0), false) (by simp [LP1, preP1])
    have p7 := hp (lss (k64 255) (.v 4), false) (by simp [LP1, preP1])
    have p8 := hp (.app 135 [.v 5, .v 4], true) (by simp [LP1, preP1])
    rw [d_lss (d_k .i64 1000000) (d_lenI (d_v e0))] at p1
    rw [d_lss (d_v e1) (d_k .i64 0)] at p2
    rw [d_lss (d_lenI (d_v e0)) (d_v e1)] at p3
    rw [d_lss (d_k .i64 0) (d_lenL (d_v e2))] at p4
    rw [d_eql (d_v e3) (d_k .i64 0)] at p5
    rw [d_lss (d_v e4) (d_k .i64 0)] at p6
    rw [d_lss (d_k .i64 255) (d_v e4)] at p7
    rw [d135 hI (d_v e5) (d_v e4)] at p8
    simp only [DV.bool.injEq, decide_eq_false_iff_not, decide_eq_true_eq, Bool.or_eq_true] at p1 p2 p3 p4 p5 p6 p7 p8
    exact ⟨l, i, r, k, n, er, e, aa, rows, c, ii, lim, e0, e1, e2, e3, e4, e5, e6, e7, e8, e9, e10, e11, hl, by omega, by omega, by omega, by omega, by omega, by omega, by omega, p8⟩
  · rintro R hI ⟨l, i, r, k, n, er, e, a, rows, c, ii, lim, e0, e1, e2, e3, e4, e5, e6, e7, e8, e9, e10, e11, hB, hlen, h0, h1, hr, k0, k1, n1, her⟩
    have hsub : den R (sub (.v 4) (.v 3)) = .int .i64 (n - k) := d_sub (d_v e4) (d_v e3) (by omega) (by omega)
    have hcn : den R LP1.cnd = _ := d124 hI (d_v e0) (d_v e1) (d_v e2) hsub
    unfold rP1
    refine round_ask (d_lss (d_v e3) (d_v e4)) (fun hlt => ?_) (fun hge => ?_)
    · simp only [decide_eq_true_eq] at hlt
      have hst := pVals_one (l := l) (i := i) (r := r) hlt
      have dl := d_lenI (d_v e0)
      have dlf : den R (sub (.len (.v 0)) (.v 1)) = .int .i64 (l.length - i) := d_sub dl (d_v e1) (by omega) (by omega)
      have dxs : den R xsP = .int .i64 (l.length - (l.length - i)) := d_sub dl dlf (by omega) (by omega)
      rw [show (l.length : Int) - (l.length - i) = i by omega] at dxs
      have hx : den R cxP = .list (bytesI (l.drop i.toNat)) := by
        rw [d_cutI (d_v e0) dxs dl]
        congr 2
        rw [show ((l.length : Int)).toNat = l.length by omega, List.take_length]
      obtain ⟨g1, g2, g3⟩ := dDec hI hx
      refine round_knows (l := [_, _, _]) ?_ ?_
      · intro q hq
        simp only [List.mem_cons, List.not_mem_nil, or_false] at hq
        rcases hq with rfl | rfl | rfl
        · rw [d_lss dxs (d_k .i64 0)]; simp; omega
        · rw [d_lss dl dxs]; simp; omega
        · exact len_le R hx (by rw [List.length_drop]; omega)
      refine round_ask (d_eql g1 (d_k .i64 0)) (fun hz => ?_) (fun hz => ?_)
      · simp only [decide_eq_true_eq] at hz
        replace hz : (decV (l.drop i.toNat)).1 = 0 := hz
        rw [if_pos hz] at hst
        obtain ⟨_, u1, u2, _⟩ := decV_spec (v := (decV (l.drop i.toNat)).2.1) (n := (decV (l.drop i.toNat)).2.2) (fun z hz => hB z (List.mem_of_mem_drop hz)) (by rw [← hz])
        rw [List.length_drop] at u1
        have hat : den R atP = .int .i64 (i + (decV (l.drop i.toNat)).2.2) := d_add (d_v e1) g2 (by omega) (by omega)
        have hbk : den R bkP = .int .i64 (i + (decV (l.drop i.toNat)).2.2 - (decV (l.drop i.toNat)).2.2) := d_sub hat g2 (by omega) (by omega)
        rw [show i + (((decV (l.drop i.toNat)).2.2 : Nat) : Int) - ((decV (l.drop i.toNat)).2.2 : Nat) = i by omega] at hbk
        have hcb := d_cutI (d_v e0) hbk hat
        have hrow := cat_L R (d_v e2) g3
        have hk1 : den R (add (.v 3) (k64 1)) = .int .i64 (k + 1) := d_add (R := R) (d_v e3) (d_k .i64 1) (by omega) (by omega)
        have hrl : den R (lss (k64 1000000) (.len (.v 2))) = .bool false := by rw [d_lss (d_k .i64 1000000) (d_lenL (d_v e2))]; simp; omega
        refine round_knows (l := [_, _, _, _, _, _, _, _]) ?_ ?_
        · intro q hq
          simp only [List.mem_cons, List.not_mem_nil, or_false] at hq
          rcases hq with rfl | rfl | rfl | rfl | rfl | rfl | rfl | rfl
          · rw [d_eql (d_v e5) (d_k .i64 0)]
            simp only [DV.bool.injEq, decide_eq_true_eq]
            rcases her with h | h
            · exact h
            · omega
          · rw [d_lss g2 (d_k .i64 0)]; simp only [DV.bool.injEq, decide_eq_false_iff_not]; omega
          · rw [d_lss dlf g2]; simp only [DV.bool.injEq, decide_eq_false_iff_not]; omega
          · rw [d_lss hbk (d_k .i64 0)]; simp only [DV.bool.injEq, decide_eq_false_iff_not]; omega
          · rw [d_lss hat hbk]; simp only [DV.bool.injEq, decide_eq_false_iff_not]; omega
          · rw [d_lss dl hat]; simp only [DV.bool.injEq, decide_eq_false_iff_not]; omega
          · exact len_le R hcb (by rw [List.length_drop, List.length_take]; omega)
          · exact hrl
        have s0 := sub_get R nxP1 0 rfl (d_v e0)
        have s1 := sub_get R nxP1 1 rfl hat
        have s2 := sub_get R nxP1 2 rfl hrow
        have s3 := sub_get R nxP1 3 rfl hk1
        have s4 := sub_get R nxP1 4 rfl (d_v e4)
        have s5 := sub_get R nxP1 5 rfl (d_v e5)
        have s6 := sub_get R nxP1 6 rfl (d_v e6)
        have s7 := sub_get R nxP1 7 rfl (d_v e7)
        have s8 := sub_get R nxP1 8 rfl (d_v e8)
        have s9 := sub_get R nxP1 9 rfl (d_v e9)
        have s10 := sub_get R nxP1 10 rfl (d_v e10)
        have s11 := sub_get R nxP1 11 rfl (d_v e11)
        have hsub' : den (R.sub nxP1) (sub (.v 4) (.v 3)) = .int .i64 (n - (k + 1)) := d_sub (d_v s4) (d_v s3) (by omega) (by omega)
        have heq : pVals l (n - (k + 1)).toNat (i + (decV (l.drop i.toNat)).2.2).toNat (r ++ [(decV (l.drop i.toNat)).2.1]) = pVals l (n - k).toNat i.toNat r := by
          rw [hst]
          congr 1
          omega
        refine ⟨⟨l, _, _, k + 1, n, er, e, a, rows, c, ii, lim, s0, s1, s2, s3, s4, s5, s6, s7, s8, s9, s10, s11, hB, hlen, by omega, by omega, by rw [List.length_append]; simp; omega, by omega, by omega, n1, her⟩, ?_, ?_, fun b _ => ?_⟩
        · simp only [muQ1, s3, s4, e3, e4]
          omega
        · rw [hcn]
          show den (R.sub nxP1) (pv 124) = _
          rw [d124 (R := R.sub nxP1) hI (d_v s0) (d_v s1) (d_v s2) hsub', heq]
        · cases b
          · rfl
          · show [den (R.sub nxP1) (.v 0), den (R.sub nxP1) (pv 126), den (R.sub nxP1) (pv 125), den (R.sub nxP1) (.v 5), den (R.sub nxP1) (.v 6), den (R.sub nxP1) (.v 7), den (R.sub nxP1) (.v 8), den (R.sub nxP1) (.v 9), den (R.sub nxP1) (.v 10), den (R.sub nxP1) (.v 11)] = [den R (.v 0), den R (pv 126), den R (pv 125), den R (.v 5), den R (.v 6), den R (.v 7), den R (.v 8), den R (.v 9), den R (.v 10), den R (.v 11)]
            rw [d126 (R := R.sub nxP1) hI (d_v s0) (d_v s1) (d_v s2) hsub', d125 (R := R.sub nxP1) hI (d_v s0) (d_v s1) (d_v s2) hsub', heq, d126 hI (d_v e0) (d_v e1) (d_v e2) hsub, d125 hI (d_v e0) (d_v e1) (d_v e2) hsub, d_v s0, d_v s5, d_v s6, d_v s7, d_v s8, d_v s9, d_v s10, d_v s11, d_v e0, d_v e5, d_v e6, d_v e7, d_v e8, d_v e9, d_v e10, d_v e11]
      · simp only [decide_eq_false_iff_not] at hz
        replace hz : ¬ (decV (l.drop i.toNat)).1 = 0 := hz
        rw [if_neg hz] at hst
        refine ⟨?_, rfl⟩
        rw [hcn, hst]
        rfl
    · simp only [decide_eq_false_iff_not] at hge
      have hn : pVals l (n - k).toNat i.toNat r = some (r, i.toNat) := by
        rw [show (n - k).toNat = 0 by omega]
        rfl
      refine ⟨by rw [hcn, hn]; rfl, ?_⟩
      show [den R (.v 0), den R (.v 1), den R (.v 2), den R (.v 5), den R (.v 6), den R (.v 7), den R (.v 8), den R (.v 9), den R (.v 10), den R (.v 11)] = [den R (.v 0), den R (pv 126), den R (pv 125), den R (.v 5), den R (.v 6), den R (.v 7), den R (.v 8), den R (.v 9), den R (.v 10), den R (.v 11)]
      rw [d126 hI (d_v e0) (d_v e1) (d_v e2) hsub, d125 hI (d_v e0) (d_v e1) (d_v e2) hsub, hn, d_v e1, d_v e2]
      simp only [Option.getD_some]
      rw [show ((i.toNat : Nat) : Int) = i by omega]
theorem lP2 : LoopsOK Tryz.prog G theI (lpsOf [(8, LP1)]) codeP2 := by
  intro B hB M hM
  have h1 := lpsOf_mem hM
  simp only [List.mem_cons, List.not_mem_nil, or_false, Prod.mk.injEq] at h1
  obtain ⟨_, rfl⟩ := h1
  have hc : loopsIn codeP2 = [codeP1] := by kernel_rfl
  rw [hc] at hB
  simp only [List.mem_cons, List.not_mem_nil, or_false] at hB
  rw [hB]
  exact loopP1
theorem pRows_one {l : List Int} {n k i : Int} {sh : Bool} {r : List (List DV)} (hk : k < n) : pRows l (n - k).toNat i.toNat sh r = if sh || decide (l.length ≤ i.toNat) then pRows l (n - (k + 1)).toNat i.toNat true (r ++ [[.list []]]) else
    (match pVals l (l.getD i.toNat 0).toNat (i.toNat + 1) [] with
    | none => none
    | some (row, at2) => pRows l (n - (k + 1)).toNat at2 false (r ++ [[.list row]])) := by
  rw [show (n - k).toNat = (n - (k + 1)).toNat + 1 by omega]
  rfl
def invP2 (R : Rho) : Prop := ∃ l i er rows ii lim e a c, R.ρ 0 = .list (bytesI l) ∧ R.ρ 1 = .int .i64 i ∧ R.ρ 2 = .int .i64 er ∧ R.ρ 3 = .list rows ∧ R.ρ 4 = .int .i64 ii ∧ R.ρ 5 = .int .i64 lim ∧ R.ρ 6 = .int .i64 e ∧ R.ρ 7 = .int .i64 a ∧ R.ρ 8 = .int .i64 c ∧
  AreB l ∧ l.length ≤ 1000000 ∧ 0 ≤ i ∧ i ≤ l.length ∧ (rows.length : Int) ≤ ii ∧ 0 ≤ ii ∧ ii ≤ lim ∧ lim ≤ 255 ∧ (er = 0 ∨ er = 7)
noncomputable def muP2 (R : Rho) : Nat := match R.ρ 4, R.ρ 5 with
  | .int _ k, .int _ n => (n - k).toNat
  | _, _ => 0
/-- A round of outcome's loop that goes on. -/
theorem nextP2 {R : Rho} (hI : R.I = theI) {l : List Int} {i er ii lim e a c : Int} {rows : List (List DV)} (e0 : R.ρ 0 = .list (bytesI l)) (e1 : R.ρ 1 = .int .i64 i) (e2 : R.ρ 2 = .int .i64 er) (e3 : R.ρ 3 = .list rows) (e4 : R.ρ 4 = .int .i64 ii) (e5 : R.ρ 5 = .int .i64 lim) (e6 : R.ρ 6 = .int .i64 e) (e7 : R.ρ 7 = .int .i64 a) (e8 : R.ρ 8 = .int .i64 c)
    (hB : AreB l) (hlen : l.length ≤ 1000000) (hr : (rows.length : Int) ≤ ii) (k0 : 0 ≤ ii) (k1 : ii < lim) (n1 : lim ≤ 255)
    {x y z : SX} {i' er' : Int} {row : List (List DV)} (hx : den R x = .int .i64 i') (hy : den R y = .int .i64 er') (hz : den R z = .list row) (h0 : 0 ≤ i') (h1 : i' ≤ l.length) (her : er' = 0 ∨ er' = 7)
    (heq : pRows l (lim - (ii + 1)).toNat i'.toNat (decide (er' ≠ 0)) (rows ++ [[.list row]]) = pRows l (lim - ii).toNat i.toNat (decide (er ≠ 0)) rows) :
    goalRound LP2 invP2 muP2 R (.next [.v 0, x, y, .cat (.v 3) (.row [z]), add (.v 4) (k64 1), .v 5, .v 6, .v 7, .v 8]) := by
  have hrow : den R (.cat (.v 3) (.row [z])) = .list (rows ++ [[.list row]]) := cat_L R (d_v e3) (by rw [den_row, hz])
  have hk1 : den R (add (.v 4) (k64 1)) = .int .i64 (ii + 1) := d_add (R := R) (d_v e4) (d_k .i64 1) (by omega) (by omega)
  have hsub : den R (sub (.v 5) (.v 4)) = .int .i64 (lim - ii) := d_sub (d_v e5) (d_v e4) (by omega) (by omega)
  generalize hτ : ([.v 0, x, y, .cat (.v 3) (.row [z]), add (.v 4) (k64 1), .v 5, .v 6, .v 7, .v 8] : List SX) = τ
  have s0 := sub_get R τ 0 (by rw [← hτ]; rfl) (d_v e0)
  have s1 := sub_get R τ 1 (by rw [← hτ]; rfl) hx
  have s2 := sub_get R τ 2 (by rw [← hτ]; rfl) hy
  have s3 := sub_get R τ 3 (by rw [← hτ]; rfl) hrow
  have s4 := sub_get R τ 4 (by rw [← hτ]; rfl) hk1
  have s5 := sub_get R τ 5 (by rw [← hτ]; rfl) (d_v e5)
  have s6 := sub_get R τ 6 (by rw [← hτ]; rfl) (d_v e6)
  have s7 := sub_get R τ 7 (by rw [← hτ]; rfl) (d_v e7)
  have s8 := sub_get R τ 8 (by rw [← hτ]; rfl) (d_v e8)
  have hsub' : den (R.sub τ) (sub (.v 5) (.v 4)) = .int .i64 (lim - (ii + 1)) := d_sub (d_v s5) (d_v s4) (by omega) (by omega)
  refine ⟨⟨l, i', er', _, ii + 1, lim, e, a, c, s0, s1, s2, s3, s4, s5, s6, s7, s8, hB, hlen, h0, h1, by rw [List.length_append]; simp; omega, by omega, by omega, n1, her⟩, ?_, ?_, fun b _ => ?_⟩
  · simp only [muP2, s4, s5, e4, e5]
    omega
  · show den (R.sub τ) (pp 127) = den R (pp 127)
    rw [d127 (R := R.sub τ) hI (d_v s0) (d_v s1) (d_v s2) (d_v s3) hsub', heq, d127 hI (d_v e0) (d_v e1) (d_v e2) (d_v e3) hsub]
  · cases b
    · rfl
    · show [den (R.sub τ) (.v 0), den (R.sub τ) (pp 129), den (R.sub τ) (pp 130), den (R.sub τ) (pp 128), den (R.sub τ) (.v 6), den (R.sub τ) (.v 7), den (R.sub τ) (.v 8)] = [den R (.v 0), den R (pp 129), den R (pp 130), den R (pp 128), den R (.v 6), den R (.v 7), den R (.v 8)]
      rw [d129 (R := R.sub τ) hI (d_v s0) (d_v s1) (d_v s2) (d_v s3) hsub', d130 (R := R.sub τ) hI (d_v s0) (d_v s1) (d_v s2) (d_v s3) hsub', d128 (R := R.sub τ) hI (d_v s0) (d_v s1) (d_v s2) (d_v s3) hsub', heq,
        d129 hI (d_v e0) (d_v e1) (d_v e2) (d_v e3) hsub, d130 hI (d_v e0) (d_v e1) (d_v e2) (d_v e3) hsub, d128 hI (d_v e0) (d_v e1) (d_v e2) (d_v e3) hsub, d_v s0, d_v s6, d_v s7, d_v s8, d_v e0, d_v e6, d_v e7, d_v e8]
theorem loopP2 : LoopOK Tryz.prog G theI codeP2 LP2 := by
  refine loop_run (lps := [(8, LP1)]) (entS_ok entP_ok) lP2 rP2 okP2 invP2 muP2 ?_ ?_
  · intro m a w hr hp
    have hI : m.R.I = theI := by obtain ⟨_, _, _, _, _, _, y, _⟩ := hr; exact y
    obtain ⟨l, e0, hl, _⟩ := (head_sy hr (t := 0) (i := 0) (ty := tB) (by kernel_rfl)).ints
    obtain ⟨i, e1, _⟩ := (head_cell hr (id := 2) (k := 1) (i := 1) (ty := tI) (b := bRe 0 1 2) (by kernel_rfl) (by decide) (by kernel_rfl)).i64
    obtain ⟨er, e2, _⟩ := (head_cell hr (id := 2) (k := 2) (i := 2) (ty := tI) (b := bRe 0 1 2) (by kernel_rfl) (by decide) (by kernel_rfl)).i64
    obtain ⟨rows, e3, _⟩ := (head_ownC hr (id := 18) (k := 2) (j := 8) (i := 3) (el := 62) (ts := [tRow]) (b := bQo 6 7 3 8) (by kernel_rfl) (by decide) (by kernel_rfl) (by kernel_rfl)).rows
    obtain ⟨ii, e4, _⟩ := (head_sy hr (t := 32) (i := 4) (ty := tI) (by kernel_rfl)).i64
    obtain ⟨lim, e5, _⟩ := (head_sy hr (t := 31) (i := 5) (ty := tI) (by kernel_rfl)).i64
    obtain ⟨e, e6, _⟩ := (head_cell hr (id := 18) (k := 0) (i := 6) (ty := tI) (b := bQo 6 7 3 8) (by kernel_rfl) (by decide) (by kernel_rfl)).i64
    obtain ⟨aa, e7, _⟩ := (head_cell hr (id := 18) (k := 1) (i := 7) (ty := tI) (b := bQo 6 7 3 8) (by kernel_rfl) (by decide) (by kernel_rfl)).i64
    obtain ⟨c, e8, _⟩ := (head_cell hr (id := 18) (k := 3) (i := 8) (ty := tI) (b := bQo 6 7 3 8) (by kernel_rfl) (by decide) (by kernel_rfl)).i64
    have p1 := hp (lss (k64 1000000) (.len (.v 0)), false) (by simp [LP2, preP2])
    have p2 := hp (lss (.v 1) (k64 0), false) (by simp [LP2, preP2])
    have p3 := hp (lss (.len (.v 0)) (.v 1), false) (by simp [LP2, preP2])
    have p4 := hp (eql (.v 4) (k64 0), true) (by simp [LP2, preP2])
    have p5 := hp (lss (.v 5) (k64 0), false) (by simp [LP2, preP2])
    have p6 := hp (lss (k64 255) (.v 5), false) (by simp [LP2, preP2])
    have p7 := hp (lss (k64 0) (.len (.v 3)), false) (by simp [LP2, preP2])
    have p8 := hp (.app 136 [.v 2], true) (by simp [LP2, preP2])
    rw [d_lss (d_k .i64 1000000) (d_lenI (d_v e0))] at p1
    rw [d_lss (d_v e1) (d_k .i64 0)] at p2
    rw [d_lss (d_lenI (d_v e0)) (d_v e1)] at p3
    rw [d_eql (d_v e4) (d_k .i64 0)] at p4
    rw [d_lss (d_v e5) (d_k .i64 0)] at p5
    rw [d_lss (d_k .i64 255) (d_v e5)] at p6
    rw [d_lss (d_k .i64 0) (d_lenL (d_v e3))] at p7
    rw [d136 hI (d_v e2)] at p8
    simp only [DV.bool.injEq, decide_eq_false_iff_not, decide_eq_true_eq, Bool.or_eq_true] at p1 p2 p3 p4 p5 p6 p7 p8
    exact ⟨l, i, er, rows, ii, lim, e, aa, c, e0, e1, e2, e3, e4, e5, e6, e7, e8, hl, by omega, by omega, by omega, by omega, by omega, by omega, by omega, p8⟩
  · rintro R hI ⟨l, i, er, rows, ii, lim, e, a, c, e0, e1, e2, e3, e4, e5, e6, e7, e8, hB, hlen, h0, h1, hr, k0, k1, n1, her⟩
    have dl := d_lenI (d_v e0)
    have hsub : den R (sub (.v 5) (.v 4)) = .int .i64 (lim - ii) := d_sub (d_v e5) (d_v e4) (by omega) (by omega)
    have hcn : den R LP2.cnd = _ := d127 hI (d_v e0) (d_v e1) (d_v e2) (d_v e3) hsub
    have dem : den R .emp = .list ([] : List (List DV)) := rfl
    unfold rP2
    refine round_ask (d_lss (d_v e4) (d_v e5)) (fun hlt => ?_) (fun hge => ?_)
    · simp only [decide_eq_true_eq] at hlt
      have hst := pRows_one (l := l) (i := i) (sh := decide (er ≠ 0)) (r := rows) hlt
      have dz0 : den R (sub (k64 0) (k64 0)) = .int .i64 (((0 : Nat) : Int) - ((0 : Nat) : Int)) := d_sub (d_k .i64 0) (d_k .i64 0) (by omega) (by omega)
      have hP0 : pVals l (((0 : Nat) : Int) - ((0 : Nat) : Int)).toNat i.toNat [] = some ([], i.toNat) := rfl
      have g1 := d124 hI (d_v e0) (d_v e1) dem dz0
      have g2 := d126 hI (d_v e0) (d_v e1) dem dz0
      have g3 := d125 hI (d_v e0) (d_v e1) dem dz0
      rw [hP0] at g1 g2 g3
      simp only [Option.getD_some] at g2 g3
      rw [show ((i.toNat : Nat) : Int) = i by omega] at g2
      have hrl : den R (lss (k64 1000000) (.len (.v 3))) = .bool false := by rw [d_lss (d_k .i64 1000000) (d_lenL (d_v e3))]; simp; omega
      have f0 : ∀ q ∈ fP0, den R q.1 = .bool q.2 := by
        intro q hq
        simp only [fP0, List.mem_cons, List.not_mem_nil, or_false] at hq
        rcases hq with rfl | rfl | rfl | rfl | rfl | rfl
        · exact len_le R (d_v e0) hlen
        · rw [d_lss (d_v e1) (d_k .i64 0)]; simp; omega
        · rw [d_lss dl (d_v e1)]; simp; omega
        · rfl
        · exact hrl
        · exact g1
      refine round_ask (d_eql (d_v e2) (d_k .i64 0)) (fun hz => ?_) (fun hz => ?_)
      · simp only [decide_eq_true_eq] at hz
        replace hz : er = 0 := hz
        subst hz
        refine round_ask (d_lss (d_sub dl (d_v e1) (by omega) (by omega)) (d_k .i64 1)) (fun hs => ?_) (fun hs => ?_)
        · simp only [decide_eq_true_eq] at hs
          refine round_knows (fun q hq => ?_) (nextP2 hI e0 e1 e2 e3 e4 e5 e6 e7 e8 hB hlen hr k0 hlt n1 (er' := 7) g2 (d_k .i64 7) g3 h0 h1 (.inr rfl) ?_)
          · rcases List.mem_cons.1 hq with rfl | hq
            · rw [d135 hI (d_k .i64 7) (d_k .i64 0)]; rfl
            · exact f0 q hq
          · have hle : l.length ≤ i.toNat := by omega
            rw [hst]
            simp [hle]
        · simp only [decide_eq_false_iff_not] at hs
          have hin : i < l.length := by omega
          have hle : ¬ l.length ≤ i.toNat := by omega
          simp only [ne_eq, not_true_eq_false, decide_false, Bool.false_or, hle, Bool.false_eq_true, if_false] at hst
          have hn := areB_mem hB (z := l.getD i.toNat 0) (by
            rw [List.getD_eq_getElem?_getD, List.getElem?_eq_getElem (by omega)]
            exact List.getElem_mem _)
          have di1 : den R nx1 = .int .i64 (i + 1) := d_add (R := R) (d_v e1) (d_k .i64 1) (by omega) (by omega)
          obtain ⟨hc, hf1⟩ := rd_I e0 di1 h0 hin hB hlen
          have dn : den R nP = .int .i64 (l.getD i.toNat 0) := d_ci hc ⟨hn.1, by omega, by omega⟩
          have dn0 : den R (sub nP (k64 0)) = .int .i64 (l.getD i.toNat 0 - (0 : Nat)) := d_sub dn (d_k .i64 0) (by omega) (by omega)
          have hP : pVals l (l.getD i.toNat 0 - ((0 : Nat) : Int)).toNat (i + 1).toNat [] = pVals l (l.getD i.toNat 0).toNat (i.toNat + 1) [] := by
            congr 1 <;> omega
          have g1 := d124 hI (d_v e0) di1 dem dn0
          have g2 := d126 hI (d_v e0) di1 dem dn0
          have g3 := d125 hI (d_v e0) di1 dem dn0
          rw [hP] at g1 g2 g3
          refine round_knows (fun q hq => ?_) ?_
          · rcases List.mem_append.1 hq with hq | hq
            · exact hf1 q hq
            · simp only [List.mem_cons, List.not_mem_nil, or_false] at hq
              rcases hq with rfl | rfl | rfl | rfl | rfl | rfl | rfl
              · exact len_le R (d_v e0) hlen
              · rw [d_lss di1 (d_k .i64 0)]; simp; omega
              · rw [d_lss dn (d_k .i64 0)]; simp only [DV.bool.injEq, decide_eq_false_iff_not]; omega
              · rw [d_lss (d_k .i64 255) dn]; simp only [DV.bool.injEq, decide_eq_false_iff_not]; omega
              · rfl
              · exact hrl
              · rw [d135 hI (d_v e2) dn]; rfl
          cases hp : pVals l (l.getD i.toNat 0).toNat (i.toNat + 1) [] with
          | none =>
            rw [hp] at g1 hst
            refine round_ask g1 (fun h => by cases h) (fun _ => ⟨?_, rfl⟩)
            rw [hcn]
            have : pRows l (lim - ii).toNat i.toNat (decide ((0 : Int) ≠ 0)) rows = none := hst
            rw [this]
            rfl
          | some p =>
            obtain ⟨row, at2⟩ := p
            rw [hp] at g1 g2 g3 hst
            simp only [Option.getD_some] at g2 g3
            simp only at hst
            obtain ⟨_, _, _, _, u1, u2, _⟩ := pVals_spec hB _ _ _ _ _ (by omega) hp
            refine round_ask g1 (fun _ => ?_) (fun h => by cases h)
            refine nextP2 hI e0 e1 e2 e3 e4 e5 e6 e7 e8 hB hlen hr k0 hlt n1 g2 (d_v e2) g3 (by omega) (by omega) (.inl rfl) ?_
            have : pRows l (lim - ii).toNat i.toNat (decide ((0 : Int) ≠ 0)) rows = _ := hst
            rw [this]
            rfl
      · simp only [decide_eq_false_iff_not] at hz
        replace hz : ¬ er = 0 := hz
        refine round_knows (fun q hq => ?_) (nextP2 hI e0 e1 e2 e3 e4 e5 e6 e7 e8 hB hlen hr k0 hlt n1 g2 (d_v e2) g3 h0 h1 her ?_)
        · rcases List.mem_cons.1 hq with rfl | hq
          · rw [d135 hI (d_v e2) (d_k .i64 0)]; simp
          · exact f0 q hq
        · rw [hst]
          simp [hz]
    · simp only [decide_eq_false_iff_not] at hge
      have hn : pRows l (lim - ii).toNat i.toNat (decide (er ≠ 0)) rows = some (rows, i.toNat, decide (er ≠ 0)) := by
        rw [show (lim - ii).toNat = 0 by omega]
        rfl
      refine ⟨by rw [hcn, hn]; rfl, ?_⟩
      show [den R (.v 0), den R (.v 1), den R (.v 2), den R (.v 3), den R (.v 6), den R (.v 7), den R (.v 8)] = [den R (.v 0), den R (pp 129), den R (pp 130), den R (pp 128), den R (.v 6), den R (.v 7), den R (.v 8)]
      rw [d129 hI (d_v e0) (d_v e1) (d_v e2) (d_v e3) hsub, d130 hI (d_v e0) (d_v e1) (d_v e2) (d_v e3) hsub, d128 hI (d_v e0) (d_v e1) (d_v e2) (d_v e3) hsub, hn, d_v e1, d_v e2, d_v e3]
      simp only [Option.getD_some]
      rw [show ((i.toNat : Nat) : Int) = i by omega]
      rcases her with rfl | rfl <;> rfl
theorem lP : LoopsAre theI 17 [(5, LP2)] := loops1 (by kernel_rfl) loopP2
noncomputable abbrev subP : SubL := [(17, [(5, LP2)])]
theorem subP_ok : SubsOK theI subP := ⟨lP, trivial⟩
end Go.Proofs.YtjplhjnbcjohoaaGreatDoor
