/-
  A part of the proof of QueryValues (the machine on named data, and the contracts of the functions that the law reaches): Q19 Wk Ql.
-/
import Derived.Test.YtholilpmihngaaaGreatDoorKg
import Derived.Test.YtholilpmihngaaaGreatDoorShelf
import Derived.Test.YtholilpmihngaaaGreatDoorRa
import Derived.Test.YtholilpmihngaaaGreatDoorRb
import Derived.Test.YtholilpmihngaaaGreatDoorRc
import Derived.Test.YtholilpmihngaaaGreatDoorWa
import Derived.Test.YtholilpmihngaaaGreatDoorKa
set_option linter.all false
set_option linter.unusedVariables false
set_option linter.unusedSimpArgs false
set_option linter.unusedSectionVars false
namespace Go.Proofs.YtholilpmihngaaaGreatDoor
open Go Go.AM
/-! ### the value of an expression -/
theorem evalN_ok {l rows : List (List DV)} (hok : okFrom l 0 = true) (hpl : placedFrom l rows 0 = true) (hr : ∀ r ∈ l, IsL tN r) (hrw : ∀ q ∈ rows, IsR q) : ∀ (n i : Nat) (had : List (List DV)), had.length = i → i + n = l.length → (∀ v ∈ had, ValV v) → (evalN l rows n i had).2 = 0 → (evalN l rows n i had).1.length = l.length ∧ ∀ v ∈ (evalN l rows n i had).1, ValV v
  | 0, i, had, h1, h2, h3, _ => ⟨by show had.length = _; omega, h3⟩
  | n + 1, i, had, h1, h2, h3, h0 => by
    have hil : i < l.length := by omega
    have hstep : evalN l rows (n + 1) i had = if (nodeV (l.getD i []) had rows).2 ≠ 0 then (had, (nodeV (l.getD i []) had rows).2) else evalN l rows n (i + 1) (had ++ [(nodeV (l.getD i []) had rows).1]) := rfl
    rw [hstep] at h0 ⊢
    by_cases hz : (nodeV (l.getD i []) had rows).2 = 0
    · rw [if_neg (fun h => h hz)] at h0 ⊢
      refine evalN_ok hok hpl hr hrw n (i + 1) _ (by simp; omega) (by omega) (fun v hv => ?_) h0
      rcases List.mem_append.1 hv with h | h
      · exact h3 v h
      · rw [List.mem_singleton] at h
        rw [h]
        exact val_node (i := i) (by rw [getD_lt hil]; exact nodeC_of (hr _ (List.getElem_mem hil))) (ok_get hok hil).2 (placed_get hpl hil) h1 h3 hrw hz
    · rw [if_pos hz] at h0
      exact absurd h0 hz
theorem evalF_0 (l rows : List (List DV)) : evalF [.list l, .list [], .int .i64 0, .list rows] = evalN l rows l.length 0 [] := rfl
noncomputable abbrev lastI (H : SX) : SX := .bin .sub (.len H) (k64 1)
noncomputable abbrev lastP (H : SX) : Pln := .know (lss (lastI H) (k64 0)) false (.know (lss (lastI H) (.len H)) true (.done [[.at H (lastI H) 0, .at H (lastI H) 1, .at H (lastI H) 2], [k64 0]]))
theorem last_goal {R : Rho} {H : SX} {hv : List (List DV)} (hH : den R H = .list hv) (h1 : 0 < hv.length) (h2 : hv.length ≤ 300) (hval : ∀ v ∈ hv, ValV v) : goalPlan R [hv.getD (hv.length - 1) [], [.int .i64 0]] (lastP H) := by
  have hl := d_lenL hH
  have hI := d_sub hl (d_k .i64 1) (by omega) (by omega)
  have hlt : hv.length - 1 < hv.length := by omega
  obtain ⟨k, n, s, hx, _⟩ := hval _ (List.getElem_mem hlt)
  have hg : hv.getD (hv.length - 1) [] = [.int .i64 k, .int .i64 n, .str s] := by rw [getD_lt hlt]; exact hx
  have hz : ((hv.length : Int) - ((1 : Nat) : Int)).toNat = hv.length - 1 := by omega
  have dj : ∀ j, den R (.at H (lastI H) j) = ([.int .i64 k, .int .i64 n, .str s] : List DV).getD j (.bool false) := by
    intro j
    rw [d_at j hH hI, hz, hg]
  refine goal_know ?_ (goal_know ?_ ?_)
  · rw [d_lss hI (d_k .i64 0), decide_eq_false (by omega)]
  · rw [d_lss hI hl, decide_eq_true (by omega)]
  · show [_, _] = [[den R (.at H (lastI H) 0), den R (.at H (lastI H) 1), den R (.at H (lastI H) 2)], [den R (k64 0)]]
    rw [hg, dj, dj, dj]
    rfl
theorem loops2 {I : Nat → List DV → DV} {f k1 k2 : Nat} {c1 c2 : Code} {L1 L2 : LoopSp} (hc : loopsIn (bodyOf f) = [c1, c2]) (h1 : key c1 = k1) (h2 : key c2 = k2) (hne : k1 ≠ k2) (o1 : LoopOK Tryz.prog G I c1 L1) (o2 : LoopOK Tryz.prog G I c2 L2) : LoopsAre I f [(k1, L1), (k2, L2)] := by
  intro B hB M hM
  have hm := lpsOf_mem hM
  rw [hc] at hB
  simp only [List.mem_cons, List.not_mem_nil, or_false, Prod.mk.injEq] at hm hB
  rcases hB with rfl | rfl <;> rcases hm with ⟨e, rfl⟩ | ⟨e, rfl⟩
  · exact o1
  · exact absurd (h1.symm.trans e) hne
  · exact absurd (h2.symm.trans e) (Ne.symm hne)
  · exact o2
theorem qVal_bad {l rows : List (List DV)} (h : (okFrom l 0 && decide (0 < l.length)) = false ∨ placedFrom l rows 0 = false) : qVal l rows = (zeroV, 240) := by
  unfold qVal
  rw [if_pos h]
theorem qVal_err {l rows : List (List DV)} (h1 : (okFrom l 0 && decide (0 < l.length)) = true) (h2 : placedFrom l rows 0 = true) (h : (evalN l rows l.length 0 []).2 ≠ 0) : qVal l rows = (zeroV, (evalN l rows l.length 0 []).2) := by
  unfold qVal
  rw [if_neg (by rw [h1, h2]; simp), if_pos h]
theorem qVal_ok {l rows : List (List DV)} (h1 : (okFrom l 0 && decide (0 < l.length)) = true) (h2 : placedFrom l rows 0 = true) (h : (evalN l rows l.length 0 []).2 = 0) : qVal l rows = ((evalN l rows l.length 0 []).1.getD (l.length - 1) [], 0) := by
  unfold qVal
  rw [if_neg (by rw [h1, h2]; simp), if_neg (fun h3 => h3 h)]
noncomputable abbrev evArgs : List SX := [.v 0, .emp, k64 0, .v 1]
noncomputable abbrev badP : Pln := .done [[k64 0, k64 0, noStr], [k64 240]]
/-! #### the document's -/
noncomputable abbrev eExR : Ent := eFn 19 [.agg [tE]] [.one .bool] [] 28
theorem eExR_ok : EntsOK Tryz.prog G theI [eExR] := ⟨eFn_ok plainG (pre_true fnExr) (fun _ => rfl) [] (by kernel_rfl), trivial⟩
noncomputable def pVr : Pln :=
  .ask (.at (.app 28 [.v 0]) (k64 0) 0)
    (.ask (.at (.app 117 [.v 0, .v 1, k64 0]) (k64 0) 0)
      (.know (.app 172 [.v 0, .v 1]) true (.know (lss (k64 0) (.len .emp)) false (.ask (.at (.app 116 evArgs) (k64 0) 0)
        (lastP (.at (.app 116 evArgs) (k64 0) 1))
        (.done [[k64 0, k64 0, noStr], [.at (.app 116 evArgs) (k64 0) 1]]))))
      badP)
    badP
theorem kVr : (hasB 8 && checkPlan [.agg tV, .one tI] (runI theI (entS [eExR]) [(5, SV1.L), (12, SV2.L)] [] 8 [.agg [tE], .one tRows]) [] pVr) = true := by kernel_rfl
/-! #### the program's -/
noncomputable def eVl : List Ent := [eFn 31 [.agg [tE]] [.one .bool] [] 28, eFn 15 [.agg [tE], .one tRows] [.one .bool] [] 29]
theorem eVl_ok : EntsOK Tryz.prog G theI eVl := ⟨eFn_ok plainG (pre_true fnExpr) (fun _ => rfl) [] (by kernel_rfl), eFn_ok plainG (pre_true fnPl) (fun _ => rfl) [] (by kernel_rfl), trivial⟩
noncomputable abbrev subV : SubL := [(18, []), (41, [(4, sRv.L)])]
noncomputable abbrev panV : PanL := [(41, 4, LPv)]
noncomputable abbrev errQ : SX := .app 171 evArgs
noncomputable def pVq : Pln :=
  .ask (.at (.app 28 [.v 0]) (k64 0) 0)
    (.ask (.at (.app 29 [.v 0, .v 1]) (k64 0) 0)
      (.know (.app 172 [.v 0, .v 1]) true (.know (lss (k64 0) (.len .emp)) false (.ask (eql errQ (k64 0))
        (lastP (.at (.app 115 evArgs) (k64 0) 1))
        (.done [[k64 0, k64 0, noStr], [errQ]]))))
      badP)
    badP
theorem kVq : (hasB 7 && checkPlan [.agg tV, .one tI] (runP theI (entS eVl) subV [] panV [] 7 [.agg [tE], .one tRows]) [] pVq) = true := by kernel_rfl
theorem subV_ok : SubsOK theI subV := ⟨noLoops, loops1 (by kernel_rfl) loopRv, trivial⟩
theorem panV_ok : PansOK theI panV := by
  intro x hx B hB hk
  simp only [List.mem_cons, List.not_mem_nil, or_false] at hx
  subst hx
  have hc : loopsIn (bodyOf 41) = [codeRv] := by kernel_rfl
  rw [hc] at hB
  simp only [List.mem_cons, List.not_mem_nil, or_false] at hB
  rw [hB]
  exact loopPv
section
variable {R : Rho} {l rows : List (List DV)}
theorem d_28 (hI : R.I = theI) (e0 : den R (.v 0) = .list l) : den R (.at (.app 28 [.v 0]) (k64 0) 0) = .bool (okFrom l 0 && decide (0 < l.length)) := by
  refine d_res (F := FexOK) (by rw [hI]; rfl) ?_
  simp only [List.map_cons, List.map_nil, e0]
  rfl
theorem d_172 (hI : R.I = theI) (e0 : den R (.v 0) = .list l) (e1 : den R (.v 1) = .list rows) : den R (.app 172 [.v 0, .v 1]) = .bool (okFrom l 0 && placedFrom l rows 0) := by
  rw [d_app, hI]
  simp only [List.map_cons, List.map_nil, e0, e1]
  rfl
theorem evArgs_den (e0 : den R (.v 0) = .list l) (e1 : den R (.v 1) = .list rows) : evArgs.map (den R) = [.list l, .list [], .int .i64 0, .list rows] := by
  simp only [List.map_cons, List.map_nil, e0, e1]
  rfl
end
theorem fnVq : FnOK Tryz.prog G 7 [.agg [tE], .one tRows] [.agg tV, .one tI] (fun _ => True) FqVal := by
  have hk := kVq
  rw [Bool.and_eq_true] at hk
  refine fn_runP (entS_ok eVl_ok) subV_ok [] panV_ok [] noLoops hk.1 pVq hk.2 fun ds h _ => ?_
  obtain ⟨l, rows, rfl, _, hr, _, hrw⟩ := er_of h
  have hI : (rhoOf theI ([[DV.list l], [.list rows]] : List (List DV)).flatten).I = theI := rfl
  have e0 : den (rhoOf theI ([[DV.list l], [.list rows]] : List (List DV)).flatten) (.v 0) = .list l := rfl
  have e1 : den (rhoOf theI ([[DV.list l], [.list rows]] : List (List DV)).flatten) (.v 1) = .list rows := rfl
  show goalPlan _ [(qVal l rows).1, [.int .i64 (qVal l rows).2]] _
  generalize rhoOf theI ([[DV.list l], [.list rows]] : List (List DV)).flatten = R at *
  have hm := evArgs_den e0 e1
  have d29 : den R (.at (.app 29 [.v 0, .v 1]) (k64 0) 0) = .bool (placedFrom l rows 0) := by
    refine d_res (F := Fplaced) (by rw [hI]; rfl) ?_
    simp only [List.map_cons, List.map_nil, e0, e1]
    rfl
  have dE : den R errQ = .int .i64 (evalN l rows l.length 0 []).2 := by
    rw [d_app, hm, hI]
    show DV.int .i64 (evalF _).2 = _
    rw [evalF_0]
  have dH := d_std (R := R) (f := 115) (F := FevL) (k := 1) (es := evArgs) hI (fun _ => rfl)
  rw [hm] at dH
  have dH : den R (.at (.app 115 evArgs) (k64 0) 1) = .list (evalN l rows l.length 0 []).1 := by
    rw [dH]
    show DV.list (evalF _).1 = _
    rw [evalF_0]
  refine goal_ask (d_28 hI e0) (fun q1 => goal_ask d29 (fun q2 => ?_) fun q2 => ?_) fun q1 => ?_
  · have hok : okFrom l 0 = true := (Bool.and_eq_true _ _ ▸ q1).1
    have hpos : 0 < l.length := of_decide_eq_true (Bool.and_eq_true _ _ ▸ q1).2
    refine goal_know (by rw [d_172 hI e0 e1, hok, q2]; rfl) (goal_know rfl (goal_ask (d_eql dE (d_k .i64 0)) (fun q3 => ?_) fun q3 => ?_))
    · have q3 : (evalN l rows l.length 0 []).2 = 0 := by simpa using q3
      obtain ⟨f1, f2⟩ := evalN_ok hok q2 hr hrw l.length 0 [] rfl (by omega) (by simp) q3
      rw [qVal_ok q1 q2 q3]
      have := last_goal dH (by omega) (by have := ok_len hok; omega) f2
      rw [f1] at this
      exact this
    · have q3 : (evalN l rows l.length 0 []).2 ≠ 0 := by simpa using q3
      rw [qVal_err q1 q2 q3]
      show _ = [[_, _, _], [den R errQ]]
      rw [dE]
      rfl
  · rw [qVal_bad (.inr q2)]
    rfl
  · rw [qVal_bad (.inl q1)]
    rfl
theorem fnVr : FnOK Tryz.prog G 8 [.agg [tE], .one tRows] [.agg tV, .one tI] (fun _ => True) FqVal := by
  have hk := kVr
  rw [Bool.and_eq_true] at hk
  refine fn_run (entS_ok eExR_ok) [(5, SV1.L), (12, SV2.L)] [] (loops2 (c1 := codeV1) (c2 := codeV2) (by kernel_rfl) (by kernel_rfl) (by kernel_rfl) (by decide) loopV1 loopV2) hk.1 pVr hk.2 fun ds h _ => ?_
  obtain ⟨l, rows, rfl, _, hr, _, hrw⟩ := er_of h
  have hI : (rhoOf theI ([[DV.list l], [.list rows]] : List (List DV)).flatten).I = theI := rfl
  have e0 : den (rhoOf theI ([[DV.list l], [.list rows]] : List (List DV)).flatten) (.v 0) = .list l := rfl
  have e1 : den (rhoOf theI ([[DV.list l], [.list rows]] : List (List DV)).flatten) (.v 1) = .list rows := rfl
  show goalPlan _ [(qVal l rows).1, [.int .i64 (qVal l rows).2]] _
  generalize rhoOf theI ([[DV.list l], [.list rows]] : List (List DV)).flatten = R at *
  have hm := evArgs_den e0 e1
  have hm3 : ([.v 0, .v 1, k64 0] : List SX).map (den R) = [.list l, .list rows, .int .i64 0] := by
    simp only [List.map_cons, List.map_nil, e0, e1]
    rfl
  have d117 := d_std (R := R) (f := 117) (F := FplL) (k := 0) (es := [.v 0, .v 1, k64 0]) hI (fun _ => rfl)
  rw [hm3] at d117
  have d117 : den R (.at (.app 117 [.v 0, .v 1, k64 0]) (k64 0) 0) = .bool (placedFrom l rows 0) := d117
  have dH := fun k => d_std (R := R) (f := 116) (F := Fev2L) (k := k) (es := evArgs) hI (fun _ => rfl)
  simp only [hm] at dH
  have hF : Fev2L [.list l, .list [], .int .i64 0, .list rows] = if (evalN l rows l.length 0 []).2 = 0 then (true, [.list (evalN l rows l.length 0 []).1]) else (false, [.int .i64 (evalN l rows l.length 0 []).2]) := rfl
  simp only [hF] at dH
  refine goal_ask (d_28 hI e0) (fun q1 => goal_ask d117 (fun q2 => ?_) fun q2 => ?_) fun q1 => ?_
  · have hok : okFrom l 0 = true := (Bool.and_eq_true _ _ ▸ q1).1
    have hpos : 0 < l.length := of_decide_eq_true (Bool.and_eq_true _ _ ▸ q1).2
    refine goal_know (by rw [d_172 hI e0 e1, hok, q2]; rfl) (goal_know rfl ?_)
    by_cases q3 : (evalN l rows l.length 0 []).2 = 0
    · simp only [if_pos q3] at dH
      obtain ⟨f1, f2⟩ := evalN_ok hok q2 hr hrw l.length 0 [] rfl (by omega) (by simp) q3
      refine goal_ask (dH 0) (fun _ => ?_) (fun h => by cases h)
      rw [qVal_ok q1 q2 q3]
      have := last_goal (dH 1) (by omega) (by have := ok_len hok; omega) f2
      rw [f1] at this
      exact this
    · simp only [if_neg q3] at dH
      refine goal_ask (dH 0) (fun h => by cases h) (fun _ => ?_)
      rw [qVal_err q1 q2 q3]
      show _ = [[_, _, _], [den R (.at (.app 116 evArgs) (k64 0) 1)]]
      rw [dH 1]
      rfl
  · rw [qVal_bad (.inr q2)]
    rfl
  · rw [qVal_bad (.inl q1)]
    rfl
end Go.Proofs.YtholilpmihngaaaGreatDoor
namespace Go.Proofs.YtholilpmihngaaaGreatDoor
open Go Go.AM
/-! ### wakes: the closed run as a contract -/
theorem io_of {w w' : World} (h1 : w'.os = w.os) (h2 : w'.output = w.output) : ioOf w' = ioOf w := by
  unfold ioOf; rw [h1, h2]
theorem upB_tab : ∀ n : Fin 256, upB (UInt8.ofNat n.val) = Lib.upperB (UInt8.ofNat n.val) := by decide +kernel
theorem upB_eq (b : UInt8) : upB b = Lib.upperB b := by
  have := upB_tab ⟨b.toNat, b.toNat_lt⟩
  simpa only [UInt8.ofNat_toNat] using this
theorem cmpB_eq : ∀ a b : List UInt8, cmpB a b = Lib.compareBytes a b
  | [], [] => rfl
  | [], _ :: _ => rfl
  | _ :: _, [] => rfl
  | a :: xs, b :: ys => by
    have hc : cmpB (a :: xs) (b :: ys) = bif Nat.beq a.toNat b.toNat then cmpB xs ys else bif Nat.blt a.toNat b.toNat then -1 else 1 := rfl
    have hd : Lib.compareBytes (a :: xs) (b :: ys) = if a.toNat < b.toNat then -1 else if b.toNat < a.toNat then 1 else Lib.compareBytes xs ys := rfl
    rw [hc, hd, cmpB_eq xs ys]
    by_cases h : a.toNat = b.toNat
    · have h1 : Nat.beq a.toNat b.toNat = true := by rw [Nat.beq_eq]; exact h
      rw [h1, if_neg (by omega), if_neg (by omega)]
      rfl
    · have h1 : Nat.beq a.toNat b.toNat = false := by rw [← Bool.not_eq_true, Nat.beq_eq]; exact h
      rw [h1]
      by_cases h2 : a.toNat < b.toNat
      · have h3 : Nat.blt a.toNat b.toNat = true := by simp only [Nat.blt, Nat.ble_eq]; omega
        rw [h3, if_pos h2]
        rfl
      · have h3 : Nat.blt a.toNat b.toNat = false := by rw [← Bool.not_eq_true]; simp only [Nat.blt, Nat.ble_eq]; omega
        rw [h3, if_neg h2, if_pos (by omega)]
        rfl
theorem spCmp_ok : @CallOK O0 Tryz.prog G (fun g args h => if g = 198 then spCmp args h else none) := by
  intro g args h av h' hs
  simp only at hs
  split at hs
  · rename_i e
    subst e
    refine ⟨hasB_ok (by kernel_rfl), fun m vs w hv hr hg => ?_⟩
    unfold spCmp at hs
    split at hs
    · rename_i a b
      cases hs
      simp only [VL, V] at hv
      obtain ⟨v, us, e1, rfl, u, us', rfl, rfl, rfl⟩ := hv
      have hvs : vs = #[.string a, .string b] := by apply Array.ext'; simpa using e1
      subst hvs
      refine (Tryz.strings_Compare a b w).mono ?_
      rintro e w' ⟨rfl, rfl⟩
      refine ⟨_, m, rfl, .refl m, ?_, hr⟩
      simp only [V]
      rw [cmpB_eq]
    · cases hs
  · cases hs
theorem spUp_ok : @CallOK O0 Tryz.prog G (fun g args h => if g = 185 then spUp args h else none) := by
  intro g args h av h' hs
  simp only at hs
  split at hs
  · rename_i e
    subst e
    refine ⟨hasB_ok (by kernel_rfl), fun m vs w hv hr hg => ?_⟩
    unfold spUp at hs
    split at hs
    · rename_i s
      split at hs
      · rename_i hc
        cases hs
        simp only [Bool.and_eq_true, List.all_eq_true, Nat.ble_eq] at hc
        simp only [VL, V] at hv
        obtain ⟨v, us, e1, rfl, rfl⟩ := hv
        have hvs : vs = #[.string s] := by apply Array.ext'; simpa using e1
        subst hvs
        refine (Tryz.strings_ToUpper_ascii s w (by omega) ?_).mono ?_
        · intro j b hb
          have := hc.1 b (List.mem_iff_getElem?.2 ⟨j, hb⟩)
          simp only [Nat.blt, Nat.ble_eq] at this
          omega
        · rintro e w' ⟨rfl, hb⟩
          refine ⟨_, m, rfl, .refl m, ?_, hr.grow hb.block (io_of hb.os hb.output)⟩
          simp only [V]
          have : s.data.toList.map upB = Lib.toUpperA s.data.toList := List.map_congr_left fun b _ => upB_eq b
          rw [this]
      · cases hs
    · cases hs
  · cases hs
theorem spec0_ok : @SpecOK O0 Tryz.prog G spec0 := by
  intro f sp h
  unfold spec0 at h
  split at h <;> cases h
  · exact spUp_ok
  · exact spCmp_ok
/-- A table, by the runs of its rows. -/
theorem tab_all {spec : FuncId → Option (List AV → AHeap → Out)} (hs : @SpecOK O0 Tryz.prog G spec) {f : FuncId} {tab : List (List AV × AV)} (h : tab.all (fun r => rowX (@callA O0 Tryz.prog G spec 1000000 f r.1 heap0) r.2) = true) :
    @CallOK O0 Tryz.prog G (fun g args h => if g = f then tabX tab args h else none) :=
  @tabX_ok O0 _ _ _ (@callA_ok O0 Tryz.prog G hmix hNum spec hs 1000000) plainG f tab fun r hr => List.all_eq_true.1 h r hr
theorem spec1_ok : @SpecOK O0 Tryz.prog G spec1 := by
  intro f sp h
  unfold spec1 at h
  split at h <;> cases h
  · exact spUp_ok
  · exact spCmp_ok
  · exact tab_all spec0_ok keyRun
theorem spec2_ok : @SpecOK O0 Tryz.prog G spec2 := by
  intro f sp h
  unfold spec2 at h
  split at h <;> cases h
  · exact spUp_ok
  · exact spCmp_ok
  · exact tab_all spec0_ok keyRun
  · exact tab_all spec1_ok nameRun
theorem spec3_ok : @SpecOK O0 Tryz.prog G spec3 := by
  intro f sp h
  unfold spec3 at h
  split at h <;> cases h
  · exact spUp_ok
  · exact spCmp_ok
  · exact tab_all spec0_ok keyRun
  · exact tab_all spec1_ok nameRun
  · exact tab_all spec2_ok firstRun
  · exact tab_all spec0_ok blankRun
  · exact tab_all spec0_ok checkRun
  · exact tab_all spec0_ok compRun
theorem isTrue_some {o : Out} (h : isTrue o = true) : ∃ hx, o = some (.sc (.bool true), hx) := by
  unfold isTrue at h
  split at h
  · exact ⟨_, rfl⟩
  · cases h
noncomputable def frz (w : World) : Env := Go.AM.frozen (Rho.mk (fun _ => DV.bool false) (fun _ _ => DV.bool false)) w
theorem wakes_some : ∃ hx, @callA O0 Tryz.prog G spec3 1000000 4 [] heap0 = some (.sc (.bool true), hx) := isTrue_some wakesRun
theorem VC_emono {m m' : Env} (hE : ∀ b o v, m.ecell b o = some v → m'.ecell b o = some v) {b : Nat} : ∀ {cs : List AV} {o : Nat}, (∀ c ∈ cs, ∃ u, c = AV.sc u) → VC m b o cs → VC m' b o cs
  | [], _, _, _ => by simp [VC]
  | c :: cs, o, hp, hv => by
    simp only [VC] at hv ⊢
    obtain ⟨⟨v, h1, h2⟩, h3⟩ := hv
    obtain ⟨u, rfl⟩ := hp c (by simp)
    exact ⟨⟨v, hE _ _ _ h1, by simpa [V] using h2⟩, VC_emono hE (fun c hc => hp c (List.mem_cons_of_mem _ hc)) h3⟩
theorem fnWakes : FnOK Tryz.prog G 4 [] [.one .bool] (fun _ => True) Ftrue := by
  obtain ⟨hx, hrun⟩ := wakes_some
  have hok := @callA_ok O0 Tryz.prog G hmix hNum spec3 spec3_ok 1000000 _ _ _ _ _ hrun
  refine ⟨hok.1, fun E ds vs w hE hr _ hg => ?_⟩
  simp only [RepArgs] at hr
  obtain ⟨rfl, hvs⟩ := hr
  have hvs : vs = #[] := by apply Array.ext'; simpa using hvs
  subst hvs
  have hEc : ∀ b o v, (envE E).ecell b o = some v → (frz w).ecell b o = some v := by
    intro b o v h
    unfold Env.ecell at *
    cases hb : (envE E).E b with
    | none => rw [hb] at h; simp at h
    | some x =>
      rw [hb] at h
      have : w.heap[b]? = some x := hE b x hb
      simp only [frz, Go.AM.frozen, this]
      exact h
  refine (hok.2 (frz w) #[] w (by simp [VL]) (HR.frozen _ w) (@GOK.mk O0 _ _ (fun g cs e => VC_emono hEc (plainG g cs e) (hg g cs e)) (noFacts_ok _))).mono ?_
  rintro e w' ⟨v, m', rfl, k1, k2, k3⟩
  simp only [V] at k2
  subst k2
  have old : ∀ b, b < w.heap.size → w'.heap[b]? = w.heap[b]? := by
    intro b hb
    have e1 : (frz w).E b = some w.heap[b] := Array.getElem?_eq_getElem hb
    rw [k3.E b _ (k1.E b _ e1), Array.getElem?_eq_getElem hb]
  refine ⟨_, E, rfl, ⟨fun _ _ h => h, fun b o h => ⟨?_, .inl h⟩, old, k3.io.trans k1.io⟩, [.bool true], rfl, .bool true, rfl, ?_⟩
  · have h1 := hE b o h
    rw [old b (Array.getElem?_eq_some_iff.1 h1).1]
    exact h1
  · simp only [Rep]
    exact ⟨true, rfl, rfl⟩
end Go.Proofs.YtholilpmihngaaaGreatDoor
namespace Go.Proofs.YtholilpmihngaaaGreatDoor
open Go Go.AM
/-! ### the law -/
abbrev tEx : Ty := .slice [tE]
noncomputable def eLw : List Ent := [eFn 6 [.agg [tE]] [.agg [tE]] [] 40, eFn 7 [.agg [tE], .one tRows] [.agg tV, .one tI] [] 70, eFn 8 [.agg [tE], .one tRows] [.agg tV, .one tI] [] 70]
theorem eLw_ok : EntsOK Tryz.prog G theI eLw := ⟨eFn_ok plainG (pre_true fnXp) (fun _ => rfl) [] (by kernel_rfl), eFn_ok plainG (pre_true fnVq) (fun _ => rfl) [] (by kernel_rfl), eFn_ok plainG (pre_true fnVr) (fun _ => rfl) [] (by kernel_rfl), trivial⟩
noncomputable def TLw : Tmpl := { tm := [(1, .sy tRows (.v 1)), (16, .sy tEx (.v 0)), (17, .sy tI (.len (.v 0))), (18, .sy tI (.v 2))], src := [.tm 16 tEx, .tm 1 tRows, .tm 18 tI] }
noncomputable def SLw : StdL := { n := 49, T := TLw, tys := [tEx, tRows, tI], pre := [(eql (.v 2) (k64 0), true)], f := 118, yes := (.exit 0, { tm := [] }, 0) }
noncomputable abbrev codeLw : Code := loopAt 3 0
noncomputable def rLw : RPln :=
  .ask (lss (.v 2) (.len (.v 0))) (.know (lss (.v 2) (k64 0)) false (.ask (eql (.v 2) (k64 12)) (.exit true []) (.next [.v 0, .v 1, add (.v 2) (k64 1)]))) (.exit true [])
theorem okLw : (SLw.ok && (planOK SLw rLw && checkRound SLw.L (roundS theI (entS eLw) [] [] codeLw) [] rLw)) = true := by kernel_rfl
def InvLw (ds : List DV) : Prop := ∃ l rows i, ds = [.list l, .list rows, .int .i64 i] ∧ 0 ≤ i ∧ i ≤ l.length ∧ l.length ≤ maxLen
theorem loopLw : LoopOK Tryz.prog G theI codeLw SLw.L := by
  refine loop_std (F := FlawL) (Inv := InvLw) (μ := muXp) (entS_ok eLw_ok) (sub := []) trivial (lps := []) noLoops (fun _ => rfl) rLw okLw ?_ ?_
  · intro ds h hp
    simp only [SLw, IsL] at h
    obtain ⟨d0, _, rfl, h0, d1, _, rfl, h1, d2, _, rfl, h2, rfl⟩ := h
    obtain ⟨l, rfl, hl, _⟩ := Is.lst h0
    obtain ⟨rows, rfl, _⟩ := Is.lst h1
    obtain ⟨i, rfl, _⟩ := h2.i64
    have p1 := hp (eql (.v 2) (k64 0), true) (by simp [SLw])
    have e2 : den (rhoOf theI [DV.list l, .list rows, .int .i64 i]) (.v 2) = .int .i64 i := rfl
    rw [d_eql e2 (d_k .i64 0)] at p1
    simp only [DV.bool.injEq, decide_eq_true_eq] at p1
    exact ⟨l, rows, i, rfl, by omega, by omega, hl⟩
  · rintro ds ⟨l, rows, i, rfl, hi0, hi1, hl⟩
    have hmx := maxLen_lt
    generalize hR : rhoOf theI [DV.list l, .list rows, .int .i64 i] = R
    have e0 : den R (.v 0) = .list l := by rw [← hR]; rfl
    have e1 : den R (.v 1) = .list rows := by rw [← hR]; rfl
    have e2 : den R (.v 2) = .int .i64 i := by rw [← hR]; rfl
    show goalR 0 FlawL _ _ R _ rLw
    unfold rLw
    refine r_ask (d_lss e2 (d_lenL e0)) (fun h => ?_) (fun h => rfl)
    simp only [decide_eq_true_eq] at h
    have hadd := d_add (R := R) e2 (d_k .i64 1) (by omega) (by omega)
    refine r_know (by rw [d_lss e2 (d_k .i64 0), decide_eq_false (by omega)]) (r_ask (d_eql e2 (d_k .i64 12)) (fun _ => rfl) (fun _ => ?_))
    have hτ : ([.v 0, .v 1, add (.v 2) (k64 1)] : List SX).map (den R) = [.list l, .list rows, .int .i64 (i + 1)] := by
      simp only [List.map_cons, List.map_nil, e0, e1, hadd]
      rfl
    show InvLw _ ∧ muXp _ < muXp _ ∧ FlawL _ = FlawL _
    rw [hτ]
    refine ⟨⟨l, rows, i + 1, rfl, by omega, by omega, hl⟩, ?_, rfl⟩
    show l.length - (i + 1).toNat < l.length - i.toNat
    omega
noncomputable abbrev eWk : Ent := eFn 4 [] [.one .bool] [] 6
noncomputable def pLw : Pln := .ask (.at (.app 6 []) (k64 0) 0) (.know (lss (k64 1000) (k64 3)) false (.done [[.kb true]])) (.done [[.kb false]])
theorem kLw : (hasB 3 && checkPlan [.one .bool] (runI theI (entS (eWk :: eRows :: eLw)) [(6, SLw.L)] [] 3 [.one tEx, .one tRows]) [] pLw) = true := by kernel_rfl
theorem fnLaw (hw : FnOK Tryz.prog G 4 [] [.one .bool] (fun _ => True) Ftrue) : FnOK Tryz.prog G 3 [.one tEx, .one tRows] [.one .bool] (fun _ => True) Ftrue := by
  have hk := kLw
  rw [Bool.and_eq_true] at hk
  refine fn_run (entS_ok (l := eWk :: eRows :: eLw) ⟨eFn_ok plainG (pre_true hw) (fun _ => rfl) [] (by kernel_rfl), eRows_ok.1, eLw_ok⟩) [(6, SLw.L)] [] (loops1 (by kernel_rfl) loopLw) hk.1 pLw hk.2 fun ds h _ => ?_
  simp only [IsArgs, IsOne] at h
  obtain ⟨_, _, rfl, ⟨d1, rfl, h1⟩, _, _, rfl, ⟨d2, rfl, h2⟩, rfl⟩ := h
  have hI : (rhoOf theI ([[d1], [d2]] : List (List DV)).flatten).I = theI := rfl
  show goalPlan _ [[.bool true]] _
  generalize rhoOf theI ([[d1], [d2]] : List (List DV)).flatten = R at *
  refine goal_ask (b := true) ?_ (fun _ => goal_know rfl rfl) (fun h => by cases h)
  exact d_res (F := Ftrue) (by rw [hI]; rfl) rfl
end Go.Proofs.YtholilpmihngaaaGreatDoor
