/-
  A part of the proof of ClientTells (the machine on named data, and the contracts of the functions that the law reaches): Kf17 Kf18 Kf19 Kf20.
-/
import Derived.Test.YteoindgcjoldhaaGreatDoorKe
set_option linter.all false
set_option linter.unusedVariables false
set_option linter.unusedSimpArgs false
set_option linter.unusedSectionVars false
namespace Go.Proofs.YteoindgcjoldhaaGreatDoor
open Go Go.AM
noncomputable def p66 : Pln :=
  (.ask (.bin .lss (.v 0) (.v 65))
    (.done [[(.ki .i64 (.negSucc 0))]])
    (.ask (.bin .lss (.v 65) (.v 0))
      (.done [[(.ki .i64 (.ofNat 1))]])
      (.done [[(.ki .i64 (.ofNat 0))]])))
theorem c66 : checkPlan [.one tI] (fun facts => @callL (mkO facts theI) Tryz.prog G noSpec 100 (fun _ => none) 66 (mkArgs 0 [.agg tDig, .one tU64]) heap0) [] p66 = true := by kernel_rfl
theorem bs_more (es : List (List DV)) (t : Int) : ∀ (n m : Nat) (i j : Int), 0 ≤ i → j - i ≤ n → j - i ≤ m → bs es t n i j = bs es t m i j
  | 0, 0, i, j, _, _, _ => rfl
  | 0, m + 1, i, j, _, h, _ => by simp only [bs]; rw [if_neg (by omega)]
  | n + 1, 0, i, j, _, _, h => by simp only [bs]; rw [if_neg (by omega)]
  | n + 1, m + 1, i, j, h0, h1, h2 => by
    simp only [bs]
    by_cases hlt : i < j
    · rw [if_pos hlt, if_pos hlt]
      by_cases hc : ix es ((i + j) / 2).toNat < t
      · rw [if_pos hc, if_pos hc]
        exact bs_more es t n m _ _ (by omega) (by omega) (by omega)
      · rw [if_neg hc, if_neg hc]
        exact bs_more es t n m _ _ (by omega) (by omega) (by omega)
    · rw [if_neg hlt, if_neg hlt]
noncomputable def midS : SX := .conv .i64 (.bin .shr (.conv .u64 (.bin .add (.v 2) (.v 3))) (.ki .u64 (.ofNat 1)))
noncomputable def cellsM : List SX := (List.range 65).map fun k => .at (.v 0) midS k
noncomputable def cA : SX := .bin .lss (.at (.app 66 (cellsM ++ [.v 1])) (.ki .i64 (.ofNat 0)) 0) (.ki .i64 (.ofNat 0))
noncomputable def T65 : Tmpl := ⟨[(0, .sy (.slice tDig) (.v 0)), (1, .sy tU64 (.v 1)), (2, .sc (.func (.func 66) #[] #[])), (8, .sy tI (.len (.v 0))), (9, .sy tI (.v 2)), (10, .sy tI (.v 3))], []⟩
noncomputable def Y65 : Tmpl := ⟨[(0, .sy (.slice tDig) (.v 0)), (1, .sy tU64 (.v 1)), (2, .sc (.func (.func 66) #[] #[])), (8, .sy tI (.len (.v 0))), (9, .sy tI (.v 2))], []⟩
noncomputable def L65 : LoopSp :=
  { n := 49, T := T65, src := [.tm 0 (.slice tDig), .tm 1 tU64, .tm 9 tI, .tm 10 tI], pre := [(.bin .lss (.v 2) zeroS, false), (.bin .lss (.v 3) (.v 2), false), (.bin .lss (.len (.v 0)) (.v 3), false), (.bin .lss (.ki .i64 (.ofNat 1000000)) (.len (.v 0)), false)], cnd := .kb true,
    yes := (.exit 0, Y65.sub [.v 0, .v 1, .app 1065 [.v 0, .v 1, .v 2, .v 3]]), no := (.exit 0, Y65.sub [.v 0, .v 1, .app 1065 [.v 0, .v 1, .v 2, .v 3]]) }
noncomputable def sp10 (O : Orc) : FuncId → Option (List AV → AHeap → Out)
  | 66 => some (@symSp O [.agg tDig, .one tU64] [.one tI] [] 66)
  | _ => none
noncomputable def run65 (facts : List (SX × Bool)) (s : St) : Run := @codeL (mkO facts theI) Tryz.prog G (sp10 (mkO facts theI)) 100 (fun _ => none) (loop1 65) s
noncomputable def m1 : List (SX × Bool) := [(.bin .lss (.v 2) (.v 3), false)]
noncomputable def m2 (b : Bool) : List (SX × Bool) := [(cA, b), (.bin .lss (.v 2) (.v 3), true), (.bin .lss midS zeroS, false), (.bin .lss midS (.len (.v 0)), true)]
noncomputable def nxT : List SX := [.v 0, .v 1, .bin .add midS (.ki .i64 (.ofNat 1)), .v 3]
noncomputable def nxF : List SX := [.v 0, .v 1, .v 2, midS]
theorem s1 : stepExit L65 Y65 (.exit 0) [.v 0, .v 1, .v 2] (run65 m1 (L65.T.st L65.n)) = true := by kernel_rfl
theorem s2 : stepNext L65 nxT (run65 (m2 true) (L65.T.st L65.n)) = true := by kernel_rfl
theorem s3 : stepNext L65 nxF (run65 (m2 false) (L65.T.st L65.n)) = true := by kernel_rfl
theorem one65 : (loopsIn (bodyOf 65)).length = 1 := by kernel_rfl
theorem dig_args {m : Env} {ds : List (List DV)} {vs : List Value} (h : RepArgs m [.agg tDig, .one tU64] ds vs) : ∃ a r t, ds = [.int .u64 a :: r, [.int .u64 t]] ∧ r.length = 64 := by
  simp only [RepArgs, RepOne] at h
  obtain ⟨_, _, _, _, rfl, rfl, ⟨_, rfl, h1⟩, _, _, _, _, rfl, rfl, ⟨_, rfl, h2⟩, rfl, rfl⟩ := h
  have hl := h1.length
  simp only [tDig, RepV] at h1
  obtain ⟨d, r, _, _, rfl, _, h3, _⟩ := h1
  simp only [Rep] at h3 h2
  obtain ⟨a, rfl, _⟩ := h3
  obtain ⟨t, rfl, _⟩ := h2
  have : tDig.length = 65 := rfl
  rw [this] at hl
  exact ⟨a, r, t, rfl, by simpa using hl⟩
theorem fn66 : FnOK Tryz.prog G 66 [.agg tDig, .one tU64] [.one tI] (fun _ => True) F66 := by
  refine fn_run (I := theI) (spec := fun _ => noSpec) (fun O _ => noSpec_ok O) (by kernel_rfl) p66 c66 ?_
  intro E ds vs h _
  obtain ⟨a, r, t, rfl, hr⟩ := dig_args h
  have h0 : (rhoOf theI [DV.int .u64 a :: r, [DV.int .u64 t]].flatten).ρ 0 = .int .u64 a := rfl
  have h65 : (rhoOf theI [DV.int .u64 a :: r, [DV.int .u64 t]].flatten).ρ 65 = .int .u64 t := by
    simp [rhoOf, List.getElem?_append, hr]
  have hF : F66 [DV.int .u64 a :: r, [DV.int .u64 t]].flatten = [[.int .i64 (cmpZ a t)]] := by
    have e0 : iD [DV.int .u64 a :: r, [DV.int .u64 t]].flatten 0 = a := by
      have := h0; simp only [rhoOf] at this; simp only [iD, this]
    have e1 : iD [DV.int .u64 a :: r, [DV.int .u64 t]].flatten 65 = t := by
      have := h65; simp only [rhoOf] at this; simp only [iD, this]
    simp only [F66, e0, e1]
  rw [hF]
  generalize rhoOf theI [DV.int .u64 a :: r, [DV.int .u64 t]].flatten = R at *
  simp only [p66, goalPlan, den, h0, h65, binD, List.map_cons, List.map_nil]
  simp [cmpZ]
  refine ⟨fun h => ?_, fun h => ⟨fun h2 => ?_, fun h2 => ?_⟩⟩
  · intro g; omega
  · omega
  · omega
theorem sp10_ok (O : Orc) (hO : O.I = theI) : SpecOK Tryz.prog G (sp10 O) := by
  intro f sp h
  unfold sp10 at h
  split at h <;> cases h
  exact spec_one fn66 fun ds => by rw [hO]; rfl
theorem midS_den {R : Rho} {i j : Int} (h2 : R.ρ 2 = .int .i64 i) (h3 : R.ρ 3 = .int .i64 j) (g1 : 0 ≤ i) (g2 : i ≤ j) (g3 : j ≤ 1000000) : den R midS = .int .i64 ((i + j) / 2) := by
  simp only [midS, den, h2, h3, binD, convD]
  have e0 : IntKind.i64.wrap (i + j) = i + j := wrap_i64 (by omega) (by unfold maxLen; omega)
  rw [e0]
  have e1 : IntKind.u64.wrap (i + j) = i + j := by rw [IntKind.wrap_u64]; omega
  rw [e1]
  have e2 : (i + j).fdiv (2 ^ min (Int.ofNat 1).toNat IntKind.u64.bits) = (i + j) / 2 := by
    show (i + j).fdiv (2 ^ 1) = _
    rw [Int.fdiv_eq_ediv_of_nonneg _ (by omega)]
    rfl
  have e4 : IntKind.i64.wrap ((i + j) / 2) = (i + j) / 2 := wrap_i64 (by omega) (by unfold maxLen; omega)
  rw [e2, e4]
theorem cA_den {R : Rho} {es : List (List DV)} {t i j : Int} (hI : R.I = theI) (h0 : R.ρ 0 = .list es) (h1 : R.ρ 1 = .int .u64 t) (h2 : R.ρ 2 = .int .i64 i) (h3 : R.ρ 3 = .int .i64 j) (g1 : 0 ≤ i) (g2 : i < j) (g3 : j ≤ es.length) (g4 : es.length ≤ 1000000) (hd : Digs es) :
    den R cA = .bool (decide (ix es ((i + j) / 2).toNat < t)) := by
  have hm := midS_den h2 h3 g1 (by omega) (by omega)
  have hrow := digs_ix hd (j := ((i + j) / 2).toNat) (by omega)
  have hl : (cellsM ++ [SX.v 1]).map (den R) = (List.range 65).map (fun k => (es.getD ((i + j) / 2).toNat []).getD k (.bool false)) ++ [.int .u64 t] := by
    rw [List.map_append]
    congr 1
    · unfold cellsM
      rw [List.map_map]
      refine List.map_congr_left fun k _ => ?_
      simp only [Function.comp, den, h0, hm, atD]
    · simp only [List.map_cons, List.map_nil, den, h1]
  have happ : den R (.app 66 (cellsM ++ [.v 1])) = .list [[.int .i64 (cmpZ (ix es ((i + j) / 2).toNat) t)]] := by
    simp only [den, denL_map, hl, hI]
    show DV.list (F66 _) = _
    have e0 : iD ((List.range 65).map (fun k => (es.getD ((i + j) / 2).toNat []).getD k (.bool false)) ++ [DV.int .u64 t]) 0 = ix es ((i + j) / 2).toNat := by
      have : ((List.range 65).map (fun k => (es.getD ((i + j) / 2).toNat []).getD k (.bool false)) ++ [DV.int .u64 t]).getD 0 (.bool false) = (es.getD ((i + j) / 2).toNat []).getD 0 (.bool false) := rfl
      simp only [iD, this, hrow]
    have e1 : iD ((List.range 65).map (fun k => (es.getD ((i + j) / 2).toNat []).getD k (.bool false)) ++ [DV.int .u64 t]) 65 = t := by
      have : ((List.range 65).map (fun k => (es.getD ((i + j) / 2).toNat []).getD k (.bool false)) ++ [DV.int .u64 t]).getD 65 (.bool false) = .int .u64 t := rfl
      simp only [iD, this]
    simp only [F66, e0, e1]
  show binD .lss (atD (den R (.app 66 (cellsM ++ [.v 1]))) (.int .i64 0) 0) (.int .i64 0) = _
  rw [happ]
  simp only [atD, binD, cmpZ]
  by_cases h : ix es ((i + j) / 2).toNat < t
  · simp [h]
  · by_cases h' : t < ix es ((i + j) / 2).toNat <;> simp [h, h']
def inv65 (R : Rho) : Prop := ∃ es t i j, R.ρ 0 = .list es ∧ R.ρ 1 = .int .u64 t ∧ R.ρ 2 = .int .i64 i ∧ R.ρ 3 = .int .i64 j ∧ 0 ≤ i ∧ i ≤ j ∧ j ≤ es.length ∧ es.length ≤ 1000000 ∧ Digs es
def mu65 (R : Rho) : Nat := match R.ρ 2, R.ρ 3 with
  | .int _ i, .int _ j => (j - i).toNat
  | _, _ => 0
theorem noLoops65 : LoopsOK Tryz.prog G theI (fun _ => none) (loop1 65) := fun _ _ _ h => by cases h
theorem lk65 : LoopOK Tryz.prog G theI (loop1 65) L65 := by
  refine loop_ind (spec := sp10) hmix hNum sp10_ok plainG 100 noLoops65 (by kernel_rfl) inv65 mu65 ?_ ?_
  · intro m a w hr hp
    obtain ⟨_, z2, _, _, _⟩ := hr
    have h0 := z2 0
    have h1 := z2 1
    have h2 := z2 9
    have h3 := z2 10
    have e0 : ((L65.T.st L65.n).tm.get 0).getD (.sc undef) = .sy (.slice tDig) (.v 0) := by kernel_rfl
    have e1 : ((L65.T.st L65.n).tm.get 1).getD (.sc undef) = .sy tU64 (.v 1) := by kernel_rfl
    have e2 : ((L65.T.st L65.n).tm.get 9).getD (.sc undef) = .sy tI (.v 2) := by kernel_rfl
    have e3 : ((L65.T.st L65.n).tm.get 10).getD (.sc undef) = .sy tI (.v 3) := by kernel_rfl
    rw [e0] at h0
    rw [e1] at h1
    rw [e2] at h2
    rw [e3] at h3
    simp only [V, den] at h0 h1 h2 h3
    obtain ⟨es, d0, hd⟩ := rep_digs h0
    simp only [Rep] at h1 h2 h3
    obtain ⟨t, d1, _⟩ := h1
    obtain ⟨i, d2, _⟩ := h2
    obtain ⟨j, d3, _⟩ := h3
    have p1 := hp (.bin .lss (.v 2) zeroS, false) (by simp [L65])
    have p2 := hp (.bin .lss (.v 3) (.v 2), false) (by simp [L65])
    have p3 := hp (.bin .lss (.len (.v 0)) (.v 3), false) (by simp [L65])
    have p4 := hp (.bin .lss (.ki .i64 (.ofNat 1000000)) (.len (.v 0)), false) (by simp [L65])
    simp [den, d0, d2, d3, zeroS, binD, lenD] at p1 p2 p3 p4
    exact ⟨es, t, i, j, d0, d1, d2, d3, p1, p2, p3, by omega, hd⟩
  · rintro R hI ⟨es, t, i, j, h0, h1, h2, h3, g1, g2, g3, g4, hd⟩
    have happ : ∀ R' : Rho, R'.I = theI → ∀ i' j', R'.ρ 0 = .list es → R'.ρ 1 = .int .u64 t → R'.ρ 2 = .int .i64 i' → R'.ρ 3 = .int .i64 j' → den R' (.app 1065 [.v 0, .v 1, .v 2, .v 3]) = .int .i64 (bs es t (j' - i').toNat i' j') := by
      intro R' hI i' j' e0 e1 e2 e3
      simp only [den, den.denL, e0, e1, e2, e3, hI]
      rfl
    have hm := midS_den h2 h3 g1 g2 (by omega)
    by_cases hlt : i < j
    · have hA := cA_den hI h0 h1 h2 h3 g1 hlt g3 g4 hd
      have hin : ∀ b, decide (ix es ((i + j) / 2).toNat < t) = b → ∀ q ∈ m2 b, den R q.1 = .bool q.2 := by
        intro b hb q hq
        simp only [m2, List.mem_cons, List.not_mem_nil, or_false] at hq
        rcases hq with rfl | rfl | rfl | rfl
        · rw [hA, hb]
        · simp [den, h2, h3, binD, hlt]
        · simp only [den, hm, zeroS, binD]; simp; omega
        · simp only [den, hm, h0, lenD, binD]; simp; omega
      have hx : ∀ (τ : List SX) (i' j' : Int), (R.sub τ).ρ 0 = .list es → (R.sub τ).ρ 1 = .int .u64 t → (R.sub τ).ρ 2 = .int .i64 i' → (R.sub τ).ρ 3 = .int .i64 j' → bs es t (j' - i').toNat i' j' = bs es t (j - i).toNat i j → ∀ b, den R L65.cnd = .bool b → ∀ x ∈ (L65.pick b).2.sxs, den (R.sub τ) x = den R x := by
        intro τ i' j' e0 e1 e2 e3 hbs b _ x hx
        have hx' : x = .v 0 ∨ x = .v 1 ∨ x = .len (.v 0) ∨ x = .app 1065 [.v 0, .v 1, .v 2, .v 3] := by
          have : x ∈ ([.v 0, .v 1, .len (.v 0), .app 1065 [.v 0, .v 1, .v 2, .v 3]] : List SX) := by
            cases b <;> simpa [L65, LoopSp.pick, Y65, Tmpl.sub, Tmpl.sxs, substTm, substAV, subst, subst.substs, sxsTm, sxsOb, sxs, substOb] using hx
          simpa using this
        rcases hx' with rfl | rfl | rfl | rfl
        · simp only [den, e0, h0]
        · simp only [den, e1, h1]
        · simp only [den, e0, h0]
        · rw [happ (R.sub τ) hI i' j' e0 e1 e2 e3, happ R hI i j h0 h1 h2 h3, hbs]
      have hstep : bs es t (j - i).toNat i j = if ix es ((i + j) / 2).toNat < t then bs es t ((j - i).toNat - 1) ((i + j) / 2 + 1) j else bs es t ((j - i).toNat - 1) i ((i + j) / 2) := by
        obtain ⟨n, hn⟩ : ∃ n, (j - i).toNat = n + 1 := ⟨(j - i).toNat - 1, by omega⟩
        rw [hn]
        simp only [bs, Nat.add_sub_cancel]
        rw [if_pos hlt]
      by_cases hc : ix es ((i + j) / 2).toNat < t
      · have r2 : (R.sub nxT).ρ 2 = .int .i64 ((i + j) / 2 + 1) := by
          show den R (.bin .add midS (.ki .i64 (.ofNat 1))) = _
          simp only [den, hm, binD]
          show DV.int .i64 (IntKind.i64.wrap ((i + j) / 2 + 1)) = _
          rw [wrap_i64 (by omega) (by unfold maxLen; omega)]
        refine StepOK.next nxT (m2 true) s2 (hin true (by simp [hc])) ⟨es, t, (i + j) / 2 + 1, j, h0, h1, r2, h3, by omega, by omega, g3, g4, hd⟩ ?_ rfl (hx nxT _ j h0 h1 r2 h3 ?_)
        · have r3 : (R.sub nxT).ρ 3 = .int .i64 j := h3
          simp only [mu65, r2, r3, h2, h3]
          omega
        · rw [hstep, if_pos hc]
          exact bs_more es t _ _ _ _ (by omega) (by omega) (by omega)
      · have r3 : (R.sub nxF).ρ 3 = .int .i64 ((i + j) / 2) := hm
        refine StepOK.next nxF (m2 false) s3 (hin false (by simp [hc])) ⟨es, t, i, (i + j) / 2, h0, h1, h2, r3, g1, by omega, by omega, g4, hd⟩ ?_ rfl (hx nxF i _ h0 h1 h2 r3 ?_)
        · have r2 : (R.sub nxF).ρ 2 = .int .i64 i := h2
          simp only [mu65, r2, r3, h2, h3]
          omega
        · rw [hstep, if_neg hc]
          exact bs_more es t _ _ _ _ (by omega) (by omega) (by omega)
    · refine StepOK.exit (T' := Y65) (e := .exit 0) (outs := [.v 0, .v 1, .app 1065 [.v 0, .v 1, .v 2, .v 3]]) (τ := [.v 0, .v 1, .v 2]) (b := true) m1 s1 ?_ rfl rfl ?_
      · intro q hq
        simp only [m1, List.mem_cons, List.not_mem_nil, or_false] at hq
        subst hq
        simp [den, h2, h3, binD]
        omega
      · intro k
        match k with
        | 0 => rfl
        | 1 => rfl
        | 2 =>
          show den R (.app 1065 [.v 0, .v 1, .v 2, .v 3]) = den R (.v 2)
          rw [happ R hI i j h0 h1 h2 h3]
          have : (j - i).toNat = 0 := by omega
          rw [this]
          simp only [bs, den, h2]
        | k + 3 => rfl
end Go.Proofs.YteoindgcjoldhaaGreatDoor
namespace Go.Proofs.YteoindgcjoldhaaGreatDoor
open Go Go.AM
noncomputable def bS : SX := .app 1065 [.v 0, .v 1, .ki .i64 (.ofNat 0), .len (.v 0)]
noncomputable def cellsB : List SX := (List.range 65).map fun k => .at (.v 0) bS k
noncomputable def hitS : SX := .bin .eql (.at (.app 66 (cellsB ++ [.v 1])) (.ki .i64 (.ofNat 0)) 0) (.ki .i64 (.ofNat 0))
noncomputable def p65 : Pln :=
  (.ask (.bin .lss (.len (.v 0)) (.len (.v 0)))
    .never
    (.ask (.bin .lss (.ki .i64 (.ofNat 1000000)) (.len (.v 0)))
      .never
      (.ask (.bin .lss bS (.len (.v 0)))
        (.ask (.bin .lss (.ki .i64 (.ofNat 0)) bS)
          (.done [[bS], [hitS]])
          (.ask (.bin .lss bS (.ki .i64 (.ofNat 0)))
            .never
            (.done [[bS], [hitS]])))
        (.done [[bS], [(.kb false)]]))))
noncomputable def tI2 : Sig := [.one tI, .one .bool]
theorem c65 : checkPlan tI2 (fun facts => @callL (mkO facts theI) Tryz.prog G (sp10 (mkO facts theI)) 100 (lp 4 L65) 65 (mkArgs 0 [.one (.slice tDig), .one tU64, .con 66]) heap0) [] p65 = true := by kernel_rfl
theorem bs_range (es : List (List DV)) (t : Int) : ∀ (n : Nat) (i j : Int), 0 ≤ i → i ≤ j → i ≤ bs es t n i j ∧ bs es t n i j ≤ j
  | 0, i, j, h0, h1 => by simp only [bs]; omega
  | n + 1, i, j, h0, h1 => by
    simp only [bs]
    by_cases hlt : i < j
    · rw [if_pos hlt]
      by_cases hc : ix es ((i + j) / 2).toNat < t
      · rw [if_pos hc]
        have := bs_range es t n ((i + j) / 2 + 1) j (by omega) (by omega)
        omega
      · rw [if_neg hc]
        have := bs_range es t n i ((i + j) / 2) (by omega) (by omega)
        omega
    · rw [if_neg hlt]; omega
def pre65 : List (SX × Bool) := [(.bin .lss (.ki .i64 (.ofNat 1000000)) (.len (.v 0)), false)]
theorem find_args {m : Env} {ds : List (List DV)} {vs : List Value} (h : RepArgs m [.one (.slice tDig), .one tU64] ds vs) : ∃ es t, ds = [[.list es], [.int .u64 t]] ∧ Digs es := by
  simp only [RepArgs, RepOne] at h
  obtain ⟨_, _, _, _, rfl, rfl, ⟨_, rfl, h1⟩, _, _, _, _, rfl, rfl, ⟨_, rfl, h2⟩, rfl, rfl⟩ := h
  obtain ⟨es, rfl, he⟩ := rep_digs h1
  simp only [Rep] at h2
  obtain ⟨t, rfl, _⟩ := h2
  exact ⟨es, t, rfl, he⟩
theorem find_args3 {m : Env} {ds : List (List DV)} {vs : List Value} (h : RepArgs m [.one (.slice tDig), .one tU64, .con 66] ds vs) : ∃ es t, ds = [[.list es], [.int .u64 t], []] ∧ Digs es := by
  simp only [RepArgs, RepOne] at h
  obtain ⟨_, _, _, _, rfl, rfl, ⟨_, rfl, h1⟩, _, _, _, _, rfl, rfl, ⟨_, rfl, h2⟩, _, _, _, _, rfl, rfl, ⟨rfl, _⟩, rfl, rfl⟩ := h
  obtain ⟨es, rfl, he⟩ := rep_digs h1
  simp only [Rep] at h2
  obtain ⟨t, rfl, _⟩ := h2
  exact ⟨es, t, rfl, he⟩
theorem hit_den {R : Rho} {es : List (List DV)} {t i : Int} (hI : R.I = theI) (h0 : R.ρ 0 = .list es) (h1 : R.ρ 1 = .int .u64 t) (hb : den R bS = .int .i64 i) (g1 : 0 ≤ i) (g2 : i < es.length) (hd : Digs es) :
    den R hitS = .bool (decide (ix es i.toNat = t)) := by
  have hrow := digs_ix hd (j := i.toNat) (by omega)
  have hl : (cellsB ++ [SX.v 1]).map (den R) = (List.range 65).map (fun k => (es.getD i.toNat []).getD k (.bool false)) ++ [.int .u64 t] := by
    rw [List.map_append]
    congr 1
    · unfold cellsB
      rw [List.map_map]
      refine List.map_congr_left fun k _ => ?_
      simp only [Function.comp, den, h0, hb, atD]
    · simp only [List.map_cons, List.map_nil, den, h1]
  have happ : den R (.app 66 (cellsB ++ [.v 1])) = .list [[.int .i64 (cmpZ (ix es i.toNat) t)]] := by
    simp only [den, denL_map, hl, hI]
    show DV.list (F66 _) = _
    have e0 : iD ((List.range 65).map (fun k => (es.getD i.toNat []).getD k (.bool false)) ++ [DV.int .u64 t]) 0 = ix es i.toNat := by
      have : ((List.range 65).map (fun k => (es.getD i.toNat []).getD k (.bool false)) ++ [DV.int .u64 t]).getD 0 (.bool false) = (es.getD i.toNat []).getD 0 (.bool false) := rfl
      simp only [iD, this, hrow]
    have e1 : iD ((List.range 65).map (fun k => (es.getD i.toNat []).getD k (.bool false)) ++ [DV.int .u64 t]) 65 = t := by
      have : ((List.range 65).map (fun k => (es.getD i.toNat []).getD k (.bool false)) ++ [DV.int .u64 t]).getD 65 (.bool false) = .int .u64 t := rfl
      simp only [iD, this]
    simp only [F66, e0, e1]
  show binD .eql (atD (den R (.app 66 (cellsB ++ [.v 1]))) (.int .i64 0) 0) (.int .i64 0) = _
  rw [happ]
  simp only [atD, binD, cmpZ]
  by_cases h : ix es i.toNat < t
  · have : ¬ ix es i.toNat = t := by omega
    simp [h, this]
  · by_cases h' : t < ix es i.toNat
    · have : ¬ ix es i.toNat = t := by omega
      simp [h, h', this]
    · have : ix es i.toNat = t := by omega
      simp [this]
theorem fn65 : FnOK Tryz.prog G 65 [.one (.slice tDig), .one tU64, .con 66] tI2 (fun ds => ∀ p ∈ pre65, den (rhoOf theI ds) p.1 = .bool p.2) F65 := by
  refine fn_loops (spec := sp10) (lps := lp 4 L65) sp10_ok (loops_one one65 lk65) (by kernel_rfl) p65 c65 ?_
  intro E ds vs h hpre
  obtain ⟨es, t, rfl, hd⟩ := find_args3 h
  have hfl : [[DV.list es], [DV.int .u64 t], []].flatten = [.list es, .int .u64 t] := rfl
  rw [hfl] at hpre ⊢
  have hlen : es.length ≤ 1000000 := by
    have := hpre _ (List.mem_cons_self ..)
    simp [den, rhoOf, lenD, binD] at this
    omega
  have h0 : (rhoOf theI [DV.list es, DV.int .u64 t]).ρ 0 = .list es := rfl
  have h1 : (rhoOf theI [DV.list es, DV.int .u64 t]).ρ 1 = .int .u64 t := rfl
  have hI : (rhoOf theI [DV.list es, DV.int .u64 t]).I = theI := rfl
  have hF : F65 [DV.list es, DV.int .u64 t] = [[.int .i64 (bs es t es.length 0 es.length)], [.bool (decide (bs es t es.length 0 es.length < es.length) && decide (ix es (bs es t es.length 0 es.length).toNat = t))]] := rfl
  rw [hF]
  obtain ⟨g1, g2⟩ := bs_range es t es.length 0 es.length (by omega) (by omega)
  have hb : den (rhoOf theI [DV.list es, DV.int .u64 t]) bS = .int .i64 (bs es t es.length 0 es.length) := by
    have : den (rhoOf theI [DV.list es, DV.int .u64 t]) bS = .int .i64 (bs es t ((es.length : Int) - 0).toNat 0 es.length) := rfl
    rw [this]
    congr 2
  generalize bs es t es.length 0 es.length = b at *
  generalize rhoOf theI [DV.list es, DV.int .u64 t] = R at *
  have hh := fun h => hit_den hI h0 h1 hb g1 h hd
  have hl : den R (.len (.v 0)) = .int .i64 es.length := by simp only [den, h0, lenD]
  have hk : ∀ z, den R (.ki .i64 z) = .int .i64 z := fun _ => rfl
  have bin : ∀ o a b', den R (.bin o a b') = binD o (den R a) (den R b') := fun _ _ _ => rfl
  simp only [p65, goalPlan, bin, hb, hl, hk, binD, List.map_cons, List.map_nil, DV.bool.injEq, decide_eq_true_eq, decide_eq_false_iff_not]
  refine ⟨⟨_, rfl⟩, fun h => by omega, fun _ => ⟨⟨_, rfl⟩, fun h => ?_, fun _ => ⟨⟨_, rfl⟩, fun hlt => ⟨⟨_, rfl⟩, fun _ => ?_, fun _ => ⟨⟨_, rfl⟩, fun h => ?_, fun _ => ?_⟩⟩, fun hnl => ?_⟩⟩⟩
  · simp at h; omega
  · rw [hh hlt]; simp [hlt]
  · simp at h; omega
  · rw [hh hlt]; simp [hlt]
  · simp [den]; omega
noncomputable def p38 : Pln := .done [[(.at (.app 65 [(.v 0), (.v 1)]) (.ki .i64 (.ofNat 0)) 0)], [(.at (.app 65 [(.v 0), (.v 1)]) (.ki .i64 (.ofNat 1)) 0)]]
noncomputable def sp38 (O : Orc) : FuncId → Option (List AV → AHeap → Out)
  | 65 => some (@symSp O [.one (.slice tDig), .one tU64, .con 66] tI2 pre65 65)
  | _ => none
theorem sp38_ok (O : Orc) (hO : O.I = theI) : SpecOK Tryz.prog G (sp38 O) := by
  intro f sp h
  unfold sp38 at h
  split at h <;> cases h
  exact symSp_ok plainG (by rw [hO]; exact fn65) (fun ds => by rw [hO]; rfl) (by kernel_rfl)
theorem c38 : checkPlan tI2 (fun facts => @callL (mkO facts theI) Tryz.prog G (sp38 (mkO facts theI)) 100 (fun _ => none) 38 (mkArgs 0 [.one (.slice tDig), .one tU64]) heap0) [] (.know (.bin .lss (.ki .i64 (.ofNat 1000000)) (.len (.v 0))) false p38) = true := by kernel_rfl
theorem fn38 : FnOK Tryz.prog G 38 [.one (.slice tDig), .one tU64] tI2 (fun ds => ∀ p ∈ pre65, den (rhoOf theI ds) p.1 = .bool p.2) F65 := by
  refine fn_run (spec := sp38) sp38_ok (by kernel_rfl) _ c38 ?_
  intro E ds vs h hpre
  obtain ⟨es, t, rfl, hd⟩ := find_args h
  have hfl : [[DV.list es], [DV.int .u64 t]].flatten = [.list es, .int .u64 t] := rfl
  rw [hfl] at hpre ⊢
  exact ⟨hpre _ (List.mem_cons_self ..), rfl⟩
end Go.Proofs.YteoindgcjoldhaaGreatDoor
namespace Go.Proofs.YteoindgcjoldhaaGreatDoor
open Go Go.AM
noncomputable def fI : SX := .at (.app 38 [.v 82, .v 83]) (.ki .i64 (.ofNat 0)) 0
noncomputable def fB : SX := .at (.app 38 [.v 82, .v 83]) (.ki .i64 (.ofNat 1)) 0
noncomputable def digS : List SX := (List.range 65).map fun k => .at (.v 82) fI k
noncomputable def zdigS : List SX := .ki .u64 (.ofNat 0) :: List.replicate 64 (.ki .u8 (.ofNat 0))
noncomputable def cEq (f : Nat) (args : List SX) : SX := .bin .eql (.at (.app f args) (.ki .i64 (.ofNat 0)) 0) (.ki .i64 (.ofNat 0))
noncomputable def p14b : Pln :=
  (.ask (cEq 12 (vars 0 83))
    (.ask fB
      (.ask (.bin .lss (.ki .i64 (.ofNat 0)) fI)
        (.ask (.bin .lss fI (.len (.v 82)))
          (.done [digS, [.kb true]])
          .never)
        (.ask (.bin .lss fI (.ki .i64 (.ofNat 0)))
          .never
          (.ask (.bin .lss fI (.len (.v 82)))
            (.done [digS, [.kb true]])
            .never)))
      (.done [zdigS, [(.kb false)]]))
    (.done [zdigS, [(.kb false)]]))
noncomputable def pre14 : List (SX × Bool) := [(.bin .lss (.ki .i64 (.ofNat 1000)) (.len (.v 5)), false), (.bin .lss (.ki .i64 (.ofNat 1000000)) (.len (.v 82)), false)]
noncomputable def p14 : Pln := .know (.bin .lss (.ki .i64 (.ofNat 1000)) (.len (.v 5))) false (.know (.bin .lss (.ki .i64 (.ofNat 1000000)) (.len (.v 82))) false p14b)
noncomputable def sp14 (O : Orc) : FuncId → Option (List AV → AHeap → Out)
  | 12 => some (@symSp O [.agg tCli] [.one tI] preC 12)
  | 38 => some (@symSp O [.one (.slice tDig), .one tU64] tI2 pre65 38)
  | _ => none
theorem sp14_ok (O : Orc) (hO : O.I = theI) : SpecOK Tryz.prog G (sp14 O) := by
  intro f sp h
  unfold sp14 at h
  split at h <;> cases h
  · exact symSp_ok plainG (by rw [hO]; exact fn12) (fun ds => by rw [hO]; rfl) (by kernel_rfl)
  · exact symSp_ok plainG (by rw [hO]; exact fn38) (fun ds => by rw [hO]; rfl) (by kernel_rfl)
theorem c14 : checkPlan [.agg tDig, .one .bool] (fun facts => @callL (mkO facts theI) Tryz.prog G (sp14 (mkO facts theI)) 100 (fun _ => none) 14 (mkArgs 0 [.agg tCli, .one tU64]) heap0) [] p14 = true := by kernel_rfl
theorem vars_denA (I : Nat → List DV → DV) (a b : List DV) : (vars 0 a.length).map (den (rhoOf I (a ++ b))) = a := by
  refine List.ext_getElem (by simp [vars]) fun i h1 h2 => ?_
  simp [vars, den, rhoOf, List.getElem?_append_left h2, h2]
theorem row_cells {row : List DV} {n : Nat} (h : row.length = n) : (List.range n).map (fun k => row.getD k (.bool false)) = row := by
  refine List.ext_getElem (by simp [h]) fun i h1 h2 => ?_
  simp [h2]
theorem zdig_den (R : Rho) : zdigS.map (den R) = zdig := by
  simp [zdigS, zdig, den]
theorem fn14 : FnOK Tryz.prog G 14 [.agg tCli, .one tU64] [.agg tDig, .one .bool] (fun ds => ∀ p ∈ pre14, den (rhoOf theI ds) p.1 = .bool p.2) F14 := by
  refine fn_run (spec := sp14) sp14_ok (by kernel_rfl) p14 c14 ?_
  intro E ds vs h hpre
  have hagg : ∃ row t num seq leader text away rd es, ds = [row, [.int .u64 t]] ∧ Cli row num seq leader text away rd es ∧ Rows es := by
    simp only [RepArgs, RepOne] at h
    obtain ⟨row, _, _, _, rfl, rfl, h1, _, _, _, _, rfl, rfl, ⟨_, rfl, h2⟩, rfl, rfl⟩ := h
    obtain ⟨row', num, seq, leader, text, away, rd, es, e, hc⟩ := agg_cli (m := envE E) (ds := [row]) (vs := [_]) ⟨row, [], _, [], rfl, rfl, h1, rfl, rfl⟩
    cases e
    obtain ⟨_, _, hv⟩ := h1
    obtain ⟨es', _, _, e82, hr⟩ := repV_cli hv
    rw [hc.h82] at e82
    cases e82
    simp only [Rep] at h2
    obtain ⟨t, rfl, _⟩ := h2
    exact ⟨row, t, num, seq, leader, text, away, rd, es, rfl, hc, hr⟩
  obtain ⟨row, t, num, seq, leader, text, away, rd, es, rfl, hc, hr⟩ := hagg
  have hfl : [row, [DV.int .u64 t]].flatten = row ++ [.int .u64 t] := by simp
  rw [hfl] at hpre ⊢
  refine ⟨hpre _ (List.mem_cons_self ..), hpre _ (List.mem_cons_of_mem _ (List.mem_cons_self ..)), ?_⟩
  have hv := vars_denA theI row [.int .u64 t]
  rw [hc.len] at hv
  have h82 : (rhoOf theI (row ++ [.int .u64 t])).ρ 82 = .list es := by
    rw [← hc.h82]
    simp only [rhoOf, List.getD_eq_getElem?_getD, List.getElem?_append_left (show 82 < row.length by rw [hc.len]; omega)]
  have h83 : (rhoOf theI (row ++ [.int .u64 t])).ρ 83 = .int .u64 t := by
    simp [rhoOf, hc.len]
  have hF : F14 (row ++ [.int .u64 t]) = if cliD row && (decide (bs es t es.length 0 es.length < es.length) && decide (ix es (bs es t es.length 0 es.length).toNat = t)) then [es.getD (bs es t es.length 0 es.length).toNat [], [.bool true]] else [zdig, [.bool false]] := by
    have e1 : lD (row ++ [.int .u64 t]) 82 = es := by
      have := h82; simp only [rhoOf] at this; simp only [lD, this]
    have e2 : iD (row ++ [.int .u64 t]) 83 = t := by
      have := h83; simp only [rhoOf] at this; simp only [iD, this]
    have e3 : (row ++ [DV.int .u64 t]).take 83 = row := by rw [← hc.len]; simp
    simp only [F14, e1, e2, e3]
  rw [hF]
  have hI : (rhoOf theI (row ++ [.int .u64 t])).I = theI := rfl
  generalize rhoOf theI (row ++ [.int .u64 t]) = R at *
  obtain ⟨g1, g2⟩ := bs_range es t es.length 0 es.length (by omega) (by omega)
  have h38 : den R (.app 38 [.v 82, .v 83]) = .list [[.int .i64 (bs es t es.length 0 es.length)], [.bool (decide (bs es t es.length 0 es.length < es.length) && decide (ix es (bs es t es.length 0 es.length).toNat = t))]] := by
    simp only [den, den.denL, h82, h83, hI]
    rfl
  have h12 : den R (cEq 12 (vars 0 83)) = .bool (cliD row) := by
    simp only [cEq, den, denL_map, hv, hI]
    show binD .eql (atD (.list (F12 row)) (.int .i64 0) 0) (.int .i64 0) = _
    simp only [F12, atD, binD]
    cases cliD row <;> simp
  generalize bs es t es.length 0 es.length = b at *
  have hfI : den R fI = .int .i64 b := by show atD (den R (.app 38 [.v 82, .v 83])) (.int .i64 0) 0 = _; rw [h38]; rfl
  have hfB : den R fB = .bool (decide (b < es.length) && decide (ix es b.toNat = t)) := by show atD (den R (.app 38 [.v 82, .v 83])) (.int .i64 1) 0 = _; rw [h38]; rfl
  have hl : den R (.len (.v 82)) = .int .i64 es.length := by simp only [den, h82, lenD]
  have hk : ∀ z, den R (.ki .i64 z) = .int .i64 z := fun _ => rfl
  have bin : ∀ o a b', den R (.bin o a b') = binD o (den R a) (den R b') := fun _ _ _ => rfl
  have hdig : b < es.length → digS.map (den R) = es.getD b.toNat [] := by
    intro hlt
    have hm : es.getD b.toNat [] ∈ es := by
      have hlt' : b.toNat < es.length := by omega
      rw [List.getD_eq_getElem?_getD, List.getElem?_eq_getElem hlt']
      exact List.getElem_mem hlt'
    refine Eq.trans ?_ (row_cells (hr.2 _ hm).1)
    unfold digS
    rw [List.map_map]
    refine List.map_congr_left fun k _ => ?_
    simp only [Function.comp, den, h82, hfI, atD]
  simp only [p14b, goalPlan, h12, hfB, bin, hfI, hl, hk, binD, List.map_cons, List.map_nil, DV.bool.injEq, decide_eq_true_eq, decide_eq_false_iff_not, zdig_den]
  refine ⟨⟨_, rfl⟩, fun hcl => ⟨⟨_, rfl⟩, fun hb => ?_, fun hb => ?_⟩, fun hcl => ?_⟩
  · rw [if_pos (by rw [hcl, hb]; rfl)]
    simp only [Bool.and_eq_true, decide_eq_true_eq] at hb
    rw [hdig hb.1]
    refine ⟨⟨_, rfl⟩, fun _ => ⟨⟨_, rfl⟩, fun _ => rfl, fun h => h hb.1⟩, fun _ => ⟨⟨_, rfl⟩, fun h => ?_, fun _ => ⟨⟨_, rfl⟩, fun _ => rfl, fun h => h hb.1⟩⟩⟩
    simp at h; omega
  · rw [if_neg (by rw [hcl, hb]; simp)]
    rfl
  · rw [if_neg (by rw [hcl]; simp)]
    rfl
end Go.Proofs.YteoindgcjoldhaaGreatDoor
namespace Go.Proofs.YteoindgcjoldhaaGreatDoor
open Go Go.AM
/-! ### The reference's Same -/
noncomputable def putCells (base : Nat) : Nat → List Ty → Tr AV → Tr AV
  | _, [], t => t
  | k, ty :: l, t => (putCells base (k + 1) l t).put k (.sy ty (.v (base + k)))
noncomputable def cellSrc (id : Nat) : Nat → List Ty → List Src
  | _, [] => []
  | k, ty :: l => .cell id k ty :: cellSrc id (k + 1) l
noncomputable def blkS (base j : Nat) : Blk := { t := 34, row := false, sz := 1, n := 83, z := [.dead], c := putCells base 0 (tCli.take 82) ((Tr.nil : Tr AV).put 82 (.sy (.slice tDig) (.v j))) }
noncomputable def ob17 : List (Nat × Blk) := [(0, blkS 3 0), (1, blkS 85 1)]
noncomputable def T17 : Tmpl := ⟨[(2, .ptr 0 0), (3, .ptr 1 0), (7, .sy (.slice tDig) (.v 0)), (10, .sy (.slice tDig) (.v 1)), (15, .sy tI (.len (.v 0))), (16, .sy tI (.v 2))], ob17⟩
noncomputable def Y17 : Tmpl := ⟨[(2, .ptr 0 0), (3, .ptr 1 0)], ob17⟩
noncomputable def N17 : Tmpl := ⟨[(4, .sc (.bool false))], [(0, { t := 34, row := false, sz := 1, n := 0, z := [.dead], c := .nil }), (1, { t := 34, row := false, sz := 1, n := 0, z := [.dead], c := .nil })]⟩
noncomputable def L17 : LoopSp :=
  { n := 78, T := T17, src := .cell 0 82 (.slice tDig) :: .cell 1 82 (.slice tDig) :: .tm 16 tI :: (cellSrc 0 0 (tCli.take 82) ++ cellSrc 1 0 (tCli.take 82)), pre := [(.bin .lss (.v 2) zeroS, false), (.bin .lss (.len (.v 0)) (.v 2), false), (.bin .eql (.len (.v 0)) (.len (.v 1)), true)], cnd := .app 1041 [.v 0, .v 1, .v 2],
    yes := (.exit 0, Y17.sub []), no := (.ret, N17.sub []) }
noncomputable def run17 (facts : List (SX × Bool)) (s : St) : Run := @codeL (mkO facts theI) Tryz.prog G (noSpec) 100 (fun _ => none) (loop1 17) s
noncomputable def nx17 : List SX := .v 0 :: .v 1 :: .bin .add (.v 2) (.ki .i64 (.ofNat 1)) :: vars 3 164
theorem b17a : stepExit L17 Y17 (.exit 0) [] (run17 a1 (L17.T.st L17.n)) = true := by kernel_rfl
theorem b17b : stepNext L17 nx17 (run17 (a2 true) (L17.T.st L17.n)) = true := by kernel_rfl
theorem b17c : stepExit L17 N17 .ret [] (run17 (a2 false) (L17.T.st L17.n)) = true := by kernel_rfl
theorem one17 : (loopsIn (bodyOf 17)).length = 1 := by kernel_rfl
theorem noLoops17 : LoopsOK Tryz.prog G theI (fun _ => none) (loop1 17) := fun _ _ _ h => by cases h
noncomputable def okV : SX → Bool
  | .v k => decide (k ≠ 2) && decide (k ≤ 166)
  | .len (.v k) => decide (k ≠ 2) && decide (k ≤ 166)
  | _ => false
theorem sx17 (b : Bool) : (L17.pick b).2.sxs.all okV = true := by cases b <;> kernel_rfl
theorem nx17_v {R : Rho} {k : Nat} (h : k ≠ 2) (h' : k ≤ 166) : (R.sub nx17).ρ k = R.ρ k := by
  match k with
  | 0 => rfl
  | 1 => rfl
  | 2 => exact absurd rfl h
  | k + 3 =>
    show den R ((vars 3 164).getD k (.v (k + 3))) = _
    have : (vars 3 164).getD k (.v (k + 3)) = .v (k + 3) := by
      simp only [vars, List.getD_eq_getElem?_getD, List.getElem?_map]
      rw [List.getElem?_range (by omega)]
      simp [Nat.add_comm]
    rw [this]
    rfl
theorem nx17_x {R : Rho} {b : Bool} {x : SX} (hx : x ∈ (L17.pick b).2.sxs) : den (R.sub nx17) x = den R x := by
  have := List.all_eq_true.1 (sx17 b) x hx
  unfold okV at this
  split at this
  · rw [Bool.and_eq_true, decide_eq_true_eq, decide_eq_true_eq] at this
    exact nx17_v this.1 this.2
  · rw [Bool.and_eq_true, decide_eq_true_eq, decide_eq_true_eq] at this
    simp only [den, nx17_v this.1 this.2]
  · cases this
open Classical in
theorem lk17 : LoopOK Tryz.prog G theI (loop1 17) L17 := by
  refine loop_ind (spec := fun _ => noSpec) hmix hNum (fun O _ => noSpec_ok O) plainG 100 noLoops17 (by kernel_rfl) inv41 mu41 ?_ ?_
  · intro m a w hr hp
    obtain ⟨_, z2, _, _, _⟩ := hr
    have h0 := z2 7
    have h1 := z2 10
    have h2 := z2 16
    have e0 : ((L17.T.st L17.n).tm.get 7).getD (.sc undef) = .sy (.slice tDig) (.v 0) := by kernel_rfl
    have e1 : ((L17.T.st L17.n).tm.get 10).getD (.sc undef) = .sy (.slice tDig) (.v 1) := by kernel_rfl
    have e2 : ((L17.T.st L17.n).tm.get 16).getD (.sc undef) = .sy tI (.v 2) := by kernel_rfl
    rw [e0] at h0
    rw [e1] at h1
    rw [e2] at h2
    simp only [V, den] at h0 h1 h2
    obtain ⟨es, d0, hd0⟩ := rep_rows h0
    obtain ⟨fs, d1, hd1⟩ := rep_rows h1
    simp only [Rep] at h2
    obtain ⟨i, d2, _⟩ := h2
    have p1 := hp (.bin .lss (.v 2) zeroS, false) (by simp [L17])
    have p2 := hp (.bin .lss (.len (.v 0)) (.v 2), false) (by simp [L17])
    have p3 := hp (.bin .eql (.len (.v 0)) (.len (.v 1)), true) (by simp [L17])
    simp [den, d0, d1, d2, zeroS, binD, lenD] at p1 p2 p3
    exact ⟨es, fs, i, d0, d1, d2, p1, p2, by omega, hd0, hd1⟩
  · rintro R hI ⟨es, fs, i, h0, h1, h2, g1, g2, g3, g4, g5⟩
    have happ : ∀ R' : Rho, R'.I = theI → ∀ i', R'.ρ 0 = .list es → R'.ρ 1 = .list fs → R'.ρ 2 = .int .i64 i' → den R' L17.cnd = .bool (eqFrom es fs i') := by
      intro R' hI i' e0 e1 e2
      simp only [L17, den, den.denL, e0, e1, e2, hI]
      rfl
    have hcnd := happ R hI i h0 h1 h2
    by_cases hlt : i < es.length
    · obtain ⟨b, hb, hbi⟩ := eqR_den h0 h1 h2 g1 hlt g3 g4 g5
      have hst := eqFrom_step (fs := fs) g1 hlt
      have hin : ∀ q ∈ a2 b, den R q.1 = .bool q.2 := by
        intro q hq
        simp only [a2, in41, List.mem_cons, List.not_mem_nil, or_false] at hq
        rcases hq with rfl | rfl | rfl | rfl
        · exact hb
        · simp [den, h0, h2, binD, lenD, hlt]
        · simp [den, h1, h2, binD, lenD]; omega
        · simp [den, h2, zeroS, binD]; omega
      cases b with
      | true =>
        have heq := hbi.1 rfl
        have r2 : (R.sub nx17).ρ 2 = .int .i64 (i + 1) := by
          simp [nx17, Rho.sub, den, h2, binD]
          exact wrap_i64 (by omega) (by have := g4.1; omega)
        refine StepOK.next nx17 (a2 true) b17b hin ⟨es, fs, i + 1, h0, h1, r2, by omega, by omega, g3, g4, g5⟩ ?_ ?_ (fun b _ x hx => nx17_x hx)
        · have r0 : (R.sub nx17).ρ 0 = .list es := h0
          simp only [mu41, r0, r2, h0, h2]
          omega
        · rw [happ (R.sub nx17) hI (i + 1) h0 h1 r2, hcnd, hst, decide_eq_true heq, Bool.true_and]
      | false =>
        have hne : ¬ es.getD i.toNat [] = fs.getD i.toNat [] := fun e => by have := hbi.2 e; cases this
        exact StepOK.exit (T' := N17) (e := .ret) (outs := []) (τ := []) (b := false) (a2 false) b17c hin (by rw [hcnd, hst, decide_eq_false hne, Bool.false_and]) rfl (fun _ => rfl)
    · refine StepOK.exit (T' := Y17) (e := .exit 0) (outs := []) (τ := []) (b := true) a1 b17a ?_ (by rw [hcnd, eqFrom_ge (by omega)]) rfl (fun _ => rfl)
      intro q hq
      simp only [a1, List.mem_cons, List.not_mem_nil, or_false] at hq
      subst hq
      simp [den, h0, h2, binD, lenD]
      omega
noncomputable def p17 : Pln :=
  (.ask (.bin .eql (.len (.v 82)) (.len (.v 165)))
    (.ask (.app 1041 [(.v 82), (.v 165), (.ki .i64 (.ofNat 0))])
      (.ask (.bin .eql (.v 0) (.v 83))
        (.ask (.bin .eql (.v 1) (.v 84))
          (.ask (.bin .eql (.v 2) (.v 85))
            (.ask (.bin .eql (.v 3) (.v 86))
              (.ask (.all qEq)
                (.ask (.bin .eql (.v 80) (.v 163))
                  (.done [[(.bin .eql (.v 81) (.v 164))]])
                  (.done [[(.kb false)]]))
                (.done [[(.kb false)]]))
              (.done [[(.kb false)]]))
            (.done [[(.kb false)]]))
          (.done [[(.kb false)]]))
        (.done [[(.kb false)]]))
      (.done [[(.kb false)]]))
    (.done [[(.kb false)]]))
theorem c17 : checkPlan [.one .bool] (fun facts => @callL (mkO facts theI) Tryz.prog G (noSpec) 100 (lp 5 L17) 17 (mkArgs 0 [.agg tCli, .agg tCli]) heap0) [] p17 = true := by kernel_rfl
open Classical in
theorem fn17 : FnOK Tryz.prog G 17 [.agg tCli, .agg tCli] [.one .bool] (fun _ => True) F16 := by
  refine fn_loops (spec := fun _ => noSpec) (lps := lp 5 L17) (fun O _ => noSpec_ok O) (loops_one one17 lk17) (by kernel_rfl) p17 c17 ?_
  intro E ds vs h _
  obtain ⟨ra, rb, es, fs, rfl, ht⟩ := two_cli h
  have hfl : [ra, rb].flatten = ra ++ rb := by simp
  rw [hfl]
  have va : ∀ i, i < 83 → (rhoOf theI (ra ++ rb)).ρ i = ra.getD i (.bool false) := fun i hi => by
    simp only [rhoOf, List.getD_eq_getElem?_getD, List.getElem?_append_left (show i < ra.length by rw [ht.la]; exact hi)]
  have vb : ∀ i, i < 83 → (rhoOf theI (ra ++ rb)).ρ (83 + i) = rb.getD i (.bool false) := fun i hi => by
    simp only [rhoOf, List.getD_eq_getElem?_getD]
    rw [List.getElem?_append_right (by rw [ht.la]; omega), ht.la, Nat.add_sub_cancel_left]
  have hsame : sameD (ra ++ rb) = (decide (∀ i : Nat, i < 82 → ra.getD i (.bool false) = rb.getD i (.bool false)) && (decide (es.length = fs.length) && eqFrom es fs 0)) := by
    have e1 : lD (ra ++ rb) 82 = es := by
      have := va 82 (by omega)
      simp only [rhoOf] at this
      simp only [lD, this, ht.ea]
    have e2 : lD (ra ++ rb) 165 = fs := by
      have := vb 82 (by omega)
      simp only [rhoOf] at this
      simp only [lD, this, ht.eb]
    simp only [sameD, e1, e2]
    congr 1
    refine decide_eq_decide.2 ⟨fun H i hi => ?_, fun H i hi => ?_⟩
    · have := H i hi
      have a := va i (by omega)
      have b := vb i (by omega)
      simp only [rhoOf] at a b
      rw [← a, ← b]
      exact this
    · have a := va i (by omega)
      have b := vb i (by omega)
      simp only [rhoOf] at a b
      rw [a, b]
      exact H i hi
  rw [show F16 (ra ++ rb) = [[.bool (sameD (ra ++ rb))]] from rfl, hsame]
  generalize hR : rhoOf theI (ra ++ rb) = R at *
  have hI : ∀ k ds, R.I k ds = theI k ds := by rw [← hR]; exact fun _ _ => rfl
  have e82 : R.ρ 82 = .list es := by rw [va 82 (by omega), ht.ea]
  have e165 : R.ρ 165 = .list fs := by have := vb 82 (by omega); rw [ht.eb] at this; exact this
  have hlen : den R (.bin .eql (.len (.v 82)) (.len (.v 165))) = .bool (decide (es.length = fs.length)) := by
    simp only [den, e82, e165, lenD, binD]
    congr 1
    simp
    omega
  have h1041 : den R (.app 1041 [(.v 82), (.v 165), (.ki .i64 (.ofNat 0))]) = .bool (eqFrom es fs 0) := by
    simp only [den, den.denL, hI, e82, e165]
    rfl
  refine ⟨⟨_, hlen⟩, fun hl => ⟨⟨_, h1041⟩, fun he => ?_, fun he => ?_⟩, fun hl => ?_⟩
  rotate_left
  · rw [h1041] at he
    simp only [DV.bool.injEq] at he
    show _ = _
    rw [he, Bool.and_false, Bool.and_false]
    rfl
  · rw [hlen] at hl
    simp only [DV.bool.injEq] at hl
    show _ = _
    rw [hl, Bool.false_and, Bool.and_false]
    rfl
  rw [hlen] at hl
  rw [h1041] at he
  simp only [DV.bool.injEq] at hl he
  rw [hl, he, Bool.and_true, Bool.and_true]
  have one : ∀ i, i < 82 → ∃ r : Bool, den R (.bin .eql (.v i) (.v (83 + i))) = .bool r ∧ (r = true ↔ ra.getD i (.bool false) = rb.getD i (.bool false)) := by
    intro i hi
    obtain ⟨r, h1, h2⟩ := eql_iff (ht.pa i hi) (ht.pb i hi)
    exact ⟨r, by simp only [den, va i (by omega), vb i (by omega), h1], h2⟩
  have hno : ∀ i, i < 82 → ¬ ra.getD i (.bool false) = rb.getD i (.bool false) → [[DV.bool (decide (∀ i : Nat, i < 82 → ra.getD i (.bool false) = rb.getD i (.bool false)))]] = [[DV.bool false]] := by
    intro i hi hn
    rw [decide_eq_false (fun H => hn (H i hi))]
  have hq := denAll_pairs (R := R) (fun i => 4 + i) (fun i => 87 + i) (List.range 76) fun i hi => by
    simp only [List.mem_range] at hi
    have := vb (4 + i) (by omega)
    rw [show 83 + (4 + i) = 87 + i by omega] at this
    rw [va (4 + i) (by omega), this]
    exact ⟨ht.pa _ (by omega), ht.pb _ (by omega)⟩
  have leaf : ∀ (i : Nat) (hi : i < 82) (p : Pln), ((ra.getD i (.bool false) = rb.getD i (.bool false)) → goalPlan R [[DV.bool (decide (∀ i : Nat, i < 82 → ra.getD i (.bool false) = rb.getD i (.bool false)))]] p) →
      goalPlan R [[DV.bool (decide (∀ i : Nat, i < 82 → ra.getD i (.bool false) = rb.getD i (.bool false)))]] (.ask (.bin .eql (.v i) (.v (83 + i))) p (.done [[(.kb false)]])) := by
    intro i hi p hp
    obtain ⟨r, h1, h2⟩ := one i hi
    refine ⟨⟨r, h1⟩, fun h => hp (h2.1 ?_), fun h => ?_⟩
    · rw [h1] at h; cases h; rfl
    · refine hno i hi fun e => ?_
      have := h2.2 e
      rw [h1, this] at h
      cases h
  refine leaf 0 (by omega) _ fun c0 => leaf 1 (by omega) _ fun c1 => leaf 2 (by omega) _ fun c2 => leaf 3 (by omega) _ fun c3 => ?_
  refine ⟨⟨_, rfl⟩, fun hall => leaf 80 (by omega) _ fun c80 => ?_, fun hall => ?_⟩
  · have hall' : den.denAll R ((List.range 76).map fun i => .bin .eql (.v (4 + i)) (.v (87 + i))) = true := by
      simp only [den, DV.bool.injEq] at hall
      exact hall
    obtain ⟨r, r1, r2⟩ := one 81 (by omega)
    have hcells : r = true ↔ ∀ i : Nat, i < 82 → ra.getD i (.bool false) = rb.getD i (.bool false) := by
      refine ⟨fun hr i hi => ?_, fun H => r2.2 (H 81 (by omega))⟩
      by_cases hm : 4 ≤ i ∧ i < 80
      · have := hq.1 hall' (i - 4) (by simp only [List.mem_range]; omega)
        rw [show 4 + (i - 4) = i by omega, show 87 + (i - 4) = 83 + i by omega, va i (by omega), vb i (by omega)] at this
        exact this
      · have : i = 0 ∨ i = 1 ∨ i = 2 ∨ i = 3 ∨ i = 80 ∨ i = 81 := by omega
        rcases this with rfl | rfl | rfl | rfl | rfl | rfl
        · exact c0
        · exact c1
        · exact c2
        · exact c3
        · exact c80
        · exact r2.1 hr
    have hr : decide (∀ i : Nat, i < 82 → ra.getD i (.bool false) = rb.getD i (.bool false)) = r := by
      cases r with
      | true => exact decide_eq_true (hcells.1 rfl)
      | false => exact decide_eq_false fun H => by have := hcells.2 H; cases this
    rw [hr]
    exact congrArg (fun x => [[x]]) r1.symm
  · have hall' : ¬ den.denAll R ((List.range 76).map fun i => .bin .eql (.v (4 + i)) (.v (87 + i))) = true := by
      simp only [den, DV.bool.injEq] at hall
      intro e
      rw [show qEq = (List.range 76).map fun i => .bin .eql (.v (4 + i)) (.v (87 + i)) from rfl, e] at hall
      cases hall
    rw [hq] at hall'
    have : ∃ i, i < 82 ∧ ¬ ra.getD i (.bool false) = rb.getD i (.bool false) := by
      refine Classical.byContradiction fun hn => hall' fun i hi => ?_
      simp only [List.mem_range] at hi
      have hb := vb (4 + i) (by omega)
      rw [show 83 + (4 + i) = 87 + i by omega] at hb
      rw [va (4 + i) (by omega), hb]
      refine Classical.byContradiction fun hc => hn ⟨4 + i, by omega, hc⟩
    obtain ⟨i, hi, hn⟩ := this
    exact hno i hi hn
end Go.Proofs.YteoindgcjoldhaaGreatDoor
