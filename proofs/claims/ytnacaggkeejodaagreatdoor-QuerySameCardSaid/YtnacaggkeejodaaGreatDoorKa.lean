/-
  A part of the proof of QuerySame (the machine on named data, and the contracts of the functions that the law reaches): Vf1 Qf0 Qf1 Qf2 Qf3 Qf4 Qf5 Qf6.
-/
import Derived.KernelRfl
import Derived.Test.YtnacaggkeejodaaGreatDoorGa
import Derived.Test.YtnacaggkeejodaaGreatDoorAmH
set_option linter.all false
set_option linter.unusedVariables false
set_option linter.unusedSimpArgs false
set_option linter.unusedSectionVars false
namespace Go.Proofs.YtnacaggkeejodaaGreatDoor
open Go Go.AM
theorem hmix : Tryz.prog.follows .mixedOrders = true := by kernel_rfl
theorem namesRun : Tryz.prog.funcs.toList.all (fun fn => !(fn.name == "runtime.NumGoroutine")) = true := by kernel_rfl
theorem hNum (f : FuncId) (fn : Func) (h : Tryz.prog.funcs[f]? = some fn) : (fn.name == "runtime.NumGoroutine") = false := by
  have := List.all_eq_true.1 namesRun fn (List.mem_iff_getElem?.2 ⟨f, by simpa using h⟩)
  simpa using this
noncomputable def isSc : AV → Bool
  | .sc _ => true
  | _ => false
theorem isSc_ok {cs : List AV} (h : cs.all isSc = true) : ∀ c ∈ cs, ∃ u, c = AV.sc u := by
  intro c hc
  have := List.all_eq_true.1 h c hc
  unfold isSc at this
  split at this
  · exact ⟨_, rfl⟩
  · cases this
theorem plainG : PlainG G := by
  intro g cs h
  unfold G at h
  split at h <;> cases h <;> exact isSc_ok (by kernel_rfl)
noncomputable def hasB (f : FuncId) : Bool := match Tryz.prog.funcs[f]? with
  | some fn => !fn.body.isNone && Bool.not (Nat.beq f yid)
  | none => false
theorem hasB_ok {f : FuncId} (h : hasB f = true) : HasBody Tryz.prog f := by
  unfold hasB at h
  split at h
  · rename_i fn e
    simp only [Bool.and_eq_true, Bool.not_eq_true'] at h
    exact ⟨fn, e, h.1, hNum f fn e, Nat.ne_of_beq_eq_false h.2⟩
  · cases h
theorem noSpec_ok (O : Orc) : SpecOK Tryz.prog G noSpec := fun f sp h => by simp [noSpec] at h
theorem sameF {f : FuncId} {X : CallF} : (fun g args h => if g = f then X g args h else none) = (fun g args h => if g = f then X f args h else none) := by
  funext g args h
  by_cases e : g = f
  · rw [if_pos e, if_pos e, e]
  · rw [if_neg e, if_neg e]
/-! ## Contracts of the seat's functions -/
/-- The loops of a function, by their first region. -/
noncomputable def lpsOf (l : List (Nat × LoopSp)) (k : Nat) : Option LoopSp := match l with
  | [] => none
  | (i, L) :: l => match Nat.beq i k with
    | true => some L
    | false => lpsOf l k
noncomputable def bodyOf (f : FuncId) : Code := match Tryz.prog.funcs[f]? with
  | some fn => fn.body.getD .skip
  | none => .skip
noncomputable def loopAt (f k : Nat) : Code := (loopsIn (bodyOf f)).getD k .skip
/-- What each loop of a function is, where it has a contract. -/
def LoopsAre (I : Nat → List DV → DV) (f : FuncId) (lps : List (Nat × LoopSp)) : Prop := LoopsOK Tryz.prog G I (lpsOf lps) (bodyOf f)
theorem lpsOf_mem : ∀ {l : List (Nat × LoopSp)} {k : Nat} {L : LoopSp}, lpsOf l k = some L → (k, L) ∈ l
  | (i, M) :: l, k, L, h => by
    unfold lpsOf at h
    split at h
    · rename_i e
      cases h
      rw [Nat.eq_of_beq_eq_true e]
      simp
    · exact List.mem_cons_of_mem _ (lpsOf_mem h)
theorem noLoops {I : Nat → List DV → DV} {c : Code} : LoopsOK Tryz.prog G I (lpsOf []) c := fun _ _ _ h => by simp [lpsOf] at h
theorem loops1 {I : Nat → List DV → DV} {f k : Nat} {c : Code} {L : LoopSp} (hc : loopsIn (bodyOf f) = [c]) (hL : LoopOK Tryz.prog G I c L) : LoopsAre I f [(k, L)] := by
  intro B hB M hM
  have h1 := lpsOf_mem hM
  simp only [List.mem_cons, List.not_mem_nil, or_false, Prod.mk.injEq] at h1
  obtain ⟨_, rfl⟩ := h1
  rw [hc] at hB
  simp only [List.mem_cons, List.not_mem_nil, or_false] at hB
  rw [hB]
  exact hL
abbrev Frz := List (Option (TypeId × List Ty))
/-- Loops of inner functions that have contracts. -/
abbrev SubL := List (FuncId × List (Nat × LoopSp))
noncomputable def subOf (l : SubL) (f : FuncId) : Option (Nat → Option LoopSp) := match l with
  | [] => none
  | (g, x) :: l => match Nat.beq g f with
    | true => some (lpsOf x)
    | false => subOf l f
def SubsOK (I : Nat → List DV → DV) : SubL → Prop
  | [] => True
  | x :: l => LoopsAre I x.1 x.2 ∧ SubsOK I l
theorem subs_ok {I : Nat → List DV → DV} : ∀ {l : SubL}, SubsOK I l → SubOK Tryz.prog G I (subOf l)
  | [], _ => fun f lps h => by simp [subOf] at h
  | (g, x) :: l, hs => fun f lps h => by
    intro fn c hf hc
    unfold subOf at h
    split at h
    · rename_i e
      cases h
      obtain rfl := Nat.eq_of_beq_eq_true e
      have : bodyOf g = c := by unfold bodyOf; rw [hf]; simp [hc]
      rw [← this]
      exact hs.1
    · exact subs_ok hs.2 f lps h fn c hf hc
/-- A function by its loops' contracts; slices of its own among its results are data. -/
noncomputable def runS (I : Nat → List DV → DV) (spec : SpecF) (sub : SubL) (lps : List (Nat × LoopSp)) (ts : Frz) (f : FuncId) (sg : Sig) (facts : List (SX × Bool)) : Out :=
  iceRes ts (@callM (mkO facts I) Tryz.prog G (spec (mkO facts I)) 100 (subOf sub) (lpsOf lps) f (mkArgs 0 sg) heap0)
noncomputable abbrev runI (I : Nat → List DV → DV) (spec : SpecF) (lps : List (Nat × LoopSp)) (ts : Frz) (f : FuncId) (sg : Sig) (facts : List (SX × Bool)) : Out := runS I spec [] lps ts f sg facts
noncomputable def runSX (I : Nat → List DV → DV) (spec : SpecF) (sub : SubL) (lps : List (Nat × LoopSp)) (ts : Frz) (f : FuncId) (sg : Sig) (o : SX → Option Bool) : Out :=
  iceRes ts (@callM ⟨o, I⟩ Tryz.prog G (spec ⟨o, I⟩) 100 (subOf sub) (lpsOf lps) f (mkArgs 0 sg) heap0)
noncomputable abbrev runX (I : Nat → List DV → DV) (spec : SpecF) (lps : List (Nat × LoopSp)) (ts : Frz) (f : FuncId) (sg : Sig) (o : SX → Option Bool) : Out := runSX I spec [] lps ts f sg o
/-- A round of a loop. -/
noncomputable def roundS (I : Nat → List DV → DV) (spec : SpecF) (sub : SubL) (lps : List (Nat × LoopSp)) (B : Code) (facts : List (SX × Bool)) (s : St) : Run := @codeM (mkO facts I) Tryz.prog G (spec (mkO facts I)) 100 (subOf sub) (lpsOf lps) B s
noncomputable abbrev roundI (I : Nat → List DV → DV) (spec : SpecF) (lps : List (Nat × LoopSp)) (B : Code) (facts : List (SX × Bool)) (s : St) : Run := roundS I spec [] lps B facts s
noncomputable def roundSX (I : Nat → List DV → DV) (spec : SpecF) (sub : SubL) (lps : List (Nat × LoopSp)) (B : Code) (L : LoopSp) (o : SX → Option Bool) : Run := @codeM ⟨o, I⟩ Tryz.prog G (spec ⟨o, I⟩) 100 (subOf sub) (lpsOf lps) B (L.T.st L.n)
noncomputable abbrev roundX (I : Nat → List DV → DV) (spec : SpecF) (lps : List (Nat × LoopSp)) (B : Code) (L : LoopSp) (o : SX → Option Bool) : Run := roundSX I spec [] lps B L o
section
variable {I : Nat → List DV → DV} {spec : SpecF}
theorem callI (hsp : ∀ O : Orc, O.I = I → @SpecOK O Tryz.prog G (spec O)) {sub : SubL} (hs : SubsOK I sub) {lps : List (Nat × LoopSp)} {f : FuncId} (hl : LoopsAre I f lps) (ts : Frz) :
    ∀ O : Orc, O.I = I → @CallOK O Tryz.prog G (fun g args h => if g = f then iceRes ts (@callM O Tryz.prog G (spec O) 100 (subOf sub) (lpsOf lps) g args h) else none) := by
  intro O hI
  have h1 := @callM_ok O Tryz.prog G (spec O) (lpsOf lps) hmix hNum (hsp O hI) plainG 100 (subOf sub) (by rw [hI]; exact subs_ok hs) f (by
    intro fn c hf hc
    rw [hI]
    have : bodyOf f = c := by unfold bodyOf; rw [hf]; simp [hc]
    rw [← this]
    exact hl)
  have h2 := @iceRes_ok O Tryz.prog G ts _ h1
  intro g args h av h' hq
  simp only at hq
  split at hq
  · rename_i e
    exact h2 g args h av h' (by simp only [if_pos e]; subst e; exact hq)
  · cases hq
theorem fn_runS (hsp : ∀ O : Orc, O.I = I → @SpecOK O Tryz.prog G (spec O)) {sub : SubL} (hs : SubsOK I sub) (lps : List (Nat × LoopSp)) (ts : Frz) {f : FuncId} (hl : LoopsAre I f lps) {sg rs : Sig} {pre : List DV → Prop} {F : List DV → List (List DV)} (hb : hasB f = true) (p : Pln)
    (hc : checkPlan rs (runS I spec sub lps ts f sg) [] p = true)
    (hgoal : ∀ (ds : List (List DV)), IsArgs sg ds → pre ds.flatten → goalPlan (rhoOf I ds.flatten) (F ds.flatten) p) : FnOK Tryz.prog G f sg rs pre F :=
  fn_plan (call := fun O g args h => iceRes ts (@callM O Tryz.prog G (spec O) 100 (subOf sub) (lpsOf lps) g args h)) plainG (hasB_ok hb) (callI hsp hs hl ts) p hc (fun _ ds _ h hp => hgoal ds (repArgs_is h) hp)
theorem fn_run (hsp : ∀ O : Orc, O.I = I → @SpecOK O Tryz.prog G (spec O)) (lps : List (Nat × LoopSp)) (ts : Frz) {f : FuncId} (hl : LoopsAre I f lps) {sg rs : Sig} {pre : List DV → Prop} {F : List DV → List (List DV)} (hb : hasB f = true) (p : Pln)
    (hc : checkPlan rs (runI I spec lps ts f sg) [] p = true)
    (hgoal : ∀ (ds : List (List DV)), IsArgs sg ds → pre ds.flatten → goalPlan (rhoOf I ds.flatten) (F ds.flatten) p) : FnOK Tryz.prog G f sg rs pre F :=
  fn_runS hsp (sub := []) trivial lps ts hl hb p hc hgoal
theorem own_runS (hsp : ∀ O : Orc, O.I = I → @SpecOK O Tryz.prog G (spec O)) {sub : SubL} (hs : SubsOK I sub) (lps : List (Nat × LoopSp)) {f : FuncId} (hl : LoopsAre I f lps) (el : TypeId) (ets : List Ty) {sg rs : Sig} {pre : List DV → Prop} {F : List DV → List (List DV)} (hb : hasB f = true) (p : Pln)
    (hc : checkOwn el ets rs (runS I spec sub lps [] f sg) [] p = true)
    (hgoal : ∀ (ds : List (List DV)), IsArgs sg ds → pre ds.flatten → goalPlan (rhoOf I ds.flatten) (F ds.flatten) p) : FnOwn Tryz.prog G f sg el ets rs pre F :=
  own_plan (call := fun O g args h => iceRes [] (@callM O Tryz.prog G (spec O) 100 (subOf sub) (lpsOf lps) g args h)) plainG (hasB_ok hb) (callI hsp hs hl []) p hc (fun _ ds _ h hp => hgoal ds (repArgs_is h) hp)
theorem own_run (hsp : ∀ O : Orc, O.I = I → @SpecOK O Tryz.prog G (spec O)) (lps : List (Nat × LoopSp)) {f : FuncId} (hl : LoopsAre I f lps) (el : TypeId) (ets : List Ty) {sg rs : Sig} {pre : List DV → Prop} {F : List DV → List (List DV)} (hb : hasB f = true) (p : Pln)
    (hc : checkOwn el ets rs (runI I spec lps [] f sg) [] p = true)
    (hgoal : ∀ (ds : List (List DV)), IsArgs sg ds → pre ds.flatten → goalPlan (rhoOf I ds.flatten) (F ds.flatten) p) : FnOwn Tryz.prog G f sg el ets rs pre F :=
  own_runS hsp (sub := []) trivial lps hl el ets hb p hc hgoal
theorem loop_runS (hsp : ∀ O : Orc, O.I = I → @SpecOK O Tryz.prog G (spec O)) {sub : SubL} (hs : SubsOK I sub) {lps : List (Nat × LoopSp)} {B : Code} {L : LoopSp} (hl : LoopsOK Tryz.prog G I (lpsOf lps) B) (p : RPln)
    (hok : (L.yes.2.1.ok L.T L.n && L.no.2.1.ok L.T L.n && checkRound L (roundS I spec sub lps B) [] p) = true) (inv : Rho → Prop) (μ : Rho → Nat)
    (init : ∀ m a w, @RS (noFacts I) plainR m G (L.T.st L.n) a w → (∀ p ∈ L.pre, den m.R p.1 = .bool p.2) → inv m.R)
    (step : ∀ R, R.I = I → inv R → goalRound L inv μ R p) : LoopOK Tryz.prog G I B L :=
  loop_plan hmix hNum hsp plainG 100 (subs_ok hs) hl p hok inv μ init step
theorem loop_run (hsp : ∀ O : Orc, O.I = I → @SpecOK O Tryz.prog G (spec O)) {lps : List (Nat × LoopSp)} {B : Code} {L : LoopSp} (hl : LoopsOK Tryz.prog G I (lpsOf lps) B) (p : RPln)
    (hok : (L.yes.2.1.ok L.T L.n && L.no.2.1.ok L.T L.n && checkRound L (roundI I spec lps B) [] p) = true) (inv : Rho → Prop) (μ : Rho → Nat)
    (init : ∀ m a w, @RS (noFacts I) plainR m G (L.T.st L.n) a w → (∀ p ∈ L.pre, den m.R p.1 = .bool p.2) → inv m.R)
    (step : ∀ R, R.I = I → inv R → goalRound L inv μ R p) : LoopOK Tryz.prog G I B L :=
  loop_runS hsp (sub := []) trivial hl p hok inv μ init step
end
end Go.Proofs.YtnacaggkeejodaaGreatDoor
namespace Go.Proofs.YtnacaggkeejodaaGreatDoor
open Go Go.AM
/-! ## QuerySame: plain functions -/
abbrev tRow : Ty := .slice tV
abbrev tRows : Ty := .slice [tRow]
/-- An outcome: its error, a number, rows. -/
abbrev tO : List Ty := [tI, tI, tRows]
def cutT (s : ByteArray) : ByteArray := s.extract 0 (min s.size 65)
def cutV (r : List DV) : List DV := [r.getD 0 (.bool false), r.getD 1 (.bool false), .str (cutT (sD r 2))]
def cutR (l : List (List DV)) : List (List DV) := (l.take 7).map cutV
def Fval (ds : List DV) : List (List DV) := [cutV ds]
def Frow (ds : List DV) : List (List DV) := [[.list (cutR (lD ds 0))]]
/-- A row, cut, behind others, from a place on. -/
def FrowL (ds : List DV) : DV := .list (lD ds 1 ++ ((lD ds 0).take 7 |>.drop (iD ds 2).toNat).map cutV)
def cutRs (l : List (List DV)) (n : Nat) : List (List DV) := (l.take n).map fun r => [.list (cutR (lD r 0))]
def Frows (ds : List DV) : List (List DV) := [[.list (cutRs (lD ds 0) (iD ds 1).toNat)]]
def FrowsL (ds : List DV) : DV := .list (lD ds 1 ++ ((lD ds 0).take (iD ds 3).toNat |>.drop (iD ds 2).toNat).map fun r => [.list (cutR (lD r 0))])
open Classical in
/-- Are lists one? -/
noncomputable def eqLs (a b : List (List DV)) : Bool := decide (a = b)
noncomputable def Feq (ds : List DV) : List (List DV) := [[.bool (eqLs (lD ds 0) (lD ds 1))]]
/-- Are they one from a place on? -/
noncomputable def FeqL (ds : List DV) : DV := .bool (eqLs ((lD ds 0).drop (iD ds 2).toNat) ((lD ds 1).drop (iD ds 2).toNat))
/-- Are the rows at a place one, from a place on? -/
noncomputable def FeqL2 (ds : List DV) : DV := .bool (eqLs ((lD ((lD ds 0).getD (iD ds 2).toNat []) 0).drop (iD ds 3).toNat) ((lD ((lD ds 1).getD (iD ds 2).toNat []) 0).drop (iD ds 3).toNat))
noncomputable def Fsame (ds : List DV) : List (List DV) := [[.bool (decide (iD ds 0 = iD ds 3) && decide (iD ds 1 = iD ds 4) && eqLs (lD ds 2) (lD ds 5))]]
def Ftrue (_ : List DV) : List (List DV) := [[.bool true]]
noncomputable def theI : Nat → List DV → DV
  | 1, ds => .list (Fval ds)
  | 2, ds => .list (Frow ds)
  | 3, ds => .list (Frows ds)
  | 4, ds => .list (Feq ds)
  | 5, ds => .list (Fsame ds)
  | 6, ds => .list (Ftrue ds)
  | 102, ds => FrowL ds
  | 103, ds => FrowsL ds
  | 104, ds => FeqL ds
  | 105, ds => FeqL2 ds
  | _, _ => .bool false
end Go.Proofs.YtnacaggkeejodaaGreatDoor
namespace Go.Proofs.YtnacaggkeejodaaGreatDoor
open Go Go.AM
/-! ### value, row, rows -/
noncomputable def pVal : Pln :=
  (.ask (lss (.len (.v 2)) (k64 65))
    (.done [[.v 0, .v 1, .cut (.v 2) (k64 0) (.len (.v 2))]])
    (.ask (lss (k64 65) (.len (.v 2)))
      (.done [[.v 0, .v 1, .cut (.v 2) (k64 0) (k64 65)]])
      (.done [[.v 0, .v 1, .cut (.v 2) (k64 0) (.len (.v 2))]])))
theorem kVal : (hasB 24 && checkPlan [.agg tV] (runI theI (entS []) [] [] 24 [.agg tV]) [] pVal) = true := by kernel_rfl
theorem agg_v {ds : List (List DV)} (h : IsArgs [.agg tV] ds) : ∃ k n s, ds = [[.int .i64 k, .int .i64 n, .str s]] ∧ s.size ≤ maxLen := by
  simp only [IsArgs, IsOne, IsL] at h
  obtain ⟨_, _, rfl, ⟨d1, _, rfl, h1, d2, _, rfl, h2, d3, _, rfl, h3, rfl⟩, rfl⟩ := h
  obtain ⟨k, rfl, _⟩ := h1.i64
  obtain ⟨n, rfl, _⟩ := h2.i64
  obtain ⟨s, rfl, hs⟩ := h3.str
  exact ⟨k, n, s, rfl, hs⟩
theorem fnVal : FnOK Tryz.prog G 24 [.agg tV] [.agg tV] (fun _ => True) Fval := by
  have hk := kVal
  rw [Bool.and_eq_true] at hk
  refine fn_run (entS_ok (l := []) trivial) [] [] noLoops hk.1 pVal hk.2 ?_
  intro ds h _
  obtain ⟨k, n, s, rfl, _⟩ := agg_v h
  have hF : Fval [[.int .i64 k, .int .i64 n, .str s]].flatten = [[.int .i64 k, .int .i64 n, .str (s.extract 0 (min s.size 65))]] := rfl
  generalize hR : rhoOf theI [[.int .i64 k, .int .i64 n, .str s]].flatten = R
  have q0 : R.ρ 0 = .int .i64 k := by rw [← hR]; rfl
  have q1 : R.ρ 1 = .int .i64 n := by rw [← hR]; rfl
  have q2 : R.ρ 2 = .str s := by rw [← hR]; rfl
  have hl := d_lens (R := R) (x := .v 2) (d_v q2)
  have fin : ∀ (e : SX) (z : Int), den R e = .int .i64 z → z.toNat = min s.size 65 → goalPlan R (Fval [[.int .i64 k, .int .i64 n, .str s]].flatten) (.done [[.v 0, .v 1, .cut (.v 2) (k64 0) e]]) := by
    intro e z he hz
    show Fval _ = _
    rw [hF]
    have := d_cuts (R := R) (x := .v 2) (d_v q2) (d_k .i64 0) he
    simp only [List.map_cons, List.map_nil, d_v q0, d_v q1, this, hz]
    rfl
  unfold pVal
  refine goal_ask (d_lss hl (d_k .i64 65)) (fun h1 => fin _ _ hl ?_) (fun h1 => goal_ask (d_lss (d_k .i64 65) hl) (fun h2 => fin _ _ (d_k .i64 65) ?_) (fun h2 => fin _ _ hl ?_))
  all_goals (simp only [decide_eq_true_eq, decide_eq_false_iff_not] at *; omega)
noncomputable def eVal : Ent := eFn 24 [.agg tV] [.agg tV] [] 1
theorem eVal_ok : EntsOK Tryz.prog G theI [eVal] := ⟨eFn_ok plainG (pre_true fnVal) (fun _ => rfl) [] (by kernel_rfl), trivial⟩
noncomputable def TRow : Tmpl := { tm := [(3, .own 7 tV (.v 1)), (6, .sy tRow (.v 0)), (7, .sy tI (.len (.v 0))), (8, .sy tI (.v 2))], ow := [⟨7, 52, tV, .v 1⟩], src := [.tm 6 tRow, .own 0, .tm 8 tI], osrc := [.tm 3 52 tV] }
noncomputable def YRow : Tmpl := { tm := [(3, .own 7 tV (.v 0))], ow := [⟨7, 52, tV, .v 0⟩], src := [.own 0], osrc := [.tm 3 52 tV] }
noncomputable def LRow : LoopSp := { n := 22, T := TRow, pre := [(lss (k64 0) (.len (.v 1)), false), (eql (.v 2) (k64 0), true)], yes := (.exit 0, YRow, [.app 102 [.v 0, .v 1, .v 2]]) }
noncomputable abbrev codeRow : Code := loopAt 11 0
noncomputable def TRows : Tmpl := { tm := [(1, .sy tI (.v 3)), (5, .own 7 [tRow] (.v 1)), (8, .sy tRows (.v 0)), (9, .sy tI (.len (.v 0))), (10, .sy tI (.v 2))], ow := [⟨7, 50, [tRow], .v 1⟩], src := [.tm 8 tRows, .own 0, .tm 10 tI, .tm 1 tI], osrc := [.tm 5 50 [tRow]] }
noncomputable def YRows : Tmpl := { tm := [(5, .own 7 [tRow] (.v 0))], ow := [⟨7, 50, [tRow], .v 0⟩], src := [.own 0], osrc := [.tm 5 50 [tRow]] }
noncomputable def LRows : LoopSp := { n := 25, T := TRows, pre := [(lss (k64 0) (.len (.v 1)), false), (eql (.v 2) (k64 0), true), (lss (k64 1000) (.v 3), false)], yes := (.exit 0, YRows, [.app 103 [.v 0, .v 1, .v 2, .v 3]]) }
noncomputable abbrev codeRows : Code := loopAt 5 0
noncomputable def eRow : Ent := eFn 11 [.one tRow] [.one tRow] [] 2
noncomputable def eRows : Ent := eFn 5 [.one tRows, .one tI] [.one tRows] [(lss (k64 1000) (.v 1), false)] 3
end Go.Proofs.YtnacaggkeejodaaGreatDoor
namespace Go.Proofs.YtnacaggkeejodaaGreatDoor
open Go Go.AM
/-! ### the loop of row -/
noncomputable abbrev vAt (c : Nat) : SX := .at (.v 0) (.v 2) c
noncomputable abbrev vApp : SX := .app 1 [vAt 0, vAt 1, vAt 2]
noncomputable abbrev vCat : SX := .cat (.v 1) (.row [.at vApp (k64 0) 0, .at vApp (k64 0) 1, .at vApp (k64 0) 2])
noncomputable def rRow : RPln :=
  .ask (lss (.v 2) (.len (.v 0)))
    (knowR [(lss (.v 2) (k64 0), false), (lss (k64 1000000) (.len (.v 1)), false)]
      (.ask (lss (k64 6) (.v 2))
        (.next [.v 0, .v 1, add (.v 2) (k64 1)])
        (.next [.v 0, vCat, add (.v 2) (k64 1)])))
    (.exit true [.v 1])
theorem okRow : (LRow.yes.2.1.ok LRow.T LRow.n && LRow.no.2.1.ok LRow.T LRow.n && checkRound LRow (roundI theI (entS [eVal]) [] codeRow) [] rRow) = true := by kernel_rfl
def invRow (R : Rho) : Prop := ∃ la l i, R.ρ 0 = .list la ∧ R.ρ 1 = .list l ∧ R.ρ 2 = .int .i64 i ∧ (∀ r ∈ la, IsV r) ∧ la.length ≤ maxLen ∧ 0 ≤ i ∧ i ≤ la.length ∧ l.length ≤ i.toNat ∧ l.length ≤ 7
noncomputable def muRow (R : Rho) : Nat := match R.ρ 0, R.ρ 2 with
  | .list la, .int _ i => la.length - i.toNat
  | _, _ => 0
theorem len_leL {R : Rho} {x : SX} {l : List (List DV)} (hx : den R x = .list l) (hl : l.length ≤ 1000000) : den R (lss (k64 1000000) (.len x)) = .bool false := by
  rw [d_lss (d_k .i64 1000000) (d_lenL hx)]
  simp
  omega
theorem cutV_is {r : List DV} (h : IsV r) : ∃ k n s, r = [.int .i64 k, .int .i64 n, .str s] ∧ cutV r = [.int .i64 k, .int .i64 n, .str (cutT s)] := by
  obtain ⟨k, n, s, rfl, _⟩ := h
  exact ⟨k, n, s, rfl, rfl⟩
theorem maxLen_lt : maxLen ≤ 9223372036854775807 := by unfold maxLen; omega
theorem loopRow : LoopOK Tryz.prog G theI codeRow LRow := by
  refine loop_run (lps := []) (entS_ok eVal_ok) noLoops rRow okRow invRow muRow ?_ ?_
  · intro m a w hr hp
    obtain ⟨la, e0, a1, a2⟩ := (head_sy hr (t := 6) (i := 0) (ty := tRow) (by kernel_rfl)).vals
    obtain ⟨l, e1, b1, b2⟩ := (head_own hr (t := 3) (id := 7) (i := 1) (el := 52) (ts := tV) (by kernel_rfl) (by kernel_rfl)).vals
    obtain ⟨i, e2, _⟩ := (head_sy hr (t := 8) (i := 2) (ty := tI) (by kernel_rfl)).i64
    have p1 := hp (lss (k64 0) (.len (.v 1)), false) (by simp [LRow])
    have p2 := hp (eql (.v 2) (k64 0), true) (by simp [LRow])
    rw [d_lss (d_k .i64 0) (d_lenL (d_v e1))] at p1
    rw [d_eql (d_v e2) (d_k .i64 0)] at p2
    simp only [DV.bool.injEq, decide_eq_false_iff_not, decide_eq_true_eq] at p1 p2
    refine ⟨la, l, i, e0, e1, e2, a2, a1, ?_⟩
    omega
  · rintro R hI ⟨la, l, i, e0, e1, e2, hv, hm, h1, h2, h3, h4⟩
    have hmx := maxLen_lt
    have hout : ∀ (R' : Rho) (l' : List (List DV)) (i' : Int), R'.I = theI → R'.ρ 0 = .list la → R'.ρ 1 = .list l' → R'.ρ 2 = .int .i64 i' → LRow.yes.2.2.map (den R') = [.list (l' ++ ((la.take 7).drop i'.toNat).map cutV)] := by
      intro R' l' i' hI' f0 f1 f2
      show [den R' (.app 102 [.v 0, .v 1, .v 2])] = _
      rw [d_app, hI']
      simp only [List.map_cons, List.map_nil, den, f0, f1, f2]
      rfl
    unfold rRow
    refine round_ask (d_lss (d_v e2) (d_lenL (d_v e0))) (fun hlt => ?_) (fun hge => ?_)
    · simp only [decide_eq_true_eq] at hlt
      have hi1 := d_add (R := R) (d_v e2) (d_k .i64 1) (by omega) (by omega)
      have next : ∀ (e : SX) (l' : List (List DV)), den R e = .list (l ++ l') → (l ++ l').length ≤ i.toNat + 1 → (l ++ l').length ≤ 7 → l' ++ ((la.take 7).drop (i + 1).toNat).map cutV = ((la.take 7).drop i.toNat).map cutV → goalRound LRow invRow muRow R (.next [.v 0, e, add (.v 2) (k64 1)]) := by
        intro e l' he g1 g2 heq
        have s0 := sub_get R [.v 0, e, add (.v 2) (k64 1)] 0 rfl (d_v e0)
        have s1 := sub_get R [.v 0, e, add (.v 2) (k64 1)] 1 rfl he
        have s2 := sub_get R [.v 0, e, add (.v 2) (k64 1)] 2 rfl hi1
        refine round_next (fun _ => rfl) ⟨la, l ++ l', i + 1, s0, s1, s2, hv, hm, by omega, by omega, by omega, g2⟩ ?_ ?_
        · simp only [muRow, s0, s2, e0, e2]
          omega
        · rw [hout R l i hI e0 e1 e2, hout (R.sub [.v 0, e, add (.v 2) (k64 1)]) (l ++ l') (i + 1) hI s0 s1 s2, List.append_assoc, heq]
      refine round_knows (l := [_, _]) ?_ ?_
      · intro q hq
        simp only [List.mem_cons, List.not_mem_nil, or_false] at hq
        rcases hq with rfl | rfl
        · rw [d_lss (d_v e2) (d_k .i64 0)]; simp; omega
        · exact len_leL (d_v e1) (by omega)
      refine round_ask (d_lss (d_k .i64 6) (d_v e2)) (fun hz => ?_) (fun hz => ?_)
      · simp only [decide_eq_true_eq] at hz
        refine next (.v 1) [] (by simpa using d_v e1) (by simp; omega) (by simpa using h4) ?_
        have t1 : (la.take 7).drop i.toNat = [] := List.drop_eq_nil_of_le (by rw [List.length_take]; omega)
        have t2 : (la.take 7).drop (i + 1).toNat = [] := List.drop_eq_nil_of_le (by rw [List.length_take]; omega)
        rw [t1, t2]
        rfl
      · simp only [decide_eq_false_iff_not] at hz
        have hin : i.toNat < la.length := by omega
        have hget : la.getD i.toNat [] = la[i.toNat] := getD_lt hin
        obtain ⟨k, n, s, hr, hc⟩ := cutV_is (hv _ (List.getElem_mem hin))
        have c0 : den R (vAt 0) = .int .i64 k := by rw [d_at 0 (d_v e0) (d_v e2), hget, hr]; rfl
        have c1 : den R (vAt 1) = .int .i64 n := by rw [d_at 1 (d_v e0) (d_v e2), hget, hr]; rfl
        have c2 : den R (vAt 2) = .str s := by rw [d_at 2 (d_v e0) (d_v e2), hget, hr]; rfl
        have hargs : [vAt 0, vAt 1, vAt 2].map (den R) = [.int .i64 k, .int .i64 n, .str s] := by simp only [List.map_cons, List.map_nil, c0, c1, c2]
        have hres : ∀ j d, [DV.int .i64 k, .int .i64 n, .str (cutT s)].getD j (.bool false) = d → den R (.at vApp (k64 0) j) = d := fun j d hd => by
          refine d_res (F := Fval) (by rw [hI]; rfl) ?_
          rw [hargs, ← hd]
          rfl
        have hcat : den R vCat = .list (l ++ [cutV la[i.toNat]]) := by
          have hrow : den R (.row [.at vApp (k64 0) 0, .at vApp (k64 0) 1, .at vApp (k64 0) 2]) = .list [[.int .i64 k, .int .i64 n, .str (cutT s)]] := by
            show DV.list [[den R (.at vApp (k64 0) 0), den R (.at vApp (k64 0) 1), den R (.at vApp (k64 0) 2)]] = _
            rw [hres 0 _ rfl, hres 1 _ rfl, hres 2 _ rfl]
            rfl
          rw [hc]
          show catD (den R (.v 1)) (den R (.row _)) = _
          rw [hrow, d_v e1]
          rfl
        refine next vCat [cutV la[i.toNat]] hcat (by simp; omega) (by simp; omega) ?_
        have t1 : (la.take 7).drop i.toNat = la[i.toNat] :: (la.take 7).drop (i.toNat + 1) := by
          have hl : i.toNat < (la.take 7).length := by rw [List.length_take]; omega
          rw [List.drop_eq_getElem_cons hl, List.getElem_take]
        rw [t1, toNat_succ h1]
        rfl
    · simp only [decide_eq_false_iff_not] at hge
      refine round_exit (fun _ => rfl) ?_
      rw [hout R l i hI e0 e1 e2]
      have : (la.take 7).drop i.toNat = [] := List.drop_eq_nil_of_le (by rw [List.length_take]; omega)
      rw [this]
      simp only [List.map_cons, List.map_nil, d_v e1, List.append_nil]
noncomputable def pRow : Pln := .know (lss (k64 0) (.len .emp)) false (.done [[.app 102 [.v 0, .emp, k64 0]]])
theorem kRow : (hasB 11 && checkPlan [.one tRow] (runI theI (entS [eVal]) [(4, LRow)] [some (52, tV)] 11 [.one tRow]) [] pRow) = true := by kernel_rfl
theorem fnRow : FnOK Tryz.prog G 11 [.one tRow] [.one tRow] (fun _ => True) Frow := by
  have hk := kRow
  rw [Bool.and_eq_true] at hk
  refine fn_run (entS_ok eVal_ok) [(4, LRow)] _ (loops1 (by kernel_rfl) loopRow) hk.1 pRow hk.2 ?_
  intro ds h _
  simp only [IsArgs, IsOne] at h
  obtain ⟨_, _, rfl, ⟨d, rfl, hd⟩, rfl⟩ := h
  obtain ⟨la, rfl, _⟩ := hd.vals
  refine goal_know ?_ ?_
  · rfl
  · show Frow _ = _
    simp only [List.map_cons, List.map_nil]
    rw [d_app]
    rfl
theorem eRow_ok : EntsOK Tryz.prog G theI [eRow] := ⟨eFn_ok plainG (pre_true fnRow) (fun _ => rfl) [] (by kernel_rfl), trivial⟩
end Go.Proofs.YtnacaggkeejodaaGreatDoor
namespace Go.Proofs.YtnacaggkeejodaaGreatDoor
open Go Go.AM
/-! ### the loop of rows -/
noncomputable abbrev wApp : SX := .app 2 [.at (.v 0) (.v 2) 0]
noncomputable abbrev wCat : SX := .cat (.v 1) (.row [.at wApp (k64 0) 0])
noncomputable def rRows : RPln :=
  .ask (lss (.v 2) (.len (.v 0)))
    (knowR [(lss (.v 2) (k64 0), false)]
      (.ask (lss (.v 2) (.v 3))
        (.know (lss (k64 1000000) (.len (.v 1))) false (.next [.v 0, wCat, add (.v 2) (k64 1), .v 3]))
        (.next [.v 0, .v 1, add (.v 2) (k64 1), .v 3])))
    (.exit true [.v 1])
theorem okRows : (LRows.yes.2.1.ok LRows.T LRows.n && LRows.no.2.1.ok LRows.T LRows.n && checkRound LRows (roundI theI (entS [eRow]) [] codeRows) [] rRows) = true := by kernel_rfl
def invRows (R : Rho) : Prop := ∃ la l i n, R.ρ 0 = .list la ∧ R.ρ 1 = .list l ∧ R.ρ 2 = .int .i64 i ∧ R.ρ 3 = .int .i64 n ∧ (∀ r ∈ la, IsR r) ∧ la.length ≤ maxLen ∧ 0 ≤ i ∧ i ≤ la.length ∧ n ≤ 1000 ∧ l.length ≤ 1000 ∧ (l.length : Int) ≤ max 0 n
noncomputable def muRows (R : Rho) : Nat := match R.ρ 0, R.ρ 2 with
  | .list la, .int _ i => la.length - i.toNat
  | _, _ => 0
def rowF (r : List DV) : List DV := [.list (cutR (lD r 0))]
theorem loopRows : LoopOK Tryz.prog G theI codeRows LRows := by
  refine loop_run (lps := []) (entS_ok eRow_ok) noLoops rRows okRows (fun R => invRows R ∧ ∃ la l i, R.ρ 0 = .list la ∧ R.ρ 1 = .list l ∧ R.ρ 2 = .int .i64 i ∧ l.length ≤ i.toNat) muRows ?_ ?_
  · intro m a w hr hp
    obtain ⟨la, e0, a1, a2⟩ := (head_sy hr (t := 8) (i := 0) (ty := tRows) (by kernel_rfl)).rows
    obtain ⟨l, e1, _⟩ := (head_own hr (t := 5) (id := 7) (i := 1) (el := 50) (ts := [tRow]) (by kernel_rfl) (by kernel_rfl)).list
    obtain ⟨i, e2, _⟩ := (head_sy hr (t := 10) (i := 2) (ty := tI) (by kernel_rfl)).i64
    obtain ⟨n, e3, _⟩ := (head_sy hr (t := 1) (i := 3) (ty := tI) (by kernel_rfl)).i64
    have p1 := hp (lss (k64 0) (.len (.v 1)), false) (by simp [LRows])
    have p2 := hp (eql (.v 2) (k64 0), true) (by simp [LRows])
    have p3 := hp (lss (k64 1000) (.v 3), false) (by simp [LRows])
    rw [d_lss (d_k .i64 0) (d_lenL (d_v e1))] at p1
    rw [d_eql (d_v e2) (d_k .i64 0)] at p2
    rw [d_lss (d_k .i64 1000) (d_v e3)] at p3
    simp only [DV.bool.injEq, decide_eq_false_iff_not, decide_eq_true_eq] at p1 p2 p3
    exact ⟨⟨la, l, i, n, e0, e1, e2, e3, a2, a1, by omega, by omega, by omega, by omega, by omega⟩, la, l, i, e0, e1, e2, by omega⟩
  · rintro R hI ⟨⟨la, l, i, n, e0, e1, e2, e3, hv, hm, h1, h2, h3, h4, h5⟩, la', l', i', f0, f1, f2, h6⟩
    rw [e1] at f1
    rw [e2] at f2
    cases f1
    cases f2
    clear f0 la'
    have hmx := maxLen_lt
    have hout : ∀ (R' : Rho) (l' : List (List DV)) (i' : Int), R'.I = theI → R'.ρ 0 = .list la → R'.ρ 1 = .list l' → R'.ρ 2 = .int .i64 i' → R'.ρ 3 = .int .i64 n → LRows.yes.2.2.map (den R') = [.list (l' ++ ((la.take n.toNat).drop i'.toNat).map rowF)] := by
      intro R' l' i' hI' f0 f1 f2 f3
      show [den R' (.app 103 [.v 0, .v 1, .v 2, .v 3])] = _
      rw [d_app, hI']
      simp only [List.map_cons, List.map_nil, den, f0, f1, f2, f3]
      rfl
    unfold rRows
    refine round_ask (d_lss (d_v e2) (d_lenL (d_v e0))) (fun hlt => ?_) (fun hge => ?_)
    · simp only [decide_eq_true_eq] at hlt
      have hi1 := d_add (R := R) (d_v e2) (d_k .i64 1) (by omega) (by omega)
      have next : ∀ (e : SX) (l' : List (List DV)), den R e = .list (l ++ l') → (l ++ l').length ≤ i.toNat + 1 → (((l ++ l').length : Nat) : Int) ≤ max 0 n → l' ++ ((la.take n.toNat).drop (i + 1).toNat).map rowF = ((la.take n.toNat).drop i.toNat).map rowF → goalRound LRows (fun R => invRows R ∧ ∃ la l i, R.ρ 0 = .list la ∧ R.ρ 1 = .list l ∧ R.ρ 2 = .int .i64 i ∧ l.length ≤ i.toNat) muRows R (.next [.v 0, e, add (.v 2) (k64 1), .v 3]) := by
        intro e l' he g1 g2 heq
        have s0 := sub_get R [.v 0, e, add (.v 2) (k64 1), .v 3] 0 rfl (d_v e0)
        have s1 := sub_get R [.v 0, e, add (.v 2) (k64 1), .v 3] 1 rfl he
        have s2 := sub_get R [.v 0, e, add (.v 2) (k64 1), .v 3] 2 rfl hi1
        have s3 := sub_get R [.v 0, e, add (.v 2) (k64 1), .v 3] 3 rfl (d_v e3)
        refine round_next (fun _ => rfl) ⟨⟨la, l ++ l', i + 1, n, s0, s1, s2, s3, hv, hm, by omega, by omega, h3, by omega, g2⟩, la, l ++ l', i + 1, s0, s1, s2, by omega⟩ ?_ ?_
        · simp only [muRows, s0, s2, e0, e2]
          omega
        · rw [hout R l i hI e0 e1 e2 e3, hout (R.sub [.v 0, e, add (.v 2) (k64 1), .v 3]) (l ++ l') (i + 1) hI s0 s1 s2 s3, List.append_assoc, heq]
      refine round_knows (l := [_]) ?_ ?_
      · intro q hq
        simp only [List.mem_cons, List.not_mem_nil, or_false] at hq
        subst hq
        rw [d_lss (d_v e2) (d_k .i64 0)]; simp; omega
      refine round_ask (d_lss (d_v e2) (d_v e3)) (fun hz => ?_) (fun hz => ?_)
      · simp only [decide_eq_true_eq] at hz
        refine round_know (len_leL (d_v e1) (by omega)) ?_
        have hin : i.toNat < la.length := by omega
        have hget : la.getD i.toNat [] = la[i.toNat] := getD_lt hin
        obtain ⟨lv, hr, _⟩ := hv _ (List.getElem_mem hin)
        have c0 : den R (.at (.v 0) (.v 2) 0) = .list lv := by rw [d_at 0 (d_v e0) (d_v e2), hget, hr]; rfl
        have hres : den R (.at wApp (k64 0) 0) = .list (cutR lv) := by
          refine d_res (F := Frow) (by rw [hI]; rfl) ?_
          simp only [List.map_cons, List.map_nil, c0]
          rfl
        have hf : rowF la[i.toNat] = [.list (cutR lv)] := by rw [hr]; rfl
        have hcat : den R wCat = .list (l ++ [rowF la[i.toNat]]) := by
          rw [hf]
          show catD (den R (.v 1)) (DV.list [[den R (.at wApp (k64 0) 0)]]) = _
          rw [hres, d_v e1]
          rfl
        refine next wCat [rowF la[i.toNat]] hcat (by simp; omega) (by simp; omega) ?_
        have t1 : (la.take n.toNat).drop i.toNat = la[i.toNat] :: (la.take n.toNat).drop (i.toNat + 1) := by
          have hl : i.toNat < (la.take n.toNat).length := by rw [List.length_take]; omega
          rw [List.drop_eq_getElem_cons hl, List.getElem_take]
        rw [t1, toNat_succ h1]
        rfl
      · simp only [decide_eq_false_iff_not] at hz
        refine next (.v 1) [] (by simpa using d_v e1) (by simp; omega) (by simpa using h5) ?_
        have t1 : (la.take n.toNat).drop i.toNat = [] := List.drop_eq_nil_of_le (by rw [List.length_take]; omega)
        have t2 : (la.take n.toNat).drop (i + 1).toNat = [] := List.drop_eq_nil_of_le (by rw [List.length_take]; omega)
        rw [t1, t2]
        rfl
    · simp only [decide_eq_false_iff_not] at hge
      refine round_exit (fun _ => rfl) ?_
      rw [hout R l i hI e0 e1 e2 e3]
      have : (la.take n.toNat).drop i.toNat = [] := List.drop_eq_nil_of_le (by rw [List.length_take]; omega)
      rw [this]
      simp only [List.map_cons, List.map_nil, d_v e1, List.append_nil]
noncomputable def pRows : Pln := .know (lss (k64 0) (.len .emp)) false (.know (lss (k64 1000) (.v 1)) false (.done [[.app 103 [.v 0, .emp, k64 0, .v 1]]]))
theorem kRows : (hasB 5 && checkPlan [.one tRows] (runI theI (entS [eRow]) [(4, LRows)] [some (50, [tRow])] 5 [.one tRows, .one tI]) [] pRows) = true := by kernel_rfl
theorem fnRows : FnOK Tryz.prog G 5 [.one tRows, .one tI] [.one tRows] (fun ds => ∀ p ∈ [(lss (k64 1000) (.v 1), false)], den (rhoOf theI ds) p.1 = .bool p.2) Frows := by
  have hk := kRows
  rw [Bool.and_eq_true] at hk
  refine fn_run (entS_ok eRow_ok) [(4, LRows)] _ (loops1 (by kernel_rfl) loopRows) hk.1 pRows hk.2 ?_
  intro ds h hpre
  simp only [IsArgs, IsOne] at h
  obtain ⟨_, _, rfl, ⟨d, rfl, hd⟩, _, _, rfl, ⟨e, rfl, he⟩, rfl⟩ := h
  obtain ⟨la, rfl, _⟩ := hd.rows
  refine goal_know rfl (goal_know (hpre (lss (k64 1000) (.v 1), false) (by simp)) ?_)
  show Frows _ = _
  simp only [List.map_cons, List.map_nil]
  rw [d_app]
  rfl
theorem eRows_ok : EntsOK Tryz.prog G theI [eRows] := ⟨eFn_ok plainG fnRows (fun _ => rfl) [] (by kernel_rfl), trivial⟩
end Go.Proofs.YtnacaggkeejodaaGreatDoor
namespace Go.Proofs.YtnacaggkeejodaaGreatDoor
open Go Go.AM
/-! ### slices.Equal of values, slices.EqualFunc of rows -/
noncomputable def NEq (t : Nat) : Tmpl := { tm := [(t, .sc (.bool false))] }
noncomputable def Y0 : Tmpl := { tm := [] }
noncomputable abbrev cEq : SX := .app 104 [.v 0, .v 1, .v 2]
noncomputable def TEq : Tmpl := { tm := [(0, .sy tRow (.v 0)), (1, .sy tRow (.v 1)), (12, .sy tI (.len (.v 0))), (13, .sy tI (.v 2))], src := [.tm 0 tRow, .tm 1 tRow, .tm 13 tI] }
noncomputable def preEq : List (SX × Bool) := [(eql (.len (.v 0)) (.len (.v 1)), true), (eql (.v 2) (k64 0), true)]
noncomputable def LEq : LoopSp := { n := 26, T := TEq, pre := preEq, cnd := cEq, yes := (.exit 0, Y0, []), no := (.ret, NEq 4, []) }
noncomputable abbrev codeEq : Code := loopAt 13 0
noncomputable abbrev eq3 : SX := .all [eql (.at (.v 0) (.v 2) 0) (.at (.v 1) (.v 2) 0), eql (.at (.v 0) (.v 2) 1) (.at (.v 1) (.v 2) 1), eql (.at (.v 0) (.v 2) 2) (.at (.v 1) (.v 2) 2)]
noncomputable def rEq (c : SX) (τ : List SX) : RPln :=
  .ask (lss (.v 2) (.len (.v 0)))
    (knowR [(lss (.v 2) (k64 0), false), (lss (.v 2) (.len (.v 1)), true)]
      (.ask c (.next τ) (.exit false [])))
    (.exit true [])
noncomputable abbrev nxEq : List SX := [.v 0, .v 1, add (.v 2) (k64 1)]
theorem okEq : (LEq.yes.2.1.ok LEq.T LEq.n && LEq.no.2.1.ok LEq.T LEq.n && checkRound LEq (roundI theI (entS []) [] codeEq) [] (rEq eq3 nxEq)) = true := by kernel_rfl
noncomputable def eEq : Ent := eFn 13 [.one tRow, .one tRow] [.one .bool] [] 4
noncomputable abbrev conEq : AV := .sc (.func (.func 13) #[] #[])
noncomputable def TEf : Tmpl := { tm := [(1, .sy tRows (.v 1)), (2, conEq), (15, .sy tRows (.v 0)), (16, .sy tI (.len (.v 0))), (17, .sy tI (.v 2))], src := [.tm 15 tRows, .tm 1 tRows, .tm 17 tI] }
noncomputable def LEf : LoopSp := { n := 32, T := TEf, pre := preEq, cnd := cEq, yes := (.exit 0, Y0, []), no := (.ret, NEq 6, []) }
noncomputable abbrev codeEf : Code := loopAt 12 0
noncomputable abbrev eqF : SX := .at (.app 4 [.at (.v 0) (.v 2) 0, .at (.v 1) (.v 2) 0]) (k64 0) 0
theorem okEf : (LEf.yes.2.1.ok LEf.T LEf.n && LEf.no.2.1.ok LEf.T LEf.n && checkRound LEf (roundI theI (entS [eEq]) [] codeEf) [] (rEq eqF nxEq)) = true := by kernel_rfl
open Classical in
noncomputable def eqRw (x y : List DV) : Bool := decide (x = y)
def invEq (Q : List DV → Prop) (R : Rho) : Prop := ∃ la lb i, R.ρ 0 = .list la ∧ R.ρ 1 = .list lb ∧ R.ρ 2 = .int .i64 i ∧ (∀ r ∈ la, Q r) ∧ (∀ r ∈ lb, Q r) ∧ la.length ≤ maxLen ∧ la.length = lb.length ∧ 0 ≤ i ∧ i ≤ la.length
theorem dEq {R : Rho} (hI : R.I = theI) {la lb : List (List DV)} {i : Int} (e0 : R.ρ 0 = .list la) (e1 : R.ρ 1 = .list lb) (e2 : R.ρ 2 = .int .i64 i) : den R cEq = .bool (eqLs (la.drop i.toNat) (lb.drop i.toNat)) := by
  rw [d_app, hI]
  simp only [List.map_cons, List.map_nil, den, e0, e1, e2]
  rfl
theorem goalEq {L : LoopSp} {Q : List DV → Prop} {c : SX} (hc : L.cnd = cEq) (hy : L.yes.2.2 = []) (hn : L.no.2.2 = [])
    (hd : ∀ (R : Rho) (la lb : List (List DV)) (i : Int), R.I = theI → R.ρ 0 = .list la → R.ρ 1 = .list lb → R.ρ 2 = .int .i64 i → 0 ≤ i → ∀ (h1 : i.toNat < la.length) (h2 : i.toNat < lb.length), Q la[i.toNat] → Q lb[i.toNat] → den R c = .bool (eqRw la[i.toNat] lb[i.toNat])) :
    ∀ R : Rho, R.I = theI → invEq Q R → goalRound L (invEq Q) muRow R (rEq c nxEq) := by
  rintro R hI ⟨la, lb, i, e0, e1, e2, q1, q2, hm, hl, h1, h2⟩
  have hmx := maxLen_lt
  have hcnd := dEq hI e0 e1 e2
  unfold rEq
  refine round_ask (d_lss (d_v e2) (d_lenL (d_v e0))) (fun hlt => ?_) (fun hge => ?_)
  · simp only [decide_eq_true_eq] at hlt
    have l1 : i.toNat < la.length := by omega
    have l2 : i.toNat < lb.length := by omega
    have hi1 := d_add (R := R) (d_v e2) (d_k .i64 1) (by omega) (by omega)
    have hs := drop_step l1 l2
    refine round_knows (l := [_, _]) ?_ ?_
    · intro q hq
      simp only [List.mem_cons, List.not_mem_nil, or_false] at hq
      rcases hq with rfl | rfl
      · rw [d_lss (d_v e2) (d_k .i64 0)]; simp; omega
      · rw [d_lss (d_v e2) (d_lenL (d_v e1))]; simp; omega
    refine round_ask (hd R la lb i hI e0 e1 e2 h1 l1 l2 (q1 _ (List.getElem_mem l1)) (q2 _ (List.getElem_mem l2))) (fun hz => ?_) (fun hz => ?_)
    · have hz : la[i.toNat] = lb[i.toNat] := by simpa [eqRw] using hz
      have s0 := sub_get R nxEq 0 rfl (d_v e0)
      have s1 := sub_get R nxEq 1 rfl (d_v e1)
      have s2 := sub_get R nxEq 2 rfl hi1
      refine ⟨⟨la, lb, i + 1, s0, s1, s2, q1, q2, hm, hl, by omega, by omega⟩, ?_, ?_, fun b _ => ?_⟩
      · simp only [muRow, s0, s2, e0, e2]
        omega
      · rw [hc, hcnd, dEq (R := R.sub nxEq) hI s0 s1 s2]
        congr 1
        have e : eqLs (la.drop i.toNat) (lb.drop i.toNat) = eqLs (la.drop (i.toNat + 1)) (lb.drop (i.toNat + 1)) := by
          unfold eqLs
          rw [decide_eq_decide, hs]
          exact ⟨fun h => h.2, fun h => ⟨hz, h⟩⟩
        rw [e, ← toNat_succ h1]
        rfl
      · cases b
        · show L.no.2.2.map _ = L.no.2.2.map _
          rw [hn]; rfl
        · show L.yes.2.2.map _ = L.yes.2.2.map _
          rw [hy]; rfl
    · have hz : ¬ la[i.toNat] = lb[i.toNat] := by simpa [eqRw] using hz
      refine ⟨?_, ?_⟩
      · rw [hc, hcnd]
        congr 1
        unfold eqLs
        rw [decide_eq_false_iff_not, hs]
        exact fun h => hz h.1
      · show _ = L.no.2.2.map _
        rw [hn]
  · simp only [decide_eq_false_iff_not] at hge
    refine ⟨?_, ?_⟩
    · rw [hc, hcnd, List.drop_eq_nil_of_le (by omega), List.drop_eq_nil_of_le (by omega)]
      simp [eqLs]
    · show _ = L.yes.2.2.map _
      rw [hy]
theorem eq3_den (R : Rho) (la lb : List (List DV)) (i : Int) (_ : R.I = theI) (e0 : R.ρ 0 = .list la) (e1 : R.ρ 1 = .list lb) (e2 : R.ρ 2 = .int .i64 i) (h0 : 0 ≤ i) (h1 : i.toNat < la.length) (h2 : i.toNat < lb.length) (q1 : IsV la[i.toNat]) (q2 : IsV lb[i.toNat]) : den R eq3 = .bool (eqRw la[i.toNat] lb[i.toNat]) := by
  have a : ∀ c, den R (.at (.v 0) (.v 2) c) = la[i.toNat].getD c (.bool false) := fun c => by rw [d_at c (d_v e0) (d_v e2), getD_lt h1]
  have b : ∀ c, den R (.at (.v 1) (.v 2) c) = lb[i.toNat].getD c (.bool false) := fun c => by rw [d_at c (d_v e1) (d_v e2), getD_lt h2]
  exact d_allV q1 q2 (a 0) (a 1) (a 2) (b 0) (b 1) (b 2)
theorem loopEq : LoopOK Tryz.prog G theI codeEq LEq := by
  refine loop_run (lps := []) (entS_ok (l := []) trivial) noLoops (rEq eq3 nxEq) okEq (invEq IsV) muRow ?_ (goalEq rfl rfl rfl eq3_den)
  intro m a w hr hp
  obtain ⟨la, e0, a1, a2⟩ := (head_sy hr (t := 0) (i := 0) (ty := tRow) (by kernel_rfl)).vals
  obtain ⟨lb, e1, b1, b2⟩ := (head_sy hr (t := 1) (i := 1) (ty := tRow) (by kernel_rfl)).vals
  obtain ⟨i, e2, _⟩ := (head_sy hr (t := 13) (i := 2) (ty := tI) (by kernel_rfl)).i64
  have p1 := hp (eql (.len (.v 0)) (.len (.v 1)), true) (by simp [LEq, preEq])
  have p2 := hp (eql (.v 2) (k64 0), true) (by simp [LEq, preEq])
  rw [d_eql (d_lenL (d_v e0)) (d_lenL (d_v e1))] at p1
  rw [d_eql (d_v e2) (d_k .i64 0)] at p2
  simp only [DV.bool.injEq, decide_eq_true_eq] at p1 p2
  exact ⟨la, lb, i, e0, e1, e2, a2, b2, a1, by omega, by omega, by omega⟩
noncomputable def pEq : Pln :=
  .ask (eql (.len (.v 0)) (.len (.v 1)))
    (.ask (.app 104 [.v 0, .v 1, k64 0]) (.done [[.kb true]]) (.done [[.kb false]]))
    (.done [[.kb false]])
theorem kEq : (hasB 13 && checkPlan [.one .bool] (runI theI (entS []) [(5, LEq)] [] 13 [.one tRow, .one tRow]) [] pEq) = true := by kernel_rfl
/-- The goal of an equality of lists. -/
theorem goal_eq {la lb : List (List DV)} {R : Rho} (hI : R.I = theI) (e0 : R.ρ 0 = .list la) (e1 : R.ρ 1 = .list lb) : goalPlan R [[.bool (eqLs la lb)]] pEq := by
  unfold pEq
  refine goal_ask (d_eql (d_lenL (d_v e0)) (d_lenL (d_v e1))) (fun h => ?_) (fun h => ?_)
  · have hd : den R (.app 104 [.v 0, .v 1, k64 0]) = .bool (eqLs la lb) := by
      rw [d_app, hI]
      simp only [List.map_cons, List.map_nil, den, e0, e1]
      rfl
    refine goal_ask hd (fun hb => ?_) (fun hb => ?_)
    · show _ = _
      rw [hb]; rfl
    · show _ = _
      rw [hb]; rfl
  · show _ = _
    have : eqLs la lb = false := by
      unfold eqLs
      rw [decide_eq_false_iff_not]
      rintro rfl
      simp at h
    rw [this]; rfl
theorem fnEq : FnOK Tryz.prog G 13 [.one tRow, .one tRow] [.one .bool] (fun _ => True) Feq := by
  have hk := kEq
  rw [Bool.and_eq_true] at hk
  refine fn_run (entS_ok (l := []) trivial) [(5, LEq)] _ (loops1 (by kernel_rfl) loopEq) hk.1 pEq hk.2 ?_
  intro ds h _
  simp only [IsArgs, IsOne] at h
  obtain ⟨_, _, rfl, ⟨d, rfl, hd⟩, _, _, rfl, ⟨e, rfl, he⟩, rfl⟩ := h
  obtain ⟨la, rfl, _⟩ := hd.vals
  obtain ⟨lb, rfl, _⟩ := he.vals
  exact goal_eq rfl rfl rfl
theorem eEq_ok : EntsOK Tryz.prog G theI [eEq] := ⟨eFn_ok plainG (pre_true fnEq) (fun _ => rfl) [] (by kernel_rfl), trivial⟩
theorem isR_eq {x y : List DV} (hx : IsR x) (hy : IsR y) : ∃ lx ly, x = [.list lx] ∧ y = [.list ly] ∧ eqLs lx ly = eqRw x y := by
  obtain ⟨lx, rfl, _⟩ := hx
  obtain ⟨ly, rfl, _⟩ := hy
  refine ⟨lx, ly, rfl, rfl, ?_⟩
  unfold eqLs eqRw
  rw [decide_eq_decide]
  simp
theorem eqF_den (R : Rho) (la lb : List (List DV)) (i : Int) (hI : R.I = theI) (e0 : R.ρ 0 = .list la) (e1 : R.ρ 1 = .list lb) (e2 : R.ρ 2 = .int .i64 i) (h0 : 0 ≤ i) (h1 : i.toNat < la.length) (h2 : i.toNat < lb.length) (q1 : IsR la[i.toNat]) (q2 : IsR lb[i.toNat]) : den R eqF = .bool (eqRw la[i.toNat] lb[i.toNat]) := by
  obtain ⟨lx, ly, hx, hy, he⟩ := isR_eq q1 q2
  have a : den R (.at (.v 0) (.v 2) 0) = .list lx := by rw [d_at 0 (d_v e0) (d_v e2), getD_lt h1, hx]; rfl
  have b : den R (.at (.v 1) (.v 2) 0) = .list ly := by rw [d_at 0 (d_v e1) (d_v e2), getD_lt h2, hy]; rfl
  refine d_res (F := Feq) (by rw [hI]; rfl) ?_
  simp only [List.map_cons, List.map_nil, a, b, ← he]
  rfl
theorem loopEf : LoopOK Tryz.prog G theI codeEf LEf := by
  refine loop_run (lps := []) (entS_ok eEq_ok) noLoops (rEq eqF nxEq) okEf (invEq IsR) muRow ?_ (goalEq rfl rfl rfl eqF_den)
  intro m a w hr hp
  obtain ⟨la, e0, a1, a2⟩ := (head_sy hr (t := 15) (i := 0) (ty := tRows) (by kernel_rfl)).rows
  obtain ⟨lb, e1, b1, b2⟩ := (head_sy hr (t := 1) (i := 1) (ty := tRows) (by kernel_rfl)).rows
  obtain ⟨i, e2, _⟩ := (head_sy hr (t := 17) (i := 2) (ty := tI) (by kernel_rfl)).i64
  have p1 := hp (eql (.len (.v 0)) (.len (.v 1)), true) (by simp [LEf, preEq])
  have p2 := hp (eql (.v 2) (k64 0), true) (by simp [LEf, preEq])
  rw [d_eql (d_lenL (d_v e0)) (d_lenL (d_v e1))] at p1
  rw [d_eql (d_v e2) (d_k .i64 0)] at p2
  simp only [DV.bool.injEq, decide_eq_true_eq] at p1 p2
  exact ⟨la, lb, i, e0, e1, e2, a2, b2, a1, by omega, by omega, by omega⟩
theorem kEf : (hasB 12 && checkPlan [.one .bool] (runI theI (entS [eEq]) [(5, LEf)] [] 12 [.one tRows, .one tRows, .con 13]) [] pEq) = true := by kernel_rfl
theorem fnEf : FnOK Tryz.prog G 12 [.one tRows, .one tRows, .con 13] [.one .bool] (fun _ => True) Feq := by
  have hk := kEf
  rw [Bool.and_eq_true] at hk
  refine fn_run (entS_ok eEq_ok) [(5, LEf)] _ (loops1 (by kernel_rfl) loopEf) hk.1 pEq hk.2 ?_
  intro ds h _
  simp only [IsArgs, IsOne] at h
  obtain ⟨_, _, rfl, ⟨d, rfl, hd⟩, _, _, rfl, ⟨e, rfl, he⟩, _, _, rfl, rfl, rfl⟩ := h
  obtain ⟨la, rfl, _⟩ := hd.rows
  obtain ⟨lb, rfl, _⟩ := he.rows
  exact goal_eq rfl rfl rfl
noncomputable def eEf : Ent := eFn 12 [.one tRows, .one tRows, .con 13] [.one .bool] [] 4
theorem eEf_ok : EntsOK Tryz.prog G theI [eEf] := ⟨eFn_ok plainG (pre_true fnEf) (fun _ => rfl) [] (by kernel_rfl), trivial⟩
end Go.Proofs.YtnacaggkeejodaaGreatDoor
namespace Go.Proofs.YtnacaggkeejodaaGreatDoor
open Go Go.AM
/-! ### the reference's SameRows -/
noncomputable abbrev aR : SX := .at (.v 0) (.v 2) 0
noncomputable abbrev bR : SX := .at (.v 1) (.v 2) 0
noncomputable abbrev codeSr : Code := loopAt 14 0
noncomputable def codeSi : Code := (loopsIn codeSr).getD 0 .skip
noncomputable def TSi : Tmpl := { tm := [(0, .sy tRows (.v 0)), (1, .sy tRows (.v 1)), (5, .sy tI (.v 2)), (13, .sy tI (.len (.v 0))), (14, .sy tI (.v 2)), (32, .sy tI (.len aR)), (33, .sy tI (.v 3))], src := [.tm 0 tRows, .tm 1 tRows, .tm 14 tI, .tm 33 tI] }
noncomputable def YSi : Tmpl := { tm := [(0, .sy tRows (.v 0)), (1, .sy tRows (.v 1)), (13, .sy tI (.len (.v 0))), (14, .sy tI (.v 2))], src := [.tm 0 tRows, .tm 1 tRows, .tm 14 tI] }
noncomputable def preSi : List (SX × Bool) := [(lss (.v 2) (k64 0), false), (lss (.v 2) (.len (.v 0)), true), (lss (.v 2) (.len (.v 1)), true), (eql (.len aR) (.len bR), true), (eql (.v 3) (k64 0), true)]
noncomputable abbrev cSi : SX := .app 105 [.v 0, .v 1, .v 2, .v 3]
noncomputable def LSi : LoopSp := { n := 53, T := TSi, pre := preSi, cnd := cSi, yes := (.exit 2, YSi, [.v 0, .v 1, .v 2]), no := (.ret, NEq 4, []) }
noncomputable abbrev eqS : SX := .all [eql (.at aR (.v 3) 0) (.at bR (.v 3) 0), eql (.at aR (.v 3) 1) (.at bR (.v 3) 1), eql (.at aR (.v 3) 2) (.at bR (.v 3) 2)]
noncomputable abbrev nxSi : List SX := [.v 0, .v 1, .v 2, add (.v 3) (k64 1)]
noncomputable def rSi : RPln :=
  .ask (lss (.v 3) (.len aR))
    (knowR [(lss (.v 3) (k64 0), false), (lss (.v 2) (.len (.v 0)), true), (lss (.v 2) (k64 0), false), (lss (.v 2) (.len (.v 1)), true), (lss (.v 3) (.len bR), true)]
      (.ask eqS (.next nxSi) (.exit false [])))
    (.exit true [.v 0, .v 1, .v 2])
theorem okSi : (LSi.yes.2.1.ok LSi.T LSi.n && LSi.no.2.1.ok LSi.T LSi.n && checkRound LSi (roundI theI (entS []) [] codeSi) [] rSi) = true := by kernel_rfl
noncomputable def TSr : Tmpl := { tm := [(0, .sy tRows (.v 0)), (1, .sy tRows (.v 1)), (13, .sy tI (.len (.v 0))), (14, .sy tI (.v 2))], src := [.tm 0 tRows, .tm 1 tRows, .tm 14 tI] }
noncomputable def LSr : LoopSp := { n := 53, T := TSr, pre := preEq, cnd := cEq, yes := (.exit 0, Y0, []), no := (.ret, NEq 4, []) }
noncomputable abbrev eqT : SX := .app 105 [.v 0, .v 1, .v 2, k64 0]
noncomputable def rSr : RPln :=
  .ask (lss (.v 2) (.len (.v 0)))
    (knowR [(lss (.v 2) (k64 0), false), (lss (.v 2) (.len (.v 1)), true)]
      (.ask (eql (.len aR) (.len bR)) (.ask eqT (.next nxEq) (.exit false [])) (.exit false [])))
    (.exit true [])
theorem okSr : (LSr.yes.2.1.ok LSr.T LSr.n && LSr.no.2.1.ok LSr.T LSr.n && checkRound LSr (roundI theI (entS []) [(10, LSi)] codeSr) [] rSr) = true := by kernel_rfl
def invSi (R : Rho) : Prop := ∃ la lb i k lx ly, R.ρ 0 = .list la ∧ R.ρ 1 = .list lb ∧ R.ρ 2 = .int .i64 i ∧ R.ρ 3 = .int .i64 k ∧ 0 ≤ i ∧ i < la.length ∧ i < lb.length ∧ la.getD i.toNat [] = [.list lx] ∧ lb.getD i.toNat [] = [.list ly] ∧
  (∀ r ∈ lx, IsV r) ∧ (∀ r ∈ ly, IsV r) ∧ lx.length ≤ maxLen ∧ lx.length = ly.length ∧ 0 ≤ k ∧ k ≤ lx.length
noncomputable def muSi (R : Rho) : Nat := match R.ρ 0, R.ρ 2, R.ρ 3 with
  | .list la, .int _ i, .int _ k => (lD (la.getD i.toNat []) 0).length - k.toNat
  | _, _, _ => 0
theorem dSi {R : Rho} (hI : R.I = theI) {la lb : List (List DV)} {i k : Int} {lx ly : List (List DV)} {e : SX} (e0 : R.ρ 0 = .list la) (e1 : R.ρ 1 = .list lb) (e2 : R.ρ 2 = .int .i64 i) (e3 : den R e = .int .i64 k) (hx : la.getD i.toNat [] = [.list lx]) (hy : lb.getD i.toNat [] = [.list ly]) :
    den R (.app 105 [.v 0, .v 1, .v 2, e]) = .bool (eqLs (lx.drop k.toNat) (ly.drop k.toNat)) := by
  rw [d_app, hI]
  simp only [List.map_cons, List.map_nil, den, e0, e1, e2, e3]
  show FeqL2 _ = _
  simp only [FeqL2, lD, iD, List.getD_cons_zero, List.getD_cons_succ, hx, hy]
theorem loopSi : LoopOK Tryz.prog G theI codeSi LSi := by
  refine loop_run (lps := []) (entS_ok (l := []) trivial) noLoops rSi okSi invSi muSi ?_ ?_
  · intro m a w hr hp
    obtain ⟨la, e0, a1, a2⟩ := (head_sy hr (t := 0) (i := 0) (ty := tRows) (by kernel_rfl)).rows
    obtain ⟨lb, e1, b1, b2⟩ := (head_sy hr (t := 1) (i := 1) (ty := tRows) (by kernel_rfl)).rows
    obtain ⟨i, e2, _⟩ := (head_sy hr (t := 14) (i := 2) (ty := tI) (by kernel_rfl)).i64
    obtain ⟨k, e3, _⟩ := (head_sy hr (t := 33) (i := 3) (ty := tI) (by kernel_rfl)).i64
    have p1 := hp (lss (.v 2) (k64 0), false) (by simp [LSi, preSi])
    have p2 := hp (lss (.v 2) (.len (.v 0)), true) (by simp [LSi, preSi])
    have p3 := hp (lss (.v 2) (.len (.v 1)), true) (by simp [LSi, preSi])
    have p4 := hp (eql (.len aR) (.len bR), true) (by simp [LSi, preSi])
    have p5 := hp (eql (.v 3) (k64 0), true) (by simp [LSi, preSi])
    rw [d_lss (d_v e2) (d_k .i64 0)] at p1
    rw [d_lss (d_v e2) (d_lenL (d_v e0))] at p2
    rw [d_lss (d_v e2) (d_lenL (d_v e1))] at p3
    rw [d_eql (d_v e3) (d_k .i64 0)] at p5
    simp only [DV.bool.injEq, decide_eq_true_eq, decide_eq_false_iff_not] at p1 p2 p3 p5
    have h1 : i.toNat < la.length := by omega
    have h2 : i.toNat < lb.length := by omega
    obtain ⟨lx, hx, c1, c2⟩ := a2 _ (List.getElem_mem h1)
    obtain ⟨ly, hy, d1, d2⟩ := b2 _ (List.getElem_mem h2)
    have ga : la.getD i.toNat [] = [.list lx] := by rw [getD_lt h1, hx]
    have gb : lb.getD i.toNat [] = [.list ly] := by rw [getD_lt h2, hy]
    have da : den m.R aR = .list lx := by rw [d_at 0 (d_v e0) (d_v e2), ga]; rfl
    have db : den m.R bR = .list ly := by rw [d_at 0 (d_v e1) (d_v e2), gb]; rfl
    rw [d_eql (d_lenL da) (d_lenL db)] at p4
    simp only [DV.bool.injEq, decide_eq_true_eq] at p4
    exact ⟨la, lb, i, k, lx, ly, e0, e1, e2, e3, by omega, p2, p3, ga, gb, c2, d2, c1, by omega, by omega, by omega⟩
  · rintro R hI ⟨la, lb, i, k, lx, ly, e0, e1, e2, e3, i0, i1, i2, ga, gb, q1, q2, hm, hl, h1, h2⟩
    have hmx := maxLen_lt
    have hcnd : den R LSi.cnd = _ := dSi hI e0 e1 e2 (d_v e3) ga gb
    have da : den R aR = .list lx := by rw [d_at 0 (d_v e0) (d_v e2), ga]; rfl
    have db : den R bR = .list ly := by rw [d_at 0 (d_v e1) (d_v e2), gb]; rfl
    unfold rSi
    refine round_ask (d_lss (d_v e3) (d_lenL da)) (fun hlt => ?_) (fun hge => ?_)
    · simp only [decide_eq_true_eq] at hlt
      have l1 : k.toNat < lx.length := by omega
      have l2 : k.toNat < ly.length := by omega
      have hi1 := d_add (R := R) (d_v e3) (d_k .i64 1) (by omega) (by omega)
      have hs := drop_step l1 l2
      refine round_knows (l := [_, _, _, _, _]) ?_ ?_
      · intro q hq
        simp only [List.mem_cons, List.not_mem_nil, or_false] at hq
        rcases hq with rfl | rfl | rfl | rfl | rfl
        · rw [d_lss (d_v e3) (d_k .i64 0)]; simp; omega
        · rw [d_lss (d_v e2) (d_lenL (d_v e0))]; simp; omega
        · rw [d_lss (d_v e2) (d_k .i64 0)]; simp; omega
        · rw [d_lss (d_v e2) (d_lenL (d_v e1))]; simp; omega
        · rw [d_lss (d_v e3) (d_lenL db)]; simp; omega
      have a : ∀ c, den R (.at aR (.v 3) c) = lx[k.toNat].getD c (.bool false) := fun c => by rw [d_at c da (d_v e3), getD_lt l1]
      have b : ∀ c, den R (.at bR (.v 3) c) = ly[k.toNat].getD c (.bool false) := fun c => by rw [d_at c db (d_v e3), getD_lt l2]
      refine round_ask (d_allV (q1 _ (List.getElem_mem l1)) (q2 _ (List.getElem_mem l2)) (a 0) (a 1) (a 2) (b 0) (b 1) (b 2)) (fun hz => ?_) (fun hz => ?_)
      · have hz : lx[k.toNat] = ly[k.toNat] := by simpa using hz
        have s0 := sub_get R nxSi 0 rfl (d_v e0)
        have s1 := sub_get R nxSi 1 rfl (d_v e1)
        have s2 := sub_get R nxSi 2 rfl (d_v e2)
        have s3 := sub_get R nxSi 3 rfl hi1
        refine ⟨⟨la, lb, i, k + 1, lx, ly, s0, s1, s2, s3, i0, i1, i2, ga, gb, q1, q2, hm, hl, by omega, by omega⟩, ?_, ?_, fun b _ => ?_⟩
        · simp only [muSi, s0, s2, s3, e0, e2, e3, ga, lD, List.getD_cons_zero]
          omega
        · have := dSi (R := R.sub nxSi) hI s0 s1 s2 (d_v s3) ga gb
          rw [hcnd]
          show den (R.sub nxSi) (.app 105 [.v 0, .v 1, .v 2, .v 3]) = _
          rw [this]
          congr 1
          have e : eqLs (lx.drop k.toNat) (ly.drop k.toNat) = eqLs (lx.drop (k.toNat + 1)) (ly.drop (k.toNat + 1)) := by
            unfold eqLs
            rw [decide_eq_decide, hs]
            exact ⟨fun h => h.2, fun h => ⟨hz, h⟩⟩
          rw [e, ← toNat_succ h1]
          rfl
        · cases b
          · rfl
          · show [den (R.sub nxSi) (.v 0), den (R.sub nxSi) (.v 1), den (R.sub nxSi) (.v 2)] = [den R (.v 0), den R (.v 1), den R (.v 2)]
            rw [d_v s0, d_v s1, d_v s2, d_v e0, d_v e1, d_v e2]
      · have hz : ¬ lx[k.toNat] = ly[k.toNat] := by simpa using hz
        refine ⟨?_, rfl⟩
        rw [hcnd]
        congr 1
        unfold eqLs
        rw [decide_eq_false_iff_not, hs]
        exact fun h => hz h.1
    · simp only [decide_eq_false_iff_not] at hge
      refine ⟨?_, rfl⟩
      rw [hcnd, List.drop_eq_nil_of_le (by omega), List.drop_eq_nil_of_le (by omega)]
      simp [eqLs]
theorem lSr : LoopsOK Tryz.prog G theI (lpsOf [(10, LSi)]) codeSr := by
  intro B hB M hM
  have h1 := lpsOf_mem hM
  simp only [List.mem_cons, List.not_mem_nil, or_false, Prod.mk.injEq] at h1
  obtain ⟨_, rfl⟩ := h1
  have hc : loopsIn codeSr = [codeSi] := by kernel_rfl
  rw [hc] at hB
  simp only [List.mem_cons, List.not_mem_nil, or_false] at hB
  rw [hB]
  exact loopSi
theorem loopSr : LoopOK Tryz.prog G theI codeSr LSr := by
  refine loop_run (lps := [(10, LSi)]) (entS_ok (l := []) trivial) lSr rSr okSr (invEq IsR) muRow ?_ ?_
  · intro m a w hr hp
    obtain ⟨la, e0, a1, a2⟩ := (head_sy hr (t := 0) (i := 0) (ty := tRows) (by kernel_rfl)).rows
    obtain ⟨lb, e1, b1, b2⟩ := (head_sy hr (t := 1) (i := 1) (ty := tRows) (by kernel_rfl)).rows
    obtain ⟨i, e2, _⟩ := (head_sy hr (t := 14) (i := 2) (ty := tI) (by kernel_rfl)).i64
    have p1 := hp (eql (.len (.v 0)) (.len (.v 1)), true) (by simp [LSr, preEq])
    have p2 := hp (eql (.v 2) (k64 0), true) (by simp [LSr, preEq])
    rw [d_eql (d_lenL (d_v e0)) (d_lenL (d_v e1))] at p1
    rw [d_eql (d_v e2) (d_k .i64 0)] at p2
    simp only [DV.bool.injEq, decide_eq_true_eq] at p1 p2
    exact ⟨la, lb, i, e0, e1, e2, a2, b2, a1, by omega, by omega, by omega⟩
  · intro R hI hinv
    obtain ⟨la, lb, i, e0, e1, e2, q1, q2, hm, hl, h1, h2⟩ := hinv
    by_cases hlt : i < la.length
    · have l1 : i.toNat < la.length := by omega
      have l2 : i.toNat < lb.length := by omega
      obtain ⟨lx, ly, hx, hy, he⟩ := isR_eq (q1 _ (List.getElem_mem l1)) (q2 _ (List.getElem_mem l2))
      have ga : la.getD i.toNat [] = [.list lx] := by rw [getD_lt l1, hx]
      have gb : lb.getD i.toNat [] = [.list ly] := by rw [getD_lt l2, hy]
      have da : den R aR = .list lx := by rw [d_at 0 (d_v e0) (d_v e2), ga]; rfl
      have db : den R bR = .list ly := by rw [d_at 0 (d_v e1) (d_v e2), gb]; rfl
      have ht := dSi (e := k64 0) hI e0 e1 e2 (d_k .i64 0) ga gb
      -- the whole round by that of one condition
      have key : ∀ R : Rho, R.I = theI → invEq IsR R → goalRound LSr (invEq IsR) muRow R (rEq eqF nxEq) := goalEq rfl rfl rfl eqF_den
      have hk := key R hI ⟨la, lb, i, e0, e1, e2, q1, q2, hm, hl, h1, h2⟩
      have hF := eqF_den R la lb i hI e0 e1 e2 h1 l1 l2 (q1 _ (List.getElem_mem l1)) (q2 _ (List.getElem_mem l2))
      have hask : den R (lss (.v 2) (.len (.v 0))) = .bool true := by rw [d_lss (d_v e2) (d_lenL (d_v e0))]; simp; omega
      obtain ⟨_, hT, _⟩ := hk
      obtain ⟨f1, f2, _, hT2, hT3⟩ := hT hask
      refine round_ask hask (fun _ => ⟨f1, f2, ?_⟩) (fun h => by cases h)
      refine round_ask (d_eql (d_lenL da) (d_lenL db)) (fun hz => ?_) (fun hz => ?_)
      · refine round_ask ht (fun hz => hT2 ?_) (fun hz => hT3 ?_)
        · rw [hF, ← he]; exact congrArg DV.bool hz
        · rw [hF, ← he]; exact congrArg DV.bool hz
      · refine hT3 ?_
        rw [hF, ← he]
        congr 1
        unfold eqLs
        rw [decide_eq_false_iff_not]
        rintro rfl
        simp at hz
    · refine round_ask (b := false) (by rw [d_lss (d_v e2) (d_lenL (d_v e0))]; simp; omega) (fun h => by cases h) (fun _ => ?_)
      refine ⟨?_, rfl⟩
      have hcnd := dEq hI e0 e1 e2
      show den R cEq = _
      rw [hcnd, List.drop_eq_nil_of_le (by omega), List.drop_eq_nil_of_le (by omega)]
      simp [eqLs]
theorem kSr : (hasB 14 && checkPlan [.one .bool] (runI theI (entS []) [(5, LSr)] [] 14 [.one tRows, .one tRows]) [] pEq) = true := by kernel_rfl
theorem fnSr : FnOK Tryz.prog G 14 [.one tRows, .one tRows] [.one .bool] (fun _ => True) Feq := by
  have hk := kSr
  rw [Bool.and_eq_true] at hk
  refine fn_run (entS_ok (l := []) trivial) [(5, LSr)] _ (loops1 (by kernel_rfl) loopSr) hk.1 pEq hk.2 ?_
  intro ds h _
  simp only [IsArgs, IsOne] at h
  obtain ⟨_, _, rfl, ⟨d, rfl, hd⟩, _, _, rfl, ⟨e, rfl, he⟩, rfl⟩ := h
  obtain ⟨la, rfl, _⟩ := hd.rows
  obtain ⟨lb, rfl, _⟩ := he.rows
  exact goal_eq rfl rfl rfl
noncomputable def eSr : Ent := eFn 14 [.one tRows, .one tRows] [.one .bool] [] 4
theorem eSr_ok : EntsOK Tryz.prog G theI [eSr] := ⟨eFn_ok plainG (pre_true fnSr) (fun _ => rfl) [] (by kernel_rfl), trivial⟩
end Go.Proofs.YtnacaggkeejodaaGreatDoor
namespace Go.Proofs.YtnacaggkeejodaaGreatDoor
open Go Go.AM
/-! ### Same, the reference's Same, QuerySame -/
noncomputable def eSame : Ent := eFn 6 [.agg tO, .agg tO] [.one .bool] [] 5
noncomputable def eRsame : Ent := eFn 7 [.agg tO, .agg tO] [.one .bool] [] 5
noncomputable def eWakes : Ent := eFn 4 [] [.one .bool] [] 6
noncomputable def pSame : Pln :=
  .ask (eql (.v 0) (.v 3))
    (.ask (eql (.v 1) (.v 4)) (.done [[.at (.app 4 [.v 2, .v 5]) (k64 0) 0]]) (.done [[.kb false]]))
    (.done [[.kb false]])
theorem kSame : (hasB 6 && checkPlan [.one .bool] (runI theI (entS [eEf]) [] [] 6 [.agg tO, .agg tO]) [] pSame) = true := by kernel_rfl
theorem kRsame : (hasB 7 && checkPlan [.one .bool] (runI theI (entS [eSr]) [] [] 7 [.agg tO, .agg tO]) [] pSame) = true := by kernel_rfl
theorem agg_o {ds : List (List DV)} (h : IsArgs [.agg tO, .agg tO] ds) : ∃ e c la e' c' lb, ds = [[.int .i64 e, .int .i64 c, .list la], [.int .i64 e', .int .i64 c', .list lb]] := by
  simp only [IsArgs, IsOne, IsL] at h
  obtain ⟨_, _, rfl, ⟨d1, _, rfl, h1, d2, _, rfl, h2, d3, _, rfl, h3, rfl⟩, _, _, rfl, ⟨e1, _, rfl, k1, e2, _, rfl, k2, e3, _, rfl, k3, rfl⟩, rfl⟩ := h
  obtain ⟨a, rfl, _⟩ := h1.i64
  obtain ⟨b, rfl, _⟩ := h2.i64
  obtain ⟨c, rfl, _⟩ := h3.rows
  obtain ⟨d, rfl, _⟩ := k1.i64
  obtain ⟨e, rfl, _⟩ := k2.i64
  obtain ⟨f, rfl, _⟩ := k3.rows
  exact ⟨a, b, c, d, e, f, rfl⟩
theorem goal_same {ds : List (List DV)} (h : IsArgs [.agg tO, .agg tO] ds) : goalPlan (rhoOf theI ds.flatten) (Fsame ds.flatten) pSame := by
  obtain ⟨e, c, la, e', c', lb, rfl⟩ := agg_o h
  have hF : Fsame [[.int .i64 e, .int .i64 c, .list la], [.int .i64 e', .int .i64 c', .list lb]].flatten = [[.bool (decide (e = e') && decide (c = c') && eqLs la lb)]] := rfl
  rw [hF]
  generalize hR : rhoOf theI [[.int .i64 e, .int .i64 c, .list la], [.int .i64 e', .int .i64 c', .list lb]].flatten = R
  have hI : R.I = theI := by rw [← hR]; rfl
  have q0 : R.ρ 0 = .int .i64 e := by rw [← hR]; rfl
  have q1 : R.ρ 1 = .int .i64 c := by rw [← hR]; rfl
  have q2 : R.ρ 2 = .list la := by rw [← hR]; rfl
  have q3 : R.ρ 3 = .int .i64 e' := by rw [← hR]; rfl
  have q4 : R.ρ 4 = .int .i64 c' := by rw [← hR]; rfl
  have q5 : R.ρ 5 = .list lb := by rw [← hR]; rfl
  unfold pSame
  refine goal_ask (d_eql (d_v q0) (d_v q3)) (fun h1 => goal_ask (d_eql (d_v q1) (d_v q4)) (fun h2 => ?_) (fun h2 => ?_)) (fun h1 => ?_)
  · show _ = _
    rw [h1, h2]
    have : den R (.at (.app 4 [.v 2, .v 5]) (k64 0) 0) = .bool (eqLs la lb) := by
      refine d_res (F := Feq) (by rw [hI]; rfl) ?_
      simp only [List.map_cons, List.map_nil, d_v q2, d_v q5]
      rfl
    simp only [List.map_cons, List.map_nil, this, Bool.true_and]
  · show _ = _
    rw [h1, h2]
    rfl
  · show _ = _
    rw [h1]
    rfl
theorem fnSame : FnOK Tryz.prog G 6 [.agg tO, .agg tO] [.one .bool] (fun _ => True) Fsame := by
  have hk := kSame
  rw [Bool.and_eq_true] at hk
  exact fn_run (entS_ok eEf_ok) [] [] noLoops hk.1 pSame hk.2 fun ds h _ => goal_same h
theorem fnRsame : FnOK Tryz.prog G 7 [.agg tO, .agg tO] [.one .bool] (fun _ => True) Fsame := by
  have hk := kRsame
  rw [Bool.and_eq_true] at hk
  exact fn_run (entS_ok eSr_ok) [] [] noLoops hk.1 pSame hk.2 fun ds h _ => goal_same h
noncomputable abbrev rS : SX := .at (.app 3 [.v 2, k64 20]) (k64 0) 0
noncomputable def pLaw : Pln := .know (.at (.app 6 []) (k64 0) 0) true (.done [[.at (.app 5 [.v 0, .v 1, rS, .v 0, .v 1, rS]) (k64 0) 0]])
theorem kLaw : (hasB 3 && checkPlan [.one .bool] (runI theI (entS [eWakes, eRows, eSame, eRsame]) [] [] 3 [.agg tO, .agg tO]) [] pLaw) = true := by kernel_rfl
theorem fnLaw (hw : FnOK Tryz.prog G 4 [] [.one .bool] (fun _ => True) Ftrue) : FnOK Tryz.prog G 3 [.agg tO, .agg tO] [.one .bool] (fun _ => True) Ftrue := by
  have hk := kLaw
  rw [Bool.and_eq_true] at hk
  have ents : EntsOK Tryz.prog G theI [eWakes, eRows, eSame, eRsame] := ⟨eFn_ok plainG (pre_true hw) (fun _ => rfl) [] (by kernel_rfl), eRows_ok.1, eFn_ok plainG (pre_true fnSame) (fun _ => rfl) [] (by kernel_rfl), eFn_ok plainG (pre_true fnRsame) (fun _ => rfl) [] (by kernel_rfl), trivial⟩
  refine fn_run (entS_ok ents) [] [] noLoops hk.1 pLaw hk.2 fun ds h _ => ?_
  obtain ⟨e, c, la, e', c', lb, rfl⟩ := agg_o h
  generalize hR : rhoOf theI [[.int .i64 e, .int .i64 c, .list la], [.int .i64 e', .int .i64 c', .list lb]].flatten = R
  have hI : R.I = theI := by rw [← hR]; rfl
  have q0 : R.ρ 0 = .int .i64 e := by rw [← hR]; rfl
  have q1 : R.ρ 1 = .int .i64 c := by rw [← hR]; rfl
  have q2 : R.ρ 2 = .list la := by rw [← hR]; rfl
  have hr : den R rS = .list (cutRs la 20) := by
    refine d_res (F := Frows) (by rw [hI]; rfl) ?_
    simp only [List.map_cons, List.map_nil, d_v q2, d_k]
    rfl
  refine goal_know ?_ ?_
  · exact d_res (F := Ftrue) (by rw [hI]; rfl) rfl
  · show Ftrue _ = _
    have : den R (.at (.app 5 [.v 0, .v 1, rS, .v 0, .v 1, rS]) (k64 0) 0) = .bool true := by
      refine d_res (F := Fsame) (by rw [hI]; rfl) ?_
      simp only [List.map_cons, List.map_nil, d_v q0, d_v q1, hr]
      show DV.bool (decide (e = e) && decide (c = c) && eqLs (cutRs la 20) (cutRs la 20)) = _
      simp [eqLs]
    simp only [List.map_cons, List.map_nil, this]
    rfl
end Go.Proofs.YtnacaggkeejodaaGreatDoor
