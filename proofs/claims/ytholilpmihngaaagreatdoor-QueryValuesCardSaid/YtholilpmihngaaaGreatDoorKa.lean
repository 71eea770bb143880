/-
  A part of the proof of QueryValues (the machine on named data, and the contracts of the functions that the law reaches): Vf1 Vs Vp Qp Q0 Qe Qr Q1 Qf1 Qf2 Qf3 Q2 Q3.
-/
import Derived.KernelRfl
import Derived.Test.YtholilpmihngaaaGreatDoorGa
import Derived.Test.YtholilpmihngaaaGreatDoorAmH
import Derived.Test.YtholilpmihngaaaGreatDoorAmG
set_option linter.all false
set_option linter.unusedVariables false
set_option linter.unusedSimpArgs false
set_option linter.unusedSectionVars false
namespace Go.Proofs.YtholilpmihngaaaGreatDoor
open Go Go.AM
theorem hmix : Tryz.prog.follows .mixedOrders = true := by kernel_rfl
theorem namesRun : Tryz.prog.funcs.toList.all (fun fn => !(fn.name == "runtime.NumGoroutine")) = true := by kernel_rfl
theorem hNum (f : FuncId) (fn : Func) (h : Tryz.prog.funcs[f]? = some fn) : (fn.name == "runtime.NumGoroutine") = false := by
  have := List.all_eq_true.1 namesRun fn (List.mem_iff_getElem?.2 ⟨f, by simpa using h⟩)
  simpa using this
noncomputable def isSc : AV → Bool
  | .sc _ => true
  | _ => false
theorem isSc_ok {cs : List AV} (h : cs.all isSc = true) : ∀ c ∈ cs, ∃ u, c = AV.sc u := by
  intro c hc
  have := List.all_eq_true.1 h c hc
  unfold isSc at this
  split at this
  · exact ⟨_, rfl⟩
  · cases this
theorem plainG : PlainG G := by
  intro g cs h
  unfold G at h
  split at h <;> cases h <;> exact isSc_ok (by kernel_rfl)
noncomputable def hasB (f : FuncId) : Bool := match Tryz.prog.funcs[f]? with
  | some fn => !fn.body.isNone && Bool.not (Nat.beq f yid)
  | none => false
theorem hasB_ok {f : FuncId} (h : hasB f = true) : HasBody Tryz.prog f := by
  unfold hasB at h
  split at h
  · rename_i fn e
    simp only [Bool.and_eq_true, Bool.not_eq_true'] at h
    exact ⟨fn, e, h.1, hNum f fn e, Nat.ne_of_beq_eq_false h.2⟩
  · cases h
theorem noSpec_ok (O : Orc) : SpecOK Tryz.prog G noSpec := fun f sp h => by simp [noSpec] at h
theorem sameF {f : FuncId} {X : CallF} : (fun g args h => if g = f then X g args h else none) = (fun g args h => if g = f then X f args h else none) := by
  funext g args h
  by_cases e : g = f
  · rw [if_pos e, if_pos e, e]
  · rw [if_neg e, if_neg e]
/-! ## Contracts of the seat's functions -/
/-- The loops of a function, by their first region. -/
noncomputable def lpsOf (l : List (Nat × LoopSp)) (k : Nat) : List LoopSp := match l with
  | [] => []
  | (i, L) :: l => match Nat.beq i k with
    | true => L :: lpsOf l k
    | false => lpsOf l k
noncomputable def bodyOf (f : FuncId) : Code := match Tryz.prog.funcs[f]? with
  | some fn => fn.body.getD .skip
  | none => .skip
noncomputable def loopAt (f k : Nat) : Code := (loopsIn (bodyOf f)).getD k .skip
/-- What each loop of a function is, where it has a contract. -/
def LoopsAre (I : Nat → List DV → DV) (f : FuncId) (lps : List (Nat × LoopSp)) : Prop := LoopsOK Tryz.prog G I (lpsOf lps) (bodyOf f)
theorem lpsOf_mem : ∀ {l : List (Nat × LoopSp)} {k : Nat} {L : LoopSp}, L ∈ lpsOf l k → (k, L) ∈ l
  | (i, M) :: l, k, L, h => by
    unfold lpsOf at h
    split at h
    · rename_i e
      rcases List.mem_cons.1 h with rfl | h
      · rw [Nat.eq_of_beq_eq_true e]
        simp
      · exact List.mem_cons_of_mem _ (lpsOf_mem h)
    · exact List.mem_cons_of_mem _ (lpsOf_mem h)
theorem noLoops {I : Nat → List DV → DV} {c : Code} : LoopsOK Tryz.prog G I (lpsOf []) c := fun _ _ _ h => by simp [lpsOf] at h
theorem loops1 {I : Nat → List DV → DV} {f k : Nat} {c : Code} {L : LoopSp} (hc : loopsIn (bodyOf f) = [c]) (hL : LoopOK Tryz.prog G I c L) : LoopsAre I f [(k, L)] := by
  intro B hB M hM
  have h1 := lpsOf_mem hM
  simp only [List.mem_cons, List.not_mem_nil, or_false, Prod.mk.injEq] at h1
  obtain ⟨_, rfl⟩ := h1
  rw [hc] at hB
  simp only [List.mem_cons, List.not_mem_nil, or_false] at hB
  rw [hB]
  exact hL
abbrev Frz := List (Option (TypeId × List Ty))
/-- Loops of inner functions that have contracts. -/
abbrev SubL := List (FuncId × List (Nat × LoopSp))
noncomputable def subOf (l : SubL) (f : FuncId) : List (Nat → List LoopSp) := match l with
  | [] => []
  | (g, x) :: l => match Nat.beq g f with
    | true => lpsOf x :: subOf l f
    | false => subOf l f
def SubsOK (I : Nat → List DV → DV) : SubL → Prop
  | [] => True
  | x :: l => LoopsAre I x.1 x.2 ∧ SubsOK I l
theorem subs_ok {I : Nat → List DV → DV} : ∀ {l : SubL}, SubsOK I l → SubOK Tryz.prog G I (subOf l)
  | [], _ => fun f lps h => by simp [subOf] at h
  | (g, x) :: l, hs => fun f lps h => by
    intro fn c hf hc
    unfold subOf at h
    split at h
    · rename_i e
      obtain rfl := Nat.eq_of_beq_eq_true e
      rcases List.mem_cons.1 h with rfl | h
      · have : bodyOf g = c := by unfold bodyOf; rw [hf]; simp [hc]
        rw [← this]
        exact hs.1
      · exact subs_ok hs.2 g lps h fn c hf hc
    · exact subs_ok hs.2 f lps h fn c hf hc
/-- A function by its loops' contracts; slices of its own among its results are data. -/
noncomputable def runS (I : Nat → List DV → DV) (spec : SpecF) (sub : SubL) (lps : List (Nat × LoopSp)) (ts : Frz) (f : FuncId) (sg : Sig) (facts : List (SX × Bool)) : Out :=
  iceRes ts (@callM (mkO facts I) Tryz.prog G (spec (mkO facts I)) 100 (subOf sub) (lpsOf lps) f (mkArgs 0 sg) heap0)
noncomputable abbrev runI (I : Nat → List DV → DV) (spec : SpecF) (lps : List (Nat × LoopSp)) (ts : Frz) (f : FuncId) (sg : Sig) (facts : List (SX × Bool)) : Out := runS I spec [] lps ts f sg facts
noncomputable def runSX (I : Nat → List DV → DV) (spec : SpecF) (sub : SubL) (lps : List (Nat × LoopSp)) (ts : Frz) (f : FuncId) (sg : Sig) (o : SX → Option Bool) : Out :=
  iceRes ts (@callM ⟨o, I⟩ Tryz.prog G (spec ⟨o, I⟩) 100 (subOf sub) (lpsOf lps) f (mkArgs 0 sg) heap0)
noncomputable abbrev runX (I : Nat → List DV → DV) (spec : SpecF) (lps : List (Nat × LoopSp)) (ts : Frz) (f : FuncId) (sg : Sig) (o : SX → Option Bool) : Out := runSX I spec [] lps ts f sg o
/-- A round of a loop. -/
noncomputable def roundS (I : Nat → List DV → DV) (spec : SpecF) (sub : SubL) (lps : List (Nat × LoopSp)) (B : Code) (facts : List (SX × Bool)) (s : St) : Run := @codeM (mkO facts I) Tryz.prog G (spec (mkO facts I)) 100 (subOf sub) (lpsOf lps) B s
noncomputable abbrev roundI (I : Nat → List DV → DV) (spec : SpecF) (lps : List (Nat × LoopSp)) (B : Code) (facts : List (SX × Bool)) (s : St) : Run := roundS I spec [] lps B facts s
noncomputable def roundSX (I : Nat → List DV → DV) (spec : SpecF) (sub : SubL) (lps : List (Nat × LoopSp)) (B : Code) (L : LoopSp) (o : SX → Option Bool) : Run := @codeM ⟨o, I⟩ Tryz.prog G (spec ⟨o, I⟩) 100 (subOf sub) (lpsOf lps) B (L.T.st L.n)
noncomputable abbrev roundX (I : Nat → List DV → DV) (spec : SpecF) (lps : List (Nat × LoopSp)) (B : Code) (L : LoopSp) (o : SX → Option Bool) : Run := roundSX I spec [] lps B L o
section
variable {I : Nat → List DV → DV} {spec : SpecF}
theorem callI (hsp : ∀ O : Orc, O.I = I → @SpecOK O Tryz.prog G (spec O)) {sub : SubL} (hs : SubsOK I sub) {lps : List (Nat × LoopSp)} {f : FuncId} (hl : LoopsAre I f lps) (ts : Frz) :
    ∀ O : Orc, O.I = I → @CallOK O Tryz.prog G (fun g args h => if g = f then iceRes ts (@callM O Tryz.prog G (spec O) 100 (subOf sub) (lpsOf lps) g args h) else none) := by
  intro O hI
  have h1 := @callM_ok O Tryz.prog G (spec O) (lpsOf lps) hmix hNum (hsp O hI) plainG 100 (subOf sub) (by rw [hI]; exact subs_ok hs) f (by
    intro fn c hf hc
    rw [hI]
    have : bodyOf f = c := by unfold bodyOf; rw [hf]; simp [hc]
    rw [← this]
    exact hl)
  have h2 := @iceRes_ok O Tryz.prog G ts _ h1
  intro g args h av h' hq
  simp only at hq
  split at hq
  · rename_i e
    exact h2 g args h av h' (by simp only [if_pos e]; subst e; exact hq)
  · cases hq
theorem fn_runS (hsp : ∀ O : Orc, O.I = I → @SpecOK O Tryz.prog G (spec O)) {sub : SubL} (hs : SubsOK I sub) (lps : List (Nat × LoopSp)) (ts : Frz) {f : FuncId} (hl : LoopsAre I f lps) {sg rs : Sig} {pre : List DV → Prop} {F : List DV → List (List DV)} (hb : hasB f = true) (p : Pln)
    (hc : checkPlan rs (runS I spec sub lps ts f sg) [] p = true)
    (hgoal : ∀ (ds : List (List DV)), IsArgs sg ds → pre ds.flatten → goalPlan (rhoOf I ds.flatten) (F ds.flatten) p) : FnOK Tryz.prog G f sg rs pre F :=
  fn_plan (call := fun O g args h => iceRes ts (@callM O Tryz.prog G (spec O) 100 (subOf sub) (lpsOf lps) g args h)) plainG (hasB_ok hb) (callI hsp hs hl ts) p hc (fun _ ds _ h hp => hgoal ds (repArgs_is h) hp)
theorem fn_run (hsp : ∀ O : Orc, O.I = I → @SpecOK O Tryz.prog G (spec O)) (lps : List (Nat × LoopSp)) (ts : Frz) {f : FuncId} (hl : LoopsAre I f lps) {sg rs : Sig} {pre : List DV → Prop} {F : List DV → List (List DV)} (hb : hasB f = true) (p : Pln)
    (hc : checkPlan rs (runI I spec lps ts f sg) [] p = true)
    (hgoal : ∀ (ds : List (List DV)), IsArgs sg ds → pre ds.flatten → goalPlan (rhoOf I ds.flatten) (F ds.flatten) p) : FnOK Tryz.prog G f sg rs pre F :=
  fn_runS hsp (sub := []) trivial lps ts hl hb p hc hgoal
theorem own_runS (hsp : ∀ O : Orc, O.I = I → @SpecOK O Tryz.prog G (spec O)) {sub : SubL} (hs : SubsOK I sub) (lps : List (Nat × LoopSp)) {f : FuncId} (hl : LoopsAre I f lps) (el : TypeId) (ets : List Ty) {sg rs : Sig} {pre : List DV → Prop} {F : List DV → List (List DV)} (hb : hasB f = true) (p : Pln)
    (hc : checkOwn el ets rs (runS I spec sub lps [] f sg) [] p = true)
    (hgoal : ∀ (ds : List (List DV)), IsArgs sg ds → pre ds.flatten → goalPlan (rhoOf I ds.flatten) (F ds.flatten) p) : FnOwn Tryz.prog G f sg el ets rs pre F :=
  own_plan (call := fun O g args h => iceRes [] (@callM O Tryz.prog G (spec O) 100 (subOf sub) (lpsOf lps) g args h)) plainG (hasB_ok hb) (callI hsp hs hl []) p hc (fun _ ds _ h hp => hgoal ds (repArgs_is h) hp)
theorem own_run (hsp : ∀ O : Orc, O.I = I → @SpecOK O Tryz.prog G (spec O)) (lps : List (Nat × LoopSp)) {f : FuncId} (hl : LoopsAre I f lps) (el : TypeId) (ets : List Ty) {sg rs : Sig} {pre : List DV → Prop} {F : List DV → List (List DV)} (hb : hasB f = true) (p : Pln)
    (hc : checkOwn el ets rs (runI I spec lps [] f sg) [] p = true)
    (hgoal : ∀ (ds : List (List DV)), IsArgs sg ds → pre ds.flatten → goalPlan (rhoOf I ds.flatten) (F ds.flatten) p) : FnOwn Tryz.prog G f sg el ets rs pre F :=
  own_runS hsp (sub := []) trivial lps hl el ets hb p hc hgoal
theorem loop_runS (hsp : ∀ O : Orc, O.I = I → @SpecOK O Tryz.prog G (spec O)) {sub : SubL} (hs : SubsOK I sub) {lps : List (Nat × LoopSp)} {B : Code} {L : LoopSp} (hl : LoopsOK Tryz.prog G I (lpsOf lps) B) (p : RPln)
    (hok : (L.yes.2.1.ok L.T L.n && L.no.2.1.ok L.T L.n && checkRound L (roundS I spec sub lps B) [] p) = true) (inv : Rho → Prop) (μ : Rho → Nat)
    (init : ∀ m a w, @RS (noFacts I) plainR m G (L.T.st L.n) a w → (∀ p ∈ L.pre, den m.R p.1 = .bool p.2) → inv m.R)
    (step : ∀ R, R.I = I → inv R → goalRound L inv μ R p) : LoopOK Tryz.prog G I B L :=
  loop_plan hmix hNum hsp plainG 100 (subs_ok hs) hl p hok inv μ init step
theorem loop_run (hsp : ∀ O : Orc, O.I = I → @SpecOK O Tryz.prog G (spec O)) {lps : List (Nat × LoopSp)} {B : Code} {L : LoopSp} (hl : LoopsOK Tryz.prog G I (lpsOf lps) B) (p : RPln)
    (hok : (L.yes.2.1.ok L.T L.n && L.no.2.1.ok L.T L.n && checkRound L (roundI I spec lps B) [] p) = true) (inv : Rho → Prop) (μ : Rho → Nat)
    (init : ∀ m a w, @RS (noFacts I) plainR m G (L.T.st L.n) a w → (∀ p ∈ L.pre, den m.R p.1 = .bool p.2) → inv m.R)
    (step : ∀ R, R.I = I → inv R → goalRound L inv μ R p) : LoopOK Tryz.prog G I B L :=
  loop_runS hsp (sub := []) trivial hl p hok inv μ init step
end
end Go.Proofs.YtholilpmihngaaaGreatDoor
namespace Go.Proofs.YtholilpmihngaaaGreatDoor
open Go Go.AM
/-! ## Loops and calls, the plain way, in this seat -/
noncomputable def callRun (I : Nat → List DV → DV) (spec : SpecF) (sub : SubL) (lps : List (Nat × LoopSp)) (f : FuncId) (facts : List (SX × Bool)) (args : List AV) (h : AHeap) : Out := iceRes [] (@callM (mkO facts I) Tryz.prog G (spec (mkO facts I)) 100 (subOf sub) (lpsOf lps) f args h)
noncomputable def callX (I : Nat → List DV → DV) (spec : SpecF) (sub : SubL) (lps : List (Nat × LoopSp)) (f : FuncId) (L : LoopSp) (o : SX → Option Bool) : Out := iceRes [] (@callM ⟨o, I⟩ Tryz.prog G (spec ⟨o, I⟩) 100 (subOf sub) (lpsOf lps) f (argsOf L) (L.T.st L.n).h)
section
variable {I : Nat → List DV → DV} {spec : SpecF} {S : StdL} {F : List DV → Bool × List DV} {Inv : List DV → Prop} {μ : List DV → Nat}
theorem loop_std (hsp : ∀ O : Orc, O.I = I → @SpecOK O Tryz.prog G (spec O)) {sub : SubL} (hs : SubsOK I sub) {lps : List (Nat × LoopSp)} {B : Code} (hl : LoopsOK Tryz.prog G I (lpsOf lps) B) (hF : ∀ ds, I S.f ds = .list (FL F ds)) (p : RPln)
    (hok : (S.ok && (planOK S p && checkRound S.L (roundS I spec sub lps B) [] p)) = true)
    (init : ∀ ds, IsL S.tys ds → (∀ p ∈ S.pre, den (rhoOf I ds) p.1 = .bool p.2) → Inv ds)
    (step : ∀ ds, Inv ds → goalR S.keep.length F Inv μ (rhoOf I ds) ds p) : LoopOK Tryz.prog G I B S.L :=
  std_loop hmix hNum hsp plainG 100 (subs_ok hs) hl hF p hok init step
theorem call_std (hsp : ∀ O : Orc, O.I = I → @SpecOK O Tryz.prog G (spec O)) {sub : SubL} (hs : SubsOK I sub) (lps : List (Nat × LoopSp)) {f : FuncId} (hl : LoopsAre I f lps) (hn : 1 ≤ S.n) (hF : ∀ ds, I S.f ds = .list (FL F ds)) (p : RPln)
    (hok : (hasB f && (S.ok && (planOK S p && checkCallT S.L (callRun I spec sub lps f) [] p))) = true)
    (init : ∀ ds, IsL S.tys ds → (∀ p ∈ S.pre, den (rhoOf I ds) p.1 = .bool p.2) → Inv ds)
    (step : ∀ ds, Inv ds → goalR S.keep.length F (fun _ => False) (fun _ => 0) (rhoOf I ds) ds p) : CallTOK Tryz.prog G I f S.L := by
  rw [Bool.and_eq_true] at hok
  exact std_call plainG (hasB_ok hok.1) hn (fun O g args h => iceRes [] (@callM O Tryz.prog G (spec O) 100 (subOf sub) (lpsOf lps) g args h)) (callI hsp hs hl []) hF p hok.2 init step
theorem goalR_inv {kn : Nat} {F : List DV → Bool × List DV} {Inv Inv' : List DV → Prop} {μ : List DV → Nat} {R : Rho} {ds : List DV} (h : ∀ ds, Inv ds → Inv' ds) : ∀ {p : RPln}, goalR kn F Inv μ R ds p → goalR kn F Inv' μ R ds p
  | .ask e t f, hg => by
    obtain ⟨b, h1, h2, h3⟩ := hg
    exact ⟨b, h1, fun hb => goalR_inv h (h2 hb), fun hb => goalR_inv h (h3 hb)⟩
  | .know e b p, hg => ⟨hg.1, goalR_inv h hg.2⟩
  | .next τ, hg => ⟨h _ hg.1, hg.2⟩
  | .exit b τ, hg => hg
  | .never, hg => hg
/-- One loop more in a list of loops. -/
theorem loopsCons {B C : Code} {k : Nat} {L : LoopSp} {lps : List (Nat × LoopSp)} (hB : key C = k) (hL : ∀ D ∈ loopsIn B, key D = k → LoopOK Tryz.prog G I D L) (hl : LoopsOK Tryz.prog G I (lpsOf lps) B) : LoopsOK Tryz.prog G I (lpsOf ((k, L) :: lps)) B := by
  intro D hD M hM
  have h1 := lpsOf_mem hM
  unfold lpsOf at hM
  split at hM
  · rename_i e
    have e := Nat.eq_of_beq_eq_true e
    rcases List.mem_cons.1 hM with rfl | hM
    · exact hL D hD e.symm
    · exact hl D hD M hM
  · exact hl D hD M hM
end
end Go.Proofs.YtholilpmihngaaaGreatDoor
namespace Go.Proofs.YtholilpmihngaaaGreatDoor
open Go Go.AM
/-! ## Calls that recover, in this seat -/
/-- Panicking loops: a function, a loop's first region, what it does. -/
abbrev PanL := List (FuncId × Nat × PanSp)
noncomputable def pansOf (l : PanL) (f : FuncId) (k : Nat) : List PanSp := match l with
  | [] => []
  | (g, j, L) :: l => match Nat.beq g f && Nat.beq j k with
    | true => L :: pansOf l f k
    | false => pansOf l f k
noncomputable def runP (I : Nat → List DV → DV) (spec : SpecF) (sub : SubL) (lps : List (Nat × LoopSp)) (pl : PanL) (ts : Frz) (f : FuncId) (sg : Sig) (facts : List (SX × Bool)) : Out :=
  iceRes ts (@callMP (mkO facts I) Tryz.prog G (spec (mkO facts I)) 100 (subOf sub) (lpsOf lps) (pansOf pl) 9 f (mkArgs 0 sg) heap0)
noncomputable def runPX (I : Nat → List DV → DV) (spec : SpecF) (sub : SubL) (lps : List (Nat × LoopSp)) (pl : PanL) (ts : Frz) (f : FuncId) (sg : Sig) (o : SX → Option Bool) : Out :=
  iceRes ts (@callMP ⟨o, I⟩ Tryz.prog G (spec ⟨o, I⟩) 100 (subOf sub) (lpsOf lps) (pansOf pl) 9 f (mkArgs 0 sg) heap0)
theorem pansOf_mem : ∀ {l : PanL} {f : FuncId} {k : Nat} {L : PanSp}, L ∈ pansOf l f k → (f, k, L) ∈ l
  | (g, j, M) :: l, f, k, L, h => by
    unfold pansOf at h
    split at h
    · rename_i e
      rw [Bool.and_eq_true, Nat.beq_eq, Nat.beq_eq] at e
      obtain ⟨rfl, rfl⟩ := e
      rcases List.mem_cons.1 h with rfl | h
      · simp
      · exact List.mem_cons_of_mem _ (pansOf_mem h)
    · exact List.mem_cons_of_mem _ (pansOf_mem h)
/-- What each panicking loop is. -/
def PansOK (I : Nat → List DV → DV) (l : PanL) : Prop := ∀ x ∈ l, ∀ B ∈ loopsIn (bodyOf x.1), key B = x.2.1 → LoopPOK Tryz.prog G I B x.2.2
theorem pans_ok {I : Nat → List DV → DV} {l : PanL} (h : PansOK I l) : SubPOK Tryz.prog G I (pansOf l) := by
  intro f fn c hf hc B hB L hL
  have hb : bodyOf f = c := by unfold bodyOf; rw [hf]; simp [hc]
  exact h (f, key B, L) (pansOf_mem hL) B (by rw [hb]; exact hB) rfl
section
variable {I : Nat → List DV → DV} {spec : SpecF}
theorem fn_runP (hsp : ∀ O : Orc, O.I = I → @SpecOK O Tryz.prog G (spec O)) {sub : SubL} (hs : SubsOK I sub) (lps : List (Nat × LoopSp)) {pl : PanL} (hp : PansOK I pl) (ts : Frz) {f : FuncId} (hl : LoopsAre I f lps) {sg rs : Sig} {pre : List DV → Prop} {F : List DV → List (List DV)} (hb : hasB f = true) (p : Pln)
    (hc : checkPlan rs (runP I spec sub lps pl ts f sg) [] p = true)
    (hgoal : ∀ (ds : List (List DV)), IsArgs sg ds → pre ds.flatten → goalPlan (rhoOf I ds.flatten) (F ds.flatten) p) : FnOK Tryz.prog G f sg rs pre F := by
  refine fn_plan (call := fun O g args h => iceRes ts (@callMP O Tryz.prog G (spec O) 100 (subOf sub) (lpsOf lps) (pansOf pl) 9 g args h)) plainG (hasB_ok hb) ?_ p hc (fun _ ds _ h hp => hgoal ds (repArgs_is h) hp)
  intro O hI
  have h1 := @callMP_ok O Tryz.prog G (spec O) (lpsOf lps) hmix hNum (hsp O hI) plainG 100 (subOf sub) (by rw [hI]; exact subs_ok hs) f (by
    intro fn c hf hc
    rw [hI]
    have : bodyOf f = c := by unfold bodyOf; rw [hf]; simp [hc]
    rw [← this]
    exact hl) (pansOf pl) (by rw [hI]; exact pans_ok hp) 9
  have h2 := @iceRes_ok O Tryz.prog G ts _ h1
  intro g args h av h' hq
  simp only at hq
  split at hq
  · rename_i e
    exact h2 g args h av h' (by simp only [if_pos e]; subst e; exact hq)
  · cases hq
theorem loop_pan (hsp : ∀ O : Orc, O.I = I → @SpecOK O Tryz.prog G (spec O)) {B : Code} {L : PanSp} (hl : loopsIn B = []) (p : PPln)
    (hok : (L.Z.ok L.T L.n && checkRoundP L (roundS I spec [] [] B) (fun facts s => @codePL (mkO facts I) Tryz.prog G (spec (mkO facts I)) 100 (@enterPL (mkO facts I) Tryz.prog G (spec (mkO facts I)) 100 (pansOf []) 9) (fun _ => []) B s) [] p) = true) (inv : Rho → Prop) (μ : Rho → Nat)
    (init : ∀ m a w, @RS (noFacts I) plainR m G (L.T.st L.n) a w → (∀ p ∈ L.pre, den m.R p.1 = .bool p.2) → inv m.R)
    (step : ∀ R, R.I = I → inv R → goalRoundP L inv μ R p) : LoopPOK Tryz.prog G I B L :=
  loopP_plan (sub := subOf []) (lps := lpsOf []) (lpp := pansOf []) (lp := fun _ => []) hmix hNum hsp plainG 100 (subs_ok (l := []) trivial) noLoops (fun _ _ _ _ _ _ _ _ h => by simp [pansOf] at h) (fun _ h => by rw [hl] at h; cases h) 9 p hok inv μ init step
end
end Go.Proofs.YtholilpmihngaaaGreatDoor
namespace Go.Proofs.YtholilpmihngaaaGreatDoor
open Go Go.AM
/-! ## Reckoning, plainly -/
def In64 (z : Int) : Prop := -9223372036854775808 ≤ z ∧ z ≤ 9223372036854775807
instance (z : Int) : Decidable (In64 z) := inferInstanceAs (Decidable (_ ∧ _))
/-- A number, or the error. -/
def fit (z : Int) : Int × Int := if In64 z then (z, 0) else (0, 151)
/-- What an op makes of two numbers; the error. -/
def reckZ (op x y : Int) : Int × Int :=
  if op = 1 then fit (x + y) else if op = 2 then fit (x - y) else if op = 3 then fit (x * y)
  else if y = 0 then (0, 152) else if op = 4 then fit (x.tdiv y) else fit (x.tmod y)
theorem wr64 (z : Int) : IntKind.wrap .i64 z = (z + 9223372036854775808) % 18446744073709551616 - 9223372036854775808 := by
  rw [wrap_i64']
  split <;> omega
theorem wrap_in64 {z : Int} (h : In64 z) : IntKind.wrap .i64 z = z := by
  rw [wr64]
  obtain ⟨h1, h2⟩ := h
  omega
theorem wrap_is64 (z : Int) : In64 (IntKind.wrap .i64 z) := by
  rw [wr64]
  constructor <;> omega
/-! signs under 'and', 'xor' -/
theorem bv_neg (b : BitVec 64) : IntKind.wrap .i64 b.toNat < 0 ↔ b.msb = true := by
  have hb := b.isLt
  rw [wr64, BitVec.msb_eq_decide, decide_eq_true_iff]
  omega
theorem sg_neg {z : Int} (h : In64 z) : (BitVec.ofInt 64 z).msb = true ↔ z < 0 := by
  obtain ⟨h1, h2⟩ := h
  rw [BitVec.msb_eq_decide, decide_eq_true_iff, BitVec.toNat_ofInt]
  have : ((2 : Nat) ^ 64 : Nat) = 18446744073709551616 := by decide
  rw [this]
  omega
theorem and_neg {x y : Int} (hx : In64 x) (hy : In64 y) : bitsD .and .i64 x y < 0 ↔ x < 0 ∧ y < 0 := by
  show IntKind.wrap .i64 (BitVec.ofInt 64 x &&& BitVec.ofInt 64 y).toNat < 0 ↔ _
  rw [bv_neg, BitVec.msb_and, Bool.and_eq_true, sg_neg hx, sg_neg hy]
theorem xor_neg {x y : Int} (hx : In64 x) (hy : In64 y) : bitsD .xor .i64 x y < 0 ↔ ¬(x < 0 ↔ y < 0) := by
  show IntKind.wrap .i64 (BitVec.ofInt 64 x ^^^ BitVec.ofInt 64 y).toNat < 0 ↔ _
  rw [bv_neg, BitVec.msb_xor]
  rw [← sg_neg hx, ← sg_neg hy]
  generalize (BitVec.ofInt 64 x).msb = p
  generalize (BitVec.ofInt 64 y).msb = q
  cases p <;> cases q <;> simp
theorem bits_is64 (op : BinOp) (x y : Int) : In64 (bitsD op .i64 x y) := by
  unfold bitsD
  split <;> exact wrap_is64 _
/-- 'add': over, if both have one sign and the sum the other one. -/
theorem add_over {a b : Int} (ha : In64 a) (hb : In64 b) :
    (if bitsD .and .i64 (bitsD .xor .i64 a (IntKind.wrap .i64 (a + b))) (bitsD .xor .i64 b (IntKind.wrap .i64 (a + b))) < 0 then ((0, 151) : Int × Int) else (IntKind.wrap .i64 (a + b), 0)) = fit (a + b) := by
  have hn := wrap_is64 (a + b)
  have hc := and_neg (bits_is64 .xor a (IntKind.wrap .i64 (a + b))) (bits_is64 .xor b (IntKind.wrap .i64 (a + b)))
  rw [xor_neg ha hn, xor_neg hb hn] at hc
  unfold fit
  by_cases h : In64 (a + b)
  · rw [if_pos h]
    rw [if_neg, wrap_in64 h]
    rw [hc, wrap_in64 h]
    omega
  · rw [if_neg h, if_pos]
    rw [hc, wr64]
    unfold In64 at h ha hb
    omega
theorem sub_over {a b : Int} (ha : In64 a) (hb : In64 b) :
    (if bitsD .and .i64 (bitsD .xor .i64 a b) (bitsD .xor .i64 a (IntKind.wrap .i64 (a - b))) < 0 then ((0, 151) : Int × Int) else (IntKind.wrap .i64 (a - b), 0)) = fit (a - b) := by
  have hn := wrap_is64 (a - b)
  have hc := and_neg (bits_is64 .xor a b) (bits_is64 .xor a (IntKind.wrap .i64 (a - b)))
  rw [xor_neg ha hb, xor_neg ha hn] at hc
  unfold fit
  by_cases h : In64 (a - b)
  · rw [if_pos h]
    rw [if_neg, wrap_in64 h]
    rw [hc, wrap_in64 h]
    omega
  · rw [if_neg h, if_pos]
    rw [hc, wr64]
    unfold In64 at h ha hb
    omega
theorem tdiv_abs (n a : Int) : (n.tdiv a).natAbs = n.natAbs / a.natAbs := Int.natAbs_tdiv n a
theorem mul_over {a b : Int} (ha : In64 a) (hb : In64 b) :
    (if a ≠ 0 ∧ (IntKind.wrap .i64 ((IntKind.wrap .i64 (a * b)).tdiv a) ≠ b ∨ (a = -1 ∧ b = -9223372036854775808)) then ((0, 151) : Int × Int) else (IntKind.wrap .i64 (a * b), 0)) = fit (a * b) := by
  unfold fit
  by_cases h : In64 (a * b)
  · rw [if_pos h, wrap_in64 h, if_neg]
    rintro ⟨h0, h1 | ⟨rfl, rfl⟩⟩
    · rw [Int.mul_tdiv_cancel_left b h0, wrap_in64 hb] at h1
      exact h1 rfl
    · exact absurd h.2 (by decide)
  · rw [if_neg h, if_pos]
    have h0 : a ≠ 0 := by
      rintro rfl
      rw [Int.zero_mul] at h
      exact h ⟨by decide, by decide⟩
    refine ⟨h0, Classical.byContradiction fun hc => ?_⟩
    simp only [not_or, Decidable.not_not, not_and] at hc
    obtain ⟨h1, h2⟩ := hc
    have hn := wrap_is64 (a * b)
    have hw := wr64 (a * b)
    generalize hN : IntKind.wrap .i64 (a * b) = n at h1 hn hw
    generalize hQ : n.tdiv a = q at h1
    have hdm : n.tmod a + a * q = n := by rw [← hQ]; exact Int.tmod_add_mul_tdiv n a
    have hqa := tdiv_abs n a
    rw [hQ] at hqa
    have hr : (n.tmod a).natAbs < a.natAbs := by
      rw [Int.natAbs_tmod]
      exact Nat.mod_lt _ (by omega)
    unfold In64 at ha hb hn h
    by_cases hq : In64 q
    · rw [wrap_in64 hq] at h1
      subst h1
      generalize a * q = p at hw hdm h
      omega
    · have hle : 2 ≤ a.natAbs → q.natAbs ≤ 4611686018427387904 := by
        intro h2
        rw [hqa]
        calc n.natAbs / a.natAbs ≤ n.natAbs / 2 := Nat.div_le_div_left h2 (by decide)
          _ ≤ _ := by omega
      have h1a : a.natAbs = 1 := by
        by_cases h2 : 2 ≤ a.natAbs
        · exact absurd ⟨by have := hle h2; omega, by have := hle h2; omega⟩ hq
        · omega
      rcases Int.natAbs_eq a with e | e
      · rw [h1a] at e
        subst e
        rw [show ((1 : Nat) : Int) = 1 from rfl, Int.tdiv_one] at hQ
        subst hQ
        exact hq hn
      · rw [h1a] at e
        subst e
        have hqn : q = -n := by rw [← hQ]; show n.tdiv (-1) = -n; rw [Int.tdiv_neg, Int.tdiv_one]
        subst hqn
        unfold In64 at hq
        have hn1 : n = -9223372036854775808 := by omega
        subst hn1
        refine h2 rfl ?_
        rw [← h1]
        decide
theorem div_in {a b : Int} (ha : In64 a) (h0 : b ≠ 0) (h1 : b ≠ -1) : In64 (a.tdiv b) := by
  have hq := tdiv_abs a b
  unfold In64 at ha ⊢
  by_cases h2 : 2 ≤ b.natAbs
  · have : (a.tdiv b).natAbs ≤ 4611686018427387904 := by
      rw [hq]
      calc a.natAbs / b.natAbs ≤ a.natAbs / 2 := Nat.div_le_div_left h2 (by decide)
        _ ≤ _ := by omega
    omega
  · have : b = 1 := by omega
    subst this
    rw [Int.tdiv_one]
    omega
theorem rem_in {a b : Int} (hb : In64 b) (h0 : b ≠ 0) : In64 (a.tmod b) := by
  have hr : (a.tmod b).natAbs < b.natAbs := by
    rw [Int.natAbs_tmod]
    exact Nat.mod_lt _ (by omega)
  unfold In64 at hb ⊢
  omega
theorem tdiv_m1 (a : Int) : a.tdiv (-1) = -a := by rw [Int.tdiv_neg, Int.tdiv_one]
theorem tmod_m1 (a : Int) : a.tmod (-1) = 0 := by rw [Int.tmod_neg, Int.tmod_one]
end Go.Proofs.YtholilpmihngaaaGreatDoor
namespace Go.Proofs.YtholilpmihngaaaGreatDoor
open Go Go.AM
/-! ## Values, rows, expressions, plainly -/
abbrev tV : List Ty := [tI, tI, .str]
abbrev tRow : Ty := .slice tV
abbrev tRows : Ty := .slice [tRow]
/-- A node: Kind, Op, A, B, Table, Name, Value. -/
abbrev tN : List Ty := [tI, tI, tI, tI, .str, .str, tI, tI, .str]
abbrev tE : Ty := .slice tN
def valOK (k n : Int) (sz : Nat) : Bool := (k == 1 && n == 0 && sz == 0) || (k == 2 && (n == 0 || n == 1) && sz == 0) || (k == 3 && sz == 0) || (k == 4 && n == 0 && decide (sz ≤ 64))
def FvCheck (ds : List DV) : List (List DV) := [[.int .i64 (if valOK (iD ds 0) (iD ds 1) (sD ds 2).size then 0 else 150)]]
def Fright (ds : List DV) : List (List DV) := [[.bool (valOK (iD ds 0) (iD ds 1) (sD ds 2).size)]]
def cutT (s : ByteArray) : ByteArray := s.extract 0 (min s.size 65)
def cutV (r : List DV) : List DV := [r.getD 0 (.bool false), r.getD 1 (.bool false), .str (cutT (sD r 2))]
def cutR (l : List (List DV)) : List (List DV) := (l.take 7).map cutV
def Fval (ds : List DV) : List (List DV) := [cutV ds]
def Frow (ds : List DV) : List (List DV) := [[.list (cutR (lD ds 0))]]
/-- A row, cut, behind others, from a place on. -/
def FrowL (ds : List DV) : DV := .list (lD ds 1 ++ ((lD ds 0).take 7 |>.drop (iD ds 2).toNat).map cutV)
def cutRs (l : List (List DV)) (n : Nat) : List (List DV) := (l.take n).map fun r => [.list (cutR (lD r 0))]
def Frows (ds : List DV) : List (List DV) := [[.list (cutRs (lD ds 0) (iD ds 1).toNat)]]
def FrowsL (ds : List DV) : DV := .list (lD ds 1 ++ ((lD ds 0).take (iD ds 3).toNat |>.drop (iD ds 2).toNat).map fun r => [.list (cutR (lD r 0))])
/-- How numbers, texts, values stand to one another. -/
def cmpZ (a b : Int) : Int := if a < b then -1 else if b < a then 1 else 0
def cmpS (a b : ByteArray) : Int := if Op.bytesLess a.toList b.toList then -1 else if Op.bytesLess b.toList a.toList then 1 else 0
def cmpV (k n : Int) (s : ByteArray) (k' n' : Int) (s' : ByteArray) : Int := if cmpZ k k' ≠ 0 then cmpZ k k' else if cmpZ n n' ≠ 0 then cmpZ n n' else cmpS s s'
def FvCmp (ds : List DV) : List (List DV) := [[.int .i64 (cmpV (iD ds 0) (iD ds 1) (sD ds 2) (iD ds 3) (iD ds 4) (sD ds 5))]]
/-- Truths. -/
def fairZ (t : Int) : Int := if t = 0 ∨ t = 1 then t else 2
def andZ (a b : Int) : Int := if fairZ a = 0 ∨ fairZ b = 0 then 0 else if fairZ a = 2 ∨ fairZ b = 2 then 2 else 1
def notZ (a : Int) : Int := if fairZ a = 2 then 2 else 1 - fairZ a
def orZ (a b : Int) : Int := if fairZ a = 1 ∨ fairZ b = 1 then 1 else if fairZ a = 2 ∨ fairZ b = 2 then 2 else 0
def Fand (ds : List DV) : List (List DV) := [[.int .i64 (andZ (iD ds 0) (iD ds 1))]]
def For (ds : List DV) : List (List DV) := [[.int .i64 (orZ (iD ds 0) (iD ds 1))]]
def Fnot (ds : List DV) : List (List DV) := [[.int .i64 (notZ (iD ds 0))]]
/-- Why two values are nothing to go on with. -/
def bothZ (op last k n : Int) (s : ByteArray) (k' n' : Int) (s' : ByteArray) : Int := if op < 1 ∨ last < op then 2 else if valOK k n s.size && valOK k' n' s'.size then 0 else 150
def Fboth (ds : List DV) : List (List DV) := [[.int .i64 (bothZ (iD ds 0) (iD ds 1) (iD ds 2) (iD ds 3) (sD ds 4) (iD ds 5) (iD ds 6) (sD ds 7))]]
def testZ (op c : Int) : Bool := (op == 1 && decide (c = 0)) || (op == 2 && decide (c ≠ 0)) || (op == 3 && decide (c < 0)) || (op == 4 && decide (c ≤ 0)) || (op == 5 && decide (c > 0)) || (op == 6 && decide (c ≥ 0))
def testV (op k n : Int) (s : ByteArray) (k' n' : Int) (s' : ByteArray) : Int × Int :=
  if bothZ op 6 k n s k' n' s' ≠ 0 then (0, bothZ op 6 k n s k' n' s') else if k = 1 ∨ k' = 1 then (2, 0) else if k ≠ k' ∨ k = 2 ∧ 2 < op then (0, 153) else (if testZ op (cmpV k n s k' n' s') then 1 else 0, 0)
def Ftest (ds : List DV) : List (List DV) := [[.int .i64 (testV (iD ds 0) (iD ds 1) (iD ds 2) (sD ds 3) (iD ds 4) (iD ds 5) (sD ds 6)).1], [.int .i64 (testV (iD ds 0) (iD ds 1) (iD ds 2) (sD ds 3) (iD ds 4) (iD ds 5) (sD ds 6)).2]]
def zeroV : List DV := [.int .i64 0, .int .i64 0, .str ⟨#[]⟩]
def reckV (op k n : Int) (s : ByteArray) (k' n' : Int) (s' : ByteArray) : List DV × Int :=
  if bothZ op 5 k n s k' n' s' ≠ 0 then (zeroV, bothZ op 5 k n s k' n' s') else if k ≠ 1 ∧ k ≠ 3 ∨ k' ≠ 1 ∧ k' ≠ 3 then (zeroV, 153) else if k = 1 ∨ k' = 1 then ([.int .i64 1, .int .i64 0, .str ⟨#[]⟩], 0)
  else if (reckZ op n n').2 ≠ 0 then (zeroV, (reckZ op n n').2) else ([.int .i64 3, .int .i64 (reckZ op n n').1, .str ⟨#[]⟩], 0)
def Freck (ds : List DV) : List (List DV) := [(reckV (iD ds 0) (iD ds 1) (iD ds 2) (sD ds 3) (iD ds 4) (iD ds 5) (sD ds 6)).1, [.int .i64 (reckV (iD ds 0) (iD ds 1) (iD ds 2) (sD ds 3) (iD ds 4) (iD ds 5) (sD ds 6)).2]]
/-- One of the ops that reckon. -/
def Frk (op : Int) (ds : List DV) : List (List DV) := [[.int .i64 (reckZ op (iD ds 0) (iD ds 1)).1], [.int .i64 (reckZ op (iD ds 0) (iD ds 1)).2]]
/-- Of the document's reckoning. -/
def Fsize (ds : List DV) : List (List DV) := [[.int .u64 (iD ds 0).natAbs]]
def signZ (h l : Int) (m : Bool) : Int × Bool := if 0 < h ∨ (m = true ∧ 9223372036854775808 < l) ∨ (m = false ∧ 9223372036854775808 ≤ l) then (0, false) else (if m = true then -l else l, true)
def Fsign (ds : List DV) : List (List DV) := [[.int .i64 (signZ (iD ds 0) (iD ds 1) (bD ds 2)).1], [.bool (signZ (iD ds 0) (iD ds 1) (bD ds 2)).2]]
/-- Nodes. -/
def kidsZ (k : Int) : Int := if k = 1 ∨ k = 2 then 0 else if k = 3 ∨ k = 4 ∨ k = 9 ∨ k = 10 then 1 else if 5 ≤ k ∧ k ≤ 8 then 2 else -1
def Fkids (ds : List DV) : List (List DV) := [[.int .i64 (kidsZ (iD ds 0))]]
def nodeOK (k o a b vk vn : Int) (sz : Nat) (i : Int) : Bool :=
  decide ((kidsZ k = 0 ∨ kidsZ k = 1 ∧ (0 ≤ a ∧ a < i) ∨ kidsZ k = 2 ∧ (0 ≤ a ∧ a < i) ∧ (0 ≤ b ∧ b < i)) ∧ (k = 7 → 1 ≤ o ∧ o ≤ 6) ∧ (k = 8 → 1 ≤ o ∧ o ≤ 5) ∧ (k = 1 → valOK vk vn sz = true))
def Fnode (ds : List DV) : List (List DV) := [[.bool (nodeOK (iD ds 0) (iD ds 1) (iD ds 2) (iD ds 3) (iD ds 6) (iD ds 7) (sD ds 8).size (iD ds 9))]]
/-- Expressions: may all nodes from a place on be? -/
def nodeR (r : List DV) (i : Int) : Bool := nodeOK (iD r 0) (iD r 1) (iD r 2) (iD r 3) (iD r 6) (iD r 7) (sD r 8).size i
def okFrom (l : List (List DV)) (i : Nat) : Bool := (List.range l.length).all fun j => decide (j < i) || (decide (j ≠ 300) && nodeR (l.getD j []) j)
def FexL (ds : List DV) : Bool × List DV := (okFrom (lD ds 0) (iD ds 1).toNat, [])
def FexOK (ds : List DV) : List (List DV) := [[.bool (okFrom (lD ds 0) 0 && decide (0 < (lD ds 0).length))]]
/-- The product of 128 bits, in halves. -/
def wideZ (a b : Int) : Int × Int := (a * b / 18446744073709551616, a * b % 18446744073709551616)
def Fwide (ds : List DV) : List (List DV) := [[.int .u64 (wideZ (iD ds 0) (iD ds 1)).1], [.int .u64 (wideZ (iD ds 0) (iD ds 1)).2]]
def FwideL (ds : List DV) : Bool × List DV := (true, [.int .u64 (wideZ (iD ds 0) (iD ds 1)).1, .int .u64 (wideZ (iD ds 0) (iD ds 1)).2])
/-- What nodes are worth. -/
def truthZ (k n : Int) : Int := if k = 2 then (if n = 1 then 1 else 0) else 2
def saidV (t : Int) : List DV := if t = 2 then [.int .i64 1, .int .i64 0, .str ⟨#[]⟩] else [.int .i64 2, .int .i64 (if t = 1 then 1 else 0), .str ⟨#[]⟩]
def isV (b : Bool) : List DV := [.int .i64 2, .int .i64 (if b then 1 else 0), .str ⟨#[]⟩]
def trV (v : List DV) : Int := truthZ (iD v 0) (iD v 1)
def testN (o : Int) (a b : List DV) : List DV × Int :=
  if (testV o (iD a 0) (iD a 1) (sD a 2) (iD b 0) (iD b 1) (sD b 2)).2 ≠ 0 then (zeroV, (testV o (iD a 0) (iD a 1) (sD a 2) (iD b 0) (iD b 1) (sD b 2)).2) else (saidV (testV o (iD a 0) (iD a 1) (sD a 2) (iD b 0) (iD b 1) (sD b 2)).1, 0)
def reckN (o : Int) (a b : List DV) : List DV × Int := reckV o (iD a 0) (iD a 1) (sD a 2) (iD b 0) (iD b 1) (sD b 2)
def hadA (r : List DV) (had : List (List DV)) : List DV := had.getD (iD r 2).toNat []
def hadB (r : List DV) (had : List (List DV)) : List DV := had.getD (iD r 3).toNat []
def cellA (r : List DV) (rows : List (List DV)) : List DV := (lD (rows.getD (iD r 2).toNat []) 0).getD (iD r 3).toNat []
def nodeV (r : List DV) (had rows : List (List DV)) : List DV × Int :=
  if iD r 0 = 1 then ([.int .i64 (iD r 6), .int .i64 (iD r 7), .str (sD r 8)], 0)
  else if iD r 0 = 2 then (cellA r rows, 0)
  else if iD r 0 = 3 then (saidV (notZ (trV (hadA r had))), 0)
  else if iD r 0 = 4 then reckN 2 [.int .i64 3, .int .i64 0, .str ⟨#[]⟩] (hadA r had)
  else if iD r 0 = 5 then (saidV (andZ (trV (hadA r had)) (trV (hadB r had))), 0)
  else if iD r 0 = 6 then (saidV (orZ (trV (hadA r had)) (trV (hadB r had))), 0)
  else if iD r 0 = 7 then testN (iD r 1) (hadA r had) (hadB r had)
  else if iD r 0 = 8 then reckN (iD r 1) (hadA r had) (hadB r had)
  else if iD r 0 = 9 then (isV (decide (iD (hadA r had) 0 = 1)), 0)
  else (isV (decide (iD (hadA r had) 0 ≠ 1)), 0)
def placedR (r : List DV) (rows : List (List DV)) : Bool :=
  decide (iD r 0 ≠ 2) || (decide (0 ≤ iD r 2 ∧ iD r 2 < rows.length) && (decide (0 ≤ iD r 3 ∧ iD r 3 < (lD (rows.getD (iD r 2).toNat []) 0).length) && valOK (iD (cellA r rows) 0) (iD (cellA r rows) 1) (sD (cellA r rows) 2).size))
def placedFrom (l rows : List (List DV)) (i : Nat) : Bool := (l.drop i).all fun r => placedR r rows
def FplL (ds : List DV) : Bool × List DV := (placedFrom (lD ds 0) (lD ds 1) (iD ds 2).toNat, [])
def Fplaced (ds : List DV) : List (List DV) := [[.bool (placedFrom (lD ds 0) (lD ds 1) 0)]]
def badAt (l rows : List (List DV)) (i : Nat) : Nat := i + (l.drop i).findIdx fun r => !placedR r rows
def FidxL (ds : List DV) : Bool × List DV := (placedFrom (lD ds 0) (lD ds 1) (iD ds 2).toNat, if placedFrom (lD ds 0) (lD ds 1) (iD ds 2).toNat then [] else [.int .i64 (badAt (lD ds 0) (lD ds 1) (iD ds 2).toNat)])
/-- The values of the nodes from a place on, behind those ahead; the error. -/
def evalN (l rows : List (List DV)) : Nat → Nat → List (List DV) → List (List DV) × Int
  | 0, _, had => (had, 0)
  | n + 1, i, had => if (nodeV (l.getD i []) had rows).2 ≠ 0 then (had, (nodeV (l.getD i []) had rows).2) else evalN l rows n (i + 1) (had ++ [(nodeV (l.getD i []) had rows).1])
/-- Nodes, values, a place, rows. -/
def evalF (ds : List DV) : List (List DV) × Int := evalN (lD ds 0) (lD ds 3) ((lD ds 0).length - (iD ds 2).toNat) (iD ds 2).toNat (lD ds 1)
def FevL (ds : List DV) : Bool × List DV := (true, [.list (evalF ds).1])
def Fev2L (ds : List DV) : Bool × List DV := if (evalF ds).2 = 0 then (true, [.list (evalF ds).1]) else (false, [.int .i64 (evalF ds).2])
def qVal (l rows : List (List DV)) : List DV × Int :=
  if (okFrom l 0 && decide (0 < l.length)) = false ∨ placedFrom l rows 0 = false then (zeroV, 240)
  else if (evalN l rows l.length 0 []).2 ≠ 0 then (zeroV, (evalN l rows l.length 0 []).2) else ((evalN l rows l.length 0 []).1.getD (l.length - 1) [], 0)
def FqVal (ds : List DV) : List (List DV) := [(qVal (lD ds 0) (lD ds 1)).1, [.int .i64 (qVal (lD ds 0) (lD ds 1)).2]]
def cutS (n : Nat) (s : ByteArray) : ByteArray := s.extract 0 (min s.size n)
def cutN (r : List DV) : List DV := [r.getD 0 (.bool false), r.getD 1 (.bool false), r.getD 2 (.bool false), r.getD 3 (.bool false), .str (cutS 30 (sD r 4)), .str (cutS 30 (sD r 5)), r.getD 6 (.bool false), r.getD 7 (.bool false), .str (cutT (sD r 8))]
def Fexpr (ds : List DV) : List (List DV) := [[.list (((lD ds 0).take 40).map cutN)]]
def FexprL (ds : List DV) : Bool × List DV := (true, [.list (lD ds 1 ++ ((lD ds 0).take 40 |>.drop (iD ds 2).toNat).map cutN)])
def FlawL (_ : List DV) : Bool × List DV := (true, [])
def Ftrue (_ : List DV) : List (List DV) := [[.bool true]]
noncomputable def theI : Nat → List DV → DV
  | 1, ds => .list (Fval ds)
  | 2, ds => .list (Frow ds)
  | 3, ds => .list (Frows ds)
  | 6, ds => .list (Ftrue ds)
  | 11, ds => .list (FvCheck ds)
  | 12, ds => .list (Fright ds)
  | 13, ds => .list (FvCmp ds)
  | 14, ds => .list (Ftest ds)
  | 15, ds => .list (Freck ds)
  | 16, ds => .list (Fand ds)
  | 17, ds => .list (For ds)
  | 18, ds => .list (Fnot ds)
  | 19, ds => .list (Fboth ds)
  | 21, ds => .list (Frk 1 ds)
  | 22, ds => .list (Frk 2 ds)
  | 23, ds => .list (Frk 3 ds)
  | 24, ds => .list (Frk 4 ds)
  | 25, ds => .list (Frk 5 ds)
  | 26, ds => .list (Fkids ds)
  | 27, ds => .list (Fnode ds)
  | 31, ds => .list (Fsize ds)
  | 32, ds => .list (Fsign ds)
  | 28, ds => .list (FexOK ds)
  | 111, ds => .list (FL FexL ds)
  | 33, ds => .list (Fwide ds)
  | 29, ds => .list (Fplaced ds)
  | 40, ds => .list (Fexpr ds)
  | 70, ds => .list (FqVal ds)
  | 113, ds => .list (FL FwideL ds)
  | 114, ds => .list (FL FexprL ds)
  | 115, ds => .list (FL FevL ds)
  | 116, ds => .list (FL Fev2L ds)
  | 117, ds => .list (FL FplL ds)
  | 118, ds => .list (FL FlawL ds)
  | 119, ds => .list (FL FidxL ds)
  | 171, ds => .int .i64 (evalF ds).2
  | 172, ds => .bool (okFrom (lD ds 0) 0 && placedFrom (lD ds 0) (lD ds 1) 0)
  | 102, ds => FrowL ds
  | 103, ds => FrowsL ds
  | _, _ => .bool false
end Go.Proofs.YtholilpmihngaaaGreatDoor
namespace Go.Proofs.YtholilpmihngaaaGreatDoor
open Go Go.AM
/-! ## Evaluation, plainly -/
theorem placed_step {l rows : List (List DV)} {i : Nat} (h : i < l.length) : placedFrom l rows i = (placedR (l.getD i []) rows && placedFrom l rows (i + 1)) := by
  unfold placedFrom
  rw [List.drop_eq_getElem_cons h, List.all_cons, getD_lt h]
theorem placed_end {l rows : List (List DV)} {i : Nat} (h : l.length ≤ i) : placedFrom l rows i = true := by
  unfold placedFrom
  rw [List.drop_eq_nil_of_le h]
  rfl
theorem placed_get {l rows : List (List DV)} (h : placedFrom l rows 0 = true) {i : Nat} (hi : i < l.length) : placedR (l.getD i []) rows = true := by
  unfold placedFrom at h
  rw [List.drop_zero, List.all_eq_true] at h
  rw [getD_lt hi]
  exact h _ (List.getElem_mem hi)
theorem bad_skip {l rows : List (List DV)} {i : Nat} (h : i < l.length) (hp : placedR (l.getD i []) rows = true) : badAt l rows i = badAt l rows (i + 1) := by
  unfold badAt
  rw [getD_lt h] at hp
  rw [List.drop_eq_getElem_cons h, List.findIdx_cons, hp]
  simp only [Bool.not_true, cond_false]
  omega
theorem bad_here {l rows : List (List DV)} {i : Nat} (h : i < l.length) (hp : placedR (l.getD i []) rows = false) : badAt l rows i = i := by
  unfold badAt
  rw [getD_lt h] at hp
  rw [List.drop_eq_getElem_cons h, List.findIdx_cons, hp]
  simp
theorem ok_get {l : List (List DV)} (h : okFrom l 0 = true) {i : Nat} (hi : i < l.length) : i ≠ 300 ∧ nodeR (l.getD i []) i = true := by
  unfold okFrom at h
  rw [List.all_eq_true] at h
  have := h i (List.mem_range.2 hi)
  simp only [Nat.not_lt_zero, decide_false, Bool.false_or, Bool.and_eq_true, decide_eq_true_eq] at this
  exact this
theorem ok_len {l : List (List DV)} (h : okFrom l 0 = true) : l.length ≤ 300 := by
  by_cases hl : 300 < l.length
  · exact absurd rfl (ok_get h hl).1
  · omega
theorem eval_end {l had rows : List (List DV)} {i : Int} (h : l.length ≤ i.toNat) : evalF [.list l, .list had, .int .i64 i, .list rows] = (had, 0) := by
  show evalN l rows (l.length - i.toNat) i.toNat had = _
  rw [Nat.sub_eq_zero_of_le h]
  rfl
theorem eval_step {l had rows : List (List DV)} {i : Int} (h0 : 0 ≤ i) (h : i.toNat < l.length) : evalF [.list l, .list had, .int .i64 i, .list rows] =
    if (nodeV (l.getD i.toNat []) had rows).2 ≠ 0 then (had, (nodeV (l.getD i.toNat []) had rows).2) else evalF [.list l, .list (had ++ [(nodeV (l.getD i.toNat []) had rows).1]), .int .i64 (i + 1), .list rows] := by
  show evalN l rows (l.length - i.toNat) i.toNat had = if _ then _ else evalN l rows (l.length - (i + 1).toNat) (i + 1).toNat _
  rw [show l.length - i.toNat = (l.length - (i + 1).toNat) + 1 by omega, toNat_succ h0]
  rfl
/-- A value. -/
def ValV (v : List DV) : Prop := ∃ k n s, v = [.int .i64 k, .int .i64 n, .str s] ∧ valOK k n s.size = true
theorem val_null : ValV [.int .i64 1, .int .i64 0, .str ⟨#[]⟩] := ⟨1, 0, ⟨#[]⟩, rfl, rfl⟩
theorem val_zero : ValV [.int .i64 3, .int .i64 0, .str ⟨#[]⟩] := ⟨3, 0, ⟨#[]⟩, rfl, rfl⟩
theorem val_said (t : Int) : ValV (saidV t) := by
  unfold saidV
  split
  · exact val_null
  · split
    · exact ⟨2, 1, ⟨#[]⟩, rfl, rfl⟩
    · exact ⟨2, 0, ⟨#[]⟩, rfl, rfl⟩
theorem val_is (b : Bool) : ValV (isV b) := by
  cases b
  · exact ⟨2, 0, ⟨#[]⟩, rfl, rfl⟩
  · exact ⟨2, 1, ⟨#[]⟩, rfl, rfl⟩
theorem val_reck {o k n k' n' : Int} {s s' : ByteArray} (h : (reckV o k n s k' n' s').2 = 0) : ValV (reckV o k n s k' n' s').1 := by
  unfold reckV at h ⊢
  split
  · rename_i h1
    rw [if_pos h1] at h
    exact absurd h h1
  · rename_i h1
    rw [if_neg h1] at h
    split
    · rename_i h2
      rw [if_pos h2] at h
      exact absurd h (by decide)
    · rename_i h2
      rw [if_neg h2] at h
      split
      · exact val_null
      · rename_i h3
        rw [if_neg h3] at h
        split
        · rename_i h4
          rw [if_pos h4] at h
          exact absurd h h4
        · exact ⟨3, _, ⟨#[]⟩, rfl, rfl⟩
theorem getD_all {l : List (List DV)} (h : ∀ v ∈ l, ValV v) {i : Nat} (hi : i < l.length) : ValV (l.getD i []) := by
  rw [getD_lt hi]
  exact h _ (List.getElem_mem hi)
/-- A node's cells. -/
def NodeC (r : List DV) : Prop := ∃ k o a b t nm vk vn vs, r = [.int .i64 k, .int .i64 o, .int .i64 a, .int .i64 b, .str t, .str nm, .int .i64 vk, .int .i64 vn, .str vs]
theorem val_node {r : List DV} {had rows : List (List DV)} {i : Nat} (hc : NodeC r) (h1 : nodeR r i = true) (h2 : placedR r rows = true) (hh : had.length = i) (hv : ∀ v ∈ had, ValV v) (hrw : ∀ q ∈ rows, IsR q) (h0 : (nodeV r had rows).2 = 0) : ValV (nodeV r had rows).1 := by
  obtain ⟨k, o, a, b, t, nm, vk, vn, vs, rfl⟩ := hc
  have e0 : iD [.int .i64 k, .int .i64 o, .int .i64 a, .int .i64 b, .str t, .str nm, .int .i64 vk, .int .i64 vn, .str vs] 0 = k := rfl
  unfold nodeV at h0 ⊢
  rw [e0] at h0 ⊢
  split
  · rename_i hk
    subst hk
    have h3 : nodeOK 1 o a b vk vn vs.size i = true := h1
    simp only [nodeOK, decide_eq_true_eq] at h3
    exact ⟨vk, vn, vs, rfl, h3.2.2.2 trivial⟩
  rename_i hk1
  split
  · rename_i hk
    subst hk
    unfold placedR at h2
    rw [e0] at h2
    simp only [Bool.or_eq_true, Bool.and_eq_true, decide_eq_true_eq] at h2
    obtain ⟨ha, hb, hval⟩ := h2.resolve_left (by decide)
    have ha2 : a.toNat < rows.length := by
      have : (0 ≤ a ∧ a < rows.length) := ha
      omega
    obtain ⟨lv, hq, _, hlv⟩ := hrw _ (List.getElem_mem ha2)
    have hq' : rows.getD a.toNat [] = [.list lv] := by rw [getD_lt ha2]; exact hq
    have hb2 : b.toNat < lv.length := by
      have h4 : (0 ≤ b ∧ b < ((lD (rows.getD a.toNat []) 0).length : Int)) := hb
      rw [hq'] at h4
      have h5 : lD [.list lv] 0 = lv := rfl
      rw [h5] at h4
      omega
    obtain ⟨x, y, z, hz, _⟩ := hlv _ (List.getElem_mem hb2)
    have hcell : ∀ r' : List DV, iD r' 2 = a → iD r' 3 = b → cellA r' rows = [.int .i64 x, .int .i64 y, .str z] := by
      intro r' e2 e3
      unfold cellA
      rw [e2, e3, hq']
      show lv.getD b.toNat [] = _
      rw [getD_lt hb2, hz]
    rw [hcell _ rfl rfl] at hval ⊢
    exact ⟨x, y, z, rfl, hval⟩
  rename_i hk2
  split
  · exact val_said _
  rename_i hk3
  split
  · rename_i hk4
    rw [if_neg hk1, if_neg hk2, if_neg hk3, if_pos hk4] at h0
    exact val_reck h0
  rename_i hk4
  split
  · exact val_said _
  rename_i hk5
  split
  · exact val_said _
  rename_i hk6
  split
  · rename_i hk7
    unfold testN
    split
    · rename_i h4
      rw [if_neg hk1, if_neg hk2, if_neg hk3, if_neg hk4, if_neg hk5, if_neg hk6, if_pos hk7] at h0
      unfold testN at h0
      rw [if_pos h4] at h0
      exact absurd h0 h4
    · exact val_said _
  rename_i hk7
  split
  · rename_i hk8
    rw [if_neg hk1, if_neg hk2, if_neg hk3, if_neg hk4, if_neg hk5, if_neg hk6, if_neg hk7, if_pos hk8] at h0
    exact val_reck h0
  rename_i hk8
  split
  · exact val_is _
  · exact val_is _
end Go.Proofs.YtholilpmihngaaaGreatDoor
namespace Go.Proofs.YtholilpmihngaaaGreatDoor
open Go Go.AM
/-! ## Rounds by the kind of a node -/
section
variable {kn : Nat} {F : List DV → Bool × List DV} {Inv : List DV → Prop} {μ : List DV → Nat} {R : Rho} {ds : List DV}
theorem gR_ask {e : SX} {t f : RPln} : goalR kn F Inv μ R ds (.ask e t f) = ∃ b, den R e = .bool b ∧ (b = true → goalR kn F Inv μ R ds t) ∧ (b = false → goalR kn F Inv μ R ds f) := rfl
theorem gR_know {e : SX} {b : Bool} {p : RPln} : goalR kn F Inv μ R ds (.know e b p) = (den R e = .bool b ∧ goalR kn F Inv μ R ds p) := rfl
theorem gR_never : goalR kn F Inv μ R ds .never = False := rfl
end
section
variable {L : PanSp} {inv : Rho → Prop} {μ : Rho → Nat} {R : Rho}
theorem gP_ask {e : SX} {t f : PPln} : goalRoundP L inv μ R (.ask e t f) = ((∃ b, den R e = .bool b) ∧ (den R e = .bool true → goalRoundP L inv μ R t) ∧ (den R e = .bool false → goalRoundP L inv μ R f)) := rfl
theorem gP_know {e : SX} {b : Bool} {p : PPln} : goalRoundP L inv μ R (.know e b p) = (den R e = .bool b ∧ goalRoundP L inv μ R p) := rfl
theorem gP_never : goalRoundP L inv μ R .never = False := rfl
noncomputable def knowP : List (SX × Bool) → PPln → PPln
  | [], p => p
  | (e, b) :: l, p => .know e b (knowP l p)
theorem p_knows {p : PPln} : ∀ {l : List (SX × Bool)}, (∀ q ∈ l, den R q.1 = .bool q.2) → goalRoundP L inv μ R p → goalRoundP L inv μ R (knowP l p)
  | [], _, hp => hp
  | (e, b) :: l, h, hp => ⟨h (e, b) (by simp), p_knows (fun q hq => h q (List.mem_cons_of_mem _ hq)) hp⟩
theorem p_ask {e : SX} {b : Bool} {t f : PPln} (h : den R e = .bool b) (ht : b = true → goalRoundP L inv μ R t) (hf : b = false → goalRoundP L inv μ R f) : goalRoundP L inv μ R (.ask e t f) :=
  ⟨⟨b, h⟩, fun h1 => ht (by rw [h] at h1; exact DV.bool.inj h1), fun h1 => hf (by rw [h] at h1; exact DV.bool.inj h1)⟩
end
/-- What is known of a number that is n. -/
noncomputable def kindK (x : SX) (n : Nat) : Nat → List (SX × Bool)
  | 0 => []
  | m + 1 => (eql x (k64 m), Nat.beq n m) :: (lss x (k64 m), Nat.blt n m) :: (lss (k64 m) x, Nat.blt m n) :: kindK x n m
theorem kindK_ok {R : Rho} {x : SX} {n : Nat} (h : den R x = .int .i64 n) : ∀ m, ∀ q ∈ kindK x n m, den R q.1 = .bool q.2
  | 0, q, hq => by simp [kindK] at hq
  | m + 1, q, hq => by
    have ih := kindK_ok h m
    simp only [kindK, List.mem_cons] at hq
    have e1 : Nat.beq n m = decide ((n : Int) = ((m : Nat) : Int)) := by
      rw [Bool.eq_iff_iff, Nat.beq_eq, decide_eq_true_eq]
      omega
    have e2 : ∀ a b : Nat, Nat.blt a b = decide ((a : Int) < (b : Int)) := by
      intro a b
      rw [Bool.eq_iff_iff, decide_eq_true_eq]
      simp only [Nat.blt, Nat.ble_eq]
      omega
    rcases hq with rfl | rfl | rfl | hq
    · rw [d_eql h (d_k .i64 m), e1]
    · rw [d_lss h (d_k .i64 m), e2]
    · rw [d_lss (d_k .i64 m) h, e2]
    · exact ih q hq
end Go.Proofs.YtholilpmihngaaaGreatDoor
namespace Go.Proofs.YtholilpmihngaaaGreatDoor
open Go Go.AM
noncomputable def pCheck : Pln :=
  (.ask (eql (.v 0) (k64 1))
    (.ask (eql (.v 1) (k64 0))
      (.ask (eql (.v 2) (.ks (bstr #[])))
        (.done [[(k64 0)]])
        (.done [[(k64 150)]]))
      (.done [[(k64 150)]]))
    (.ask (eql (.v 0) (k64 2))
      (.ask (eql (.v 1) (k64 0))
        (.ask (eql (.v 2) (.ks (bstr #[])))
          (.done [[(k64 0)]])
          (.done [[(k64 150)]]))
        (.ask (eql (.v 1) (k64 1))
          (.ask (eql (.v 2) (.ks (bstr #[])))
            (.done [[(k64 0)]])
            (.done [[(k64 150)]]))
          (.done [[(k64 150)]])))
      (.ask (eql (.v 0) (k64 3))
        (.ask (eql (.v 2) (.ks (bstr #[])))
          (.done [[(k64 0)]])
          (.done [[(k64 150)]]))
        (.ask (eql (.v 0) (k64 4))
          (.ask (eql (.v 1) (k64 0))
            (.ask (lss (k64 64) (.len (.v 2)))
              (.done [[(k64 150)]])
              (.done [[(k64 0)]]))
            (.done [[(k64 150)]]))
          (.done [[(k64 150)]])))))
theorem agg_v1 {ds : List (List DV)} (h : IsArgs [.agg tV] ds) : ∃ k n s, ds = [[.int .i64 k, .int .i64 n, .str s]] ∧ -9223372036854775808 ≤ n ∧ n ≤ 9223372036854775807 := by
  simp only [IsArgs, IsOne, IsL, tV] at h
  obtain ⟨_, _, rfl, ⟨d1, _, rfl, h1, d2, _, rfl, h2, d3, _, rfl, h3, rfl⟩, rfl⟩ := h
  obtain ⟨k, rfl, _⟩ := h1.i64
  obtain ⟨n, rfl, n1, n2⟩ := h2.i64
  obtain ⟨s, rfl, _⟩ := h3.str
  exact ⟨k, n, s, rfl, n1, n2⟩
theorem size0 (s : ByteArray) : (s = ⟨#[]⟩) ↔ s.size = 0 := by
  constructor
  · rintro rfl; rfl
  · intro h
    have : s.data.size = 0 := h
    have e : s.data = #[] := Array.eq_empty_of_size_eq_zero this
    cases s
    simp_all
theorem okCheck : EntsOK Tryz.prog G theI [] := trivial
theorem lCheck : LoopsAre theI 40 [] := noLoops
theorem kCheck : (hasB 40 && checkPlan [.one tI] (runI theI (entS []) [] [] 40 [.agg tV]) [] pCheck) = true := by kernel_rfl
theorem fnCheck : FnOK Tryz.prog G 40 [.agg tV] [.one tI] (fun _ => True) FvCheck := by
  have hk := kCheck
  rw [Bool.and_eq_true] at hk
  refine fn_run (entS_ok okCheck) [] [] lCheck hk.1 pCheck hk.2 ?_
  intro ds h _
  obtain ⟨k, n, s, rfl, _⟩ := agg_v1 h
  have e0 := size0 s
  have yes : valOK k n s.size = true → goalPlan (rhoOf theI [[.int .i64 k, .int .i64 n, .str s]].flatten) (FvCheck [[.int .i64 k, .int .i64 n, .str s]].flatten) (.done [[k64 0]]) := by
    intro h
    show FvCheck _ = _
    have : FvCheck [[.int .i64 k, .int .i64 n, .str s]].flatten = [[.int .i64 (if valOK k n s.size then 0 else 150)]] := rfl
    rw [this, h]
    rfl
  have no : valOK k n s.size = false → goalPlan (rhoOf theI [[.int .i64 k, .int .i64 n, .str s]].flatten) (FvCheck [[.int .i64 k, .int .i64 n, .str s]].flatten) (.done [[k64 150]]) := by
    intro h
    show FvCheck _ = _
    have : FvCheck [[.int .i64 k, .int .i64 n, .str s]].flatten = [[.int .i64 (if valOK k n s.size then 0 else 150)]] := rfl
    rw [this, h]
    rfl
  generalize hR : rhoOf theI [[.int .i64 k, .int .i64 n, .str s]].flatten = R at yes no ⊢
  have q0 : R.ρ 0 = .int .i64 k := by rw [← hR]; rfl
  have q1 : R.ρ 1 = .int .i64 n := by rw [← hR]; rfl
  have q2 : R.ρ 2 = .str s := by rw [← hR]; rfl
  have ak : ∀ j : Nat, den R (eql (.v 0) (k64 j)) = .bool (decide (k = j)) := fun j => d_eql (d_v q0) (d_k .i64 j)
  have an : ∀ j : Nat, den R (eql (.v 1) (k64 j)) = .bool (decide (n = j)) := fun j => d_eql (d_v q1) (d_k .i64 j)
  have az : den R (eql (.v 2) (.ks (bstr #[]))) = .bool (decide (s.size = 0)) := by
    simp only [den, q2, binD, bstr]
    congr 1
    simp only [decide_eq_decide]
    exact e0
  have al : den R (lss (k64 64) (.len (.v 2))) = .bool (decide ((64 : Int) < s.size)) := d_lss (d_k .i64 64) (d_lens (d_v q2))
  generalize s.size = z at yes no az al
  unfold pCheck
  refine goal_ask (ak 1) (fun k1 => goal_ask (an 0) (fun n1 => goal_ask az (fun s1 => yes ?_) (fun s1 => no ?_)) (fun n1 => no ?_)) (fun k1 => ?_)
  any_goals (simp [valOK] at *; omega)
  refine goal_ask (ak 2) (fun k2 => goal_ask (an 0) (fun n1 => goal_ask az (fun s1 => yes ?_) (fun s1 => no ?_)) (fun n1 => goal_ask (an 1) (fun n2 => goal_ask az (fun s1 => yes ?_) (fun s1 => no ?_)) (fun n2 => no ?_))) (fun k2 => ?_)
  any_goals (simp [valOK] at *; omega)
  refine goal_ask (ak 3) (fun k3 => goal_ask az (fun s1 => yes ?_) (fun s1 => no ?_)) (fun k3 => ?_)
  any_goals (simp [valOK] at *; omega)
  refine goal_ask (ak 4) (fun k4 => goal_ask (an 0) (fun n1 => goal_ask al (fun s1 => no ?_) (fun s1 => yes ?_)) (fun n1 => no ?_)) (fun k4 => no ?_)
  all_goals (simp [valOK] at *; omega)
end Go.Proofs.YtholilpmihngaaaGreatDoor
namespace Go.Proofs.YtholilpmihngaaaGreatDoor
open Go Go.AM
/-! ### value, row, rows -/
noncomputable def pVal : Pln :=
  (.ask (lss (.len (.v 2)) (k64 65))
    (.done [[.v 0, .v 1, .cut (.v 2) (k64 0) (.len (.v 2))]])
    (.ask (lss (k64 65) (.len (.v 2)))
      (.done [[.v 0, .v 1, .cut (.v 2) (k64 0) (k64 65)]])
      (.done [[.v 0, .v 1, .cut (.v 2) (k64 0) (.len (.v 2))]])))
theorem kVal : (hasB 13 && checkPlan [.agg tV] (runI theI (entS []) [] [] 13 [.agg tV]) [] pVal) = true := by kernel_rfl
theorem agg_v {ds : List (List DV)} (h : IsArgs [.agg tV] ds) : ∃ k n s, ds = [[.int .i64 k, .int .i64 n, .str s]] ∧ s.size ≤ maxLen := by
  simp only [IsArgs, IsOne, IsL] at h
  obtain ⟨_, _, rfl, ⟨d1, _, rfl, h1, d2, _, rfl, h2, d3, _, rfl, h3, rfl⟩, rfl⟩ := h
  obtain ⟨k, rfl, _⟩ := h1.i64
  obtain ⟨n, rfl, _⟩ := h2.i64
  obtain ⟨s, rfl, hs⟩ := h3.str
  exact ⟨k, n, s, rfl, hs⟩
theorem fnVal : FnOK Tryz.prog G 13 [.agg tV] [.agg tV] (fun _ => True) Fval := by
  have hk := kVal
  rw [Bool.and_eq_true] at hk
  refine fn_run (entS_ok (l := []) trivial) [] [] noLoops hk.1 pVal hk.2 ?_
  intro ds h _
  obtain ⟨k, n, s, rfl, _⟩ := agg_v h
  have hF : Fval [[.int .i64 k, .int .i64 n, .str s]].flatten = [[.int .i64 k, .int .i64 n, .str (s.extract 0 (min s.size 65))]] := rfl
  generalize hR : rhoOf theI [[.int .i64 k, .int .i64 n, .str s]].flatten = R
  have q0 : R.ρ 0 = .int .i64 k := by rw [← hR]; rfl
  have q1 : R.ρ 1 = .int .i64 n := by rw [← hR]; rfl
  have q2 : R.ρ 2 = .str s := by rw [← hR]; rfl
  have hl := d_lens (R := R) (x := .v 2) (d_v q2)
  have fin : ∀ (e : SX) (z : Int), den R e = .int .i64 z → z.toNat = min s.size 65 → goalPlan R (Fval [[.int .i64 k, .int .i64 n, .str s]].flatten) (.done [[.v 0, .v 1, .cut (.v 2) (k64 0) e]]) := by
    intro e z he hz
    show Fval _ = _
    rw [hF]
    have := d_cuts (R := R) (x := .v 2) (d_v q2) (d_k .i64 0) he
    simp only [List.map_cons, List.map_nil, d_v q0, d_v q1, this, hz]
    rfl
  unfold pVal
  refine goal_ask (d_lss hl (d_k .i64 65)) (fun h1 => fin _ _ hl ?_) (fun h1 => goal_ask (d_lss (d_k .i64 65) hl) (fun h2 => fin _ _ (d_k .i64 65) ?_) (fun h2 => fin _ _ hl ?_))
  all_goals (simp only [decide_eq_true_eq, decide_eq_false_iff_not] at *; omega)
noncomputable def eVal : Ent := eFn 13 [.agg tV] [.agg tV] [] 1
theorem eVal_ok : EntsOK Tryz.prog G theI [eVal] := ⟨eFn_ok plainG (pre_true fnVal) (fun _ => rfl) [] (by kernel_rfl), trivial⟩
noncomputable def TRow : Tmpl := { tm := [(3, .own 7 tV (.v 1)), (6, .sy tRow (.v 0)), (7, .sy tI (.len (.v 0))), (8, .sy tI (.v 2))], ow := [⟨7, 31, tV, .v 1⟩], src := [.tm 6 tRow, .own 0, .tm 8 tI], osrc := [.tm 3 31 tV] }
noncomputable def YRow : Tmpl := { tm := [(3, .own 7 tV (.v 0))], ow := [⟨7, 31, tV, .v 0⟩], src := [.own 0], osrc := [.tm 3 31 tV] }
noncomputable def LRow : LoopSp := { n := 22, T := TRow, pre := [(lss (k64 0) (.len (.v 1)), false), (eql (.v 2) (k64 0), true)], yes := (.exit 0, YRow, [.app 102 [.v 0, .v 1, .v 2]]) }
noncomputable abbrev codeRow : Code := loopAt 12 0
noncomputable def TRows : Tmpl := { tm := [(1, .sy tI (.v 3)), (5, .own 7 [tRow] (.v 1)), (8, .sy tRows (.v 0)), (9, .sy tI (.len (.v 0))), (10, .sy tI (.v 2))], ow := [⟨7, 56, [tRow], .v 1⟩], src := [.tm 8 tRows, .own 0, .tm 10 tI, .tm 1 tI], osrc := [.tm 5 56 [tRow]] }
noncomputable def YRows : Tmpl := { tm := [(5, .own 7 [tRow] (.v 0))], ow := [⟨7, 56, [tRow], .v 0⟩], src := [.own 0], osrc := [.tm 5 56 [tRow]] }
noncomputable def LRows : LoopSp := { n := 25, T := TRows, pre := [(lss (k64 0) (.len (.v 1)), false), (eql (.v 2) (k64 0), true), (lss (k64 1000) (.v 3), false)], yes := (.exit 0, YRows, [.app 103 [.v 0, .v 1, .v 2, .v 3]]) }
noncomputable abbrev codeRows : Code := loopAt 5 0
noncomputable def eRow : Ent := eFn 12 [.one tRow] [.one tRow] [] 2
noncomputable def eRows : Ent := eFn 5 [.one tRows, .one tI] [.one tRows] [(lss (k64 1000) (.v 1), false)] 3
end Go.Proofs.YtholilpmihngaaaGreatDoor
namespace Go.Proofs.YtholilpmihngaaaGreatDoor
open Go Go.AM
/-! ### the loop of row -/
noncomputable abbrev vAt (c : Nat) : SX := .at (.v 0) (.v 2) c
noncomputable abbrev vApp : SX := .app 1 [vAt 0, vAt 1, vAt 2]
noncomputable abbrev vCat : SX := .cat (.v 1) (.row [.at vApp (k64 0) 0, .at vApp (k64 0) 1, .at vApp (k64 0) 2])
noncomputable def rRow : RPln :=
  .ask (lss (.v 2) (.len (.v 0)))
    (knowR [(lss (.v 2) (k64 0), false), (lss (k64 1000000) (.len (.v 1)), false)]
      (.ask (lss (k64 6) (.v 2))
        (.next [.v 0, .v 1, add (.v 2) (k64 1)])
        (.next [.v 0, vCat, add (.v 2) (k64 1)])))
    (.exit true [.v 1])
theorem okRow : (LRow.yes.2.1.ok LRow.T LRow.n && LRow.no.2.1.ok LRow.T LRow.n && checkRound LRow (roundI theI (entS [eVal]) [] codeRow) [] rRow) = true := by kernel_rfl
def invRow (R : Rho) : Prop := ∃ la l i, R.ρ 0 = .list la ∧ R.ρ 1 = .list l ∧ R.ρ 2 = .int .i64 i ∧ (∀ r ∈ la, IsV r) ∧ la.length ≤ maxLen ∧ 0 ≤ i ∧ i ≤ la.length ∧ l.length ≤ i.toNat ∧ l.length ≤ 7
noncomputable def muRow (R : Rho) : Nat := match R.ρ 0, R.ρ 2 with
  | .list la, .int _ i => la.length - i.toNat
  | _, _ => 0
theorem len_leL {R : Rho} {x : SX} {l : List (List DV)} (hx : den R x = .list l) (hl : l.length ≤ 1000000) : den R (lss (k64 1000000) (.len x)) = .bool false := by
  rw [d_lss (d_k .i64 1000000) (d_lenL hx)]
  simp
  omega
theorem cutV_is {r : List DV} (h : IsV r) : ∃ k n s, r = [.int .i64 k, .int .i64 n, .str s] ∧ cutV r = [.int .i64 k, .int .i64 n, .str (cutT s)] := by
  obtain ⟨k, n, s, rfl, _⟩ := h
  exact ⟨k, n, s, rfl, rfl⟩
theorem maxLen_lt : maxLen ≤ 9223372036854775807 := by unfold maxLen; omega
theorem loopRow : LoopOK Tryz.prog G theI codeRow LRow := by
  refine loop_run (lps := []) (entS_ok eVal_ok) noLoops rRow okRow invRow muRow ?_ ?_
  · intro m a w hr hp
    obtain ⟨la, e0, a1, a2⟩ := (head_sy hr (t := 6) (i := 0) (ty := tRow) (by kernel_rfl)).vals
    obtain ⟨l, e1, b1, b2⟩ := (head_own hr (t := 3) (id := 7) (i := 1) (el := 31) (ts := tV) (by kernel_rfl) (by kernel_rfl)).vals
    obtain ⟨i, e2, _⟩ := (head_sy hr (t := 8) (i := 2) (ty := tI) (by kernel_rfl)).i64
    have p1 := hp (lss (k64 0) (.len (.v 1)), false) (by simp [LRow])
    have p2 := hp (eql (.v 2) (k64 0), true) (by simp [LRow])
    rw [d_lss (d_k .i64 0) (d_lenL (d_v e1))] at p1
    rw [d_eql (d_v e2) (d_k .i64 0)] at p2
    simp only [DV.bool.injEq, decide_eq_false_iff_not, decide_eq_true_eq] at p1 p2
    refine ⟨la, l, i, e0, e1, e2, a2, a1, ?_⟩
    omega
  · rintro R hI ⟨la, l, i, e0, e1, e2, hv, hm, h1, h2, h3, h4⟩
    have hmx := maxLen_lt
    have hout : ∀ (R' : Rho) (l' : List (List DV)) (i' : Int), R'.I = theI → R'.ρ 0 = .list la → R'.ρ 1 = .list l' → R'.ρ 2 = .int .i64 i' → LRow.yes.2.2.map (den R') = [.list (l' ++ ((la.take 7).drop i'.toNat).map cutV)] := by
      intro R' l' i' hI' f0 f1 f2
      show [den R' (.app 102 [.v 0, .v 1, .v 2])] = _
      rw [d_app, hI']
      simp only [List.map_cons, List.map_nil, den, f0, f1, f2]
      rfl
    unfold rRow
    refine round_ask (d_lss (d_v e2) (d_lenL (d_v e0))) (fun hlt => ?_) (fun hge => ?_)
    · simp only [decide_eq_true_eq] at hlt
      have hi1 := d_add (R := R) (d_v e2) (d_k .i64 1) (by omega) (by omega)
      have next : ∀ (e : SX) (l' : List (List DV)), den R e = .list (l ++ l') → (l ++ l').length ≤ i.toNat + 1 → (l ++ l').length ≤ 7 → l' ++ ((la.take 7).drop (i + 1).toNat).map cutV = ((la.take 7).drop i.toNat).map cutV → goalRound LRow invRow muRow R (.next [.v 0, e, add (.v 2) (k64 1)]) := by
        intro e l' he g1 g2 heq
        have s0 := sub_get R [.v 0, e, add (.v 2) (k64 1)] 0 rfl (d_v e0)
        have s1 := sub_get R [.v 0, e, add (.v 2) (k64 1)] 1 rfl he
        have s2 := sub_get R [.v 0, e, add (.v 2) (k64 1)] 2 rfl hi1
        refine round_next (fun _ => rfl) ⟨la, l ++ l', i + 1, s0, s1, s2, hv, hm, by omega, by omega, by omega, g2⟩ ?_ ?_
        · simp only [muRow, s0, s2, e0, e2]
          omega
        · rw [hout R l i hI e0 e1 e2, hout (R.sub [.v 0, e, add (.v 2) (k64 1)]) (l ++ l') (i + 1) hI s0 s1 s2, List.append_assoc, heq]
      refine round_knows (l := [_, _]) ?_ ?_
      · intro q hq
        simp only [List.mem_cons, List.not_mem_nil, or_false] at hq
        rcases hq with rfl | rfl
        · rw [d_lss (d_v e2) (d_k .i64 0)]; simp; omega
        · exact len_leL (d_v e1) (by omega)
      refine round_ask (d_lss (d_k .i64 6) (d_v e2)) (fun hz => ?_) (fun hz => ?_)
      · simp only [decide_eq_true_eq] at hz
        refine next (.v 1) [] (by simpa using d_v e1) (by simp; omega) (by simpa using h4) ?_
        have t1 : (la.take 7).drop i.toNat = [] := List.drop_eq_nil_of_le (by rw [List.length_take]; omega)
        have t2 : (la.take 7).drop (i + 1).toNat = [] := List.drop_eq_nil_of_le (by rw [List.length_take]; omega)
        rw [t1, t2]
        rfl
      · simp only [decide_eq_false_iff_not] at hz
        have hin : i.toNat < la.length := by omega
        have hget : la.getD i.toNat [] = la[i.toNat] := getD_lt hin
        obtain ⟨k, n, s, hr, hc⟩ := cutV_is (hv _ (List.getElem_mem hin))
        have c0 : den R (vAt 0) = .int .i64 k := by rw [d_at 0 (d_v e0) (d_v e2), hget, hr]; rfl
        have c1 : den R (vAt 1) = .int .i64 n := by rw [d_at 1 (d_v e0) (d_v e2), hget, hr]; rfl
        have c2 : den R (vAt 2) = .str s := by rw [d_at 2 (d_v e0) (d_v e2), hget, hr]; rfl
        have hargs : [vAt 0, vAt 1, vAt 2].map (den R) = [.int .i64 k, .int .i64 n, .str s] := by simp only [List.map_cons, List.map_nil, c0, c1, c2]
        have hres : ∀ j d, [DV.int .i64 k, .int .i64 n, .str (cutT s)].getD j (.bool false) = d → den R (.at vApp (k64 0) j) = d := fun j d hd => by
          refine d_res (F := Fval) (by rw [hI]; rfl) ?_
          rw [hargs, ← hd]
          rfl
        have hcat : den R vCat = .list (l ++ [cutV la[i.toNat]]) := by
          have hrow : den R (.row [.at vApp (k64 0) 0, .at vApp (k64 0) 1, .at vApp (k64 0) 2]) = .list [[.int .i64 k, .int .i64 n, .str (cutT s)]] := by
            show DV.list [[den R (.at vApp (k64 0) 0), den R (.at vApp (k64 0) 1), den R (.at vApp (k64 0) 2)]] = _
            rw [hres 0 _ rfl, hres 1 _ rfl, hres 2 _ rfl]
            rfl
          rw [hc]
          show catD (den R (.v 1)) (den R (.row _)) = _
          rw [hrow, d_v e1]
          rfl
        refine next vCat [cutV la[i.toNat]] hcat (by simp; omega) (by simp; omega) ?_
        have t1 : (la.take 7).drop i.toNat = la[i.toNat] :: (la.take 7).drop (i.toNat + 1) := by
          have hl : i.toNat < (la.take 7).length := by rw [List.length_take]; omega
          rw [List.drop_eq_getElem_cons hl, List.getElem_take]
        rw [t1, toNat_succ h1]
        rfl
    · simp only [decide_eq_false_iff_not] at hge
      refine round_exit (fun _ => rfl) ?_
      rw [hout R l i hI e0 e1 e2]
      have : (la.take 7).drop i.toNat = [] := List.drop_eq_nil_of_le (by rw [List.length_take]; omega)
      rw [this]
      simp only [List.map_cons, List.map_nil, d_v e1, List.append_nil]
noncomputable def pRow : Pln := .know (lss (k64 0) (.len .emp)) false (.done [[.app 102 [.v 0, .emp, k64 0]]])
theorem kRow : (hasB 12 && checkPlan [.one tRow] (runI theI (entS [eVal]) [(4, LRow)] [some (31, tV)] 12 [.one tRow]) [] pRow) = true := by kernel_rfl
theorem fnRow : FnOK Tryz.prog G 12 [.one tRow] [.one tRow] (fun _ => True) Frow := by
  have hk := kRow
  rw [Bool.and_eq_true] at hk
  refine fn_run (entS_ok eVal_ok) [(4, LRow)] _ (loops1 (by kernel_rfl) loopRow) hk.1 pRow hk.2 ?_
  intro ds h _
  simp only [IsArgs, IsOne] at h
  obtain ⟨_, _, rfl, ⟨d, rfl, hd⟩, rfl⟩ := h
  obtain ⟨la, rfl, _⟩ := hd.vals
  refine goal_know ?_ ?_
  · rfl
  · show Frow _ = _
    simp only [List.map_cons, List.map_nil]
    rw [d_app]
    rfl
theorem eRow_ok : EntsOK Tryz.prog G theI [eRow] := ⟨eFn_ok plainG (pre_true fnRow) (fun _ => rfl) [] (by kernel_rfl), trivial⟩
end Go.Proofs.YtholilpmihngaaaGreatDoor
namespace Go.Proofs.YtholilpmihngaaaGreatDoor
open Go Go.AM
/-! ### the loop of rows -/
noncomputable abbrev wApp : SX := .app 2 [.at (.v 0) (.v 2) 0]
noncomputable abbrev wCat : SX := .cat (.v 1) (.row [.at wApp (k64 0) 0])
noncomputable def rRows : RPln :=
  .ask (lss (.v 2) (.len (.v 0)))
    (knowR [(lss (.v 2) (k64 0), false)]
      (.ask (lss (.v 2) (.v 3))
        (.know (lss (k64 1000000) (.len (.v 1))) false (.next [.v 0, wCat, add (.v 2) (k64 1), .v 3]))
        (.next [.v 0, .v 1, add (.v 2) (k64 1), .v 3])))
    (.exit true [.v 1])
theorem okRows : (LRows.yes.2.1.ok LRows.T LRows.n && LRows.no.2.1.ok LRows.T LRows.n && checkRound LRows (roundI theI (entS [eRow]) [] codeRows) [] rRows) = true := by kernel_rfl
def invRows (R : Rho) : Prop := ∃ la l i n, R.ρ 0 = .list la ∧ R.ρ 1 = .list l ∧ R.ρ 2 = .int .i64 i ∧ R.ρ 3 = .int .i64 n ∧ (∀ r ∈ la, IsR r) ∧ la.length ≤ maxLen ∧ 0 ≤ i ∧ i ≤ la.length ∧ n ≤ 1000 ∧ l.length ≤ 1000 ∧ (l.length : Int) ≤ max 0 n
noncomputable def muRows (R : Rho) : Nat := match R.ρ 0, R.ρ 2 with
  | .list la, .int _ i => la.length - i.toNat
  | _, _ => 0
def rowF (r : List DV) : List DV := [.list (cutR (lD r 0))]
theorem loopRows : LoopOK Tryz.prog G theI codeRows LRows := by
  refine loop_run (lps := []) (entS_ok eRow_ok) noLoops rRows okRows (fun R => invRows R ∧ ∃ la l i, R.ρ 0 = .list la ∧ R.ρ 1 = .list l ∧ R.ρ 2 = .int .i64 i ∧ l.length ≤ i.toNat) muRows ?_ ?_
  · intro m a w hr hp
    obtain ⟨la, e0, a1, a2⟩ := (head_sy hr (t := 8) (i := 0) (ty := tRows) (by kernel_rfl)).rows
    obtain ⟨l, e1, _⟩ := (head_own hr (t := 5) (id := 7) (i := 1) (el := 56) (ts := [tRow]) (by kernel_rfl) (by kernel_rfl)).list
    obtain ⟨i, e2, _⟩ := (head_sy hr (t := 10) (i := 2) (ty := tI) (by kernel_rfl)).i64
    obtain ⟨n, e3, _⟩ := (head_sy hr (t := 1) (i := 3) (ty := tI) (by kernel_rfl)).i64
    have p1 := hp (lss (k64 0) (.len (.v 1)), false) (by simp [LRows])
    have p2 := hp (eql (.v 2) (k64 0), true) (by simp [LRows])
    have p3 := hp (lss (k64 1000) (.v 3), false) (by simp [LRows])
    rw [d_lss (d_k .i64 0) (d_lenL (d_v e1))] at p1
    rw [d_eql (d_v e2) (d_k .i64 0)] at p2
    rw [d_lss (d_k .i64 1000) (d_v e3)] at p3
    simp only [DV.bool.injEq, decide_eq_false_iff_not, decide_eq_true_eq] at p1 p2 p3
    exact ⟨⟨la, l, i, n, e0, e1, e2, e3, a2, a1, by omega, by omega, by omega, by omega, by omega⟩, la, l, i, e0, e1, e2, by omega⟩
  · rintro R hI ⟨⟨la, l, i, n, e0, e1, e2, e3, hv, hm, h1, h2, h3, h4, h5⟩, la', l', i', f0, f1, f2, h6⟩
    rw [e1] at f1
    rw [e2] at f2
    cases f1
    cases f2
    clear f0 la'
    have hmx := maxLen_lt
    have hout : ∀ (R' : Rho) (l' : List (List DV)) (i' : Int), R'.I = theI → R'.ρ 0 = .list la → R'.ρ 1 = .list l' → R'.ρ 2 = .int .i64 i' → R'.ρ 3 = .int .i64 n → LRows.yes.2.2.map (den R') = [.list (l' ++ ((la.take n.toNat).drop i'.toNat).map rowF)] := by
      intro R' l' i' hI' f0 f1 f2 f3
      show [den R' (.app 103 [.v 0, .v 1, .v 2, .v 3])] = _
      rw [d_app, hI']
      simp only [List.map_cons, List.map_nil, den, f0, f1, f2, f3]
      rfl
    unfold rRows
    refine round_ask (d_lss (d_v e2) (d_lenL (d_v e0))) (fun hlt => ?_) (fun hge => ?_)
    · simp only [decide_eq_true_eq] at hlt
      have hi1 := d_add (R := R) (d_v e2) (d_k .i64 1) (by omega) (by omega)
      have next : ∀ (e : SX) (l' : List (List DV)), den R e = .list (l ++ l') → (l ++ l').length ≤ i.toNat + 1 → (((l ++ l').length : Nat) : Int) ≤ max 0 n → l' ++ ((la.take n.toNat).drop (i + 1).toNat).map rowF = ((la.take n.toNat).drop i.toNat).map rowF → goalRound LRows (fun R => invRows R ∧ ∃ la l i, R.ρ 0 = .list la ∧ R.ρ 1 = .list l ∧ R.ρ 2 = .int .i64 i ∧ l.length ≤ i.toNat) muRows R (.next [.v 0, e, add (.v 2) (k64 1), .v 3]) := by
        intro e l' he g1 g2 heq
        have s0 := sub_get R [.v 0, e, add (.v 2) (k64 1), .v 3] 0 rfl (d_v e0)
        have s1 := sub_get R [.v 0, e, add (.v 2) (k64 1), .v 3] 1 rfl he
        have s2 := sub_get R [.v 0, e, add (.v 2) (k64 1), .v 3] 2 rfl hi1
        have s3 := sub_get R [.v 0, e, add (.v 2) (k64 1), .v 3] 3 rfl (d_v e3)
        refine round_next (fun _ => rfl) ⟨⟨la, l ++ l', i + 1, n, s0, s1, s2, s3, hv, hm, by omega, by omega, h3, by omega, g2⟩, la, l ++ l', i + 1, s0, s1, s2, by omega⟩ ?_ ?_
        · simp only [muRows, s0, s2, e0, e2]
          omega
        · rw [hout R l i hI e0 e1 e2 e3, hout (R.sub [.v 0, e, add (.v 2) (k64 1), .v 3]) (l ++ l') (i + 1) hI s0 s1 s2 s3, List.append_assoc, heq]
      refine round_knows (l := [_]) ?_ ?_
      · intro q hq
        simp only [List.mem_cons, List.not_mem_nil, or_false] at hq
        subst hq
        rw [d_lss (d_v e2) (d_k .i64 0)]; simp; omega
      refine round_ask (d_lss (d_v e2) (d_v e3)) (fun hz => ?_) (fun hz => ?_)
      · simp only [decide_eq_true_eq] at hz
        refine round_know (len_leL (d_v e1) (by omega)) ?_
        have hin : i.toNat < la.length := by omega
        have hget : la.getD i.toNat [] = la[i.toNat] := getD_lt hin
        obtain ⟨lv, hr, _⟩ := hv _ (List.getElem_mem hin)
        have c0 : den R (.at (.v 0) (.v 2) 0) = .list lv := by rw [d_at 0 (d_v e0) (d_v e2), hget, hr]; rfl
        have hres : den R (.at wApp (k64 0) 0) = .list (cutR lv) := by
          refine d_res (F := Frow) (by rw [hI]; rfl) ?_
          simp only [List.map_cons, List.map_nil, c0]
          rfl
        have hf : rowF la[i.toNat] = [.list (cutR lv)] := by rw [hr]; rfl
        have hcat : den R wCat = .list (l ++ [rowF la[i.toNat]]) := by
          rw [hf]
          show catD (den R (.v 1)) (DV.list [[den R (.at wApp (k64 0) 0)]]) = _
          rw [hres, d_v e1]
          rfl
        refine next wCat [rowF la[i.toNat]] hcat (by simp; omega) (by simp; omega) ?_
        have t1 : (la.take n.toNat).drop i.toNat = la[i.toNat] :: (la.take n.toNat).drop (i.toNat + 1) := by
          have hl : i.toNat < (la.take n.toNat).length := by rw [List.length_take]; omega
          rw [List.drop_eq_getElem_cons hl, List.getElem_take]
        rw [t1, toNat_succ h1]
        rfl
      · simp only [decide_eq_false_iff_not] at hz
        refine next (.v 1) [] (by simpa using d_v e1) (by simp; omega) (by simpa using h5) ?_
        have t1 : (la.take n.toNat).drop i.toNat = [] := List.drop_eq_nil_of_le (by rw [List.length_take]; omega)
        have t2 : (la.take n.toNat).drop (i + 1).toNat = [] := List.drop_eq_nil_of_le (by rw [List.length_take]; omega)
        rw [t1, t2]
        rfl
    · simp only [decide_eq_false_iff_not] at hge
      refine round_exit (fun _ => rfl) ?_
      rw [hout R l i hI e0 e1 e2 e3]
      have : (la.take n.toNat).drop i.toNat = [] := List.drop_eq_nil_of_le (by rw [List.length_take]; omega)
      rw [this]
      simp only [List.map_cons, List.map_nil, d_v e1, List.append_nil]
noncomputable def pRows : Pln := .know (lss (k64 0) (.len .emp)) false (.know (lss (k64 1000) (.v 1)) false (.done [[.app 103 [.v 0, .emp, k64 0, .v 1]]]))
theorem kRows : (hasB 5 && checkPlan [.one tRows] (runI theI (entS [eRow]) [(4, LRows)] [some (56, [tRow])] 5 [.one tRows, .one tI]) [] pRows) = true := by kernel_rfl
theorem fnRows : FnOK Tryz.prog G 5 [.one tRows, .one tI] [.one tRows] (fun ds => ∀ p ∈ [(lss (k64 1000) (.v 1), false)], den (rhoOf theI ds) p.1 = .bool p.2) Frows := by
  have hk := kRows
  rw [Bool.and_eq_true] at hk
  refine fn_run (entS_ok eRow_ok) [(4, LRows)] _ (loops1 (by kernel_rfl) loopRows) hk.1 pRows hk.2 ?_
  intro ds h hpre
  simp only [IsArgs, IsOne] at h
  obtain ⟨_, _, rfl, ⟨d, rfl, hd⟩, _, _, rfl, ⟨e, rfl, he⟩, rfl⟩ := h
  obtain ⟨la, rfl, _⟩ := hd.rows
  refine goal_know rfl (goal_know (hpre (lss (k64 1000) (.v 1), false) (by simp)) ?_)
  show Frows _ = _
  simp only [List.map_cons, List.map_nil]
  rw [d_app]
  rfl
theorem eRows_ok : EntsOK Tryz.prog G theI [eRows] := ⟨eFn_ok plainG fnRows (fun _ => rfl) [] (by kernel_rfl), trivial⟩
end Go.Proofs.YtholilpmihngaaaGreatDoor
namespace Go.Proofs.YtholilpmihngaaaGreatDoor
open Go Go.AM
/-! ### truths -/
theorem ii_of {ds : List (List DV)} (h : IsArgs [.one tI, .one tI] ds) : ∃ a b, ds = [[.int .i64 a], [.int .i64 b]] ∧ In64 a ∧ In64 b := by
  simp only [IsArgs, IsOne] at h
  obtain ⟨_, _, rfl, ⟨d1, rfl, h1⟩, _, _, rfl, ⟨d2, rfl, h2⟩, rfl⟩ := h
  obtain ⟨a, rfl, a1, a2⟩ := h1.i64
  obtain ⟨b, rfl, b1, b2⟩ := h2.i64
  exact ⟨a, b, rfl, ⟨a1, a2⟩, ⟨b1, b2⟩⟩
theorem i_of {ds : List (List DV)} (h : IsArgs [.one tI] ds) : ∃ a, ds = [[.int .i64 a]] ∧ In64 a := by
  simp only [IsArgs, IsOne] at h
  obtain ⟨_, _, rfl, ⟨d1, rfl, h1⟩, rfl⟩ := h
  obtain ⟨a, rfl, a1, a2⟩ := h1.i64
  exact ⟨a, rfl, ⟨a1, a2⟩⟩
noncomputable def pAnd : Pln :=
  (.ask (.bin .eql (.v 0) (.ki .i64 (.ofNat 0)))
    (.ask (.bin .eql (.v 1) (.ki .i64 (.ofNat 0)))
      (.done [[(.ki .i64 (.ofNat 0))]])
      (.ask (.bin .eql (.v 1) (.ki .i64 (.ofNat 1)))
        (.done [[(.ki .i64 (.ofNat 0))]])
        (.done [[(.ki .i64 (.ofNat 0))]])))
    (.ask (.bin .eql (.v 0) (.ki .i64 (.ofNat 1)))
      (.ask (.bin .eql (.v 1) (.ki .i64 (.ofNat 0)))
        (.done [[(.ki .i64 (.ofNat 0))]])
        (.ask (.bin .eql (.v 1) (.ki .i64 (.ofNat 1)))
          (.ask (.bin .eql (.v 0) (.ki .i64 (.ofNat 2)))
            (.done [[(.ki .i64 (.ofNat 2))]])
            (.ask (.bin .eql (.v 1) (.ki .i64 (.ofNat 2)))
              (.done [[(.ki .i64 (.ofNat 2))]])
              (.done [[(.ki .i64 (.ofNat 1))]])))
          (.ask (.bin .eql (.v 0) (.ki .i64 (.ofNat 2)))
            (.done [[(.ki .i64 (.ofNat 2))]])
            (.done [[(.ki .i64 (.ofNat 2))]]))))
      (.ask (.bin .eql (.v 1) (.ki .i64 (.ofNat 0)))
        (.done [[(.ki .i64 (.ofNat 0))]])
        (.ask (.bin .eql (.v 1) (.ki .i64 (.ofNat 1)))
          (.done [[(.ki .i64 (.ofNat 2))]])
          (.done [[(.ki .i64 (.ofNat 2))]])))))
noncomputable def pNot : Pln :=
  (.ask (.bin .eql (.v 0) (.ki .i64 (.ofNat 0)))
    (.ask (.bin .eql (.v 0) (.ki .i64 (.ofNat 2)))
      (.done [[(.ki .i64 (.ofNat 2))]])
      (.done [[(.bin .sub (.ki .i64 (.ofNat 1)) (.v 0))]]))
    (.ask (.bin .eql (.v 0) (.ki .i64 (.ofNat 1)))
      (.ask (.bin .eql (.v 0) (.ki .i64 (.ofNat 2)))
        (.done [[(.ki .i64 (.ofNat 2))]])
        (.done [[(.bin .sub (.ki .i64 (.ofNat 1)) (.v 0))]]))
      (.done [[(.ki .i64 (.ofNat 2))]])))
noncomputable def pOr : Pln :=
  (.done [[(.at (.app 18 [(.at (.app 16 [(.at (.app 18 [(.v 0)]) (.ki .i64 (.ofNat 0)) 0), (.at (.app 18 [(.v 1)]) (.ki .i64 (.ofNat 0)) 0)]) (.ki .i64 (.ofNat 0)) 0)]) (.ki .i64 (.ofNat 0)) 0)]])
noncomputable def pRand : Pln :=
  (.ask (.bin .eql (.v 0) (.ki .i64 (.ofNat 0)))
    (.done [[(.ki .i64 (.ofNat 0))]])
    (.ask (.bin .eql (.v 0) (.ki .i64 (.ofNat 1)))
      (.ask (.bin .eql (.v 1) (.ki .i64 (.ofNat 0)))
        (.done [[(.ki .i64 (.ofNat 0))]])
        (.ask (.bin .eql (.v 1) (.ki .i64 (.ofNat 1)))
          (.ask (.bin .eql (.v 0) (.ki .i64 (.ofNat 2)))
            (.done [[(.ki .i64 (.ofNat 2))]])
            (.ask (.bin .eql (.v 1) (.ki .i64 (.ofNat 2)))
              (.done [[(.ki .i64 (.ofNat 2))]])
              (.done [[(.ki .i64 (.ofNat 1))]])))
          (.ask (.bin .eql (.v 0) (.ki .i64 (.ofNat 2)))
            (.done [[(.ki .i64 (.ofNat 2))]])
            (.done [[(.ki .i64 (.ofNat 2))]]))))
      (.ask (.bin .eql (.v 1) (.ki .i64 (.ofNat 0)))
        (.done [[(.ki .i64 (.ofNat 0))]])
        (.ask (.bin .eql (.v 1) (.ki .i64 (.ofNat 1)))
          (.done [[(.ki .i64 (.ofNat 2))]])
          (.done [[(.ki .i64 (.ofNat 2))]])))))
noncomputable def pRnot : Pln :=
  (.ask (.bin .eql (.v 0) (.ki .i64 (.ofNat 0)))
    (.ask (.bin .eql (.v 0) (.ki .i64 (.ofNat 2)))
      (.done [[(.ki .i64 (.ofNat 2))]])
      (.done [[(.bin .sub (.ki .i64 (.ofNat 1)) (.v 0))]]))
    (.ask (.bin .eql (.v 0) (.ki .i64 (.ofNat 1)))
      (.ask (.bin .eql (.v 0) (.ki .i64 (.ofNat 2)))
        (.done [[(.ki .i64 (.ofNat 2))]])
        (.done [[(.bin .sub (.ki .i64 (.ofNat 1)) (.v 0))]]))
      (.done [[(.ki .i64 (.ofNat 2))]])))
noncomputable def pRor : Pln :=
  (.ask (.bin .eql (.v 0) (.ki .i64 (.ofNat 0)))
    (.ask (.bin .eql (.v 0) (.ki .i64 (.ofNat 1)))
      (.done [[(.ki .i64 (.ofNat 1))]])
      (.ask (.bin .eql (.v 1) (.ki .i64 (.ofNat 0)))
        (.ask (.bin .eql (.v 1) (.ki .i64 (.ofNat 1)))
          (.done [[(.ki .i64 (.ofNat 1))]])
          (.ask (.bin .eql (.v 0) (.ki .i64 (.ofNat 2)))
            (.done [[(.ki .i64 (.ofNat 2))]])
            (.ask (.bin .eql (.v 1) (.ki .i64 (.ofNat 2)))
              (.done [[(.ki .i64 (.ofNat 2))]])
              (.done [[(.ki .i64 (.ofNat 0))]]))))
        (.ask (.bin .eql (.v 1) (.ki .i64 (.ofNat 1)))
          (.done [[(.ki .i64 (.ofNat 1))]])
          (.ask (.bin .eql (.v 0) (.ki .i64 (.ofNat 2)))
            (.done [[(.ki .i64 (.ofNat 2))]])
            (.done [[(.ki .i64 (.ofNat 2))]])))))
    (.ask (.bin .eql (.v 0) (.ki .i64 (.ofNat 1)))
      (.done [[(.ki .i64 (.ofNat 1))]])
      (.ask (.bin .eql (.v 1) (.ki .i64 (.ofNat 0)))
        (.ask (.bin .eql (.v 1) (.ki .i64 (.ofNat 1)))
          (.done [[(.ki .i64 (.ofNat 1))]])
          (.done [[(.ki .i64 (.ofNat 2))]]))
        (.ask (.bin .eql (.v 1) (.ki .i64 (.ofNat 1)))
          (.done [[(.ki .i64 (.ofNat 1))]])
          (.done [[(.ki .i64 (.ofNat 2))]])))))
theorem kAnd : (hasB 137 && checkPlan [.one tI] (runI theI (entS []) [] [] 137 [.one tI, .one tI]) [] pAnd) = true := by kernel_rfl
theorem fnAnd : FnOK Tryz.prog G 137 [.one tI, .one tI] [.one tI] (fun _ => True) Fand := by
  have hk := kAnd
  rw [Bool.and_eq_true] at hk
  refine fn_run (entS_ok (show EntsOK Tryz.prog G theI [] from trivial)) [] [] noLoops hk.1 pAnd hk.2 ?_
  intro ds h _
  obtain ⟨a, b, rfl, ha, hb⟩ := ii_of h
  have e0 : den (rhoOf theI [[DV.int .i64 a], [.int .i64 b]].flatten) (.v 0) = .int .i64 a := rfl
  have e1 : den (rhoOf theI [[DV.int .i64 a], [.int .i64 b]].flatten) (.v 1) = .int .i64 b := rfl
  generalize rhoOf theI [[DV.int .i64 a], [.int .i64 b]].flatten = R at e0 e1
  simp only [pAnd, goalPlan, d_eql e0 (d_k .i64 0), d_eql e0 (d_k .i64 1), d_eql e0 (d_k .i64 2), d_eql e1 (d_k .i64 0), d_eql e1 (d_k .i64 1), d_eql e1 (d_k .i64 2), DV.bool.injEq, decide_eq_true_eq, decide_eq_false_iff_not, exists_eq', true_and]
  repeat' (first | (intro _) | (apply And.intro))
  all_goals simp_all [Fand, andZ, fairZ, den, iD, binD]

theorem kRand : (hasB 46 && checkPlan [.one tI] (runI theI (entS []) [] [] 46 [.one tI, .one tI]) [] pRand) = true := by kernel_rfl
theorem fnRand : FnOK Tryz.prog G 46 [.one tI, .one tI] [.one tI] (fun _ => True) Fand := by
  have hk := kRand
  rw [Bool.and_eq_true] at hk
  refine fn_run (entS_ok (show EntsOK Tryz.prog G theI [] from trivial)) [] [] noLoops hk.1 pRand hk.2 ?_
  intro ds h _
  obtain ⟨a, b, rfl, ha, hb⟩ := ii_of h
  have e0 : den (rhoOf theI [[DV.int .i64 a], [.int .i64 b]].flatten) (.v 0) = .int .i64 a := rfl
  have e1 : den (rhoOf theI [[DV.int .i64 a], [.int .i64 b]].flatten) (.v 1) = .int .i64 b := rfl
  generalize rhoOf theI [[DV.int .i64 a], [.int .i64 b]].flatten = R at e0 e1
  simp only [pRand, goalPlan, d_eql e0 (d_k .i64 0), d_eql e0 (d_k .i64 1), d_eql e0 (d_k .i64 2), d_eql e1 (d_k .i64 0), d_eql e1 (d_k .i64 1), d_eql e1 (d_k .i64 2), DV.bool.injEq, decide_eq_true_eq, decide_eq_false_iff_not, exists_eq', true_and]
  repeat' (first | (intro _) | (apply And.intro))
  all_goals simp_all [Fand, andZ, fairZ, den, iD, binD]

theorem kRor : (hasB 47 && checkPlan [.one tI] (runI theI (entS []) [] [] 47 [.one tI, .one tI]) [] pRor) = true := by kernel_rfl
theorem fnRor : FnOK Tryz.prog G 47 [.one tI, .one tI] [.one tI] (fun _ => True) For := by
  have hk := kRor
  rw [Bool.and_eq_true] at hk
  refine fn_run (entS_ok (show EntsOK Tryz.prog G theI [] from trivial)) [] [] noLoops hk.1 pRor hk.2 ?_
  intro ds h _
  obtain ⟨a, b, rfl, ha, hb⟩ := ii_of h
  have e0 : den (rhoOf theI [[DV.int .i64 a], [.int .i64 b]].flatten) (.v 0) = .int .i64 a := rfl
  have e1 : den (rhoOf theI [[DV.int .i64 a], [.int .i64 b]].flatten) (.v 1) = .int .i64 b := rfl
  generalize rhoOf theI [[DV.int .i64 a], [.int .i64 b]].flatten = R at e0 e1
  simp only [pRor, goalPlan, d_eql e0 (d_k .i64 0), d_eql e0 (d_k .i64 1), d_eql e0 (d_k .i64 2), d_eql e1 (d_k .i64 0), d_eql e1 (d_k .i64 1), d_eql e1 (d_k .i64 2), DV.bool.injEq, decide_eq_true_eq, decide_eq_false_iff_not, exists_eq', true_and]
  repeat' (first | (intro _) | (apply And.intro))
  all_goals simp_all [For, orZ, fairZ, den, iD, binD]

theorem kNot : (hasB 131 && checkPlan [.one tI] (runI theI (entS []) [] [] 131 [.one tI]) [] pNot) = true := by kernel_rfl
theorem fnNot : FnOK Tryz.prog G 131 [.one tI] [.one tI] (fun _ => True) Fnot := by
  have hk := kNot
  rw [Bool.and_eq_true] at hk
  refine fn_run (entS_ok (show EntsOK Tryz.prog G theI [] from trivial)) [] [] noLoops hk.1 pNot hk.2 ?_
  intro ds h _
  obtain ⟨a, rfl, ha⟩ := i_of h
  have e0 : den (rhoOf theI [[DV.int .i64 a]].flatten) (.v 0) = .int .i64 a := rfl
  generalize rhoOf theI [[DV.int .i64 a]].flatten = R at e0
  simp only [pNot, goalPlan, d_eql e0 (d_k .i64 0), d_eql e0 (d_k .i64 1), d_eql e0 (d_k .i64 2), DV.bool.injEq, decide_eq_true_eq, decide_eq_false_iff_not, exists_eq', true_and]
  repeat' (first | (intro _) | (apply And.intro))
  all_goals simp_all [Fnot, notZ, fairZ, wr64, den, iD, binD]

theorem kRnot : (hasB 43 && checkPlan [.one tI] (runI theI (entS []) [] [] 43 [.one tI]) [] pRnot) = true := by kernel_rfl
theorem fnRnot : FnOK Tryz.prog G 43 [.one tI] [.one tI] (fun _ => True) Fnot := by
  have hk := kRnot
  rw [Bool.and_eq_true] at hk
  refine fn_run (entS_ok (show EntsOK Tryz.prog G theI [] from trivial)) [] [] noLoops hk.1 pRnot hk.2 ?_
  intro ds h _
  obtain ⟨a, rfl, ha⟩ := i_of h
  have e0 : den (rhoOf theI [[DV.int .i64 a]].flatten) (.v 0) = .int .i64 a := rfl
  generalize rhoOf theI [[DV.int .i64 a]].flatten = R at e0
  simp only [pRnot, goalPlan, d_eql e0 (d_k .i64 0), d_eql e0 (d_k .i64 1), d_eql e0 (d_k .i64 2), DV.bool.injEq, decide_eq_true_eq, decide_eq_false_iff_not, exists_eq', true_and]
  repeat' (first | (intro _) | (apply And.intro))
  all_goals simp_all [Fnot, notZ, fairZ, wr64, den, iD, binD]

end Go.Proofs.YtholilpmihngaaaGreatDoor
namespace Go.Proofs.YtholilpmihngaaaGreatDoor
open Go Go.AM
/-! ### ops that reckon -/
theorem k0 : (Int.ofNat 0) = (0 : Int) := rfl
theorem k1 : (Int.ofNat 1) = (1 : Int) := rfl
theorem km1 : (Int.negSucc 0) = (-1 : Int) := rfl
theorem kmin : (Int.negSucc 9223372036854775807) = (-9223372036854775808 : Int) := rfl
noncomputable def pAdd : Pln :=
  (.ask (.bin .lss (.bin .and (.bin .xor (.v 0) (.bin .add (.v 0) (.v 1))) (.bin .xor (.v 1) (.bin .add (.v 0) (.v 1)))) (.ki .i64 (.ofNat 0)))
    (.done [[(.ki .i64 (.ofNat 0))], [(.ki .i64 (.ofNat 151))]])
    (.done [[(.bin .add (.v 0) (.v 1))], [(.ki .i64 (.ofNat 0))]]))
noncomputable def pSub : Pln :=
  (.ask (.bin .lss (.bin .and (.bin .xor (.v 0) (.v 1)) (.bin .xor (.v 0) (.bin .sub (.v 0) (.v 1)))) (.ki .i64 (.ofNat 0)))
    (.done [[(.ki .i64 (.ofNat 0))], [(.ki .i64 (.ofNat 151))]])
    (.done [[(.bin .sub (.v 0) (.v 1))], [(.ki .i64 (.ofNat 0))]]))
noncomputable def pMul : Pln :=
  (.ask (.bin .eql (.v 0) (.ki .i64 (.ofNat 0)))
    (.done [[(.bin .mul (.v 0) (.v 1))], [(.ki .i64 (.ofNat 0))]])
    (.ask (.bin .eql (.bin .quo (.bin .mul (.v 0) (.v 1)) (.v 0)) (.v 1))
      (.ask (.bin .eql (.v 0) (.ki .i64 (.negSucc 0)))
        (.ask (.bin .eql (.v 1) (.ki .i64 (.negSucc 9223372036854775807)))
          (.done [[(.ki .i64 (.ofNat 0))], [(.ki .i64 (.ofNat 151))]])
          (.done [[(.bin .mul (.v 0) (.v 1))], [(.ki .i64 (.ofNat 0))]]))
        (.done [[(.bin .mul (.v 0) (.v 1))], [(.ki .i64 (.ofNat 0))]]))
      (.done [[(.ki .i64 (.ofNat 0))], [(.ki .i64 (.ofNat 151))]])))
noncomputable def pDiv : Pln :=
  (.ask (.bin .eql (.v 1) (.ki .i64 (.ofNat 0)))
    (.done [[(.ki .i64 (.ofNat 0))], [(.ki .i64 (.ofNat 152))]])
    (.ask (.bin .eql (.v 1) (.ki .i64 (.negSucc 0)))
      (.ask (.bin .lss (.bin .and (.bin .xor (.ki .i64 (.ofNat 0)) (.v 0)) (.bin .xor (.ki .i64 (.ofNat 0)) (.bin .sub (.ki .i64 (.ofNat 0)) (.v 0)))) (.ki .i64 (.ofNat 0)))
        (.done [[(.ki .i64 (.ofNat 0))], [(.ki .i64 (.ofNat 151))]])
        (.done [[(.bin .sub (.ki .i64 (.ofNat 0)) (.v 0))], [(.ki .i64 (.ofNat 0))]]))
      (.done [[(.bin .quo (.v 0) (.v 1))], [(.ki .i64 (.ofNat 0))]])))
noncomputable def pRem : Pln :=
  (.ask (.bin .eql (.v 1) (.ki .i64 (.ofNat 0)))
    (.done [[(.ki .i64 (.ofNat 0))], [(.ki .i64 (.ofNat 152))]])
    (.ask (.bin .eql (.v 1) (.ki .i64 (.negSucc 0)))
      (.done [[(.ki .i64 (.ofNat 0))], [(.ki .i64 (.ofNat 0))]])
      (.done [[(.bin .rem (.v 0) (.v 1))], [(.ki .i64 (.ofNat 0))]])))
theorem kAdd : (hasB 328 && checkPlan [.one tI, .one tI] (runI theI (entS []) [] [] 328 [.one tI, .one tI]) [] pAdd) = true := by kernel_rfl
theorem fnAdd : FnOK Tryz.prog G 328 [.one tI, .one tI] [.one tI, .one tI] (fun _ => True) (Frk 1) := by
  have hk := kAdd
  rw [Bool.and_eq_true] at hk
  refine fn_run (entS_ok (show EntsOK Tryz.prog G theI [] from trivial)) [] [] noLoops hk.1 pAdd hk.2 ?_
  intro ds h _
  obtain ⟨a, b, rfl, ha, hb⟩ := ii_of h
  have e0 : (rhoOf theI [[DV.int .i64 a], [.int .i64 b]].flatten).ρ 0 = .int .i64 a := rfl
  have e1 : (rhoOf theI [[DV.int .i64 a], [.int .i64 b]].flatten).ρ 1 = .int .i64 b := rfl
  generalize rhoOf theI [[DV.int .i64 a], [.int .i64 b]].flatten = R at e0 e1
  have ho := (add_over ha hb).symm
  simp only [pAdd, goalPlan, den, e0, e1, binD, DV.bool.injEq, decide_eq_true_eq, decide_eq_false_iff_not, exists_eq', true_and, decide_true, Bool.true_and, k0, k1, km1, kmin]
  repeat' (first | (intro _) | (apply And.intro))
  all_goals simp_all [Frk, reckZ, iD, den, binD]

theorem kSub : (hasB 329 && checkPlan [.one tI, .one tI] (runI theI (entS []) [] [] 329 [.one tI, .one tI]) [] pSub) = true := by kernel_rfl
theorem fnSub : FnOK Tryz.prog G 329 [.one tI, .one tI] [.one tI, .one tI] (fun _ => True) (Frk 2) := by
  have hk := kSub
  rw [Bool.and_eq_true] at hk
  refine fn_run (entS_ok (show EntsOK Tryz.prog G theI [] from trivial)) [] [] noLoops hk.1 pSub hk.2 ?_
  intro ds h _
  obtain ⟨a, b, rfl, ha, hb⟩ := ii_of h
  have e0 : (rhoOf theI [[DV.int .i64 a], [.int .i64 b]].flatten).ρ 0 = .int .i64 a := rfl
  have e1 : (rhoOf theI [[DV.int .i64 a], [.int .i64 b]].flatten).ρ 1 = .int .i64 b := rfl
  generalize rhoOf theI [[DV.int .i64 a], [.int .i64 b]].flatten = R at e0 e1
  have ho := (sub_over ha hb).symm
  simp only [pSub, goalPlan, den, e0, e1, binD, DV.bool.injEq, decide_eq_true_eq, decide_eq_false_iff_not, exists_eq', true_and, decide_true, Bool.true_and, k0, k1, km1, kmin]
  repeat' (first | (intro _) | (apply And.intro))
  all_goals simp_all [Frk, reckZ, iD, den, binD]

theorem kMul : (hasB 330 && checkPlan [.one tI, .one tI] (runI theI (entS []) [] [] 330 [.one tI, .one tI]) [] pMul) = true := by kernel_rfl
theorem fnMul : FnOK Tryz.prog G 330 [.one tI, .one tI] [.one tI, .one tI] (fun _ => True) (Frk 3) := by
  have hk := kMul
  rw [Bool.and_eq_true] at hk
  refine fn_run (entS_ok (show EntsOK Tryz.prog G theI [] from trivial)) [] [] noLoops hk.1 pMul hk.2 ?_
  intro ds h _
  obtain ⟨a, b, rfl, ha, hb⟩ := ii_of h
  have e0 : (rhoOf theI [[DV.int .i64 a], [.int .i64 b]].flatten).ρ 0 = .int .i64 a := rfl
  have e1 : (rhoOf theI [[DV.int .i64 a], [.int .i64 b]].flatten).ρ 1 = .int .i64 b := rfl
  generalize rhoOf theI [[DV.int .i64 a], [.int .i64 b]].flatten = R at e0 e1
  have ho := (mul_over ha hb).symm
  simp only [pMul, goalPlan, den, e0, e1, binD, DV.bool.injEq, decide_eq_true_eq, decide_eq_false_iff_not, exists_eq', true_and, decide_true, Bool.true_and, k0, k1, km1, kmin]
  repeat' (first | (intro _) | (apply And.intro))
  all_goals simp_all [Frk, reckZ, iD, den, binD]

theorem kDiv : (hasB 331 && checkPlan [.one tI, .one tI] (runI theI (entS []) [] [] 331 [.one tI, .one tI]) [] pDiv) = true := by kernel_rfl
theorem fnDiv : FnOK Tryz.prog G 331 [.one tI, .one tI] [.one tI, .one tI] (fun _ => True) (Frk 4) := by
  have hk := kDiv
  rw [Bool.and_eq_true] at hk
  refine fn_run (entS_ok (show EntsOK Tryz.prog G theI [] from trivial)) [] [] noLoops hk.1 pDiv hk.2 ?_
  intro ds h _
  obtain ⟨a, b, rfl, ha, hb⟩ := ii_of h
  have e0 : (rhoOf theI [[DV.int .i64 a], [.int .i64 b]].flatten).ρ 0 = .int .i64 a := rfl
  have e1 : (rhoOf theI [[DV.int .i64 a], [.int .i64 b]].flatten).ρ 1 = .int .i64 b := rfl
  generalize rhoOf theI [[DV.int .i64 a], [.int .i64 b]].flatten = R at e0 e1
  have ho := (sub_over (show In64 0 by decide) ha).symm
  have hd : b ≠ 0 → b ≠ -1 → In64 (a.tdiv b) := div_in ha
  have hw : b ≠ 0 → b ≠ -1 → fit (a.tdiv b) = (IntKind.wrap .i64 (a.tdiv b), 0) := fun h0 h1 => by unfold fit; rw [if_pos (hd h0 h1), wrap_in64 (hd h0 h1)]
  simp only [pDiv, goalPlan, den, e0, e1, binD, DV.bool.injEq, decide_eq_true_eq, decide_eq_false_iff_not, exists_eq', true_and, decide_true, Bool.true_and, k0, k1, km1, kmin]
  repeat' (first | (intro _) | (apply And.intro))
  all_goals simp_all [Frk, reckZ, tdiv_m1, iD, den, binD]
  split
  · omega
  · exact ⟨rfl, rfl⟩
theorem kRem : (hasB 332 && checkPlan [.one tI, .one tI] (runI theI (entS []) [] [] 332 [.one tI, .one tI]) [] pRem) = true := by kernel_rfl
theorem fnRem : FnOK Tryz.prog G 332 [.one tI, .one tI] [.one tI, .one tI] (fun _ => True) (Frk 5) := by
  have hk := kRem
  rw [Bool.and_eq_true] at hk
  refine fn_run (entS_ok (show EntsOK Tryz.prog G theI [] from trivial)) [] [] noLoops hk.1 pRem hk.2 ?_
  intro ds h _
  obtain ⟨a, b, rfl, ha, hb⟩ := ii_of h
  have e0 : (rhoOf theI [[DV.int .i64 a], [.int .i64 b]].flatten).ρ 0 = .int .i64 a := rfl
  have e1 : (rhoOf theI [[DV.int .i64 a], [.int .i64 b]].flatten).ρ 1 = .int .i64 b := rfl
  generalize rhoOf theI [[DV.int .i64 a], [.int .i64 b]].flatten = R at e0 e1
  have hw : b ≠ 0 → fit (a.tmod b) = (a.tmod b, 0) := fun h0 => by unfold fit; rw [if_pos (rem_in hb h0)]
  simp only [pRem, goalPlan, den, e0, e1, binD, DV.bool.injEq, decide_eq_true_eq, decide_eq_false_iff_not, exists_eq', true_and, decide_true, Bool.true_and, k0, k1, km1, kmin]
  repeat' (first | (intro _) | (apply And.intro))
  all_goals simp_all [Frk, reckZ, tmod_m1, iD, den, binD]

end Go.Proofs.YtholilpmihngaaaGreatDoor
