/-
  A part of the proof of IdealChecks (the machine on named data, and the contracts of the functions that the law reaches): Vf1 Vs I0 I1 I1b.
-/
import Derived.KernelRfl
import Derived.Test.YtbhfnmeojhpgbaaGreatDoorGa
import Derived.Test.YtbhfnmeojhpgbaaGreatDoorAmH
set_option linter.all false
set_option linter.unusedVariables false
set_option linter.unusedSimpArgs false
set_option linter.unusedSectionVars false
namespace Go.Proofs.YtbhfnmeojhpgbaaGreatDoor
open Go Go.AM
theorem hmix : Tryz.prog.follows .mixedOrders = true := by kernel_rfl
theorem namesRun : Tryz.prog.funcs.toList.all (fun fn => !(fn.name == "runtime.NumGoroutine")) = true := by kernel_rfl
theorem hNum (f : FuncId) (fn : Func) (h : Tryz.prog.funcs[f]? = some fn) : (fn.name == "runtime.NumGoroutine") = false := by
  have := List.all_eq_true.1 namesRun fn (List.mem_iff_getElem?.2 ⟨f, by simpa using h⟩)
  simpa using this
noncomputable def isSc : AV → Bool
  | .sc _ => true
  | _ => false
theorem isSc_ok {cs : List AV} (h : cs.all isSc = true) : ∀ c ∈ cs, ∃ u, c = AV.sc u := by
  intro c hc
  have := List.all_eq_true.1 h c hc
  unfold isSc at this
  split at this
  · exact ⟨_, rfl⟩
  · cases this
theorem plainG : PlainG G := by
  intro g cs h
  unfold G at h
  split at h <;> cases h <;> exact isSc_ok (by kernel_rfl)
noncomputable def hasB (f : FuncId) : Bool := match Tryz.prog.funcs[f]? with
  | some fn => !fn.body.isNone && Bool.not (Nat.beq f yid)
  | none => false
theorem hasB_ok {f : FuncId} (h : hasB f = true) : HasBody Tryz.prog f := by
  unfold hasB at h
  split at h
  · rename_i fn e
    simp only [Bool.and_eq_true, Bool.not_eq_true'] at h
    exact ⟨fn, e, h.1, hNum f fn e, Nat.ne_of_beq_eq_false h.2⟩
  · cases h
theorem noSpec_ok (O : Orc) : SpecOK Tryz.prog G noSpec := fun f sp h => by simp [noSpec] at h
theorem sameF {f : FuncId} {X : CallF} : (fun g args h => if g = f then X g args h else none) = (fun g args h => if g = f then X f args h else none) := by
  funext g args h
  by_cases e : g = f
  · rw [if_pos e, if_pos e, e]
  · rw [if_neg e, if_neg e]
/-! ## Contracts of the seat's functions -/
/-- The loops of a function, by their first region. -/
noncomputable def lpsOf (l : List (Nat × LoopSp)) (k : Nat) : List LoopSp := match l with
  | [] => []
  | (i, L) :: l => match Nat.beq i k with
    | true => L :: lpsOf l k
    | false => lpsOf l k
noncomputable def bodyOf (f : FuncId) : Code := match Tryz.prog.funcs[f]? with
  | some fn => fn.body.getD .skip
  | none => .skip
noncomputable def loopAt (f k : Nat) : Code := (loopsIn (bodyOf f)).getD k .skip
/-- What each loop of a function is, where it has a contract. -/
def LoopsAre (I : Nat → List DV → DV) (f : FuncId) (lps : List (Nat × LoopSp)) : Prop := LoopsOK Tryz.prog G I (lpsOf lps) (bodyOf f)
theorem lpsOf_mem : ∀ {l : List (Nat × LoopSp)} {k : Nat} {L : LoopSp}, L ∈ lpsOf l k → (k, L) ∈ l
  | (i, M) :: l, k, L, h => by
    unfold lpsOf at h
    split at h
    · rename_i e
      rcases List.mem_cons.1 h with rfl | h
      · rw [Nat.eq_of_beq_eq_true e]
        simp
      · exact List.mem_cons_of_mem _ (lpsOf_mem h)
    · exact List.mem_cons_of_mem _ (lpsOf_mem h)
theorem noLoops {I : Nat → List DV → DV} {c : Code} : LoopsOK Tryz.prog G I (lpsOf []) c := fun _ _ _ h => by simp [lpsOf] at h
theorem loops1 {I : Nat → List DV → DV} {f k : Nat} {c : Code} {L : LoopSp} (hc : loopsIn (bodyOf f) = [c]) (hL : LoopOK Tryz.prog G I c L) : LoopsAre I f [(k, L)] := by
  intro B hB M hM
  have h1 := lpsOf_mem hM
  simp only [List.mem_cons, List.not_mem_nil, or_false, Prod.mk.injEq] at h1
  obtain ⟨_, rfl⟩ := h1
  rw [hc] at hB
  simp only [List.mem_cons, List.not_mem_nil, or_false] at hB
  rw [hB]
  exact hL
abbrev Frz := List (Option (TypeId × List Ty))
/-- Loops of inner functions that have contracts. -/
abbrev SubL := List (FuncId × List (Nat × LoopSp))
noncomputable def subOf (l : SubL) (f : FuncId) : List (Nat → List LoopSp) := match l with
  | [] => []
  | (g, x) :: l => match Nat.beq g f with
    | true => lpsOf x :: subOf l f
    | false => subOf l f
def SubsOK (I : Nat → List DV → DV) : SubL → Prop
  | [] => True
  | x :: l => LoopsAre I x.1 x.2 ∧ SubsOK I l
theorem subs_ok {I : Nat → List DV → DV} : ∀ {l : SubL}, SubsOK I l → SubOK Tryz.prog G I (subOf l)
  | [], _ => fun f lps h => by simp [subOf] at h
  | (g, x) :: l, hs => fun f lps h => by
    intro fn c hf hc
    unfold subOf at h
    split at h
    · rename_i e
      obtain rfl := Nat.eq_of_beq_eq_true e
      rcases List.mem_cons.1 h with rfl | h
      · have : bodyOf g = c := by unfold bodyOf; rw [hf]; simp [hc]
        rw [← this]
        exact hs.1
      · exact subs_ok hs.2 g lps h fn c hf hc
    · exact subs_ok hs.2 f lps h fn c hf hc
/-- A function by its loops' contracts; slices of its own among its results are data. -/
noncomputable def runS (I : Nat → List DV → DV) (spec : SpecF) (sub : SubL) (lps : List (Nat × LoopSp)) (ts : Frz) (f : FuncId) (sg : Sig) (facts : List (SX × Bool)) : Out :=
  iceRes ts (@callM (mkO facts I) Tryz.prog G (spec (mkO facts I)) 100 (subOf sub) (lpsOf lps) f (mkArgs 0 sg) heap0)
noncomputable abbrev runI (I : Nat → List DV → DV) (spec : SpecF) (lps : List (Nat × LoopSp)) (ts : Frz) (f : FuncId) (sg : Sig) (facts : List (SX × Bool)) : Out := runS I spec [] lps ts f sg facts
noncomputable def runSX (I : Nat → List DV → DV) (spec : SpecF) (sub : SubL) (lps : List (Nat × LoopSp)) (ts : Frz) (f : FuncId) (sg : Sig) (o : SX → Option Bool) : Out :=
  iceRes ts (@callM ⟨o, I⟩ Tryz.prog G (spec ⟨o, I⟩) 100 (subOf sub) (lpsOf lps) f (mkArgs 0 sg) heap0)
noncomputable abbrev runX (I : Nat → List DV → DV) (spec : SpecF) (lps : List (Nat × LoopSp)) (ts : Frz) (f : FuncId) (sg : Sig) (o : SX → Option Bool) : Out := runSX I spec [] lps ts f sg o
/-- A round of a loop. -/
noncomputable def roundS (I : Nat → List DV → DV) (spec : SpecF) (sub : SubL) (lps : List (Nat × LoopSp)) (B : Code) (facts : List (SX × Bool)) (s : St) : Run := @codeM (mkO facts I) Tryz.prog G (spec (mkO facts I)) 100 (subOf sub) (lpsOf lps) B s
noncomputable abbrev roundI (I : Nat → List DV → DV) (spec : SpecF) (lps : List (Nat × LoopSp)) (B : Code) (facts : List (SX × Bool)) (s : St) : Run := roundS I spec [] lps B facts s
noncomputable def roundSX (I : Nat → List DV → DV) (spec : SpecF) (sub : SubL) (lps : List (Nat × LoopSp)) (B : Code) (L : LoopSp) (o : SX → Option Bool) : Run := @codeM ⟨o, I⟩ Tryz.prog G (spec ⟨o, I⟩) 100 (subOf sub) (lpsOf lps) B (L.T.st L.n)
noncomputable abbrev roundX (I : Nat → List DV → DV) (spec : SpecF) (lps : List (Nat × LoopSp)) (B : Code) (L : LoopSp) (o : SX → Option Bool) : Run := roundSX I spec [] lps B L o
section
variable {I : Nat → List DV → DV} {spec : SpecF}
theorem callI (hsp : ∀ O : Orc, O.I = I → @SpecOK O Tryz.prog G (spec O)) {sub : SubL} (hs : SubsOK I sub) {lps : List (Nat × LoopSp)} {f : FuncId} (hl : LoopsAre I f lps) (ts : Frz) :
    ∀ O : Orc, O.I = I → @CallOK O Tryz.prog G (fun g args h => if g = f then iceRes ts (@callM O Tryz.prog G (spec O) 100 (subOf sub) (lpsOf lps) g args h) else none) := by
  intro O hI
  have h1 := @callM_ok O Tryz.prog G (spec O) (lpsOf lps) hmix hNum (hsp O hI) plainG 100 (subOf sub) (by rw [hI]; exact subs_ok hs) f (by
    intro fn c hf hc
    rw [hI]
    have : bodyOf f = c := by unfold bodyOf; rw [hf]; simp [hc]
    rw [← this]
    exact hl)
  have h2 := @iceRes_ok O Tryz.prog G ts _ h1
  intro g args h av h' hq
  simp only at hq
  split at hq
  · rename_i e
    exact h2 g args h av h' (by simp only [if_pos e]; subst e; exact hq)
  · cases hq
theorem fn_runS (hsp : ∀ O : Orc, O.I = I → @SpecOK O Tryz.prog G (spec O)) {sub : SubL} (hs : SubsOK I sub) (lps : List (Nat × LoopSp)) (ts : Frz) {f : FuncId} (hl : LoopsAre I f lps) {sg rs : Sig} {pre : List DV → Prop} {F : List DV → List (List DV)} (hb : hasB f = true) (p : Pln)
    (hc : checkPlan rs (runS I spec sub lps ts f sg) [] p = true)
    (hgoal : ∀ (ds : List (List DV)), IsArgs sg ds → pre ds.flatten → goalPlan (rhoOf I ds.flatten) (F ds.flatten) p) : FnOK Tryz.prog G f sg rs pre F :=
  fn_plan (call := fun O g args h => iceRes ts (@callM O Tryz.prog G (spec O) 100 (subOf sub) (lpsOf lps) g args h)) plainG (hasB_ok hb) (callI hsp hs hl ts) p hc (fun _ ds _ h hp => hgoal ds (repArgs_is h) hp)
theorem fn_run (hsp : ∀ O : Orc, O.I = I → @SpecOK O Tryz.prog G (spec O)) (lps : List (Nat × LoopSp)) (ts : Frz) {f : FuncId} (hl : LoopsAre I f lps) {sg rs : Sig} {pre : List DV → Prop} {F : List DV → List (List DV)} (hb : hasB f = true) (p : Pln)
    (hc : checkPlan rs (runI I spec lps ts f sg) [] p = true)
    (hgoal : ∀ (ds : List (List DV)), IsArgs sg ds → pre ds.flatten → goalPlan (rhoOf I ds.flatten) (F ds.flatten) p) : FnOK Tryz.prog G f sg rs pre F :=
  fn_runS hsp (sub := []) trivial lps ts hl hb p hc hgoal
theorem own_runS (hsp : ∀ O : Orc, O.I = I → @SpecOK O Tryz.prog G (spec O)) {sub : SubL} (hs : SubsOK I sub) (lps : List (Nat × LoopSp)) {f : FuncId} (hl : LoopsAre I f lps) (el : TypeId) (ets : List Ty) {sg rs : Sig} {pre : List DV → Prop} {F : List DV → List (List DV)} (hb : hasB f = true) (p : Pln)
    (hc : checkOwn el ets rs (runS I spec sub lps [] f sg) [] p = true)
    (hgoal : ∀ (ds : List (List DV)), IsArgs sg ds → pre ds.flatten → goalPlan (rhoOf I ds.flatten) (F ds.flatten) p) : FnOwn Tryz.prog G f sg el ets rs pre F :=
  own_plan (call := fun O g args h => iceRes [] (@callM O Tryz.prog G (spec O) 100 (subOf sub) (lpsOf lps) g args h)) plainG (hasB_ok hb) (callI hsp hs hl []) p hc (fun _ ds _ h hp => hgoal ds (repArgs_is h) hp)
theorem own_run (hsp : ∀ O : Orc, O.I = I → @SpecOK O Tryz.prog G (spec O)) (lps : List (Nat × LoopSp)) {f : FuncId} (hl : LoopsAre I f lps) (el : TypeId) (ets : List Ty) {sg rs : Sig} {pre : List DV → Prop} {F : List DV → List (List DV)} (hb : hasB f = true) (p : Pln)
    (hc : checkOwn el ets rs (runI I spec lps [] f sg) [] p = true)
    (hgoal : ∀ (ds : List (List DV)), IsArgs sg ds → pre ds.flatten → goalPlan (rhoOf I ds.flatten) (F ds.flatten) p) : FnOwn Tryz.prog G f sg el ets rs pre F :=
  own_runS hsp (sub := []) trivial lps hl el ets hb p hc hgoal
theorem loop_runS (hsp : ∀ O : Orc, O.I = I → @SpecOK O Tryz.prog G (spec O)) {sub : SubL} (hs : SubsOK I sub) {lps : List (Nat × LoopSp)} {B : Code} {L : LoopSp} (hl : LoopsOK Tryz.prog G I (lpsOf lps) B) (p : RPln)
    (hok : (L.yes.2.1.ok L.T L.n && L.no.2.1.ok L.T L.n && checkRound L (roundS I spec sub lps B) [] p) = true) (inv : Rho → Prop) (μ : Rho → Nat)
    (init : ∀ m a w, @RS (noFacts I) plainR m G (L.T.st L.n) a w → (∀ p ∈ L.pre, den m.R p.1 = .bool p.2) → inv m.R)
    (step : ∀ R, R.I = I → inv R → goalRound L inv μ R p) : LoopOK Tryz.prog G I B L :=
  loop_plan hmix hNum hsp plainG 100 (subs_ok hs) hl p hok inv μ init step
theorem loop_run (hsp : ∀ O : Orc, O.I = I → @SpecOK O Tryz.prog G (spec O)) {lps : List (Nat × LoopSp)} {B : Code} {L : LoopSp} (hl : LoopsOK Tryz.prog G I (lpsOf lps) B) (p : RPln)
    (hok : (L.yes.2.1.ok L.T L.n && L.no.2.1.ok L.T L.n && checkRound L (roundI I spec lps B) [] p) = true) (inv : Rho → Prop) (μ : Rho → Nat)
    (init : ∀ m a w, @RS (noFacts I) plainR m G (L.T.st L.n) a w → (∀ p ∈ L.pre, den m.R p.1 = .bool p.2) → inv m.R)
    (step : ∀ R, R.I = I → inv R → goalRound L inv μ R p) : LoopOK Tryz.prog G I B L :=
  loop_runS hsp (sub := []) trivial hl p hok inv μ init step
end
end Go.Proofs.YtbhfnmeojhpgbaaGreatDoor
namespace Go.Proofs.YtbhfnmeojhpgbaaGreatDoor
open Go Go.AM
/-! ## Loops and calls, the plain way, in this seat -/
noncomputable def callRun (I : Nat → List DV → DV) (spec : SpecF) (sub : SubL) (lps : List (Nat × LoopSp)) (f : FuncId) (facts : List (SX × Bool)) (args : List AV) (h : AHeap) : Out := iceRes [] (@callM (mkO facts I) Tryz.prog G (spec (mkO facts I)) 100 (subOf sub) (lpsOf lps) f args h)
noncomputable def callX (I : Nat → List DV → DV) (spec : SpecF) (sub : SubL) (lps : List (Nat × LoopSp)) (f : FuncId) (L : LoopSp) (o : SX → Option Bool) : Out := iceRes [] (@callM ⟨o, I⟩ Tryz.prog G (spec ⟨o, I⟩) 100 (subOf sub) (lpsOf lps) f (argsOf L) (L.T.st L.n).h)
section
variable {I : Nat → List DV → DV} {spec : SpecF} {S : StdL} {F : List DV → Bool × List DV} {Inv : List DV → Prop} {μ : List DV → Nat}
theorem loop_std (hsp : ∀ O : Orc, O.I = I → @SpecOK O Tryz.prog G (spec O)) {sub : SubL} (hs : SubsOK I sub) {lps : List (Nat × LoopSp)} {B : Code} (hl : LoopsOK Tryz.prog G I (lpsOf lps) B) (hF : ∀ ds, I S.f ds = .list (FL F ds)) (p : RPln)
    (hok : (S.ok && (planOK S p && checkRound S.L (roundS I spec sub lps B) [] p)) = true)
    (init : ∀ ds, IsL S.tys ds → (∀ p ∈ S.pre, den (rhoOf I ds) p.1 = .bool p.2) → Inv ds)
    (step : ∀ ds, Inv ds → goalR S.keep.length F Inv μ (rhoOf I ds) ds p) : LoopOK Tryz.prog G I B S.L :=
  std_loop hmix hNum hsp plainG 100 (subs_ok hs) hl hF p hok init step
theorem call_std (hsp : ∀ O : Orc, O.I = I → @SpecOK O Tryz.prog G (spec O)) {sub : SubL} (hs : SubsOK I sub) (lps : List (Nat × LoopSp)) {f : FuncId} (hl : LoopsAre I f lps) (hn : 1 ≤ S.n) (hF : ∀ ds, I S.f ds = .list (FL F ds)) (p : RPln)
    (hok : (hasB f && (S.ok && (planOK S p && checkCallT S.L (callRun I spec sub lps f) [] p))) = true)
    (init : ∀ ds, IsL S.tys ds → (∀ p ∈ S.pre, den (rhoOf I ds) p.1 = .bool p.2) → Inv ds)
    (step : ∀ ds, Inv ds → goalR S.keep.length F (fun _ => False) (fun _ => 0) (rhoOf I ds) ds p) : CallTOK Tryz.prog G I f S.L := by
  rw [Bool.and_eq_true] at hok
  exact std_call plainG (hasB_ok hok.1) hn (fun O g args h => iceRes [] (@callM O Tryz.prog G (spec O) 100 (subOf sub) (lpsOf lps) g args h)) (callI hsp hs hl []) hF p hok.2 init step
theorem goalR_inv {kn : Nat} {F : List DV → Bool × List DV} {Inv Inv' : List DV → Prop} {μ : List DV → Nat} {R : Rho} {ds : List DV} (h : ∀ ds, Inv ds → Inv' ds) : ∀ {p : RPln}, goalR kn F Inv μ R ds p → goalR kn F Inv' μ R ds p
  | .ask e t f, hg => by
    obtain ⟨b, h1, h2, h3⟩ := hg
    exact ⟨b, h1, fun hb => goalR_inv h (h2 hb), fun hb => goalR_inv h (h3 hb)⟩
  | .know e b p, hg => ⟨hg.1, goalR_inv h hg.2⟩
  | .next τ, hg => ⟨h _ hg.1, hg.2⟩
  | .exit b τ, hg => hg
  | .never, hg => hg
/-- One loop more in a list of loops. -/
theorem loopsCons {B C : Code} {k : Nat} {L : LoopSp} {lps : List (Nat × LoopSp)} (hB : key C = k) (hL : ∀ D ∈ loopsIn B, key D = k → LoopOK Tryz.prog G I D L) (hl : LoopsOK Tryz.prog G I (lpsOf lps) B) : LoopsOK Tryz.prog G I (lpsOf ((k, L) :: lps)) B := by
  intro D hD M hM
  have h1 := lpsOf_mem hM
  unfold lpsOf at hM
  split at hM
  · rename_i e
    have e := Nat.eq_of_beq_eq_true e
    rcases List.mem_cons.1 hM with rfl | hM
    · exact hL D hD e.symm
    · exact hl D hD M hM
  · exact hl D hD M hM
end
end Go.Proofs.YtbhfnmeojhpgbaaGreatDoor
namespace Go.Proofs.YtbhfnmeojhpgbaaGreatDoor
open Go Go.AM
/-! ## IdealChecks: plain functions -/
abbrev tRow : Ty := .slice tV
abbrev tRows : Ty := .slice [tRow]
/-- A transaction; an outcome: its error, a place, rows, a number; what was done: a transaction, when it was asked, told, an outcome. -/
abbrev tTx : List Ty := [tI, tU32, .str]
abbrev tO : List Ty := [tI, tI, tRows, tI]
abbrev tDid : List Ty := [tI, tU32, .str, tI, tI, tI, tI, tRows, tI]
abbrev tDids : Ty := .slice tDid
abbrev tInts : Ty := .slice [tI]
abbrev tMet : Ty := .slice [tI, tU32]
def txB (c s : Int) (t : ByteArray) : Bool := decide (1 ≤ c) && decide (c ≤ 3) && decide (s ≠ 0) && decide (t.size ≤ 1019)
def Fctx (ds : List DV) : List (List DV) := [[.int .i64 (if txB (iD ds 0) (iD ds 1) (sD ds 2) then 0 else 270)]]
def Frtx (ds : List DV) : List (List DV) := [[.bool (txB (iD ds 0) (iD ds 1) (sD ds 2))]]
open Classical in
/-- Are lists one? -/
noncomputable def eqLs (a b : List (List DV)) : Bool := decide (a = b)
noncomputable def Feq (ds : List DV) : List (List DV) := [[.bool (eqLs (lD ds 0) (lD ds 1))]]
noncomputable def FeqL (ds : List DV) : DV := .bool (eqLs ((lD ds 0).drop (iD ds 2).toNat) ((lD ds 1).drop (iD ds 2).toNat))
noncomputable def FeqL2 (ds : List DV) : DV := .bool (eqLs ((lD ((lD ds 0).getD (iD ds 2).toNat []) 0).drop (iD ds 3).toNat) ((lD ((lD ds 1).getD (iD ds 2).toNat []) 0).drop (iD ds 3).toNat))
noncomputable def FsameO (ds : List DV) : List (List DV) := [[.bool (decide (iD ds 0 = iD ds 4) && decide (iD ds 1 = iD ds 5) && decide (iD ds 3 = iD ds 7) && eqLs (lD ds 2) (lD ds 6))]]
def Ftrue (_ : List DV) : List (List DV) := [[.bool true]]
/-- Is an outcome the empty one? -/
noncomputable def noneO (r : List DV) : Bool := decide (iD r 5 = 0) && decide (iD r 6 = 0) && decide (iD r 8 = 0) && eqLs (lD r 7) []
/-- Is what was done wrong by itself? -/
noncomputable def didBad (r : List DV) : Bool := !(txB (iD r 0) (iD r 1) (sD r 2)) || decide (iD r 3 < 1) || (if iD r 4 = 0 then !(noneO r) else decide (iD r 4 < iD r 3))
noncomputable def Fwrong (ds : List DV) : List (List DV) := [[.bool (didBad ds)]]
def keyD (r : List DV) : List DV := [r.getD 0 (.bool false), r.getD 1 (.bool false)]
/-- The first row that is wrong, or bears a key met before. -/
noncomputable def chk : List (List DV) → List (List DV) → Nat → Option Nat
  | [], _, _ => none
  | r :: l, met, i => if didBad r || memD [keyD r] met then some i else chk l (met ++ [keyD r]) (i + 1)
noncomputable def chkA (l : List (List DV)) : Int × Int := if 64 < l.length then (0, 3) else match chk l [] 0 with
  | some i => (i, 340)
  | none => (0, 0)
noncomputable def Fchk (ds : List DV) : List (List DV) := [[.int .i64 (chkA (lD ds 0)).1], [.int .i64 (chkA (lD ds 0)).2]]
/-- The first place of an order that is none, or met before. -/
noncomputable def ordA : List (List DV) → Int → List (List DV) → Nat → Option Nat
  | [], _, _, _ => none
  | r :: o, n, met, i => if decide (iD r 0 < 0) || decide (n ≤ iD r 0) || memD [r] met then some i else ordA o n (met ++ [r]) (i + 1)
/-- The first row that was told, and isn't in an order. -/
noncomputable def tolB : List (List DV) → List (List DV) → Nat → Option Nat
  | [], _, _ => none
  | r :: l, met, i => if decide (0 < iD r 4) && !(memD [[.int .i64 i]] met) then some i else tolB l met (i + 1)
/-- The first of an order that was told ahead of when one ahead of it was asked. -/
def seqC (l : List (List DV)) : List (List DV) → Int → Option Int
  | [], _ => none
  | r :: o, last => if decide (0 < iD (l.getD (iD r 0).toNat []) 4) && decide (iD (l.getD (iD r 0).toNat []) 4 < last) then some (iD r 0) else seqC l o (max last (iD (l.getD (iD r 0).toNat []) 3))
noncomputable def ordR (l o : List (List DV)) : Int × Int := if (chkA l).2 ≠ 0 then chkA l else match ordA o l.length [] 0 with
  | some i => (i, 2)
  | none => match tolB l o 0 with
    | some i => (i, 341)
    | none => match seqC l o 0 with
      | some k => (k, 341)
      | none => (0, 0)
noncomputable def Ford (ds : List DV) : List (List DV) := [[.int .i64 (ordR (lD ds 0) (lD ds 1)).1], [.int .i64 (ordR (lD ds 0) (lD ds 1)).2]]
noncomputable def Fin1 (ds : List DV) : List (List DV) := [[.bool (memD [[.int .i64 (iD ds 1)]] (lD ds 0))]]
/-! the law's cuts -/
def cutT (s : ByteArray) : ByteArray := if 1000 < s.size then s.extract 0 (min s.size 1025) else s.extract 0 (min s.size 300)
def Ftext (ds : List DV) : List (List DV) := [[.str (cutT (sD ds 0))]]
def cutRs (l : List (List DV)) : List (List DV) := (l.take 20).map fun r => [.list ((lD r 0).take 8)]
def cutO (r : List DV) : List DV := [r.getD 0 (.bool false), r.getD 1 (.bool false), .list (cutRs (lD r 2)), r.getD 3 (.bool false)]
def Fres (ds : List DV) : List (List DV) := [cutO ds]
def cutDid (r : List DV) : List DV := [r.getD 0 (.bool false), r.getD 1 (.bool false), .str (cutT (sD r 2)), r.getD 3 (.bool false), r.getD 4 (.bool false)] ++ cutO (r.drop 5)
def pastL (l : List (List DV)) : List (List DV) := (l.take (if 64 < l.length then 65 else 6)).map cutDid
def Fpast (ds : List DV) : List (List DV) := [[.list (pastL (lD ds 0))]]
def Fplaces (ds : List DV) : List (List DV) := [[.list ((lD ds 0).take 12)]]
/-! loops -/
noncomputable def FckL (ds : List DV) : Bool × List DV := match chk ((lD ds 0).drop (iD ds 1).toNat) (lD ds 2) (iD ds 1).toNat with
  | some k => (false, [.int .i64 k])
  | none => (true, [])
/-- Is the key of row i among those of the rows from k to it? -/
noncomputable def FwrI (ds : List DV) : Bool × List DV := if memD [keyD ((lD ds 0).getD (iD ds 1).toNat [])] (((lD ds 0).take (iD ds 1).toNat).drop (iD ds 2).toNat |>.map keyD) then (false, []) else (true, [])
noncomputable def FwrO (ds : List DV) : Bool × List DV := match chk ((lD ds 0).drop (iD ds 1).toNat) (((lD ds 0).take (iD ds 1).toNat).map keyD) (iD ds 1).toNat with
  | some k => (false, [.int .i64 k])
  | none => (true, [])
/-- order, rows, place, met. -/
noncomputable def FoA (ds : List DV) : Bool × List DV := match ordA ((lD ds 0).drop (iD ds 2).toNat) (lD ds 1).length (lD ds 3) (iD ds 2).toNat with
  | some k => (false, [.int .i64 k])
  | none => (true, [.list (lD ds 3 ++ (lD ds 0).drop (iD ds 2).toNat)])
/-- rows, order, place, met. -/
noncomputable def FoB (ds : List DV) : Bool × List DV := match tolB ((lD ds 0).drop (iD ds 2).toNat) (lD ds 3) (iD ds 2).toNat with
  | some k => (false, [.int .i64 k])
  | none => (true, [])
/-- order, rows, place, the latest asking. -/
def FoC (ds : List DV) : Bool × List DV := match seqC (lD ds 1) ((lD ds 0).drop (iD ds 2).toNat) (iD ds 3) with
  | some k => (false, [.int .i64 k])
  | none => (true, [])
/-- Are all places of an order places of rows? -/
def allIn (o : List (List DV)) (n : Int) : Bool := o.all fun r => decide (0 ≤ iD r 0) && decide (iD r 0 < n)
def FallIn (ds : List DV) : DV := .bool (allIn (lD ds 0) (lD ds 1).length)
/-- order, a place, from where. -/
noncomputable def FinL (ds : List DV) : Bool × List DV := (!(memD [[.int .i64 (iD ds 1)]] ((lD ds 0).drop (iD ds 2).toNat)), [])
/-- The reference's three loops: order, rows, place. -/
noncomputable def FrA (ds : List DV) : Bool × List DV := match ordA ((lD ds 0).drop (iD ds 2).toNat) (lD ds 1).length ((lD ds 0).take (iD ds 2).toNat) (iD ds 2).toNat with
  | some k => (false, [.int .i64 k])
  | none => (true, [])
noncomputable def FrB (ds : List DV) : Bool × List DV := match tolB ((lD ds 1).drop (iD ds 2).toNat) (lD ds 0) (iD ds 2).toNat with
  | some k => (false, [.int .i64 k])
  | none => (true, [])
/-- The latest asking of the first ones of an order. -/
def lastA (l : List (List DV)) : List (List DV) → Int → Int
  | [], m => m
  | r :: o, m => lastA l o (max m (iD (l.getD (iD r 0).toNat []) 3))
def FrC (ds : List DV) : Bool × List DV := match seqC (lD ds 1) ((lD ds 0).drop (iD ds 2).toNat) (lastA (lD ds 1) ((lD ds 0).take (iD ds 2).toNat) 0) with
  | some k => (false, [.int .i64 k])
  | none => (true, [])
/-- order, rows, place, from where: is one ahead of the place asked behind the place's telling? -/
def hitC (l : List (List DV)) (told : Int) (o : List (List DV)) : Bool := decide (0 < told) && o.any fun r => decide (told < iD (l.getD (iD r 0).toNat []) 3)
def FrCi (ds : List DV) : Bool × List DV := if hitC (lD ds 1) (iD ((lD ds 1).getD (iD ((lD ds 0).getD (iD ds 2).toNat []) 0).toNat []) 4) (((lD ds 0).take (iD ds 2).toNat).drop (iD ds 3).toNat) then (false, [.int .i64 (iD ((lD ds 0).getD (iD ds 2).toNat []) 0)]) else (true, [])
/-- rows, those that are there, a place. -/
def FresL (ds : List DV) : Bool × List DV := (true, [.list (lD ds 1 ++ ((lD ds 0).take 20 |>.drop (iD ds 2).toNat).map fun r => [.list ((lD r 0).take 8)])])
/-- rows, those that are there, a place, how many. -/
def FpastL (ds : List DV) : Bool × List DV := (true, [.list (lD ds 1 ++ ((lD ds 0).take (iD ds 3).toNat |>.drop (iD ds 2).toNat).map cutDid)])
def FT (_ : List DV) : Bool × List DV := (true, [])
noncomputable def theI : Nat → List DV → DV
  | 1, ds => .list (Fctx ds)
  | 2, ds => .list (Frtx ds)
  | 4, ds => .list (Feq ds)
  | 6, ds => .list (Ftrue ds)
  | 16, ds => .list (FsameO ds)
  | 20, ds => .list (Fchk ds)
  | 21, ds => .list (Ford ds)
  | 22, ds => .list (Fwrong ds)
  | 23, ds => .list (Fin1 ds)
  | 24, ds => .list (Ftext ds)
  | 25, ds => .list (Fres ds)
  | 26, ds => .list (Fpast ds)
  | 27, ds => .list (Fplaces ds)
  | 104, ds => FeqL ds
  | 105, ds => FeqL2 ds
  | 120, ds => .list (FL FckL ds)
  | 121, ds => .list (FL FwrI ds)
  | 122, ds => .list (FL FwrO ds)
  | 123, ds => .list (FL FoA ds)
  | 124, ds => .list (FL FoB ds)
  | 125, ds => .list (FL FoC ds)
  | 126, ds => .list (FL FinL ds)
  | 127, ds => .list (FL FrA ds)
  | 128, ds => .list (FL FrB ds)
  | 129, ds => .list (FL FrC ds)
  | 130, ds => .list (FL FrCi ds)
  | 131, ds => .list (FL FresL ds)
  | 132, ds => .list (FL FpastL ds)
  | 133, ds => .list (FL FT ds)
  | 140, ds => FallIn ds
  | _, _ => .bool false
/-! ### kit -/
theorem maxLen_lt : maxLen ≤ 9223372036854775807 := by unfold maxLen; omega
noncomputable def muRow (R : Rho) : Nat := match R.ρ 0, R.ρ 2 with
  | .list la, .int _ i => la.length - i.toNat
  | _, _ => 0
theorem isL_of : ∀ {ts : List Ty} {r : List DV}, r.length = ts.length → (∀ (j : Nat) (t : Ty) (d : DV), ts[j]? = some t → r[j]? = some d → Is t d) → IsL ts r
  | [], [], _, _ => by simp [IsL]
  | t :: ts, d :: r, h1, h2 => by
    simp only [IsL]
    exact ⟨d, r, rfl, h2 0 t d rfl rfl, isL_of (by simpa using h1) fun j u e hj he => h2 (j + 1) u e (by simpa using hj) (by simpa using he)⟩
  | [], _ :: _, h, _ => by simp at h
  | _ :: _, [], h, _ => by simp at h
theorem Is.lst {ts : List Ty} {d : DV} (h : Is (.slice ts) d) : ∃ l, d = .list l ∧ l.length ≤ maxLen ∧ ∀ r ∈ l, IsL ts r := by
  obtain ⟨l, rfl, h2, h3⟩ := h.list
  exact ⟨l, rfl, h2, fun r hr => isL_of (h3 r hr).1 (h3 r hr).2⟩
theorem Is.s {d : DV} (h : Is .str d) : ∃ s, d = .str s ∧ s.size ≤ maxLen := by
  obtain ⟨m, v, h⟩ := h
  simp only [Rep] at h
  obtain ⟨s, rfl, _, h⟩ := h
  exact ⟨s, rfl, h⟩
/-- A row of what was done. -/
theorem did_is {r : List DV} (h : IsL tDid r) : ∃ c s t a b e f rs g, r = [.int .i64 c, .int .u32 s, .str t, .int .i64 a, .int .i64 b, .int .i64 e, .int .i64 f, .list rs, .int .i64 g] ∧ 0 ≤ s ∧ t.size ≤ maxLen ∧ (∀ q ∈ rs, IsR q) ∧ rs.length ≤ maxLen := by
  simp only [IsL] at h
  obtain ⟨_, _, rfl, h1, _, _, rfl, h2, _, _, rfl, h3, _, _, rfl, h4, _, _, rfl, h5, _, _, rfl, h6, _, _, rfl, h7, _, _, rfl, h8, _, _, rfl, h9, rfl⟩ := h
  obtain ⟨c, rfl, _⟩ := h1.i64
  obtain ⟨s, rfl, hs, _⟩ := h2.u32
  obtain ⟨t, rfl, ht⟩ := Is.s h3
  obtain ⟨a, rfl, _⟩ := h4.i64
  obtain ⟨b, rfl, _⟩ := h5.i64
  obtain ⟨e, rfl, _⟩ := h6.i64
  obtain ⟨f, rfl, _⟩ := h7.i64
  obtain ⟨rs, rfl, hl, hr⟩ := h8.rows
  obtain ⟨g, rfl, _⟩ := h9.i64
  exact ⟨c, s, t, a, b, e, f, rs, g, rfl, hs, ht, hr, hl⟩
theorem int_is {r : List DV} (h : IsL [tI] r) : ∃ k, r = [.int .i64 k] ∧ -9223372036854775808 ≤ k ∧ k ≤ 9223372036854775807 := by
  simp only [IsL] at h
  obtain ⟨_, _, rfl, h1, rfl⟩ := h
  obtain ⟨c, rfl, h2, h3⟩ := h1.i64
  exact ⟨c, rfl, h2, h3⟩
theorem len_leL {R : Rho} {x : SX} {l : List (List DV)} (hx : den R x = .list l) (hl : l.length ≤ 1000000) : den R (lss (k64 1000000) (.len x)) = .bool false := by
  rw [d_lss (d_k .i64 1000000) (d_lenL hx)]
  simp
  omega
theorem r_ask {kn : Nat} {F : List DV → Bool × List DV} {Inv : List DV → Prop} {μ : List DV → Nat} {R : Rho} {ds : List DV} {e : SX} {b : Bool} {t f : RPln} (h : den R e = .bool b) (ht : b = true → goalR kn F Inv μ R ds t) (hf : b = false → goalR kn F Inv μ R ds f) : goalR kn F Inv μ R ds (.ask e t f) := ⟨b, h, ht, hf⟩
theorem r_know {kn : Nat} {F : List DV → Bool × List DV} {Inv : List DV → Prop} {μ : List DV → Nat} {R : Rho} {ds : List DV} {e : SX} {b : Bool} {p : RPln} (h : den R e = .bool b) (hp : goalR kn F Inv μ R ds p) : goalR kn F Inv μ R ds (.know e b p) := ⟨h, hp⟩
theorem r_knows {kn : Nat} {F : List DV → Bool × List DV} {Inv : List DV → Prop} {μ : List DV → Nat} {R : Rho} {ds : List DV} {p : RPln} : ∀ {l : List (SX × Bool)}, (∀ q ∈ l, den R q.1 = .bool q.2) → goalR kn F Inv μ R ds p → goalR kn F Inv μ R ds (knowR l p)
  | [], _, h => h
  | q :: l, hq, h => ⟨hq q (by simp), r_knows (fun x hx => hq x (by simp [hx])) h⟩
theorem memD_one {r : List DV} {l : List (List DV)} : memD [r] l = true ↔ r ∈ l := by
  simp [memD]
theorem d_has {R : Rho} {ks : List SX} {x : SX} {l : List (List DV)} (hx : den R x = .list l) : den R (.bin .lss (.row ks) x) = .bool (memD [ks.map (den R)] l) := by
  simp only [den, hx, binD, denL_map]
theorem memD_true {r : List DV} {l : List (List DV)} (h : r ∈ l) : memD [r] l = true := memD_one.2 h
end Go.Proofs.YtbhfnmeojhpgbaaGreatDoor
namespace Go.Proofs.YtbhfnmeojhpgbaaGreatDoor
open Go Go.AM
/-! ### slices.Equal of values, slices.EqualFunc of rows -/
noncomputable def NEq (t : Nat) : Tmpl := { tm := [(t, .sc (.bool false))] }
noncomputable def Y0 : Tmpl := { tm := [] }
noncomputable abbrev cEq : SX := .app 104 [.v 0, .v 1, .v 2]
noncomputable def TEq : Tmpl := { tm := [(0, .sy tRow (.v 0)), (1, .sy tRow (.v 1)), (12, .sy tI (.len (.v 0))), (13, .sy tI (.v 2))], src := [.tm 0 tRow, .tm 1 tRow, .tm 13 tI] }
noncomputable def preEq : List (SX × Bool) := [(eql (.len (.v 0)) (.len (.v 1)), true), (eql (.v 2) (k64 0), true)]
noncomputable def LEq : LoopSp := { n := 26, T := TEq, pre := preEq, cnd := cEq, yes := (.exit 0, Y0, []), no := (.ret, NEq 4, []) }
noncomputable abbrev codeEq : Code := loopAt 44 0
noncomputable abbrev eq3 : SX := .all [eql (.at (.v 0) (.v 2) 0) (.at (.v 1) (.v 2) 0), eql (.at (.v 0) (.v 2) 1) (.at (.v 1) (.v 2) 1), eql (.at (.v 0) (.v 2) 2) (.at (.v 1) (.v 2) 2)]
noncomputable def rEq (c : SX) (τ : List SX) : RPln :=
  .ask (lss (.v 2) (.len (.v 0)))
    (knowR [(lss (.v 2) (k64 0), false), (lss (.v 2) (.len (.v 1)), true)]
      (.ask c (.next τ) (.exit false [])))
    (.exit true [])
noncomputable abbrev nxEq : List SX := [.v 0, .v 1, add (.v 2) (k64 1)]
theorem okEq : (LEq.yes.2.1.ok LEq.T LEq.n && LEq.no.2.1.ok LEq.T LEq.n && checkRound LEq (roundI theI (entS []) [] codeEq) [] (rEq eq3 nxEq)) = true := by kernel_rfl
noncomputable def eEq : Ent := eFn 44 [.one tRow, .one tRow] [.one .bool] [] 4
noncomputable abbrev conEq : AV := .sc (.func (.func 44) #[] #[])
noncomputable def TEf : Tmpl := { tm := [(1, .sy tRows (.v 1)), (2, conEq), (15, .sy tRows (.v 0)), (16, .sy tI (.len (.v 0))), (17, .sy tI (.v 2))], src := [.tm 15 tRows, .tm 1 tRows, .tm 17 tI] }
noncomputable def LEf : LoopSp := { n := 32, T := TEf, pre := preEq, cnd := cEq, yes := (.exit 0, Y0, []), no := (.ret, NEq 6, []) }
noncomputable abbrev codeEf : Code := loopAt 43 0
noncomputable abbrev eqF : SX := .at (.app 4 [.at (.v 0) (.v 2) 0, .at (.v 1) (.v 2) 0]) (k64 0) 0
theorem okEf : (LEf.yes.2.1.ok LEf.T LEf.n && LEf.no.2.1.ok LEf.T LEf.n && checkRound LEf (roundI theI (entS [eEq]) [] codeEf) [] (rEq eqF nxEq)) = true := by kernel_rfl
open Classical in
noncomputable def eqRw (x y : List DV) : Bool := decide (x = y)
def invEq (Q : List DV → Prop) (R : Rho) : Prop := ∃ la lb i, R.ρ 0 = .list la ∧ R.ρ 1 = .list lb ∧ R.ρ 2 = .int .i64 i ∧ (∀ r ∈ la, Q r) ∧ (∀ r ∈ lb, Q r) ∧ la.length ≤ maxLen ∧ la.length = lb.length ∧ 0 ≤ i ∧ i ≤ la.length
theorem dEq {R : Rho} (hI : R.I = theI) {la lb : List (List DV)} {i : Int} (e0 : R.ρ 0 = .list la) (e1 : R.ρ 1 = .list lb) (e2 : R.ρ 2 = .int .i64 i) : den R cEq = .bool (eqLs (la.drop i.toNat) (lb.drop i.toNat)) := by
  rw [d_app, hI]
  simp only [List.map_cons, List.map_nil, den, e0, e1, e2]
  rfl
theorem goalEq {L : LoopSp} {Q : List DV → Prop} {c : SX} (hc : L.cnd = cEq) (hy : L.yes.2.2 = []) (hn : L.no.2.2 = [])
    (hd : ∀ (R : Rho) (la lb : List (List DV)) (i : Int), R.I = theI → R.ρ 0 = .list la → R.ρ 1 = .list lb → R.ρ 2 = .int .i64 i → 0 ≤ i → ∀ (h1 : i.toNat < la.length) (h2 : i.toNat < lb.length), Q la[i.toNat] → Q lb[i.toNat] → den R c = .bool (eqRw la[i.toNat] lb[i.toNat])) :
    ∀ R : Rho, R.I = theI → invEq Q R → goalRound L (invEq Q) muRow R (rEq c nxEq) := by
  rintro R hI ⟨la, lb, i, e0, e1, e2, q1, q2, hm, hl, h1, h2⟩
  have hmx := maxLen_lt
  have hcnd := dEq hI e0 e1 e2
  unfold rEq
  refine round_ask (d_lss (d_v e2) (d_lenL (d_v e0))) (fun hlt => ?_) (fun hge => ?_)
  · simp only [decide_eq_true_eq] at hlt
    have l1 : i.toNat < la.length := by omega
    have l2 : i.toNat < lb.length := by omega
    have hi1 := d_add (R := R) (d_v e2) (d_k .i64 1) (by omega) (by omega)
    have hs := drop_step l1 l2
    refine round_knows (l := [_, _]) ?_ ?_
    · intro q hq
      simp only [List.mem_cons, List.not_mem_nil, or_false] at hq
      rcases hq with rfl | rfl
      · rw [d_lss (d_v e2) (d_k .i64 0)]; simp; omega
      · rw [d_lss (d_v e2) (d_lenL (d_v e1))]; simp; omega
    refine round_ask (hd R la lb i hI e0 e1 e2 h1 l1 l2 (q1 _ (List.getElem_mem l1)) (q2 _ (List.getElem_mem l2))) (fun hz => ?_) (fun hz => ?_)
    · have hz : la[i.toNat] = lb[i.toNat] := by simpa [eqRw] using hz
      have s0 := sub_get R nxEq 0 rfl (d_v e0)
      have s1 := sub_get R nxEq 1 rfl (d_v e1)
      have s2 := sub_get R nxEq 2 rfl hi1
      refine ⟨⟨la, lb, i + 1, s0, s1, s2, q1, q2, hm, hl, by omega, by omega⟩, ?_, ?_, fun b _ => ?_⟩
      · simp only [muRow, s0, s2, e0, e2]
        omega
      · rw [hc, hcnd, dEq (R := R.sub nxEq) hI s0 s1 s2]
        congr 1
        have e : eqLs (la.drop i.toNat) (lb.drop i.toNat) = eqLs (la.drop (i.toNat + 1)) (lb.drop (i.toNat + 1)) := by
          unfold eqLs
          rw [decide_eq_decide, hs]
          exact ⟨fun h => h.2, fun h => ⟨hz, h⟩⟩
        rw [e, ← toNat_succ h1]
        rfl
      · cases b
        · show L.no.2.2.map _ = L.no.2.2.map _
          rw [hn]; rfl
        · show L.yes.2.2.map _ = L.yes.2.2.map _
          rw [hy]; rfl
    · have hz : ¬ la[i.toNat] = lb[i.toNat] := by simpa [eqRw] using hz
      refine ⟨?_, ?_⟩
      · rw [hc, hcnd]
        congr 1
        unfold eqLs
        rw [decide_eq_false_iff_not, hs]
        exact fun h => hz h.1
      · show _ = L.no.2.2.map _
        rw [hn]
  · simp only [decide_eq_false_iff_not] at hge
    refine ⟨?_, ?_⟩
    · rw [hc, hcnd, List.drop_eq_nil_of_le (by omega), List.drop_eq_nil_of_le (by omega)]
      simp [eqLs]
    · show _ = L.yes.2.2.map _
      rw [hy]
theorem eq3_den (R : Rho) (la lb : List (List DV)) (i : Int) (_ : R.I = theI) (e0 : R.ρ 0 = .list la) (e1 : R.ρ 1 = .list lb) (e2 : R.ρ 2 = .int .i64 i) (h0 : 0 ≤ i) (h1 : i.toNat < la.length) (h2 : i.toNat < lb.length) (q1 : IsV la[i.toNat]) (q2 : IsV lb[i.toNat]) : den R eq3 = .bool (eqRw la[i.toNat] lb[i.toNat]) := by
  have a : ∀ c, den R (.at (.v 0) (.v 2) c) = la[i.toNat].getD c (.bool false) := fun c => by rw [d_at c (d_v e0) (d_v e2), getD_lt h1]
  have b : ∀ c, den R (.at (.v 1) (.v 2) c) = lb[i.toNat].getD c (.bool false) := fun c => by rw [d_at c (d_v e1) (d_v e2), getD_lt h2]
  exact d_allV q1 q2 (a 0) (a 1) (a 2) (b 0) (b 1) (b 2)
theorem loopEq : LoopOK Tryz.prog G theI codeEq LEq := by
  refine loop_run (lps := []) (entS_ok (l := []) trivial) noLoops (rEq eq3 nxEq) okEq (invEq IsV) muRow ?_ (goalEq rfl rfl rfl eq3_den)
  intro m a w hr hp
  obtain ⟨la, e0, a1, a2⟩ := (head_sy hr (t := 0) (i := 0) (ty := tRow) (by kernel_rfl)).vals
  obtain ⟨lb, e1, b1, b2⟩ := (head_sy hr (t := 1) (i := 1) (ty := tRow) (by kernel_rfl)).vals
  obtain ⟨i, e2, _⟩ := (head_sy hr (t := 13) (i := 2) (ty := tI) (by kernel_rfl)).i64
  have p1 := hp (eql (.len (.v 0)) (.len (.v 1)), true) (by simp [LEq, preEq])
  have p2 := hp (eql (.v 2) (k64 0), true) (by simp [LEq, preEq])
  rw [d_eql (d_lenL (d_v e0)) (d_lenL (d_v e1))] at p1
  rw [d_eql (d_v e2) (d_k .i64 0)] at p2
  simp only [DV.bool.injEq, decide_eq_true_eq] at p1 p2
  exact ⟨la, lb, i, e0, e1, e2, a2, b2, a1, by omega, by omega, by omega⟩
noncomputable def pEq : Pln :=
  .ask (eql (.len (.v 0)) (.len (.v 1)))
    (.ask (.app 104 [.v 0, .v 1, k64 0]) (.done [[.kb true]]) (.done [[.kb false]]))
    (.done [[.kb false]])
theorem kEq : (hasB 44 && checkPlan [.one .bool] (runI theI (entS []) [(5, LEq)] [] 44 [.one tRow, .one tRow]) [] pEq) = true := by kernel_rfl
/-- The goal of an equality of lists. -/
theorem goal_eq {la lb : List (List DV)} {R : Rho} (hI : R.I = theI) (e0 : R.ρ 0 = .list la) (e1 : R.ρ 1 = .list lb) : goalPlan R [[.bool (eqLs la lb)]] pEq := by
  unfold pEq
  refine goal_ask (d_eql (d_lenL (d_v e0)) (d_lenL (d_v e1))) (fun h => ?_) (fun h => ?_)
  · have hd : den R (.app 104 [.v 0, .v 1, k64 0]) = .bool (eqLs la lb) := by
      rw [d_app, hI]
      simp only [List.map_cons, List.map_nil, den, e0, e1]
      rfl
    refine goal_ask hd (fun hb => ?_) (fun hb => ?_)
    · show _ = _
      rw [hb]; rfl
    · show _ = _
      rw [hb]; rfl
  · show _ = _
    have : eqLs la lb = false := by
      unfold eqLs
      rw [decide_eq_false_iff_not]
      rintro rfl
      simp at h
    rw [this]; rfl
theorem fnEq : FnOK Tryz.prog G 44 [.one tRow, .one tRow] [.one .bool] (fun _ => True) Feq := by
  have hk := kEq
  rw [Bool.and_eq_true] at hk
  refine fn_run (entS_ok (l := []) trivial) [(5, LEq)] _ (loops1 (by kernel_rfl) loopEq) hk.1 pEq hk.2 ?_
  intro ds h _
  simp only [IsArgs, IsOne] at h
  obtain ⟨_, _, rfl, ⟨d, rfl, hd⟩, _, _, rfl, ⟨e, rfl, he⟩, rfl⟩ := h
  obtain ⟨la, rfl, _⟩ := hd.vals
  obtain ⟨lb, rfl, _⟩ := he.vals
  exact goal_eq rfl rfl rfl
theorem eEq_ok : EntsOK Tryz.prog G theI [eEq] := ⟨eFn_ok plainG (pre_true fnEq) (fun _ => rfl) [] (by kernel_rfl), trivial⟩
theorem isR_eq {x y : List DV} (hx : IsR x) (hy : IsR y) : ∃ lx ly, x = [.list lx] ∧ y = [.list ly] ∧ eqLs lx ly = eqRw x y := by
  obtain ⟨lx, rfl, _⟩ := hx
  obtain ⟨ly, rfl, _⟩ := hy
  refine ⟨lx, ly, rfl, rfl, ?_⟩
  unfold eqLs eqRw
  rw [decide_eq_decide]
  simp
theorem eqF_den (R : Rho) (la lb : List (List DV)) (i : Int) (hI : R.I = theI) (e0 : R.ρ 0 = .list la) (e1 : R.ρ 1 = .list lb) (e2 : R.ρ 2 = .int .i64 i) (h0 : 0 ≤ i) (h1 : i.toNat < la.length) (h2 : i.toNat < lb.length) (q1 : IsR la[i.toNat]) (q2 : IsR lb[i.toNat]) : den R eqF = .bool (eqRw la[i.toNat] lb[i.toNat]) := by
  obtain ⟨lx, ly, hx, hy, he⟩ := isR_eq q1 q2
  have a : den R (.at (.v 0) (.v 2) 0) = .list lx := by rw [d_at 0 (d_v e0) (d_v e2), getD_lt h1, hx]; rfl
  have b : den R (.at (.v 1) (.v 2) 0) = .list ly := by rw [d_at 0 (d_v e1) (d_v e2), getD_lt h2, hy]; rfl
  refine d_res (F := Feq) (by rw [hI]; rfl) ?_
  simp only [List.map_cons, List.map_nil, a, b, ← he]
  rfl
theorem loopEf : LoopOK Tryz.prog G theI codeEf LEf := by
  refine loop_run (lps := []) (entS_ok eEq_ok) noLoops (rEq eqF nxEq) okEf (invEq IsR) muRow ?_ (goalEq rfl rfl rfl eqF_den)
  intro m a w hr hp
  obtain ⟨la, e0, a1, a2⟩ := (head_sy hr (t := 15) (i := 0) (ty := tRows) (by kernel_rfl)).rows
  obtain ⟨lb, e1, b1, b2⟩ := (head_sy hr (t := 1) (i := 1) (ty := tRows) (by kernel_rfl)).rows
  obtain ⟨i, e2, _⟩ := (head_sy hr (t := 17) (i := 2) (ty := tI) (by kernel_rfl)).i64
  have p1 := hp (eql (.len (.v 0)) (.len (.v 1)), true) (by simp [LEf, preEq])
  have p2 := hp (eql (.v 2) (k64 0), true) (by simp [LEf, preEq])
  rw [d_eql (d_lenL (d_v e0)) (d_lenL (d_v e1))] at p1
  rw [d_eql (d_v e2) (d_k .i64 0)] at p2
  simp only [DV.bool.injEq, decide_eq_true_eq] at p1 p2
  exact ⟨la, lb, i, e0, e1, e2, a2, b2, a1, by omega, by omega, by omega⟩
theorem kEf : (hasB 43 && checkPlan [.one .bool] (runI theI (entS [eEq]) [(5, LEf)] [] 43 [.one tRows, .one tRows, .con 44]) [] pEq) = true := by kernel_rfl
theorem fnEf : FnOK Tryz.prog G 43 [.one tRows, .one tRows, .con 44] [.one .bool] (fun _ => True) Feq := by
  have hk := kEf
  rw [Bool.and_eq_true] at hk
  refine fn_run (entS_ok eEq_ok) [(5, LEf)] _ (loops1 (by kernel_rfl) loopEf) hk.1 pEq hk.2 ?_
  intro ds h _
  simp only [IsArgs, IsOne] at h
  obtain ⟨_, _, rfl, ⟨d, rfl, hd⟩, _, _, rfl, ⟨e, rfl, he⟩, _, _, rfl, rfl, rfl⟩ := h
  obtain ⟨la, rfl, _⟩ := hd.rows
  obtain ⟨lb, rfl, _⟩ := he.rows
  exact goal_eq rfl rfl rfl
noncomputable def eEf : Ent := eFn 43 [.one tRows, .one tRows, .con 44] [.one .bool] [] 4
theorem eEf_ok : EntsOK Tryz.prog G theI [eEf] := ⟨eFn_ok plainG (pre_true fnEf) (fun _ => rfl) [] (by kernel_rfl), trivial⟩
end Go.Proofs.YtbhfnmeojhpgbaaGreatDoor
namespace Go.Proofs.YtbhfnmeojhpgbaaGreatDoor
open Go Go.AM
/-! ### the reference's SameRows -/
noncomputable abbrev aR : SX := .at (.v 0) (.v 2) 0
noncomputable abbrev bR : SX := .at (.v 1) (.v 2) 0
noncomputable abbrev codeSr : Code := loopAt 28 0
noncomputable def codeSi : Code := (loopsIn codeSr).getD 0 .skip
noncomputable def TSi : Tmpl := { tm := [(0, .sy tRows (.v 0)), (1, .sy tRows (.v 1)), (5, .sy tI (.v 2)), (13, .sy tI (.len (.v 0))), (14, .sy tI (.v 2)), (32, .sy tI (.len aR)), (33, .sy tI (.v 3))], src := [.tm 0 tRows, .tm 1 tRows, .tm 14 tI, .tm 33 tI] }
noncomputable def YSi : Tmpl := { tm := [(0, .sy tRows (.v 0)), (1, .sy tRows (.v 1)), (13, .sy tI (.len (.v 0))), (14, .sy tI (.v 2))], src := [.tm 0 tRows, .tm 1 tRows, .tm 14 tI] }
noncomputable def preSi : List (SX × Bool) := [(lss (.v 2) (k64 0), false), (lss (.v 2) (.len (.v 0)), true), (lss (.v 2) (.len (.v 1)), true), (eql (.len aR) (.len bR), true), (eql (.v 3) (k64 0), true)]
noncomputable abbrev cSi : SX := .app 105 [.v 0, .v 1, .v 2, .v 3]
noncomputable def LSi : LoopSp := { n := 53, T := TSi, pre := preSi, cnd := cSi, yes := (.exit 2, YSi, [.v 0, .v 1, .v 2]), no := (.ret, NEq 4, []) }
noncomputable abbrev eqS : SX := .all [eql (.at aR (.v 3) 0) (.at bR (.v 3) 0), eql (.at aR (.v 3) 1) (.at bR (.v 3) 1), eql (.at aR (.v 3) 2) (.at bR (.v 3) 2)]
noncomputable abbrev nxSi : List SX := [.v 0, .v 1, .v 2, add (.v 3) (k64 1)]
noncomputable def rSi : RPln :=
  .ask (lss (.v 3) (.len aR))
    (knowR [(lss (.v 3) (k64 0), false), (lss (.v 2) (.len (.v 0)), true), (lss (.v 2) (k64 0), false), (lss (.v 2) (.len (.v 1)), true), (lss (.v 3) (.len bR), true)]
      (.ask eqS (.next nxSi) (.exit false [])))
    (.exit true [.v 0, .v 1, .v 2])
theorem okSi : (LSi.yes.2.1.ok LSi.T LSi.n && LSi.no.2.1.ok LSi.T LSi.n && checkRound LSi (roundI theI (entS []) [] codeSi) [] rSi) = true := by kernel_rfl
noncomputable def TSr : Tmpl := { tm := [(0, .sy tRows (.v 0)), (1, .sy tRows (.v 1)), (13, .sy tI (.len (.v 0))), (14, .sy tI (.v 2))], src := [.tm 0 tRows, .tm 1 tRows, .tm 14 tI] }
noncomputable def LSr : LoopSp := { n := 53, T := TSr, pre := preEq, cnd := cEq, yes := (.exit 0, Y0, []), no := (.ret, NEq 4, []) }
noncomputable abbrev eqT : SX := .app 105 [.v 0, .v 1, .v 2, k64 0]
noncomputable def rSr : RPln :=
  .ask (lss (.v 2) (.len (.v 0)))
    (knowR [(lss (.v 2) (k64 0), false), (lss (.v 2) (.len (.v 1)), true)]
      (.ask (eql (.len aR) (.len bR)) (.ask eqT (.next nxEq) (.exit false [])) (.exit false [])))
    (.exit true [])
theorem okSr : (LSr.yes.2.1.ok LSr.T LSr.n && LSr.no.2.1.ok LSr.T LSr.n && checkRound LSr (roundI theI (entS []) [(10, LSi)] codeSr) [] rSr) = true := by kernel_rfl
def invSi (R : Rho) : Prop := ∃ la lb i k lx ly, R.ρ 0 = .list la ∧ R.ρ 1 = .list lb ∧ R.ρ 2 = .int .i64 i ∧ R.ρ 3 = .int .i64 k ∧ 0 ≤ i ∧ i < la.length ∧ i < lb.length ∧ la.getD i.toNat [] = [.list lx] ∧ lb.getD i.toNat [] = [.list ly] ∧
  (∀ r ∈ lx, IsV r) ∧ (∀ r ∈ ly, IsV r) ∧ lx.length ≤ maxLen ∧ lx.length = ly.length ∧ 0 ≤ k ∧ k ≤ lx.length
noncomputable def muSi (R : Rho) : Nat := match R.ρ 0, R.ρ 2, R.ρ 3 with
  | .list la, .int _ i, .int _ k => (lD (la.getD i.toNat []) 0).length - k.toNat
  | _, _, _ => 0
theorem dSi {R : Rho} (hI : R.I = theI) {la lb : List (List DV)} {i k : Int} {lx ly : List (List DV)} {e : SX} (e0 : R.ρ 0 = .list la) (e1 : R.ρ 1 = .list lb) (e2 : R.ρ 2 = .int .i64 i) (e3 : den R e = .int .i64 k) (hx : la.getD i.toNat [] = [.list lx]) (hy : lb.getD i.toNat [] = [.list ly]) :
    den R (.app 105 [.v 0, .v 1, .v 2, e]) = .bool (eqLs (lx.drop k.toNat) (ly.drop k.toNat)) := by
  rw [d_app, hI]
  simp only [List.map_cons, List.map_nil, den, e0, e1, e2, e3]
  show FeqL2 _ = _
  simp only [FeqL2, lD, iD, List.getD_cons_zero, List.getD_cons_succ, hx, hy]
theorem loopSi : LoopOK Tryz.prog G theI codeSi LSi := by
  refine loop_run (lps := []) (entS_ok (l := []) trivial) noLoops rSi okSi invSi muSi ?_ ?_
  · intro m a w hr hp
    obtain ⟨la, e0, a1, a2⟩ := (head_sy hr (t := 0) (i := 0) (ty := tRows) (by kernel_rfl)).rows
    obtain ⟨lb, e1, b1, b2⟩ := (head_sy hr (t := 1) (i := 1) (ty := tRows) (by kernel_rfl)).rows
    obtain ⟨i, e2, _⟩ := (head_sy hr (t := 14) (i := 2) (ty := tI) (by kernel_rfl)).i64
    obtain ⟨k, e3, _⟩ := (head_sy hr (t := 33) (i := 3) (ty := tI) (by kernel_rfl)).i64
    have p1 := hp (lss (.v 2) (k64 0), false) (by simp [LSi, preSi])
    have p2 := hp (lss (.v 2) (.len (.v 0)), true) (by simp [LSi, preSi])
    have p3 := hp (lss (.v 2) (.len (.v 1)), true) (by simp [LSi, preSi])
    have p4 := hp (eql (.len aR) (.len bR), true) (by simp [LSi, preSi])
    have p5 := hp (eql (.v 3) (k64 0), true) (by simp [LSi, preSi])
    rw [d_lss (d_v e2) (d_k .i64 0)] at p1
    rw [d_lss (d_v e2) (d_lenL (d_v e0))] at p2
    rw [d_lss (d_v e2) (d_lenL (d_v e1))] at p3
    rw [d_eql (d_v e3) (d_k .i64 0)] at p5
    simp only [DV.bool.injEq, decide_eq_true_eq, decide_eq_false_iff_not] at p1 p2 p3 p5
    have h1 : i.toNat < la.length := by omega
    have h2 : i.toNat < lb.length := by omega
    obtain ⟨lx, hx, c1, c2⟩ := a2 _ (List.getElem_mem h1)
    obtain ⟨ly, hy, d1, d2⟩ := b2 _ (List.getElem_mem h2)
    have ga : la.getD i.toNat [] = [.list lx] := by rw [getD_lt h1, hx]
    have gb : lb.getD i.toNat [] = [.list ly] := by rw [getD_lt h2, hy]
    have da : den m.R aR = .list lx := by rw [d_at 0 (d_v e0) (d_v e2), ga]; rfl
    have db : den m.R bR = .list ly := by rw [d_at 0 (d_v e1) (d_v e2), gb]; rfl
    rw [d_eql (d_lenL da) (d_lenL db)] at p4
    simp only [DV.bool.injEq, decide_eq_true_eq] at p4
    exact ⟨la, lb, i, k, lx, ly, e0, e1, e2, e3, by omega, p2, p3, ga, gb, c2, d2, c1, by omega, by omega, by omega⟩
  · rintro R hI ⟨la, lb, i, k, lx, ly, e0, e1, e2, e3, i0, i1, i2, ga, gb, q1, q2, hm, hl, h1, h2⟩
    have hmx := maxLen_lt
    have hcnd : den R LSi.cnd = _ := dSi hI e0 e1 e2 (d_v e3) ga gb
    have da : den R aR = .list lx := by rw [d_at 0 (d_v e0) (d_v e2), ga]; rfl
    have db : den R bR = .list ly := by rw [d_at 0 (d_v e1) (d_v e2), gb]; rfl
    unfold rSi
    refine round_ask (d_lss (d_v e3) (d_lenL da)) (fun hlt => ?_) (fun hge => ?_)
    · simp only [decide_eq_true_eq] at hlt
      have l1 : k.toNat < lx.length := by omega
      have l2 : k.toNat < ly.length := by omega
      have hi1 := d_add (R := R) (d_v e3) (d_k .i64 1) (by omega) (by omega)
      have hs := drop_step l1 l2
      refine round_knows (l := [_, _, _, _, _]) ?_ ?_
      · intro q hq
        simp only [List.mem_cons, List.not_mem_nil, or_false] at hq
        rcases hq with rfl | rfl | rfl | rfl | rfl
        · rw [d_lss (d_v e3) (d_k .i64 0)]; simp; omega
        · rw [d_lss (d_v e2) (d_lenL (d_v e0))]; simp; omega
        · rw [d_lss (d_v e2) (d_k .i64 0)]; simp; omega
        · rw [d_lss (d_v e2) (d_lenL (d_v e1))]; simp; omega
        · rw [d_lss (d_v e3) (d_lenL db)]; simp; omega
      have a : ∀ c, den R (.at aR (.v 3) c) = lx[k.toNat].getD c (.bool false) := fun c => by rw [d_at c da (d_v e3), getD_lt l1]
      have b : ∀ c, den R (.at bR (.v 3) c) = ly[k.toNat].getD c (.bool false) := fun c => by rw [d_at c db (d_v e3), getD_lt l2]
      refine round_ask (d_allV (q1 _ (List.getElem_mem l1)) (q2 _ (List.getElem_mem l2)) (a 0) (a 1) (a 2) (b 0) (b 1) (b 2)) (fun hz => ?_) (fun hz => ?_)
      · have hz : lx[k.toNat] = ly[k.toNat] := by simpa using hz
        have s0 := sub_get R nxSi 0 rfl (d_v e0)
        have s1 := sub_get R nxSi 1 rfl (d_v e1)
        have s2 := sub_get R nxSi 2 rfl (d_v e2)
        have s3 := sub_get R nxSi 3 rfl hi1
        refine ⟨⟨la, lb, i, k + 1, lx, ly, s0, s1, s2, s3, i0, i1, i2, ga, gb, q1, q2, hm, hl, by omega, by omega⟩, ?_, ?_, fun b _ => ?_⟩
        · simp only [muSi, s0, s2, s3, e0, e2, e3, ga, lD, List.getD_cons_zero]
          omega
        · have := dSi (R := R.sub nxSi) hI s0 s1 s2 (d_v s3) ga gb
          rw [hcnd]
          show den (R.sub nxSi) (.app 105 [.v 0, .v 1, .v 2, .v 3]) = _
          rw [this]
          congr 1
          have e : eqLs (lx.drop k.toNat) (ly.drop k.toNat) = eqLs (lx.drop (k.toNat + 1)) (ly.drop (k.toNat + 1)) := by
            unfold eqLs
            rw [decide_eq_decide, hs]
            exact ⟨fun h => h.2, fun h => ⟨hz, h⟩⟩
          rw [e, ← toNat_succ h1]
          rfl
        · cases b
          · rfl
          · show [den (R.sub nxSi) (.v 0), den (R.sub nxSi) (.v 1), den (R.sub nxSi) (.v 2)] = [den R (.v 0), den R (.v 1), den R (.v 2)]
            rw [d_v s0, d_v s1, d_v s2, d_v e0, d_v e1, d_v e2]
      · have hz : ¬ lx[k.toNat] = ly[k.toNat] := by simpa using hz
        refine ⟨?_, rfl⟩
        rw [hcnd]
        congr 1
        unfold eqLs
        rw [decide_eq_false_iff_not, hs]
        exact fun h => hz h.1
    · simp only [decide_eq_false_iff_not] at hge
      refine ⟨?_, rfl⟩
      rw [hcnd, List.drop_eq_nil_of_le (by omega), List.drop_eq_nil_of_le (by omega)]
      simp [eqLs]
theorem lSr : LoopsOK Tryz.prog G theI (lpsOf [(10, LSi)]) codeSr := by
  intro B hB M hM
  have h1 := lpsOf_mem hM
  simp only [List.mem_cons, List.not_mem_nil, or_false, Prod.mk.injEq] at h1
  obtain ⟨_, rfl⟩ := h1
  have hc : loopsIn codeSr = [codeSi] := by kernel_rfl
  rw [hc] at hB
  simp only [List.mem_cons, List.not_mem_nil, or_false] at hB
  rw [hB]
  exact loopSi
theorem loopSr : LoopOK Tryz.prog G theI codeSr LSr := by
  refine loop_run (lps := [(10, LSi)]) (entS_ok (l := []) trivial) lSr rSr okSr (invEq IsR) muRow ?_ ?_
  · intro m a w hr hp
    obtain ⟨la, e0, a1, a2⟩ := (head_sy hr (t := 0) (i := 0) (ty := tRows) (by kernel_rfl)).rows
    obtain ⟨lb, e1, b1, b2⟩ := (head_sy hr (t := 1) (i := 1) (ty := tRows) (by kernel_rfl)).rows
    obtain ⟨i, e2, _⟩ := (head_sy hr (t := 14) (i := 2) (ty := tI) (by kernel_rfl)).i64
    have p1 := hp (eql (.len (.v 0)) (.len (.v 1)), true) (by simp [LSr, preEq])
    have p2 := hp (eql (.v 2) (k64 0), true) (by simp [LSr, preEq])
    rw [d_eql (d_lenL (d_v e0)) (d_lenL (d_v e1))] at p1
    rw [d_eql (d_v e2) (d_k .i64 0)] at p2
    simp only [DV.bool.injEq, decide_eq_true_eq] at p1 p2
    exact ⟨la, lb, i, e0, e1, e2, a2, b2, a1, by omega, by omega, by omega⟩
  · intro R hI hinv
    obtain ⟨la, lb, i, e0, e1, e2, q1, q2, hm, hl, h1, h2⟩ := hinv
    by_cases hlt : i < la.length
    · have l1 : i.toNat < la.length := by omega
      have l2 : i.toNat < lb.length := by omega
      obtain ⟨lx, ly, hx, hy, he⟩ := isR_eq (q1 _ (List.getElem_mem l1)) (q2 _ (List.getElem_mem l2))
      have ga : la.getD i.toNat [] = [.list lx] := by rw [getD_lt l1, hx]
      have gb : lb.getD i.toNat [] = [.list ly] := by rw [getD_lt l2, hy]
      have da : den R aR = .list lx := by rw [d_at 0 (d_v e0) (d_v e2), ga]; rfl
      have db : den R bR = .list ly := by rw [d_at 0 (d_v e1) (d_v e2), gb]; rfl
      have ht := dSi (e := k64 0) hI e0 e1 e2 (d_k .i64 0) ga gb
      -- the whole round by that of one condition
      have key : ∀ R : Rho, R.I = theI → invEq IsR R → goalRound LSr (invEq IsR) muRow R (rEq eqF nxEq) := goalEq rfl rfl rfl eqF_den
      have hk := key R hI ⟨la, lb, i, e0, e1, e2, q1, q2, hm, hl, h1, h2⟩
      have hF := eqF_den R la lb i hI e0 e1 e2 h1 l1 l2 (q1 _ (List.getElem_mem l1)) (q2 _ (List.getElem_mem l2))
      have hask : den R (lss (.v 2) (.len (.v 0))) = .bool true := by rw [d_lss (d_v e2) (d_lenL (d_v e0))]; simp; omega
      obtain ⟨_, hT, _⟩ := hk
      obtain ⟨f1, f2, _, hT2, hT3⟩ := hT hask
      refine round_ask hask (fun _ => ⟨f1, f2, ?_⟩) (fun h => by cases h)
      refine round_ask (d_eql (d_lenL da) (d_lenL db)) (fun hz => ?_) (fun hz => ?_)
      · refine round_ask ht (fun hz => hT2 ?_) (fun hz => hT3 ?_)
        · rw [hF, ← he]; exact congrArg DV.bool hz
        · rw [hF, ← he]; exact congrArg DV.bool hz
      · refine hT3 ?_
        rw [hF, ← he]
        congr 1
        unfold eqLs
        rw [decide_eq_false_iff_not]
        rintro rfl
        simp at hz
    · refine round_ask (b := false) (by rw [d_lss (d_v e2) (d_lenL (d_v e0))]; simp; omega) (fun h => by cases h) (fun _ => ?_)
      refine ⟨?_, rfl⟩
      have hcnd := dEq hI e0 e1 e2
      show den R cEq = _
      rw [hcnd, List.drop_eq_nil_of_le (by omega), List.drop_eq_nil_of_le (by omega)]
      simp [eqLs]
theorem kSr : (hasB 28 && checkPlan [.one .bool] (runI theI (entS []) [(5, LSr)] [] 28 [.one tRows, .one tRows]) [] pEq) = true := by kernel_rfl
theorem fnSr : FnOK Tryz.prog G 28 [.one tRows, .one tRows] [.one .bool] (fun _ => True) Feq := by
  have hk := kSr
  rw [Bool.and_eq_true] at hk
  refine fn_run (entS_ok (l := []) trivial) [(5, LSr)] _ (loops1 (by kernel_rfl) loopSr) hk.1 pEq hk.2 ?_
  intro ds h _
  simp only [IsArgs, IsOne] at h
  obtain ⟨_, _, rfl, ⟨d, rfl, hd⟩, _, _, rfl, ⟨e, rfl, he⟩, rfl⟩ := h
  obtain ⟨la, rfl, _⟩ := hd.rows
  obtain ⟨lb, rfl, _⟩ := he.rows
  exact goal_eq rfl rfl rfl
noncomputable def eSr : Ent := eFn 28 [.one tRows, .one tRows] [.one .bool] [] 4
theorem eSr_ok : EntsOK Tryz.prog G theI [eSr] := ⟨eFn_ok plainG (pre_true fnSr) (fun _ => rfl) [] (by kernel_rfl), trivial⟩
end Go.Proofs.YtbhfnmeojhpgbaaGreatDoor
